/- Draws for the law of Farey's tree: paths, spoilt or not. -/
import Derived.Test.YtjnkogkpdbgohaaGreatDoorM13A
import Derived.Test.YtjnkogkpdbgohaaGreatDoorMb
import Derived.Test.YtjnkogkpdbgohaaGreatDoorM9
namespace Go.Proofs.YtjnkogkpdbgohaaGreatDoor
open Go.RowKit
theorem own_turn {w w' : World} {B b z n : Nat} {E : TypeId} {v : Value} {xs : List Value} (h : w.ownsRow B E z v n xs) (hg : w.grownBy w' (some b)) (hb : b < B) : w'.ownsRow B E z v n xs := by
  refine h.kept hg ?_
  cases hv : v.ownBlock with
  | none => exact .inl rfl
  | some k => exact .inr fun e => by have := own_ge h hv; injection e with e; omega
theorem InS.belowG {n b B : Nat} {w0 w w' : World} (h : InS n b w0 w) (hb : Below B w w') (hB : w0.heap.size ≤ B) : InS n b w0 w' := by
  have hold := h.old
  obtain ⟨a, len, cap, j, hh, h3, h4, h5, h6, h7, h8⟩ := h.src
  have hblk : w'.heap[b]? = w.heap[b]? := hb.block b (by omega)
  exact ⟨⟨a, len, cap, j, hh, hblk.trans h3, h4, h5, h6, h7, h8.below (hb.mono (by omega))⟩,
    ⟨hb.os.trans h.grown.os, hb.tape.trans h.grown.tape, hb.output.trans h.grown.output, Nat.le_trans h.grown.size hb.size, fun k hk hkb => (hb.block k (by omega)).trans (h.grown.block k hk hkb)⟩, hold⟩
def RetStr (m : Nat) (e : Ending) : Prop := ∃ s : ByteArray, e = .returned (.string s) ∧ s.size ≤ m
theorem dam_cell {j : Nat} (h : j < 10) : ∃ c : ByteArray, (#[Value.string ⟨#[48]⟩, Value.string ⟨#[49]⟩, Value.string ⟨#[50]⟩, Value.string ⟨#[57]⟩, Value.string ⟨#[44]⟩, Value.string ⟨#[47]⟩, Value.string ⟨#[45]⟩, Value.string ⟨#[32]⟩, Value.string ⟨#[120]⟩, Value.string ⟨#[10]⟩] : Array Value)[j]? = some (.string c) ∧ c.size = 1 := by
  match j, h with
  | 0, _ => exact ⟨⟨#[48]⟩, rfl, rfl⟩
  | 1, _ => exact ⟨⟨#[49]⟩, rfl, rfl⟩
  | 2, _ => exact ⟨⟨#[50]⟩, rfl, rfl⟩
  | 3, _ => exact ⟨⟨#[57]⟩, rfl, rfl⟩
  | 4, _ => exact ⟨⟨#[44]⟩, rfl, rfl⟩
  | 5, _ => exact ⟨⟨#[47]⟩, rfl, rfl⟩
  | 6, _ => exact ⟨⟨#[45]⟩, rfl, rfl⟩
  | 7, _ => exact ⟨⟨#[32]⟩, rfl, rfl⟩
  | 8, _ => exact ⟨⟨#[120]⟩, rfl, rfl⟩
  | 9, _ => exact ⟨⟨#[10]⟩, rfl, rfl⟩
  | k + 10, h => omega
set_option maxRecDepth 1000000 in
set_option maxHeartbeats 8000000 in
theorem l01Damage_any (n b : Nat) (s : ByteArray) (w : World) (hs : s.size ≤ 1000) (hS : Src w n b) :
    Calls Tryz.prog 59 #[.pointer (some ⟨b, 0, none⟩), .string s] w fun e w' => RetStr 2000 e ∧ Src w' n b ∧ w.grownBy w' (some b) := by
  have I := Lib.hid ((InS.start hS).alloc (.cells #[Value.string ⟨#[48]⟩, Value.string ⟨#[49]⟩, Value.string ⟨#[50]⟩, Value.string ⟨#[57]⟩, Value.string ⟨#[44]⟩, Value.string ⟨#[47]⟩, Value.string ⟨#[45]⟩, Value.string ⟨#[32]⟩, Value.string ⟨#[120]⟩, Value.string ⟨#[10]⟩] 9))
  have hbl : b < w.heap.size := hS.lt
  have hbn : w.heap.size ≠ b := by omega
  have HBk := Lib.hid (show (w.alloc (.cells #[Value.string ⟨#[48]⟩, Value.string ⟨#[49]⟩, Value.string ⟨#[50]⟩, Value.string ⟨#[57]⟩, Value.string ⟨#[44]⟩, Value.string ⟨#[47]⟩, Value.string ⟨#[45]⟩, Value.string ⟨#[32]⟩, Value.string ⟨#[120]⟩, Value.string ⟨#[10]⟩] 9)).heap[w.heap.size]? = some (.cells #[Value.string ⟨#[48]⟩, Value.string ⟨#[49]⟩, Value.string ⟨#[50]⟩, Value.string ⟨#[57]⟩, Value.string ⟨#[44]⟩, Value.string ⟨#[47]⟩, Value.string ⟨#[45]⟩, Value.string ⟨#[32]⟩, Value.string ⟨#[120]⟩, Value.string ⟨#[10]⟩] 9 (0, 0)) from heap_new)
  clear hS
  go_enter Tryz.func59, Tryz.ntmps59
  go_wp2_with fail
  refine (l01Next_any n b 10 _ (by omega) I.out.src).mono ?_; rintro e w2 ⟨x, rfl, hx, hs2, hg2⟩
  replace I := Lib.hid (I.out.turn hs2 hg2)
  obtain ⟨j, rfl⟩ := Int.eq_ofNat_of_zero_le hx.1
  have hj : j < 10 := by omega
  have hj2 : (j : Int) < 10 := by omega
  obtain ⟨c, hc, hc1⟩ := dam_cell hj
  have hcj : w2.cell? ⟨w.heap.size, j, none⟩ = some (.string c) := by rw [cell_of_blk (blk_keep HBk.out hg2 hbn) j]; exact hc
  clear HBk hs2 hg2 hc hx
  by_cases h0 : s.size = 0
  · have h0' : ((s.size : Int) == 0) = true := by simp [h0]
    go_wp2_with fail
    go_ret
    exact ⟨⟨c, rfl, by omega⟩, I.out.src, I.out.grown⟩
  · have h0' : ((s.size : Int) == 0) = false := beq_eq_false_iff_ne.2 (by omega)
    go_wp2_with fail
    refine (l01Next_any n b (s.size : Int) _ (by omega) I.out.src).mono ?_; rintro e w3 ⟨y, rfl, hy, hs2, hg2⟩
    replace I := Lib.hid (I.out.turn hs2 hg2)
    obtain ⟨k, rfl⟩ := Int.eq_ofNat_of_zero_le hy.1
    have hk : k < s.size := by omega
    have hk2 : (k : Int) < (s.size : Int) := by omega
    clear hs2 hg2 hy hcj
    go_wp2_with fail
    refine (l01Next_any n b 3 _ (by omega) I.out.src).mono ?_; rintro e w4 ⟨z, rfl, -, hs2, hg2⟩
    replace I := Lib.hid (I.out.turn hs2 hg2)
    clear hs2 hg2
    by_cases z0 : z = 0
    · subst z0
      go_wp2_with fail
      go_big_region
      go_wp2_with fail
      go_ret
      exact ⟨⟨s.extract 0 k ++ c ++ s.extract (k + 1) s.size, rfl, by simp only [ByteArray.size_append, ByteArray.size_extract]; omega⟩, I.out.drew.src, I.out.drew.grown⟩
    have z0' : (z == 0) = false := by simpa using z0
    by_cases z1 : z = 1
    · subst z1
      go_wp2_with fail
      go_big_region
      go_wp2_with fail
      go_ret
      exact ⟨⟨s.extract 0 k ++ s.extract (k + 1) s.size, rfl, by simp only [ByteArray.size_append, ByteArray.size_extract]; omega⟩, I.out.drew.src, I.out.drew.grown⟩
    · have z1' : (z == 1) = false := by simpa using z1
      go_wp2_with fail
      go_big_region
      go_wp2_with fail
      go_ret
      exact ⟨⟨s.extract 0 k ++ c ++ s.extract k s.size, rfl, by simp only [ByteArray.size_append, ByteArray.size_extract]; omega⟩, I.out.drew.src, I.out.drew.grown⟩
set_option maxRecDepth 1000000 in
set_option maxHeartbeats 8000000 in
theorem DrawFractionOfPath_any (a : Option Addr) (len cap : Nat) (w : World) (hl : len ≤ 1152921504606846976) (hb : Bytes w w.heap.size a len) :
    Calls Tryz.prog 23 #[.slice a len cap] w fun e w' => RetStr 2000 e ∧ Below w.heap.size w w' := by
  have HF := Lib.hid (l01From_any a len cap w hl hb)
  clear hb
  go_enter Tryz.func23, Tryz.ntmps23
  go_wp2_with fail
  refine (HF.out).mono ?_; rintro e w1 ⟨b, rfl, hs1, hb1⟩
  have HB1 := Lib.hid hb1
  have I := Lib.hid (InS.start hs1)
  have hbn : w.heap.size ≤ b := hs1.ge
  have hbw : b < w1.heap.size := hs1.lt
  have hww : w.heap.size ≤ w1.heap.size := hb1.size
  generalize hnn : w.heap.size = n at *
  have O := Lib.hid (show (w1.alloc (.cells #[] 5)).ownsRow w1.heap.size 5 1 (.slice (some ⟨w1.heap.size, 0, none⟩) 0 0) ([] : List Bool).length (lrV []) from World.ownsRow_lit w1 #[] 0 (Nat.le_refl _) (by simp [maxLen]) rfl)
  replace I := Lib.hid (I.out.alloc (.cells #[] 5))
  have HN := Lib.hid hnn
  clear HF hs1 hb1 hnn
  go_upto_region 3 with (fail)
  have hg5 : w1.heap.size ≤ (w1.alloc (.cells #[] 5)).heap.size := by simp
  generalize w1.alloc (.cells #[] 5) = W at *
  go_wp2_with fail
  refine (pick_lit [4, 10, 41] rfl I.out.src rfl (by simp) (by simp)).mono ?_; rintro e w2 ⟨x, rfl, hx, hs, hg9⟩
  replace I := Lib.hid (I.out.turn hs hg9)
  have hx2 : 4 ≤ x ∧ x ≤ 41 := by simp at hx; omega
  clear hs hx
  replace O := Lib.hid (own_turn O.out hg9 hbw)
  clear hg9
  go_wp2_with fail
  refine (l01Next_any n b x _ (by omega) I.out.src).mono ?_; rintro e w3 ⟨y, rfl, hy, hs, hg9⟩
  replace I := Lib.hid (I.out.turn hs hg9)
  have hy2 : 0 ≤ y ∧ y ≤ 41 := by omega
  clear hs hy
  replace O := Lib.hid (own_turn O.out hg9 hbw)
  clear hg9 hx2
  go_wp2_with fail
  go_loopw [4, 5] (fun v m wr => ∃ (l : List Bool) (u : Int), m = (.int .i64 u) ∧ 0 ≤ u ∧ u + (l.length : Int) ≤ 41 ∧ Hid (wr.ownsRow w1.heap.size 5 1 v l.length (lrV l)) ∧ Hid (InS n b w1 wr)) (fun _ m _ => (intOf m).toNat)
  case atStart => exact ⟨[], y, rfl, hy2.1, by simpa using hy2.2, O, I⟩
  case round =>
    clear O I
    obtain ⟨l, u, rfl, hu0, hu1, O, I⟩ := hrel
    by_cases hlt : 0 < u
    · go_wp2_with fail
      refine (l01Next_any n b 2 _ (by omega) I.out.src).mono ?_; rintro e w4 ⟨k, rfl, hk, hs, hg9⟩
      replace I := Lib.hid (I.out.turn hs hg9)
      clear hs
      replace O := Lib.hid (own_turn O.out hg9 hbw)
      clear hg9
      have hsz := I.out.size
      have hll : l.length ≤ 1000 := by omega
      rcases (show k = 0 ∨ k = 1 by omega) with rfl | rfl
      · go_wp2_with (at_builtin; refine app_one (w0 := w4) (B := w1.heap.size) elBy rfl _ _ rfl rfl rfl (by simp) O.out (Below.refl _ _) rfl (by intro u hu; simp at hu; subst hu; rfl) hsz (by omega) ?_; intro v' w5 ho5 hb5 hg5')
        have HO5 := Lib.hid ho5
        have I5 := Lib.hid (I.out.belowG hb5 (Nat.le_refl _))
        clear ho5 hb5 hg5'
        go_roundw
        case rel => exact ⟨l ++ [true], u - 1, rfl, by omega, by simp; omega, Lib.hid (by rw [lrV_snoc, List.length_append]; exact HO5.out), I5⟩
        case measure => simp [intOf]; omega
      · go_wp2_with (at_builtin; refine app_one (w0 := w4) (B := w1.heap.size) elBy rfl _ _ rfl rfl rfl (by simp) O.out (Below.refl _ _) rfl (by intro u hu; simp at hu; subst hu; rfl) hsz (by omega) ?_; intro v' w5 ho5 hb5 hg5')
        have HO5 := Lib.hid ho5
        have I5 := Lib.hid (I.out.belowG hb5 (Nat.le_refl _))
        clear ho5 hb5 hg5'
        go_roundw
        case rel => exact ⟨l ++ [false], u - 1, rfl, by omega, by simp; omega, Lib.hid (by rw [lrV_snoc, List.length_append]; exact HO5.out), I5⟩
        case measure => simp [intOf]; omega
    · have hcv := conv_own O.out
      obtain ⟨s, he, hn⟩ := lrS_str l
      rw [he] at hcv
      have hs : s.size ≤ 1000 := by omega
      clear he hn O
      go_wp2_with fail
      refine (l01Next_any n b 12 _ (by omega) I.out.src).mono ?_; rintro e w4 ⟨k, rfl, -, hs9, hg9⟩
      replace I := Lib.hid (I.out.turn hs9 hg9)
      clear hs9 hg9 hcv
      by_cases k0 : k = 0
      · subst k0
        go_wp2_with fail
        refine (l01Damage_any n b s _ hs I.out.src).mono ?_; rintro e w5 ⟨⟨s', rfl, hs'⟩, hs9, hg9⟩
        replace I := Lib.hid (I.out.turn hs9 hg9)
        clear hs9 hg9
        go_wp2_with fail
        go_ret
        exact ⟨⟨s', rfl, hs'⟩, by rw [HN.out]; exact HB1.out.trans (I.out.belowN (m := n) hbn)⟩
      · have k0' : (k == 0) = false := by simpa using k0
        go_wp2_with fail
        go_ret
        exact ⟨⟨s, rfl, by omega⟩, by rw [HN.out]; exact HB1.out.trans (I.out.belowN (m := n) hbn)⟩
end Go.Proofs.YtjnkogkpdbgohaaGreatDoor
