/- The source of draws: its block, and the contracts of its functions. -/
import Derived.Test.YtjnkogkpdbgohaaRow
import Derived.Test.YtjnkogkpdbgohaaC9
import Derived.Laws.Bits64b
namespace Go.Proofs.Ytjnkogkpdbgohaa
open Go.RowKit
/-- The bytes of a code that lie below n. -/
def Bytes (w : World) (n : Nat) (a : Option Addr) (len : Nat) : Prop :=
  0 < len → ∃ b o : Nat, a = some ⟨b, o, none⟩ ∧ b < n ∧ b < w.heap.size ∧ ∀ i < len, ∃ v : Nat, v < 256 ∧ w.cell? ⟨b, o + i, none⟩ = some (.int .u8 v)
theorem Bytes.below {w w' : World} {n len : Nat} {a : Option Addr} (h : Bytes w n a len) (hb : Below n w w') : Bytes w' n a len := fun hl => by
  obtain ⟨b, o, ha, hn, hw, hc⟩ := h hl
  refine ⟨b, o, ha, hn, Nat.lt_of_lt_of_le hw hb.size, fun i hi => ?_⟩
  obtain ⟨v, hv, hc⟩ := hc i hi
  exact ⟨v, hv, (hb.cell (p := ⟨b, o + i, none⟩) hn).trans hc⟩
/-- Block b holds a source whose code lies below n. -/
def Src (w : World) (n b : Nat) : Prop := ∃ (a : Option Addr) (len cap j h : Nat),
  w.heap[b]? = some (.cells #[.slice a len cap, .int .i64 j, .int .u64 h] 78 (0, 0)) ∧ n ≤ b ∧ len ≤ 1152921504606846976 ∧ j ≤ len ∧ h < 18446744073709551616 ∧ Bytes w n a len
theorem Src.lt {w : World} {n b : Nat} (h : Src w n b) : b < w.heap.size := by obtain ⟨_, _, _, _, _, h, _⟩ := h; exact lt_of_blk h
theorem Src.ge {w : World} {n b : Nat} (h : Src w n b) : n ≤ b := by obtain ⟨_, _, _, _, _, _, h, _⟩ := h; exact h
theorem Src.keep {w w' : World} {n b : Nat} (h : Src w n b) (hb : Below w.heap.size w w') : Src w' n b := by
  have h1 := h.lt; have h2 := h.ge
  obtain ⟨a, len, cap, j, h, h3, h4, h5, h6, h7, h8⟩ := h
  exact ⟨a, len, cap, j, h, heap_below h3 hb, h4, h5, h6, h7, h8.below (hb.mono (by omega))⟩
theorem below_src {w w' : World} {n b : Nat} (h : Src w n b) (hg : w.grownBy w' (some b)) {m : Nat} (hm : m ≤ b) : Below m w w' :=
  (Below.refl m w).grown hg (by have := h.lt; omega) (fun k hk => by injection hk with hk; omega)
theorem and24 {X : Nat} (h : X < 18446744073709551616) : ∃ x : Nat, bits .and .u64 ((X : Int) / 8589934592) 16777215 = (x : Int) ∧ x ≤ 16777215 := by
  refine ⟨(X / 8589934592) &&& 16777215, ?_, Nat.and_le_right⟩
  rw [show ((X : Int) / 8589934592) = ((X / 8589934592 : Nat) : Int) by omega]
  exact bits_and_u64_nat _ 16777215 (by omega) (by omega)
set_option maxRecDepth 100000 in
theorem l01Next_any (n b : Nat) (m : Int) (w : World) (hm : -9223372036854775808 ≤ m ∧ m ≤ 9223372036854775807) (hs : Src w n b) :
    Calls Try.prog 37 #[.pointer (some ⟨b, 0, none⟩), (.int .i64 m)] w fun e w' => ∃ x : Int, e = .returned (.int .i64 x) ∧ (0 ≤ x ∧ (x = 0 ∨ x < m)) ∧ Src w' n b ∧ w.grownBy w' (some b) := by
  obtain ⟨a, len, cap, j, h, hb, h4, h5, h6, h7, h8⟩ := hs
  by_cases hm1 : m < 1
  · go_enter Try.func37, Try.ntmps37
    go_wp2
    go_ret
    exact ⟨0, rfl, ⟨by omega, .inl rfl⟩, ⟨a, len, cap, j, h, hb, h4, h5, h6, h7, h8⟩, grown_refl' _ _⟩
  · have hbw := lt_of_blk hb
    have c0 := cell_of_blk hb 0
    have c1 := cell_of_blk hb 1
    have c2 := cell_of_blk hb 2
    have f0 := frozen_of_blk hb 0
    have f1 := frozen_of_blk hb 1
    have f2 := frozen_of_blk hb 2
    simp at c0 c1 c2
    obtain ⟨X, hX, hX2⟩ : ∃ X : Nat, IntKind.u64.wrap (IntKind.u64.wrap ((h : Int) * 6364136223846793005) + 1442695040888963407) = (X : Int) ∧ X < 18446744073709551616 := by
      rw [IntKind.wrap_u64, IntKind.wrap_u64]
      exact ⟨((h * 6364136223846793005 % 18446744073709551616 + 1442695040888963407) % 18446744073709551616), by omega, by omega⟩
    obtain ⟨x, hx, hx2⟩ := and24 hX2
    have hs1 := heap_set_same (o := 2) (v := .int .u64 (X : Int)) hb
    have hg1 : w.grownBy (w.setCell ⟨b, 2, none⟩ (.int .u64 (X : Int))) (some b) := grown_set
    simp at hs1
    by_cases hj : j < len
    · obtain ⟨cb, co, rfl, hcb, hcw, hcell⟩ := h8 (by omega)
      obtain ⟨v, hv, hcv⟩ := hcell j hj
      have hne : cb ≠ b := by omega
      have hj2 : (j : Int) < (len : Int) := by omega
      go_enter Try.func37, Try.ntmps37
      go_wp2
      go_region
      all_goals go_wp2
      all_goals go_region
      all_goals go_wp2
      all_goals (
        have hs2 := heap_set_same (o := 1) (v := .int .i64 ((j : Int) + 1)) hs1
        have hg2 := grown_trans' hg1 (grown_set (b := b) (j := 1) (u := .int .i64 ((j : Int) + 1)))
        simp at hs2
        go_ret
        refine ⟨_, rfl, ⟨Int.emod_nonneg _ (by omega), .inr (Int.emod_lt_of_pos _ (by omega))⟩, ?_, grown_drewN' hg2 2⟩
        exact ⟨_, len, cap, j + 1, X, hs2, h4, h5, by omega, hX2, h8.below ((Below.refl n w).grown (grown_drewN' hg2 2) (by omega) (fun k hk => by injection hk with hk; omega))⟩)
    · have hj2 : ¬ (j : Int) < (len : Int) := by omega
      go_enter Try.func37, Try.ntmps37
      go_wp2
      go_region
      all_goals go_wp2
      all_goals (
        go_ret
        refine ⟨_, rfl, ⟨Int.emod_nonneg _ (by omega), .inr (Int.emod_lt_of_pos _ (by omega))⟩, ?_, grown_drewN' hg1 1⟩
        exact ⟨_, len, cap, j, X, hs1, h4, h5, h6, hX2, h8.below ((Below.refl n w).grown (grown_drewN' hg1 1) (by omega) (fun k hk => by injection hk with hk; omega))⟩)
theorem hash_wrap (y : Int) : ∃ X : Nat, IntKind.u64.wrap y = (X : Int) ∧ X < 18446744073709551616 := by
  rw [IntKind.wrap_u64]
  exact ⟨(y % 18446744073709551616).toNat, by omega, by omega⟩
set_option maxRecDepth 100000 in
theorem l01From_any (a : Option Addr) (len cap : Nat) (w : World) (hl : len ≤ 1152921504606846976) (hb : Bytes w w.heap.size a len) :
    Calls Try.prog 35 #[.slice a len cap] w fun e w' => ∃ b : Nat, e = .returned (.pointer (some ⟨b, 0, none⟩)) ∧ Src w' w.heap.size b ∧ Below w.heap.size w w' := by
  obtain ⟨H, hH, hH2⟩ : ∃ H : Nat, (13801 + (len : Int)) = (H : Int) ∧ H < 18446744073709551616 := ⟨13801 + len, by omega, by omega⟩
  go_enter Try.func35, Try.ntmps35
  go_wp2
  go_loopw [4] (fun i wr => ∃ j h : Nat, i = (.int .i64 ((j : Int))) ∧ j ≤ len ∧ h < 18446744073709551616 ∧ wr.heap[w.heap.size]? = some (.cells #[.slice a len cap, .int .i64 0, .int .u64 h] 78 (0, 0)) ∧ Below w.heap.size w wr) (fun i _ => len - (intOf i).toNat)
  case atStart => exact ⟨0, H, rfl, Nat.zero_le _, hH2, heap_new, by go_grown⟩
  case round =>
    obtain ⟨j, h, rfl, hj, hh, hblk, hbel⟩ := hrel
    by_cases hlt : j < len
    · by_cases h4 : j < 4096
      · obtain ⟨cb, co, rfl, hcb, hcw, hcell⟩ := hb (by omega)
        obtain ⟨v, hv, hcv0⟩ := hcell j hlt
        have hcv := (hbel.cell (p := ⟨cb, co + j, none⟩) hcb).trans hcv0
        clear hcv0
        have hne : cb ≠ w.heap.size := by omega
        have c2 := cell_of_blk hblk 2
        have f2 := frozen_of_blk hblk 2
        simp at c2
        have hlt2 : (j : Int) < (len : Int) := by omega
        have h42 : (j : Int) < 4096 := by omega
        have hj1 : IntKind.i64.wrap ((j : Int) + 1) = (j : Int) + 1 := IntWalk.i64_in _ (by omega)
        obtain ⟨X, hX, hX2⟩ : ∃ X : Nat, IntKind.u64.wrap (IntKind.u64.wrap (IntKind.u64.wrap ((h : Int) * 1099511628211) + (v : Int)) + 227) = (X : Int) ∧ X < 18446744073709551616 := by
          exact hash_wrap _
        clear hH hb hcell
        go_wp2_with fail
        go_region
        all_goals go_wp2
        all_goals (
          have hs2 := heap_set_same (o := 2) (v := .int .u64 (X : Int)) hblk
          simp at hs2
          exact ⟨⟨j + 1, X, rfl, by omega, hX2, hs2, (hbel.setCell (p := ⟨w.heap.size, 2, none⟩) (Nat.le_refl _) _).drew⟩, by simp [intOf]; omega⟩)
      · have hlt2 : (j : Int) < (len : Int) := by omega
        have h42 : ¬ (j : Int) < 4096 := by omega
        clear hH
        go_wp2_with fail
        go_ret
        exact ⟨w.heap.size, rfl, ⟨a, len, cap, 0, h, hblk, Nat.le_refl _, hl, Nat.zero_le _, hh, hb.below hbel⟩, hbel⟩
    · have hlt2 : ¬ (j : Int) < (len : Int) := by omega
      clear hH
      go_wp2_with fail
      go_ret
      exact ⟨w.heap.size, rfl, ⟨a, len, cap, 0, h, hblk, Nat.le_refl _, hl, Nat.zero_le _, hh, hb.below hbel⟩, hbel⟩
theorem getD_in {xs : List Int} {j : Nat} (h : j < xs.length) : xs.getD j 0 ∈ xs := by simp [List.getD, List.getElem?_eq_getElem h]
set_option maxRecDepth 100000 in
theorem l01Pick_any (n b : Nat) (xs : List Int) (g k cap : Nat) (w : World) (hk : xs.length = k) (hk0 : 0 < k) (hk1 : k ≤ 1000) (hg : g ≠ b) (hgl : g < w.heap.size) (hc : ∀ j, j < k → w.cell? ⟨g, j, none⟩ = some (.int .i64 (xs.getD j 0))) (hs : Src w n b) :
    Calls Try.prog 50 #[.pointer (some ⟨b, 0, none⟩), .slice (some ⟨g, 0, none⟩) k cap] w fun e w' => ∃ x : Int, e = .returned (.int .i64 x) ∧ x ∈ xs ∧ Src w' n b ∧ w.grownBy w' (some b) := by
  have HN := Lib.hid (fun W => l01Next_any n b (k : Int) W (by omega))
  have HS := Lib.hid hs
  clear hs
  go_enter Try.func50, Try.ntmps50
  go_wp2_with fail
  refine (HN.out _ HS.out).mono ?_; rintro e w1 ⟨x, rfl, hx, hs1, hg1⟩
  obtain ⟨j, rfl⟩ := Int.eq_ofNat_of_zero_le hx.1
  have hj : j < k := by omega
  have hblk := hg1.block g hgl (fun e => hg (by injection e))
  have hcj := (World.cell?_of_block (a := ⟨g, j, none⟩) hblk).trans (hc j hj)
  have hjk : (j : Int) < (k : Int) := by omega
  have HM := Lib.hid (getD_in (xs := xs) (j := j) (by omega))
  generalize xs.getD j 0 = y at *
  clear hc hblk HN HS
  go_wp2_with fail
  go_ret
  exact ⟨y, rfl, HM.out, hs1, hg1⟩
/-- A new row of numbers lies in its block. -/
theorem lit_cells {w : World} {cs : Array Value} {t : TypeId} {xs : List Int} (h : cs.toList = ints xs) : ∀ j, j < xs.length → (w.alloc (.cells cs t)).cell? ⟨w.heap.size, j, none⟩ = some (.int .i64 (xs.getD j 0)) := fun j hj => by
  rw [cell_of_blk (heap_new (w := w)) j, ← Array.getElem?_toList, h]
  exact ints_at hj
theorem pick_lit {n b : Nat} (xs : List Int) {k cap : Nat} {w : World} {cs : Array Value} {t : TypeId} (h : cs.toList = ints xs) (hs : Src w n b) (hk : xs.length = k) (hk0 : 0 < k) (hk1 : k ≤ 1000) :
    Calls Try.prog 50 #[.pointer (some ⟨b, 0, none⟩), .slice (some ⟨w.heap.size, 0, none⟩) k cap] (w.alloc (.cells cs t)) fun e w' => ∃ x : Int, e = .returned (.int .i64 x) ∧ x ∈ xs ∧ Src w' n b ∧ w.grownBy w' (some b) := by
  subst hk
  have hl := hs.lt
  refine (l01Pick_any n b xs w.heap.size xs.length cap (w.alloc (.cells cs t)) rfl hk0 hk1 (by omega) (by simp) (lit_cells h) (hs.keep ((Below.refl _ w).alloc (Nat.le_refl _) _))).mono ?_
  rintro e w' ⟨x, he, hx, hs', hg⟩
  exact ⟨x, he, hx, hs', grown_trans' (World.grownBy_alloc w _ _) hg⟩
end Go.Proofs.Ytjnkogkpdbgohaa
