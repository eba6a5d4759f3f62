/- The source of draws: its block, and the contracts of its functions. -/
import Derived.Test.YtjnkogkpdbgohaaGreatDoorRow
import Derived.Test.YtjnkogkpdbgohaaGreatDoorCa
import Derived.Laws.Bits64b
import Derived.Deep.RegionHeld3
import Derived.Test.YtjnkogkpdbgohaaGreatDoorC30
namespace Go.Proofs.YtjnkogkpdbgohaaGreatDoor
open Go.RowKit
/-- The bytes of a code that lie below n. -/
def Bytes (w : World) (n : Nat) (a : Option Addr) (len : Nat) : Prop :=
  0 < len → ∃ b o : Nat, a = some ⟨b, o, none⟩ ∧ b < n ∧ b < w.heap.size ∧ ∀ i < len, ∃ v : Nat, v < 256 ∧ w.cell? ⟨b, o + i, none⟩ = some (.int .u8 v)
theorem Bytes.below {w w' : World} {n len : Nat} {a : Option Addr} (h : Bytes w n a len) (hb : Below n w w') : Bytes w' n a len := fun hl => by
  obtain ⟨b, o, ha, hn, hw, hc⟩ := h hl
  refine ⟨b, o, ha, hn, Nat.lt_of_lt_of_le hw hb.size, fun i hi => ?_⟩
  obtain ⟨v, hv, hc⟩ := hc i hi
  exact ⟨v, hv, (hb.cell (p := ⟨b, o + i, none⟩) hn).trans hc⟩
/-- Block b holds a source whose code lies below n. -/
def Src (w : World) (n b : Nat) : Prop := ∃ (a : Option Addr) (len cap j h : Nat),
  w.heap[b]? = some (.cells #[.slice a len cap, .int .i64 j, .int .u64 h] 82 (0, 0)) ∧ n ≤ b ∧ len ≤ 1152921504606846976 ∧ j ≤ len ∧ h < 18446744073709551616 ∧ Bytes w n a len
theorem Src.lt {w : World} {n b : Nat} (h : Src w n b) : b < w.heap.size := by obtain ⟨_, _, _, _, _, h, _⟩ := h; exact lt_of_blk h
theorem Src.ge {w : World} {n b : Nat} (h : Src w n b) : n ≤ b := by obtain ⟨_, _, _, _, _, _, h, _⟩ := h; exact h
theorem Src.keep {w w' : World} {n b : Nat} (h : Src w n b) (hb : Below w.heap.size w w') : Src w' n b := by
  have h1 := h.lt; have h2 := h.ge
  obtain ⟨a, len, cap, j, h, h3, h4, h5, h6, h7, h8⟩ := h
  exact ⟨a, len, cap, j, h, heap_below h3 hb, h4, h5, h6, h7, h8.below (hb.mono (by omega))⟩
theorem below_src {w w' : World} {n b : Nat} (h : Src w n b) (hg : w.grownBy w' (some b)) {m : Nat} (hm : m ≤ b) : Below m w w' :=
  (Below.refl m w).grown hg (by have := h.lt; omega) (fun k hk => by injection hk with hk; omega)
theorem and24 {X : Nat} (h : X < 18446744073709551616) : ∃ x : Nat, bits .and .u64 ((X : Int) / 8589934592) 16777215 = (x : Int) ∧ x ≤ 16777215 := by
  refine ⟨(X / 8589934592) &&& 16777215, ?_, Nat.and_le_right⟩
  rw [show ((X : Int) / 8589934592) = ((X / 8589934592 : Nat) : Int) by omega]
  exact bits_and_u64_nat _ 16777215 (by omega) (by omega)
set_option maxRecDepth 100000 in
theorem l01Next_any (n b : Nat) (m : Int) (w : World) (hm : -9223372036854775808 ≤ m ∧ m ≤ 9223372036854775807) (hs : Src w n b) :
    Calls Tryz.prog 57 #[.pointer (some ⟨b, 0, none⟩), (.int .i64 m)] w fun e w' => ∃ x : Int, e = .returned (.int .i64 x) ∧ (0 ≤ x ∧ (x = 0 ∨ x < m)) ∧ Src w' n b ∧ w.grownBy w' (some b) := by
  obtain ⟨a, len, cap, j, h, hb, h4, h5, h6, h7, h8⟩ := hs
  by_cases hm1 : m < 1
  · go_enter Tryz.func57, Tryz.ntmps57
    go_wp2
    go_ret
    exact ⟨0, rfl, ⟨by omega, .inl rfl⟩, ⟨a, len, cap, j, h, hb, h4, h5, h6, h7, h8⟩, grown_refl' _ _⟩
  · have hbw := lt_of_blk hb
    have c0 := cell_of_blk hb 0
    have c1 := cell_of_blk hb 1
    have c2 := cell_of_blk hb 2
    have f0 := frozen_of_blk hb 0
    have f1 := frozen_of_blk hb 1
    have f2 := frozen_of_blk hb 2
    simp at c0 c1 c2
    obtain ⟨X, hX, hX2⟩ : ∃ X : Nat, IntKind.u64.wrap (IntKind.u64.wrap ((h : Int) * 6364136223846793005) + 1442695040888963407) = (X : Int) ∧ X < 18446744073709551616 := by
      rw [IntKind.wrap_u64, IntKind.wrap_u64]
      exact ⟨((h * 6364136223846793005 % 18446744073709551616 + 1442695040888963407) % 18446744073709551616), by omega, by omega⟩
    obtain ⟨x, hx, hx2⟩ := and24 hX2
    have hs1 := heap_set_same (o := 2) (v := .int .u64 (X : Int)) hb
    have hg1 : w.grownBy (w.setCell ⟨b, 2, none⟩ (.int .u64 (X : Int))) (some b) := grown_set
    simp at hs1
    by_cases hj : j < len
    · obtain ⟨cb, co, rfl, hcb, hcw, hcell⟩ := h8 (by omega)
      obtain ⟨v, hv, hcv⟩ := hcell j hj
      have hne : cb ≠ b := by omega
      have hj2 : (j : Int) < (len : Int) := by omega
      go_enter Tryz.func57, Tryz.ntmps57
      go_wp2
      go_region
      all_goals go_wp2
      all_goals go_region
      all_goals go_wp2
      all_goals (
        have hs2 := heap_set_same (o := 1) (v := .int .i64 ((j : Int) + 1)) hs1
        have hg2 := grown_trans' hg1 (grown_set (b := b) (j := 1) (u := .int .i64 ((j : Int) + 1)))
        simp at hs2
        go_ret
        refine ⟨_, rfl, ⟨Int.emod_nonneg _ (by omega), .inr (Int.emod_lt_of_pos _ (by omega))⟩, ?_, grown_drewN' hg2 2⟩
        exact ⟨_, len, cap, j + 1, X, hs2, h4, h5, by omega, hX2, h8.below ((Below.refl n w).grown (grown_drewN' hg2 2) (by omega) (fun k hk => by injection hk with hk; omega))⟩)
    · have hj2 : ¬ (j : Int) < (len : Int) := by omega
      go_enter Tryz.func57, Tryz.ntmps57
      go_wp2
      go_region
      all_goals go_wp2
      all_goals (
        go_ret
        refine ⟨_, rfl, ⟨Int.emod_nonneg _ (by omega), .inr (Int.emod_lt_of_pos _ (by omega))⟩, ?_, grown_drewN' hg1 1⟩
        exact ⟨_, len, cap, j, X, hs1, h4, h5, h6, hX2, h8.below ((Below.refl n w).grown (grown_drewN' hg1 1) (by omega) (fun k hk => by injection hk with hk; omega))⟩)
theorem hash_wrap (y : Int) : ∃ X : Nat, IntKind.u64.wrap y = (X : Int) ∧ X < 18446744073709551616 := by
  rw [IntKind.wrap_u64]
  exact ⟨(y % 18446744073709551616).toNat, by omega, by omega⟩
set_option maxRecDepth 100000 in
theorem l01From_any (a : Option Addr) (len cap : Nat) (w : World) (hl : len ≤ 1152921504606846976) (hb : Bytes w w.heap.size a len) :
    Calls Tryz.prog 33 #[.slice a len cap] w fun e w' => ∃ b : Nat, e = .returned (.pointer (some ⟨b, 0, none⟩)) ∧ Src w' w.heap.size b ∧ Below w.heap.size w w' := by
  obtain ⟨H, hH, hH2⟩ : ∃ H : Nat, (13801 + (len : Int)) = (H : Int) ∧ H < 18446744073709551616 := ⟨13801 + len, by omega, by omega⟩
  go_enter Tryz.func33, Tryz.ntmps33
  go_wp2
  go_loopw [4] (fun i wr => ∃ j h : Nat, i = (.int .i64 ((j : Int))) ∧ j ≤ len ∧ h < 18446744073709551616 ∧ wr.heap[w.heap.size]? = some (.cells #[.slice a len cap, .int .i64 0, .int .u64 h] 82 (0, 0)) ∧ Below w.heap.size w wr) (fun i _ => len - (intOf i).toNat)
  case atStart => exact ⟨0, H, rfl, Nat.zero_le _, hH2, heap_new, by go_grown⟩
  case round =>
    obtain ⟨j, h, rfl, hj, hh, hblk, hbel⟩ := hrel
    by_cases hlt : j < len
    · by_cases h4 : j < 4096
      · obtain ⟨cb, co, rfl, hcb, hcw, hcell⟩ := hb (by omega)
        obtain ⟨v, hv, hcv0⟩ := hcell j hlt
        have hcv := (hbel.cell (p := ⟨cb, co + j, none⟩) hcb).trans hcv0
        clear hcv0
        have hne : cb ≠ w.heap.size := by omega
        have c2 := cell_of_blk hblk 2
        have f2 := frozen_of_blk hblk 2
        simp at c2
        have hlt2 : (j : Int) < (len : Int) := by omega
        have h42 : (j : Int) < 4096 := by omega
        have hj1 : IntKind.i64.wrap ((j : Int) + 1) = (j : Int) + 1 := IntWalk.i64_in _ (by omega)
        obtain ⟨X, hX, hX2⟩ : ∃ X : Nat, IntKind.u64.wrap (IntKind.u64.wrap (IntKind.u64.wrap ((h : Int) * 1099511628211) + (v : Int)) + 227) = (X : Int) ∧ X < 18446744073709551616 := by
          exact hash_wrap _
        clear hH hb hcell
        go_wp2_with fail
        go_region
        all_goals go_wp2
        all_goals (
          have hs2 := heap_set_same (o := 2) (v := .int .u64 (X : Int)) hblk
          simp at hs2
          exact ⟨⟨j + 1, X, rfl, by omega, hX2, hs2, (hbel.setCell (p := ⟨w.heap.size, 2, none⟩) (Nat.le_refl _) _).drew⟩, by simp [intOf]; omega⟩)
      · have hlt2 : (j : Int) < (len : Int) := by omega
        have h42 : ¬ (j : Int) < 4096 := by omega
        clear hH
        go_wp2_with fail
        go_ret
        exact ⟨w.heap.size, rfl, ⟨a, len, cap, 0, h, hblk, Nat.le_refl _, hl, Nat.zero_le _, hh, hb.below hbel⟩, hbel⟩
    · have hlt2 : ¬ (j : Int) < (len : Int) := by omega
      clear hH
      go_wp2_with fail
      go_ret
      exact ⟨w.heap.size, rfl, ⟨a, len, cap, 0, h, hblk, Nat.le_refl _, hl, Nat.zero_le _, hh, hb.below hbel⟩, hbel⟩
theorem getD_in {xs : List Int} {j : Nat} (h : j < xs.length) : xs.getD j 0 ∈ xs := by simp [List.getD, List.getElem?_eq_getElem h]
set_option maxRecDepth 100000 in
theorem l01Pick_any (n b : Nat) (xs : List Int) (g k cap : Nat) (w : World) (hk : xs.length = k) (hk0 : 0 < k) (hk1 : k ≤ 1000) (hg : g ≠ b) (hgl : g < w.heap.size) (hc : ∀ j, j < k → w.cell? ⟨g, j, none⟩ = some (.int .i64 (xs.getD j 0))) (hs : Src w n b) :
    Calls Tryz.prog 58 #[.pointer (some ⟨b, 0, none⟩), .slice (some ⟨g, 0, none⟩) k cap] w fun e w' => ∃ x : Int, e = .returned (.int .i64 x) ∧ x ∈ xs ∧ Src w' n b ∧ w.grownBy w' (some b) := by
  have HN := Lib.hid (fun W => l01Next_any n b (k : Int) W (by omega))
  have HS := Lib.hid hs
  clear hs
  go_enter Tryz.func58, Tryz.ntmps58
  go_wp2_with fail
  refine (HN.out _ HS.out).mono ?_; rintro e w1 ⟨x, rfl, hx, hs1, hg1⟩
  obtain ⟨j, rfl⟩ := Int.eq_ofNat_of_zero_le hx.1
  have hj : j < k := by omega
  have hblk := hg1.block g hgl (fun e => hg (by injection e))
  have hcj := (World.cell?_of_block (a := ⟨g, j, none⟩) hblk).trans (hc j hj)
  have hjk : (j : Int) < (k : Int) := by omega
  have HM := Lib.hid (getD_in (xs := xs) (j := j) (by omega))
  generalize xs.getD j 0 = y at *
  clear hc hblk HN HS
  go_wp2_with fail
  go_ret
  exact ⟨y, rfl, HM.out, hs1, hg1⟩
/-- A new row of numbers lies in its block. -/
theorem lit_cells {w : World} {cs : Array Value} {t : TypeId} {xs : List Int} (h : cs.toList = ints xs) : ∀ j, j < xs.length → (w.alloc (.cells cs t)).cell? ⟨w.heap.size, j, none⟩ = some (.int .i64 (xs.getD j 0)) := fun j hj => by
  rw [cell_of_blk (heap_new (w := w)) j, ← Array.getElem?_toList, h]
  exact ints_at hj
theorem pick_lit {n b : Nat} (xs : List Int) {k cap : Nat} {w : World} {cs : Array Value} {t : TypeId} (h : cs.toList = ints xs) (hs : Src w n b) (hk : xs.length = k) (hk0 : 0 < k) (hk1 : k ≤ 1000) :
    Calls Tryz.prog 58 #[.pointer (some ⟨b, 0, none⟩), .slice (some ⟨w.heap.size, 0, none⟩) k cap] (w.alloc (.cells cs t)) fun e w' => ∃ x : Int, e = .returned (.int .i64 x) ∧ x ∈ xs ∧ Src w' n b ∧ w.grownBy w' (some b) := by
  subst hk
  have hl := hs.lt
  refine (l01Pick_any n b xs w.heap.size xs.length cap (w.alloc (.cells cs t)) rfl hk0 hk1 (by omega) (by simp) (lit_cells h) (hs.keep ((Below.refl _ w).alloc (Nat.le_refl _) _))).mono ?_
  rintro e w' ⟨x, he, hx, hs', hg⟩
  exact ⟨x, he, hx, hs', grown_trans' (World.grownBy_alloc w _ _) hg⟩
set_option maxRecDepth 100000 in
theorem l01Near_any (n b : Nat) (m : Int) (w : World) (hm : 0 ≤ m ∧ m ≤ 1000000) (hs : Src w n b) :
    Calls Tryz.prog 32 #[.pointer (some ⟨b, 0, none⟩), (.int .i64 m)] w fun e w' => ∃ x : Int, e = .returned (.int .i64 x) ∧ (-4611686018427387904 ≤ x ∧ x ≤ 1099511627776) ∧ Src w' n b ∧ w.grownBy w' (some b) := by
  have HN := Lib.hid (fun W => l01Next_any n b 14 W (by omega))
  have HM := Lib.hid (fun W => l01Next_any n b (m + 1) W (by omega))
  have HS := Lib.hid hs
  clear hs
  go_enter Tryz.func32, Tryz.ntmps32
  go_wp2_with fail
  refine (HN.out _ HS.out).mono ?_; rintro e w1 ⟨x, rfl, hx, hs1, hg1⟩
  have HS1 := Lib.hid hs1
  clear hs1 HS
  by_cases h0 : x = 0
  · subst h0
    go_wp2_with fail
    refine (pick_lit [-1, m + 1, 1099511627776, -4611686018427387904] rfl HS1.out rfl (by simp) (by simp)).mono ?_; rintro e w2 ⟨y, rfl, hy, hs2, hg2⟩
    have hy2 : -4611686018427387904 ≤ y ∧ y ≤ 1099511627776 := by
      simp at hy; omega
    go_wp2_with fail
    go_ret
    exact ⟨y, rfl, hy2, hs2, grown_trans' hg1 hg2⟩
  · have h0' : (x == 0) = false := by simpa using h0
    go_wp2_with fail
    refine (HM.out _ HS1.out).mono ?_; rintro e w2 ⟨y, rfl, hy, hs2, hg2⟩
    go_wp2_with fail
    go_ret
    exact ⟨y, rfl, by omega, hs2, grown_trans' hg1 hg2⟩
end Go.Proofs.YtjnkogkpdbgohaaGreatDoor
/- What is known of blocks in a call that draws. -/
namespace Go.Proofs.YtjnkogkpdbgohaaGreatDoor
open Go.RowKit
theorem Src.base {w w' : World} {n b : Nat} (h : Src w n b) (hb : Below w.heap.size w w') : Src w' n b ∧ w.grownBy w' (some b) := ⟨h.keep hb, grown_of_below hb⟩
theorem grown_below {n b : Nat} {w0 w w' : World} (h : Below n w0 w) (hs : Src w n b) (hg : w.grownBy w' (some b)) : Below n w0 w' :=
  h.trans (below_src hs hg hs.ge)
theorem blk_keep {b r : Nat} {w w' : World} {o : Obj} (h : w.heap[r]? = some o) (hg : w.grownBy w' (some b)) (hne : r ≠ b) : w'.heap[r]? = some o :=
  (hg.block r (lt_of_blk h) (fun e => hne (by injection e))).trans h
theorem blk_two {w : World} {r : Nat} {t : TypeId} {u v : Value} (h : w.heap[r]? = some (.cells #[u, v] t (0, 0))) :
    (w.cell? ⟨r, 0, none⟩ = some u ∧ w.cell? ⟨r, 1, none⟩ = some v) ∧ (w.frozen? ⟨r, 0, none⟩ = false ∧ w.frozen? ⟨r, 1, none⟩ = false) ∧ r < w.heap.size :=
  ⟨⟨cell_of_blk h 0, cell_of_blk h 1⟩, ⟨frozen_of_blk h 0, frozen_of_blk h 1⟩, lt_of_blk h⟩
theorem set2_e {w : World} {r : Nat} {t : TypeId} {u v x : Value} (h : w.heap[r]? = some (.cells #[u, v] t (0, 0))) : (w.setCell ⟨r, 0, none⟩ x).cell? ⟨r, 0, none⟩ = some x := by
  have := cell_of_blk (heap_set_same (o := 0) (v := x) h) 0
  simpa using this
theorem set2_0 {w : World} {r : Nat} {t : TypeId} {u v x y : Value} (h : w.heap[r]? = some (.cells #[u, v] t (0, 0))) : ((w.setCell ⟨r, 0, none⟩ x).setCell ⟨r, 1, none⟩ y).cell? ⟨r, 0, none⟩ = some x := by
  have := cell_of_blk (heap_set_same (o := 1) (v := y) (heap_set_same (o := 0) (v := x) h)) 0
  simpa using this
theorem set2_1 {w : World} {r : Nat} {t : TypeId} {u v x y : Value} (h : w.heap[r]? = some (.cells #[u, v] t (0, 0))) : ((w.setCell ⟨r, 0, none⟩ x).setCell ⟨r, 1, none⟩ y).cell? ⟨r, 1, none⟩ = some y := by
  have := cell_of_blk (heap_set_same (o := 1) (v := y) (heap_set_same (o := 0) (v := x) h)) 1
  simpa using this
/-- What is known within a call that draws: the source, and what has turned since w0. -/
structure InS (n b : Nat) (w0 w : World) : Prop where
  src : Src w n b
  grown : w0.grownBy w (some b)
  old : b < w0.heap.size
theorem InS.start {n b : Nat} {w : World} (hs : Src w n b) : InS n b w w := ⟨hs, grown_refl' _ _, hs.lt⟩
theorem InS.turn {n b : Nat} {w0 w w' : World} (h : InS n b w0 w) (hs : Src w' n b) (hg : w.grownBy w' (some b)) : InS n b w0 w' := ⟨hs, grown_trans' h.grown hg, h.old⟩
theorem InS.below {n b : Nat} {w0 w w' : World} (h : InS n b w0 w) (hb : Below w.heap.size w w') : InS n b w0 w' := h.turn (h.src.keep hb) (grown_of_below hb)
theorem InS.alloc {n b : Nat} {w0 w : World} (h : InS n b w0 w) (o : Obj) : InS n b w0 (w.alloc o) := h.below ((Below.refl _ w).alloc (Nat.le_refl _) o)
theorem InS.size {n b : Nat} {w0 w : World} (h : InS n b w0 w) : w0.heap.size ≤ w.heap.size := h.grown.size
theorem InS.set {n b : Nat} {w0 w : World} (h : InS n b w0 w) {r o : Nat} (v : Value) (hr : w0.heap.size ≤ r) : InS n b w0 (w.setCell ⟨r, o, none⟩ v) := by
  have hold := h.old
  have hb : Below r w (w.setCell ⟨r, o, none⟩ v) := (Below.refl r w).setCell (p := ⟨r, o, none⟩) (Nat.le_refl _) v
  have hg := h.src.ge
  obtain ⟨a, len, cap, j, hh, h3, h4, h5, h6, h7, h8⟩ := h.src
  have hblk : (w.setCell ⟨r, o, none⟩ v).heap[b]? = w.heap[b]? := Below.heap_setCell _ _ _ _ (by show b ≠ r; omega)
  exact ⟨⟨a, len, cap, j, hh, hblk.trans h3, h4, h5, h6, h7, h8.below (hb.mono (by omega))⟩,
    ⟨h.grown.os, h.grown.tape, h.grown.output, Nat.le_trans h.grown.size hb.size, fun k hk hkb => (hb.block k (by omega)).trans (h.grown.block k hk hkb)⟩, hold⟩
theorem InS.set4 {n b : Nat} {w0 w : World} (h : InS n b w0 w) {r : Nat} (x y z u : Value) (hr : w0.heap.size ≤ r) :
    InS n b w0 ((((w.setCell ⟨r, 0, none⟩ x).setCell ⟨r, 1, none⟩ y).setCell ⟨r, 2, none⟩ z).setCell ⟨r, 3, none⟩ u) :=
  (((h.set x hr).set y hr).set z hr).set u hr
theorem InS.drew {n b : Nat} {w0 w : World} (h : InS n b w0 w) : InS n b w0 w.drew := h.below ((Below.refl _ w).drew)
def RetI (e : Ending) : Prop := ∃ k : Int, e = .returned (.int .i64 k)
theorem Bytes.after {w w' : World} {n len : Nat} {a : Option Addr} (h : Bytes w n a len) (hb : Below n w w') : Bytes w' w'.heap.size a len := fun hl => by
  obtain ⟨b, o, ha, h1, h2, h3⟩ := h.below hb hl
  exact ⟨b, o, ha, h2, h2, h3⟩
theorem InS.belowN {n b m : Nat} {w w' : World} (h : InS n b w w') (hm : m ≤ b) : Below m w w' :=
  (Below.refl m w).grown h.grown (by have := h.old; omega) (fun k hk => by injection hk with hk; omega)
end Go.Proofs.YtjnkogkpdbgohaaGreatDoor
/- Draws: pairs for the sums, fractions. -/
namespace Go.Proofs.YtjnkogkpdbgohaaGreatDoor
open Go.RowKit
/-- What is known within a call that draws: the source, what has turned since w0, and the result's two cells. -/
structure In2 (n b r : Nat) (w0 w : World) : Prop where
  src : Src w n b
  grown : w0.grownBy w (some b)
  blk : w.heap[r]? = some (.cells #[.int .i64 0, .int .i64 0] 34 (0, 0))
  ne : r ≠ b
  new : w0.heap.size ≤ r
  old : b < w0.heap.size
theorem In2.start {n b : Nat} {w : World} (hs : Src w n b) : In2 n b w.heap.size w (w.alloc (.cells #[.int .i64 0, .int .i64 0] 34)) :=
  ⟨hs.keep ((Below.refl _ w).alloc (Nat.le_refl _) _), World.grownBy_alloc w _ _, heap_new, by have := hs.lt; omega, Nat.le_refl _, hs.lt⟩
theorem In2.turn {n b r : Nat} {w0 w w' : World} (h : In2 n b r w0 w) (hs : Src w' n b) (hg : w.grownBy w' (some b)) : In2 n b r w0 w' :=
  ⟨hs, grown_trans' h.grown hg, blk_keep h.blk hg h.ne, h.ne, h.new, h.old⟩
theorem In2.below {n b r : Nat} {w0 w w' : World} (h : In2 n b r w0 w) (hb : Below w.heap.size w w') : In2 n b r w0 w' :=
  h.turn (h.src.keep hb) (grown_of_below hb)
theorem In2.fin {n b r : Nat} {w0 w : World} (h : In2 n b r w0 w) (x y : Value) : Src ((w.setCell ⟨r, 0, none⟩ x).setCell ⟨r, 1, none⟩ y) n b ∧ w0.grownBy ((w.setCell ⟨r, 0, none⟩ x).setCell ⟨r, 1, none⟩ y) (some b) := by
  have hb : Below r w ((w.setCell ⟨r, 0, none⟩ x).setCell ⟨r, 1, none⟩ y) := ((Below.refl r w).setCell (p := ⟨r, 0, none⟩) (Nat.le_refl _) x).setCell (p := ⟨r, 1, none⟩) (Nat.le_refl _) y
  have hl := h.src.lt; have hg := h.src.ge; have hne := h.ne; have hn := h.new
  obtain ⟨a, len, cap, j, hh, h3, h4, h5, h6, h7, h8⟩ := h.src
  have hblk : ((w.setCell ⟨r, 0, none⟩ x).setCell ⟨r, 1, none⟩ y).heap[b]? = w.heap[b]? := by
    rw [Below.heap_setCell _ _ _ _ (Ne.symm hne), Below.heap_setCell _ _ _ _ (Ne.symm hne)]
  have hold := h.old
  refine ⟨⟨a, len, cap, j, hh, hblk.trans h3, h4, h5, h6, h7, h8.below (hb.mono (by omega))⟩, h.grown.os, h.grown.tape, h.grown.output, Nat.le_trans h.grown.size hb.size, fun k hk hkb => (hb.block k (by omega)).trans (h.grown.block k hk hkb)⟩
/-- What a pair drawn for a sum is. -/
def PairBd (h k : Int) : Prop := -1000000001 ≤ h ∧ h ≤ 1099511627776 ∧ -1 ≤ k ∧ k ≤ 20001
/-- Small entries of a drawn fraction. -/
def SFrac (x y : Int) : Prop := -1000000 ≤ x ∧ x ≤ 1000000 ∧ 0 ≤ y ∧ y ≤ 1000000
theorem tdiv_bdB {x g B : Int} (h0 : -B ≤ x) (h1 : x ≤ B) : -B ≤ x.tdiv g ∧ x.tdiv g ≤ B := by
  have h := Int.natAbs_tdiv_le_natAbs x g
  omega
theorem sfrac_red {p q : Int} (q0 : 0 < q) (q1 : q ≤ 1000000) (p0 : -1000000 ≤ p) (p1 : p ≤ 1000000) : SFrac (fx p q) (fy p q) := by
  have hq := tdiv_bdB (x := q) (g := (Int.gcd p q : Int)) (B := 1000000) (by omega) q1
  have hp := tdiv_bdB (x := p) (g := (Int.gcd p q : Int)) (B := 1000000) p0 p1
  have h0 : 0 ≤ q.tdiv (Int.gcd p q : Int) := Int.tdiv_nonneg (by omega) (by omega)
  unfold fx fy SFrac
  omega
set_option maxRecDepth 100000 in
theorem l01Reduced_1 (w : World) : Calls Tryz.prog 64 #[(.int .i64 1), (.int .i64 0)] w fun e w' => e = .returned (.agg #[.int .i64 1, .int .i64 0]) ∧ Below w.heap.size w w' := by
  have HD := Lib.hid (fun W => l01Gcd_any 1 0 W (by omega) (by omega) (by omega) (by omega))
  rw [show (Int.gcd 1 0 : Int) = 1 from rfl] at HD
  go_enter Tryz.func64, Tryz.ntmps64
  go_wp2_with fail
  refine (HD.out _).mono ?_; rintro e w1 ⟨rfl, hb1⟩
  obtain ⟨hc1, hf1⟩ := bcell hb1
  have hz0 : w.heap.size < w1.heap.size := by have := hb1.size; (try simp at this); omega
  go_wp2_with fail
  refine wp_region_ext_tail 7 (by kernel_rfl) (by kernel_rfl) ?_
  simp only [List.take_succ_cons, List.take_zero, List.drop_succ_cons, List.drop_zero]
  repeat (go_big_quiet_step (fail))
  refine wpQuiet_nil ?_
  intro w2 hb2
  replace hb2 := bstep hb1 hb2
  clear hc1 hf1 hb1
  obtain ⟨hc2, hf2⟩ := bcell hb2
  have hz0 : w.heap.size < w2.heap.size := by have := hb2.size; (try simp at this); omega
  have hB2 : Below w.heap.size w w2 := bfin (by go_grown) hb2
  go_wp2_with fail
  have hall := And.intro hc2 (hz0)
  refine bodyPost_ret (v := (.agg #[.int .i64 1, .int .i64 0])) (by first | (simp [results, Tryz.results64, go_sem]; done) | (simp [results, Tryz.results64, go_sem, hall] <;> rfl)) rfl ⟨rfl, by go_grown⟩
set_option maxRecDepth 100000 in
theorem l01Reduced_2 (w : World) : Calls Tryz.prog 64 #[(.int .i64 (-1)), (.int .i64 0)] w fun e w' => e = .returned (.agg #[.int .i64 1, .int .i64 0]) ∧ Below w.heap.size w w' := by
  have HD := Lib.hid (fun W => l01Gcd_any (-1) 0 W (by omega) (by omega) (by omega) (by omega))
  rw [show (Int.gcd (-1) 0 : Int) = 1 from rfl] at HD
  go_enter Tryz.func64, Tryz.ntmps64
  go_wp2_with fail
  refine (HD.out _).mono ?_; rintro e w1 ⟨rfl, hb1⟩
  obtain ⟨hc1, hf1⟩ := bcell hb1
  have hz0 : w.heap.size < w1.heap.size := by have := hb1.size; (try simp at this); omega
  go_wp2_with fail
  refine wp_region_ext_tail 7 (by kernel_rfl) (by kernel_rfl) ?_
  simp only [List.take_succ_cons, List.take_zero, List.drop_succ_cons, List.drop_zero]
  repeat (go_big_quiet_step (fail))
  refine wpQuiet_nil ?_
  intro w2 hb2
  replace hb2 := bstep hb1 hb2
  clear hc1 hf1 hb1
  obtain ⟨hc2, hf2⟩ := bcell hb2
  have hz0 : w.heap.size < w2.heap.size := by have := hb2.size; (try simp at this); omega
  have hB2 : Below w.heap.size w w2 := bfin (by go_grown) hb2
  go_wp2_with fail
  have hall := And.intro hc2 (hz0)
  refine bodyPost_ret (v := (.agg #[.int .i64 1, .int .i64 0])) (by first | (simp [results, Tryz.results64, go_sem]; done) | (simp [results, Tryz.results64, go_sem, hall] <;> rfl)) rfl ⟨rfl, by go_grown⟩
theorem l01Reduced_bd (p q : Int) (w : World) (q0 : 0 < q) (q1 : q ≤ 1000000) (p0 : -1000000 ≤ p) (p1 : p ≤ 1000000) :
    Calls Tryz.prog 64 #[(.int .i64 p), (.int .i64 q)] w fun e w' => (∃ x y, e = .returned (.agg #[.int .i64 x, .int .i64 y]) ∧ SFrac x y) ∧ Below w.heap.size w w' := by
  refine (l01Reduced_any p q w q0 (by omega) (by omega) (by omega)).mono ?_
  rintro e w' ⟨rfl, hb⟩
  exact ⟨⟨_, _, rfl, sfrac_red q0 q1 p0 p1⟩, hb⟩
theorem l01Reduced_0 (p q : Int) (w : World) (hq : q = 0 ∨ q = 1) (hp : p = 1 ∨ p = -1) :
    Calls Tryz.prog 64 #[(.int .i64 p), (.int .i64 q)] w fun e w' => (∃ x y, e = .returned (.agg #[.int .i64 x, .int .i64 y]) ∧ SFrac x y) ∧ Below w.heap.size w w' := by
  rcases hq with rfl | rfl
  · rcases hp with rfl | rfl
    · refine (l01Reduced_1 w).mono ?_; rintro e w' ⟨rfl, hb⟩; exact ⟨⟨_, _, rfl, by unfold SFrac; omega⟩, hb⟩
    · refine (l01Reduced_2 w).mono ?_; rintro e w' ⟨rfl, hb⟩; exact ⟨⟨_, _, rfl, by unfold SFrac; omega⟩, hb⟩
  · exact l01Reduced_bd p 1 w (by omega) (by omega) (by omega) (by omega)
end Go.Proofs.YtjnkogkpdbgohaaGreatDoor
/- Draws: a fraction. -/
namespace Go.Proofs.YtjnkogkpdbgohaaGreatDoor
open Go.RowKit
set_option maxRecDepth 100000 in
set_option maxHeartbeats 1000000 in
theorem l01DrawFraction_any (n b : Nat) (w : World) (hs : Src w n b) :
    Calls Tryz.prog 70 #[.pointer (some ⟨b, 0, none⟩)] w fun e w' => (∃ x y, e = .returned (.agg #[.int .i64 x, .int .i64 y]) ∧ SFrac x y) ∧ Src w' n b ∧ w.grownBy w' (some b) := by
  have I0 := Lib.hid (In2.start hs)
  clear hs
  go_enter Tryz.func70, Tryz.ntmps70
  go_wp2_with fail
  refine (l01Next_any n b 6 _ (by omega) I0.out.src).mono ?_; rintro e w1 ⟨z, rfl, hz, hs1, hg1⟩
  have I1 := Lib.hid (I0.out.turn hs1 hg1)
  generalize w.heap.size = r at *
  clear I0 hs1 hg1
  by_cases hz0 : z = 0
  · subst hz0
    go_wp2_with fail
    refine (pick_lit [1, 0, 1, -1] rfl I1.out.src rfl (by simp) (by simp)).mono ?_; rintro e w2 ⟨p, rfl, hp, hs2, hg2⟩
    have I2 := Lib.hid (I1.out.turn hs2 hg2)
    have hp2 : p = 0 ∨ p = 1 ∨ p = -1 := by simp at hp; omega
    clear I1 hs2 hg2 hp
    go_wp2_with fail
    refine (pick_lit [0, 1, 1] rfl I2.out.src rfl (by simp) (by simp)).mono ?_; rintro e w3 ⟨q, rfl, hq, hs3, hg3⟩
    have I3 := Lib.hid (I2.out.turn hs3 hg3)
    have hq2 : q = 0 ∨ q = 1 := by simp at hq; omega
    clear I2 hs3 hg3 hq
    by_cases h0 : p = 0
    · subst h0
      go_wp2_with fail
      refine (l01Reduced_bd 0 1 w3 (by omega) (by omega) (by omega) (by omega)).mono ?_; rintro e w4 ⟨⟨x, y, rfl, hxy⟩, hb4⟩
      have I4 := Lib.hid (I3.out.below hb4)
      have HX := Lib.hid hxy
      clear I3 hb4 hxy
      obtain ⟨⟨c0, c1⟩, ⟨f0, f1⟩, hr⟩ := blk_two I4.out.blk
      go_wp2_with fail
      refine bodyPost_ret (v := (.agg #[.int .i64 x, .int .i64 y])) (by first | (simp [results, Tryz.results70, go_sem]; done) | (simp [results, Tryz.results70, go_sem, set2_0 I4.out.blk, set2_1 I4.out.blk] <;> rfl)) rfl ⟨⟨x, y, rfl, HX.out⟩, I4.out.fin _ _⟩
    · have h0' : (p == 0) = false := by simpa using h0
      have hp3 : p = 1 ∨ p = -1 := by omega
      clear hp2
      have HR := Lib.hid (l01Reduced_0 p q w3 hq2 hp3)
      clear hq2 hp3
      go_wp2_with fail
      refine (HR.out).mono ?_; rintro e w4 ⟨⟨x, y, rfl, hxy⟩, hb4⟩
      have I4 := Lib.hid (I3.out.below hb4)
      have HX := Lib.hid hxy
      clear I3 hb4 hxy
      obtain ⟨⟨c0, c1⟩, ⟨f0, f1⟩, hr⟩ := blk_two I4.out.blk
      go_wp2_with fail
      refine bodyPost_ret (v := (.agg #[.int .i64 x, .int .i64 y])) (by first | (simp [results, Tryz.results70, go_sem]; done) | (simp [results, Tryz.results70, go_sem, set2_0 I4.out.blk, set2_1 I4.out.blk] <;> rfl)) rfl ⟨⟨x, y, rfl, HX.out⟩, I4.out.fin _ _⟩
  · have hz0' : (z == 0) = false := by simpa using hz0
    by_cases hz1 : z = 1
    · subst hz1
      go_wp2_with fail
      refine (l01Next_any n b 2000000 _ (by omega) I1.out.src).mono ?_; rintro e w2 ⟨p, rfl, hp, hs2, hg2⟩
      have I2 := Lib.hid (I1.out.turn hs2 hg2)
      have hp2 : 0 ≤ p ∧ p < 2000000 := by omega
      clear I1 hs2 hg2 hp
      go_wp2_with fail
      refine (l01Next_any n b 1000000 _ (by omega) I2.out.src).mono ?_; rintro e w3 ⟨q, rfl, hq, hs3, hg3⟩
      have I3 := Lib.hid (I2.out.turn hs3 hg3)
      have hq2 : 0 ≤ q ∧ q < 1000000 := by omega
      clear I2 hs3 hg3 hq
      go_wp2_with fail
      refine (l01Reduced_bd (p - 1000000) (1 + q) w3 (by omega) (by omega) (by omega) (by omega)).mono ?_; rintro e w4 ⟨⟨x, y, rfl, hxy⟩, hb4⟩
      have I4 := Lib.hid (I3.out.below hb4)
      have HX := Lib.hid hxy
      clear I3 hb4 hxy
      obtain ⟨⟨c0, c1⟩, ⟨f0, f1⟩, hr⟩ := blk_two I4.out.blk
      go_wp2_with fail
      refine bodyPost_ret (v := (.agg #[.int .i64 x, .int .i64 y])) (by first | (simp [results, Tryz.results70, go_sem]; done) | (simp [results, Tryz.results70, go_sem, set2_0 I4.out.blk, set2_1 I4.out.blk] <;> rfl)) rfl ⟨⟨x, y, rfl, HX.out⟩, I4.out.fin _ _⟩
    · have hz1' : (z == 1) = false := by simpa using hz1
      go_wp2_with fail
      refine (l01Next_any n b 41 _ (by omega) I1.out.src).mono ?_; rintro e w2 ⟨p, rfl, hp, hs2, hg2⟩
      have I2 := Lib.hid (I1.out.turn hs2 hg2)
      have hp2 : 0 ≤ p ∧ p < 41 := by omega
      clear I1 hs2 hg2 hp
      go_wp2_with fail
      refine (l01Next_any n b 20 _ (by omega) I2.out.src).mono ?_; rintro e w3 ⟨q, rfl, hq, hs3, hg3⟩
      have I3 := Lib.hid (I2.out.turn hs3 hg3)
      have hq2 : 0 ≤ q ∧ q < 20 := by omega
      clear I2 hs3 hg3 hq
      go_wp2_with fail
      refine (l01Reduced_bd (p - 20) (1 + q) w3 (by omega) (by omega) (by omega) (by omega)).mono ?_; rintro e w4 ⟨⟨x, y, rfl, hxy⟩, hb4⟩
      have I4 := Lib.hid (I3.out.below hb4)
      have HX := Lib.hid hxy
      clear I3 hb4 hxy
      obtain ⟨⟨c0, c1⟩, ⟨f0, f1⟩, hr⟩ := blk_two I4.out.blk
      go_wp2_with fail
      refine bodyPost_ret (v := (.agg #[.int .i64 x, .int .i64 y])) (by first | (simp [results, Tryz.results70, go_sem]; done) | (simp [results, Tryz.results70, go_sem, set2_0 I4.out.blk, set2_1 I4.out.blk] <;> rfl)) rfl ⟨⟨x, y, rfl, HX.out⟩, I4.out.fin _ _⟩
theorem pick_lit_d {n b : Nat} (xs : List Int) {k cap : Nat} {w : World} {cs : Array Value} {t : TypeId} (h : cs.toList = ints xs) (hs : Src w n b) (hk : xs.length = k) (hk0 : 0 < k) (hk1 : k ≤ 1000) :
    Calls Tryz.prog 58 #[.pointer (some ⟨b, 0, none⟩), .slice (some ⟨w.heap.size, 0, none⟩) k cap] (w.alloc (.cells cs t)).drew fun e w' => ∃ x : Int, e = .returned (.int .i64 x) ∧ x ∈ xs ∧ Src w' n b ∧ w.grownBy w' (some b) := by
  subst hk
  have hl := hs.lt
  refine (l01Pick_any n b xs w.heap.size xs.length cap (w.alloc (.cells cs t)).drew rfl hk0 hk1 (by omega) (by show _ < (w.alloc (.cells cs t)).heap.size; simp) (lit_cells h) (hs.keep ((Below.refl _ w).alloc (Nat.le_refl _) _).drew)).mono ?_
  rintro e w' ⟨x, he, hx, hs', hg⟩
  exact ⟨x, he, hx, hs', grown_trans' (grown_of_below ((Below.refl _ w).alloc (Nat.le_refl _) _).drew) hg⟩
/-- Entries of a fraction, spoilt or not. -/
def BFrac (x y : Int) : Prop := -2000000000 ≤ x ∧ x ≤ 2000000000 ∧ -2000000000 ≤ y ∧ y ≤ 2000000000
/-- Entries of a fraction within the limits. -/
def WFrac (x y : Int) : Prop := -1000000000 ≤ x ∧ x ≤ 1000000000 ∧ -1000000000 ≤ y ∧ y ≤ 1000000000
set_option maxRecDepth 100000 in
set_option maxHeartbeats 1000000 in
theorem l01BadFraction_wide (n b : Nat) (f0 f1 : Int) (w : World) (hf : WFrac f0 f1) (hs : Src w n b) :
    Calls Tryz.prog 65 #[.pointer (some ⟨b, 0, none⟩), (.agg #[.int .i64 f0, .int .i64 f1])] w fun e w' => (∃ x y, e = .returned (.agg #[.int .i64 x, .int .i64 y]) ∧ BFrac x y) ∧ Src w' n b ∧ w.grownBy w' (some b) := by
  have hsA := hs.keep ((Below.refl _ w).alloc (Nat.le_refl _) (.cells #[(.int .i64 f0), (.int .i64 f1)] 34))
  have I0 := Lib.hid (In2.start hsA)
  have hx0 : ((w.alloc (.cells #[(.int .i64 f0), (.int .i64 f1)] 34)).alloc (.cells #[(.int .i64 0), (.int .i64 0)] 34)).heap[w.heap.size]? = some (.cells #[(.int .i64 f0), (.int .i64 f1)] 34 (0, 0)) := heap_alloc heap_new
  have hne : w.heap.size ≠ b := by have := hs.lt; omega
  have HG := Lib.hid (World.grownBy_alloc w (.cells #[(.int .i64 f0), (.int .i64 f1)] 34) (some b))
  obtain ⟨hf0, hf1, hf2, hf3⟩ := hf
  clear hs hsA
  go_enter Tryz.func65, Tryz.ntmps65
  go_wp2_with fail
  refine (l01Next_any n b 40 _ (by omega) I0.out.src).mono ?_; rintro e w1 ⟨z, rfl, hz, hs1, hg1⟩
  have I1 := Lib.hid (I0.out.turn hs1 hg1)
  have hx1 := blk_keep hx0 hg1 hne
  clear I0 hs1 hg1 hx0
  have hnx : w.heap.size ≠ w.heap.size + 1 := by omega
  rw [show (w.alloc (.cells #[(.int .i64 f0), (.int .i64 f1)] 34)).heap.size = w.heap.size + 1 by simp] at I1
  obtain ⟨⟨x0, x1⟩, ⟨y0, y1⟩, hx⟩ := blk_two hx1
  by_cases hz0 : z = 0
  · subst hz0
    obtain ⟨⟨c0, c1⟩, ⟨g0, g1⟩, hr⟩ := blk_two I1.out.blk
    go_wp2_with fail
    refine bodyPost_ret (v := (.agg #[.int .i64 (2 * f0), .int .i64 (2 * f1)])) (by first | (simp [results, Tryz.results65, go_sem]; done) | (simp [results, Tryz.results65, go_sem, set2_0 I1.out.blk, set2_1 I1.out.blk] <;> rfl)) rfl ⟨⟨_, _, rfl, by unfold BFrac; omega⟩, (I1.out.fin _ _).1, grown_trans' HG.out (I1.out.fin _ _).2⟩
  · have hz0' : (z == 0) = false := by simpa using hz0
    by_cases hz1 : z = 1
    · subst hz1
      go_wp2_with fail
      go_region_held3 (fun w' => w'.cell? ⟨w.heap.size, 0, none⟩ = some (.int .i64 f0)) (first | exact q2 | exact x0 | go_keep) (first | (go_at_call 58; (first | with_reducible refine (pick_lit [-1, 0, 1000000001] (by simp [ints]) I1.out.src (by simp) (by simp) (by simp)).mono ?_ | with_reducible refine (pick_lit_d [-1, 0, 1000000001] (by simp [ints]) I1.out.src (by simp) (by simp) (by simp)).mono ?_); rintro e w2 ⟨y, rfl, hy, hs2, hg2⟩; have hy2 : y = -1 ∨ y = 0 ∨ y = 1000000001 := (by simp at hy; omega); have I2 := Lib.hid (I1.out.turn hs2 hg2); have hx2 := blk_keep hx1 hg2 hne; have q2 : w2.cell? ⟨w.heap.size, 0, none⟩ = some (.int .i64 f0) := (by simpa using cell_of_blk hx2 0); obtain ⟨⟨c0, c1⟩, ⟨g0, g1⟩, hr⟩ := blk_two I2.out.blk))
      all_goals go_wp2_with fail
      all_goals refine bodyPost_ret (v := (.agg #[.int .i64 f0, .int .i64 y])) (by first | (simp [results, Tryz.results65, go_sem]; done) | (simp [results, Tryz.results65, go_sem, set2_0 I2.out.blk, set2_1 I2.out.blk] <;> rfl)) rfl ⟨⟨_, _, rfl, by unfold BFrac; omega⟩, (I2.out.fin _ _).1, grown_trans' HG.out (I2.out.fin _ _).2⟩
    · have hz1' : (z == 1) = false := by simpa using hz1
      by_cases hz2 : z = 2
      · subst hz2
        go_wp2_with fail
        refine (pick_lit [0, -1] rfl I1.out.src rfl (by simp) (by simp)).mono ?_; rintro e w2 ⟨y, rfl, hy, hs2, hg2⟩
        have I2 := Lib.hid (I1.out.turn hs2 hg2)
        have hy2 : y = 0 ∨ y = -1 := by simp at hy; omega
        clear x0 x1 y0 y1 hx hx1 hy
        obtain ⟨⟨c0, c1⟩, ⟨g0, g1⟩, hr⟩ := blk_two I2.out.blk
        go_wp2_with fail
        refine bodyPost_ret (v := (.agg #[.int .i64 y, .int .i64 0])) (by first | (simp [results, Tryz.results65, go_sem]; done) | (simp [results, Tryz.results65, go_sem, set2_0 I2.out.blk, set2_1 I2.out.blk] <;> rfl)) rfl ⟨⟨_, _, rfl, by unfold BFrac; omega⟩, (I2.out.fin _ _).1, grown_trans' HG.out (I2.out.fin _ _).2⟩
      · have hz2' : (z == 2) = false := by simpa using hz2
        obtain ⟨⟨c0, c1⟩, ⟨g0, g1⟩, hr⟩ := blk_two I1.out.blk
        go_wp2_with fail
        refine bodyPost_ret (v := (.agg #[.int .i64 f0, .int .i64 f1])) (by first | (simp [results, Tryz.results65, go_sem]; done) | (simp [results, Tryz.results65, go_sem, set2_0 I1.out.blk, set2_1 I1.out.blk] <;> rfl)) rfl ⟨⟨_, _, rfl, by unfold BFrac; omega⟩, (I1.out.fin _ _).1, grown_trans' HG.out (I1.out.fin _ _).2⟩
theorem l01BadFraction_any (n b : Nat) (f0 f1 : Int) (w : World) (hf : SFrac f0 f1) (hs : Src w n b) :
    Calls Tryz.prog 65 #[.pointer (some ⟨b, 0, none⟩), (.agg #[.int .i64 f0, .int .i64 f1])] w fun e w' => (∃ x y, e = .returned (.agg #[.int .i64 x, .int .i64 y]) ∧ BFrac x y) ∧ Src w' n b ∧ w.grownBy w' (some b) :=
  l01BadFraction_wide n b f0 f1 w (by unfold SFrac at hf; unfold WFrac; omega) hs
end Go.Proofs.YtjnkogkpdbgohaaGreatDoor
