/- Contracts: values of a form, sorted and without doubles. -/
import Derived.Test.YtcaiofhdcffogaaGreatRow
import Derived.Test.YtcaiofhdcffogaaGreatSh
import Derived.Sort.OwnSortedInts
import Derived.Lib.RowBridge
namespace Go.Proofs.YtcaiofhdcffogaaGreat
open Go.RowKit Go.Sort
theorem own_shrink {w : World} {B g n m cap : Nat} {E : TypeId} {xs ys : List Value} (h : w.ownsRow B E 1 (.slice (some ⟨g, 0, none⟩) n cap) n (xs ++ ys)) (hm : xs.length = m) : w.ownsRow B E 1 (.slice (some ⟨g, 0, none⟩) m cap) m xs := by
  obtain ⟨h1, h2⟩ := h
  rcases h2 with ⟨e, -⟩ | ⟨g', cap', cur, e, hB, hh, hle, hmax, hs, ht⟩
  · cases e
  · injection e with e1 e2 e3
    injection e1 with e1
    injection e1 with e1
    subst e1; subst e3
    have hl : m ≤ n := by simp at h1; omega
    refine ⟨by omega, .inr ⟨g, cap, cur, rfl, hB, hh, by omega, hmax, hs, ?_⟩⟩
    rw [Nat.mul_one] at ht ⊢
    have : cur.toList.take m = (cur.toList.take n).take m := by rw [List.take_take, Nat.min_eq_left hl]
    rw [this, ht, ← hm, List.take_left']
    rfl
theorem sortS_own (v : Value) (B n : Nat) (xs : List Int) (w : World) (hl : xs.length = n) (hn : n ≤ 1000000000) (h : w.ownsRow B 2 1 v n (ints xs)) :
    Calls Tryz.prog 54 #[v] w fun e w' => e = .returned (.tuple #[]) ∧ w'.ownsRow B 2 1 v n (ints (xs.mergeSort fun x y => decide (x ≤ y))) ∧ w.grownBy w' v.ownBlock := by
  subst hl
  obtain ⟨h1, h2⟩ := h
  rcases h2 with ⟨rfl, h0⟩ | ⟨g, cap, cur, rfl, hB, hh, hle, hmax, hs, ht⟩
  · have hx : xs = [] := List.eq_nil_of_length_eq_zero h0
    subst hx
    refine (sh_slices_Sort_int_none none 0 w).mono ?_
    rintro e w' ⟨rfl, rfl⟩
    exact ⟨rfl, ⟨by simp [ints], .inl ⟨rfl, rfl⟩⟩, grown_refl' _ _⟩
  · rw [Nat.mul_one] at ht
    refine (sh_slices_Sort_int g 0 cap xs w (holds_of_blockI hh ht) (lt_of_blk hh) (by omega)).mono ?_
    rintro e w' ⟨rfl, m, os, rfl⟩
    exact ⟨rfl, ownsRow_sortedI (ss := xs) (ts := xs.mergeSort fun x y => decide (x ≤ y)) (by simp) hB hh hle hmax hs, grownBy_sortedI _⟩
theorem own_baseV {w : World} {B B' z n : Nat} {E : TypeId} {v : Value} {xs : List Value} (h : w.ownsRow B E z v n xs) (hB : B' ≤ B) : w.ownsRow B' E z v n xs := by
  obtain ⟨h1, h2⟩ := h
  refine ⟨h1, ?_⟩
  rcases h2 with h2 | ⟨g, c, cur, he, hb, hr⟩
  · exact .inl h2
  · exact .inr ⟨g, c, cur, he, Nat.le_trans hB hb, hr⟩
theorem elV : Elem Tryz.prog 45 2 (.int .i64 0) 1 8 := elem_of Tryz.underlying45 (by kernel_rfl) rfl (by omega) (by omega)
theorem ints_setV (l : List Int) (i : Nat) (x : Int) : (ints l).set i (.int .i64 x) = ints (l.set i x) := by simp [ints, List.map_set]
theorem grow_none (w : World) : w = grow w #[] := by cases w; simp [grow]
theorem compactI_own (v : Value) (B n : Nat) (xs : List Int) (w : World) (hl : xs.length = n) (hn : n ≤ 1000000000) (h : w.ownsRow B 2 1 v n (ints xs)) :
    Calls Tryz.prog 55 #[v] w fun e w' => ∃ v', e = .returned v' ∧ w'.ownsRow B 2 1 v' (Lib.compact xs).length (ints (Lib.compact xs)) ∧ w.grownBy w' v.ownBlock := by
  subst hl
  obtain ⟨h1, h2⟩ := h
  rcases h2 with ⟨rfl, h0⟩ | ⟨g, cap, cur, rfl, hB, hh, hle, hmax, hs, ht⟩
  · have hx : xs = [] := List.eq_nil_of_length_eq_zero h0
    subst hx
    refine (sh_slices_Compact_int_empty none 0 w).mono ?_
    rintro e w' ⟨rfl, rfl⟩
    exact ⟨_, rfl, by rw [show Lib.compact ([] : List Int) = [] from rfl]; exact World.ownsRow_nil _ _ _ _, grown_refl' _ _⟩
  · rw [Nat.mul_one] at ht
    refine (sh_slices_Compact_int g 0 cap xs w (holds_of_blockI hh ht) (by omega) hle).mono ?_
    rintro e w' ⟨rfl, q, rfl⟩
    rw [grow_none (putRow _ _ _ _ _)]
    refine ⟨_, rfl, ?_, grownBy_sortedI _⟩
    have := ownsRow_sortedI (w := w) (n := q) (os := #[]) (ss := xs) (ts := Lib.compact xs ++ List.replicate (xs.length - (Lib.compact xs).length) 0) (by have := Lib.compact_length_le xs; simp; omega) hB hh hle hmax hs
    rw [List.map_append] at this
    exact own_shrink (m := (Lib.compact xs).length) this (List.length_map _)
end Go.Proofs.YtcaiofhdcffogaaGreat
