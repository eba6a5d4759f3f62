/- Contracts: rows of words, sorted and without doubles. -/
import Derived.Test.YtencfmipplgnkaaRow3
import Derived.Test.YtencfmipplgnkaaShC
import Derived.Test.YtencfmipplgnkaaNa
import Derived.Sort.OwnSorted
namespace Go.Proofs.Ytencfmipplgnkaa
open Go.RowKit Go.Sort
def strW (l : List (List Bool)) : List Value := l.map fun x => .string (wS x)
theorem strW_enc (l : List (List Bool)) : strW l = (l.map bs).map encStr := by simp [strW, wS]
theorem elSt : Elem Try.prog 89 9 (.string ⟨#[]⟩) 1 16 := elem_of Try.underlying89 (by kernel_rfl) rfl (by omega) (by omega)
theorem own_shrink {w : World} {B g n m cap : Nat} {E : TypeId} {xs ys : List Value} (h : w.ownsRow B E 1 (.slice (some ⟨g, 0, none⟩) n cap) n (xs ++ ys)) (hm : xs.length = m) : w.ownsRow B E 1 (.slice (some ⟨g, 0, none⟩) m cap) m xs := by
  obtain ⟨h1, h2⟩ := h
  rcases h2 with ⟨e, -⟩ | ⟨g', cap', cur, e, hB, hh, hle, hmax, hs, ht⟩
  · cases e
  · injection e with e1 e2 e3
    injection e1 with e1
    injection e1 with e1
    subst e1; subst e3
    have hl : m ≤ n := by simp at h1; omega
    refine ⟨by omega, .inr ⟨g, cap, cur, rfl, hB, hh, by omega, hmax, hs, ?_⟩⟩
    rw [Nat.mul_one] at ht ⊢
    have : cur.toList.take m = (cur.toList.take n).take m := by rw [List.take_take, Nat.min_eq_left hl]
    rw [this, ht, ← hm, List.take_left']
    rfl
theorem grow_none (w : World) : w = grow w #[] := by cases w; simp [grow]
theorem sortW_own (v : Value) (B n : Nat) (xs : List (List UInt8)) (w : World) (hl : xs.length = n) (hn : n ≤ 1000000000) (h : w.ownsRow B 9 1 v n (xs.map encStr)) :
    Calls Try.prog 77 #[v] w fun e w' => e = .returned (.tuple #[]) ∧ w'.ownsRow B 9 1 v n ((xs.mergeSort fun x y => decide (x ≤ y)).map encStr) ∧ w.grownBy w' v.ownBlock := by
  subst hl
  obtain ⟨h1, h2⟩ := h
  rcases h2 with ⟨rfl, h0⟩ | ⟨g, cap, cur, rfl, hB, hh, hle, hmax, hs, ht⟩
  · have hx : xs = [] := List.eq_nil_of_length_eq_zero h0
    subst hx
    refine (sh_slices_Sort_string_none none 0 w).mono ?_
    rintro e w' ⟨rfl, rfl⟩
    exact ⟨rfl, ⟨by simp, .inl ⟨rfl, rfl⟩⟩, grown_refl' _ _⟩
  · rw [Nat.mul_one] at ht
    refine (sh_slices_Sort_string g 0 cap xs w (holds_of_block hh ht) (lt_of_blk hh) (by omega)).mono ?_
    rintro e w' ⟨rfl, m, os, rfl⟩
    exact ⟨rfl, ownsRow_sorted (ss := xs) (ts := xs.mergeSort fun x y => decide (x ≤ y)) (by simp) hB hh hle hmax hs, grownBy_sorted _⟩
theorem compactW_own (v : Value) (B n : Nat) (xs : List (List UInt8)) (w : World) (hl : xs.length = n) (hn : n ≤ 1000000000) (h : w.ownsRow B 9 1 v n (xs.map encStr)) :
    Calls Try.prog 78 #[v] w fun e w' => ∃ v', e = .returned v' ∧ w'.ownsRow B 9 1 v' (Lib.compact xs).length ((Lib.compact xs).map encStr) ∧ w.grownBy w' v.ownBlock ∧ (∀ k, v'.ownBlock = some k → v.ownBlock = some k) := by
  subst hl
  obtain ⟨h1, h2⟩ := h
  rcases h2 with ⟨rfl, h0⟩ | ⟨g, cap, cur, rfl, hB, hh, hle, hmax, hs, ht⟩
  · have hx : xs = [] := List.eq_nil_of_length_eq_zero h0
    subst hx
    refine (sh_slices_Compact_string_empty none 0 w).mono ?_
    rintro e w' ⟨rfl, rfl⟩
    exact ⟨_, rfl, by rw [show Lib.compact ([] : List (List UInt8)) = [] from rfl]; exact World.ownsRow_nil _ _ _ _, grown_refl' _ _, fun k hk => hk⟩
  · rw [Nat.mul_one] at ht
    refine (sh_slices_Compact_string g 0 cap xs w (holds_of_block hh ht) (by omega) hle).mono ?_
    rintro e w' ⟨rfl, q, rfl⟩
    rw [grow_none (putRow _ _ _ _ _)]
    refine ⟨_, rfl, ?_, grownBy_sorted _, fun k hk => hk⟩
    have := ownsRow_sorted (w := w) (n := q) (os := #[]) (ss := xs) (ts := Lib.compact xs ++ List.replicate (xs.length - (Lib.compact xs).length) []) (by have := Lib.compact_length_le xs; simp; omega) hB hh hle hmax hs
    rw [List.map_append] at this
    exact own_shrink (m := (Lib.compact xs).length) this (List.length_map _)
end Go.Proofs.Ytencfmipplgnkaa
