/- What is known of blocks in a call that draws. -/
import Derived.Test.YtjkemnnkgihefaaGreatD1
import Derived.Deep.RegionHeld3
namespace Go.Proofs.YtjkemnnkgihefaaGreat
open Go.RowKit
theorem Src.base {w w' : World} {n b : Nat} (h : Src w n b) (hb : Below w.heap.size w w') : Src w' n b ∧ w.grownBy w' (some b) := ⟨h.keep hb, grown_of_below hb⟩
theorem grown_below {n b : Nat} {w0 w w' : World} (h : Below n w0 w) (hs : Src w n b) (hg : w.grownBy w' (some b)) : Below n w0 w' :=
  h.trans (below_src hs hg hs.ge)
theorem blk_keep {b r : Nat} {w w' : World} {o : Obj} (h : w.heap[r]? = some o) (hg : w.grownBy w' (some b)) (hne : r ≠ b) : w'.heap[r]? = some o :=
  (hg.block r (lt_of_blk h) (fun e => hne (by injection e))).trans h
theorem blk_two {w : World} {r : Nat} {t : TypeId} {u v : Value} (h : w.heap[r]? = some (.cells #[u, v] t (0, 0))) :
    (w.cell? ⟨r, 0, none⟩ = some u ∧ w.cell? ⟨r, 1, none⟩ = some v) ∧ (w.frozen? ⟨r, 0, none⟩ = false ∧ w.frozen? ⟨r, 1, none⟩ = false) ∧ r < w.heap.size :=
  ⟨⟨cell_of_blk h 0, cell_of_blk h 1⟩, ⟨frozen_of_blk h 0, frozen_of_blk h 1⟩, lt_of_blk h⟩
theorem set2_e {w : World} {r : Nat} {t : TypeId} {u v x : Value} (h : w.heap[r]? = some (.cells #[u, v] t (0, 0))) : (w.setCell ⟨r, 0, none⟩ x).cell? ⟨r, 0, none⟩ = some x := by
  have := cell_of_blk (heap_set_same (o := 0) (v := x) h) 0
  simpa using this
theorem set2_0 {w : World} {r : Nat} {t : TypeId} {u v x y : Value} (h : w.heap[r]? = some (.cells #[u, v] t (0, 0))) : ((w.setCell ⟨r, 0, none⟩ x).setCell ⟨r, 1, none⟩ y).cell? ⟨r, 0, none⟩ = some x := by
  have := cell_of_blk (heap_set_same (o := 1) (v := y) (heap_set_same (o := 0) (v := x) h)) 0
  simpa using this
theorem set2_1 {w : World} {r : Nat} {t : TypeId} {u v x y : Value} (h : w.heap[r]? = some (.cells #[u, v] t (0, 0))) : ((w.setCell ⟨r, 0, none⟩ x).setCell ⟨r, 1, none⟩ y).cell? ⟨r, 1, none⟩ = some y := by
  have := cell_of_blk (heap_set_same (o := 1) (v := y) (heap_set_same (o := 0) (v := x) h)) 1
  simpa using this
end Go.Proofs.YtjkemnnkgihefaaGreat
