/- Boxes of one's own that a loop writes: what is known of their blocks. -/
import Derived.Test.YtencfmipplgnkaaReg
namespace Go.Proofs.Ytencfmipplgnkaa
open Go.RowKit
/-- Block b holds these cells, and may be written. -/
def Blk3 (w : World) (b : Nat) (t : TypeId) (x y z : Int) : Prop := w.heap[b]? = some (.cells #[.int .i64 x, .int .i64 y, .int .i64 z] t (0, 0))
def Blk4 (w : World) (b : Nat) (t : TypeId) (x y z u : Int) : Prop := w.heap[b]? = some (.cells #[.int .i64 x, .int .i64 y, .int .i64 z, .int .i64 u] t (0, 0))
def Blk2 (w : World) (b : Nat) (t : TypeId) (x y : Int) : Prop := w.heap[b]? = some (.cells #[.int .i64 x, .int .i64 y] t (0, 0))
theorem Blk3.open_ {w : World} {b : Nat} {t : TypeId} {x y z : Int} (h : Blk3 w b t x y z) :
    (w.cell? ⟨b, 0, none⟩ = some (.int .i64 x) ∧ w.cell? ⟨b, 1, none⟩ = some (.int .i64 y) ∧ w.cell? ⟨b, 2, none⟩ = some (.int .i64 z)) ∧ (w.frozen? ⟨b, 0, none⟩ = false ∧ w.frozen? ⟨b, 1, none⟩ = false ∧ w.frozen? ⟨b, 2, none⟩ = false) ∧ b < w.heap.size :=
  ⟨⟨cell_of_blk h 0, cell_of_blk h 1, cell_of_blk h 2⟩, ⟨frozen_of_blk h 0, frozen_of_blk h 1, frozen_of_blk h 2⟩, lt_of_blk h⟩
theorem Blk4.open_ {w : World} {b : Nat} {t : TypeId} {x y z u : Int} (h : Blk4 w b t x y z u) :
    (w.cell? ⟨b, 0, none⟩ = some (.int .i64 x) ∧ w.cell? ⟨b, 1, none⟩ = some (.int .i64 y) ∧ w.cell? ⟨b, 2, none⟩ = some (.int .i64 z) ∧ w.cell? ⟨b, 3, none⟩ = some (.int .i64 u)) ∧ (w.frozen? ⟨b, 0, none⟩ = false ∧ w.frozen? ⟨b, 1, none⟩ = false ∧ w.frozen? ⟨b, 2, none⟩ = false ∧ w.frozen? ⟨b, 3, none⟩ = false) ∧ b < w.heap.size :=
  ⟨⟨cell_of_blk h 0, cell_of_blk h 1, cell_of_blk h 2, cell_of_blk h 3⟩, ⟨frozen_of_blk h 0, frozen_of_blk h 1, frozen_of_blk h 2, frozen_of_blk h 3⟩, lt_of_blk h⟩
theorem Blk2.open_ {w : World} {b : Nat} {t : TypeId} {x y : Int} (h : Blk2 w b t x y) :
    (w.cell? ⟨b, 0, none⟩ = some (.int .i64 x) ∧ w.cell? ⟨b, 1, none⟩ = some (.int .i64 y)) ∧ (w.frozen? ⟨b, 0, none⟩ = false ∧ w.frozen? ⟨b, 1, none⟩ = false) ∧ b < w.heap.size :=
  ⟨⟨cell_of_blk h 0, cell_of_blk h 1⟩, ⟨frozen_of_blk h 0, frozen_of_blk h 1⟩, lt_of_blk h⟩
theorem heap_below {w w' : World} {b : Nat} {o : Obj} (h : w.heap[b]? = some o) (hb : Below w.heap.size w w') : w'.heap[b]? = some o := by
  rw [← h]; exact hb.block _ (lt_of_blk h)
theorem heap_alloc {w : World} {b : Nat} {o p : Obj} (h : w.heap[b]? = some o) : (w.alloc p).heap[b]? = some o := by
  have := lt_of_blk h
  show (w.heap.push p)[b]? = _
  rw [Array.getElem?_push, if_neg (by omega)]; exact h
theorem heap_new {w : World} {p : Obj} : (w.alloc p).heap[w.heap.size]? = some p := by
  show (w.heap.push p)[w.heap.size]? = _
  simp
theorem heap_new' {w : World} {p : Obj} {b : Nat} (h : b = w.heap.size) : (w.alloc p).heap[b]? = some p := by subst h; exact heap_new
theorem heap_drewN {w : World} {b n : Nat} {o : Obj} (h : w.heap[b]? = some o) : (w.drewN n).heap[b]? = some o := h
theorem heap_set3 {w : World} {b : Nat} {t : TypeId} {u0 u1 u2 : Value} {x y z : Int} (h : w.heap[b]? = some (.cells #[u0, u1, u2] t (0, 0))) :
    Blk3 (((w.setCell ⟨b, 0, none⟩ (.int .i64 x)).setCell ⟨b, 1, none⟩ (.int .i64 y)).setCell ⟨b, 2, none⟩ (.int .i64 z)) b t x y z := by
  unfold Blk3
  simpa using heap_set_same (o := 2) (v := .int .i64 z) (heap_set_same (o := 1) (v := .int .i64 y) (heap_set_same (o := 0) (v := .int .i64 x) h))
theorem heap_set4 {w : World} {b : Nat} {t : TypeId} {u0 u1 u2 u3 : Value} {x y z u : Int} (h : w.heap[b]? = some (.cells #[u0, u1, u2, u3] t (0, 0))) :
    Blk4 ((((w.setCell ⟨b, 0, none⟩ (.int .i64 x)).setCell ⟨b, 1, none⟩ (.int .i64 y)).setCell ⟨b, 2, none⟩ (.int .i64 z)).setCell ⟨b, 3, none⟩ (.int .i64 u)) b t x y z u := by
  unfold Blk4
  simpa using heap_set_same (o := 3) (v := .int .i64 u) (heap_set_same (o := 2) (v := .int .i64 z) (heap_set_same (o := 1) (v := .int .i64 y) (heap_set_same (o := 0) (v := .int .i64 x) h)))
theorem heap_set2 {w : World} {b : Nat} {t : TypeId} {u0 u1 : Value} {x y : Int} (h : w.heap[b]? = some (.cells #[u0, u1] t (0, 0))) :
    Blk2 ((w.setCell ⟨b, 0, none⟩ (.int .i64 x)).setCell ⟨b, 1, none⟩ (.int .i64 y)) b t x y := by
  unfold Blk2
  simpa using heap_set_same (o := 1) (v := .int .i64 y) (heap_set_same (o := 0) (v := .int .i64 x) h)
theorem heap_keep {w : World} {b b' o : Nat} {v : Value} {p : Obj} (h : w.heap[b]? = some p) (hne : b ≠ b') : (w.setCell ⟨b', o, none⟩ v).heap[b]? = some p := by
  rw [heap_set_other hne]; exact h
end Go.Proofs.Ytencfmipplgnkaa
