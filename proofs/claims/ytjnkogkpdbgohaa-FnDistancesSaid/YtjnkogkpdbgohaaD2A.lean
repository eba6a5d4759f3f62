/- What is known of blocks in a call that draws. -/
import Derived.Test.YtjnkogkpdbgohaaD1
import Derived.Deep.RegionHeld3
namespace Go.Proofs.Ytjnkogkpdbgohaa
open Go.RowKit
theorem Src.base {w w' : World} {n b : Nat} (h : Src w n b) (hb : Below w.heap.size w w') : Src w' n b ∧ w.grownBy w' (some b) := ⟨h.keep hb, grown_of_below hb⟩
theorem grown_below {n b : Nat} {w0 w w' : World} (h : Below n w0 w) (hs : Src w n b) (hg : w.grownBy w' (some b)) : Below n w0 w' :=
  h.trans (below_src hs hg hs.ge)
theorem blk_keep {b r : Nat} {w w' : World} {o : Obj} (h : w.heap[r]? = some o) (hg : w.grownBy w' (some b)) (hne : r ≠ b) : w'.heap[r]? = some o :=
  (hg.block r (lt_of_blk h) (fun e => hne (by injection e))).trans h
theorem blk_two {w : World} {r : Nat} {t : TypeId} {u v : Value} (h : w.heap[r]? = some (.cells #[u, v] t (0, 0))) :
    (w.cell? ⟨r, 0, none⟩ = some u ∧ w.cell? ⟨r, 1, none⟩ = some v) ∧ (w.frozen? ⟨r, 0, none⟩ = false ∧ w.frozen? ⟨r, 1, none⟩ = false) ∧ r < w.heap.size :=
  ⟨⟨cell_of_blk h 0, cell_of_blk h 1⟩, ⟨frozen_of_blk h 0, frozen_of_blk h 1⟩, lt_of_blk h⟩
theorem set2_e {w : World} {r : Nat} {t : TypeId} {u v x : Value} (h : w.heap[r]? = some (.cells #[u, v] t (0, 0))) : (w.setCell ⟨r, 0, none⟩ x).cell? ⟨r, 0, none⟩ = some x := by
  have := cell_of_blk (heap_set_same (o := 0) (v := x) h) 0
  simpa using this
theorem set2_0 {w : World} {r : Nat} {t : TypeId} {u v x y : Value} (h : w.heap[r]? = some (.cells #[u, v] t (0, 0))) : ((w.setCell ⟨r, 0, none⟩ x).setCell ⟨r, 1, none⟩ y).cell? ⟨r, 0, none⟩ = some x := by
  have := cell_of_blk (heap_set_same (o := 1) (v := y) (heap_set_same (o := 0) (v := x) h)) 0
  simpa using this
theorem set2_1 {w : World} {r : Nat} {t : TypeId} {u v x y : Value} (h : w.heap[r]? = some (.cells #[u, v] t (0, 0))) : ((w.setCell ⟨r, 0, none⟩ x).setCell ⟨r, 1, none⟩ y).cell? ⟨r, 1, none⟩ = some y := by
  have := cell_of_blk (heap_set_same (o := 1) (v := y) (heap_set_same (o := 0) (v := x) h)) 1
  simpa using this
/-- What is known within a call that draws: the source, and what has turned since w0. -/
structure InS (n b : Nat) (w0 w : World) : Prop where
  src : Src w n b
  grown : w0.grownBy w (some b)
  old : b < w0.heap.size
theorem InS.start {n b : Nat} {w : World} (hs : Src w n b) : InS n b w w := ⟨hs, grown_refl' _ _, hs.lt⟩
theorem InS.turn {n b : Nat} {w0 w w' : World} (h : InS n b w0 w) (hs : Src w' n b) (hg : w.grownBy w' (some b)) : InS n b w0 w' := ⟨hs, grown_trans' h.grown hg, h.old⟩
theorem InS.below {n b : Nat} {w0 w w' : World} (h : InS n b w0 w) (hb : Below w.heap.size w w') : InS n b w0 w' := h.turn (h.src.keep hb) (grown_of_below hb)
theorem InS.alloc {n b : Nat} {w0 w : World} (h : InS n b w0 w) (o : Obj) : InS n b w0 (w.alloc o) := h.below ((Below.refl _ w).alloc (Nat.le_refl _) o)
theorem InS.size {n b : Nat} {w0 w : World} (h : InS n b w0 w) : w0.heap.size ≤ w.heap.size := h.grown.size
theorem InS.set {n b : Nat} {w0 w : World} (h : InS n b w0 w) {r o : Nat} (v : Value) (hr : w0.heap.size ≤ r) : InS n b w0 (w.setCell ⟨r, o, none⟩ v) := by
  have hold := h.old
  have hb : Below r w (w.setCell ⟨r, o, none⟩ v) := (Below.refl r w).setCell (p := ⟨r, o, none⟩) (Nat.le_refl _) v
  have hg := h.src.ge
  obtain ⟨a, len, cap, j, hh, h3, h4, h5, h6, h7, h8⟩ := h.src
  have hblk : (w.setCell ⟨r, o, none⟩ v).heap[b]? = w.heap[b]? := Below.heap_setCell _ _ _ _ (by show b ≠ r; omega)
  exact ⟨⟨a, len, cap, j, hh, hblk.trans h3, h4, h5, h6, h7, h8.below (hb.mono (by omega))⟩,
    ⟨h.grown.os, h.grown.tape, h.grown.output, Nat.le_trans h.grown.size hb.size, fun k hk hkb => (hb.block k (by omega)).trans (h.grown.block k hk hkb)⟩, hold⟩
theorem InS.set4 {n b : Nat} {w0 w : World} (h : InS n b w0 w) {r : Nat} (x y z u : Value) (hr : w0.heap.size ≤ r) :
    InS n b w0 ((((w.setCell ⟨r, 0, none⟩ x).setCell ⟨r, 1, none⟩ y).setCell ⟨r, 2, none⟩ z).setCell ⟨r, 3, none⟩ u) :=
  (((h.set x hr).set y hr).set z hr).set u hr
theorem InS.drew {n b : Nat} {w0 w : World} (h : InS n b w0 w) : InS n b w0 w.drew := h.below ((Below.refl _ w).drew)
def RetI (e : Ending) : Prop := ∃ k : Int, e = .returned (.int .i64 k)
theorem Bytes.after {w w' : World} {n len : Nat} {a : Option Addr} (h : Bytes w n a len) (hb : Below n w w') : Bytes w' w'.heap.size a len := fun hl => by
  obtain ⟨b, o, ha, h1, h2, h3⟩ := h.below hb hl
  exact ⟨b, o, ha, h2, h2, h3⟩
theorem InS.belowN {n b m : Nat} {w w' : World} (h : InS n b w w') (hm : m ≤ b) : Below m w w' :=
  (Below.refl m w).grown h.grown (by have := h.old; omega) (fun k hk => by injection hk with hk; omega)
end Go.Proofs.Ytjnkogkpdbgohaa
