/- Contracts: lists of two matrices; their product. -/
import Derived.Test.YtjnkogkpdbgohaaGreatDoorC18
import Derived.Test.YtjnkogkpdbgohaaGreatDoorBox
namespace Go.Proofs.YtjnkogkpdbgohaaGreatDoor
open Go.RowKit
structure Cells8 (w : World) (bk : Nat) (a b c d a' b' c' d' : Int) : Prop where
  h0 : w.cell? ⟨bk, 0, none⟩ = some (.int .i64 a)
  h1 : w.cell? ⟨bk, 1, none⟩ = some (.int .i64 b)
  h2 : w.cell? ⟨bk, 2, none⟩ = some (.int .i64 c)
  h3 : w.cell? ⟨bk, 3, none⟩ = some (.int .i64 d)
  h4 : w.cell? ⟨bk, 4, none⟩ = some (.int .i64 a')
  h5 : w.cell? ⟨bk, 5, none⟩ = some (.int .i64 b')
  h6 : w.cell? ⟨bk, 6, none⟩ = some (.int .i64 c')
  h7 : w.cell? ⟨bk, 7, none⟩ = some (.int .i64 d')
  lt : bk < w.heap.size
def entM (p q r s : Int) : Bool := entB p && (entB q && (entB r && entB s))
theorem entM_iff {p q r s : Int} : entM p q r s = true ↔ (-1000000000 ≤ p ∧ p ≤ 1000000000) ∧ (-1000000000 ≤ q ∧ q ≤ 1000000000) ∧ (-1000000000 ≤ r ∧ r ≤ 1000000000) ∧ (-1000000000 ≤ s ∧ s ≤ 1000000000) := by simp [entM, entB_iff]
theorem entM_mat {a b c d : Int} (h : IsMat a b c d) : entM a b c d = true := by
  obtain ⟨a0, a1, b0, b1, c0, c1, d0, d1, _⟩ := h
  rw [entM_iff]; omega
theorem e24_mat {a b c d : Int} (h : IsMat a b c d) : E24 a b c d := by
  obtain ⟨a0, a1, b0, b1, c0, c1, d0, d1, _⟩ := h
  exact ⟨⟨by omega, by omega⟩, ⟨by omega, by omega⟩, ⟨by omega, by omega⟩, ⟨by omega, by omega⟩⟩
def valM (m : M4) : Value := (.agg #[.int .i64 m.p, .int .i64 m.q, .int .i64 m.r, .int .i64 m.s])
def entQ (m : M4) : Bool := entM m.p m.q m.r m.s
theorem e24_ent {m : M4} (h : entQ m = true) : E24 m.p m.q m.r m.s := by
  obtain ⟨h1, h2, h3, h4⟩ := entM_iff.1 h
  exact ⟨⟨by omega, by omega⟩, ⟨by omega, by omega⟩, ⟨by omega, by omega⟩, ⟨by omega, by omega⟩⟩
/-- The product, taken from the left, if no number is too great. -/
def prodF : List M4 → M4 → Option M4
  | [], p => some p
  | m :: l, p => if entQ (mulM p m) = true then prodF l (mulM p m) else none
def prodV (o : Option M4) : Value := match o with
  | some p => .tuple #[(.agg #[.int .i64 p.p, .int .i64 p.q, .int .i64 p.r, .int .i64 p.s]), (.int .i64 0)]
  | none => .tuple #[(.agg #[.int .i64 0, .int .i64 0, .int .i64 0, .int .i64 0]), (.int .i64 3)]
structure CellsM (w : World) (bk k : Nat) (m : M4) : Prop where
  h0 : w.cell? ⟨bk, k * 4, none⟩ = some (.int .i64 m.p)
  h1 : w.cell? ⟨bk, k * 4 + 1, none⟩ = some (.int .i64 m.q)
  h2 : w.cell? ⟨bk, k * 4 + 2, none⟩ = some (.int .i64 m.r)
  h3 : w.cell? ⟨bk, k * 4 + 3, none⟩ = some (.int .i64 m.s)
theorem CellsM.below {w w' : World} {bk k : Nat} {m : M4} (h : CellsM w bk k m) (hb : Below w.heap.size w w') (hl : bk < w.heap.size) : CellsM w' bk k m :=
  ⟨(hb.cell (p := ⟨bk, _, none⟩) hl).trans h.h0, (hb.cell (p := ⟨bk, _, none⟩) hl).trans h.h1, (hb.cell (p := ⟨bk, _, none⟩) hl).trans h.h2, (hb.cell (p := ⟨bk, _, none⟩) hl).trans h.h3⟩
end Go.Proofs.YtjnkogkpdbgohaaGreatDoor
