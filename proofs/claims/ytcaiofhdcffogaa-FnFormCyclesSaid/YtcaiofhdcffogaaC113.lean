/- Forms as keys of a map: what they read as; the law on them. -/
import Derived.Test.YtcaiofhdcffogaaC92
import Derived.Maps.OwnOps
import Derived.Maps.Views
import Derived.DeepKeys4
namespace Go.Proofs.Ytcaiofhdcffogaa
open Go.RowKit Go.Maps
theorem formT_und : Try.prog.underlying 34 = some (.array 3 2) := by kernel_rfl
theorem intT_und : Try.prog.underlying 2 = some (.int .i64) := by kernel_rfl
theorem formT_cells : Try.prog.cellsOf 34 = 3 := by kernel_rfl
theorem intT_cells : Try.prog.cellsOf 2 = 1 := by kernel_rfl
theorem formT_key : Try.prog.keyType 34 = true := by kernel_rfl
theorem formT_laid : laidOutB Try.prog = true := by kernel_rfl
theorem ble_le {a n : Nat} (h : Nat.ble a n = true) : a ≤ n := Nat.le_of_ble_eq_true h
theorem ble_lt {a n : Nat} (h : Nat.ble (a + 1) n = true) : a < n := Nat.le_of_ble_eq_true h
set_option maxRecDepth 1000000
theorem formT_row : Nat.ble (34 + 1) Try.prog.types.size = true := by kernel_rfl
theorem formT_small : Nat.ble (Try.prog.types.size + 1 + 1) 10000 = true := by kernel_rfl
theorem formT_row' : (34 : TypeId) < Try.prog.types.size := by exact ble_lt formT_row
theorem formT_small' : Try.prog.types.size + 1 + 1 ≤ 10000 := by exact ble_le formT_small
set_option maxRecDepth 100000 in
theorem formT_keyed : Keyed Try.prog 34 := Keyed.of_law (deep_law_laid formT_laid (m := Try.prog.types.size + 1) formT_small' formT_row' formT_key (by rw [formT_und]))
/-- What a form reads as. -/
def formLit (a b c : Int) : Lit := .string (keyBytes [.int .i64 a, .int .i64 b, .int .i64 c])
theorem key_int (d : Nat) {x : Int} (h : (Lit.int .i64 x).wf = true) : Try.prog.keyLits (d + 1) 2 [(.int .i64 x)] = some [.int .i64 x] := by
  unfold Program.keyLits
  rw [intT_und]
  simp [h]
theorem key_form {a b c : Int} (ha : (Lit.int .i64 a).wf = true) (hb : (Lit.int .i64 b).wf = true) (hc : (Lit.int .i64 c).wf = true) : keyOf Try.prog 34 (.agg #[.int .i64 a, .int .i64 b, .int .i64 c]) = some (formLit a b c) := by
  unfold keyOf
  rw [formT_und]
  simp only
  have h1 : ((.agg #[.int .i64 a, .int .i64 b, .int .i64 c]) : Value).formed Try.prog 34 = true := by
    unfold Value.formed
    rw [formT_und]; simp [formT_cells]
  rw [if_pos (by rw [formT_key, h1]; rfl)]
  have h2 : Try.prog.keyLits (Try.prog.types.size + 1) 34 ((.agg #[.int .i64 a, .int .i64 b, .int .i64 c]) : Value).cells.toList = some [.int .i64 a, .int .i64 b, .int .i64 c] := by
    obtain ⟨d, hd⟩ : ∃ d, Try.prog.types.size = d + 1 := ⟨Try.prog.types.size - 1, (Nat.sub_add_cancel (show 1 ≤ Try.prog.types.size from Nat.le_of_ble_eq_true (by kernel_rfl))).symm⟩
    rw [hd]
    unfold Program.keyLits
    rw [formT_und]
    simp [Value.cells, formT_cells, intT_cells, List.range_succ, key_int d ha, key_int d hb, key_int d hc]
  rw [h2]
  rfl
theorem form_inj {a b c x y z : Int} (ha : (Lit.int .i64 a).wf = true) (hb : (Lit.int .i64 b).wf = true) (hc : (Lit.int .i64 c).wf = true) (hx : (Lit.int .i64 x).wf = true) (hy : (Lit.int .i64 y).wf = true) (hz : (Lit.int .i64 z).wf = true) (h : formLit a b c = formLit x y z) : a = x ∧ b = y ∧ c = z := by
  have h1 := key_form ha hb hc
  have h2 := key_form hx hy hz
  rw [h] at h1
  have := formT_keyed.inj h1 h2
  simpa using this
end Go.Proofs.Ytcaiofhdcffogaa
