/- Contracts: RootOf, the program's own (written by gen_c81.py). -/
import Derived.Test.YtencfmipplgnkaaC80
import Derived.Test.YtencfmipplgnkaaN44
namespace Go.Proofs.Ytencfmipplgnkaa
open Go.RowKit
noncomputable def rtR (a b c d : Int) : (Q4 × Int) × Int := if kcode a b c d 3 = 0 then (rootR (posM a b c d) ((posM a b c d).a + (posM a b c d).d) 40, 0) else ((⟨0, 0, 0, 0⟩, 0), kcode a b c d 3)
theorem three_tr {a b c d : Int} (h : kindOf a b c d = 3) : a + d ≤ -3 ∨ 3 ≤ a + d := by
  unfold kindOf at h
  split at h
  · omega
  · split at h
    · omega
    · split at h
      · omega
      · omega
structure MBd (A B C D : Int) : Prop where
  a : -1000000000 ≤ A ∧ A ≤ 1000000000
  b : -1000000000 ≤ B ∧ B ≤ 1000000000
  c : -1000000000 ≤ C ∧ C ≤ 1000000000
  d : -1000000000 ≤ D ∧ D ≤ 1000000000
  t : 3 ≤ A + D
theorem posM_bd {a b c d : Int} (h : IsMat a b c d) (h3 : kindOf a b c d = 3) : MBd (posM a b c d).a (posM a b c d).b (posM a b c d).c (posM a b c d).d := by
  obtain ⟨h1, h2, h4, h5, h6, h7, h8, h9, _⟩ := h
  have := three_tr h3
  unfold posM
  split <;> (constructor <;> simp only <;> omega)
theorem posM_mat {a b c d : Int} (h : IsMat a b c d) : IsMat (posM a b c d).a (posM a b c d).b (posM a b c d).c (posM a b c d).d := by
  obtain ⟨h1, h2, h4, h5, h6, h7, h8, h9, hd⟩ := h
  unfold posM
  split
  · exact ⟨by simp only; omega, by simp only; omega, by simp only; omega, by simp only; omega, by simp only; omega, by simp only; omega, by simp only; omega, by simp only; omega, by simp only [Int.neg_mul_neg]; exact hd⟩
  · exact ⟨h1, h2, h4, h5, h6, h7, h8, h9, hd⟩
structure QBd (x u : Int) : Prop where
  lo : -3000000000 ≤ x.tdiv u
  hi : x.tdiv u ≤ 3000000000
theorem qBd {x u : Int} (h : -3000000000 ≤ x ∧ x ≤ 3000000000) : QBd x u := by
  have := Int.natAbs_tdiv_le_natAbs x u
  constructor <;> omega
theorem tmod_b {x u : Int} {v : Bool} (h : (x.tmod u == 0) = v) : v = true ↔ x % u = 0 := by
  rw [← h, beq_iff_eq, tmod_emod]
end Go.Proofs.Ytencfmipplgnkaa
