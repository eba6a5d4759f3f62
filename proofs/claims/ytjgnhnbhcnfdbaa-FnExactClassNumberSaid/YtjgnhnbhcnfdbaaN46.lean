/- Plain: cycles, equivalence, class numbers. -/
import Derived.Test.YtjgnhnbhcnfdbaaN45
namespace Go.Proofs.Ytjgnhnbhcnfdbaa
structure CycOk (f : F3) : Prop where
  sm : Small f.x f.y f.z
  ok : NextOk f.x f.y f.z
theorem cyc_ok {D : Int} {f : F3} (hD : 0 < D) (h2 : D ≤ 2000) (hn : isqrt D * isqrt D ≠ D) (h : Cyc D f) : CycOk f := by
  have hs := cyc_small hD h2 hn h
  exact ⟨hs, next_ok hs (by rw [h.d]; exact hD) (cyc_z hD hn h).z0⟩
theorem itN_ok {D : Int} {f : F3} (hD : 0 < D) (h2 : D ≤ 2000) (hn : isqrt D * isqrt D ≠ D) (h : Cyc D f) (k : Nat) : CycOk (itN f k) := cyc_ok hD h2 hn (itN_cyc hD hn h k)
open Classical in
/-- The cycle of a form, if there is one. -/
noncomputable def cycR (f : F3) : List F3 := if h : ∃ N, Period f N then cycL f h.choose else []
theorem cycR_eq {f : F3} {N : Nat} (h : Period f N) : cycR f = cycL f N := by
  have hx : ∃ N, Period f N := ⟨N, h⟩
  unfold cycR
  rw [dif_pos hx, hx.choose_spec.uniq h]
theorem cycR_len (f : F3) : (cycR f).length ≤ 10000 := by
  unfold cycR
  split
  · rename_i h
    rw [cycL_len]; exact h.choose_spec.n2
  · simp
theorem eqF {f g : F3} : (f.x == g.x && (f.y == g.y && f.z == g.z)) = decide (f = g) := by
  obtain ⟨a, b, c⟩ := f
  obtain ⟨a', b', c'⟩ := g
  rw [Bool.eq_iff_iff]
  simp
/-- A reduced indefinite form with a small discriminant. -/
structure IsCyc (f : F3) : Prop where
  d0 : 0 < disc f.x f.y f.z
  d1 : disc f.x f.y f.z ≤ 2000
  ns : isqrt (disc f.x f.y f.z) * isqrt (disc f.x f.y f.z) ≠ disc f.x f.y f.z
  cy : Cyc (disc f.x f.y f.z) f
theorem IsCyc.period {f : F3} (h : IsCyc f) : ∃ N, Period f N := cyc_period h.d0 h.d1 h.ns h.cy
theorem IsCyc.all {f : F3} (h : IsCyc f) (k : Nat) : CycOk (itN f k) := itN_ok h.d0 h.d1 h.ns h.cy k
theorem IsCyc.it {f : F3} (h : IsCyc f) (k : Nat) : IsCyc (itN f k) := by
  have hc := itN_cyc h.d0 h.ns h.cy k
  refine ⟨?_, ?_, ?_, ?_⟩ <;> rw [hc.d]
  · exact h.d0
  · exact h.d1
  · exact h.ns
  · exact hc
theorem fall_isCyc {d : Int} {f : F3} (hd : 0 < d) (h2 : d ≤ 2000) (hn : sqB d = false) (h : f ∈ fall d 101) : IsCyc f := by
  have hc := fall_cyc hd h
  refine ⟨?_, ?_, ?_, ?_⟩ <;> rw [hc.d]
  · exact hd
  · exact h2
  · simpa [sqB] using hn
  · exact hc
/-- The first i forms: those met on their cycles, and how many cycles there are. -/
noncomputable def clsN (L : List F3) : Nat → List F3 × Int
  | 0 => ([], 0)
  | i + 1 => if L.getD i ⟨0, 0, 0⟩ ∈ (clsN L i).1 then clsN L i else ((clsN L i).1 ++ cycR (L.getD i ⟨0, 0, 0⟩), (clsN L i).2 + 1)
theorem clsN_in {L : List F3} {i : Nat} (h : L.getD i ⟨0, 0, 0⟩ ∈ (clsN L i).1) : clsN L (i + 1) = clsN L i := by
  show (if _ then _ else _) = _
  rw [if_pos h]
theorem clsN_out {L : List F3} {i : Nat} (h : ¬ L.getD i ⟨0, 0, 0⟩ ∈ (clsN L i).1) : clsN L (i + 1) = ((clsN L i).1 ++ cycR (L.getD i ⟨0, 0, 0⟩), (clsN L i).2 + 1) := by
  show (if _ then _ else _) = _
  rw [if_neg h]
theorem clsN_bd (L : List F3) (i : Nat) : 0 ≤ (clsN L i).2 ∧ (clsN L i).2 ≤ i ∧ (clsN L i).1.length ≤ i * 10000 := by
  induction i with
  | zero => simp [clsN]
  | succ i ih =>
    by_cases h : L.getD i ⟨0, 0, 0⟩ ∈ (clsN L i).1
    · rw [clsN_in h]; omega
    · rw [clsN_out h]
      have := cycR_len (L.getD i ⟨0, 0, 0⟩)
      simp only [List.length_append]
      omega
noncomputable def clsRes (d : Int) : Int × Int := if toldB d = true then (if d < 0 then (((fall d 101).length : Nat), 0) else ((clsN (fall d 101) (fall d 101).length).2, 0)) else (0, 2)
end Go.Proofs.Ytjgnhnbhcnfdbaa
