/- Plain: tiers: the fractions of all paths of one length, sorted. -/
import Derived.Test.YtjnkogkpdbgohaaGreatDoorM20
import Derived.Test.YtjnkogkpdbgohaaGreatDoorM11
namespace Go.Proofs.YtjnkogkpdbgohaaGreatDoor
open Go.Sort
/-- A fraction of a tier. -/
structure TF where
  x : Int
  y : Int
  x0 : 0 ≤ x
  x1 : x ≤ 1000000
  y0 : 0 < y
  y1 : y ≤ 1000000
  g : Int.gcd x y = 1
instance : Inhabited TF := ⟨⟨0, 1, by omega, by omega, by omega, by omega, by decide⟩⟩
def tfIn (q : P2) : Prop := 0 ≤ q.x ∧ q.x ≤ 1000000 ∧ 0 < q.y ∧ q.y ≤ 1000000 ∧ Int.gcd q.x q.y = 1
instance (q : P2) : Decidable (tfIn q) := by unfold tfIn; infer_instance
def toTF (q : P2) : TF := if h : tfIn q then ⟨q.x, q.y, h.1, h.2.1, h.2.2.1, h.2.2.2.1, h.2.2.2.2⟩ else default
def ofTF (t : TF) : P2 := ⟨t.x, t.y⟩
theorem of_toTF {q : P2} (h : tfIn q) : ofTF (toTF q) = q := by unfold toTF; rw [dif_pos h]; rfl
theorem of_toTF_all {l : List P2} (h : ∀ q ∈ l, tfIn q) : (l.map toTF).map ofTF = l := by
  rw [List.map_map]
  conv => rhs; rw [← List.map_id l]
  exact List.map_congr_left fun q hq => of_toTF (h q hq)
theorem TF.ext' {a b : TF} (h1 : a.x = b.x) (h2 : a.y = b.y) : a = b := by
  cases a; cases b; simp only at h1 h2; subst h1; subst h2; rfl
def cfT (a b : TF) : Int := sg (a.x * b.y - b.x * a.y)
theorem ltT (a b : TF) : ltOf cfT a b = decide (a.x * b.y < b.x * a.y) := by
  unfold ltOf cfT
  rw [Bool.eq_iff_iff, decide_eq_true_eq, decide_eq_true_eq, sg_neg]
  omega
theorem swoT : SWO (ltOf cfT) where
  irrefl a := by rw [ltT]; simp
  trans a b c h1 h2 := by
    rw [ltT, decide_eq_true_eq] at *
    have e1 := Int.mul_lt_mul_of_pos_right h1 c.y0
    have e2 := Int.mul_lt_mul_of_pos_right h2 a.y0
    refine Int.lt_of_mul_lt_mul_right (a := b.y) ?_ (by have := b.y0; omega)
    have e3 : a.x * b.y * c.y = a.x * c.y * b.y := by grind
    have e4 : b.x * a.y * c.y = b.x * c.y * a.y := by grind
    have e5 : c.x * b.y * a.y = c.x * a.y * b.y := by grind
    omega
  ntrans a b c h1 h2 := by
    rw [ltT, decide_eq_false_iff_not] at *
    have e1 := Int.mul_le_mul_of_nonneg_right (Int.not_lt.1 h1) (show 0 ≤ c.y by have := c.y0; omega)
    have e2 := Int.mul_le_mul_of_nonneg_right (Int.not_lt.1 h2) (show 0 ≤ a.y by have := a.y0; omega)
    refine Int.not_lt.2 (Int.le_of_mul_le_mul_right (a := b.y) ?_ b.y0)
    have e3 : a.x * b.y * c.y = a.x * c.y * b.y := by grind
    have e4 : b.x * a.y * c.y = b.x * c.y * a.y := by grind
    have e5 : c.x * b.y * a.y = c.x * a.y * b.y := by grind
    omega
theorem partT (a b : TF) (h1 : ltOf cfT a b = false) (h2 : ltOf cfT b a = false) : a = b := by
  rw [ltT, decide_eq_false_iff_not] at h1 h2
  have e : a.x * b.y = b.x * a.y := by omega
  have ha : Nat.Coprime a.x.natAbs a.y.natAbs := a.g
  have hb : Nat.Coprime b.x.natAbs b.y.natAbs := b.g
  have d1 : a.y.natAbs ∣ b.y.natAbs := by
    refine ha.symm.dvd_of_dvd_mul_left ?_
    rw [← Int.natAbs_mul, e, Int.natAbs_mul]
    exact Nat.dvd_mul_left _ _
  have d2 : b.y.natAbs ∣ a.y.natAbs := by
    refine hb.symm.dvd_of_dvd_mul_left ?_
    rw [← Int.natAbs_mul, ← e, Int.natAbs_mul]
    exact Nat.dvd_mul_left _ _
  have hy := Nat.dvd_antisymm d1 d2
  have y0 := a.y0
  have y0' := b.y0
  have hyy : a.y = b.y := by omega
  refine TF.ext' ?_ hyy
  rw [hyy] at e
  exact Int.eq_of_mul_eq_mul_right (by omega) e
/-- All paths of n letters, in the program's order. -/
def pathsL : Nat → List (List Bool)
  | 0 => [[]]
  | k + 1 => (pathsL k).flatMap fun p => [p ++ [true], p ++ [false]]
def medP (p : List Bool) : P2 := ⟨(fol p ⟨0, 1, 1, 0⟩).a + (fol p ⟨0, 1, 1, 0⟩).c, (fol p ⟨0, 1, 1, 0⟩).b + (fol p ⟨0, 1, 1, 0⟩).d⟩
def pairB : List P2 → Bool
  | [] => true
  | a :: l => l.all (fun b => decide (a.x * b.y < b.x * a.y)) && pairB l
def tierOk (n : Nat) : Bool := ((pathsL n).map medP).isPerm (tierL n ⟨0, 1, 1, 0⟩) && (pairB (tierL n ⟨0, 1, 1, 0⟩) && (tierL n ⟨0, 1, 1, 0⟩).all fun q => decide (tfIn q))
set_option maxRecDepth 1000000 in
theorem tierOk_all : (List.range 8).all tierOk = true := by decide +kernel
theorem pairB_pw : ∀ {l : List P2}, pairB l = true → l.Pairwise fun a b => a.x * b.y < b.x * a.y
  | [], _ => .nil
  | a :: l, h => by
    simp only [pairB, Bool.and_eq_true] at h
    exact .cons (fun b hb => by have := List.all_eq_true.1 h.1 b hb; exact of_decide_eq_true this) (pairB_pw h.2)
structure TierOk (n : Nat) : Prop where
  perm : ((pathsL n).map medP).Perm (tierL n ⟨0, 1, 1, 0⟩)
  pw : (tierL n ⟨0, 1, 1, 0⟩).Pairwise fun a b => a.x * b.y < b.x * a.y
  inn : ∀ q ∈ tierL n ⟨0, 1, 1, 0⟩, tfIn q
theorem tier_ok {n : Nat} (h : n ≤ 7) : TierOk n := by
  have := List.all_eq_true.1 tierOk_all n (by simp; omega)
  simp only [tierOk, Bool.and_eq_true] at this
  exact ⟨List.isPerm_iff.1 this.1, pairB_pw this.2.1, fun q hq => of_decide_eq_true (List.all_eq_true.1 this.2.2 q hq)⟩
theorem medP_in {n : Nat} (h : n ≤ 7) {p : List Bool} (hp : p ∈ pathsL n) : tfIn (medP p) :=
  (tier_ok h).inn _ ((tier_ok h).perm.mem_iff.1 (List.mem_map_of_mem hp))
/-- The sorted row. -/
theorem tier_sorted {n : Nat} (h : n ≤ 7) : (((pathsL n).map fun p => toTF (medP p)).mergeSort fun x y => !(ltOf cfT) y x) = (tierL n ⟨0, 1, 1, 0⟩).map toTF := by
  obtain ⟨hp, hw, hi⟩ := tier_ok h
  refine List.Perm.eq_of_pairwise (le := fun x y => (!(ltOf cfT) y x) = true) ?_ ?_ ?_ ?_
  · intro a b _ _ h1 h2
    simp only [Bool.not_eq_true'] at h1 h2
    exact partT a b h2 h1
  · refine List.pairwise_mergeSort (le := fun x y => !(ltOf cfT) y x) (fun a b c h1 h2 => ?_) (fun a b => ?_) _
    · simp only [Bool.not_eq_true'] at *
      exact swoT.ntrans c b a h2 h1
    · cases h1 : ltOf cfT b a
      · simp
      · cases h2 : ltOf cfT a b
        · simp
        · have := swoT.trans a b a h2 h1
          rw [swoT.irrefl] at this; cases this
  · rw [List.pairwise_map]
    refine hw.imp_of_mem fun ha hb hab => ?_
    have ea := of_toTF (hi _ ha)
    have eb := of_toTF (hi _ hb)
    rw [Bool.not_eq_true', ltT, decide_eq_false_iff_not]
    rename_i a b
    have e1 : (toTF a).x = a.x := congrArg P2.x ea
    have e2 : (toTF a).y = a.y := congrArg P2.y ea
    have e3 : (toTF b).x = b.x := congrArg P2.x eb
    have e4 : (toTF b).y = b.y := congrArg P2.y eb
    rw [e1, e2, e3, e4]
    omega
  · refine (List.mergeSort_perm _ _).trans ?_
    have := hp.map toTF
    rwa [List.map_map] at this
end Go.Proofs.YtjnkogkpdbgohaaGreatDoor
