/- Plain: the matrices with small numbers, in their order. -/
import Derived.Test.YtencfmipplgnkaaNum
namespace Go.Proofs.Ytencfmipplgnkaa
structure Q4 where
  a : Int
  b : Int
  c : Int
  d : Int
def stepsL {α : Type} (n : Int) (f : Int → List α) : Nat → List α
  | 0 => []
  | m + 1 => stepsL n f m ++ f (m - n)
theorem stepsL_len {α : Type} (n : Int) (f : Int → List α) (K : Nat) (h : ∀ x, (f x).length ≤ K) : ∀ m, (stepsL n f m).length ≤ m * K
  | 0 => by simp [stepsL]
  | m + 1 => by
    have := stepsL_len n f K h m
    have := h (m - n)
    rw [stepsL, List.length_append, Nat.succ_mul]; omega
theorem stepsL_mem {α : Type} {n : Int} {f : Int → List α} {x : α} : ∀ {m : Nat}, x ∈ stepsL n f m → ∃ i : Nat, i < m ∧ x ∈ f (i - n)
  | 0, h => by simp [stepsL] at h
  | m + 1, h => by
    rw [stepsL, List.mem_append] at h
    rcases h with h | h
    · obtain ⟨i, h1, h2⟩ := stepsL_mem h
      exact ⟨i, by omega, h2⟩
    · exact ⟨m, by omega, h⟩
def mat1 (a b c d : Int) : List Q4 := if a * d - b * c = 1 then [⟨a, b, c, d⟩] else []
theorem mat1_yes {a b c d : Int} (h : a * d - b * c = 1) : mat1 a b c d = [⟨a, b, c, d⟩] := if_pos h
theorem mat1_no {a b c d : Int} (h : ¬ a * d - b * c = 1) : mat1 a b c d = [] := if_neg h
def matD (K : Nat) (a b c : Int) : Nat → List Q4 := stepsL K (mat1 a b c)
def matC (K : Nat) (a b : Int) : Nat → List Q4 := stepsL K fun c => matD K a b c (2 * K + 1)
def matB (K : Nat) (a : Int) : Nat → List Q4 := stepsL K fun b => matC K a b (2 * K + 1)
def matA (K : Nat) : Nat → List Q4 := stepsL K fun a => matB K a (2 * K + 1)
def matsL (K : Nat) : List Q4 := matA K (2 * K + 1)
theorem matD_len {K l : Nat} (hl : l ≤ 7) (a b c : Int) : (matD K a b c l).length ≤ 7 := by
  have := stepsL_len (K : Int) (mat1 a b c) 1 (fun x => by unfold mat1; split <;> simp) l
  unfold matD; omega
theorem matC_len {K : Nat} (hK : K ≤ 3) {l : Nat} (hl : l ≤ 7) (a b : Int) : (matC K a b l).length ≤ 49 := by
  have := stepsL_len (K : Int) (fun c => matD K a b c (2 * K + 1)) 7 (fun x => matD_len (by omega) a b x) l
  unfold matC; omega
theorem matB_len {K : Nat} (hK : K ≤ 3) {l : Nat} (hl : l ≤ 7) (a : Int) : (matB K a l).length ≤ 343 := by
  have := stepsL_len (K : Int) (fun b => matC K a b (2 * K + 1)) 49 (fun x => matC_len hK (by omega) a x) l
  unfold matB; omega
theorem matA_len {K : Nat} (hK : K ≤ 3) {l : Nat} (hl : l ≤ 7) : (matA K l).length ≤ 2401 := by
  have := stepsL_len (K : Int) (fun a => matB K a (2 * K + 1)) 343 (fun x => matB_len hK (by omega) x) l
  unfold matA; omega
theorem mat_len {K : Nat} (hK : K ≤ 3) {i j k l : Nat} (hi : i ≤ 7) (hj : j ≤ 7) (hk : k ≤ 7) (hl : l ≤ 7) (a b c : Int) : (matA K i ++ matB K a j ++ matC K a b k ++ matD K a b c l).length ≤ 10000 := by
  have := matA_len hK hi
  have := matB_len hK hj a
  have := matC_len hK hk a b
  have := matD_len (K := K) hl a b c
  simp only [List.length_append]; omega
structure Small4 (q : Q4) : Prop where
  a : -3 ≤ q.a ∧ q.a ≤ 3
  b : -3 ≤ q.b ∧ q.b ≤ 3
  c : -3 ≤ q.c ∧ q.c ≤ 3
  d : -3 ≤ q.d ∧ q.d ≤ 3
theorem matsL_small {K : Nat} (hK : K ≤ 3) {q : Q4} (h : q ∈ matsL K) : Small4 q := by
  obtain ⟨i, hi, h⟩ := stepsL_mem h
  obtain ⟨j, hj, h⟩ := stepsL_mem h
  obtain ⟨k, hk, h⟩ := stepsL_mem h
  obtain ⟨l, hl, h⟩ := stepsL_mem h
  unfold mat1 at h
  split at h
  · simp only [List.mem_singleton] at h
    subst h
    constructor <;> simp only <;> omega
  · simp at h
def flat4 (l : List Q4) : List Int := l.flatMap fun f => [f.a, f.b, f.c, f.d]
theorem flat4_len (l : List Q4) : (flat4 l).length = l.length * 4 := by
  induction l with
  | nil => rfl
  | cons f l ih => simp only [flat4, List.flatMap_cons, List.length_append, List.length_cons] at *; simp at *; omega
theorem flat4_snoc (l : List Q4) (f : Q4) : flat4 (l ++ [f]) = flat4 l ++ [f.a, f.b, f.c, f.d] := by simp [flat4]
theorem flat4_append (l m : List Q4) : flat4 (l ++ m) = flat4 l ++ flat4 m := by simp [flat4]
theorem flat4_at {l m : List Q4} {f : Q4} : (flat4 (l ++ f :: m)).getD (l.length * 4) 0 = f.a ∧ (flat4 (l ++ f :: m)).getD (l.length * 4 + 1) 0 = f.b ∧ (flat4 (l ++ f :: m)).getD (l.length * 4 + 2) 0 = f.c ∧ (flat4 (l ++ f :: m)).getD (l.length * 4 + 3) 0 = f.d := by
  have e : flat4 (l ++ f :: m) = flat4 l ++ ([f.a, f.b, f.c, f.d] ++ flat4 m) := by simp [flat4]
  rw [e, ← flat4_len]
  refine ⟨?_, ?_, ?_, ?_⟩ <;> simp [List.getD]
/-- g leads m to n. -/
def leads (m n g : Q4) : Bool :=
  g.a * m.a + g.b * m.c == n.a * g.a + n.b * g.c && (g.a * m.b + g.b * m.d == n.a * g.b + n.b * g.d && (g.c * m.a + g.d * m.c == n.c * g.a + n.d * g.c && g.c * m.b + g.d * m.d == n.c * g.b + n.d * g.d))
def findQ (m n : Q4) : List Q4 → Option Q4
  | [] => none
  | g :: l => if leads m n g = true then some g else findQ m n l
end Go.Proofs.Ytencfmipplgnkaa
