/- Plain: normal pairs, the line of a level. -/
import Derived.Test.YtjgnhnbhcnfdbaaN30
namespace Go.Proofs.Ytjgnhnbhcnfdbaa
def lexB (a b x y : Int) : Bool := decide (a < x) || (decide (a = x) && decide (b < y))
def isPairB (n c d : Int) : Bool := (Int.gcd (Int.gcd c d : Int) n : Int) == 1
structure P2 where
  x : Int
  y : Int
  deriving DecidableEq
/-- The least of the multiples by units up to k. -/
def nrm (n c d : Int) : Nat → P2
  | 0 => ⟨c, d⟩
  | k + 1 => if ((Int.gcd ((k : Int) + 1) n : Int) == 1 && lexB ((k + 1) * c % n) ((k + 1) * d % n) (nrm n c d k).x (nrm n c d k).y) = true then ⟨(k + 1) * c % n, (k + 1) * d % n⟩ else nrm n c d k
theorem nrm_skip {n c d : Int} {k : Nat} (h : (Int.gcd ((k : Int) + 1) n : Int) ≠ 1) : nrm n c d (k + 1) = nrm n c d k := by simp [nrm, h]
theorem nrm_yes {n c d : Int} {k : Nat} (h : (Int.gcd ((k : Int) + 1) n : Int) = 1) (h2 : lexB ((k + 1) * c % n) ((k + 1) * d % n) (nrm n c d k).x (nrm n c d k).y = true) : nrm n c d (k + 1) = ⟨(k + 1) * c % n, (k + 1) * d % n⟩ := by simp [nrm, h, h2]
theorem nrm_no {n c d : Int} {k : Nat} (h2 : lexB ((k + 1) * c % n) ((k + 1) * d % n) (nrm n c d k).x (nrm n c d k).y = false) : nrm n c d (k + 1) = nrm n c d k := by simp [nrm, h2]
def normal (n c d : Int) : P2 := nrm n c d (n - 1).toNat
theorem nrm_bd {n c d : Int} (hn : 0 < n) (hc : 0 ≤ c ∧ c < n) (hd : 0 ≤ d ∧ d < n) (k : Nat) : (0 ≤ (nrm n c d k).x ∧ (nrm n c d k).x < n) ∧ (0 ≤ (nrm n c d k).y ∧ (nrm n c d k).y < n) := by
  induction k with
  | zero => exact ⟨hc, hd⟩
  | succ k ih =>
    unfold nrm
    split
    · exact ⟨⟨Int.emod_nonneg _ (by omega), Int.emod_lt_of_pos _ hn⟩, Int.emod_nonneg _ (by omega), Int.emod_lt_of_pos _ hn⟩
    · exact ih
theorem normal_bd {n c d : Int} (hn : 0 < n) (hc : 0 ≤ c ∧ c < n) (hd : 0 ≤ d ∧ d < n) : (0 ≤ (normal n c d).x ∧ (normal n c d).x < n) ∧ (0 ≤ (normal n c d).y ∧ (normal n c d).y < n) := nrm_bd hn hc hd _
def selfB (n c d : Int) : Bool := isPairB n c d && decide (normal n c d = ⟨c, d⟩)
/-- The normal pairs with the first number c, and a second one below m. -/
def lineRow (n c : Int) : Nat → List P2
  | 0 => []
  | d + 1 => lineRow n c d ++ (if selfB n c d = true then [⟨c, d⟩] else [])
def lineTo (n : Int) (N : Nat) : Nat → List P2
  | 0 => []
  | c + 1 => lineTo n N c ++ lineRow n c N
def lineL (n : Int) : List P2 := lineTo n n.toNat n.toNat
theorem lineRow_len (n c : Int) (m : Nat) : (lineRow n c m).length ≤ m := by
  induction m with
  | zero => simp [lineRow]
  | succ m ih => unfold lineRow; split <;> simp <;> omega
theorem lineTo_len (n : Int) (N m : Nat) : (lineTo n N m).length ≤ m * N := by
  induction m with
  | zero => simp [lineTo]
  | succ m ih =>
    unfold lineTo
    rw [List.length_append, Nat.succ_mul]
    have := lineRow_len n m N
    omega
theorem lineL_len {n : Int} (h1 : n ≤ 60) : (lineL n).length ≤ 3600 := by
  have h := lineTo_len n n.toNat n.toNat
  have h2 : n.toNat * n.toNat ≤ 60 * 60 := Nat.mul_le_mul (by omega) (by omega)
  unfold lineL; omega
structure InLine (n : Int) (p : P2) : Prop where
  c0 : 0 ≤ p.x
  c1 : p.x < n
  d0 : 0 ≤ p.y
  d1 : p.y < n
  pair : isPairB n p.x p.y = true
  self : normal n p.x p.y = p
theorem lineRow_mem {n c : Int} {m : Nat} {p : P2} : p ∈ lineRow n c m ↔ p.x = c ∧ 0 ≤ p.y ∧ p.y < m ∧ selfB n p.x p.y = true := by
  induction m with
  | zero => simp [lineRow]; omega
  | succ m ih =>
    unfold lineRow
    rw [List.mem_append, ih]
    constructor
    · rintro (⟨h1, h2, h3, h4⟩ | h)
      · exact ⟨h1, h2, by omega, h4⟩
      · split at h
        · simp at h; subst h; exact ⟨rfl, by simp, by simp; omega, by assumption⟩
        · simp at h
    · rintro ⟨h1, h2, h3, h4⟩
      by_cases h : p.y = m
      · right
        obtain ⟨x, y⟩ := p
        simp only at h1 h h4
        subst h1; subst h
        rw [if_pos h4]; simp
      · exact .inl ⟨h1, h2, by omega, h4⟩
theorem lineTo_mem {n : Int} {N m : Nat} {p : P2} : p ∈ lineTo n N m ↔ 0 ≤ p.x ∧ p.x < m ∧ 0 ≤ p.y ∧ p.y < N ∧ selfB n p.x p.y = true := by
  induction m with
  | zero => simp [lineTo]; omega
  | succ m ih =>
    unfold lineTo
    rw [List.mem_append, ih, lineRow_mem]
    constructor
    · rintro (⟨h1, h2, h3⟩ | ⟨h1, h2, h3⟩)
      · exact ⟨h1, by omega, h3⟩
      · exact ⟨by omega, by omega, h2, h3⟩
    · rintro ⟨h1, h2, h3⟩
      by_cases h : p.x = m
      · exact .inr ⟨h, h3⟩
      · exact .inl ⟨h1, by omega, h3⟩
theorem lineL_mem {n : Int} (hn : 0 < n) {p : P2} : p ∈ lineL n ↔ InLine n p := by
  unfold lineL
  rw [lineTo_mem]
  have e : ((n.toNat : Nat) : Int) = n := by omega
  rw [e]
  constructor
  · rintro ⟨h1, h2, h3, h4, h5⟩
    simp only [selfB, Bool.and_eq_true, decide_eq_true_eq] at h5
    exact ⟨h1, h2, h3, h4, h5.1, h5.2⟩
  · rintro ⟨h1, h2, h3, h4, h5, h6⟩
    exact ⟨h1, h2, h3, h4, by simp [selfB, h5, h6]⟩
/-- The place of the first p from k on, or -1. -/
def findI (p : P2) : List P2 → Int → Int
  | [], _ => -1
  | q :: l, k => if q = p then k else findI p l (k + 1)
theorem findI_hit {p : P2} {l : List P2} {k : Nat} (hk : k < l.length) (h : l[k] = p) (hb : ∀ j (hj : j < k), l[j]'(by omega) ≠ p) (s : Int) : findI p l s = s + k := by
  induction l generalizing k s with
  | nil => simp at hk
  | cons q l ih =>
    unfold findI
    cases k with
    | zero => simp at h; rw [if_pos h]; simp
    | succ k =>
      have h0 := hb 0 (by omega)
      simp at h0 h
      rw [if_neg h0, ih (k := k) (by simpa using hk) h (fun j hj => by have := hb (j + 1) (by omega); simpa using this)]
      push_cast; omega
theorem findI_none {p : P2} {l : List P2} (h : p ∉ l) (s : Int) : findI p l s = -1 := by
  induction l generalizing s with
  | nil => rfl
  | cons q l ih =>
    simp at h
    unfold findI
    rw [if_neg (fun e => h.1 e.symm), ih h.2]
theorem findI_bd (p : P2) (l : List P2) (s : Int) (h : p ∈ l) : s ≤ findI p l s ∧ findI p l s < s + l.length := by
  induction l generalizing s with
  | nil => simp at h
  | cons q l ih =>
    unfold findI
    split
    · simp; omega
    · rename_i hne
      have := ih (s + 1) (by simp at h; rcases h with h | h; exact absurd h.symm hne; exact h)
      simp only [List.length_cons]; push_cast; omega
theorem findI_lo (p : P2) (l : List P2) (s : Int) (hs : 0 ≤ s) : -1 ≤ findI p l s ∧ findI p l s < s + l.length := by
  by_cases h : p ∈ l
  · have := findI_bd p l s h; omega
  · rw [findI_none h]; omega
/-- The number of the coset of two numbers. -/
def cosetI (n : Int) (l : List P2) (c d : Int) : Int := findI (normal n (c % n) (d % n)) l 0
def flat2 (l : List P2) : List Int := l.flatMap fun f => [f.x, f.y]
theorem flat2_len (l : List P2) : (flat2 l).length = l.length * 2 := by
  induction l with
  | nil => rfl
  | cons f l ih => simp only [flat2, List.flatMap_cons, List.length_append, List.length_cons] at *; simp at *; omega
theorem flat2_snoc (l : List P2) (f : P2) : flat2 (l ++ [f]) = flat2 l ++ [f.x, f.y] := by simp [flat2]
theorem flat2_append (l m : List P2) : flat2 (l ++ m) = flat2 l ++ flat2 m := by simp [flat2]
end Go.Proofs.Ytjgnhnbhcnfdbaa
