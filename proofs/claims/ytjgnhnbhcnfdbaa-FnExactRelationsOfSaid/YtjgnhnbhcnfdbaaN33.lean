/- Plain: coset matrices. -/
import Derived.Test.YtjgnhnbhcnfdbaaN32
namespace Go.Proofs.Ytjgnhnbhcnfdbaa
/-- The first t from some number on for which p holds, within some steps. -/
def firstN (p : Nat → Bool) : Nat → Nat → Nat
  | 0, t => t
  | f + 1, t => if p t = true then t else firstN p f (t + 1)
theorem firstN_ok {p : Nat → Bool} : ∀ (f t k : Nat), t ≤ k → k < t + f → p k = true → p (firstN p f t) = true ∧ t ≤ firstN p f t ∧ firstN p f t ≤ k ∧ ∀ j, t ≤ j → j < firstN p f t → p j = false
  | 0, t, k, h1, h2, _ => by omega
  | f + 1, t, k, h1, h2, h3 => by
    unfold firstN
    split
    · rename_i h; exact ⟨h, Nat.le_refl _, h1, fun j hj hj2 => by omega⟩
    · rename_i h
      have hne : t ≠ k := fun e => h (by rw [e]; exact h3)
      obtain ⟨a, b, c, d⟩ := firstN_ok (p := p) f (t + 1) k (by omega) (by omega) h3
      refine ⟨a, by omega, c, fun j hj hj2 => ?_⟩
      by_cases e : j = t
      · subst e; simpa using h
      · exact d j (by omega) hj2
def copT (n c d t : Nat) : Bool := Nat.gcd c (d + t * n) == 1
def invA (c d a : Nat) : Bool := (a * d) % c == 1 % c
def copAll (n : Nat) : Bool := (List.range n).all fun c => (List.range n).all fun d => c == 0 || (Nat.gcd (Nat.gcd c d) n != 1 || copT n c d (firstN (copT n c d) 60 0))
def invAll (c : Nat) : Bool := (List.range c).all fun r => Nat.gcd c r != 1 || invA c r (firstN (invA c r) c 0)
set_option maxRecDepth 100000 in
theorem copAll_all : (List.range 61).all copAll = true := by decide +kernel
set_option maxRecDepth 100000 in
theorem invAll_all : (List.range 61).all invAll = true := by decide +kernel
theorem firstN_le {p : Nat → Bool} : ∀ (f t : Nat), t ≤ firstN p f t ∧ firstN p f t ≤ t + f
  | 0, t => by simp [firstN]
  | f + 1, t => by
    unfold firstN
    split
    · omega
    · have := firstN_le (p := p) f (t + 1); omega
theorem firstN_before {p : Nat → Bool} : ∀ (f t j : Nat), t ≤ j → j < firstN p f t → p j = false
  | 0, t, j, h1, h2 => by simp [firstN] at h2; omega
  | f + 1, t, j, h1, h2 => by
    unfold firstN at h2
    split at h2
    · omega
    · rename_i h
      by_cases e : j = t
      · subst e; simpa using h
      · exact firstN_before f (t + 1) j (by omega) h2
structure CopT (n c d : Nat) : Prop where
  hit : Nat.gcd c (d + firstN (copT n c d) 60 0 * n) = 1
  le : firstN (copT n c d) 60 0 ≤ 60
  before : ∀ t, t < firstN (copT n c d) 60 0 → Nat.gcd c (d + t * n) ≠ 1
theorem cop_of {n c d : Nat} (hn : n ≤ 60) (c0 : 0 < c) (hc : c < n) (hd : d < n) (h : Nat.gcd (Nat.gcd c d) n = 1) : CopT n c d := by
  have h1 := List.all_eq_true.1 copAll_all n (by simp; omega)
  have h2 := List.all_eq_true.1 h1 c (by simpa using hc)
  have h3 := List.all_eq_true.1 h2 d (by simpa using hd)
  have e1 : (c == 0) = false := by simp; omega
  have e2 : (Nat.gcd (Nat.gcd c d) n != 1) = false := by simp [h]
  rw [e1, e2, Bool.false_or, Bool.false_or] at h3
  refine ⟨by simpa [copT] using h3, by have := (firstN_le (p := copT n c d) 60 0).2; omega, fun t ht => ?_⟩
  have := firstN_before (p := copT n c d) 60 0 t (Nat.zero_le _) ht
  simpa [copT] using this
structure InvA (c d : Nat) : Prop where
  hit : (firstN (invA c (d % c)) c 0 * d) % c = 1 % c
  lt : firstN (invA c (d % c)) c 0 < c
  before : ∀ a, a < firstN (invA c (d % c)) c 0 → (a * d) % c ≠ 1 % c
theorem inv_of {c d : Nat} (c0 : 0 < c) (hc : c ≤ 60) (h : Nat.gcd c d = 1) : InvA c d := by
  have hr := Nat.mod_lt d c0
  have hg : Nat.gcd c (d % c) = 1 := by rw [Nat.gcd_comm, ← Nat.gcd_rec]; exact h
  have h1 := List.all_eq_true.1 invAll_all c (by simp; omega)
  have h2 := List.all_eq_true.1 h1 (d % c) (by simpa using hr)
  have e2 : (Nat.gcd c (d % c) != 1) = false := by simp [hg]
  rw [e2, Bool.false_or] at h2
  have e : ∀ a, (a * d) % c = (a * (d % c)) % c := fun a => by rw [Nat.mul_mod a (d % c), Nat.mod_mod, ← Nat.mul_mod]
  have hhit : (firstN (invA c (d % c)) c 0 * d) % c = 1 % c := by rw [e]; simpa [invA] using h2
  refine ⟨hhit, ?_, fun a ha => ?_⟩
  · have hle := (firstN_le (p := invA c (d % c)) c 0).2
    refine Nat.lt_of_le_of_ne (by omega) fun he => ?_
    rw [he, Nat.mul_mod_right] at hhit
    have c1 : c = 1 := by
      refine Nat.le_antisymm (Nat.le_of_not_lt fun hlt => ?_) c0
      rw [Nat.mod_eq_of_lt hlt] at hhit; omega
    subst c1
    have h0 := firstN_before (p := invA 1 (d % 1)) 1 0 0 (Nat.le_refl _) (by omega)
    simp [invA, Nat.mod_one] at h0
  · have := firstN_before (p := invA c (d % c)) c 0 a (Nat.zero_le _) ha
    rw [e]
    simpa [invA] using this
/-- Whether a d - 1 is a multiple of c, in whole numbers. -/
theorem inv_int {a c d : Nat} : (((a : Int) * d - 1).tmod c = 0) ↔ (a * d) % c = 1 % c := by
  rw [← Int.dvd_iff_tmod_eq_zero]
  constructor
  · intro h
    have h2 := Int.emod_emod_of_dvd ((a : Int) * d) (Int.dvd_refl (c : Int))
    have h3 : ((a : Int) * d) % c = 1 % (c : Int) := Int.emod_eq_emod_iff_emod_sub_eq_zero.2 (Int.emod_eq_zero_of_dvd h)
    exact_mod_cast h3
  · intro h
    have h3 : ((a : Int) * d) % c = 1 % (c : Int) := by exact_mod_cast h
    exact Int.dvd_of_emod_eq_zero (Int.emod_eq_emod_iff_emod_sub_eq_zero.1 h3)
structure M4i where
  p : Int
  q : Int
  r : Int
  s : Int
/-- The coset matrix of a normal pair. -/
def cosM (n c d : Nat) : M4i :=
  if c = 0 then ⟨1, 0, 0, 1⟩ else
    let d' := d + firstN (copT n c d) 60 0 * n
    let a := firstN (invA c (d' % c)) c 0
    ⟨a, ((a : Int) * d' - 1).tdiv c, c, d'⟩
end Go.Proofs.Ytjgnhnbhcnfdbaa
