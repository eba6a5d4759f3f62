/- Plain: prime divisors by trial division. -/
import Derived.Test.YtjgnhnbhcnfdbaaN4
namespace Go.Proofs.Ytjgnhnbhcnfdbaa
/-- m is n with all factors p taken out. -/
inductive Strip (p : Nat) : Nat → Nat → Prop
  | stop {n : Nat} : n % p ≠ 0 → Strip p n n
  | go {n m : Nat} : n % p = 0 → Strip p (n / p) m → Strip p n m
theorem Strip.not {p n m : Nat} (h : Strip p n m) : m % p ≠ 0 := by
  induction h with
  | stop h => exact h
  | go _ _ ih => exact ih
theorem Strip.dvd {p n m : Nat} (h : Strip p n m) : m ∣ n := by
  induction h with
  | stop h => exact Nat.dvd_refl _
  | go h _ ih => exact Nat.dvd_trans ih (Nat.div_dvd_of_dvd (Nat.dvd_of_mod_eq_zero h))
theorem Strip.pos {p n m : Nat} (h : Strip p n m) (hn : 0 < n) : 0 < m ∧ m ≤ n := by
  have hd := h.dvd
  exact ⟨Nat.pos_of_dvd_of_pos hd hn, Nat.le_of_dvd hn hd⟩
theorem Strip.uniq {p n m m' : Nat} (h : Strip p n m) (h' : Strip p n m') : m = m' := by
  induction h with
  | stop h => cases h' with
    | stop _ => rfl
    | go h1 _ => exact absurd h1 h
  | go h _ ih => cases h' with
    | stop h1 => exact absurd h h1
    | go _ h2 => exact ih h2
def stripF (p : Nat) : Nat → Nat → Nat
  | 0, n => n
  | f + 1, n => if n % p = 0 then stripF p f (n / p) else n
theorem stripF_ok {p : Nat} (hp : 2 ≤ p) : ∀ f n, 0 < n → n ≤ f → Strip p n (stripF p f n)
  | 0, n, h0, h1 => by omega
  | f + 1, n, h0, h1 => by
    unfold stripF
    split
    · rename_i h
      have hq : n / p * p = n := Nat.div_mul_cancel (Nat.dvd_of_mod_eq_zero h)
      have hlt : n / p < n := Nat.div_lt_self h0 (by omega)
      exact .go h (stripF_ok hp f _ (Nat.pos_of_ne_zero fun e => by rw [e] at hq; omega) (by omega))
    · rename_i h; exact .stop h
/-- The list of the prime divisors of n, if none is less than p. -/
inductive PF : Nat → Nat → List Nat → Prop
  | done {n p : Nat} : n ≤ 1 → PF n p []
  | skip {n p : Nat} {l : List Nat} : 1 < n → n % p ≠ 0 → PF n (p + 1) l → PF n p l
  | take {n p m : Nat} {l : List Nat} : 1 < n → n % p = 0 → Strip p n m → PF m (p + 1) l → PF n p (p :: l)
def NoDiv (n p : Nat) : Prop := ∀ d, 2 ≤ d → d < p → n % d ≠ 0
theorem NoDiv.le {n p : Nat} (h : NoDiv n p) (hn : 1 < n) : p ≤ n := by
  refine Nat.le_of_not_lt fun hlt => h n (by omega) hlt (Nat.mod_self n)
theorem NoDiv.skip {n p : Nat} (h : NoDiv n p) (hp : n % p ≠ 0) : NoDiv n (p + 1) := fun d h2 hd => by
  rcases Nat.lt_or_ge d p with h1 | h1
  · exact h d h2 h1
  · obtain rfl : d = p := by omega
    exact hp
theorem NoDiv.strip {n p m : Nat} (h : NoDiv n p) (hs : Strip p n m) : NoDiv m (p + 1) := fun d h2 hd => by
  rcases Nat.lt_or_ge d p with h1 | h1
  · intro e
    exact h d h2 h1 (Nat.mod_eq_zero_of_dvd (Nat.dvd_trans (Nat.dvd_of_mod_eq_zero e) hs.dvd))
  · obtain rfl : d = p := by omega
    exact hs.not
theorem NoDiv.two (n : Nat) : NoDiv n 2 := fun d h2 hd => by omega
/-- Without a divisor up to its root a number has none. -/
theorem NoDiv.prime {n p : Nat} (h : NoDiv n p) (h2 : n < p * p) : ∀ d, 2 ≤ d → d < n → n % d ≠ 0 := fun d hd hl e => by
  obtain ⟨q, hq⟩ := Nat.dvd_of_mod_eq_zero e
  rcases Nat.lt_or_ge d p with h1 | h1
  · exact h d hd h1 e
  · have h3 : q < p := by
      refine Nat.lt_of_not_le fun hle => ?_
      have := Nat.mul_le_mul h1 hle
      omega
    have h4 : 2 ≤ q := by
      refine Nat.le_of_not_lt fun hlt => ?_
      have : q = 0 ∨ q = 1 := by omega
      rcases this with h5 | h5 <;> rw [h5] at hq <;> omega
    exact h q h4 h3 (Nat.mod_eq_zero_of_dvd ⟨d, by rw [hq, Nat.mul_comm]⟩)
theorem PF.jump {n : Nat} (hn : 1 < n) : ∀ (k p : Nat) (l : List Nat), p + k = n → (∀ d, p ≤ d → d < n → n % d ≠ 0) → PF n p l → PF n n l
  | 0, p, l, h, _, hp => by obtain rfl : p = n := by omega
                            exact hp
  | k + 1, p, l, h, hd, hp => by
    have hne := hd p (Nat.le_refl _) (by omega)
    cases hp with
    | done h1 => omega
    | skip _ _ h3 => exact PF.jump hn k (p + 1) l (by omega) (fun d h1 h2 => hd d (by omega) h2) h3
    | take _ h2 => exact absurd h2 hne
theorem PF.jumped {n p : Nat} {l : List Nat} (hn : 1 < n) (hp2 : 2 ≤ p) (h : NoDiv n p) (h2 : n < p * p) (hp : PF n p l) : PF n n l :=
  PF.jump hn (n - p) p l (by have := h.le hn; omega) (fun d h1 h3 => h.prime h2 d (by omega) h3) hp
theorem PF.back {n : Nat} (hn : 1 < n) : ∀ (k p : Nat) (l : List Nat), p + k = n → (∀ d, p ≤ d → d < n → n % d ≠ 0) → PF n n l → PF n p l
  | 0, p, l, h, _, hp => by obtain rfl : p = n := by omega
                            exact hp
  | k + 1, p, l, h, hd, hp => .skip hn (hd p (Nat.le_refl _) (by omega)) (PF.back hn k (p + 1) l (by omega) (fun d h1 h2 => hd d (by omega) h2) hp)
theorem strip_self {n : Nat} (hn : 1 < n) : Strip n n 1 := by
  refine .go (Nat.mod_self n) ?_
  rw [Nat.div_self (by omega)]
  exact .stop (by rw [Nat.mod_eq_of_lt hn]; omega)
theorem PF.self {n : Nat} (hn : 1 < n) : PF n n [n] := .take hn (Nat.mod_self n) (strip_self hn) (.done (Nat.le_refl _))
theorem PF.uniq {n p : Nat} {l l' : List Nat} (h : PF n p l) (h' : PF n p l') : l = l' := by
  induction h generalizing l' with
  | done h => cases h' with
    | done _ => rfl
    | skip h1 => omega
    | take h1 => omega
  | skip h1 h2 _ ih => cases h' with
    | done h => omega
    | skip _ _ h3 => exact ih h3
    | take _ h4 => exact absurd h4 h2
  | take h1 h2 h3 _ ih => cases h' with
    | done h => omega
    | skip _ h4 => exact absurd h2 h4
    | take _ _ h5 h6 =>
      obtain rfl := h3.uniq h5
      rw [ih h6]
def pfI : Nat → Nat → Nat → List Nat
  | 0, n, _ => if n ≤ 1 then [] else [n]
  | f + 1, n, p => if n ≤ 1 then [] else if n < p * p then [n] else if n % p = 0 then p :: pfI f (stripF p n n) (p + 1) else pfI f n (p + 1)
theorem pfI_ok : ∀ (f n p : Nat), 0 < n → 2 ≤ p → NoDiv n p → n < (p + f) * (p + f) → PF n p (pfI f n p)
  | 0, n, p, h0, h2, hd, hl => by
    unfold pfI
    split
    · rename_i h; exact .done h
    · rename_i h
      have hn : 1 < n := by omega
      exact PF.back hn (n - p) p _ (by have := hd.le hn; omega) (fun d h1 h3 => hd.prime (by simpa using hl) d (by omega) h3) (PF.self hn)
  | f + 1, n, p, h0, h2, hd, hl => by
    unfold pfI
    split
    · rename_i h; exact .done h
    · rename_i h
      have hn : 1 < n := by omega
      split
      · rename_i hpp
        exact PF.back hn (n - p) p _ (by have := hd.le hn; omega) (fun d h1 h3 => hd.prime hpp d (by omega) h3) (PF.self hn)
      · have he : p + (f + 1) = p + 1 + f := by omega
        rw [he] at hl
        split
        · rename_i hm
          have hs := stripF_ok h2 n n h0 (Nat.le_refl _)
          exact .take hn hm hs (pfI_ok f _ _ (hs.pos h0).1 (by omega) (hd.strip hs) (Nat.lt_of_le_of_lt (hs.pos h0).2 hl))
        · rename_i hm
          exact .skip hn hm (pfI_ok f _ _ h0 (by omega) (hd.skip hm) hl)
/-- The prime divisors of a number up to 1000. -/
def primesL (n : Nat) : List Nat := pfI 32 n 2
theorem primesL_ok {n : Nat} (h0 : 0 < n) (h1 : n ≤ 1000) : PF n 2 (primesL n) := pfI_ok 32 n 2 h0 (Nat.le_refl _) (NoDiv.two n) (by omega)
/-! ### What is counted with them -/
def fTimes (g : Nat → Nat → Nat) : Nat → List Nat → Nat
  | out, [] => out
  | out, p :: l => fTimes g (g out p) l
def gIdx (out p : Nat) : Nat := out / p * (p + 1)
def gMod (out p : Nat) : Nat := out / (p * p) * (p * p - 1)
def gPhi (out p : Nat) : Nat := out / p * (p - 1)
/-- All numbers on the way are small. -/
def chk (g : Nat → Nat → Nat) (B : Nat) : Nat → List Nat → Bool
  | out, [] => decide (out ≤ B)
  | out, p :: l => decide (out ≤ B) && (decide (1 ≤ p) && (decide (p ≤ 1000) && chk g B (g out p) l))
theorem chk_le {g : Nat → Nat → Nat} {B out : Nat} {l : List Nat} (h : chk g B out l = true) : out ≤ B := by
  cases l <;> simp [chk] at h <;> omega
structure ChkStep (g : Nat → Nat → Nat) (B out p : Nat) (l : List Nat) : Prop where
  o : out ≤ B
  p1 : 1 ≤ p
  p2 : p ≤ 1000
  next : chk g B (g out p) l = true
  n : g out p ≤ B
theorem chk_step {g : Nat → Nat → Nat} {B out p : Nat} {l : List Nat} (h : chk g B out (p :: l) = true) : ChkStep g B out p l := by
  simp only [chk, Bool.and_eq_true, decide_eq_true_eq] at h
  exact ⟨h.1, h.2.1, h.2.2.1, h.2.2.2, chk_le h.2.2.2⟩
def idxOk (n : Nat) : Bool := chk gIdx 1000000 n (primesL n) && (chk gMod 1000000000 (n * n * n) (primesL n) && (chk gMod 1000000000 (n * n) (primesL n) && decide (fTimes gMod (n * n * n) (primesL n) / n = fTimes gMod (n * n) (primesL n))))
set_option maxRecDepth 100000 in
theorem idxOk_all : (List.range 1000).all (fun n => idxOk (n + 1)) = true := by decide +kernel
theorem idxOk_of {n : Nat} (h0 : 0 < n) (h1 : n ≤ 1000) : idxOk n = true := by
  have := List.all_eq_true.1 idxOk_all (n - 1) (by simp; omega)
  rwa [show n - 1 + 1 = n by omega] at this
/-- How many up to n have no common divisor with m. -/
def phiC (m : Nat) : Nat → Nat
  | 0 => 0
  | k + 1 => phiC m k + if Nat.gcd (k + 1) m = 1 then 1 else 0
def phiOk (m : Nat) : Bool := chk gPhi 1000 m (primesL m) && decide (fTimes gPhi m (primesL m) = phiC m m)
set_option maxRecDepth 100000 in
theorem phiOk_all : (List.range 40).all (fun n => phiOk (n + 1)) = true := by decide +kernel
theorem phiOk_of {n : Nat} (h0 : 0 < n) (h1 : n ≤ 40) : phiOk n = true := by
  have := List.all_eq_true.1 phiOk_all (n - 1) (by simp; omega)
  rwa [show n - 1 + 1 = n by omega] at this
end Go.Proofs.Ytjgnhnbhcnfdbaa
