/- Contracts: prime divisors. -/
import Derived.Test.YtjgnhnbhcnfdbaaR1
import Derived.Test.YtjgnhnbhcnfdbaaC1
import Derived.Test.YtjgnhnbhcnfdbaaN30
namespace Go.Proofs.Ytjgnhnbhcnfdbaa
open Go.RowKit
theorem elI : Elem Try.prog 38 2 (.int .i64 0) 1 8 := elem_of Try.underlying38 (by kernel_rfl) rfl (by omega) (by omega)
def castL (l : List Nat) : List Int := l.map fun p : Nat => (p : Int)
theorem castL_len (l : List Nat) : (castL l).length = l.length := by simp [castL]
theorem castL_snoc (l : List Nat) (p : Nat) : castL (l ++ [p]) = castL l ++ [(p : Int)] := by simp [castL]
theorem mod_no {m q : Nat} (h : m % q = 0) : ((m : Int) % (q : Int) != 0) = false ∧ ((m : Int) % (q : Int) == 0) = true := by
  have e : (m : Int) % (q : Int) = 0 := by exact_mod_cast h
  simp [e]
theorem mod_yes {m q : Nat} (h : m % q ≠ 0) : ((m : Int) % (q : Int) != 0) = true ∧ ((m : Int) % (q : Int) == 0) = false := by
  have e : (m : Int) % (q : Int) ≠ 0 := by exact_mod_cast h
  simp [e]
theorem PF.inv_take {m q : Nat} {l : List Nat} (h : PF m q l) (h1 : 1 < m) (h2 : m % q = 0) : ∃ m' l', l = q :: l' ∧ Strip q m m' ∧ PF m' (q + 1) l' := by
  cases h with
  | done h => omega
  | skip _ h3 => exact absurd h2 h3
  | take _ _ h5 h6 => exact ⟨_, _, rfl, h5, h6⟩
theorem PF.inv_skip {m q : Nat} {l : List Nat} (h : PF m q l) (h1 : 1 < m) (h2 : m % q ≠ 0) : PF m (q + 1) l := by
  cases h with
  | done h => omega
  | skip _ _ h3 => exact h3
  | take _ h4 => exact absurd h4 h2
theorem PF.inv_done {m q : Nat} {l : List Nat} (h : PF m q l) (h1 : m ≤ 1) : l = [] := by
  cases h with
  | done h => rfl
  | skip h => omega
  | take h => omega
theorem Strip.inv_go {p n m : Nat} (h : Strip p n m) (h1 : n % p = 0) : Strip p (n / p) m := by
  cases h with
  | stop h => exact absurd h1 h
  | go _ h => exact h
theorem Strip.inv_stop {p n m : Nat} (h : Strip p n m) (h1 : n % p ≠ 0) : n = m := by
  cases h with
  | stop h => rfl
  | go h => exact absurd h h1
/-- What holds at the head of a round: the primes found, those still to come. -/
structure PrInv (w wr : World) (v : Value) (L : List Nat) (m q : Nat) (acc l : List Nat) : Prop where
  own : wr.ownsRow w.heap.size 2 1 v acc.length (ints (castL acc))
  eq : L = acc ++ l
  pf : PF m q l
  nd : NoDiv m q
end Go.Proofs.Ytjgnhnbhcnfdbaa
