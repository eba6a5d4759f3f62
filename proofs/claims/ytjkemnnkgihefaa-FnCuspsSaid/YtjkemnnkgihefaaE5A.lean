/- Plain: genera of levels, a check that the kernel can run. -/
import Derived.Test.YtjkemnnkgihefaaCd
import Derived.Test.YtjkemnnkgihefaaC101
import Derived.Test.YtjkemnnkgihefaaPlain
namespace Go.Proofs.Ytjkemnnkgihefaa
def rowF (n c : Nat) : Nat → List P2
  | 0 => []
  | d + 1 => rowF n c d ++ cond (selfN n c d) [⟨c, d⟩] []
def lineF (n : Nat) : Nat → List P2
  | 0 => []
  | c + 1 => lineF n c ++ rowF n c n
theorem rowF_eq {n c : Nat} (hn : 0 < n) (hc : c < n) : ∀ m, m ≤ n → lineRow (n : Int) c m = rowF n c m
  | 0, _ => rfl
  | m + 1, hm => by
    have ih := rowF_eq hn hc m (by omega)
    unfold lineRow rowF
    rw [ih, selfN_eq hn hc (show m < n by omega)]
    cases selfN n c m <;> simp
theorem lineF_eq {n : Nat} (hn : 0 < n) : ∀ m, m ≤ n → lineTo (n : Int) n m = lineF n m
  | 0, _ => rfl
  | m + 1, hm => by
    unfold lineTo lineF
    rw [lineF_eq hn m (by omega), rowF_eq hn (show m < n by omega) n (Nat.le_refl _)]
theorem lineL_F {n : Nat} (hn : 0 < n) : lineL (n : Int) = lineF n n := by
  unfold lineL
  rw [Int.toNat_natCast, lineF_eq hn n (Nat.le_refl _)]
def genSum (L : Nat) (y z c : Int) : Int := 12 + L - 3 * y - 4 * z - 6 * c
def genOk3 (n : Nat) (s c : Int) : Bool := decide (c = (cuspS n n : Nat)) && (decide (0 ≤ s) && decide (s % 12 = 0))
def genOk2 (n L : Nat) (y z c : Int) : Bool := genOk3 n (genSum L y z c) c
def genOk1 (n : Nat) (l : List P2) : Bool := genOk2 n l.length (keptC (movedL n l 0 (-1) 1 0) l.length) (keptC (movedL n l 1 (-1) 1 0) l.length) (cusN (movedL n l 1 1 0 1) (movedL n l 1 1 0 1).length).2
def genOk (n : Nat) : Bool := genOk1 n (lineF n n)
structure GenFact (n : Nat) : Prop where
  cusps : (cusN (cosP n) (cosP n).length).2 = (cuspS n n : Nat)
  pos : 0 ≤ genSum (lineL n).length (keptC (movedL n (lineL n) 0 (-1) 1 0) (lineL n).length) (keptC (movedL n (lineL n) 1 (-1) 1 0) (lineL n).length) (cusN (cosP n) (cosP n).length).2
  twelve : genSum (lineL n).length (keptC (movedL n (lineL n) 0 (-1) 1 0) (lineL n).length) (keptC (movedL n (lineL n) 1 (-1) 1 0) (lineL n).length) (cusN (cosP n) (cosP n).length).2 % 12 = 0
theorem genFact_of {n : Nat} (hn : 0 < n) (h : genOk n = true) : GenFact n := by
  unfold genOk genOk1 genOk2 genOk3 at h
  rw [← lineL_F hn] at h
  simp only [Bool.and_eq_true, decide_eq_true_eq] at h
  exact ⟨h.1, h.2.1, h.2.2⟩
end Go.Proofs.Ytjkemnnkgihefaa
