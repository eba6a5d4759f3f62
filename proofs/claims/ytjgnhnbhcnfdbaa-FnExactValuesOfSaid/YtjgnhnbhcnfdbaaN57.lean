/- Plain: all values of a form, put together in two ways. -/
import Derived.Test.YtjgnhnbhcnfdbaaN47
import Derived.Test.YtjgnhnbhcnfdbaaN2
namespace Go.Proofs.Ytjgnhnbhcnfdbaa
def vrow (f : Int → Int → Int) (n x : Int) : Nat → List Int
  | 0 => []
  | m + 1 => vrow f n x m ++ [f x (-n + m)]
def vall (f : Int → Int → Int) (n : Int) (m : Nat) : Nat → List Int
  | 0 => []
  | i + 1 => vall f n m i ++ vrow f n (-n + i) m
def srow (f : Int → Int → Int) (n x : Int) (S : List Int) : Nat → List Int
  | 0 => S
  | m + 1 => insS (srow f n x S m) (f x (-n + m))
def sall (f : Int → Int → Int) (n : Int) (m : Nat) : Nat → List Int
  | 0 => []
  | i + 1 => srow f n i (sall f n m i) m
theorem vrow_len (f : Int → Int → Int) (n x : Int) : ∀ m, (vrow f n x m).length = m
  | 0 => rfl
  | m + 1 => by simp [vrow, vrow_len f n x m]
theorem vall_len (f : Int → Int → Int) (n : Int) (m : Nat) : ∀ i, (vall f n m i).length = i * m
  | 0 => by simp [vall]
  | i + 1 => by simp [vall, vall_len f n m i, vrow_len, Nat.succ_mul]
theorem srow_len (f : Int → Int → Int) (n x : Int) (S : List Int) : ∀ m, (srow f n x S m).length ≤ S.length + m
  | 0 => by simp [srow]
  | m + 1 => by
    have := srow_len f n x S m
    have := insS_len (srow f n x S m) (f x (-n + m))
    show (insS _ _).length ≤ _
    omega
theorem sall_len (f : Int → Int → Int) (n : Int) (m : Nat) : ∀ i, (sall f n m i).length ≤ i * m
  | 0 => by simp [sall]
  | i + 1 => by
    have := sall_len f n m i
    have := srow_len f n i (sall f n m i) m
    rw [Nat.succ_mul]
    show (srow _ _ _ _ _).length ≤ _
    omega
theorem vrow_mem (f : Int → Int → Int) (n x v : Int) : ∀ m, v ∈ vrow f n x m ↔ ∃ j : Nat, j < m ∧ v = f x (-n + j)
  | 0 => by simp [vrow]
  | m + 1 => by
    rw [vrow, List.mem_append, vrow_mem f n x v m, List.mem_singleton]
    constructor
    · rintro (⟨j, hj, e⟩ | e)
      · exact ⟨j, by omega, e⟩
      · exact ⟨m, by omega, e⟩
    · rintro ⟨j, hj, e⟩
      rcases (show j < m ∨ j = m by omega) with h | h
      · exact .inl ⟨j, h, e⟩
      · subst h; exact .inr e
theorem vall_mem (f : Int → Int → Int) (n v : Int) (m : Nat) : ∀ i, v ∈ vall f n m i ↔ ∃ k : Nat, k < i ∧ ∃ j : Nat, j < m ∧ v = f (-n + k) (-n + j)
  | 0 => by simp [vall]
  | i + 1 => by
    rw [vall, List.mem_append, vall_mem f n v m i, vrow_mem]
    constructor
    · rintro (⟨k, hk, e⟩ | e)
      · exact ⟨k, by omega, e⟩
      · exact ⟨i, by omega, e⟩
    · rintro ⟨k, hk, e⟩
      rcases (show k < i ∨ k = i by omega) with h | h
      · exact .inl ⟨k, h, e⟩
      · subst h; exact .inr e
theorem srow_ok (f : Int → Int → Int) (n x : Int) {S : List Int} (hs : S.Pairwise (· < ·)) : ∀ m, (srow f n x S m).Pairwise (· < ·) ∧ ∀ v, v ∈ srow f n x S m ↔ v ∈ S ∨ ∃ j : Nat, j < m ∧ v = f x (-n + j)
  | 0 => ⟨hs, fun v => by simp [srow]⟩
  | m + 1 => by
    obtain ⟨h1, h2⟩ := srow_ok f n x hs m
    obtain ⟨h3, h4⟩ := insS_ok (x := f x (-n + m)) h1
    refine ⟨h3, fun v => ?_⟩
    show v ∈ insS _ _ ↔ _
    rw [h4, h2]
    constructor
    · rintro (e | h | ⟨j, hj, e⟩)
      · exact .inr ⟨m, by omega, e⟩
      · exact .inl h
      · exact .inr ⟨j, by omega, e⟩
    · rintro (h | ⟨j, hj, e⟩)
      · exact .inr (.inl h)
      · rcases (show j < m ∨ j = m by omega) with h | h
        · exact .inr (.inr ⟨j, h, e⟩)
        · subst h; exact .inl e
theorem sall_ok (f : Int → Int → Int) (n : Int) (m : Nat) : ∀ i, (sall f n m i).Pairwise (· < ·) ∧ ∀ v, v ∈ sall f n m i ↔ ∃ k : Nat, k < i ∧ ∃ j : Nat, j < m ∧ v = f k (-n + j)
  | 0 => ⟨List.Pairwise.nil, fun v => by simp [sall]⟩
  | i + 1 => by
    obtain ⟨h1, h2⟩ := sall_ok f n m i
    obtain ⟨h3, h4⟩ := srow_ok f n i h1 m
    refine ⟨h3, fun v => ?_⟩
    show v ∈ srow _ _ _ _ _ ↔ _
    rw [h4, h2]
    constructor
    · rintro (⟨k, hk, e⟩ | e)
      · exact ⟨k, by omega, e⟩
      · exact ⟨i, by omega, e⟩
    · rintro ⟨k, hk, e⟩
      rcases (show k < i ∨ k = i by omega) with h | h
      · exact .inl ⟨k, h, e⟩
      · subst h; exact .inr e
/-- The two ways lead to the same list. -/
theorem vals_eq {f : Int → Int → Int} (hf : ∀ x y, f (-x) (-y) = f x y) (n : Nat) : Lib.compact ((vall f n (2 * n + 1) (2 * n + 1)).mergeSort fun x y => decide (x ≤ y)) = sall f n (2 * n + 1) (n + 1) := by
  have hp := List.pairwise_mergeSort (le := fun x y : Int => decide (x ≤ y)) (fun a b c h1 h2 => by simp at *; omega) (fun a b => by simp; omega) (vall f n (2 * n + 1) (2 * n + 1))
  obtain ⟨h1, h2⟩ := compact_sorted (hp.imp (fun h => by simpa using h))
  obtain ⟨h3, h4⟩ := sall_ok f n (2 * n + 1) (n + 1)
  refine sorted_uniq h1 h3 (fun v => ?_)
  rw [h2, List.mem_mergeSort, vall_mem, h4]
  constructor
  · rintro ⟨k, hk, j, hj, e⟩
    rcases (show n ≤ k ∨ k < n by omega) with h | h
    · exact ⟨k - n, by omega, j, hj, by rw [e]; congr 1; omega⟩
    · refine ⟨n - k, by omega, 2 * n - j, by omega, ?_⟩
      rw [e, ← hf]
      congr 1 <;> omega
  · rintro ⟨k, hk, j, hj, e⟩
    exact ⟨n + k, by omega, j, hj, by rw [e]; congr 1; omega⟩
end Go.Proofs.Ytjgnhnbhcnfdbaa
