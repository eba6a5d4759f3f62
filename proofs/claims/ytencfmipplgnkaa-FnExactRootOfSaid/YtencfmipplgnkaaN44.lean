/- Plain: what RootOf asks of a trace. -/
import Derived.Test.YtencfmipplgnkaaN43
namespace Go.Proofs.Ytencfmipplgnkaa
theorem tmod_emod {n u : Int} : n.tmod u = 0 ↔ n % u = 0 := by
  rw [← Int.dvd_iff_tmod_eq_zero, ← Int.dvd_iff_emod_eq_zero]
theorem tdiv_ediv {n u : Int} (h : n % u = 0) : n.tdiv u = n / u := Int.tdiv_eq_ediv_of_dvd (Int.dvd_of_emod_eq_zero h)
/-- A trace of a root is small. -/
theorem root_small {s t : Int} {k : Nat} (hk : 2 ≤ k) (hs : 3 ≤ s) (ht : t ≤ 2000000000) (h : tr s k = t) : s ≤ 44722 := by
  have h1 := tr_le hs hk
  rw [tr_two] at h1
  by_cases g : s ≤ 44722
  · exact g
  · have := Int.mul_le_mul (show 44723 ≤ s by omega) (show 44723 ≤ s by omega) (by omega) (by omega)
    omega
structure RootBd (s t : Int) (k : Nat) : Prop where
  u0 : 1 ≤ un s k
  u1 : un s k ≤ 2000000000
  v0 : 0 ≤ un s (k - 1)
  v1 : un s (k - 1) ≤ 2000000000
theorem rootBd {s t : Int} {k : Nat} (hk : 2 ≤ k) (hs : 3 ≤ s) (ht : t ≤ 2000000000) (h : tr s k = t) : RootBd s t k := by
  obtain ⟨j, rfl⟩ : ∃ j, k = j + 1 := ⟨k - 1, by omega⟩
  have a := un_up hs j
  have b := (un_tr hs (j + 1)).1
  exact ⟨by omega, by omega, by rw [Nat.add_sub_cancel]; exact a.1, by rw [Nat.add_sub_cancel]; omega⟩
/-- No s has the trace t: no root. -/
theorem no_hit {m : Q4} {t : Int} {k : Nat} (h : ∀ s, 3 ≤ s → tr s k ≠ t) : ¬ ∃ s, Hit m t k s := fun ⟨s, hs⟩ => h s hs.s3 hs.tr
/-- The one s with the trace t does not divide: no root. -/
theorem no_hit_at {m : Q4} {t s : Int} {k : Nat} (hk : 1 ≤ k) (hs : 3 ≤ s) (h : tr s k = t) (hn : ¬ ((m.a + un s (k - 1)) % un s k = 0 ∧ m.b % un s k = 0 ∧ m.c % un s k = 0 ∧ (m.d + un s (k - 1)) % un s k = 0)) : ¬ ∃ s, Hit m t k s := fun ⟨s', h'⟩ => by
  have e : s' = s := tr_inj h'.s3 hs hk (h'.tr.trans h.symm)
  subst e
  exact hn ⟨h'.a, h'.b, h'.c, h'.d⟩
/-- The matrix with the positive trace. -/
def posM (a b c d : Int) : Q4 := if a + d < 0 then ⟨-a, -b, -c, -d⟩ else ⟨a, b, c, d⟩
theorem rootR_30 {m : Q4} {t : Int} (ht : t ≤ 2000000000) : rootR m t 30 = rootR m t 40 := by
  rw [rootR_top ht (show 22 ≤ 30 by omega), rootR_top ht (show 22 ≤ 40 by omega)]
/-- A search in s for the trace t that has come to s. -/
structure SAt (m : Q4) (t : Int) (k : Nat) (s : Int) : Prop where
  no : ∀ x, 3 ≤ x → x < s → ¬ Hit m t k x
theorem SAt.start (m : Q4) (t : Int) (k : Nat) : SAt m t k 3 := ⟨fun x h1 h2 => by omega⟩
theorem SAt.next {m : Q4} {t s : Int} {k : Nat} (h : SAt m t k s) (hs : 3 ≤ s) (hn : ¬ Hit m t k s) : SAt m t k (s + 1) := ⟨fun x h1 h2 => by
  by_cases e : x = s
  · subst e; exact hn
  · exact h.no x h1 (by omega)⟩
theorem SAt.stop {m : Q4} {t s : Int} {k : Nat} (h : SAt m t k s) (hk : 1 ≤ k) (hs : 3 ≤ s) (hg : t < tr s k) : ¬ ∃ x, Hit m t k x := fun ⟨x, hx⟩ => by
  by_cases e : x < s
  · exact h.no x hx.s3 e hx
  · have e2 := hx.tr
    by_cases e3 : x = s
    · subst e3; omega
    · have := tr_lt hs (show s < x by omega) hk; omega
end Go.Proofs.Ytencfmipplgnkaa
