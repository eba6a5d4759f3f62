/- Contracts: Euclid with multiples, both ways; where a number lies in a list of numbers. -/
import Derived.Test.YtjkemnnkgihefaaC101
import Derived.Test.YtjkemnnkgihefaaC30
import Derived.Test.YtjkemnnkgihefaaPlain
namespace Go.Proofs.Ytjkemnnkgihefaa
open Go.RowKit
theorem abs_in {x : Int} {K : Nat} (h : x.natAbs ≤ K) : -(K : Int) ≤ x ∧ x ≤ K := by omega
set_option maxHeartbeats 1000000 in
theorem bezout_any (P Q : Int) (w : World) (hP : P.natAbs ≤ 1000000000) (hQ : Q.natAbs ≤ 1000000000) (hg : (Int.gcd P Q : Int) = 1) :
    Calls Try.prog 27 #[(.int .i64 P), (.int .i64 Q)] w fun e w' => ∃ r s : Int, e = .returned (.tuple #[(.int .i64 r), (.int .i64 s)]) ∧ P * s - Q * r = 1 ∧ Below w.heap.size w w' := by
  have HS := Lib.hid (bez_start (K := 1000000000) hP hQ (by omega) (cop_gcd hg))
  clear hg
  go_enter Try.func27, Try.ntmps27
  go_wp2_with fail
  go_loopw [0, 1, 6, 7, 8, 9] (fun v0 v1 v6 v7 v8 v9 wr => ∃ p q a b c d : Int, v0 = (.int .i64 p) ∧ v1 = (.int .i64 q) ∧ v6 = (.int .i64 a) ∧ v7 = (.int .i64 b) ∧ v8 = (.int .i64 c) ∧ v9 = (.int .i64 d) ∧ Hid (Bez 1000000000 P Q p q a b c d) ∧ Below w.heap.size w wr) (fun _ v1 _ _ _ _ _ => (intOf v1).natAbs)
  case atStart => exact ⟨_, _, _, _, _, _, rfl, rfl, rfl, rfl, rfl, rfl, HS, Below.refl _ _⟩
  case round =>
    obtain ⟨p, q, a, b, c, d, rfl, rfl, rfl, rfl, rfl, rfl, HZ, hb⟩ := hrel
    obtain ⟨p0, p1⟩ := abs_in HZ.out.hp
    obtain ⟨q0, q1⟩ := abs_in HZ.out.hq
    obtain ⟨a0, a1⟩ := abs_in HZ.out.e1.bd.1
    obtain ⟨b0, b1⟩ := abs_in HZ.out.e2.bd.1
    by_cases hq : q = 0
    · subst hq
      have hpp := HZ.out.cop.unit
      have hp1 : p = 1 ∨ p = -1 := by
        have := Int.natAbs_mul_self (a := p)
        rw [hpp] at this
        have h2 : p.natAbs * p.natAbs = 1 := by exact_mod_cast this
        have := Nat.eq_one_of_mul_eq_one_left h2
        omega
      have hD := Lib.hid HZ.out.done
      clear HZ hpp
      rcases hp1 with rfl | rfl
      · go_wp2_with fail
        go_ret2
        exact ⟨-b, a, rfl, by simpa using hD.out, hb⟩
      · go_wp2_with fail
        go_ret2
        exact ⟨b, -a, rfl, by simpa using hD.out, hb⟩
    · obtain ⟨hZ, hl, h1, h2, h3, h4, h5, h6⟩ := HZ.out.step hq
      obtain ⟨c0, c1⟩ := abs_in h1
      obtain ⟨d0, d1⟩ := abs_in h2
      obtain ⟨e0, e1⟩ := abs_in h3
      obtain ⟨f0, f1⟩ := abs_in h4
      obtain ⟨g0, g1⟩ := abs_in h5
      obtain ⟨n0, n1⟩ := abs_in h6
      obtain ⟨r0, r1⟩ := abs_in (show (p - Int.tdiv p q * q).natAbs ≤ 1000000000 by have := HZ.out.hq; omega)
      have HZ' := Lib.hid hZ
      clear hZ h1 h2 h3 h4 h5 h6
      go_wp2_with fail
      go_roundw
      case rel => exact ⟨_, _, _, _, _, _, rfl, rfl, rfl, rfl, rfl, rfl, HZ', hb⟩
      case measure => simpa [intOf] using hl
set_option maxHeartbeats 1000000 in
theorem l06Bottom_any (P Q : Int) (w : World) (hP : P.natAbs ≤ 1000000000) (hQ0 : 0 ≤ Q) (hQ : Q ≤ 1000000000) (hg : (Int.gcd P Q : Int) = 1) (h0 : 0 < Q ∨ P = 1) :
    Calls Try.prog 39 #[(.agg #[.int .i64 P, .int .i64 Q])] w fun e w' => ∃ r s : Int, e = .returned (.int .i64 s) ∧ P * s - Q * r = 1 ∧ Below w.heap.size w w' := by
  by_cases hq : Q = 0
  · subst hq
    have hp : P = 1 := by omega
    subst hp
    go_enter Try.func39, Try.ntmps39
    go_wp2_with fail
    go_quiet (fail)
    go_wp2_with fail
    go_ret
    exact ⟨0, 1, rfl, by simp, below_drewN (by go_grown) _⟩
  · have q0 : 0 < Q := by omega
    have HS := Lib.hid (bot_start (K := 1000000000) q0 (by omega) (cop_gcd hg))
    have HM := Lib.hid (fun W => l01Mod_any P Q W q0 (by omega))
    have m0 := Int.emod_nonneg P (show Q ≠ 0 by omega)
    have m1 := Int.emod_lt_of_pos P q0
    clear hg h0
    generalize P % Q = m at *
    go_enter Try.func39, Try.ntmps39
    go_wp2_with fail
    go_quiet (fail)
    go_wp2_with fail
    refine (HM.out _).mono ?_; rintro e w1 ⟨rfl, rfl⟩
    go_wp2_with fail
    go_loopw [5, 6, 7, 8] (fun v0 v1 v6 v7 wr => ∃ a b s t : Int, v0 = (.int .i64 a) ∧ v1 = (.int .i64 b) ∧ v6 = (.int .i64 s) ∧ v7 = (.int .i64 t) ∧ Hid (Bot 1000000000 P Q a b s t) ∧ Below w.heap.size w wr) (fun _ v1 _ _ _ => (intOf v1).natAbs)
    case atStart => exact ⟨_, _, _, _, rfl, rfl, rfl, rfl, HS, below_drewN (by go_grown) _⟩
    case round =>
      obtain ⟨a, b, s, t, rfl, rfl, rfl, rfl, HZ, hb⟩ := hrel
      have a0 := HZ.out.a0
      have a1 := HZ.out.aK
      have b0 := HZ.out.b0
      have b1 := HZ.out.bK
      by_cases hq : b = 0
      · subst hq
        obtain ⟨r, hr⟩ := HZ.out.done
        obtain ⟨s0, s1⟩ := abs_in HZ.out.e.bd.1
        clear HZ
        go_wp2_with fail
        go_ret
        exact ⟨r, s, rfl, hr, hb⟩
      · obtain ⟨hZ, hl, h1, h2, h3, h4, h5⟩ := HZ.out.step hq
        obtain ⟨c0, c1⟩ := abs_in h1
        obtain ⟨d0, d1⟩ := abs_in h2
        obtain ⟨e0, e1⟩ := abs_in h3
        obtain ⟨f0, f1⟩ := abs_in h4
        obtain ⟨g0, g1⟩ := abs_in h5
        have r0 := hZ.b0
        have HZ' := Lib.hid hZ
        clear hZ h1 h2 h3 h4 h5
        go_wp2_with fail
        go_roundw
        case rel => exact ⟨_, _, _, _, rfl, rfl, rfl, rfl, HZ', hb⟩
        case measure => simp [intOf]; omega
def memI (x : Int) (l : List Int) : Bool := decide (x ∈ l)
set_option maxHeartbeats 1000000 in
theorem indexI_any (A : Option Addr) (cap B : Nat) (l : List Int) (x : Int) (w : World) (hl : l.length ≤ 20000) (h : RowAt w B A l.length (ints l)) :
    Calls Try.prog 62 #[.slice A l.length cap, (.int .i64 x)] w fun e w' => (∃ r : Int, e = .returned (.int .i64 r) ∧ (x ∈ l → 0 ≤ r) ∧ (x ∉ l → r = -1) ∧ -1 ≤ r ∧ r ≤ 20000) ∧ Below w.heap.size w w' := by
  have H := Lib.hid h
  clear h
  have HM := Lib.hid (fun (k : Nat) (hk : k < l.length) => List.getElem_mem hk)
  have HN := Lib.hid (fun (h : ∀ j (hj : j < l.length), j < l.length → l[j] ≠ x) => show x ∉ l from fun hm => by obtain ⟨j, hj, e⟩ := List.getElem_of_mem hm; exact h j hj hj e)
  go_enter Try.func62, Try.ntmps62
  go_wp2_with fail
  go_loopw [8] (fun i wr => ∃ k : Nat, i = (.int .i64 ((k : Int))) ∧ k ≤ l.length ∧ Hid (∀ j (hj : j < l.length), j < k → l[j] ≠ x) ∧ Below w.heap.size w wr) (fun i _ => l.length - (intOf i).toNat)
  case atStart => exact ⟨0, rfl, Nat.zero_le _, Lib.hid (fun j _ hj => by omega), Below.refl _ _⟩
  case round =>
    obtain ⟨k, rfl, hk, HB, hb⟩ := hrel
    by_cases hlt : k < l.length
    · obtain ⟨b, rfl, -, hbl, hc, -⟩ := (H.out.below hb) (by omega)
      have h1 := hc k _ (show (ints l)[k]? = some (.int .i64 l[k]) by simp [ints, hlt])
      have HMk := Lib.hid (HM.out k hlt)
      have HBn := Lib.hid (show l[k] ≠ x → ∀ j (hj : j < l.length), j < k + 1 → l[j] ≠ x from fun hne j hj hjk => by
        by_cases e : j = k
        · subst e; exact hne
        · exact HB.out j hj (by omega))
      clear hc
      generalize l[k] = y at *
      by_cases he : y = x
      · subst he
        go_wp2_with fail
        go_ret
        exact ⟨⟨_, rfl, fun _ => by omega, fun h => absurd HMk.out h, by omega, by omega⟩, hb⟩
      · have hE : (x == y) = false := by simpa using fun e => he e.symm
        have HE2 := Lib.hid (HBn.out he)
        clear he
        go_wp2_with fail
        go_roundw
        case rel => exact ⟨k + 1, by go_num, by omega, HE2, hb⟩
        case measure => simp [intOf]; omega
    · obtain rfl : k = l.length := by omega
      have HV := Lib.hid (HN.out HB.out)
      go_wp2_with fail
      go_ret
      exact ⟨⟨_, rfl, fun h => absurd h HV.out, fun _ => rfl, by omega, by omega⟩, hb⟩
theorem containsI_any (A : Option Addr) (cap B : Nat) (l : List Int) (x : Int) (w : World) (hl : l.length ≤ 20000) (h : RowAt w B A l.length (ints l)) :
    Calls Try.prog 33 #[.slice A l.length cap, (.int .i64 x)] w fun e w' => e = .returned (.bool (memI x l)) ∧ Below w.heap.size w w' := by
  have HI := Lib.hid (fun W hb => indexI_any A cap B l x W hl (h.below hb))
  clear h
  unfold memI
  go_enter Try.func33, Try.ntmps33
  go_wp2_with fail
  refine (HI.out _ (Below.refl _ _)).mono ?_; rintro e w1 ⟨⟨r, rfl, h1, h2, r0, r1⟩, hb1⟩
  go_wp2_with fail
  go_ret
  refine ⟨?_, hb1⟩
  by_cases hm : x ∈ l
  · have := h1 hm
    exact ret_bool (by simp [hm]; omega)
  · have := h2 hm
    exact ret_bool (by simp [hm]; omega)
end Go.Proofs.Ytjkemnnkgihefaa
