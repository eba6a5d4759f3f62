/- Contracts: convergents of a fraction; whether a list is a continued fraction. -/
import Derived.Test.YtjnkogkpdbgohaaK3
namespace Go.Proofs.Ytjnkogkpdbgohaa
open Go.RowKit
def cvofRes (P Q : Int) : List P2 × Int := if isFrac P Q = true then (if Q = 0 then ([], 5) else (convL (cfrac P Q) 1 0 0 1, 0)) else ([], 1)
theorem cvofRes_len (P Q : Int) : (cvofRes P Q).1.length ≤ 60 := by
  unfold cvofRes
  split
  · rename_i h
    split
    · simp
    · have := isFrac_iff.1 h
      simp only [convL_len]
      exact cfrac_len this.2.1.1 this.2.1.2
  · simp
theorem frac_e9 {P Q : Int} (h : isFrac P Q = true) : E9 P ∧ 0 ≤ Q ∧ Q ≤ 1000000000 ∧ Int.gcd P Q = 1 ∧ (0 < Q ∨ P = 1) := by
  obtain ⟨h1, h2, h3, h4⟩ := isFrac_iff.1 h
  exact ⟨⟨h1.1, h1.2⟩, h2.1, h2.2, by exact_mod_cast h3, h4⟩
set_option maxRecDepth 100000 in
theorem ConvergentsOf_any (P Q : Int) (w : World) :
    Calls Try.prog 6 #[(.agg #[.int .i64 P, .int .i64 Q])] w fun e w' => ∃ v, e = .returned (.tuple #[v, (.int .i64 ((cvofRes P Q).2))]) ∧ w'.ownsRow w.heap.size 25 2 v (cvofRes P Q).1.length (ints (flat2 (cvofRes P Q).1)) ∧ Below w.heap.size w w' := by
  have HC := Lib.hid (fun W => ContinuedOf_any P Q W)
  cases hf : isFrac P Q
  · rw [show cvofRes P Q = ([], 1) by simp [cvofRes, hf]]
    rw [show cofRes P Q = ([], 1) by simp [cofRes, hf]] at HC
    go_enter Try.func6, Try.ntmps6
    go_wp2_with fail
    refine (HC.out _).mono ?_; rintro e w1 ⟨v, rfl, -, hb1⟩
    have hB : Below w.heap.size w w1 := bfin (by go_grown) hb1
    go_wp2_with fail
    go_ret2
    exact ⟨_, rfl, World.ownsRow_nil _ _ _ _, hB⟩
  by_cases hq : Q = 0
  · subst hq
    rw [show cvofRes P 0 = ([], 5) by simp [cvofRes, hf]]
    rw [show cofRes P 0 = ([], 5) by simp [cofRes, hf]] at HC
    go_enter Try.func6, Try.ntmps6
    go_wp2_with fail
    refine (HC.out _).mono ?_; rintro e w1 ⟨v, rfl, -, hb1⟩
    have hB : Below w.heap.size w w1 := bfin (by go_grown) hb1
    go_wp2_with fail
    go_ret2
    exact ⟨_, rfl, World.ownsRow_nil _ _ _ _, hB⟩
  · rw [show cvofRes P Q = (convL (cfrac P Q) 1 0 0 1, 0) by simp [cvofRes, hf, hq]]
    rw [show cofRes P Q = (cfrac P Q, 0) by simp [cofRes, hf, hq]] at HC
    obtain ⟨e9, q0, q1, hg, -⟩ := frac_e9 hf
    have hlen := cfrac_len (p := P) q0 q1
    have he := cfrac_e9 (Q.toNat + 1) P Q e9 q0 q1 (by omega)
    have hr : cvRes (cfrac P Q) = (convL (cfrac P Q) 1 0 0 1, 0) := by unfold cvRes; rw [cvB_ok (convOk_all e9 (by omega) q1)]; simp
    have HV := Lib.hid (fun A cap B W h => convergentsG_any A cap B (cfrac P Q) W h hlen he)
    rw [hr] at HV
    clear hf hr he
    generalize cfrac P Q = L at *
    go_enter Try.func6, Try.ntmps6
    go_wp2_with fail
    refine (HC.out _).mono ?_; rintro e w1 ⟨v, rfl, ho, hb1⟩
    have hB : Below w.heap.size w w1 := bfin (by go_grown) hb1
    obtain ⟨A, cap, rfl, -, -, hat⟩ := own_view ho
    have R := Lib.hid hat
    clear ho hat hb1
    go_wp2_with fail
    refine (HV.out _ _ _ _ R.out).mono ?_; rintro e w2 ⟨v, rfl, ho, hb2⟩
    have HO := Lib.hid (own_base ho hB.size)
    have hB2 : Below w.heap.size w w2 := bfin hB hb2
    clear ho
    go_wp2_with fail
    go_ret2
    exact ⟨_, rfl, HO.out, hB2⟩
set_option maxRecDepth 100000 in
theorem sConvergentsOf_any (P Q : Int) (w : World) :
    Calls Try.prog 7 #[(.agg #[.int .i64 P, .int .i64 Q])] w fun e w' => ∃ v, e = .returned (.tuple #[v, (.int .i64 ((cvofRes P Q).2))]) ∧ w'.ownsRow w.heap.size 25 2 v (cvofRes P Q).1.length (ints (flat2 (cvofRes P Q).1)) ∧ Below w.heap.size w w' := by
  have HF := Lib.hid (fun W => l01Fraction_any P Q W)
  cases hf : isFrac P Q
  · rw [show cvofRes P Q = ([], 1) by simp [cvofRes, hf]]
    rw [hf] at HF
    go_enter Try.func7, Try.ntmps7
    go_wp2_with fail
    refine (HF.out _).mono ?_; rintro e w1 ⟨rfl, hb1⟩
    obtain ⟨hc1, hf1⟩ := bcell hb1
    have hB1 : Below w.heap.size w w1 := bfin (by go_grown) hb1
    go_wp2_with fail
    go_ret2
    exact ⟨_, rfl, World.ownsRow_nil _ _ _ _, by go_grown⟩
  rw [hf] at HF
  by_cases hq : Q = 0
  · subst hq
    rw [show cvofRes P 0 = ([], 5) by simp [cvofRes, hf]]
    go_enter Try.func7, Try.ntmps7
    go_wp2_with fail
    refine (HF.out _).mono ?_; rintro e w1 ⟨rfl, hb1⟩
    obtain ⟨hc1, hf1⟩ := bcell hb1
    have hz1_0 : w.heap.size < w1.heap.size := by have := hb1.size; (try simp at this); omega
    have hB1 : Below w.heap.size w w1 := bfin (by go_grown) hb1
    go_wp2_with fail
    go_ret2
    exact ⟨_, rfl, World.ownsRow_nil _ _ _ _, by go_grown⟩
  · rw [show cvofRes P Q = (convL (cfrac P Q) 1 0 0 1, 0) by simp [cvofRes, hf, hq]]
    have hq' : (Q == 0) = false := by simpa using hq
    obtain ⟨e9, q0, q1, hg, -⟩ := frac_e9 hf
    have HC := Lib.hid (fun W => l03Continued_any P Q W e9 q0 q1)
    have hlen := cfrac_len (p := P) q0 q1
    have he := cfrac_e9 (Q.toNat + 1) P Q e9 q0 q1 (by omega)
    have hr : cvRes (cfrac P Q) = (convL (cfrac P Q) 1 0 0 1, 0) := by unfold cvRes; rw [cvB_ok (convOk_all e9 (by omega) q1)]; simp
    have HV := Lib.hid (fun A cap B W h => l03ConvergentsG_any A cap B (cfrac P Q) W h hlen he)
    rw [hr] at HV
    clear hf hr he
    generalize cfrac P Q = L at *
    go_enter Try.func7, Try.ntmps7
    go_wp2_with fail
    refine (HF.out _).mono ?_; rintro e w1 ⟨rfl, hb1⟩
    obtain ⟨hc1, hf1⟩ := bcell hb1
    have hz1_0 : w.heap.size < w1.heap.size := by have := hb1.size; (try simp at this); omega
    have hB1 : Below w.heap.size w w1 := bfin (by go_grown) hb1
    go_wp2_with fail
    refine (HC.out _).mono ?_; rintro e w2 ⟨v, rfl, ho, hb2⟩
    have hB2 : Below w.heap.size w w2 := bfin hB1 hb2
    obtain ⟨A, cap, rfl, -, -, hat⟩ := own_view ho
    have R := Lib.hid hat
    clear ho hat hb2
    go_wp2_with fail
    refine (HV.out _ _ _ _ R.out).mono ?_; rintro e w3 ⟨v, rfl, ho, hb3⟩
    have HO := Lib.hid (own_base ho hB2.size)
    have hB3 : Below w.heap.size w w3 := bfin hB2 hb3
    clear ho
    go_wp2_with fail
    go_ret2
    exact ⟨_, rfl, HO.out, hB3⟩
theorem getD_memK {xs : List Int} {j : Nat} (h : j < xs.length) : xs.getD j 0 ∈ xs := by simp [List.getD, List.getElem?_eq_getElem h]
theorem lt_oneK {j : Nat} (h : j < 0 + 1) : j = 0 := by omega
set_option maxRecDepth 100000 in
theorem minI_any (A : Option Addr) (cap B : Nat) (xs : List Int) (w : World) (hl : xs.length ≤ 1000) (h1 : 1 ≤ xs.length) (h : RowAt w B A xs.length (ints xs)) :
    Calls Try.prog 56 #[.slice A xs.length cap] w fun e w' => ∃ m : Int, e = .returned (.int .i64 m) ∧ (∀ x ∈ xs, m ≤ x) ∧ m ∈ xs ∧ w = w' := by
  obtain ⟨b, rfl, -, -, hc, -⟩ := h (by omega)
  have HC := Lib.hid (fun k (hk : k < xs.length) => hc k _ (ints_at hk))
  have hc0 := HC.out 0 (by omega)
  have HM := Lib.hid (getD_memK (xs := xs) (j := 0) (by omega))
  clear hc h
  generalize hx0 : xs.getD 0 0 = x0 at *
  have HX0 := Lib.hid hx0
  clear hx0
  have hne : ¬ ((xs.length : Nat) : Int) < 1 := by omega
  go_enter Try.func56, Try.ntmps56
  go_wp2_with fail
  go_loopw [3, 4] (fun m i wr => ∃ (k : Nat) (y : Int), m = (.int .i64 y) ∧ i = (.int .i64 ((k : Int) + 1)) ∧ k + 1 ≤ xs.length ∧ Hid (∀ j, j < k + 1 → y ≤ xs.getD j 0) ∧ Hid (y ∈ xs) ∧ wr = w) (fun _ i _ => xs.length + 1 - (intOf i).toNat)
  case atStart => exact ⟨0, x0, rfl, by go_num, by omega, Lib.hid (fun j hj => by rw [lt_oneK hj, HX0.out]; exact Int.le_refl _), HM, rfl⟩
  case round =>
    obtain ⟨k, y, rfl, rfl, hk, HL, HI, rfl⟩ := hrel
    by_cases hlt : k + 1 < xs.length
    · have hlt2 : (k : Int) + 1 < (xs.length : Int) := by omega
      have hck := HC.out (k + 1) hlt
      have HKI := Lib.hid (getD_memK (xs := xs) hlt)
      have HKE := Lib.hid (show xs.getD (k + 1) 0 = xs.getD (k + 1) 0 from rfl)
      generalize hx : xs.getD (k + 1) 0 = x at hck HKI
      have HX := Lib.hid hx
      clear hx hc0
      go_wp2_with fail
      go_roundw
      case rel =>
        refine ⟨k + 1, min y x, ?_, by go_num, by omega, Lib.hid (fun j hj => ?_), Lib.hid ?_, trivial⟩
        · congr 1; try omega
        · by_cases hj2 : j < k + 1
          · have := HL.out j hj2; omega
          · obtain rfl : j = k + 1 := by omega
            rw [HX.out]; omega
        · by_cases hyx : y ≤ x
          · rw [Int.min_eq_left hyx]; exact HI.out
          · rw [Int.min_eq_right (by omega)]; exact HKI.out
      case measure => simp [intOf]; omega
    · have hlt2 : ¬ (k : Int) + 1 < (xs.length : Int) := by omega
      go_wp2_with fail
      go_ret
      refine ⟨y, rfl, fun x hx => ?_, HI.out, rfl⟩
      obtain ⟨j, hj, rfl⟩ := List.getElem_of_mem hx
      have := HL.out j (by omega)
      rwa [List.getD, List.getElem?_eq_getElem hj] at this
end Go.Proofs.Ytjnkogkpdbgohaa
