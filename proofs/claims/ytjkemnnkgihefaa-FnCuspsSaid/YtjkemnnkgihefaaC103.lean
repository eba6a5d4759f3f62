/- Contracts: the cusp of a fraction; the law CuspOfFraction. -/
import Derived.Test.YtjkemnnkgihefaaC102
namespace Go.Proofs.Ytjkemnnkgihefaa
open Go.RowKit
/-- T, some times, on a coset. -/
theorem cos_it {N : Nat} {q : Int} (n0 : 0 < N) (n1 : N ≤ 60) : ∀ (t : Nat) (s : Int), isPairB N (q % N) (s % N) = true → itP (cosP N) t (cosetI N (lineL N) q s).toNat = (cosetI N (lineL N) q (s + t * q)).toNat
  | 0, s, _ => by simp [itP]
  | t + 1, s, h => by
    obtain ⟨k, hk, e, he⟩ := coset_get n0 h
    have h2 : pk (cosP N) (cosetI N (lineL N) q s).toNat = (cosetI N (lineL N) q (q + s)).toNat := by
      unfold pk
      rw [e, Int.toNat_natCast, cosP_at hk, he]
      have := coset_lead (N := N) (l := lineL N) (c := q) (d := s) n0 n1 1 1 0 1
      simp only [Int.mul_one, Int.mul_zero, Int.add_zero] at this
      rw [this]
    show itP (cosP N) t (pk (cosP N) (cosetI N (lineL N) q s).toNat) = _
    have hm : (q + s) % (N : Int) = ((q % N) + (s % N)) % N := by rw [Int.add_emod]
    have hp : isPairB N (q % N) ((q + s) % N) = true := by
      have := pair_T h
      rw [Int.emod_emod_of_dvd _ (Int.dvd_refl _)] at this
      rw [hm]; exact this
    rw [h2, cos_it n0 n1 t (q + s) hp]
    congr 2
    push_cast
    rw [Int.add_mul]; omega
theorem cosP_period {N : Nat} (n0 : 0 < N) (n1 : N ≤ 60) {k : Nat} (hk : k < (cosP N).length) : itP (cosP N) N k = k := by
  rw [cosP_len] at hk
  have h := cos_it n0 n1 N (lineL (N : Int))[k].y (normal_of_line n0 hk).2
  rw [coset_self n0 hk, Int.toNat_natCast] at h
  rw [h, coset_mod (c' := (lineL (N : Int))[k].x) (d' := (lineL (N : Int))[k].y) (by simp) ⟨(lineL (N : Int))[k].x, by omega⟩, coset_self n0 hk, Int.toNat_natCast]
theorem num_closed {N : Nat} (n0 : 0 < N) (n1 : N ≤ 60) : Closed (cosP N) (cusN (cosP N) (cosP N).length).1 ∧ ∀ k, k < (cosP N).length → 0 ≤ (cusN (cosP N) (cosP N).length).1.getD k 0 := by
  have hp := cosP_in n0
  obtain ⟨m, rfl⟩ : ∃ m, N = m + 1 := ⟨N - 1, by omega⟩
  exact ⟨cus_closed hp (fun k hk => cosP_period n0 n1 hk) _ (Nat.le_refl _), fun k hk => (cusInv hp _ (Nat.le_refl _)).met k hk hk⟩
/-- The number of the cusp of a fraction, from whatever second number. -/
theorem cusp_same {N : Nat} {p q r s r' s' : Int} (n0 : 0 < N) (n1 : N ≤ 60) (h : p * s - q * r = 1) (h' : p * s' - q * r' = 1) : (cusN (cosP N) (cosP N).length).1.getD (cosetI N (lineL N) q s).toNat 0 = (cusN (cosP N) (cosP N).length).1.getD (cosetI N (lineL N) q s').toNat 0 := by
  obtain ⟨hc, hall⟩ := num_closed n0 n1
  have hpr : isPairB N (q % N) (s % N) = true := pair_det (a := p) (b := r) (by rw [Int.mul_comm r]; exact h)
  have hlt : (cosetI N (lineL N) q s).toNat < (cosP N).length := by
    have := coset_in (n := (N : Int)) (by omega) hpr
    rw [cosP_len]; omega
  obtain ⟨T, hT⟩ : ∃ T : Int, s' = s + q * T := by
    refine ⟨s * r' - r * s', ?_⟩
    have e1 : s * (p * s' - q * r') = s := by rw [h']; simp
    have e2 : s' * (p * s - q * r) = s' := by rw [h]; simp
    have e3 : s * (p * s') = s' * (p * s) := by rw [Int.mul_left_comm s, Int.mul_left_comm s', Int.mul_comm s s']
    rw [Int.mul_sub] at e1 e2
    rw [Int.mul_sub, Int.mul_left_comm q s r', Int.mul_left_comm q r s', ]
    have e4 : s' * (q * r) = r * (q * s') := by rw [Int.mul_left_comm s', Int.mul_comm s' r, Int.mul_left_comm r]
    omega
  rw [← itP_same (cosP_in n0) hc hall (T % N).toNat _ hlt, cos_it n0 n1 _ _ hpr, coset_mod (d' := s') (c' := q) (by simp) ?_]
  have h0 : (0 : Int) ≤ T % N := Int.emod_nonneg _ (by omega)
  rw [Int.toNat_of_nonneg h0, hT]
  have hd := Int.emod_def T N
  refine ⟨-(T / N) * q, ?_⟩
  rw [hd, Int.sub_mul, Int.mul_comm q T, Int.neg_mul, Int.mul_neg, Int.mul_assoc]; omega
theorem inRow_any (A : Option Addr) (cap B : Nat) (l : List Int) (x : Int) (b : Nat) (w : World) (hl : l.length ≤ 20000) (h : RowAt w B A l.length (ints l)) (hx : w.cell? ⟨b, 0, none⟩ = some (.int .i64 x)) :
    Calls Try.prog 32 #[.slice A l.length cap, .pointer (some ⟨b, 0, none⟩)] w fun e w' => e = .returned (.bool (memI x l)) ∧ Below w.heap.size w w' := by
  have HC := Lib.hid (containsI_any A cap B l x w hl h)
  clear h
  generalize memI x l = R at *
  go_enter Try.func32, Try.ntmps32
  go_wp2_with fail
  refine HC.out.mono ?_; rintro e w1 ⟨rfl, hb1⟩
  go_wp2_with fail
  go_ret
  exact ⟨rfl, hb1⟩
set_option maxHeartbeats 1000000 in
theorem rowOf_any (v : Value) (C B m b : Nat) (inn : List Value) (X : List (List Int)) (x : Int) (w : World) (hm : m < C) (hC : C ≤ 20000) (hl : ∀ k, (X.getD k []).length ≤ 20000) (hit : memI x (X.getD m []) = true) (miss : ∀ j, j < m → memI x (X.getD j []) = false)
    (h : SS w B v C inn (lenX X) (intX X)) (hb0 : b < w.heap.size) (hx : w.cell? ⟨b, 0, none⟩ = some (.int .i64 x)) :
    Calls Try.prog 30 #[v, .func (.func 32) #[] #[.pointer (some ⟨b, 0, none⟩)]] w fun e w' => e = .returned (.int .i64 ((m : Int))) ∧ Below w.heap.size w w' := by
  have H := Lib.hid h
  obtain ⟨A, cap, rfl, hcap, hmax, -⟩ := own_view h.out
  clear h
  have HL := Lib.hid hl
  have HIT := Lib.hid hit
  have HMI := Lib.hid miss
  clear hl hit miss
  go_enter Try.func30, Try.ntmps30
  go_wp2_with fail
  go_loopw [8] (fun i wr => ∃ k : Nat, i = (.int .i64 ((k : Int))) ∧ k ≤ m ∧ Below w.heap.size w wr) (fun i _ => C - (intOf i).toNat)
  case atStart => exact ⟨0, rfl, Nat.zero_le _, Below.refl _ _⟩
  case round =>
    obtain ⟨k, rfl, hk, hb⟩ := hrel
    have G := Lib.hid (H.out.below hb)
    obtain ⟨u, hu, ho⟩ := G.out.at_ (show k < C by omega)
    obtain ⟨A1, c1, rfl, q1, q2, R⟩ := own_view ho
    obtain ⟨bo, rfl, -, hl1, hc, -⟩ := (own_at G.out.out) (by omega)
    have h1 := hc k _ hu
    have hx' : wr.cell? ⟨b, 0, none⟩ = some (.int .i64 x) := by rw [hb.cell (p := ⟨b, 0, none⟩) hb0]; exact hx
    have HC := Lib.hid (inRow_any A1 c1 B (X.getD k []) x b wr (HL.out k) R hx')
    clear hc hu ho R hx'
    have hE : m = k ∨ k < m := by omega
    unfold lenX at *
    rcases hE with rfl | hlt
    · rw [HIT.out] at HC
      generalize X.getD m [] = xs at *
      go_wp2_with fail
      refine HC.out.mono ?_; rintro e w1 ⟨rfl, hb1⟩
      go_wp2_with fail
      go_ret
      exact ⟨rfl, hb.trans (hb1.mono hb.size)⟩
    · rw [HMI.out k hlt] at HC
      generalize X.getD k [] = xs at *
      go_wp2_with fail
      refine HC.out.mono ?_; rintro e w1 ⟨rfl, hb1⟩
      go_wp2_with fail
      go_roundw
      case rel => exact ⟨k + 1, by go_num, by omega, hb.trans (hb1.mono hb.size)⟩
      case measure => simp [intOf]; omega
end Go.Proofs.Ytjkemnnkgihefaa
