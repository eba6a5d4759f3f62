/- Contracts in letters for the law of Farey's tree. -/
import Derived.Test.YtjnkogkpdbgohaaGreatDoorM13B
import Derived.Test.YtjnkogkpdbgohaaGreatDoorM13C
import Derived.Test.YtjnkogkpdbgohaaGreatDoorM6
import Derived.Test.YtjnkogkpdbgohaaGreatDoorD4A
namespace Go.Proofs.YtjnkogkpdbgohaaGreatDoor
open Go.RowKit
/-! ### Rows -/
def frowRes (N : Int) : List P2 × Int := if inB N 1 20 = true then (rowP N.toNat, 0) else ([], 2)
theorem FareyRow_all (N : Int) (w : World) :
    Calls Tryz.prog 6 #[(.int .i64 N)] w fun e w' => ∃ v, e = .returned (.tuple #[v, (.int .i64 ((frowRes N).2))]) ∧ w'.ownsRow w.heap.size 34 2 v (frowRes N).1.length (ints (flat2 (frowRes N).1)) ∧ Below w.heap.size w w' := by
  have HW := Lib.hid (fun W => within_any N 1 20 W)
  cases hN : inB N 1 20
  · rw [show frowRes N = ([], 2) by simp [frowRes, hN]]
    rw [hN] at HW
    go_enter Tryz.func6, Tryz.ntmps6
    go_wp2_with fail
    refine (HW.out _).mono ?_; rintro e w' ⟨rfl, rfl⟩
    go_wp2_with fail
    go_ret2
    exact ⟨_, rfl, World.ownsRow_nil _ _ _ _, Below.refl _ _⟩
  · obtain ⟨n, rfl⟩ : ∃ n : Nat, N = (n : Int) := ⟨N.toNat, by simp [inB] at hN; omega⟩
    rw [show frowRes (n : Int) = (rowP n, 0) by simp [frowRes, hN]]
    exact FareyRow_any n w (by simp [inB] at hN; omega) (by simp [inB] at hN; omega)
theorem sFareyRow_all (N : Int) (w : World) :
    Calls Tryz.prog 7 #[(.int .i64 N)] w fun e w' => ∃ v, e = .returned (.tuple #[v, (.int .i64 ((frowRes N).2))]) ∧ w'.ownsRow w.heap.size 34 2 v (frowRes N).1.length (ints (flat2 (frowRes N).1)) ∧ Below w.heap.size w w' := by
  have HW := Lib.hid (fun W => l01In_any N 1 20 W)
  cases hN : inB N 1 20
  · rw [show frowRes N = ([], 2) by simp [frowRes, hN]]
    rw [hN] at HW
    go_enter Tryz.func7, Tryz.ntmps7
    go_wp2_with fail
    refine (HW.out _).mono ?_; rintro e w' ⟨rfl, rfl⟩
    go_wp2_with fail
    go_ret2
    exact ⟨_, rfl, World.ownsRow_nil _ _ _ _, Below.refl _ _⟩
  · obtain ⟨n, rfl⟩ : ∃ n : Nat, N = (n : Int) := ⟨N.toNat, by simp [inB] at hN; omega⟩
    rw [show frowRes (n : Int) = (rowP n, 0) by simp [frowRes, hN]]
    exact sFareyRow_any n w (by simp [inB] at hN; omega) (by simp [inB] at hN; omega)
set_option maxRecDepth 1000000 in
theorem rowCnt_all : (List.range 20).all (fun n => decide ((rowN (n + 1)).length = cntF (n + 1))) = true := by decide +kernel
theorem rowCnt {n : Nat} (h0 : 1 ≤ n) (h1 : n ≤ 20) : (rowN n).length = cntF n := by
  have := List.all_eq_true.1 rowCnt_all (n - 1) (by simp; omega)
  rw [show n - 1 + 1 = n by omega] at this
  exact of_decide_eq_true this
/-- What holds of two fractions that follow each other in a row. -/
structure StepUse (N : Int) (x y : P2) : Prop where
  near : nearRes x.x x.y y.x y.y = (true, 0)
  next : nirRes N x.x x.y y.x y.y = ((y.x, y.y), 0)
  nt : NxT x.x x.y N y.x y.y
theorem frn_frac {n p q : Int} {x : P2} {l : List P2} (h : FRn n p q x l) (hn : n ≤ 20) : isFrac p q = true := by
  have := h.p0; have := h.pq; have := h.qn
  exact isFrac_iff.2 ⟨by omega, by omega, by exact_mod_cast h.g, .inl (by omega)⟩
theorem fr_frac {n p q : Int} {l : List P2} (h : FR n p q l) (hn : n ≤ 20) : isFrac p q = true := by
  cases l with
  | nil => obtain ⟨rfl, rfl⟩ := h.one; decide
  | cons x l => exact frn_frac h.inv hn
theorem step_use {n : Int} {x y : P2} {l : List P2} (h : FRn n x.x x.y y l) (hn : n ≤ 20) : StepUse n x y := by
  have f1 := frn_frac h hn
  have f2 := fr_frac h.r hn
  have h0 := h.p0; have h1 := h.pq; have h2 := h.qn
  refine ⟨?_, ?_, h.t⟩
  · unfold nearRes nearB crossV
    rw [f1, f2]
    simp only [Bool.and_self, if_true]
    rw [decide_eq_true]
    right
    have := h.t.det
    rw [Int.mul_comm x.y y.x]
    have e : x.y * y.x = y.x * x.y := Int.mul_comm _ _
    omega
  · have hc : nirC n x.x x.y = 0 := by
      unfold nirC
      rw [if_pos f1, if_pos (by simp only [inB, Bool.and_eq_true, decide_eq_true_eq]; omega), if_neg (by omega)]
    unfold nirRes
    rw [if_pos hc]
structure RowUse (N : Int) (L : List P2) : Prop where
  cnt : cntRes N = ((L.length : Int), 0)
  step : ∀ j x y, L[j]? = some x → L[j + 1]? = some y → StepUse N x y
  pos : 0 < L.length
theorem row_use {N : Int} (h : inB N 1 20 = true) : RowUse N (rowP N.toNat) := by
  obtain ⟨n, rfl⟩ : ∃ n : Nat, N = (n : Int) := ⟨N.toNat, by simp [inB] at h; omega⟩
  have h0 : 1 ≤ n := by simp [inB] at h; omega
  have h1 : n ≤ 20 := by simp [inB] at h; omega
  simp only [Int.toNat_natCast]
  refine ⟨?_, fun j x y hx hy => ?_, by simp [rowP]⟩
  · unfold cntRes
    rw [if_pos (by simp only [inB, Bool.and_eq_true, decide_eq_true_eq]; omega), Int.toNat_natCast, ← rowCnt h0 h1]
    simp [rowP]; omega
  · obtain ⟨l', hf⟩ := (rowN_ok h0 h1).1.at j x y hx hy
    exact step_use hf (by omega)
structure FrOk (N : Int) (L : List P2) (k : Int) : Prop where
  imp : ∀ W : World, Calls Tryz.prog 6 #[(.int .i64 N)] W fun e w' => ∃ v, e = .returned (.tuple #[v, (.int .i64 k)]) ∧ w'.ownsRow W.heap.size 34 2 v L.length (ints (flat2 L)) ∧ Below W.heap.size W w'
  spc : ∀ W : World, Calls Tryz.prog 7 #[(.int .i64 N)] W fun e w' => ∃ v, e = .returned (.tuple #[v, (.int .i64 k)]) ∧ w'.ownsRow W.heap.size 34 2 v L.length (ints (flat2 L)) ∧ Below W.heap.size W w'
  len : L.length ≤ 129
  use : k = 0 → RowUse N L
theorem fr_ok (N : Int) : ∃ (L : List P2) (k : Int), FrOk N L k := by
  refine ⟨(frowRes N).1, (frowRes N).2, fun W => FareyRow_all N W, fun W => sFareyRow_all N W, ?_, fun h0 => ?_⟩
  · unfold frowRes
    split
    · rename_i h
      have := (rowN_ok (n := N.toNat) (by simp [inB] at h; omega) (by simp [inB] at h; omega)).2
      simp [rowP]; omega
    · simp
  · unfold frowRes at h0
    split at h0
    · rename_i h
      rw [show (frowRes N).1 = rowP N.toNat by unfold frowRes; rw [if_pos h]]
      exact row_use h
    · simp at h0
structure TrOk (P Q : Int) (R : Q4) (s : ByteArray) (k6 k8 : Int) : Prop where
  p1 : ∀ W : World, Calls Tryz.prog 13 #[(.agg #[.int .i64 P, .int .i64 Q])] W fun e w' => e = .returned (.tuple #[.string s, (.int .i64 k6)]) ∧ Below W.heap.size W w'
  p2 : ∀ W : World, Calls Tryz.prog 14 #[(.agg #[.int .i64 P, .int .i64 Q])] W fun e w' => e = .returned (.tuple #[.string s, (.int .i64 k6)]) ∧ Below W.heap.size W w'
  q1 : ∀ W : World, Calls Tryz.prog 15 #[(.agg #[.int .i64 P, .int .i64 Q])] W fun e w' => e = .returned (.tuple #[(.agg #[.int .i64 R.a, .int .i64 R.b]), (.agg #[.int .i64 R.c, .int .i64 R.d]), (.int .i64 k8)]) ∧ Below W.heap.size W w'
  q2 : ∀ W : World, Calls Tryz.prog 16 #[(.agg #[.int .i64 P, .int .i64 Q])] W fun e w' => e = .returned (.tuple #[(.agg #[.int .i64 R.a, .int .i64 R.b]), (.agg #[.int .i64 R.c, .int .i64 R.d]), (.int .i64 k8)]) ∧ Below W.heap.size W w'
  len : s.size ≤ 20000
  near : k8 = 0 → nearRes R.a R.b R.c R.d = (true, 0)
  med : k8 = 0 → mdRes R.a R.b R.c R.d = ((P, Q), 0)
  cmp1 : k8 = 0 → cmpRes R.a R.b P Q = (-1, 0)
  cmp2 : k8 = 0 → cmpRes P Q R.c R.d = (-1, 0)
  back : k6 = 0 → s.size ≤ 40 → fpRes s = ((P, Q), 0)
theorem okS_lr (l : List Bool) : okS (strOfNums (l.map lrI)) = true := by
  unfold okS
  rw [strOfNums_data, List.map_map, List.all_map]
  refine List.all_eq_true.2 fun b _ => ?_
  cases b <;> rfl
structure EndUse (P Q : Int) (R : Q4) : Prop where
  near : nearRes R.a R.b R.c R.d = (true, 0)
  med : mdRes R.a R.b R.c R.d = ((P, Q), 0)
  cmp1 : cmpRes R.a R.b P Q = (-1, 0)
  cmp2 : cmpRes P Q R.c R.d = (-1, 0)
  x : R.a + R.c = P
  y : R.b + R.d = Q
theorem end_use {P Q : Int} {R : Q4} {full : List Bool} (h0 : tcRes P Q = 0) (hT : Tr ⟨0, 1, 1, 0⟩ Q P R full) : EndUse P Q R := by
  obtain ⟨p1, q1, p0, q0, hg, hf⟩ := tcIn h0
  obtain ⟨γ, hI⟩ := hT.last (TrI.start p0 q0)
  obtain ⟨e1, e2⟩ := hI.one hg rfl
  obtain ⟨a0, b0, c0, d0, det, al, be, al1, be1⟩ := hI
  have hb : 1 ≤ R.b := by
    refine Int.not_lt.1 fun hlt => ?_
    have hb : R.b = 0 := by omega
    rw [hb, Int.mul_zero] at det
    have := Int.mul_nonneg a0 d0
    omega
  have hc : 1 ≤ R.c := by
    refine Int.not_lt.1 fun hlt => ?_
    have hc : R.c = 0 := by omega
    rw [hc, Int.zero_mul] at det
    have := Int.mul_nonneg a0 d0
    omega
  have g1 : Int.gcd R.a R.b = 1 := by
    refine gcd_of_det (r := R.c) (s := R.d) (.inr ?_)
    rw [← show -(R.c * R.b - R.a * R.d) = -1 by rw [det]]; grind
  have g2 : Int.gcd R.c R.d = 1 := by
    refine gcd_of_det (r := R.a) (s := R.b) (.inl ?_)
    rw [← det]; grind
  have f1 : isFrac R.a R.b = true := isFrac_iff.2 ⟨by omega, by omega, by exact_mod_cast g1, .inl (by omega)⟩
  have f2 : isFrac R.c R.d = true := by
    refine isFrac_iff.2 ⟨by omega, by omega, by exact_mod_cast g2, ?_⟩
    by_cases hd : 0 < R.d
    · exact .inl hd
    · right
      have hd0 : R.d = 0 := by omega
      rw [hd0, Int.mul_zero] at det
      have := Int.mul_le_mul hc hb (by omega) (by omega)
      have h3 : R.c * 1 ≤ R.c * R.b := Int.mul_le_mul_of_nonneg_left hb (by omega)
      omega
  have hgP : (Int.gcd P Q : Int) = 1 := by exact_mod_cast hg
  refine ⟨?_, ?_, ?_, ?_, e1, e2⟩
  · unfold nearRes nearB crossV
    rw [f1, f2]
    simp only [Bool.and_self, if_true]
    rw [decide_eq_true]
    right
    rw [← show -(R.c * R.b - R.a * R.d) = -1 by rw [det]]; grind
  · unfold mdRes
    rw [f1, f2]
    simp only [Bool.and_self, if_true]
    rw [e1, e2]
    have x1 : fx P Q = P := by unfold fx; rw [hgP, Int.tdiv_one]
    have x2 : fy P Q = Q := by unfold fy; rw [hgP, Int.tdiv_one]
    unfold fracRes
    rw [x1, x2, if_pos]
    simp only [entB, inB, Bool.and_eq_true, decide_eq_true_eq]
    omega
  · unfold cmpRes
    rw [f1, hf]
    simp only [Bool.and_self, if_true]
    have : sg (R.a * Q - P * R.b) = -1 := by
      unfold sg; rw [if_pos]
      have e3 : R.a * Q - P * R.b = -(P * R.b - Q * R.a) := by grind
      rw [e3, ← be]; omega
    rw [this]
  · unfold cmpRes
    rw [f2, hf]
    simp only [Bool.and_self, if_true]
    have : sg (P * R.d - R.c * Q) = -1 := by
      unfold sg; rw [if_pos]
      have e3 : P * R.d - R.c * Q = -(R.c * Q - R.d * P) := by grind
      rw [e3, ← al]; omega
    rw [this]
theorem tr_ok (P Q : Int) : ∃ (R : Q4) (s : ByteArray) (k6 k8 : Int), TrOk P Q R s k6 k8 := by
  by_cases h0 : tcRes P Q = 0
  · obtain ⟨p1, q1, p0, q0, hg, hf⟩ := tcIn h0
    obtain ⟨R, full, hT⟩ := tr_ex (Q + P).toNat ⟨0, 1, 1, 0⟩ Q P (by omega) (by omega) (Nat.le_refl _)
    have hu := end_use h0 hT
    have hlen := hT.len (by omega) (by omega)
    have hp : paRes P Q R = (R, 0) := by unfold paRes; rw [if_pos h0]
    have q1 := fun W => ParentsOf_any P Q R full W (fun _ => hT)
    have q2 := fun W => sParentsOf_any P Q R full W (fun _ => hT)
    rw [hp] at q1 q2
    have r1 := fun W => PathOf_any P Q R full W (fun _ => hT)
    have r2 := fun W => sPathOf_any P Q R full W (fun _ => hT)
    by_cases hl : 200 < full.length
    · have hr : poRes P Q full = (noS, 3) := by unfold poRes; rw [if_pos h0, if_pos hl]
      rw [hr] at r1 r2
      exact ⟨R, _, 3, 0, r1, r2, q1, q2, by decide, fun _ => hu.near, fun _ => hu.med, fun _ => hu.cmp1, fun _ => hu.cmp2, fun h => by simp at h⟩
    · have hr : poRes P Q full = (.string (strOfNums (full.map lrI)), 0) := by unfold poRes; rw [if_pos h0, if_neg hl]; rfl
      rw [hr] at r1 r2
      refine ⟨R, _, 0, 0, r1, r2, q1, q2, by rw [strOfNums_size]; simp; omega, fun _ => hu.near, fun _ => hu.med, fun _ => hu.cmp1, fun _ => hu.cmp2, fun _ h40 => ?_⟩
      unfold fpRes
      rw [okS_lr, decide_eq_true h40, letS_lr, hT.fol]
      simp only [Bool.and_self, if_true]
      rw [hu.x, hu.y]
  · have hT : tcRes P Q = 0 → Tr ⟨0, 1, 1, 0⟩ Q P ⟨0, 0, 0, 0⟩ [] := fun h => absurd h h0
    have hp : paRes P Q ⟨0, 0, 0, 0⟩ = (⟨0, 0, 0, 0⟩, tcRes P Q) := by unfold paRes; rw [if_neg h0]
    have q1 := fun W => ParentsOf_any P Q ⟨0, 0, 0, 0⟩ [] W hT
    have q2 := fun W => sParentsOf_any P Q ⟨0, 0, 0, 0⟩ [] W hT
    rw [hp] at q1 q2
    have r1 := fun W => PathOf_any P Q ⟨0, 0, 0, 0⟩ [] W hT
    have r2 := fun W => sPathOf_any P Q ⟨0, 0, 0, 0⟩ [] W hT
    have hr : poRes P Q [] = (noS, tcRes P Q) := by unfold poRes; rw [if_neg h0]
    rw [hr] at r1 r2
    exact ⟨⟨0, 0, 0, 0⟩, _, tcRes P Q, tcRes P Q, r1, r2, q1, q2, by decide, fun h => absurd h h0, fun h => absurd h h0, fun h => absurd h h0, fun h => absurd h h0, fun h => absurd h h0⟩
/-- The next fraction in a row, of anything. -/
structure NrOk (n p q x y k : Int) : Prop where
  imp : ∀ W : World, Calls Tryz.prog 11 #[(.int .i64 n), (.agg #[.int .i64 p, .int .i64 q])] W fun e w' => e = .returned (.tuple #[(.agg #[.int .i64 x, .int .i64 y]), (.int .i64 k)]) ∧ Below W.heap.size W w'
  spc : ∀ W : World, Calls Tryz.prog 29 #[(.int .i64 n), (.agg #[.int .i64 p, .int .i64 q])] W fun e w' => e = .returned (.tuple #[(.agg #[.int .i64 x, .int .i64 y]), (.int .i64 k)]) ∧ Below W.heap.size W w'
theorem nr_ok (n p q : Int) : ∃ x y k : Int, NrOk n p q x y k := by
  by_cases h0 : nirC n p q = 0
  · have h := h0
    unfold nirC at h
    split at h
    · rename_i hf
      split at h
      · rename_i hb
        simp only [inB, Bool.and_eq_true, decide_eq_true_eq] at hb
        have hg := (isFrac_iff.1 hf).2.2.1
        obtain ⟨r, s, hN⟩ := nx_ex (p := p) (q := q) (n := n) (by omega) (by omega) (by omega) (by exact_mod_cast hg)
        exact ⟨_, _, _, fun W => NextInRow_any n p q r s W (fun _ => hN), fun W => sNextInRow_any n p q r s W (fun _ => hN)⟩
      · simp at h
    · simp at h
  · exact ⟨_, _, _, fun W => NextInRow_any n p q 0 0 W (fun h => absurd h h0), fun W => sNextInRow_any n p q 0 0 W (fun h => absurd h h0)⟩
end Go.Proofs.YtjnkogkpdbgohaaGreatDoor
