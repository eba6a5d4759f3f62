/- Contracts: NormalPair, CosetOf; their laws. -/
import Derived.Test.YtjkemnnkgihefaaCb
import Derived.Test.YtjkemnnkgihefaaCd
namespace Go.Proofs.Ytjkemnnkgihefaa
open Go.RowKit
def npRes (n c d : Int) : P2 × Int := if inB n 1 60 = true then (if (entB c && entB d) = true then (if isPairB n (c % n) (d % n) = true then (normal n (c % n) (d % n), 0) else (⟨0, 0⟩, 5)) else (⟨0, 0⟩, 2)) else (⟨0, 0⟩, 2)
theorem allE2 (a b : Int) : (allB 2 fun i => entB (if i = 0 then a else b)) = (entB a && entB b) := by
  simp [allB, List.range_succ]
theorem ret_three {a b c x y z : Int} (h1 : x = a) (h2 : y = b) (h3 : z = c) : Ending.returned (.tuple #[(.int .i64 a), (.int .i64 b), (.int .i64 c)]) = .returned (.tuple #[(.int .i64 x), (.int .i64 y), (.int .i64 z)]) := by rw [h1, h2, h3]
theorem isLevel_any (n : Int) (w : World) : Calls Try.prog 26 #[(.int .i64 n)] w fun e w' => e = .returned (.bool (inB n 1 60)) ∧ w = w' := by
  have H := Lib.hid (fun W => within_any n 1 60 W)
  generalize inB n 1 60 = R at *
  go_enter Try.func26, Try.ntmps26
  go_wp2_with fail
  refine (H.out _).mono ?_; rintro e w' ⟨rfl, rfl⟩
  go_wp2_with fail
  go_ret
  exact ⟨rfl, rfl⟩
def cosetRes (n a b c d : Int) : Int × Int := if isMat a b c d = true then (if inB n 1 60 = true then (cosetI n (lineL n) c d, 0) else (0, 2)) else (0, 1)
end Go.Proofs.Ytjkemnnkgihefaa
/- Contracts: LineOf; its law. -/
namespace Go.Proofs.Ytjkemnnkgihefaa
open Go.RowKit
structure SSRes where
  xss : List (List Int)
  n : Nat
  c : Int
def lineRes (n : Int) : SSRes := if inB n 1 60 = true then ⟨lineXs (lineL n), (lineL n).length, 0⟩ else ⟨[], 0, 2⟩
theorem offs_line (l : List P2) : ∀ k, k ≤ l.length → offs (lineXs l) k = 2 * k
  | 0, _ => rfl
  | k + 1, h => by
    show offs (lineXs l) k + ((lineXs l).getD k []).length = _
    rw [offs_line l k (by omega), lineXs_at (show k < l.length by omega)]
    simp; omega
theorem lineRes_n (n : Int) : (lineRes n).n ≤ 1000000 ∧ offs (lineRes n).xss (lineRes n).n ≤ 1000000000 := by
  unfold lineRes
  split
  · rename_i h
    have := (inB_iff.1 h).2
    have hl := lineL_len this
    simp only
    rw [offs_line _ _ (Nat.le_refl _)]
    omega
  · simp [offs]
end Go.Proofs.Ytjkemnnkgihefaa
/- Contracts: how many cosets are kept; the law CountKept. -/
namespace Go.Proofs.Ytjkemnnkgihefaa
open Go.RowKit
/-- For each pair of a line the number of its coset, moved by a matrix. -/
def movedL (n : Int) (l : List P2) (p q r s : Int) : List Int := l.map fun x => cosetI n l (x.x * p + x.y * r) (x.x * q + x.y * s)
theorem movedL_len (n : Int) (l : List P2) (p q r s : Int) : (movedL n l p q r s).length = l.length := by simp [movedL]
theorem movedL_at {n : Int} {l : List P2} {p q r s : Int} {k : Nat} (h : k < l.length) : (movedL n l p q r s).getD k 0 = cosetI n l (l[k].x * p + l[k].y * r) (l[k].x * q + l[k].y * s) := by
  simp [movedL, List.getD, List.getElem?_eq_getElem h]
def keptC (M : List Int) : Nat → Int
  | 0 => 0
  | k + 1 => keptC M k + if M.getD k 0 = k then 1 else 0
theorem keptC_bd (M : List Int) (k : Nat) : 0 ≤ keptC M k ∧ keptC M k ≤ k := by
  induction k with
  | zero => simp [keptC]
  | succ k ih => unfold keptC; split <;> omega
theorem keptC_yes {M : List Int} {k : Nat} (h : M.getD k 0 = k) : keptC M (k + 1) = keptC M k + 1 := by
  show keptC M k + (if _ then _ else _) = _
  rw [if_pos h]
theorem keptC_no {M : List Int} {k : Nat} (h : M.getD k 0 ≠ k) : keptC M (k + 1) = keptC M k := by
  show keptC M k + (if _ then _ else _) = _
  rw [if_neg h]; simp
theorem moved_snoc {n : Int} {l : List P2} {p q r s : Int} {k : Nat} (h : k < l.length) : (movedL n l p q r s).take (k + 1) = (movedL n l p q r s).take k ++ [cosetI n l (l[k].x * p + l[k].y * r) (l[k].x * q + l[k].y * s)] := by
  rw [List.take_succ_eq_append_getElem (by rw [movedL_len]; exact h)]
  simp [movedL]
structure Ent1 (p q r s : Int) : Prop where
  p0 : -1 ≤ p
  p1 : p ≤ 1
  q0 : -1 ≤ q
  q1 : q ≤ 1
  r0 : -1 ≤ r
  r1 : r ≤ 1
  s0 : -1 ≤ s
  s1 : s ≤ 1
structure MovBd (x y p q r s : Int) : Prop where
  a0 : -60 ≤ x * p
  a1 : x * p ≤ 60
  b0 : -60 ≤ y * r
  b1 : y * r ≤ 60
  c0 : -60 ≤ x * q
  c1 : x * q ≤ 60
  d0 : -60 ≤ y * s
  d1 : y * s ≤ 60
theorem movBd {x y p q r s : Int} (hx : 0 ≤ x ∧ x ≤ 60) (hy : 0 ≤ y ∧ y ≤ 60) (h : Ent1 p q r s) : MovBd x y p q r s := by
  obtain ⟨p0, p1, q0, q1, r0, r1, s0, s1⟩ := h
  have e1 := mul_bd (a := x) (b := p) (A := 60) (B := 1) (by omega) (by omega) (by omega) (by omega)
  have e2 := mul_bd (a := y) (b := r) (A := 60) (B := 1) (by omega) (by omega) (by omega) (by omega)
  have e3 := mul_bd (a := x) (b := q) (A := 60) (B := 1) (by omega) (by omega) (by omega) (by omega)
  have e4 := mul_bd (a := y) (b := s) (A := 60) (B := 1) (by omega) (by omega) (by omega) (by omega)
  exact ⟨by omega, by omega, by omega, by omega, by omega, by omega, by omega, by omega⟩
theorem line_bd {N : Nat} (n0 : 0 < N) {k : Nat} (h : k < (lineL (N : Int)).length) : InLine (N : Int) (lineL (N : Int))[k] := (lineL_mem (by omega)).1 (List.getElem_mem h)
set_option maxRecDepth 100000 in
set_option maxHeartbeats 4000000 in
theorem moved_any (N : Nat) (p q r s : Int) (w : World) (n0 : 0 < N) (n1 : N ≤ 60) (he : Ent1 p q r s) :
    Calls Try.prog 61 #[(.int .i64 ((N : Int))), (.agg #[.int .i64 p, .int .i64 q, .int .i64 r, .int .i64 s])] w fun e w' => ∃ v, e = .returned v ∧ w'.ownsRow w.heap.size 2 1 v (movedL N (lineL N) p q r s).length (ints (movedL N (lineL N) p q r s)) ∧ Below w.heap.size w w' := by
  have hl := lineL_len (n := (N : Int)) (by omega)
  have HL := Lib.hid (fun W => line_any N W n0 n1)
  have HI := Lib.hid (fun k h => line_bd n0 (k := k) h)
  have HC := Lib.hid (fun A cap B c d W h => coset_any N A cap B (lineL N) c d W n0 n1 (by omega) h)
  have HS := Lib.hid (fun k h => moved_snoc (n := (N : Int)) (l := lineL N) (p := p) (q := q) (r := r) (s := s) (k := k) h)
  have HM := Lib.hid (movedL_len (N : Int) (lineL N) p q r s)
  generalize lineL (N : Int) = L at *
  generalize hMM : movedL (N : Int) L p q r s = M at *
  clear hMM
  go_enter Try.func61, Try.ntmps61
  go_wp2_with fail
  refine (HL.out _).mono ?_; rintro e w1 ⟨v, rfl, hown, hb1⟩
  obtain ⟨A, cap, rfl, hcap, hmax, hat⟩ := own_view hown
  unfold maxLen at hmax
  have HA := Lib.hid hat
  have H0 := Lib.hid (own_below (World.ownsRow_lit (e := 2) (size := 1) (w.alloc (.cells #[(.int .i64 p), (.int .i64 q), (.int .i64 r), (.int .i64 s)] 42)) #[] 0 (show w.heap.size ≤ _ by simp) (by simp [maxLen]) rfl) hb1)
  have HX := Lib.hid (heap_below (heap_alloc (p := .cells #[] 2) (heap_new (w := w) (p := .cells #[(.int .i64 p), (.int .i64 q), (.int .i64 r), (.int .i64 s)] 42))) hb1)
  have hB1 : Below w.heap.size w w1 := bfin (by go_grown) hb1
  have hs1 := hb1.size
  simp at hs1
  simp only [World.size_alloc] at H0
  clear hown hat
  go_wp2_with fail
  go_loopw [5, 14] (fun v i wr => ∃ k : Nat, i = (.int .i64 ((k : Int))) ∧ k ≤ L.length ∧ Hid (wr.ownsRow w.heap.size 2 1 v k (ints (M.take k))) ∧ Below w.heap.size w wr ∧ Lies (w.heap.size + 1) w1 v wr) (fun _ i _ => L.length - (intOf i).toNat)
  case atStart => exact ⟨0, rfl, Nat.zero_le _, Lib.hid H0.out, hB1, Lies.start _ _ _ _⟩
  case round =>
    obtain ⟨k, rfl, hk, HO, hb, hbw⟩ := hrel
    have hsz := hb.size
    by_cases hlt : k < L.length
    · have hR := HA.out.lies hbw (by simp)
      have HR := Lib.hid hR
      obtain ⟨b, rfl, -, hbl, hc, -⟩ := hR (by omega)
      obtain ⟨hx, hy⟩ := flat2_at hlt
      have h1 := hc _ _ hx
      have h2 := hc _ _ hy
      have hin := HI.out k hlt
      have HT := Lib.hid (HS.out k hlt)
      clear hc hx hy
      generalize L[k] = x at *
      obtain ⟨x0, x1⟩ := x
      obtain ⟨i0, i1, i2, i3, -, -⟩ := hin
      simp only at h1 h2 i0 i1 i2 i3
      have hBx : Blk4 wr w.heap.size 42 p q r s := hbw.heap HX.out (by omega)
      obtain ⟨⟨m0, m1, m2, m3⟩, ⟨-, -, -, -⟩, lm⟩ := hBx.open_
      obtain ⟨a0, a1, b0, b1, c0, c1, d0, d1⟩ := movBd (x := x0) (y := x1) ⟨i0, by omega⟩ ⟨i2, by omega⟩ he
      simp only at HT
      have HCx := Lib.hid (fun B W h => HC.out (some ⟨b, 0, none⟩) cap B (x0 * p + x1 * r) (x0 * q + x1 * s) W h)
      generalize cosetI (N : Int) L (x0 * p + x1 * r) (x0 * q + x1 * s) = R at *
      go_wp2_with fail
      refine (HCx.out _ _ (HR.out.below ((Below.refl _ _).alloc (Nat.le_refl _) (.cells #[(.int .i64 x0), (.int .i64 x1)] 79)))).mono ?_; rintro e w2 ⟨rfl, hb2⟩
      have hB2 : Below w.heap.size w w2 := (hb.alloc hsz _).trans (hb2.mono (by simp; omega))
      go_wp2_with (at_builtin; refine app_one elI rfl _ _ rfl rfl rfl (by simp) (own_below (HO.out.alloc _) hb2) (hB2) rfl (by intro u hu; simp at hu; first | (subst hu; rfl) | (rcases hu with rfl | rfl <;> rfl) | (rcases hu with rfl | rfl | rfl <;> rfl) | (rcases hu with rfl | rfl | rfl | rfl <;> rfl)) (hB2.size) (by omega) ?_; intro v' w3 hown3 hb3 hg3; have HO3 := Lib.hid hown3; clear hown3)
      have hbw3 := ((hbw.below ((Below.refl _ _).alloc (Nat.le_refl _) _)).below hb2).app hg3
      clear hg3
      go_wp2_with fail
      go_roundw
      case rel => exact ⟨k + 1, by go_num, by omega, Lib.hid (by rw [HT.out]; simpa [ints] using HO3.out), hb3, hbw3⟩
      case measure => simp [intOf]; omega
    · obtain rfl : k = L.length := by omega
      have HT := Lib.hid (show M.take L.length = M by rw [← HM.out]; exact List.take_length)
      go_wp2_with fail
      go_ret
      exact ⟨_, rfl, by have := HO.out; rw [HT.out] at this; rw [HM.out]; exact this, hb⟩
set_option maxRecDepth 100000 in
set_option maxHeartbeats 2000000 in
theorem kept_any (N : Nat) (p q r s : Int) (w : World) (n0 : 0 < N) (n1 : N ≤ 60) (he : Ent1 p q r s) :
    Calls Try.prog 48 #[(.int .i64 ((N : Int))), (.agg #[.int .i64 p, .int .i64 q, .int .i64 r, .int .i64 s])] w fun e w' => e = .returned (.int .i64 (keptC (movedL N (lineL N) p q r s) (lineL N).length)) ∧ Below w.heap.size w w' := by
  have hl := lineL_len (n := (N : Int)) (by omega)
  have HV := Lib.hid (fun W => moved_any N p q r s W n0 n1 he)
  have HM := movedL_len (N : Int) (lineL N) p q r s
  rw [← HM] at hl ⊢
  clear HM
  generalize movedL (N : Int) (lineL N) p q r s = M at *
  have HB := Lib.hid (keptC_bd M)
  have HY := Lib.hid (fun k h => @keptC_yes M k h)
  have HN := Lib.hid (fun k h => @keptC_no M k h)
  go_enter Try.func48, Try.ntmps48
  go_wp2_with fail
  refine (HV.out _).mono ?_; rintro e w1 ⟨v, rfl, hown, hb1⟩
  obtain ⟨A, cap, rfl, hcap, hmax, hat⟩ := own_view hown
  unfold maxLen at hmax
  have hB1 : Below w.heap.size w w1 := bfin (by go_grown) hb1
  clear hown
  go_wp2_with fail
  go_loop [5, 12] (fun c i => ∃ k : Nat, c = (.int .i64 (keptC M k)) ∧ i = (.int .i64 ((k : Int))) ∧ k ≤ M.length) (fun _ i => M.length - (intOf i).toNat)
  case atStart => exact ⟨0, rfl, rfl, Nat.zero_le _⟩
  case round =>
    obtain ⟨k, rfl, rfl, hk⟩ := hrel
    have hq := HB.out k
    obtain ⟨q0, q1⟩ := hq
    by_cases hlt : k < M.length
    · obtain ⟨b, rfl, -, hbl, hc, -⟩ := hat (by omega)
      have h1 := hc k _ (ints_at hlt)
      have HYk := Lib.hid (HY.out k)
      have HNk := Lib.hid (HN.out k)
      clear hc hat
      generalize M.getD k 0 = x at *
      by_cases hx : x = (k : Int)
      · have HV := Lib.hid (HYk.out hx)
        subst hx
        have hE : ((k : Int) == (k : Int)) = true := by simp
        go_wp2_with fail
        go_round
        case rel => exact ⟨k + 1, by rw [HV.out], by go_num, by omega⟩
        case measure => simp [intOf]; omega
      · have HV := Lib.hid (HNk.out hx)
        have hE : ((k : Int) == x) = false := by simp; omega
        clear hx
        go_wp2_with fail
        go_round
        case rel => exact ⟨k + 1, by rw [HV.out], by go_num, by omega⟩
        case measure => simp [intOf]; omega
    · clear hat
      obtain rfl : k = M.length := by omega
      go_wp2_with fail
      go_ret
      exact ⟨rfl, hB1⟩
def keptRes (n : Int) : (Int × Int) × Int := if inB n 1 60 = true then ((keptC (movedL n (lineL n) 0 (-1) 1 0) (lineL n).length, keptC (movedL n (lineL n) 1 (-1) 1 0) (lineL n).length), 0) else ((0, 0), 2)
set_option maxHeartbeats 2000000 in
theorem CountKept_any (n : Int) (w : World) :
    Calls Try.prog 15 #[(.int .i64 n)] w fun e w' => e = .returned (.tuple #[(.int .i64 ((keptRes n).1.1)), (.int .i64 ((keptRes n).1.2)), (.int .i64 ((keptRes n).2))]) ∧ Below w.heap.size w w' := by
  have H1 := Lib.hid (fun W => isLevel_any n W)
  cases hn : inB n 1 60
  · rw [show keptRes n = ((0, 0), 2) by simp [keptRes, hn]]
    rw [hn] at H1
    go_enter Try.func15, Try.ntmps15
    go_wp2_with fail
    refine (H1.out _).mono ?_; rintro e w' ⟨rfl, rfl⟩
    go_wp2_with fail
    go_ret3
    exact ⟨rfl, Below.refl _ _⟩
  · rw [show keptRes n = ((keptC (movedL n (lineL n) 0 (-1) 1 0) (lineL n).length, keptC (movedL n (lineL n) 1 (-1) 1 0) (lineL n).length), 0) by simp [keptRes, hn]]
    rw [hn] at H1
    obtain ⟨n0, n1⟩ := inB_iff.1 hn
    clear hn
    obtain ⟨N, rfl⟩ := Int.eq_ofNat_of_zero_le (show 0 ≤ n by omega)
    have HS := Lib.hid (fun W => kept_any N 0 (-1) 1 0 W (by omega) (by omega) ⟨by omega, by omega, by omega, by omega, by omega, by omega, by omega, by omega⟩)
    have HU := Lib.hid (fun W => kept_any N 1 (-1) 1 0 W (by omega) (by omega) ⟨by omega, by omega, by omega, by omega, by omega, by omega, by omega, by omega⟩)
    generalize keptC (movedL (N : Int) (lineL N) 0 (-1) 1 0) (lineL (N : Int)).length = X at *
    generalize keptC (movedL (N : Int) (lineL N) 1 (-1) 1 0) (lineL (N : Int)).length = Y at *
    go_enter Try.func15, Try.ntmps15
    go_wp2_with fail
    refine (H1.out _).mono ?_; rintro e w' ⟨rfl, rfl⟩
    go_wp2_with fail
    refine (HS.out _).mono ?_; rintro e w1 ⟨rfl, hb1⟩
    obtain ⟨hc1, hf1⟩ := bcell hb1
    go_wp2_with fail
    refine (HU.out _).mono ?_; rintro e w2 ⟨rfl, hb2⟩
    replace hb2 := bstep hb1 hb2
    clear hc1 hf1 hb1
    obtain ⟨hc2, hf2⟩ := bcell hb2
    have hB2 : Below w.heap.size w w2 := bfin (by go_grown) hb2
    go_wp2_with fail
    go_ret3
    exact ⟨rfl, by go_grown⟩
set_option maxRecDepth 100000 in
set_option maxHeartbeats 4000000 in
theorem l06Kept_any (N : Nat) (v : Value) (B : Nat) (inn : List Value) (w : World) (n0 : 0 < N) (n1 : N ≤ 60) (h : LineSS w B v (lineL N) inn) :
    Calls Try.prog 49 #[(.int .i64 ((N : Int))), v] w fun e w' => e = .returned (.tuple #[(.int .i64 (keptC (movedL N (lineL N) 0 (-1) 1 0) (lineL N).length)), (.int .i64 (keptC (movedL N (lineL N) 1 (-1) 1 0) (lineL N).length))]) ∧ Below w.heap.size w w' := by
  have hl := lineL_len (n := (N : Int)) (by omega)
  have HI := Lib.hid (fun k h => line_bd n0 (k := k) h)
  have HC := Lib.hid (fun c d W hp h => l06Number_any N v B (lineL N) inn c d W n0 n1 (by omega) hp h)
  have HS := Lib.hid (fun k h => movedL_at (n := (N : Int)) (l := lineL N) (p := 0) (q := -1) (r := 1) (s := 0) (k := k) h)
  have HU := Lib.hid (fun k h => movedL_at (n := (N : Int)) (l := lineL N) (p := 1) (q := -1) (r := 1) (s := 0) (k := k) h)
  have H := Lib.hid h
  obtain ⟨A, cap, rfl, hcap, hmax, -⟩ := own_view h.out
  unfold maxLen at hmax
  clear h
  generalize lineL (N : Int) = L at *
  generalize hMS : movedL (N : Int) L 0 (-1) 1 0 = MS at *
  generalize hMU : movedL (N : Int) L 1 (-1) 1 0 = MU at *
  clear hMS hMU
  have BS := Lib.hid (keptC_bd MS)
  have BU := Lib.hid (keptC_bd MU)
  have YS := Lib.hid (fun k h => @keptC_yes MS k h)
  have NS := Lib.hid (fun k h => @keptC_no MS k h)
  have YU := Lib.hid (fun k h => @keptC_yes MU k h)
  have NU := Lib.hid (fun k h => @keptC_no MU k h)
  go_enter Try.func49, Try.ntmps49
  go_wp2_with fail
  go_loopw [6, 7, 8] (fun x y i wr => ∃ k : Nat, x = (.int .i64 (keptC MS k)) ∧ y = (.int .i64 (keptC MU k)) ∧ i = (.int .i64 ((k : Int))) ∧ k ≤ L.length ∧ Below w.heap.size w wr) (fun _ _ i _ => L.length - (intOf i).toNat)
  case atStart => exact ⟨0, rfl, rfl, rfl, Nat.zero_le _, Below.refl _ _⟩
  case round =>
    obtain ⟨k, rfl, rfl, rfl, hk, hb⟩ := hrel
    have hq := BS.out k
    have hq2 := BU.out k
    obtain ⟨q0, q1⟩ := hq
    obtain ⟨q2, q3⟩ := hq2
    by_cases hlt : k < L.length
    · have G := Lib.hid (H.out.below hb)
      obtain ⟨u, hu, ho⟩ := G.out.at_ hlt
      rw [show lenX (lineXs L) k = 2 by unfold lenX; rw [lineXs_at hlt]; rfl, show intX (lineXs L) k = [.int .i64 L[k].x, .int .i64 L[k].y] by unfold intX; rw [lineXs_at hlt]; rfl] at ho
      obtain ⟨A1, c1, rfl, z1, z2, R1⟩ := own_view ho
      obtain ⟨b1, rfl, -, -, hc1, -⟩ := R1 (by omega)
      obtain ⟨b, rfl, -, hl1, hc, -⟩ := (own_at G.out.out) (by omega)
      have h1 := hc k _ hu
      have h2 := hc1 0 _ rfl
      have h3 := hc1 1 _ rfl
      unfold maxLen at z2
      have hin := HI.out k hlt
      have HSk := Lib.hid (HS.out k hlt)
      have HUk := Lib.hid (HU.out k hlt)
      clear hc hc1 hu ho R1
      generalize L[k] = x at *
      obtain ⟨x0, x1⟩ := x
      have hp := hin.pair
      obtain ⟨i0, i1, i2, i3, -, -⟩ := hin
      simp only at h2 h3 i0 i1 i2 i3 HSk HUk hp
      rw [Int.mul_zero, Int.mul_one, Int.mul_zero, Int.zero_add, Int.add_zero, show x0 * -1 = -x0 by omega] at HSk
      rw [Int.mul_zero, Int.mul_one, Int.mul_one, Int.add_zero, show x0 * -1 = -x0 by omega] at HUk
      have HCs := Lib.hid (fun W h => HC.out x1 (-x0) W (pair_S hp) h)
      have HCu := Lib.hid (fun W h => HC.out (x0 + x1) (-x0) W (pair_U hp) h)
      have YSk := Lib.hid (YS.out k)
      have NSk := Lib.hid (NS.out k)
      have YUk := Lib.hid (YU.out k)
      have NUk := Lib.hid (NU.out k)
      rw [HSk.out] at YSk NSk
      rw [HUk.out] at YUk NUk
      clear hp HSk HUk
      generalize cosetI (N : Int) L x1 (-x0) = X at *
      generalize cosetI (N : Int) L (x0 + x1) (-x0) = Y at *
      have step : ∃ a b : Int, (keptC MS (k + 1) = keptC MS k + a ∧ ((a = 1 ∧ (X == (k : Int)) = true) ∨ (a = 0 ∧ (X == (k : Int)) = false))) ∧ (keptC MU (k + 1) = keptC MU k + b ∧ ((b = 1 ∧ (Y == (k : Int)) = true) ∨ (b = 0 ∧ (Y == (k : Int)) = false))) := by
        have e1 : ∃ a : Int, (keptC MS (k + 1) = keptC MS k + a ∧ ((a = 1 ∧ (X == (k : Int)) = true) ∨ (a = 0 ∧ (X == (k : Int)) = false))) := by
          by_cases hx : X = (k : Int)
          · exact ⟨1, YSk.out hx, .inl ⟨rfl, by simp [hx]⟩⟩
          · exact ⟨0, by rw [NSk.out hx]; omega, .inr ⟨rfl, by simp [hx]⟩⟩
        have e2 : ∃ b : Int, (keptC MU (k + 1) = keptC MU k + b ∧ ((b = 1 ∧ (Y == (k : Int)) = true) ∨ (b = 0 ∧ (Y == (k : Int)) = false))) := by
          by_cases hx : Y = (k : Int)
          · exact ⟨1, YUk.out hx, .inl ⟨rfl, by simp [hx]⟩⟩
          · exact ⟨0, by rw [NUk.out hx]; omega, .inr ⟨rfl, by simp [hx]⟩⟩
        obtain ⟨a, ha⟩ := e1
        obtain ⟨b, hb⟩ := e2
        exact ⟨a, b, ha, hb⟩
      obtain ⟨a, b', ⟨hea, ha⟩, heb, hb'⟩ := step
      have HEa := Lib.hid hea
      have HEb := Lib.hid heb
      clear hea heb YSk NSk YUk NUk
      generalize keptC MS k = cs at *
      generalize keptC MU k = cu at *
      rcases ha with ⟨rfl, hX⟩ | ⟨rfl, hX⟩ <;> rcases hb' with ⟨rfl, hY⟩ | ⟨rfl, hY⟩
      all_goals
        go_wp2_with fail
        go_quiet (fail)
        go_wp2_with fail
        refine (HCs.out _ (H.out.below (below_drewN hb _))).mono ?_; rintro e w2 ⟨rfl, hb2⟩
        have hB2 : Below w.heap.size w w2 := (below_drewN hb _).trans (hb2.mono (below_drewN hb _).size)
        have G2 := Lib.hid (H.out.below hB2)
        go_wp2_with fail
        refine (HCu.out _ G2.out).mono ?_; rintro e w3 ⟨rfl, hb3⟩
        have hB3 := hB2.trans (hb3.mono hB2.size)
        go_wp2_with fail
        go_roundw
        case rel => exact ⟨k + 1, by first | (rw [HEa.out]; done) | (rw [HEa.out]; go_num), by first | (rw [HEb.out]; done) | (rw [HEb.out]; go_num), by go_num, by omega, hB3⟩
        case measure => simp [intOf]; omega
    · obtain rfl : k = L.length := by omega
      go_wp2_with fail
      go_ret2
      exact ⟨rfl, hb⟩
set_option maxHeartbeats 2000000 in
theorem sCountKept_any (n : Int) (w : World) :
    Calls Try.prog 16 #[(.int .i64 n)] w fun e w' => e = .returned (.tuple #[(.int .i64 ((keptRes n).1.1)), (.int .i64 ((keptRes n).1.2)), (.int .i64 ((keptRes n).2))]) ∧ Below w.heap.size w w' := by
  have H1 := Lib.hid (fun W => l01In_any n 1 60 W)
  cases hn : inB n 1 60
  · rw [show keptRes n = ((0, 0), 2) by simp [keptRes, hn]]
    rw [hn] at H1
    go_enter Try.func16, Try.ntmps16
    go_wp2_with fail
    refine (H1.out _).mono ?_; rintro e w' ⟨rfl, rfl⟩
    go_wp2_with fail
    go_ret3
    exact ⟨rfl, Below.refl _ _⟩
  · rw [show keptRes n = ((keptC (movedL n (lineL n) 0 (-1) 1 0) (lineL n).length, keptC (movedL n (lineL n) 1 (-1) 1 0) (lineL n).length), 0) by simp [keptRes, hn]]
    rw [hn] at H1
    obtain ⟨n0, n1⟩ := inB_iff.1 hn
    clear hn
    obtain ⟨N, rfl⟩ := Int.eq_ofNat_of_zero_le (show 0 ≤ n by omega)
    have HL := Lib.hid (fun W => l06Line_any N W (by omega) (by omega))
    have HK := Lib.hid (fun v B inn W h => l06Kept_any N v B inn W (by omega) (by omega) h)
    generalize keptC (movedL (N : Int) (lineL N) 0 (-1) 1 0) (lineL (N : Int)).length = X at *
    generalize keptC (movedL (N : Int) (lineL N) 1 (-1) 1 0) (lineL (N : Int)).length = Y at *
    go_enter Try.func16, Try.ntmps16
    go_wp2_with fail
    refine (H1.out _).mono ?_; rintro e w' ⟨rfl, rfl⟩
    go_wp2_with fail
    refine (HL.out _).mono ?_; rintro e w1 ⟨v, inn, rfl, hown, hb1⟩
    have HO := Lib.hid hown
    clear hown
    go_wp2_with fail
    refine (HK.out _ _ _ _ HO.out).mono ?_; rintro e w2 ⟨rfl, hb2⟩
    go_wp2_with fail
    go_ret3
    exact ⟨rfl, hb1.trans (hb2.mono hb1.size)⟩
end Go.Proofs.Ytjkemnnkgihefaa
