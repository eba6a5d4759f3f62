/- Contracts: how many cosets are kept; the law CountKept. -/
import Derived.Test.YtjkemnnkgihefaaGreatC66
import Derived.Test.YtjkemnnkgihefaaGreatC51
namespace Go.Proofs.YtjkemnnkgihefaaGreat
open Go.RowKit
/-- For each pair of a line the number of its coset, moved by a matrix. -/
def movedL (n : Int) (l : List P2) (p q r s : Int) : List Int := l.map fun x => cosetI n l (x.x * p + x.y * r) (x.x * q + x.y * s)
theorem movedL_len (n : Int) (l : List P2) (p q r s : Int) : (movedL n l p q r s).length = l.length := by simp [movedL]
theorem movedL_at {n : Int} {l : List P2} {p q r s : Int} {k : Nat} (h : k < l.length) : (movedL n l p q r s).getD k 0 = cosetI n l (l[k].x * p + l[k].y * r) (l[k].x * q + l[k].y * s) := by
  simp [movedL, List.getD, List.getElem?_eq_getElem h]
def keptC (M : List Int) : Nat → Int
  | 0 => 0
  | k + 1 => keptC M k + if M.getD k 0 = k then 1 else 0
theorem keptC_bd (M : List Int) (k : Nat) : 0 ≤ keptC M k ∧ keptC M k ≤ k := by
  induction k with
  | zero => simp [keptC]
  | succ k ih => unfold keptC; split <;> omega
theorem keptC_yes {M : List Int} {k : Nat} (h : M.getD k 0 = k) : keptC M (k + 1) = keptC M k + 1 := by
  show keptC M k + (if _ then _ else _) = _
  rw [if_pos h]
theorem keptC_no {M : List Int} {k : Nat} (h : M.getD k 0 ≠ k) : keptC M (k + 1) = keptC M k := by
  show keptC M k + (if _ then _ else _) = _
  rw [if_neg h]; simp
theorem moved_snoc {n : Int} {l : List P2} {p q r s : Int} {k : Nat} (h : k < l.length) : (movedL n l p q r s).take (k + 1) = (movedL n l p q r s).take k ++ [cosetI n l (l[k].x * p + l[k].y * r) (l[k].x * q + l[k].y * s)] := by
  rw [List.take_succ_eq_append_getElem (by rw [movedL_len]; exact h)]
  simp [movedL]
structure Ent1 (p q r s : Int) : Prop where
  p0 : -1 ≤ p
  p1 : p ≤ 1
  q0 : -1 ≤ q
  q1 : q ≤ 1
  r0 : -1 ≤ r
  r1 : r ≤ 1
  s0 : -1 ≤ s
  s1 : s ≤ 1
structure MovBd (x y p q r s : Int) : Prop where
  a0 : -60 ≤ x * p
  a1 : x * p ≤ 60
  b0 : -60 ≤ y * r
  b1 : y * r ≤ 60
  c0 : -60 ≤ x * q
  c1 : x * q ≤ 60
  d0 : -60 ≤ y * s
  d1 : y * s ≤ 60
theorem movBd {x y p q r s : Int} (hx : 0 ≤ x ∧ x ≤ 60) (hy : 0 ≤ y ∧ y ≤ 60) (h : Ent1 p q r s) : MovBd x y p q r s := by
  obtain ⟨p0, p1, q0, q1, r0, r1, s0, s1⟩ := h
  have e1 := mul_bd (a := x) (b := p) (A := 60) (B := 1) (by omega) (by omega) (by omega) (by omega)
  have e2 := mul_bd (a := y) (b := r) (A := 60) (B := 1) (by omega) (by omega) (by omega) (by omega)
  have e3 := mul_bd (a := x) (b := q) (A := 60) (B := 1) (by omega) (by omega) (by omega) (by omega)
  have e4 := mul_bd (a := y) (b := s) (A := 60) (B := 1) (by omega) (by omega) (by omega) (by omega)
  exact ⟨by omega, by omega, by omega, by omega, by omega, by omega, by omega, by omega⟩
theorem line_bd {N : Nat} (n0 : 0 < N) {k : Nat} (h : k < (lineL (N : Int)).length) : InLine (N : Int) (lineL (N : Int))[k] := (lineL_mem (by omega)).1 (List.getElem_mem h)
set_option maxRecDepth 100000 in
set_option maxHeartbeats 4000000 in
theorem moved_any (N : Nat) (p q r s : Int) (w : World) (n0 : 0 < N) (n1 : N ≤ 60) (he : Ent1 p q r s) :
    Calls Tryz.prog 70 #[(.int .i64 ((N : Int))), (.agg #[.int .i64 p, .int .i64 q, .int .i64 r, .int .i64 s])] w fun e w' => ∃ v, e = .returned v ∧ w'.ownsRow w.heap.size 2 1 v (movedL N (lineL N) p q r s).length (ints (movedL N (lineL N) p q r s)) ∧ Below w.heap.size w w' := by
  have hl := lineL_len (n := (N : Int)) (by omega)
  have HL := Lib.hid (fun W => line_any N W n0 n1)
  have HI := Lib.hid (fun k h => line_bd n0 (k := k) h)
  have HC := Lib.hid (fun A cap B c d W h => coset_any N A cap B (lineL N) c d W n0 n1 (by omega) h)
  have HS := Lib.hid (fun k h => moved_snoc (n := (N : Int)) (l := lineL N) (p := p) (q := q) (r := r) (s := s) (k := k) h)
  have HM := Lib.hid (movedL_len (N : Int) (lineL N) p q r s)
  generalize lineL (N : Int) = L at *
  generalize hMM : movedL (N : Int) L p q r s = M at *
  clear hMM
  go_enter Tryz.func70, Tryz.ntmps70
  go_wp2_with fail
  refine (HL.out _).mono ?_; rintro e w1 ⟨v, rfl, hown, hb1⟩
  obtain ⟨A, cap, rfl, hcap, hmax, hat⟩ := own_view hown
  unfold maxLen at hmax
  have HA := Lib.hid hat
  have H0 := Lib.hid (own_below (World.ownsRow_lit (e := 2) (size := 1) (w.alloc (.cells #[(.int .i64 p), (.int .i64 q), (.int .i64 r), (.int .i64 s)] 25)) #[] 0 (show w.heap.size ≤ _ by simp) (by simp [maxLen]) rfl) hb1)
  have HX := Lib.hid (heap_below (heap_alloc (p := .cells #[] 2) (heap_new (w := w) (p := .cells #[(.int .i64 p), (.int .i64 q), (.int .i64 r), (.int .i64 s)] 25))) hb1)
  have hB1 : Below w.heap.size w w1 := bfin (by go_grown) hb1
  have hs1 := hb1.size
  simp at hs1
  simp only [World.size_alloc] at H0
  clear hown hat
  go_wp2_with fail
  go_loopw [5, 14] (fun v i wr => ∃ k : Nat, i = (.int .i64 ((k : Int))) ∧ k ≤ L.length ∧ Hid (wr.ownsRow w.heap.size 2 1 v k (ints (M.take k))) ∧ Below w.heap.size w wr ∧ Lies (w.heap.size + 1) w1 v wr) (fun _ i _ => L.length - (intOf i).toNat)
  case atStart => exact ⟨0, rfl, Nat.zero_le _, Lib.hid H0.out, hB1, Lies.start _ _ _ _⟩
  case round =>
    obtain ⟨k, rfl, hk, HO, hb, hbw⟩ := hrel
    have hsz := hb.size
    by_cases hlt : k < L.length
    · have hR := HA.out.lies hbw (by simp)
      have HR := Lib.hid hR
      obtain ⟨b, rfl, -, hbl, hc, -⟩ := hR (by omega)
      obtain ⟨hx, hy⟩ := flat2_at hlt
      have h1 := hc _ _ hx
      have h2 := hc _ _ hy
      have hin := HI.out k hlt
      have HT := Lib.hid (HS.out k hlt)
      clear hc hx hy
      generalize L[k] = x at *
      obtain ⟨x0, x1⟩ := x
      obtain ⟨i0, i1, i2, i3, -, -⟩ := hin
      simp only at h1 h2 i0 i1 i2 i3
      have hBx : Blk4 wr w.heap.size 25 p q r s := hbw.heap HX.out (by omega)
      obtain ⟨⟨m0, m1, m2, m3⟩, ⟨-, -, -, -⟩, lm⟩ := hBx.open_
      obtain ⟨a0, a1, b0, b1, c0, c1, d0, d1⟩ := movBd (x := x0) (y := x1) ⟨i0, by omega⟩ ⟨i2, by omega⟩ he
      simp only at HT
      have HCx := Lib.hid (fun B W h => HC.out (some ⟨b, 0, none⟩) cap B (x0 * p + x1 * r) (x0 * q + x1 * s) W h)
      generalize cosetI (N : Int) L (x0 * p + x1 * r) (x0 * q + x1 * s) = R at *
      go_wp2_with fail
      refine (HCx.out _ _ (HR.out.below ((Below.refl _ _).alloc (Nat.le_refl _) (.cells #[(.int .i64 x0), (.int .i64 x1)] 64)))).mono ?_; rintro e w2 ⟨rfl, hb2⟩
      have hB2 : Below w.heap.size w w2 := (hb.alloc hsz _).trans (hb2.mono (by simp; omega))
      go_wp2_with (at_builtin; refine app_one elI rfl _ _ rfl rfl rfl (by simp) (own_below (HO.out.alloc _) hb2) (hB2) rfl (by intro u hu; simp at hu; first | (subst hu; rfl) | (rcases hu with rfl | rfl <;> rfl) | (rcases hu with rfl | rfl | rfl <;> rfl) | (rcases hu with rfl | rfl | rfl | rfl <;> rfl)) (hB2.size) (by omega) ?_; intro v' w3 hown3 hb3 hg3; have HO3 := Lib.hid hown3; clear hown3)
      have hbw3 := ((hbw.below ((Below.refl _ _).alloc (Nat.le_refl _) _)).below hb2).app hg3
      clear hg3
      go_wp2_with fail
      go_roundw
      case rel => exact ⟨k + 1, by go_num, by omega, Lib.hid (by rw [HT.out]; simpa [ints] using HO3.out), hb3, hbw3⟩
      case measure => simp [intOf]; omega
    · obtain rfl : k = L.length := by omega
      have HT := Lib.hid (show M.take L.length = M by rw [← HM.out]; exact List.take_length)
      go_wp2_with fail
      go_ret
      exact ⟨_, rfl, by have := HO.out; rw [HT.out] at this; rw [HM.out]; exact this, hb⟩
def keptRes (n : Int) : (Int × Int) × Int := if inB n 1 60 = true then ((keptC (movedL n (lineL n) 0 (-1) 1 0) (lineL n).length, keptC (movedL n (lineL n) 1 (-1) 1 0) (lineL n).length), 0) else ((0, 0), 2)
end Go.Proofs.YtjkemnnkgihefaaGreat
