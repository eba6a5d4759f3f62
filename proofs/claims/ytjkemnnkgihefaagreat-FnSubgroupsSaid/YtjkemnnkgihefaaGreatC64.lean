/- Contracts: coset matrices. -/
import Derived.Test.YtjkemnnkgihefaaGreatC67
import Derived.Test.YtjkemnnkgihefaaGreatPA
namespace Go.Proofs.YtjkemnnkgihefaaGreat
open Go.RowKit
structure CosBd (c D a : Nat) : Prop where
  m0 : 0 ≤ (a : Int) * D
  m1 : (a : Int) * D ≤ 1000000
  t0 : -1000000 ≤ ((a : Int) * D - 1).tdiv c
  t1 : ((a : Int) * D - 1).tdiv c ≤ 1000000
theorem cosBd {c D a : Nat} (ha : a ≤ 60) (hD : D ≤ 4000) : CosBd c D a := by
  have h1 := Int.mul_nonneg (show (0 : Int) ≤ a by omega) (show (0 : Int) ≤ D by omega)
  have h2 := Int.mul_le_mul (show (a : Int) ≤ 60 by omega) (show (D : Int) ≤ 4000 by omega) (by omega) (by omega)
  have h3 := tdiv_bd (a := (a : Int) * D - 1) (b := (c : Int)) (K := 1000000) (by omega) (by omega)
  exact ⟨h1, by omega, h3.1, h3.2⟩
theorem inv_bool {a c D : Nat} : ((((a : Int) * D - 1).tmod c != 0) = !decide ((a * D) % c = 1 % c)) ∧ ((((a : Int) * D - 1).tmod c == 0) = decide ((a * D) % c = 1 % c)) := by
  have h := inv_int (a := a) (c := c) (d := D)
  by_cases h2 : (a * D) % c = 1 % c
  · have := h.2 h2; simp [this, h2]
  · have : ¬ ((a : Int) * D - 1).tmod c = 0 := fun e => h2 (h.1 e)
    simp [this, h2]
set_option maxRecDepth 100000 in
set_option maxHeartbeats 4000000 in
theorem cosetMatrix_any (N c d : Nat) (w : World) (n1 : N ≤ 60) (hc : c < N) (hd : d < N) (hp : isPairB N c d = true) :
    Calls Tryz.prog 41 #[(.int .i64 ((N : Int))), (.agg #[.int .i64 ((c : Int)), .int .i64 ((d : Int))])] w fun e w' => e = .returned (.agg #[.int .i64 ((cosM N c d).p), .int .i64 ((cosM N c d).q), .int .i64 ((cosM N c d).r), .int .i64 ((cosM N c d).s)]) ∧ Below w.heap.size w w' := by
  by_cases hz : c = 0
  · subst hz
    rw [show cosM N 0 d = ⟨1, 0, 0, 1⟩ by simp [cosM]]
    clear hp
    simp only
    go_enter Tryz.func41, Tryz.ntmps41
    go_wp2_with fail
    go_quiet (fail)
    go_wp2_with fail
    refine (identity_any _).mono ?_; rintro e w1 ⟨rfl, hb1⟩
    obtain ⟨hc1, hf1⟩ := bcell hb1
    have hB1 : Below w.heap.size w w1 := bfin (below_drewN (by go_grown) _) hb1
    have hz1 : w.heap.size + 1 < w1.heap.size := by have := hb1.size; simp at this; omega
    have HZ := heap_below (heap_drewN (heap_new' (w := w.alloc (.cells #[(.int .i64 0), (.int .i64 ((d : Int)))] 64)) (p := .cells #[(.int .i64 0), (.int .i64 0), (.int .i64 0), (.int .i64 0)] 25) (b := w.heap.size + 1) (by simp))) hb1
    obtain ⟨⟨y0, y1, y2, y3⟩, ⟨i0, i1, i2, i3⟩, hl3⟩ := Blk4.open_ HZ
    clear hc1 hf1 HZ
    go_wp2_with fail
    refine bodyPost_ret (v := (.agg #[.int .i64 1, .int .i64 0, .int .i64 0, .int .i64 1])) (by simp [results, Tryz.results41, go_sem, y0, y1, y2, y3]) rfl ⟨rfl, by go_grown⟩
  · have c0 : 0 < c := by omega
    have hg : Nat.gcd (Nat.gcd c d) N = 1 := by
      have : (Int.gcd (Int.gcd (c : Int) (d : Int) : Int) (N : Int) : Int) = 1 := by simpa [isPairB] using hp
      exact_mod_cast this
    obtain ⟨th, tl, tb⟩ := cop_of n1 c0 hc hd hg
    have HM := Lib.hid (show cosM N c d = ⟨(firstN (invA c ((d + firstN (copT N c d) 60 0 * N) % c)) c 0 : Nat), (((firstN (invA c ((d + firstN (copT N c d) 60 0 * N) % c)) c 0 : Nat) : Int) * ((d + firstN (copT N c d) 60 0 * N : Nat) : Int) - 1).tdiv c, c, ((d + firstN (copT N c d) 60 0 * N : Nat) : Int)⟩ by unfold cosM; rw [if_neg hz])
    rw [HM.out]
    obtain ⟨ih, il, ib⟩ := inv_of c0 (show c ≤ 60 by omega) th
    have hDb : d + firstN (copT N c d) 60 0 * N ≤ 4000 := by
      have := Nat.mul_le_mul tl n1; omega
    clear HM hp hg
    generalize firstN (copT N c d) 60 0 = T at *
    have HT := Lib.hid tb
    have HTh := Lib.hid th
    have hTN : ∀ t, t ≤ T → d + t * N ≤ 4000 := fun t ht => by have := Nat.mul_le_mul_right N ht; omega
    have HTN := Lib.hid hTN
    clear tb th hTN
    generalize hD : d + T * N = D at *
    have HD := Lib.hid hD
    clear hD
    generalize firstN (invA c (D % c)) c 0 = A at *
    have HA := Lib.hid ib
    have HAh := Lib.hid ih
    have HBd := Lib.hid (fun a (ha : a ≤ 60) => cosBd (c := c) (D := D) ha hDb)
    have HBo := Lib.hid (fun a => inv_bool (a := a) (c := c) (D := D))
    clear ib ih
    have hcz : ((c : Int) == 0) = false := by simp; omega
    simp only
    go_enter Tryz.func41, Tryz.ntmps41
    go_wp2_with fail
    go_quiet (fail)
    go_wp2_with fail
    go_loopw [6] (fun x wr => ∃ t : Nat, x = (.int .i64 (((d + t * N : Nat) : Int))) ∧ t ≤ T ∧ Hid (Blk4 wr (w.heap.size + 1) 25 0 0 0 0) ∧ Below w.heap.size w wr) (fun x _ => d + T * N + 1 - (intOf x).toNat)
    case atStart => exact ⟨0, by simp, Nat.zero_le _, Lib.hid (heap_drewN (heap_new' (by simp))), below_drewN (by go_grown) _⟩
    case round =>
      obtain ⟨t, rfl, ht, HZ, hb⟩ := hrel
      have hsz := hb.size
      have hb4 := HTN.out t ht
      have HG := Lib.hid (fun W => divisor_any (c : Int) ((d + t * N : Nat) : Int) W (by omega) (by omega) (by omega) (by omega))
      have hgn : (Int.gcd (c : Int) ((d + t * N : Nat) : Int) : Int) = ((Nat.gcd c (d + t * N) : Nat) : Int) := rfl
      rw [hgn] at HG
      clear hgn
      by_cases hlt : t < T
      · have h1 := HT.out t hlt
        have h0 : 0 < Nat.gcd c (d + t * N) := Nat.gcd_pos_of_pos_left _ c0
        have hg1 : 1 < ((Nat.gcd c (d + t * N) : Nat) : Int) := by omega
        have hb5 := HTN.out (t + 1) hlt
        have HS := Lib.hid (show ((d + t * N : Nat) : Int) + (N : Int) = ((d + (t + 1) * N : Nat) : Int) by rw [Nat.succ_mul]; push_cast; omega)
        have hle : d + t * N + N ≤ d + T * N := by
          have := Nat.add_le_add_left (Nat.mul_le_mul_right N hlt) d
          rw [Nat.succ_mul] at this; omega
        clear h1 h0 hb5
        generalize Nat.gcd c (d + t * N) = g at *
        generalize d + t * N = x at *
        go_wp2_with fail
        refine (HG.out _).mono ?_; rintro e w2 ⟨rfl, hb2⟩
        go_wp2_with fail
        go_roundw
        case rel => exact ⟨t + 1, by rw [HS.out], by omega, Lib.hid (show Blk4 w2 (w.heap.size + 1) 25 0 0 0 0 from heap_below HZ.out hb2), hb.trans (hb2.mono hsz)⟩
        case measure => simp [intOf]; omega
      · obtain rfl : t = T := by omega
        rw [HD.out] at HG hb4 ⊢
        have HG2 := HG.out
        rw [HTh.out] at HG2
        have HG := Lib.hid HG2
        clear HG2
        have D0 : 0 ≤ (D : Int) := by omega
        go_wp2_with fail
        refine (HG.out _).mono ?_; rintro e w2 ⟨rfl, hb2⟩
        have hB2 := hb.trans (hb2.mono hsz)
        obtain ⟨⟨y0, y1, y2, y3⟩, ⟨i0, i1, i2, i3⟩, hl3⟩ := Blk4.open_ (show Blk4 w2 (w.heap.size + 1) 25 0 0 0 0 from heap_below HZ.out hb2)
        go_wp2_with fail
        go_loop [7] (fun x => ∃ a : Nat, x = (.int .i64 ((a : Int))) ∧ a ≤ A) (fun x => A + 1 - (intOf x).toNat)
        case atStart => exact ⟨0, rfl, Nat.zero_le _⟩
        case round =>
          obtain ⟨a, rfl, ha⟩ := hrel
          have hBd := HBd.out a (by omega)
          obtain ⟨m0, m1, t0, t1⟩ := hBd
          have hBo := HBo.out a
          have hcn : (c : Int) ≠ 0 := by omega
          by_cases hlt2 : a < A
          · have hne := HA.out a hlt2
            rw [decide_eq_false hne] at hBo
            obtain ⟨o1, o2⟩ := hBo
            clear hne
            go_wp2_with fail
            go_round
            case rel => exact ⟨a + 1, by go_num, by omega⟩
            case measure => simp [intOf]; omega
          · obtain rfl : a = A := by omega
            rw [decide_eq_true HAh.out] at hBo
            obtain ⟨o1, o2⟩ := hBo
            go_wp2_with fail
            refine bodyPost_ret (v := (.agg #[.int .i64 ((a : Int)), .int .i64 (((a : Int) * (D : Int) - 1).tdiv (c : Int)), .int .i64 ((c : Int)), .int .i64 ((D : Int))])) (by simp [results, Tryz.results41, go_sem, y0, y1, y2, y3]) rfl ⟨rfl, by go_grown⟩
set_option maxRecDepth 100000 in
set_option maxHeartbeats 4000000 in
theorem l06Matrix_any (N c d : Nat) (w : World) (n1 : N ≤ 60) (hc : c < N) (hd : d < N) (hp : isPairB N c d = true) :
    Calls Tryz.prog 43 #[(.int .i64 ((N : Int))), (.int .i64 ((c : Int))), (.int .i64 ((d : Int)))] w fun e w' => e = .returned (.agg #[.int .i64 ((cosM N c d).p), .int .i64 ((cosM N c d).q), .int .i64 ((cosM N c d).r), .int .i64 ((cosM N c d).s)]) ∧ Below w.heap.size w w' := by
  by_cases hz : c = 0
  · subst hz
    rw [show cosM N 0 d = ⟨1, 0, 0, 1⟩ by simp [cosM]]
    clear hp
    simp only
    go_enter Tryz.func43, Tryz.ntmps43
    go_wp2_with fail
    refine bodyPost_ret (v := (.agg #[.int .i64 1, .int .i64 0, .int .i64 0, .int .i64 1])) (by simp [results, Tryz.results43, go_sem]) rfl ⟨rfl, by go_grown⟩
  · have c0 : 0 < c := by omega
    have hg : Nat.gcd (Nat.gcd c d) N = 1 := by
      have : (Int.gcd (Int.gcd (c : Int) (d : Int) : Int) (N : Int) : Int) = 1 := by simpa [isPairB] using hp
      exact_mod_cast this
    obtain ⟨th, tl, tb⟩ := cop_of n1 c0 hc hd hg
    have HM := Lib.hid (show cosM N c d = ⟨(firstN (invA c ((d + firstN (copT N c d) 60 0 * N) % c)) c 0 : Nat), (((firstN (invA c ((d + firstN (copT N c d) 60 0 * N) % c)) c 0 : Nat) : Int) * ((d + firstN (copT N c d) 60 0 * N : Nat) : Int) - 1).tdiv c, c, ((d + firstN (copT N c d) 60 0 * N : Nat) : Int)⟩ by unfold cosM; rw [if_neg hz])
    rw [HM.out]
    obtain ⟨ih, il, ib⟩ := inv_of c0 (show c ≤ 60 by omega) th
    have hDb : d + firstN (copT N c d) 60 0 * N ≤ 4000 := by
      have := Nat.mul_le_mul tl n1; omega
    clear HM hp hg
    generalize firstN (copT N c d) 60 0 = T at *
    have HT := Lib.hid tb
    have HTh := Lib.hid th
    have hTN : ∀ t, t ≤ T → d + t * N ≤ 4000 := fun t ht => by have := Nat.mul_le_mul_right N ht; omega
    have HTN := Lib.hid hTN
    clear tb th hTN
    generalize hD : d + T * N = D at *
    have HD := Lib.hid hD
    clear hD
    generalize firstN (invA c (D % c)) c 0 = A at *
    have HA := Lib.hid ib
    have HAh := Lib.hid ih
    have HBd := Lib.hid (fun a (ha : a ≤ 60) => cosBd (c := c) (D := D) ha hDb)
    have HBo := Lib.hid (fun a => inv_bool (a := a) (c := c) (D := D))
    clear ib ih
    have hcz : ((c : Int) == 0) = false := by simp; omega
    simp only
    go_enter Tryz.func43, Tryz.ntmps43
    go_wp2_with fail
    go_loopw [2] (fun x wr => ∃ t : Nat, x = (.int .i64 (((d + t * N : Nat) : Int))) ∧ t ≤ T ∧ Hid (Blk4 wr w.heap.size 25 0 0 0 0) ∧ Below w.heap.size w wr) (fun x _ => d + T * N + 1 - (intOf x).toNat)
    case atStart => exact ⟨0, by simp, Nat.zero_le _, Lib.hid heap_new, by go_grown⟩
    case round =>
      obtain ⟨t, rfl, ht, HZ, hb⟩ := hrel
      have hsz := hb.size
      have hb4 := HTN.out t ht
      have HG := Lib.hid (fun W => l01Gcd_any (c : Int) ((d + t * N : Nat) : Int) W (by omega) (by omega) (by omega) (by omega))
      have hgn : (Int.gcd (c : Int) ((d + t * N : Nat) : Int) : Int) = ((Nat.gcd c (d + t * N) : Nat) : Int) := rfl
      rw [hgn] at HG
      clear hgn
      by_cases hlt : t < T
      · have h1 := HT.out t hlt
        have hg1 : (((Nat.gcd c (d + t * N) : Nat) : Int) != 1) = true := by simp; omega
        have HS := Lib.hid (show ((d + t * N : Nat) : Int) + (N : Int) = ((d + (t + 1) * N : Nat) : Int) by rw [Nat.succ_mul]; push_cast; omega)
        have hle : d + t * N + N ≤ d + T * N := by
          have := Nat.add_le_add_left (Nat.mul_le_mul_right N hlt) d
          rw [Nat.succ_mul] at this; omega
        clear h1
        generalize Nat.gcd c (d + t * N) = g at *
        generalize d + t * N = x at *
        go_wp2_with fail
        refine (HG.out _).mono ?_; rintro e w2 ⟨rfl, hb2⟩
        go_wp2_with fail
        go_roundw
        case rel => exact ⟨t + 1, by rw [HS.out], by omega, Lib.hid (show Blk4 w2 w.heap.size 25 0 0 0 0 from heap_below HZ.out hb2), hb.trans (hb2.mono hsz)⟩
        case measure => simp [intOf]; omega
      · obtain rfl : t = T := by omega
        rw [HD.out] at HG hb4 ⊢
        have HG2 := HG.out
        rw [HTh.out] at HG2
        have HG := Lib.hid HG2
        clear HG2
        have D0 : 0 ≤ (D : Int) := by omega
        go_wp2_with fail
        refine (HG.out _).mono ?_; rintro e w2 ⟨rfl, hb2⟩
        have hB2 := hb.trans (hb2.mono hsz)
        obtain ⟨⟨y0, y1, y2, y3⟩, ⟨i0, i1, i2, i3⟩, hl3⟩ := Blk4.open_ (show Blk4 w2 w.heap.size 25 0 0 0 0 from heap_below HZ.out hb2)
        go_wp2_with fail
        go_loop [7] (fun x => ∃ a : Nat, x = (.int .i64 ((a : Int))) ∧ a ≤ A) (fun x => A + 1 - (intOf x).toNat)
        case atStart => exact ⟨0, rfl, Nat.zero_le _⟩
        case round =>
          obtain ⟨a, rfl, ha⟩ := hrel
          have hBd := HBd.out a (by omega)
          obtain ⟨m0, m1, t0, t1⟩ := hBd
          have hBo := HBo.out a
          have hcn : (c : Int) ≠ 0 := by omega
          by_cases hlt2 : a < A
          · have hne := HA.out a hlt2
            rw [decide_eq_false hne] at hBo
            obtain ⟨o1, o2⟩ := hBo
            clear hne
            go_wp2_with fail
            go_round
            case rel => exact ⟨a + 1, by go_num, by omega⟩
            case measure => simp [intOf]; omega
          · obtain rfl : a = A := by omega
            rw [decide_eq_true HAh.out] at hBo
            obtain ⟨o1, o2⟩ := hBo
            go_wp2_with fail
            refine bodyPost_ret (v := (.agg #[.int .i64 ((a : Int)), .int .i64 (((a : Int) * (D : Int) - 1).tdiv (c : Int)), .int .i64 ((c : Int)), .int .i64 ((D : Int))])) (by simp [results, Tryz.results43, go_sem, y0, y1, y2, y3]) rfl ⟨rfl, by go_grown⟩
def cosMI (N : Nat) (p : P2) : M4i := cosM N p.x.toNat p.y.toNat
def cosMRes (n i : Int) : M4i × Int := if inB n 1 60 = true then (if 0 ≤ i ∧ i < (lineL n).length then (cosMI n.toNat ((lineL n).getD i.toNat ⟨0, 0⟩), 0) else (⟨0, 0, 0, 0⟩, 2)) else (⟨0, 0, 0, 0⟩, 2)
theorem cosetMatrixP_any (N : Nat) (p : P2) (w : World) (n1 : N ≤ 60) (h : InLine N p) :
    Calls Tryz.prog 41 #[(.int .i64 ((N : Int))), (.agg #[.int .i64 p.x, .int .i64 p.y])] w fun e w' => e = .returned (.agg #[.int .i64 ((cosMI N p).p), .int .i64 ((cosMI N p).q), .int .i64 ((cosMI N p).r), .int .i64 ((cosMI N p).s)]) ∧ Below w.heap.size w w' := by
  obtain ⟨x, y⟩ := p
  obtain ⟨h0, h1, h2, h3, h4, _⟩ := h
  simp only at h0 h1 h2 h3 h4
  obtain ⟨X, rfl⟩ := Int.eq_ofNat_of_zero_le h0
  obtain ⟨Y, rfl⟩ := Int.eq_ofNat_of_zero_le h2
  exact cosetMatrix_any N X Y w n1 (by omega) (by omega) h4
set_option maxRecDepth 100000 in
set_option maxHeartbeats 4000000 in
theorem CosetMatrix_any (n i : Int) (w : World) (hi : I64 i) :
    Calls Tryz.prog 9 #[(.int .i64 n), (.int .i64 i)] w fun e w' => e = .returned (.tuple #[(.agg #[.int .i64 ((cosMRes n i).1.p), .int .i64 ((cosMRes n i).1.q), .int .i64 ((cosMRes n i).1.r), .int .i64 ((cosMRes n i).1.s)]), (.int .i64 ((cosMRes n i).2))]) ∧ Below w.heap.size w w' := by
  have H1 := Lib.hid (fun W => isLevel_any n W)
  cases hn : inB n 1 60
  · rw [show cosMRes n i = (⟨0, 0, 0, 0⟩, 2) by simp [cosMRes, hn]]
    rw [hn] at H1
    go_enter Tryz.func9, Tryz.ntmps9
    go_wp2_with fail
    refine (H1.out _).mono ?_; rintro e w' ⟨rfl, rfl⟩
    go_wp2_with fail
    refine bodyPost_ret (v := .tuple #[(.agg #[.int .i64 0, .int .i64 0, .int .i64 0, .int .i64 0]), (.int .i64 2)]) (by simp [results, Tryz.results9, go_sem] <;> rfl) rfl ⟨rfl, by go_grown⟩
  rw [hn] at H1
  obtain ⟨n0, n1⟩ := inB_iff.1 hn
  have er : cosMRes n i = if 0 ≤ i ∧ i < (lineL n).length then (cosMI n.toNat ((lineL n).getD i.toNat ⟨0, 0⟩), 0) else (⟨0, 0, 0, 0⟩, 2) := by unfold cosMRes; rw [if_pos hn]
  rw [er]
  clear er hn
  obtain ⟨N, rfl⟩ := Int.eq_ofNat_of_zero_le (show 0 ≤ n by omega)
  rw [Int.toNat_natCast]
  have N0 : 0 < N := by omega
  have hl := lineL_len (n := (N : Int)) (by omega)
  have HL := Lib.hid (fun W => line_any N W N0 (by omega))
  have HI := Lib.hid (fun k h => line_bd N0 (k := k) h)
  have HW := Lib.hid (fun W => within_any i 0 (((lineL (N : Int)).length : Int) - 1) W)
  by_cases hr : 0 ≤ i ∧ i < (lineL (N : Int)).length
  · rw [if_pos hr]
    rw [show inB i 0 (((lineL (N : Int)).length : Int) - 1) = true by rw [inB_iff]; omega] at HW
    obtain ⟨i0, i1⟩ := hr
    obtain ⟨k, rfl⟩ := Int.eq_ofNat_of_zero_le i0
    have hk : k < (lineL (N : Int)).length := by omega
    rw [Int.toNat_natCast, show (lineL (N : Int)).getD k ⟨0, 0⟩ = (lineL (N : Int))[k] by rw [List.getD, List.getElem?_eq_getElem hk]; rfl]
    have HC := Lib.hid (fun W => cosetMatrixP_any N (lineL (N : Int))[k] W (by omega) (HI.out k hk))
    obtain ⟨hx, hy⟩ := flat2_at hk
    have HX := Lib.hid hx
    have HY := Lib.hid hy
    clear hx hy
    generalize cosMI N (lineL (N : Int))[k] = R at *
    obtain ⟨r1, r2, r3, r4⟩ := R
    simp only at HC ⊢
    generalize (lineL (N : Int))[k] = p at *
    obtain ⟨p0, p1⟩ := p
    simp only at HC HX HY
    generalize lineL (N : Int) = L at *
    go_enter Tryz.func9, Tryz.ntmps9
    go_wp2_with fail
    refine (H1.out _).mono ?_; rintro e w' ⟨rfl, rfl⟩
    go_wp2_with fail
    refine (HL.out _).mono ?_; rintro e w1 ⟨v, rfl, hown, hb1⟩
    obtain ⟨A, cap, rfl, hcap, hmax, hat⟩ := own_view hown
    unfold maxLen at hmax
    obtain ⟨b, rfl, -, hbl, hc, -⟩ := hat (by omega)
    have h1 := hc _ _ HX.out
    have h2 := hc _ _ HY.out
    have hB1 : Below w.heap.size w w1 := bfin (by go_grown) hb1
    have hz1 : w.heap.size < w1.heap.size := by have := hb1.size; simp at this; omega
    obtain ⟨⟨y0, y1, y2, y3⟩, ⟨j0, j1, j2, j3⟩, hl3⟩ := Blk4.open_ (show Blk4 w1 w.heap.size 25 0 0 0 0 from heap_below heap_new hb1)
    clear hc hat hown
    go_wp2_with fail
    refine (HW.out _).mono ?_; rintro e w' ⟨rfl, rfl⟩
    go_wp2_with fail
    refine (HC.out _).mono ?_; rintro e w2 ⟨rfl, hb2⟩
    have hB2 := hB1.trans (hb2.mono hB1.size)
    obtain ⟨⟨q0, q1, q2, q3⟩, ⟨g0, g1, g2, g3⟩, hl4⟩ := Blk4.open_ (show Blk4 w2 w.heap.size 25 0 0 0 0 from heap_below (heap_below heap_new hb1) hb2)
    go_wp2_with fail
    refine bodyPost_ret (v := .tuple #[(.agg #[.int .i64 r1, .int .i64 r2, .int .i64 r3, .int .i64 r4]), (.int .i64 0)]) (by simp [results, Tryz.results9, go_sem, q0, q1, q2, q3]) rfl ⟨rfl, by go_grown⟩
  · rw [if_neg hr]
    rw [show inB i 0 (((lineL (N : Int)).length : Int) - 1) = false by rw [inB_no]; omega] at HW
    generalize lineL (N : Int) = L at *
    clear hr
    obtain ⟨hi0, hi1⟩ := hi
    simp only
    go_enter Tryz.func9, Tryz.ntmps9
    go_wp2_with fail
    refine (H1.out _).mono ?_; rintro e w' ⟨rfl, rfl⟩
    go_wp2_with fail
    refine (HL.out _).mono ?_; rintro e w1 ⟨v, rfl, hown, hb1⟩
    obtain ⟨A, cap, rfl, hcap, hmax, hat⟩ := own_view hown
    unfold maxLen at hmax
    have hB1 : Below w.heap.size w w1 := bfin (by go_grown) hb1
    obtain ⟨⟨y0, y1, y2, y3⟩, ⟨j0, j1, j2, j3⟩, hl3⟩ := Blk4.open_ (show Blk4 w1 w.heap.size 25 0 0 0 0 from heap_below heap_new hb1)
    clear hat hown
    go_wp2_with fail
    refine (HW.out _).mono ?_; rintro e w' ⟨rfl, rfl⟩
    go_wp2_with fail
    refine bodyPost_ret (v := .tuple #[(.agg #[.int .i64 0, .int .i64 0, .int .i64 0, .int .i64 0]), (.int .i64 2)]) (by simp [results, Tryz.results9, go_sem, y0, y1, y2, y3]) rfl ⟨rfl, by go_grown⟩
theorem l06MatrixP_any (N : Nat) (p : P2) (w : World) (n1 : N ≤ 60) (h : InLine N p) :
    Calls Tryz.prog 43 #[(.int .i64 ((N : Int))), (.int .i64 p.x), (.int .i64 p.y)] w fun e w' => e = .returned (.agg #[.int .i64 ((cosMI N p).p), .int .i64 ((cosMI N p).q), .int .i64 ((cosMI N p).r), .int .i64 ((cosMI N p).s)]) ∧ Below w.heap.size w w' := by
  obtain ⟨x, y⟩ := p
  obtain ⟨h0, h1, h2, h3, h4, _⟩ := h
  simp only at h0 h1 h2 h3 h4
  obtain ⟨X, rfl⟩ := Int.eq_ofNat_of_zero_le h0
  obtain ⟨Y, rfl⟩ := Int.eq_ofNat_of_zero_le h2
  exact l06Matrix_any N X Y w n1 (by omega) (by omega) h4
set_option maxRecDepth 100000 in
set_option maxHeartbeats 4000000 in
theorem sCosetMatrix_any (n i : Int) (w : World) (hi : I64 i) :
    Calls Tryz.prog 10 #[(.int .i64 n), (.int .i64 i)] w fun e w' => e = .returned (.tuple #[(.agg #[.int .i64 ((cosMRes n i).1.p), .int .i64 ((cosMRes n i).1.q), .int .i64 ((cosMRes n i).1.r), .int .i64 ((cosMRes n i).1.s)]), (.int .i64 ((cosMRes n i).2))]) ∧ Below w.heap.size w w' := by
  have H1 := Lib.hid (fun W => l01In_any n 1 60 W)
  cases hn : inB n 1 60
  · rw [show cosMRes n i = (⟨0, 0, 0, 0⟩, 2) by simp [cosMRes, hn]]
    rw [hn] at H1
    go_enter Tryz.func10, Tryz.ntmps10
    go_wp2_with fail
    refine (H1.out _).mono ?_; rintro e w' ⟨rfl, rfl⟩
    go_wp2_with fail
    refine bodyPost_ret (v := .tuple #[(.agg #[.int .i64 0, .int .i64 0, .int .i64 0, .int .i64 0]), (.int .i64 2)]) (by simp [results, Tryz.results10, go_sem] <;> rfl) rfl ⟨rfl, by go_grown⟩
  rw [hn] at H1
  obtain ⟨n0, n1⟩ := inB_iff.1 hn
  have er : cosMRes n i = if 0 ≤ i ∧ i < (lineL n).length then (cosMI n.toNat ((lineL n).getD i.toNat ⟨0, 0⟩), 0) else (⟨0, 0, 0, 0⟩, 2) := by unfold cosMRes; rw [if_pos hn]
  rw [er]
  clear er hn
  obtain ⟨N, rfl⟩ := Int.eq_ofNat_of_zero_le (show 0 ≤ n by omega)
  rw [Int.toNat_natCast]
  have N0 : 0 < N := by omega
  have hl := lineL_len (n := (N : Int)) (by omega)
  have HL := Lib.hid (fun W => l06Line_any N W N0 (by omega))
  have HI := Lib.hid (fun k h => line_bd N0 (k := k) h)
  have HW := Lib.hid (fun W => l01In_any i 0 (((lineL (N : Int)).length : Int) - 1) W)
  by_cases hr : 0 ≤ i ∧ i < (lineL (N : Int)).length
  · rw [if_pos hr]
    rw [show inB i 0 (((lineL (N : Int)).length : Int) - 1) = true by rw [inB_iff]; omega] at HW
    obtain ⟨i0, i1⟩ := hr
    obtain ⟨k, rfl⟩ := Int.eq_ofNat_of_zero_le i0
    have hk : k < (lineL (N : Int)).length := by omega
    rw [Int.toNat_natCast, show (lineL (N : Int)).getD k ⟨0, 0⟩ = (lineL (N : Int))[k] by rw [List.getD, List.getElem?_eq_getElem hk]; rfl]
    have HC := Lib.hid (fun W => l06MatrixP_any N (lineL (N : Int))[k] W (by omega) (HI.out k hk))
    have HX := Lib.hid (show lenX (lineXs (lineL (N : Int))) k = 2 by unfold lenX; rw [lineXs_at hk]; rfl)
    have HY := Lib.hid (show intX (lineXs (lineL (N : Int))) k = [.int .i64 (lineL (N : Int))[k].x, .int .i64 (lineL (N : Int))[k].y] by unfold intX; rw [lineXs_at hk]; rfl)
    generalize cosMI N (lineL (N : Int))[k] = R at *
    obtain ⟨r1, r2, r3, r4⟩ := R
    simp only at HC ⊢
    generalize (lineL (N : Int))[k] = p at *
    obtain ⟨p0, p1⟩ := p
    simp only at HC HY
    generalize lineL (N : Int) = L at *
    go_enter Tryz.func10, Tryz.ntmps10
    go_wp2_with fail
    refine (H1.out _).mono ?_; rintro e w' ⟨rfl, rfl⟩
    go_wp2_with fail
    refine (HL.out _).mono ?_; rintro e w1 ⟨v, inn, rfl, hown, hb1⟩
    obtain ⟨A0, cap, rfl, hcap, hmax, -⟩ := own_view hown.out
    unfold maxLen at hmax
    obtain ⟨u, hu, ho⟩ := hown.at_ hk
    rw [HX.out, HY.out] at ho
    obtain ⟨A1, c1, rfl, z1, z2, R1⟩ := own_view ho
    obtain ⟨b1, rfl, -, hbl1, hc1, -⟩ := R1 (by omega)
    obtain ⟨b, rfl, -, hbl, hc, -⟩ := (own_at hown.out) (by omega)
    have h1 := hc k _ hu
    have h2 := hc1 0 _ rfl
    have h3 := hc1 1 _ rfl
    unfold maxLen at z2
    have hB1 : Below w.heap.size w w1 := bfin (by go_grown) hb1
    have hz1 : w.heap.size < w1.heap.size := by have := hb1.size; simp at this; omega
    have HZ1 := Lib.hid (show Blk4 w1 w.heap.size 25 0 0 0 0 from heap_below heap_new hb1)
    clear hc hc1 hu ho R1 hown hb1
    go_wp2_with fail
    refine (HW.out _).mono ?_; rintro e w' ⟨rfl, rfl⟩
    go_wp2_with fail
    refine wp_region_ext_tail 14 (by kernel_rfl) (by kernel_rfl) ?_
    simp only [List.take_succ_cons, List.take_zero, List.drop_succ_cons, List.drop_zero]
    repeat (go_big_quiet_step (((go_at_call 43; refine Calls.ext_of (Nat.le_refl _) (HC.out _)))))
    refine wpQuiet_nil ?_
    intro w2 hb2
    have hB2 := hB1.trans (hb2.mono hB1.size)
    obtain ⟨⟨q0, q1, q2, q3⟩, ⟨g0, g1, g2, g3⟩, hl4⟩ := Blk4.open_ (show Blk4 w2 w.heap.size 25 0 0 0 0 from heap_below HZ1.out hb2)
    go_wp2_with fail
    refine bodyPost_ret (v := .tuple #[(.agg #[.int .i64 r1, .int .i64 r2, .int .i64 r3, .int .i64 r4]), (.int .i64 0)]) (by simp [results, Tryz.results10, go_sem, q0, q1, q2, q3]) rfl ⟨rfl, by go_grown⟩
  · rw [if_neg hr]
    rw [show inB i 0 (((lineL (N : Int)).length : Int) - 1) = false by rw [inB_no]; omega] at HW
    generalize lineL (N : Int) = L at *
    clear hr
    obtain ⟨hi0, hi1⟩ := hi
    simp only
    go_enter Tryz.func10, Tryz.ntmps10
    go_wp2_with fail
    refine (H1.out _).mono ?_; rintro e w' ⟨rfl, rfl⟩
    go_wp2_with fail
    refine (HL.out _).mono ?_; rintro e w1 ⟨v, inn, rfl, hown, hb1⟩
    obtain ⟨A, cap, rfl, hcap, hmax, hat⟩ := own_view hown.out
    unfold maxLen at hmax
    have hB1 : Below w.heap.size w w1 := bfin (by go_grown) hb1
    obtain ⟨⟨y0, y1, y2, y3⟩, ⟨j0, j1, j2, j3⟩, hl3⟩ := Blk4.open_ (show Blk4 w1 w.heap.size 25 0 0 0 0 from heap_below heap_new hb1)
    clear hat hown
    go_wp2_with fail
    refine (HW.out _).mono ?_; rintro e w' ⟨rfl, rfl⟩
    go_wp2_with fail
    refine bodyPost_ret (v := .tuple #[(.agg #[.int .i64 0, .int .i64 0, .int .i64 0, .int .i64 0]), (.int .i64 2)]) (by simp [results, Tryz.results10, go_sem, y0, y1, y2, y3]) rfl ⟨rfl, by go_grown⟩
end Go.Proofs.YtjkemnnkgihefaaGreat
