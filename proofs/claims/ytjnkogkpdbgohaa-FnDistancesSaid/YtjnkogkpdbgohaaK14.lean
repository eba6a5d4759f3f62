/- The walk of the great law of distances. -/
import Derived.Test.YtjnkogkpdbgohaaK13
import Derived.Test.YtjnkogkpdbgohaaD4A
import Derived.Deep.DeepCutAuto
namespace Go.Proofs.Ytjnkogkpdbgohaa
open Go.RowKit
theorem eqFrac (a b a' b' : Int) (w : World) : (Op.equalIn 10000 25 (.agg #[.int .i64 a, .int .i64 b]) (.agg #[.int .i64 a', .int .i64 b'])).run Try.prog w = .ok (a == a' && b == b') w :=
  run_equalIn_arr2 Try.underlying25 ⟨_, rfl⟩ Try.underlying2 (by kernel_rfl) (fun x y w => ⟨by kernel_rfl, by kernel_rfl⟩) a b a' b' w
attribute [local go_sem] eqFrac
set_option maxRecDepth 100000 in
set_option maxHeartbeats 2000000 in
theorem fractions5_same (A A' : Option Addr) (n cap cap' B B' : Nat) (xs : List Int) (w : World) (hl : xs.length = n * 2) (hn : n ≤ maxLen) (h : RowAt w B A n (ints xs)) (h' : RowAt w B' A' n (ints xs)) :
    Calls Try.prog 10 #[.slice A n cap, .slice A' n cap'] w fun e w' => e = .returned (.bool true) ∧ Below w.heap.size w w' := by
  have HL := Lib.hid hl
  unfold maxLen at hn
  clear hl
  go_enter Try.func10, Try.ntmps10
  go_wp2_with fail
  go_loopw [5] (fun i wr => ∃ k : Nat, i = (.int .i64 ((k : Int))) ∧ k ≤ n ∧ Below w.heap.size w wr) (fun i _ => n - (intOf i).toNat)
  case atStart => exact ⟨0, rfl, Nat.zero_le _, Below.refl _ _⟩
  case round =>
    obtain ⟨k, rfl, hk, hb⟩ := hrel
    by_cases hlt : k < n
    · obtain ⟨b, rfl, -, hl1, hc, -⟩ := (h.below hb) (by omega)
      obtain ⟨b', rfl, -, hl2, hc', -⟩ := (h'.below hb) (by omega)
      have h0 := hc (k * 2) _ (ints_at (by rw [HL.out]; omega))
      have g0 := hc' (k * 2) _ (ints_at (by rw [HL.out]; omega))
      have h1 := hc (k * 2 + 1) _ (ints_at (by rw [HL.out]; omega))
      have g1 := hc' (k * 2 + 1) _ (ints_at (by rw [HL.out]; omega))
      generalize xs.getD (k * 2) 0 = x0 at h0 g0
      generalize xs.getD (k * 2 + 1) 0 = x1 at h1 g1
      have hx0 : (x0 == x0) = true := by simp
      have hx1 : (x1 == x1) = true := by simp
      clear hc hc' h h'
      go_wp2_with fail
      go_quiet (fail)
      go_wp2_with fail
      go_roundw
      case rel => exact ⟨k + 1, by go_num, by omega, below_drewN hb _⟩
      case measure => simp [intOf]; omega
    · clear h h'
      go_wp2_with fail
      go_ret
      exact ⟨rfl, hb⟩
attribute [local go_sem] eqFrac eqMat
set_option maxRecDepth 1000000 in
set_option maxHeartbeats 16000000 in
theorem lawFnDistances (a : Option Addr) (len cap : Nat) (w : World) (hl : len ≤ maxLen) (hb : Bytes w w.heap.size a len) :
    Calls Try.prog 3 #[.slice a len cap] w fun e w' => e = .returned (.bool true) ∧ Below w.heap.size w w' := by
  have HB := Lib.hid hb
  have HG := Lib.hid (big_any a len cap w hl)
  unfold maxLen at hl
  clear hb
  by_cases hbig : 4096 < len
  · rw [show decide (4096 < len) = true by simpa using hbig] at HG
    go_enter Try.func3, Try.ntmps3
    go_wp2_with fail
    refine HG.out.mono ?_; rintro e w' ⟨rfl, rfl⟩
    go_wp2_with fail
    go_ret
    exact ⟨rfl, Below.refl _ _⟩
  rw [show decide (4096 < len) = false by simpa using hbig] at HG
  have hl2 : len ≤ 1152921504606846976 := by omega
  have T := Lib.hid (Below.refl w.heap.size w)
  go_enter Try.func3, Try.ntmps3
  go_wp2_with fail
  refine HG.out.mono ?_; rintro e w' ⟨rfl, rfl⟩
  clear HG
  go_wp2_with fail
  refine (DrawConvergentsOf_any a len cap w hl2 HB.out).mono ?_; rintro e w1 ⟨⟨P, Q, rfl⟩, hb⟩
  replace T := Lib.hid (bfin T.out hb)
  clear hb
  have fN := Lib.hid (Bf.new (w := w1) (p := (P)) (q := (Q)))
  replace T := Lib.hid (T.out.alloc T.out.size (.cells #[(.int .i64 P), (.int .i64 Q)] 25))
  have f := fN
  clear fN
  obtain ⟨L, C, k, HO⟩ := cv_ok P Q
  have H1 := Lib.hid HO.vimp
  have H2 := Lib.hid HO.vspec
  have H3 := Lib.hid HO.cimp
  have H4 := Lib.hid HO.cspec
  have hlenL := HO.lenL
  have hlenC := HO.lenC
  have HU := Lib.hid HO.use
  clear HO
  go_wp2_with fail
  refine (H1.out _).mono ?_; rintro e w2 ⟨v1, rfl, ho1, hb⟩
  replace T := Lib.hid (bfin T.out hb)
  replace f := Lib.hid (f.out.below hb)
  clear hb
  generalize w1.heap.size = b1 at *
  obtain ⟨A1, cap1, rfl, -, -, hat1⟩ := own_view ho1
  have R1 := Lib.hid hat1
  clear ho1 hat1
  obtain ⟨⟨of0, of1⟩, -, lf⟩ := f.out.open_
  go_wp2_with fail
  refine (H2.out _).mono ?_; rintro e w3 ⟨v2, rfl, ho2, hb⟩
  replace T := Lib.hid (bfin T.out hb)
  replace f := Lib.hid (f.out.below hb)
  replace R1 := Lib.hid (R1.out.below hb)
  clear hb of0 of1 lf
  obtain ⟨A2, cap2, rfl, -, -, hat2⟩ := own_view ho2
  have R2 := Lib.hid hat2
  clear ho2 hat2
  obtain ⟨⟨of0, of1⟩, -, lf⟩ := f.out.open_
  go_wp2_with fail
  refine (H3.out _).mono ?_; rintro e w4 ⟨v3, rfl, ho3, hb⟩
  replace T := Lib.hid (bfin T.out hb)
  replace f := Lib.hid (f.out.below hb)
  replace R1 := Lib.hid (R1.out.below hb)
  replace R2 := Lib.hid (R2.out.below hb)
  clear hb of0 of1 lf
  obtain ⟨A3, cap3, rfl, hcap3, hcm3, hat3⟩ := own_view ho3
  have R3 := Lib.hid hat3
  clear ho3 hat3
  obtain ⟨⟨of0, of1⟩, -, lf⟩ := f.out.open_
  go_wp2_with fail
  refine (H4.out _).mono ?_; rintro e w5 ⟨v4, rfl, ho4, hb⟩
  replace T := Lib.hid (bfin T.out hb)
  replace f := Lib.hid (f.out.below hb)
  replace R1 := Lib.hid (R1.out.below hb)
  replace R2 := Lib.hid (R2.out.below hb)
  replace R3 := Lib.hid (R3.out.below hb)
  clear hb of0 of1 lf
  obtain ⟨A4, cap4, rfl, -, -, hat4⟩ := own_view ho4
  have R4 := Lib.hid hat4
  clear ho4 hat4 H1 H2 H3 H4
  have hfl : (flat2 C).length = C.length * 2 := flat2_len C
  have hx1 : (k != k) = false := by simp
  have hx4 : C.length ≤ maxLen := by unfold maxLen; omega
  have hx5 : L.length ≤ maxLen := by unfold maxLen; omega
  go_wp2_with fail
  refine (fractions5_same A1 A2 C.length cap1 cap2 _ _ (flat2 C) _ hfl hx4 R1.out R2.out).mono ?_; rintro e w6 ⟨rfl, hb⟩
  replace T := Lib.hid (bfin T.out hb)
  replace f := Lib.hid (f.out.below hb)
  replace R1 := Lib.hid (R1.out.below hb)
  replace R3 := Lib.hid (R3.out.below hb)
  replace R4 := Lib.hid (R4.out.below hb)
  clear hb
  go_wp2_with fail
  refine (likeInts_same A3 A4 L.length cap3 cap4 _ _ L _ rfl hx5 R3.out R4.out).mono ?_; rintro e w7 ⟨rfl, hb⟩
  replace T := Lib.hid (bfin T.out hb)
  replace f := Lib.hid (f.out.below hb)
  replace R1 := Lib.hid (R1.out.below hb)
  replace R3 := Lib.hid (R3.out.below hb)
  clear hb
  clear R2 R4 hx4 hx5 hfl
  go_upto_if 101 with (fail)
  clear hx1
  go_cut [12, 13, 14, 15, 16, 101] from 102 to 155 (fun _ _ _ _ _ _ wx => Hid (Below w.heap.size w wx))
  case first =>
    by_cases h0 : k = 0
    · subst h0
      obtain ⟨ulen, upos, ulast, unear, ufc⟩ := HU.out rfl
      have HC := Lib.hid (fun W B (h : RowAt W B A3 L.length (ints L)) => FractionOfContinued_any A3 cap3 B L W (by omega) hcap3 hcm3 h)
      rw [ufc] at HC
      simp only at HC
      obtain ⟨c0, c1⟩ := flat2_at ulast
      obtain ⟨M, hM⟩ : ∃ M, L.length = M + 1 := ⟨L.length - 1, by omega⟩
      rw [hM, Nat.add_sub_cancel] at c0 c1
      have CL := Lib.hid (And.intro c0 c1)
      rw [hM] at ulen
      have HN := Lib.hid (show ∀ j, j < M → ∃ x y : P2, C[j]? = some x ∧ C[j + 1]? = some y ∧ nearRes x.x x.y y.x y.y = (true, 0) from fun j hj => by
        have h1 : j < C.length := by omega
        have h2 : j + 1 < C.length := by omega
        exact ⟨C[j], C[j + 1], List.getElem?_eq_getElem h1, List.getElem?_eq_getElem h2, unear j _ _ (List.getElem?_eq_getElem h1) (List.getElem?_eq_getElem h2)⟩)
      generalize L.length = nl at *
      generalize C.length = nc at *
      subst ulen hM
      clear HU unear ufc ulast c0 c1 hcap3 hcm3 upos
      go_wp2_with fail
      refine (HC.out _ _ R3.out).mono ?_; rintro e w8 ⟨rfl, hb⟩
      replace T := Lib.hid (bfin T.out hb)
      replace f := Lib.hid (f.out.below hb)
      replace R1 := Lib.hid (R1.out.below hb)
      replace R3 := Lib.hid (R3.out.below hb)
      clear hb
      generalize w8.heap.size = b8 at *
      have bN := Lib.hid (Bf.new (w := w8) (p := (P)) (q := (Q)))
      replace T := Lib.hid (T.out.alloc T.out.size (.cells #[(.int .i64 P), (.int .i64 Q)] 25))
      replace f := Lib.hid (f.out.alloc (.cells #[(.int .i64 P), (.int .i64 Q)] 25))
      have b := bN
      clear bN
      clear HC
      replace R1 := Lib.hid (R1.out.below ((Below.refl _ _).alloc (Nat.le_refl _) (.cells #[(.int .i64 P), (.int .i64 Q)] 25)))
      obtain ⟨g, rfl, -, hgl, hcell, -⟩ := R1.out (by omega)
      have c0 := hcell _ _ CL.out.1
      have c1 := hcell _ _ CL.out.2
      have hx2 : (P == P && Q == Q) = true := by simp
      have hx3 : ((P == P) && (Q == Q)) = true := by simp
      clear hcell
      obtain ⟨⟨of0, of1⟩, -, lf⟩ := f.out.open_
      obtain ⟨⟨ob0, ob1⟩, -, lb⟩ := b.out.open_
      go_wp2_with fail
      generalize (w8.alloc (.cells #[(.int .i64 P), (.int .i64 Q)] 25)) = W9 at *
      refine wp_region_ext (by kernel_rfl) (by kernel_rfl) ?_
      repeat (go_big_quiet_step (fail))
      refine wpQuiet_nil ?_
      intro w9 hb
      replace T := Lib.hid (bfin T.out hb)
      replace f := Lib.hid (f.out.below hb)
      replace b := Lib.hid (b.out.below hb)
      replace R1 := Lib.hid (R1.out.below hb)
      clear hb of0 of1 lf ob0 ob1 lb
      clear b
      clear hx2 hx3 c0 c1 hgl CL
      go_wp2_with fail
      go_loopw [14, 15, 16] (fun i _ _ wr => ∃ j : Nat, i = (.int .i64 ((j : Int) + 1)) ∧ j ≤ M ∧ Hid (Below w.heap.size w wr) ∧ Hid (∃ B0, RowAt wr B0 (some ⟨g, 0, none⟩) (M + 1) (ints (flat2 C)))) (fun i _ _ _ => M + 1 - (intOf i).toNat)
      case atStart => exact ⟨0, rfl, Nat.zero_le _, T, Lib.hid ⟨_, R1.out⟩⟩
      case round =>
        clear T R1
        obtain ⟨j, rfl, hj, T, R1⟩ := hrel
        by_cases hlt : j < M
        · obtain ⟨B0, hR⟩ := R1.out
          obtain ⟨x, y, hx, hy, hn⟩ := HN.out j hlt
          have HA := Lib.hid (fun W => AreNeighbours_any x.x x.y y.x y.y W)
          rw [hn] at HA
          simp only at HA
          obtain ⟨x0, x1⟩ := flat2_at hx
          obtain ⟨y0, y1⟩ := flat2_at hy
          obtain ⟨g', hg', -, hgl, hcell, -⟩ := hR (by omega)
          injection hg' with hg'
          injection hg' with hg'
          subst hg'
          have c0 := hcell _ _ x0
          have c1 := hcell _ _ x1
          have c2 := hcell _ _ y0
          have c3 := hcell _ _ y1
          generalize x.x = xx at *
          generalize x.y = xy at *
          generalize y.x = yx at *
          generalize y.y = yy at *
          replace R1 := Lib.hid hR
          have hlt2 : (j : Int) + 1 < ((M + 1 : Nat) : Int) := by omega
          have hlt3 : (j : Int) < (M : Int) := by omega
          clear x0 x1 y0 y1 hcell hx hy hn HN hR
          go_wp2_with fail
          refine wp_region_ext (by kernel_rfl) (by kernel_rfl) ?_
          repeat (go_big_quiet_step (first | (go_at_call 13; refine Calls.ext_of (Nat.le_refl _) (HA.out _))))
          refine wpQuiet_nil ?_
          intro w10 hb
          replace T := Lib.hid (bfin T.out hb)
          replace R1 := Lib.hid (R1.out.below hb)
          clear hb c0 c1 c2 c3 hgl HA
          go_wp2_with fail
          go_roundw
          case rel => exact ⟨j + 1, by go_num, by omega, T, Lib.hid ⟨_, R1.out⟩⟩
          case measure => simp [intOf]; omega
        · have hlt2 : ¬ (j : Int) + 1 < ((M + 1 : Nat) : Int) := by omega
          have hlt3 : ¬ (j : Int) + 1 < (M : Int) + 1 := by omega
          have hlt4 : ¬ (j : Int) < (M : Int) := by omega
          clear HN
          go_wp2_with fail
          go_meet
          exact T
    · have h0' : (k == 0) = false := by simpa using h0
      clear h0 HU
      go_wp2_with fail
      go_meet
      exact T
  case rest =>
    clear HU T R1 R3 f hlenL hlenC hcap3 hcm3
    have T := hcut
    clear hcut
    have HD := Lib.hid (fun W (h : Bytes W W.heap.size a len) => DrawDistanceOf_any a len cap W hl2 h)
    go_wp2_with fail
    refine (HD.out _ (HB.out.after T.out)).mono ?_; rintro e w21 ⟨⟨ga, gb, gc, gd, rfl⟩, hb⟩
    replace T := Lib.hid (bfin T.out hb)
    clear hb
    have gN := Lib.hid (Bf.new (w := w21) (p := (ga)) (q := (gb)))
    replace T := Lib.hid (T.out.alloc T.out.size (.cells #[(.int .i64 ga), (.int .i64 gb)] 25))
    have g := gN
    clear gN
    have hN := Lib.hid (Bf.newE (g := w21.heap.size + 1) (w := (w21.alloc (.cells #[(.int .i64 ga), (.int .i64 gb)] 25))) (p := (gc)) (q := (gd)) (by simp))
    replace T := Lib.hid (T.out.alloc T.out.size (.cells #[(.int .i64 gc), (.int .i64 gd)] 25))
    replace g := Lib.hid (g.out.alloc (.cells #[(.int .i64 gc), (.int .i64 gd)] 25))
    have h := hN
    clear hN
    have HI := Lib.hid (fun W => DistanceOf_any ga gb gc gd W)
    have HS := Lib.hid (fun W => sDistanceOf_any ga gb gc gd W)
    have HI3 := Lib.hid (fun W => DistanceOf_any gc gd ga gb W)
    have HU := Lib.hid (fun (h : distC ga gb gc gd = 0) N hN => dis_use (N := N) h hN)
    have HE := Lib.hid (fun N N' h1 h2 h3 h4 => dist_same (u := ⟨ga, gb⟩) (v := ⟨gc, gd⟩) (c := distC ga gb gc gd) (N := N) (N' := N') h1 h2 h3 h4)
    unfold DistSay at HI HS HI3
    generalize distC ga gb gc gd = k at *
    clear HD
    go_wp2_with fail
    refine (HI.out _).mono ?_; rintro e w22 ⟨⟨N, rfl, n1, n2⟩, hb⟩
    replace T := Lib.hid (bfin T.out hb)
    replace g := Lib.hid (g.out.below hb)
    replace h := Lib.hid (h.out.below hb)
    clear hb
    generalize w21.heap.size = b21 at *
    obtain ⟨⟨og0, og1⟩, -, lg⟩ := g.out.open_
    obtain ⟨⟨oh0, oh1⟩, -, lh⟩ := h.out.open_
    go_wp2_with fail
    refine (HS.out _).mono ?_; rintro e w23 ⟨⟨N', rfl, n3, n4⟩, hb⟩
    replace T := Lib.hid (bfin T.out hb)
    replace g := Lib.hid (g.out.below hb)
    replace h := Lib.hid (h.out.below hb)
    clear hb og0 og1 lg oh0 oh1 lh
    obtain rfl := HE.out N N' n1 n2 n3 n4
    have HN := Lib.hid (fun (h0 : k = 0) => HU.out h0 _ (n2 h0))
    clear n1 n2 n3 n4 HE HU HI HS
    have hx1 : (k != k) = false := by simp
    have hx2 : (N' != N') = false := by simp
    go_upto_if 182 with (fail)
    clear hx1 hx2
    go_cut [23, 24, 25, 26, 27, 28, 29, 30, 31, 32, 33, 182] from 183 to 255 (fun _ _ _ _ _ _ _ _ _ _ _ _ wx => Hid (Below w.heap.size w wx))
    case first =>
      by_cases h0 : k = 0
      · subst h0
        obtain ⟨back, backN, unear, uzero, l1, g1, g2, f1, f2, l2, umoved⟩ := HN.out rfl
        rw [back] at HI3
        have HBN := Lib.hid (fun N3 (h : (0 : Int) = 0 → ∃ n : Nat, N3 = (n : Int) ∧ IsD ⟨gc, gd⟩ ⟨ga, gb⟩ n) => backN N3 (fun _ => h rfl))
        have HNr := Lib.hid (fun W => AreNeighbours_any ga gb gc gd W)
        rw [unear] at HNr
        have HL1 := Lib.hid (fun W => LeadFraction_any 2 1 1 1 ga gb W (by decide) f1 g1)
        have HL2 := Lib.hid (fun W => LeadFraction_any 2 1 1 1 gc gd W (by decide) f2 g2)
        rw [l1] at HL1
        rw [l2] at HL2
        have HMv := Lib.hid umoved
        simp only at HNr HL1 HL2
        have HZ := Lib.hid uzero
        have hz2 : ((N' == 1) != (N' == 1)) = false := by simp
        have hx2 : (N' != N') = false := by simp
        clear HN back backN unear uzero l1 g1 g2 f1 f2 l2 umoved
        generalize coSign (2 * ga + 1 * gb) (1 * ga + 1 * gb) * (2 * ga + 1 * gb) = x0 at *
        generalize coSign (2 * ga + 1 * gb) (1 * ga + 1 * gb) * (1 * ga + 1 * gb) = x1 at *
        generalize coSign (2 * gc + 1 * gd) (1 * gc + 1 * gd) * (2 * gc + 1 * gd) = y0 at *
        generalize coSign (2 * gc + 1 * gd) (1 * gc + 1 * gd) * (1 * gc + 1 * gd) = y1 at *
        have HD4 := Lib.hid (fun W => DistanceOf_any x0 x1 y0 y1 W)
        unfold DistSay at HD4
        generalize distC x0 x1 y0 y1 = k4 at *
        obtain ⟨⟨og0, og1⟩, -, lg⟩ := g.out.open_
        obtain ⟨⟨oh0, oh1⟩, -, lh⟩ := h.out.open_
        go_wp2_with fail
        refine (HI3.out _).mono ?_; rintro e w24 ⟨⟨N3, rfl, -, m3⟩, hb⟩
        replace T := Lib.hid (bfin T.out hb)
        replace g := Lib.hid (g.out.below hb)
        replace h := Lib.hid (h.out.below hb)
        clear hb og0 og1 lg oh0 oh1 lh
        obtain rfl := HBN.out N3 m3
        clear m3 HBN HI3
        obtain ⟨⟨og0, og1⟩, -, lg⟩ := g.out.open_
        obtain ⟨⟨oh0, oh1⟩, -, lh⟩ := h.out.open_
        go_wp2_with fail
        refine (HNr.out _).mono ?_; rintro e w25 ⟨rfl, hb⟩
        replace T := Lib.hid (bfin T.out hb)
        replace g := Lib.hid (g.out.below hb)
        replace h := Lib.hid (h.out.below hb)
        clear hb og0 og1 lg oh0 oh1 lh
        clear HNr
        have mN := Lib.hid (Bm.new (w := w25) (p := (2)) (q := (1)) (s := (1)) (u := (1)))
        replace T := Lib.hid (T.out.alloc T.out.size (.cells #[(.int .i64 2), (.int .i64 1), (.int .i64 1), (.int .i64 1)] 44))
        replace g := Lib.hid (g.out.alloc (.cells #[(.int .i64 2), (.int .i64 1), (.int .i64 1), (.int .i64 1)] 44))
        replace h := Lib.hid (h.out.alloc (.cells #[(.int .i64 2), (.int .i64 1), (.int .i64 1), (.int .i64 1)] 44))
        have m := mN
        clear mN
        obtain ⟨⟨om0, om1, om2, om3⟩, -, lm⟩ := m.out.open_
        obtain ⟨⟨og0, og1⟩, -, lg⟩ := g.out.open_
        go_wp2_with fail
        refine (HL1.out _).mono ?_; rintro e w26 ⟨rfl, hb⟩
        replace T := Lib.hid (bfin T.out hb)
        replace g := Lib.hid (g.out.below hb)
        replace h := Lib.hid (h.out.below hb)
        replace m := Lib.hid (m.out.below hb)
        clear hb om0 om1 om2 om3 lm og0 og1 lg
        generalize w25.heap.size = b25 at *
        clear HL1
        have xN := Lib.hid (Bf.new (w := w26) (p := (x0)) (q := (x1)))
        replace T := Lib.hid (T.out.alloc T.out.size (.cells #[(.int .i64 x0), (.int .i64 x1)] 25))
        replace g := Lib.hid (g.out.alloc (.cells #[(.int .i64 x0), (.int .i64 x1)] 25))
        replace h := Lib.hid (h.out.alloc (.cells #[(.int .i64 x0), (.int .i64 x1)] 25))
        replace m := Lib.hid (m.out.alloc (.cells #[(.int .i64 x0), (.int .i64 x1)] 25))
        have x := xN
        clear xN
        obtain ⟨⟨om0, om1, om2, om3⟩, -, lm⟩ := m.out.open_
        obtain ⟨⟨oh0, oh1⟩, -, lh⟩ := h.out.open_
        go_wp2_with fail
        refine (HL2.out _).mono ?_; rintro e w27 ⟨rfl, hb⟩
        replace T := Lib.hid (bfin T.out hb)
        replace g := Lib.hid (g.out.below hb)
        replace h := Lib.hid (h.out.below hb)
        replace m := Lib.hid (m.out.below hb)
        replace x := Lib.hid (x.out.below hb)
        clear hb om0 om1 om2 om3 lm oh0 oh1 lh
        generalize w26.heap.size = b26 at *
        clear HL2
        have yN := Lib.hid (Bf.new (w := w27) (p := (y0)) (q := (y1)))
        replace T := Lib.hid (T.out.alloc T.out.size (.cells #[(.int .i64 y0), (.int .i64 y1)] 25))
        replace g := Lib.hid (g.out.alloc (.cells #[(.int .i64 y0), (.int .i64 y1)] 25))
        replace h := Lib.hid (h.out.alloc (.cells #[(.int .i64 y0), (.int .i64 y1)] 25))
        replace m := Lib.hid (m.out.alloc (.cells #[(.int .i64 y0), (.int .i64 y1)] 25))
        replace x := Lib.hid (x.out.alloc (.cells #[(.int .i64 y0), (.int .i64 y1)] 25))
        have y := yN
        clear yN
        obtain ⟨⟨ox0, ox1⟩, -, lx⟩ := x.out.open_
        obtain ⟨⟨oy0, oy1⟩, -, ly⟩ := y.out.open_
        go_wp2_with fail
        refine (HD4.out _).mono ?_; rintro e w28 ⟨⟨N4, rfl, -, m4⟩, hb⟩
        replace T := Lib.hid (bfin T.out hb)
        replace g := Lib.hid (g.out.below hb)
        replace h := Lib.hid (h.out.below hb)
        replace m := Lib.hid (m.out.below hb)
        replace x := Lib.hid (x.out.below hb)
        replace y := Lib.hid (y.out.below hb)
        clear hb ox0 ox1 lx oy0 oy1 ly
        generalize w27.heap.size = b27 at *
        clear HD4
        by_cases h4 : k4 = 0
        · obtain rfl := HMv.out N4 (m4 h4)
          subst h4
          clear HMv m4
          obtain ⟨⟨og0, og1⟩, -, lg⟩ := g.out.open_
          obtain ⟨⟨oh0, oh1⟩, -, lh⟩ := h.out.open_
          go_wp2_with fail
          all_goals first | (rename_i hq; exact absurd HZ.out hq) | (go_meet; exact T)
        · have h4' : (k4 == 0) = false := by simpa using h4
          clear HMv m4 h4
          obtain ⟨⟨og0, og1⟩, -, lg⟩ := g.out.open_
          obtain ⟨⟨oh0, oh1⟩, -, lh⟩ := h.out.open_
          go_wp2_with fail
          all_goals first | (rename_i hq; exact absurd HZ.out hq) | (go_meet; exact T)
      · have h0' : (k == 0) = false := by simpa using h0
        clear h0 HN HI3
        go_wp2_with fail
        go_meet
        exact T
    case rest =>
      clear HN T g h HI3
      have T := hcut
      clear hcut
      have HD := Lib.hid (fun W (h : Bytes W W.heap.size a len) => DrawMatrixOfNeighbours_any a len cap W hl2 h)
      go_wp2_with fail
      refine (HD.out _ (HB.out.after T.out)).mono ?_; rintro e w41 ⟨⟨ga, gb, gc, gd, rfl⟩, hb⟩
      replace T := Lib.hid (bfin T.out hb)
      clear hb
      have gN := Lib.hid (Bf.new (w := w41) (p := (ga)) (q := (gb)))
      replace T := Lib.hid (T.out.alloc T.out.size (.cells #[(.int .i64 ga), (.int .i64 gb)] 25))
      have g := gN
      clear gN
      have hN := Lib.hid (Bf.newE (g := w41.heap.size + 1) (w := (w41.alloc (.cells #[(.int .i64 ga), (.int .i64 gb)] 25))) (p := (gc)) (q := (gd)) (by simp))
      replace T := Lib.hid (T.out.alloc T.out.size (.cells #[(.int .i64 gc), (.int .i64 gd)] 25))
      replace g := Lib.hid (g.out.alloc (.cells #[(.int .i64 gc), (.int .i64 gd)] 25))
      have h := hN
      clear hN
      have HI := Lib.hid (fun W => MatrixOfNeighbours_any ga gb gc gd W)
      have HS := Lib.hid (fun W => sMatrixOfNeighbours_any ga gb gc gd W)
      have HU := Lib.hid (fun h => mn_use (a := ga) (b := gb) (c := gc) (d := gd) h)
      unfold mnV at HI HS
      generalize (mnRes ga gb gc gd).1.p = p at *
      generalize (mnRes ga gb gc gd).1.q = q at *
      generalize (mnRes ga gb gc gd).1.r = r at *
      generalize (mnRes ga gb gc gd).1.s = s at *
      generalize (mnRes ga gb gc gd).2 = k at *
      clear HD
      obtain ⟨⟨og0, og1⟩, -, lg⟩ := g.out.open_
      obtain ⟨⟨oh0, oh1⟩, -, lh⟩ := h.out.open_
      go_wp2_with fail
      refine (HI.out _).mono ?_; rintro e w42 ⟨rfl, hb⟩
      replace T := Lib.hid (bfin T.out hb)
      replace g := Lib.hid (g.out.below hb)
      replace h := Lib.hid (h.out.below hb)
      clear hb og0 og1 lg oh0 oh1 lh
      generalize w41.heap.size = b41 at *
      have mN := Lib.hid (Bm.new (w := w42) (p := (p)) (q := (q)) (s := (r)) (u := (s)))
      replace T := Lib.hid (T.out.alloc T.out.size (.cells #[(.int .i64 p), (.int .i64 q), (.int .i64 r), (.int .i64 s)] 44))
      replace g := Lib.hid (g.out.alloc (.cells #[(.int .i64 p), (.int .i64 q), (.int .i64 r), (.int .i64 s)] 44))
      replace h := Lib.hid (h.out.alloc (.cells #[(.int .i64 p), (.int .i64 q), (.int .i64 r), (.int .i64 s)] 44))
      have m := mN
      clear mN
      obtain ⟨⟨og0, og1⟩, -, lg⟩ := g.out.open_
      obtain ⟨⟨oh0, oh1⟩, -, lh⟩ := h.out.open_
      go_wp2_with fail
      refine (HS.out _).mono ?_; rintro e w43 ⟨rfl, hb⟩
      replace T := Lib.hid (bfin T.out hb)
      replace g := Lib.hid (g.out.below hb)
      replace h := Lib.hid (h.out.below hb)
      replace m := Lib.hid (m.out.below hb)
      clear hb og0 og1 lg oh0 oh1 lh
      generalize w42.heap.size = b42 at *
      have m'N := Lib.hid (Bm.new (w := w43) (p := (p)) (q := (q)) (s := (r)) (u := (s)))
      replace T := Lib.hid (T.out.alloc T.out.size (.cells #[(.int .i64 p), (.int .i64 q), (.int .i64 r), (.int .i64 s)] 44))
      replace g := Lib.hid (g.out.alloc (.cells #[(.int .i64 p), (.int .i64 q), (.int .i64 r), (.int .i64 s)] 44))
      replace h := Lib.hid (h.out.alloc (.cells #[(.int .i64 p), (.int .i64 q), (.int .i64 r), (.int .i64 s)] 44))
      replace m := Lib.hid (m.out.alloc (.cells #[(.int .i64 p), (.int .i64 q), (.int .i64 r), (.int .i64 s)] 44))
      have m' := m'N
      clear m'N
      clear HI HS
      have hx1 : (k != k) = false := by simp
      have hx2 : (p == p && (q == q && (r == r && s == s))) = true := by simp
      obtain ⟨⟨om0, om1, om2, om3⟩, -, lm⟩ := m.out.open_
      obtain ⟨⟨om'0, om'1, om'2, om'3⟩, -, lm'⟩ := m'.out.open_
      go_upto_if 282 with (fail)
      generalize w43.heap.size = b43 at *
      clear hx1 hx2
      clear om0 om1 om2 om3 lm om'0 om'1 om'2 om'3 lm'
      clear m'
      go_cut [40, 41, 42, 43, 282] from 283 to 315 (fun _ _ _ _ _ wx => Hid (Below w.heap.size w wx))
      case first =>
        by_cases h0 : k = 0
        · subst h0
          obtain ⟨umat, g1, g2, l1, l2⟩ := HU.out rfl
          have HL1 := Lib.hid (fun W => LeadFraction_any p q r s 1 0 W umat (by decide) g1)
          have HL2 := Lib.hid (fun W => LeadFraction_any p q r s 0 1 W umat (by decide) g2)
          have HM := Lib.hid (fun W => IsMatrix_any p q r s W)
          rw [l1] at HL1
          rw [l2] at HL2
          rw [umat] at HM
          simp only at HL1 HL2
          clear HU umat g1 g2 l1 l2
          have hx1 : (ga == ga && gb == gb) = true := by simp
          have hx2 : (gc == gc && gd == gd) = true := by simp
          obtain ⟨⟨om0, om1, om2, om3⟩, -, lm⟩ := m.out.open_
          go_wp2_with fail
          refine (HL1.out _).mono ?_; rintro e w44 ⟨rfl, hb⟩
          replace T := Lib.hid (bfin T.out hb)
          replace g := Lib.hid (g.out.below hb)
          replace h := Lib.hid (h.out.below hb)
          replace m := Lib.hid (m.out.below hb)
          clear hb om0 om1 om2 om3 lm
          have xN := Lib.hid (Bf.new (w := w44) (p := (ga)) (q := (gb)))
          replace T := Lib.hid (T.out.alloc T.out.size (.cells #[(.int .i64 ga), (.int .i64 gb)] 25))
          replace g := Lib.hid (g.out.alloc (.cells #[(.int .i64 ga), (.int .i64 gb)] 25))
          replace h := Lib.hid (h.out.alloc (.cells #[(.int .i64 ga), (.int .i64 gb)] 25))
          replace m := Lib.hid (m.out.alloc (.cells #[(.int .i64 ga), (.int .i64 gb)] 25))
          have x := xN
          clear xN
          obtain ⟨⟨om0, om1, om2, om3⟩, -, lm⟩ := m.out.open_
          go_wp2_with fail
          refine (HL2.out _).mono ?_; rintro e w45 ⟨rfl, hb⟩
          replace T := Lib.hid (bfin T.out hb)
          replace g := Lib.hid (g.out.below hb)
          replace h := Lib.hid (h.out.below hb)
          replace m := Lib.hid (m.out.below hb)
          replace x := Lib.hid (x.out.below hb)
          clear hb om0 om1 om2 om3 lm
          generalize w44.heap.size = b44 at *
          have yN := Lib.hid (Bf.new (w := w45) (p := (gc)) (q := (gd)))
          replace T := Lib.hid (T.out.alloc T.out.size (.cells #[(.int .i64 gc), (.int .i64 gd)] 25))
          replace g := Lib.hid (g.out.alloc (.cells #[(.int .i64 gc), (.int .i64 gd)] 25))
          replace h := Lib.hid (h.out.alloc (.cells #[(.int .i64 gc), (.int .i64 gd)] 25))
          replace m := Lib.hid (m.out.alloc (.cells #[(.int .i64 gc), (.int .i64 gd)] 25))
          replace x := Lib.hid (x.out.alloc (.cells #[(.int .i64 gc), (.int .i64 gd)] 25))
          have y := yN
          clear yN
          obtain ⟨⟨om0, om1, om2, om3⟩, -, lm⟩ := m.out.open_
          go_wp2_with fail
          refine (HM.out _).mono ?_; rintro e w46 ⟨rfl, hb⟩
          replace T := Lib.hid (bfin T.out hb)
          replace g := Lib.hid (g.out.below hb)
          replace h := Lib.hid (h.out.below hb)
          replace m := Lib.hid (m.out.below hb)
          replace x := Lib.hid (x.out.below hb)
          replace y := Lib.hid (y.out.below hb)
          clear hb om0 om1 om2 om3 lm
          generalize w45.heap.size = b45 at *
          obtain ⟨⟨ox0, ox1⟩, -, lx⟩ := x.out.open_
          obtain ⟨⟨oy0, oy1⟩, -, ly⟩ := y.out.open_
          obtain ⟨⟨og0, og1⟩, -, lg⟩ := g.out.open_
          obtain ⟨⟨oh0, oh1⟩, -, lh⟩ := h.out.open_
          go_wp2_with fail
          go_meet
          exact T
        · have h0' : (k == 0) = false := by simpa using h0
          clear h0 HU
          go_wp2_with fail
          go_meet
          exact T
      case rest =>
        clear HU T g h m
        have T := hcut
        clear hcut
        have HD := Lib.hid (fun W (h : Bytes W W.heap.size a len) => DrawFractionOfContinued_any a len cap W hl2 h)
        unfold RowSay at HD
        go_wp2_with fail
        refine (HD.out _ (HB.out.after T.out)).mono ?_; rintro e w61 ⟨⟨L, A, cp, rfl, hlen, hcap, hcm, hat, -⟩, hb⟩
        replace T := Lib.hid (bfin T.out hb)
        clear hb
        have R := Lib.hid hat
        clear hat HD
        have HC := Lib.hid (fun W B (h : RowAt W B A L.length (ints L)) => FractionOfContinued_any A cp B L W hlen hcap hcm h)
        have HS := Lib.hid (fun W B (h : RowAt W B A L.length (ints L)) => sFractionOfContinued_any A cp B L W hlen h)
        have HU := Lib.hid (fun h => fc_use (L := L) h)
        have HK := Lib.hid (fun W => ContinuedOf_any (fcRes L).1.1 (fcRes L).1.2 W)
        generalize (fcRes L).1.1 = p at *
        generalize (fcRes L).1.2 = q at *
        generalize (fcRes L).2 = k at *
        go_wp2_with fail
        refine (HC.out _ _ R.out).mono ?_; rintro e w62 ⟨rfl, hb⟩
        replace T := Lib.hid (bfin T.out hb)
        replace R := Lib.hid (R.out.below hb)
        clear hb
        have xN := Lib.hid (Bf.new (w := w62) (p := (p)) (q := (q)))
        replace T := Lib.hid (T.out.alloc T.out.size (.cells #[(.int .i64 p), (.int .i64 q)] 25))
        have x := xN
        clear xN
        replace R := Lib.hid (R.out.below ((Below.refl _ _).alloc (Nat.le_refl _) (.cells #[(.int .i64 p), (.int .i64 q)] 25)))
        go_wp2_with fail
        refine (HS.out _ _ R.out).mono ?_; rintro e w63 ⟨rfl, hb⟩
        replace T := Lib.hid (bfin T.out hb)
        replace x := Lib.hid (x.out.below hb)
        replace R := Lib.hid (R.out.below hb)
        clear hb
        generalize w62.heap.size = b62 at *
        have yN := Lib.hid (Bf.new (w := w63) (p := (p)) (q := (q)))
        replace T := Lib.hid (T.out.alloc T.out.size (.cells #[(.int .i64 p), (.int .i64 q)] 25))
        replace x := Lib.hid (x.out.alloc (.cells #[(.int .i64 p), (.int .i64 q)] 25))
        have y := yN
        clear yN
        replace R := Lib.hid (R.out.below ((Below.refl _ _).alloc (Nat.le_refl _) (.cells #[(.int .i64 p), (.int .i64 q)] 25)))
        have hx1 : (k != k) = false := by simp
        have hx2 : (p == p && q == q) = true := by simp
        clear HC HS
        obtain ⟨⟨ox0, ox1⟩, -, lx⟩ := x.out.open_
        obtain ⟨⟨oy0, oy1⟩, -, ly⟩ := y.out.open_
        go_upto_if 337 with (fail)
        generalize w63.heap.size = b63 at *
        clear hx1 hx2
        clear ox0 ox1 lx oy0 oy1 ly
        by_cases h0 : k = 0
        · subst h0
          have hu := HU.out rfl
          rw [hu] at HK
          simp only at HK
          clear hu HU
          obtain ⟨⟨ox0, ox1⟩, -, lx⟩ := x.out.open_
          go_wp2_with fail
          refine (HK.out _).mono ?_; rintro e w64 ⟨v5, rfl, ho5, hb⟩
          replace T := Lib.hid (bfin T.out hb)
          replace x := Lib.hid (x.out.below hb)
          replace y := Lib.hid (y.out.below hb)
          replace R := Lib.hid (R.out.below hb)
          clear hb ox0 ox1 lx
          obtain ⟨A5, cap5, rfl, -, -, hat5⟩ := own_view ho5
          have R5 := Lib.hid hat5
          clear ho5 hat5 HK
          have hx5 : L.length ≤ maxLen := by unfold maxLen; omega
          go_wp2_with fail
          refine (likeInts_same A5 A L.length cap5 cp _ _ L _ rfl hx5 R5.out R.out).mono ?_; rintro e w65 ⟨rfl, hb⟩
          replace T := Lib.hid (bfin T.out hb)
          replace x := Lib.hid (x.out.below hb)
          replace y := Lib.hid (y.out.below hb)
          clear hb
          go_wp2_with fail
          go_ret
          exact ⟨rfl, T.out⟩
        · have h0' : (k == 0) = false := by simpa using h0
          clear h0 HU HK
          go_wp2_with fail
          go_ret
          exact ⟨rfl, T.out⟩
end Go.Proofs.Ytjnkogkpdbgohaa
