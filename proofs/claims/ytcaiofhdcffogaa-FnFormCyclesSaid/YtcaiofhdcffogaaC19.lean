/- Contracts: a definite form is reduced, as the specification does it. -/
import Derived.Test.YtcaiofhdcffogaaC17
namespace Go.Proofs.Ytcaiofhdcffogaa
open Go.RowKit
theorem redW_put2 {a b c : Int} {w w7 w8 : World} {bM k : Nat} {t : RS} {tF tM : TypeId} {x y z p q r s X Y Z P Q R S : Int}
    (hF : Blk3 w7 w.heap.size tF x y z) (hM : Blk4 w7 bM tM p q r s) (h2 : Blk3 w7 (w.heap.size + 1) 34 0 0 0) (h3 : Blk4 w7 (w.heap.size + 1 + 1) 42 0 0 0 0)
    (hb8 : Below (((w7.setCell ⟨w.heap.size, 0, none⟩ (.int .i64 X)).setCell ⟨w.heap.size, 1, none⟩ (.int .i64 Y)).setCell ⟨w.heap.size, 2, none⟩ (.int .i64 Z)).heap.size (((w7.setCell ⟨w.heap.size, 0, none⟩ (.int .i64 X)).setCell ⟨w.heap.size, 1, none⟩ (.int .i64 Y)).setCell ⟨w.heap.size, 2, none⟩ (.int .i64 Z)) w8)
    (hB : Below w.heap.size w w8) (hlt : w.heap.size + 1 + 1 < bM) (eF : tF = 34) (eM : tM = 42)
    (hI : DefInv a b c t ∧ meas t.f ≤ k ∧ reduceN k t = reduceOf a b c ∧ k < k + 1) (ht : t = ⟨⟨X, Y, Z⟩, ⟨P, Q, R, S⟩⟩) :
    RedW a b c w ((((w8.setCell ⟨bM, 0, none⟩ (.int .i64 P)).setCell ⟨bM, 1, none⟩ (.int .i64 Q)).setCell ⟨bM, 2, none⟩ (.int .i64 R)).setCell ⟨bM, 3, none⟩ (.int .i64 S)) bM k t := by
  subst eF eM ht
  have n1 : bM ≠ w.heap.size := by omega
  refine ⟨hI.1, hI.2.1, hI.2.2.1, ?_, ?_, ?_, ?_, hlt, by go_grown⟩
  · exact heap_keep (heap_keep (heap_keep (heap_keep (heap_below (by exact heap_set3 hF) hb8) n1.symm) n1.symm) n1.symm) n1.symm
  · exact heap_set4 (heap_below (by exact heap_keep (heap_keep (heap_keep hM n1) n1) n1) hb8)
  · exact heap_keep (heap_keep (heap_keep (heap_keep (heap_below (by exact heap_keep (heap_keep (heap_keep h2 (by omega)) (by omega)) (by omega)) hb8) (by omega)) (by omega)) (by omega)) (by omega)
  · exact heap_keep (heap_keep (heap_keep (heap_keep (heap_below (by exact heap_keep (heap_keep (heap_keep h3 (by omega)) (by omega)) (by omega)) hb8) (by omega)) (by omega)) (by omega)) (by omega)
theorem floor_move {x y : Int} (hx : 0 < x) : (x - y) / (2 * x) = (-x - y) / (2 * x) + 1 := by
  rw [show x - y = (-x - y) + 1 * (2 * x) by omega, Int.add_mul_ediv_right _ _ (show 2 * x ≠ 0 by omega)]
structure StBd (p q r s k : Int) : Prop where
  e1 : entB (p * 1 + q * 0) = true
  e2 : entB (p * k + q * 1) = true
  e3 : entB (r * 1 + s * 0) = true
  e4 : entB (r * k + s * 1) = true
theorem stBd {a b c x y z p q r s : Int} (hI : DefInv a b c ⟨⟨x, y, z⟩, ⟨p, q, r, s⟩⟩) (hs : Small a b c) (ha : 0 < a) (h : inB y (-x + 1) x = false) : StBd p q r s ((-x - y) / (2 * x) + 1) := by
  have nb := inv_bd (inv_step hI) hs ha
  rw [stepR_out h] at nb
  simp only at nb
  obtain ⟨n1, n2, n3, n4⟩ := nb
  exact ⟨entB_iff.2 (by omega), entB_iff.2 (by omega), entB_iff.2 (by omega), entB_iff.2 (by omega)⟩
set_option maxRecDepth 100000 in
set_option maxHeartbeats 4000000 in
theorem l05Down_any (a b c : Int) (w : World) (hs : Small a b c) (hd : disc a b c < 0) (ha : 0 < a) :
    Calls Try.prog 63 #[(.agg #[.int .i64 a, .int .i64 b, .int .i64 c])] w fun e w' => e = .returned (.tuple #[(.agg #[.int .i64 ((reduceOf a b c).f.x), .int .i64 ((reduceOf a b c).f.y), .int .i64 ((reduceOf a b c).f.z)]), (.agg #[.int .i64 ((reduceOf a b c).m.p), .int .i64 ((reduceOf a b c).m.q), .int .i64 ((reduceOf a b c).m.r), .int .i64 ((reduceOf a b c).m.s)])]) ∧ Below w.heap.size w w' := by
  have hi0 := inv_start hs hd ha
  have HI := Lib.hid hi0
  clear hi0
  go_enter Try.func63, Try.ntmps63
  go_wp2_with fail
  go_loopg [] (meas ⟨a, b, c⟩).toNat (fun k wr => ∃ t : RS, RedW a b c w wr (w.heap.size + 1 + 1 + 1) k t)
  case atStart =>
    refine ⟨⟨⟨a, b, c⟩, ⟨1, 0, 0, 1⟩⟩, HI.out, by simp only; omega, rfl, ?_, ?_, ?_, ?_, by omega, by go_grown⟩
    · exact heap_alloc (heap_alloc (heap_alloc heap_new))
    · exact heap_new' (by simp only [World.size_alloc])
    · exact heap_alloc (heap_alloc (heap_new' (by simp only [World.size_alloc])))
    · exact heap_alloc (heap_new' (by simp only [World.size_alloc]))
  case round =>
    obtain ⟨⟨⟨x, y, z⟩, ⟨p, q, r, s⟩⟩, hI, hme, hres, hF, hM, h2, h3, hlt, hB⟩ := hrel
    have hsm : Small x y z := hI.sm
    have x0 : 0 < x := hI.x0
    have HI' := Lib.hid hI
    have HME := Lib.hid hme
    have HRES := Lib.hid hres
    have H2 := Lib.hid h2
    have H3 := Lib.hid h3
    have HF := Lib.hid hF
    have HM := Lib.hid hM
    obtain ⟨⟨f0, f1, f2⟩, ⟨ff0, ff1, ff2⟩, fz⟩ := hF.open_
    obtain ⟨⟨m0, m1, m2, m3⟩, ⟨mf0, mf1, mf2, mf3⟩, mz⟩ := hM.open_
    clear hI hme hres h2 h3 hF hM
    obtain ⟨⟨t20, t21, t22⟩, ⟨tf20, tf21, tf22⟩, tz2⟩ := H2.out.open_
    obtain ⟨⟨t30, t31, t32, t33⟩, ⟨tf30, tf31, tf32, tf33⟩, tz3⟩ := H3.out.open_
    obtain ⟨⟨pb0, pb1⟩, ⟨qb0, qb1⟩, ⟨rb0, rb1⟩, ⟨sb0, sb1⟩⟩ := inv_bd HI'.out hs ha
    simp only at pb0 pb1 qb0 qb1 rb0 rb1 sb0 sb1
    have hE : E24 p q r s := ⟨⟨by omega, by omega⟩, ⟨by omega, by omega⟩, ⟨by omega, by omega⟩, ⟨by omega, by omega⟩⟩
    obtain ⟨a0, a1, b0, b1, c0, c1⟩ := id hsm
    cases hr : redB x y z
    · skip
      go_wp2_with fail
      refine (l05Reduced_any _ _ _ _ hsm).mono ?_; rintro e w6 ⟨rfl, hb6⟩
      obtain ⟨hc6, hf6⟩ := bcell hb6
      obtain ⟨hz6_0, hz6_1, hz6_2, hz6_3⟩ : w.heap.size < w6.heap.size ∧ w.heap.size + 1 < w6.heap.size ∧ w.heap.size + 1 + 1 < w6.heap.size ∧ w.heap.size + 1 + 1 + 1 < w6.heap.size := by have := hb6.size; (try simp at this); omega
      have hB6 : Below w.heap.size w w6 := bfin (by go_grown) hb6
      by_cases hin : -x < y ∧ y ≤ x
      · skip
        have HIN : Hid (inB y (-x + 1) x = true) := Lib.hid (by simp [inB]; omega)
        obtain ⟨hin1, hin2⟩ := hin
        have hB6 : Below w.heap.size w w6 := bfin (by go_grown) hb6
        go_wp2_with fail
        refine (l05Apply_any _ _ _ _ _ _ _ _ hsm (by omega) (by omega) (by omega) (by omega) (by omega) (by omega) (by omega) (by omega)).mono ?_; rintro e w7 ⟨rfl, hb7⟩
        obtain ⟨hc7, hf7⟩ := bcell hb7
        obtain ⟨hz7_0, hz7_1, hz7_2, hz7_3, hz7_4⟩ : w.heap.size < w7.heap.size ∧ w.heap.size + 1 < w7.heap.size ∧ w.heap.size + 1 + 1 < w7.heap.size ∧ w.heap.size + 1 + 1 + 1 < w7.heap.size ∧ w6.heap.size < w7.heap.size := by have := hb7.size; (try simp at this); omega
        have hB7 : Below w.heap.size w w7 := bfin (by go_grown) hb7
        go_wp2_with fail
        refine (l01Times_ok _ _ _ _ _ _ _ _ _ hE ⟨⟨by omega, by omega⟩, ⟨by omega, by omega⟩, ⟨by omega, by omega⟩, ⟨by omega, by omega⟩⟩ (entB_iff.2 (by omega)) (entB_iff.2 (by omega)) (entB_iff.2 (by omega)) (entB_iff.2 (by omega))).mono ?_; rintro e w8 ⟨rfl, hb8⟩
        obtain ⟨hc8, hf8⟩ := bcell hb8
        obtain ⟨hz8_0, hz8_1, hz8_2, hz8_3, hz8_4⟩ : w.heap.size < w8.heap.size ∧ w.heap.size + 1 < w8.heap.size ∧ w.heap.size + 1 + 1 < w8.heap.size ∧ w.heap.size + 1 + 1 + 1 < w8.heap.size ∧ w6.heap.size < w8.heap.size := by have := hb8.size; (try simp at this); omega
        have hB8 : Below w.heap.size w w8 := bfin (by go_grown) hb8
        go_wp2_with fail
        go_roundg (gk - 1)
        case measure => exact (red_next HI'.out hr HME.out HRES.out).2.2.2
        case rel =>
          obtain ⟨n1, n2, n3, n4⟩ := red_next HI'.out hr HME.out HRES.out
          have K : ∀ {b : Nat} {o : Obj}, wr.heap[b]? = some o → w7.heap[b]? = some o := fun h => by
            have hl := lt_of_blk h
            have := hb6.size
            exact heap_below (by exact heap_alloc (heap_below h hb6)) hb7
          exact ⟨_, redW_put2 (K HF.out) (K HM.out) (K H2.out) (K H3.out) hb8 hB8 (by omega) rfl rfl ⟨n1, n2, n3, by omega⟩ (stepR_in HIN.out)⟩
      · skip
        have hin' : inB y (-x + 1) x = false := by simp [inB]; omega
        have kb := stepK_bd (f := ⟨x, y, z⟩) x0 hsm
        have ke : stepK ⟨x, y, z⟩ = (-x - y) / (2 * x) + 1 := rfl
        have sb := stBd HI'.out hs ha hin'
        have st := stepR_out (p := p) (q := q) (r := r) (s := s) (z := z) hin'
        rw [ke] at kb
        rw [← floor_move x0] at kb sb st
        obtain ⟨kb0, kb1⟩ := kb
        have SB := Lib.hid sb
        have ST := Lib.hid st
        clear ke hin' sb st
        by_cases hin1 : y ≤ -x
        · skip
          go_wp2_with fail
          refine (l01Floor_any _ _ _ (by omega) (by omega) (by omega) (by omega)).mono ?_; rintro e w' ⟨rfl, rfl⟩
          have hB6 : Below w.heap.size w w6 := bfin (by go_grown) hb6
          go_wp2_with fail
          refine (l05Apply_any _ _ _ _ _ _ _ _ hsm (by omega) (by omega) (by omega) (by omega) (by omega) (by omega) (by omega) (by omega)).mono ?_; rintro e w7 ⟨rfl, hb7⟩
          obtain ⟨hc7, hf7⟩ := bcell hb7
          obtain ⟨hz7_0, hz7_1, hz7_2, hz7_3, hz7_4⟩ : w.heap.size < w7.heap.size ∧ w.heap.size + 1 < w7.heap.size ∧ w.heap.size + 1 + 1 < w7.heap.size ∧ w.heap.size + 1 + 1 + 1 < w7.heap.size ∧ w6.heap.size < w7.heap.size := by have := hb7.size; (try simp at this); omega
          have hB7 : Below w.heap.size w w7 := bfin (by go_grown) hb7
          go_wp2_with fail
          refine (l01Times_ok _ _ _ _ _ _ _ _ _ hE ⟨⟨by omega, by omega⟩, ⟨by omega, by omega⟩, ⟨by omega, by omega⟩, ⟨by omega, by omega⟩⟩ SB.out.e1 SB.out.e2 SB.out.e3 SB.out.e4).mono ?_; rintro e w8 ⟨rfl, hb8⟩
          obtain ⟨hc8, hf8⟩ := bcell hb8
          obtain ⟨hz8_0, hz8_1, hz8_2, hz8_3, hz8_4⟩ : w.heap.size < w8.heap.size ∧ w.heap.size + 1 < w8.heap.size ∧ w.heap.size + 1 + 1 < w8.heap.size ∧ w.heap.size + 1 + 1 + 1 < w8.heap.size ∧ w6.heap.size < w8.heap.size := by have := hb8.size; (try simp at this); omega
          have hB8 : Below w.heap.size w w8 := bfin (by go_grown) hb8
          go_wp2_with fail
          go_roundg (gk - 1)
          case measure => exact (red_next HI'.out hr HME.out HRES.out).2.2.2
          case rel =>
            obtain ⟨n1, n2, n3, n4⟩ := red_next HI'.out hr HME.out HRES.out
            have K : ∀ {b : Nat} {o : Obj}, wr.heap[b]? = some o → w7.heap[b]? = some o := fun h => by
              have hl := lt_of_blk h
              have := hb6.size
              exact heap_below (by exact heap_alloc (heap_below h hb6)) hb7
            exact ⟨_, redW_put2 (K HF.out) (K HM.out) (K H2.out) (K H3.out) hb8 hB8 (by omega) rfl rfl ⟨n1, n2, n3, by omega⟩ ST.out⟩
        · skip
          have hin2 : x < y := by omega
          clear hin
          go_wp2_with fail
          refine (l01Floor_any _ _ _ (by omega) (by omega) (by omega) (by omega)).mono ?_; rintro e w' ⟨rfl, rfl⟩
          have hB6 : Below w.heap.size w w6 := bfin (by go_grown) hb6
          go_wp2_with fail
          refine (l05Apply_any _ _ _ _ _ _ _ _ hsm (by omega) (by omega) (by omega) (by omega) (by omega) (by omega) (by omega) (by omega)).mono ?_; rintro e w7 ⟨rfl, hb7⟩
          obtain ⟨hc7, hf7⟩ := bcell hb7
          obtain ⟨hz7_0, hz7_1, hz7_2, hz7_3, hz7_4⟩ : w.heap.size < w7.heap.size ∧ w.heap.size + 1 < w7.heap.size ∧ w.heap.size + 1 + 1 < w7.heap.size ∧ w.heap.size + 1 + 1 + 1 < w7.heap.size ∧ w6.heap.size < w7.heap.size := by have := hb7.size; (try simp at this); omega
          have hB7 : Below w.heap.size w w7 := bfin (by go_grown) hb7
          go_wp2_with fail
          refine (l01Times_ok _ _ _ _ _ _ _ _ _ hE ⟨⟨by omega, by omega⟩, ⟨by omega, by omega⟩, ⟨by omega, by omega⟩, ⟨by omega, by omega⟩⟩ SB.out.e1 SB.out.e2 SB.out.e3 SB.out.e4).mono ?_; rintro e w8 ⟨rfl, hb8⟩
          obtain ⟨hc8, hf8⟩ := bcell hb8
          obtain ⟨hz8_0, hz8_1, hz8_2, hz8_3, hz8_4⟩ : w.heap.size < w8.heap.size ∧ w.heap.size + 1 < w8.heap.size ∧ w.heap.size + 1 + 1 < w8.heap.size ∧ w.heap.size + 1 + 1 + 1 < w8.heap.size ∧ w6.heap.size < w8.heap.size := by have := hb8.size; (try simp at this); omega
          have hB8 : Below w.heap.size w w8 := bfin (by go_grown) hb8
          go_wp2_with fail
          go_roundg (gk - 1)
          case measure => exact (red_next HI'.out hr HME.out HRES.out).2.2.2
          case rel =>
            obtain ⟨n1, n2, n3, n4⟩ := red_next HI'.out hr HME.out HRES.out
            have K : ∀ {b : Nat} {o : Obj}, wr.heap[b]? = some o → w7.heap[b]? = some o := fun h => by
              have hl := lt_of_blk h
              have := hb6.size
              exact heap_below (by exact heap_alloc (heap_below h hb6)) hb7
            exact ⟨_, redW_put2 (K HF.out) (K HM.out) (K H2.out) (K H3.out) hb8 hB8 (by omega) rfl rfl ⟨n1, n2, n3, by omega⟩ ST.out⟩
    · skip
      go_wp2_with fail
      refine (l05Reduced_any _ _ _ _ hsm).mono ?_; rintro e w6 ⟨rfl, hb6⟩
      obtain ⟨hc6, hf6⟩ := bcell hb6
      obtain ⟨hz6_0, hz6_1, hz6_2, hz6_3⟩ : w.heap.size < w6.heap.size ∧ w.heap.size + 1 < w6.heap.size ∧ w.heap.size + 1 + 1 < w6.heap.size ∧ w.heap.size + 1 + 1 + 1 < w6.heap.size := by have := hb6.size; (try simp at this); omega
      go_wp2_with fail
      go_region
      have hB6 : Below w.heap.size w w6 := bfin (by go_grown) hb6
      go_wp2_with fail
      have hall := And.intro hc6 (And.intro hz6_0 (And.intro hz6_1 (And.intro hz6_2 (And.intro hz6_3 (And.intro f0 (And.intro f1 (And.intro f2 (And.intro fz (And.intro m0 (And.intro m1 (And.intro m2 (And.intro m3 (And.intro mz (And.intro t20 (And.intro t21 (And.intro t22 (And.intro tz2 (And.intro t30 (And.intro t31 (And.intro t32 (And.intro t33 (And.intro tz3 (And.intro tf20 (And.intro tf21 (And.intro tf22 (And.intro tf30 (And.intro tf31 (And.intro tf32 (tf33)))))))))))))))))))))))))))))
      refine bodyPost_ret (v := .tuple #[(.agg #[.int .i64 x, .int .i64 y, .int .i64 z]), (.agg #[.int .i64 p, .int .i64 q, .int .i64 r, .int .i64 s])]) (by first | (simp [results, Try.results63, go_sem]; done) | (simp [results, Try.results63, go_sem, hall] <;> rfl)) rfl ⟨by rw [← HRES.out, reduceN_done hr], by go_grown⟩
end Go.Proofs.Ytcaiofhdcffogaa
