/- Contracts: a definite form is reduced. -/
import Derived.Test.YtcaiofhdcffogaaCc
import Derived.Test.YtcaiofhdcffogaaC18
import Derived.Test.YtcaiofhdcffogaaBox
import Derived.Deep.LoopGhost
namespace Go.Proofs.Ytcaiofhdcffogaa
open Go.RowKit
/-- A head of the loop. -/
structure RedW (a b c : Int) (w wr : World) (bM : Nat) (k : Nat) (t : RS) : Prop where
  inv : DefInv a b c t
  me : meas t.f ≤ k
  res : reduceN k t = reduceOf a b c
  f : Blk3 wr w.heap.size 34 t.f.x t.f.y t.f.z
  m : Blk4 wr bM 42 t.m.p t.m.q t.m.r t.m.s
  o2 : Blk3 wr (w.heap.size + 1) 34 0 0 0
  o3 : Blk4 wr (w.heap.size + 1 + 1) 42 0 0 0 0
  lt : w.heap.size + 1 + 1 < bM
  below : Below w.heap.size w wr
theorem red_next {a b c : Int} {t : RS} {k : Nat} (hI : DefInv a b c t) (hr : redB t.f.x t.f.y t.f.z = false) (hm : meas t.f ≤ k) (hres : reduceN k t = reduceOf a b c) :
    DefInv a b c (stepR t) ∧ meas (stepR t).f ≤ ((k - 1 : Nat) : Int) ∧ reduceN (k - 1) (stepR t) = reduceOf a b c ∧ k - 1 < k := by
  have h1 := meas_step hI hr
  have h2 := meas_pos (inv_step hI)
  obtain ⟨j, rfl⟩ : ∃ j, k = j + 1 := ⟨k - 1, by omega⟩
  refine ⟨inv_step hI, by omega, ?_, by omega⟩
  rw [← hres, reduceN_step hr]
  rfl
/-- The stores that end a round. -/
theorem redW_put {a b c : Int} {w w7 : World} {bM k : Nat} {t : RS} {tF tM : TypeId} {x y z p q r s X Y Z P Q R S : Int}
    (hF : Blk3 w7 w.heap.size tF x y z) (hM : Blk4 w7 bM tM p q r s) (h2 : Blk3 w7 (w.heap.size + 1) 34 0 0 0) (h3 : Blk4 w7 (w.heap.size + 1 + 1) 42 0 0 0 0)
    (hB : Below w.heap.size w w7) (hlt : w.heap.size + 1 + 1 < bM) (eF : tF = 34) (eM : tM = 42)
    (hI : DefInv a b c t ∧ meas t.f ≤ k ∧ reduceN k t = reduceOf a b c ∧ k < k + 1) (ht : t = ⟨⟨X, Y, Z⟩, ⟨P, Q, R, S⟩⟩) :
    RedW a b c w (((((((w7.setCell ⟨w.heap.size, 0, none⟩ (.int .i64 X)).setCell ⟨w.heap.size, 1, none⟩ (.int .i64 Y)).setCell ⟨w.heap.size, 2, none⟩ (.int .i64 Z)).setCell ⟨bM, 0, none⟩ (.int .i64 P)).setCell ⟨bM, 1, none⟩ (.int .i64 Q)).setCell ⟨bM, 2, none⟩ (.int .i64 R)).setCell ⟨bM, 3, none⟩ (.int .i64 S)) bM k t := by
  subst eF eM ht
  have n1 : bM ≠ w.heap.size := by omega
  refine ⟨hI.1, hI.2.1, hI.2.2.1, ?_, ?_, ?_, ?_, hlt, by go_grown⟩
  · exact heap_keep (heap_keep (heap_keep (heap_keep (heap_set3 hF) n1.symm) n1.symm) n1.symm) n1.symm
  · exact heap_set4 (heap_keep (heap_keep (heap_keep hM n1) n1) n1)
  · exact heap_keep (heap_keep (heap_keep (heap_keep (heap_keep (heap_keep (heap_keep h2 (by omega)) (by omega)) (by omega)) (by omega)) (by omega)) (by omega)) (by omega)
  · exact heap_keep (heap_keep (heap_keep (heap_keep (heap_keep (heap_keep (heap_keep h3 (by omega)) (by omega)) (by omega)) (by omega)) (by omega)) (by omega)) (by omega)
theorem stepR_in {x y z p q r s : Int} (h : inB y (-x + 1) x = true) : stepR ⟨⟨x, y, z⟩, ⟨p, q, r, s⟩⟩ = ⟨⟨formAt x y z 0 1, formMid x y z 0 (-1) 1 0, formAt x y z (-1) 0⟩, ⟨q, -p, s, -r⟩⟩ := by
  unfold stepR stepM
  rw [if_pos h]
  simp only [madeForm, mulM, RS.mk.injEq, M4.mk.injEq]
  refine ⟨trivial, by omega, by omega, by omega, by omega⟩
theorem stepR_out {x y z p q r s : Int} (h : inB y (-x + 1) x = false) : stepR ⟨⟨x, y, z⟩, ⟨p, q, r, s⟩⟩ = ⟨⟨formAt x y z 1 0, formMid x y z 1 ((-x - y) / (2 * x) + 1) 0 1, formAt x y z ((-x - y) / (2 * x) + 1) 1⟩, ⟨p, p * ((-x - y) / (2 * x) + 1) + q, r, r * ((-x - y) / (2 * x) + 1) + s⟩⟩ := by
  unfold stepR stepM
  rw [if_neg (by rw [h]; simp)]
  simp only [madeForm, mulM, RS.mk.injEq, M4.mk.injEq]
  refine ⟨trivial, by omega, by omega, by omega, by omega⟩
set_option maxRecDepth 100000 in
set_option maxHeartbeats 4000000 in
theorem reduce_any (a b c : Int) (w : World) (hs : Small a b c) (hd : disc a b c < 0) (ha : 0 < a) :
    Calls Try.prog 47 #[(.agg #[.int .i64 a, .int .i64 b, .int .i64 c])] w fun e w' => e = .returned (.tuple #[(.agg #[.int .i64 ((reduceOf a b c).f.x), .int .i64 ((reduceOf a b c).f.y), .int .i64 ((reduceOf a b c).f.z)]), (.agg #[.int .i64 ((reduceOf a b c).m.p), .int .i64 ((reduceOf a b c).m.q), .int .i64 ((reduceOf a b c).m.r), .int .i64 ((reduceOf a b c).m.s)])]) ∧ Below w.heap.size w w' := by
  have hi0 := inv_start hs hd ha
  have HI := Lib.hid hi0
  clear hi0
  go_enter Try.func47, Try.ntmps47
  go_wp2_with fail
  refine (identity_any _).mono ?_; rintro e w1 ⟨rfl, hb1⟩
  obtain ⟨hc1, hf1⟩ := bcell hb1
  obtain ⟨hz0, hz1, hz2⟩ : w.heap.size < w1.heap.size ∧ w.heap.size + 1 < w1.heap.size ∧ w.heap.size + 1 + 1 < w1.heap.size := by have := hb1.size; (try simp at this); omega
  have hB1 : Below w.heap.size w w1 := bfin (by go_grown) hb1
  have HB1 := Lib.hid hb1
  go_wp2_with fail
  go_outline
  go_loopg [] (meas ⟨a, b, c⟩).toNat (fun k wr => ∃ t : RS, RedW a b c w wr w1.heap.size k t)
  case atStart =>
    refine ⟨⟨⟨a, b, c⟩, ⟨1, 0, 0, 1⟩⟩, HI.out, by simp only; omega, rfl, ?_, ?_, ?_, ?_, hz2, by go_grown⟩
    · exact heap_alloc (heap_below (by exact heap_alloc (heap_alloc heap_new)) HB1.out)
    · exact heap_new
    · exact heap_alloc (heap_below (by exact heap_alloc (heap_new' (by simp only [World.size_alloc]))) HB1.out)
    · exact heap_alloc (heap_below (by exact heap_new' (by simp only [World.size_alloc])) HB1.out)
  case round =>
    obtain ⟨⟨⟨x, y, z⟩, ⟨p, q, r, s⟩⟩, hI, hme, hres, hF, hM, h2, h3, hlt, hB⟩ := hrel
    have hsm : Small x y z := hI.sm
    have x0 : 0 < x := hI.x0
    have HI' := Lib.hid hI
    have HME := Lib.hid hme
    have HRES := Lib.hid hres
    have H2 := Lib.hid h2
    have H3 := Lib.hid h3
    have HF := Lib.hid hF
    have HM := Lib.hid hM
    have HB := Lib.hid hB
    obtain ⟨⟨f0, f1, f2⟩, ⟨ff0, ff1, ff2⟩, fz⟩ := hF.open_
    obtain ⟨⟨m0, m1, m2, m3⟩, ⟨mf0, mf1, mf2, mf3⟩, mz⟩ := hM.open_
    clear hI hme hres h2 h3 hF hM
    obtain ⟨⟨t20, t21, t22⟩, ⟨tf20, tf21, tf22⟩, tz2⟩ := H2.out.open_
    obtain ⟨⟨t30, t31, t32, t33⟩, ⟨tf30, tf31, tf32, tf33⟩, tz3⟩ := H3.out.open_
    obtain ⟨⟨pb0, pb1⟩, ⟨qb0, qb1⟩, ⟨rb0, rb1⟩, ⟨sb0, sb1⟩⟩ := inv_bd HI'.out hs ha
    simp only at pb0 pb1 qb0 qb1 rb0 rb1 sb0 sb1
    have hE : E24 p q r s := ⟨⟨by omega, by omega⟩, ⟨by omega, by omega⟩, ⟨by omega, by omega⟩, ⟨by omega, by omega⟩⟩
    obtain ⟨a0, a1, b0, b1, c0, c1⟩ := id hsm
    cases hr : redB x y z
    · skip
      go_wp2_with fail
      refine (isReduced_any _ _ _ _ hsm).mono ?_; rintro e w6 ⟨rfl, hb6⟩
      obtain ⟨hc6, hf6⟩ := bcell hb6
      obtain ⟨hz6_0, hz6_1, hz6_2, hz6_3⟩ : w.heap.size < w6.heap.size ∧ w.heap.size + 1 < w6.heap.size ∧ w.heap.size + 1 + 1 < w6.heap.size ∧ w1.heap.size < w6.heap.size := by have := hb6.size; (try simp at this); omega
      go_wp2_with fail
      go_quiet (fail)
      cases hin : inB y (-x + 1) x
      · skip
        have kb := stepK_bd (f := ⟨x, y, z⟩) x0 hsm
        have ke : stepK ⟨x, y, z⟩ = (-x - y) / (2 * x) + 1 := rfl
        rw [ke] at kb
        obtain ⟨kb0, kb1⟩ := kb
        clear ke
        go_wp2_with fail
        refine (within_any _ _ _ _).mono ?_; rintro e w' ⟨rfl, rfl⟩
        go_wp2_with fail
        refine (floor_any _ _ _ (by omega) (by omega) (by omega) (by omega)).mono ?_; rintro e w' ⟨rfl, rfl⟩
        go_wp2_with fail
        have hB6 : Below w.heap.size w w6 := bfin (by go_grown) hb6
        refine wp_region_ext_tail 6 (by kernel_rfl) (by kernel_rfl) ?_
        simp only [List.take_succ_cons, List.take_zero, List.drop_succ_cons, List.drop_zero]
        repeat (go_big_quiet_step (first | ((go_at_call 78; refine Calls.ext_of (Nat.le_refl _) (apply_any _ _ _ _ _ _ _ _ hsm (by omega) (by omega) (by omega) (by omega) (by omega) (by omega) (by omega) (by omega)))) | ((go_at_call 81; refine Calls.ext_of (Nat.le_refl _) (times_any _ _ _ _ _ _ _ _ _ hE ⟨⟨by omega, by omega⟩, ⟨by omega, by omega⟩, ⟨by omega, by omega⟩, ⟨by omega, by omega⟩⟩)))))
        refine wpQuiet_nil ?_
        intro w7 hb7
        obtain ⟨hc7, hf7⟩ := bcell hb7
        go_wp2_with fail
        go_roundg (gk - 1)
        case measure => exact (red_next HI'.out hr HME.out HRES.out).2.2.2
        case rel =>
          obtain ⟨n1, n2, n3, n4⟩ := red_next HI'.out hr HME.out HRES.out
          have K : ∀ {b : Nat} {o : Obj}, wr.heap[b]? = some o → w7.heap[b]? = some o := fun h => by
            have hl := lt_of_blk h
            have := hb6.size
            exact heap_below (by exact heap_keep (heap_keep (heap_keep (heap_keep (heap_drewN (heap_alloc (heap_below h hb6))) (by omega)) (by omega)) (by omega)) (by omega)) hb7
          exact ⟨_, redW_put (K HF.out) (K HM.out) (K H2.out) (K H3.out) (bfin (by go_grown; exact below_drewN (by go_grown) _) hb7) hz2 rfl rfl ⟨n1, n2, n3, by omega⟩ (stepR_out hin)⟩
      · skip
        go_wp2_with fail
        refine (within_any _ _ _ _).mono ?_; rintro e w' ⟨rfl, rfl⟩
        go_wp2_with fail
        have hB6 : Below w.heap.size w w6 := bfin (by go_grown) hb6
        refine wp_region_ext_tail 6 (by kernel_rfl) (by kernel_rfl) ?_
        simp only [List.take_succ_cons, List.take_zero, List.drop_succ_cons, List.drop_zero]
        repeat (go_big_quiet_step (first | ((go_at_call 78; refine Calls.ext_of (Nat.le_refl _) (apply_any _ _ _ _ _ _ _ _ hsm (by omega) (by omega) (by omega) (by omega) (by omega) (by omega) (by omega) (by omega)))) | ((go_at_call 81; refine Calls.ext_of (Nat.le_refl _) (times_any _ _ _ _ _ _ _ _ _ hE ⟨⟨by omega, by omega⟩, ⟨by omega, by omega⟩, ⟨by omega, by omega⟩, ⟨by omega, by omega⟩⟩)))))
        refine wpQuiet_nil ?_
        intro w7 hb7
        obtain ⟨hc7, hf7⟩ := bcell hb7
        go_wp2_with fail
        go_roundg (gk - 1)
        case measure => exact (red_next HI'.out hr HME.out HRES.out).2.2.2
        case rel =>
          obtain ⟨n1, n2, n3, n4⟩ := red_next HI'.out hr HME.out HRES.out
          have K : ∀ {b : Nat} {o : Obj}, wr.heap[b]? = some o → w7.heap[b]? = some o := fun h => heap_below (by exact heap_drewN (heap_alloc (heap_below h hb6))) hb7
          exact ⟨_, redW_put (K HF.out) (K HM.out) (K H2.out) (K H3.out) (bfin (by go_grown; exact below_drewN (by go_grown) _) hb7) hz2 rfl rfl ⟨n1, n2, n3, by omega⟩ (stepR_in hin)⟩
    · skip
      go_wp2_with fail
      refine (isReduced_any _ _ _ _ hsm).mono ?_; rintro e w6 ⟨rfl, hb6⟩
      obtain ⟨hc6, hf6⟩ := bcell hb6
      obtain ⟨hz6_0, hz6_1, hz6_2, hz6_3⟩ : w.heap.size < w6.heap.size ∧ w.heap.size + 1 < w6.heap.size ∧ w.heap.size + 1 + 1 < w6.heap.size ∧ w1.heap.size < w6.heap.size := by have := hb6.size; (try simp at this); omega
      go_wp2_with fail
      go_region
      have hB6 : Below w.heap.size w w6 := bfin (by go_grown) hb6
      go_wp2_with fail
      have hall := And.intro hc6 (And.intro hz6_0 (And.intro hz6_1 (And.intro hz6_2 (And.intro hz6_3 (And.intro f0 (And.intro f1 (And.intro f2 (And.intro fz (And.intro m0 (And.intro m1 (And.intro m2 (And.intro m3 (And.intro mz (And.intro t20 (And.intro t21 (And.intro t22 (And.intro tz2 (And.intro t30 (And.intro t31 (And.intro t32 (And.intro t33 (And.intro tz3 (And.intro tf20 (And.intro tf21 (And.intro tf22 (And.intro tf30 (And.intro tf31 (And.intro tf32 (tf33)))))))))))))))))))))))))))))
      refine bodyPost_ret (v := .tuple #[(.agg #[.int .i64 x, .int .i64 y, .int .i64 z]), (.agg #[.int .i64 p, .int .i64 q, .int .i64 r, .int .i64 s])]) (by first | (simp [results, Try.results47, go_sem]; done) | (simp [results, Try.results47, go_sem, hall] <;> rfl)) rfl ⟨by rw [← HRES.out, reduceN_done hr], by go_grown⟩
end Go.Proofs.Ytcaiofhdcffogaa
