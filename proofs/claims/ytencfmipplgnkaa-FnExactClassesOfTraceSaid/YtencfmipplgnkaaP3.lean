/- Contracts: the runs of a positive matrix, by the model. -/
import Derived.Test.YtencfmipplgnkaaP2
namespace Go.Proofs.Ytencfmipplgnkaa
open Go.RowKit
theorem ev_mod {n : Nat} {b : Bool} (h : evB n = b) : (n : Int) % 2 = if b then 0 else 1 := by
  subst h
  unfold evB
  rcases Nat.mod_two_eq_zero_or_one n with h | h
  · rw [h]; simp; omega
  · rw [h]; simp; omega
attribute [local go_sem] eqMat
set_option maxRecDepth 100000 in
set_option maxHeartbeats 2000000 in
theorem l02Runs_any (l : List Bool) (w : World) (hl : l.length ≤ 100000) (hlow : Low (wM l)) :
    Calls Try.prog 119 #[(.agg #[.int .i64 ((wM l).a), .int .i64 ((wM l).b), .int .i64 ((wM l).c), .int .i64 ((wM l).d)])] w fun e w' => ∃ (D : List Int) (v : Value), e = .returned v ∧ RunAt l D [] ∧ w'.ownsRow w.heap.size 2 1 v D.length (ints D) ∧ Below w.heap.size w w' := by
  have HS := Lib.hid (RunAt.start l)
  have HL0 := Lib.hid hlow
  clear hlow
  go_enter Try.func119, Try.ntmps119
  go_wp2_with fail
  have B0 := Lib.hid (show Blk4 ((w.alloc (Obj.cells #[(.int .i64 ((wM l).a)), (.int .i64 ((wM l).b)), (.int .i64 ((wM l).c)), (.int .i64 ((wM l).d))] 40)).alloc (Obj.cells #[] 2)) w.heap.size 40 (wM l).a (wM l).b (wM l).c (wM l).d from heap_alloc heap_new)
  have O0 := Lib.hid (show ((w.alloc (Obj.cells #[(.int .i64 ((wM l).a)), (.int .i64 ((wM l).b)), (.int .i64 ((wM l).c)), (.int .i64 ((wM l).d))] 40)).alloc (Obj.cells #[] 2)).ownsRow (w.heap.size + 1) 2 1 (.slice (some ⟨w.heap.size + 1, 0, none⟩) 0 0) 0 (ints []) from by
    have := World.ownsRow_lit (w.alloc (Obj.cells #[(.int .i64 ((wM l).a)), (.int .i64 ((wM l).b)), (.int .i64 ((wM l).c)), (.int .i64 ((wM l).d))] 40)) (base := w.heap.size + 1) (e := 2) (size := 1) #[] 0 (by simp) (by simp [maxLen]) rfl
    simpa [ints] using this)
  have T0 := Lib.hid (show Below w.heap.size w ((w.alloc (Obj.cells #[(.int .i64 ((wM l).a)), (.int .i64 ((wM l).b)), (.int .i64 ((wM l).c)), (.int .i64 ((wM l).d))] 40)).alloc (Obj.cells #[] 2)) by go_grown)
  have hz0 : w.heap.size + 2 ≤ ((w.alloc (Obj.cells #[(.int .i64 ((wM l).a)), (.int .i64 ((wM l).b)), (.int .i64 ((wM l).c)), (.int .i64 ((wM l).d))] 40)).alloc (Obj.cells #[] 2)).heap.size := by simp
  generalize (w.alloc (Obj.cells #[(.int .i64 ((wM l).a)), (.int .i64 ((wM l).b)), (.int .i64 ((wM l).c)), (.int .i64 ((wM l).d))] 40)).alloc (Obj.cells #[] 2) = W at *
  go_loopw [3, 4] (fun u i wr => ∃ (D : List Int) (v : List Bool), i = (.int .i64 ((D.length : Int))) ∧ Hid (RunAt l D v) ∧ Hid (Low (wM v)) ∧ Hid (Blk4 wr w.heap.size 40 (wM v).a (wM v).b (wM v).c (wM v).d) ∧ Hid (wr.ownsRow (w.heap.size + 1) 2 1 u D.length (ints D)) ∧ Hid (Below w.heap.size w wr) ∧ w.heap.size + 2 ≤ wr.heap.size) (fun u _ _ => l.length + 2 - lenV u)
  case atStart => exact ⟨[], l, rfl, HS, HL0, B0, O0, T0, hz0⟩
  case round =>
    clear B0 O0 T0 hz0 HS HL0
    obtain ⟨D, v, rfl, HR, HL, B, O, T, hz⟩ := hrel
    have hm := own_lenV O.out
    have hD := expR_len_le HR.out
    obtain ⟨A, cap, rfl, -, -, -⟩ := own_view O.out
    obtain ⟨⟨c0, c1, c2, c3⟩, ⟨f0, f1, f2, f3⟩, hl4⟩ := B.out.open_
    by_cases hv : v = []
    · subst hv
      have hE : ((wM []).a == 1 && ((wM []).b == 0 && ((wM []).c == 0 && (wM []).d == 1))) = true := rfl
      generalize (wM []).a = x at *
      generalize (wM []).b = y at *
      generalize (wM []).c = z at *
      generalize (wM []).d = s at *
      go_wp2_with fail
      refine wp_region_ext (by kernel_rfl) (by kernel_rfl) ?_
      repeat (go_big_quiet_step (first | ((go_at_call 145; with_reducible refine Calls.ext_of (Nat.le_refl _) (l02Unit_any _)))))
      refine wpQuiet_nil ?_
      intro w6 hb6
      obtain ⟨hc6, hf6⟩ := bcell hb6
      go_wp2_with fail
      go_ret
      exact ⟨D, _, rfl, HR.out, own_base (own_below O.out hb6) (by omega), bfin T.out hb6⟩
    · have hE := wM_unit hv
      cases he : evB D.length
      · obtain ⟨n, q', HR2, HST⟩ := HR.out.stepL hv HL.out he
        have HT := ev_mod he
        have hpos := wM_pos v
        obtain ⟨l1, l2, l3, l4⟩ := HL.out
        obtain ⟨p1, p2, p3, p4, -⟩ := hpos
        have HR3 := Lib.hid HR2
        have HL3 := Lib.hid HST.low
        have HOf := Lib.hid HST.oft
        obtain ⟨e1, e2, e3, e4⟩ := (⟨HST.e1, HST.e2, HST.e3, HST.e4⟩ : (wM v).c - n * (wM v).a = (wM q').c ∧ (wM v).d - n * (wM v).b = (wM q').d ∧ (wM v).a = (wM q').a ∧ (wM v).b = (wM q').b)
        obtain ⟨q1, q2, q3, q4⟩ := (⟨HST.low.c, HST.low.d, (wM_pos q').c, (wM_pos q').d⟩ : (wM q').c ≤ 1000 ∧ (wM q').d ≤ 1000 ∧ 0 ≤ (wM q').c ∧ 1 ≤ (wM q').d)
        obtain ⟨n0, n1, a0, a1, d0, d1⟩ := (⟨HST.n0, HST.n1, HST.c0, HST.c1, HST.d0, HST.d1⟩ : 0 ≤ (n : Int) ∧ (n : Int) ≤ 1000 ∧ 0 ≤ (n : Int) * (wM v).a ∧ (n : Int) * (wM v).a ≤ 1000 ∧ 0 ≤ (n : Int) * (wM v).b ∧ (n : Int) * (wM v).b ≤ 1000)
        clear HST HR2 he hv HR
        have HK := Lib.hid (⟨e3.symm, e4.symm⟩ : (wM q').a = (wM v).a ∧ (wM q').b = (wM v).b)
        clear e3 e4
        generalize hX : (wM q').c = x' at e1 q1 q3
        generalize hY : (wM q').d = y' at e2 q2 q4
        have HX := Lib.hid hX
        have HY := Lib.hid hY
        clear hX hY
        generalize (wM v).a = x at *
        generalize (wM v).b = y at *
        generalize (wM v).c = z at *
        generalize (wM v).d = s at *
        generalize hZ : (n : Int) * x = Z at *
        generalize hU : (n : Int) * y = U at *
        have HZ := Lib.hid hZ
        have HU := Lib.hid hU
        clear hZ hU
        have hn2 : x ≠ 0 → 0 ≤ z.tdiv x ∧ z.tdiv x ≤ z := fun h => tdiv_le (by omega) (by omega)
        have hn3 : y ≠ 0 → 0 ≤ s.tdiv y ∧ s.tdiv y ≤ s := fun h => tdiv_le (by omega) (by omega)
        have HN2 := Lib.hid hn2
        have HN3 := Lib.hid hn3
        clear hn2 hn3
        go_wp2_with fail
        refine wp_region_ext (by kernel_rfl) (by kernel_rfl) ?_
        repeat (go_big_quiet_step (first | ((go_at_call 145; with_reducible refine Calls.ext_of (Nat.le_refl _) (l02Unit_any _)))))
        refine wpQuiet_nil ?_
        intro w6 hb6
        obtain ⟨hc6, hf6⟩ := bcell hb6
        have B6 := Lib.hid (show Blk4 w6 w.heap.size 40 x y z s from heap_below B.out hb6)
        have O6 := Lib.hid (own_below O.out hb6)
        have T6 := Lib.hid (bfin T.out hb6)
        have hz6 : w.heap.size + 2 ≤ w6.heap.size := by have := hb6.size; omega
        clear B O T hb6 hc6 hf6 hE c0 c1 c2 c3 f0 f1 f2 f3 hl4
        go_wp2_with fail
        go_loopw [5, 8, 9] (fun ku iu _ wk => ∃ (j : Nat) (kk : Int), iu = (.int .i64 ((j : Int))) ∧ ku = (.int .i64 kk) ∧ j ≤ 2 ∧ (j = 0 → kk = 0) ∧ (j = 1 → kk = if 0 < x then z.tdiv x else 0) ∧ (j = 2 → kk = n) ∧ Hid (Below w6.heap.size w6 wk)) (fun _ iu _ _ => 3 - (intOf iu).toNat)
        case atStart => exact ⟨0, 0, rfl, rfl, by omega, fun _ => rfl, fun h => by omega, fun h => by omega, Lib.hid (Below.refl _ _)⟩
        case round =>
          obtain ⟨j, kk, rfl, rfl, hj, hk0, hk1, hk2, HB⟩ := hrel
          have B7 := Lib.hid (show Blk4 wr w.heap.size 40 x y z s from heap_below B6.out HB.out)
          obtain ⟨⟨c0, c1, c2, c3⟩, ⟨f0, f1, f2, f3⟩, hl4⟩ := B7.out.open_
          rcases (show j = 0 ∨ j = 1 ∨ j = 2 by omega) with rfl | rfl | rfl
          · have hkk := hk0 rfl
            subst hkk
            clear hk0 hk1 hk2
            by_cases hp : 0 < x
            · have hne : x ≠ 0 := by omega
              obtain ⟨r0, r1⟩ := HN2.out hne
              go_wp2_with fail
              refine wp_region_ext (by kernel_rfl) (by kernel_rfl) ?_
              repeat (go_big_quiet_step (fail))
              refine wpQuiet_nil ?_
              intro w9 hb9
              obtain ⟨hc9, hf9⟩ := bcell hb9
              go_wp2_with fail
              go_roundw
              case rel => first | exact ⟨1, z.tdiv x, by go_num, rfl, by omega, fun h => by omega, fun _ => by rw [if_pos hp], fun h => by omega, Lib.hid (HB.out.trans (hb9.mono HB.out.size))⟩ | exact ⟨1, rfl, by omega, fun h => by omega, fun _ => by rw [if_pos hp], fun h => by omega, Lib.hid (HB.out.trans (hb9.mono HB.out.size))⟩
              case measure => simp [intOf]
            · go_wp2_with fail
              go_roundw
              case rel => first | exact ⟨1, 0, by go_num, rfl, by omega, fun h => by omega, fun _ => by rw [if_neg hp], fun h => by omega, HB⟩ | exact ⟨1, rfl, by omega, fun h => by omega, fun _ => by rw [if_neg hp], fun h => by omega, HB⟩
              case measure => simp [intOf]
          · have hkk := hk1 rfl
            clear hk0 hk1 hk2
            have hoft := HOf.out
            by_cases hp : 0 < y
            · have hne : y ≠ 0 := by omega
              obtain ⟨r0, r1⟩ := HN3.out hne
              by_cases hp1 : 0 < x
              · rw [if_pos hp1] at hkk
                have hb1 : (x == 0) = false := by simp; omega
                have hmin : min (z.tdiv x) (s.tdiv y) = n := by
                  rcases hoft with h | h | h
                  · omega
                  · omega
                  · exact h.2.2
                clear hoft
                by_cases hlt : s.tdiv y < kk
                · have hE2 : s.tdiv y = n := by rw [← hmin, ← hkk]; omega
                  have HE2 := Lib.hid hE2
                  clear hmin hkk hE2
                  go_wp2_with fail
                  refine wp_region_ext (by kernel_rfl) (by kernel_rfl) ?_
                  repeat (go_big_quiet_step (fail))
                  refine wpQuiet_nil ?_
                  intro w9 hb9
                  obtain ⟨hc9, hf9⟩ := bcell hb9
                  go_wp2_with fail
                  go_roundw
                  case rel => first | exact ⟨2, s.tdiv y, by go_num, rfl, by omega, fun h => by omega, fun h => by omega, fun _ => HE2.out, Lib.hid (HB.out.trans (hb9.mono HB.out.size))⟩ | exact ⟨2, rfl, by omega, fun h => by omega, fun h => by omega, fun _ => HE2.out, Lib.hid (HB.out.trans (hb9.mono HB.out.size))⟩
                  case measure => simp [intOf]
                · have hE2 : kk = n := by rw [← hmin, ← hkk]; omega
                  have HE2 := Lib.hid hE2
                  clear hmin hkk hE2
                  go_wp2_with fail
                  refine wp_region_ext (by kernel_rfl) (by kernel_rfl) ?_
                  repeat (go_big_quiet_step (fail))
                  refine wpQuiet_nil ?_
                  intro w9 hb9
                  obtain ⟨hc9, hf9⟩ := bcell hb9
                  go_wp2_with fail
                  go_roundw
                  case rel => first | exact ⟨2, kk, by go_num, rfl, by omega, fun h => by omega, fun h => by omega, fun _ => HE2.out, Lib.hid (HB.out.trans (hb9.mono HB.out.size))⟩ | exact ⟨2, rfl, by omega, fun h => by omega, fun h => by omega, fun _ => HE2.out, Lib.hid (HB.out.trans (hb9.mono HB.out.size))⟩
                  case measure => simp [intOf]
              · exact absurd p1 (by omega)
            · have hE2 : kk = n := by
                rcases hoft with h | h | h
                · omega
                · rw [if_pos h.1] at hkk; rw [hkk]; exact h.2.2
                · omega
              have HE2 := Lib.hid hE2
              clear hoft hE2 hkk
              go_wp2_with fail
              go_roundw
              case rel => first | exact ⟨2, kk, by go_num, rfl, by omega, fun h => by omega, fun h => by omega, fun _ => HE2.out, HB⟩ | exact ⟨2, rfl, by omega, fun h => by omega, fun h => by omega, fun _ => HE2.out, HB⟩
              case measure => simp [intOf]
          · have hkk := hk2 rfl
            subst hkk
            clear hk0 hk1 hk2 HN2 HN3 HOf
            have O7 := Lib.hid (own_below O6.out HB.out)
            have T7 := Lib.hid (bfin T6.out HB.out)
            have hz7 : w.heap.size + 2 ≤ wr.heap.size := by have := HB.out.size; omega
            have hZ := HZ.out
            have hU := HU.out
            clear B6 O6 T6 HB
            go_wp2_with fail
            go_region
            go_wp2_with fail
            go_region
            have hne : ∀ k, (Value.slice A D.length cap).ownBlock = some k → k ≠ w.heap.size := fun k hk => by have := own_ge O7.out hk; omega
            have B8 := Lib.hid (show Blk4 ((wr.setCell ⟨w.heap.size, 2, none⟩ (.int .i64 x')).setCell ⟨w.heap.size, 3, none⟩ (.int .i64 y')).drew.drew w.heap.size 40 x y x' y' by
              have h : Blk4 ((wr.setCell ⟨w.heap.size, 2, none⟩ (.int .i64 x')).setCell ⟨w.heap.size, 3, none⟩ (.int .i64 y')) w.heap.size 40 x y x' y' := by simpa [Blk4] using heap_set_same (o := 3) (v := (.int .i64 y')) (heap_set_same (o := 2) (v := (.int .i64 x')) B7.out)
              exact h)
            have O8 := Lib.hid (show World.ownsRow ((wr.setCell ⟨w.heap.size, 2, none⟩ (.int .i64 x')).setCell ⟨w.heap.size, 3, none⟩ (.int .i64 y')).drew.drew (w.heap.size + 1) 2 1 (.slice A D.length cap) D.length (ints D) from own_below (own_store (o := 3) (u := (.int .i64 y')) (own_store (o := 2) (u := (.int .i64 x')) O7.out hne) hne) (by go_grown))
            have T8 := Lib.hid (show Below w.heap.size w ((wr.setCell ⟨w.heap.size, 2, none⟩ (.int .i64 x')).setCell ⟨w.heap.size, 3, none⟩ (.int .i64 y')).drew.drew by have := T7.out; go_grown)
            have hz8 : w.heap.size + 1 ≤ ((wr.setCell ⟨w.heap.size, 2, none⟩ (.int .i64 x')).setCell ⟨w.heap.size, 3, none⟩ (.int .i64 y')).drew.drew.heap.size := by simp [World.setCell]; omega
            have hz9 : w.heap.size + 2 ≤ ((wr.setCell ⟨w.heap.size, 2, none⟩ (.int .i64 x')).setCell ⟨w.heap.size, 3, none⟩ (.int .i64 y')).drew.drew.heap.size := by simp [World.setCell]; omega
            have hne8 := Lib.hid hne
            clear O7 T7 hne
            clear c0 c1 c2 c3 f0 f1 f2 f3 hl4 B7
            generalize ((wr.setCell ⟨w.heap.size, 2, none⟩ (.int .i64 x')).setCell ⟨w.heap.size, 3, none⟩ (.int .i64 y')).drew.drew = W8 at *
            go_wp2_with (at_builtin; refine app_one elI2 rfl _ _ rfl rfl rfl (by simp) (O8.out) ((Below.refl _ _)) rfl (by intro u hu; simp at hu; first | (subst hu; rfl) | (rcases hu with rfl | rfl <;> rfl) | (rcases hu with rfl | rfl | rfl <;> rfl) | (rcases hu with rfl | rfl | rfl | rfl <;> rfl)) (hz8) (by omega) ?_; intro v' w9 hown9 hb9 hg9; have HO9 := Lib.hid hown9; clear hown9)
            go_roundw
            case rel =>
              have hB9 : Blk4 w9 w.heap.size 40 (wM q').a (wM q').b (wM q').c (wM q').d := by
                rw [HX.out, HY.out, HK.out.1, HK.out.2]
                exact heap_app B8.out hg9 hne8.out
              refine ⟨D ++ [(n : Int)], q', by simp, HR3, HL3, Lib.hid hB9, Lib.hid (by simpa [ints] using HO9.out), Lib.hid (T8.out.grown hg9.grown T8.out.size (fun k hk => by have := own_ge O8.out hk; omega)), ?_⟩
              have := hg9.grown.size
              omega
            case measure =>
              rw [own_lenV HO9.out, hm]; omega
      · obtain ⟨n, q', HR2, HST⟩ := HR.out.stepT hv HL.out he
        have HT := ev_mod he
        have hpos := wM_pos v
        obtain ⟨l1, l2, l3, l4⟩ := HL.out
        obtain ⟨p1, p2, p3, p4, -⟩ := hpos
        have HR3 := Lib.hid HR2
        have HL3 := Lib.hid HST.low
        have HOf := Lib.hid HST.oft
        obtain ⟨e1, e2, e3, e4⟩ := (⟨HST.e1, HST.e2, HST.e3, HST.e4⟩ : (wM v).a - n * (wM v).c = (wM q').a ∧ (wM v).b - n * (wM v).d = (wM q').b ∧ (wM v).c = (wM q').c ∧ (wM v).d = (wM q').d)
        obtain ⟨q1, q2, q3, q4⟩ := (⟨HST.low.a, HST.low.b, (wM_pos q').a, (wM_pos q').b⟩ : (wM q').a ≤ 1000 ∧ (wM q').b ≤ 1000 ∧ 1 ≤ (wM q').a ∧ 0 ≤ (wM q').b)
        obtain ⟨n0, n1, a0, a1, d0, d1⟩ := (⟨HST.n0, HST.n1, HST.c0, HST.c1, HST.d0, HST.d1⟩ : 0 ≤ (n : Int) ∧ (n : Int) ≤ 1000 ∧ 0 ≤ (n : Int) * (wM v).c ∧ (n : Int) * (wM v).c ≤ 1000 ∧ 0 ≤ (n : Int) * (wM v).d ∧ (n : Int) * (wM v).d ≤ 1000)
        clear HST HR2 he hv HR
        have HK := Lib.hid (⟨e3.symm, e4.symm⟩ : (wM q').c = (wM v).c ∧ (wM q').d = (wM v).d)
        clear e3 e4
        generalize hX : (wM q').a = x' at e1 q1 q3
        generalize hY : (wM q').b = y' at e2 q2 q4
        have HX := Lib.hid hX
        have HY := Lib.hid hY
        clear hX hY
        generalize (wM v).a = x at *
        generalize (wM v).b = y at *
        generalize (wM v).c = z at *
        generalize (wM v).d = s at *
        generalize hZ : (n : Int) * z = Z at *
        generalize hU : (n : Int) * s = U at *
        have HZ := Lib.hid hZ
        have HU := Lib.hid hU
        clear hZ hU
        have hn2 : z ≠ 0 → 0 ≤ x.tdiv z ∧ x.tdiv z ≤ x := fun h => tdiv_le (by omega) (by omega)
        have hn3 : s ≠ 0 → 0 ≤ y.tdiv s ∧ y.tdiv s ≤ y := fun h => tdiv_le (by omega) (by omega)
        have HN2 := Lib.hid hn2
        have HN3 := Lib.hid hn3
        clear hn2 hn3
        go_wp2_with fail
        refine wp_region_ext (by kernel_rfl) (by kernel_rfl) ?_
        repeat (go_big_quiet_step (first | ((go_at_call 145; with_reducible refine Calls.ext_of (Nat.le_refl _) (l02Unit_any _)))))
        refine wpQuiet_nil ?_
        intro w6 hb6
        obtain ⟨hc6, hf6⟩ := bcell hb6
        have B6 := Lib.hid (show Blk4 w6 w.heap.size 40 x y z s from heap_below B.out hb6)
        have O6 := Lib.hid (own_below O.out hb6)
        have T6 := Lib.hid (bfin T.out hb6)
        have hz6 : w.heap.size + 2 ≤ w6.heap.size := by have := hb6.size; omega
        clear B O T hb6 hc6 hf6 hE c0 c1 c2 c3 f0 f1 f2 f3 hl4
        go_wp2_with fail
        go_loopw [5, 8, 9] (fun ku iu _ wk => ∃ (j : Nat) (kk : Int), iu = (.int .i64 ((j : Int))) ∧ ku = (.int .i64 kk) ∧ j ≤ 2 ∧ (j = 0 → kk = 0) ∧ (j = 1 → kk = if 0 < z then x.tdiv z else 0) ∧ (j = 2 → kk = n) ∧ Hid (Below w6.heap.size w6 wk)) (fun _ iu _ _ => 3 - (intOf iu).toNat)
        case atStart => exact ⟨0, 0, rfl, rfl, by omega, fun _ => rfl, fun h => by omega, fun h => by omega, Lib.hid (Below.refl _ _)⟩
        case round =>
          obtain ⟨j, kk, rfl, rfl, hj, hk0, hk1, hk2, HB⟩ := hrel
          have B7 := Lib.hid (show Blk4 wr w.heap.size 40 x y z s from heap_below B6.out HB.out)
          obtain ⟨⟨c0, c1, c2, c3⟩, ⟨f0, f1, f2, f3⟩, hl4⟩ := B7.out.open_
          rcases (show j = 0 ∨ j = 1 ∨ j = 2 by omega) with rfl | rfl | rfl
          · have hkk := hk0 rfl
            subst hkk
            clear hk0 hk1 hk2
            by_cases hp : 0 < z
            · have hne : z ≠ 0 := by omega
              obtain ⟨r0, r1⟩ := HN2.out hne
              go_wp2_with fail
              refine wp_region_ext (by kernel_rfl) (by kernel_rfl) ?_
              repeat (go_big_quiet_step (fail))
              refine wpQuiet_nil ?_
              intro w9 hb9
              obtain ⟨hc9, hf9⟩ := bcell hb9
              go_wp2_with fail
              go_roundw
              case rel => first | exact ⟨1, x.tdiv z, by go_num, rfl, by omega, fun h => by omega, fun _ => by rw [if_pos hp], fun h => by omega, Lib.hid (HB.out.trans (hb9.mono HB.out.size))⟩ | exact ⟨1, rfl, by omega, fun h => by omega, fun _ => by rw [if_pos hp], fun h => by omega, Lib.hid (HB.out.trans (hb9.mono HB.out.size))⟩
              case measure => simp [intOf]
            · go_wp2_with fail
              go_roundw
              case rel => first | exact ⟨1, 0, by go_num, rfl, by omega, fun h => by omega, fun _ => by rw [if_neg hp], fun h => by omega, HB⟩ | exact ⟨1, rfl, by omega, fun h => by omega, fun _ => by rw [if_neg hp], fun h => by omega, HB⟩
              case measure => simp [intOf]
          · have hkk := hk1 rfl
            clear hk0 hk1 hk2
            have hoft := HOf.out
            by_cases hp : 0 < s
            · have hne : s ≠ 0 := by omega
              obtain ⟨r0, r1⟩ := HN3.out hne
              by_cases hp1 : 0 < z
              · rw [if_pos hp1] at hkk
                have hb1 : (z == 0) = false := by simp; omega
                have hmin : min (x.tdiv z) (y.tdiv s) = n := by
                  rcases hoft with h | h | h
                  · omega
                  · omega
                  · exact h.2.2
                clear hoft
                by_cases hlt : y.tdiv s < kk
                · have hE2 : y.tdiv s = n := by rw [← hmin, ← hkk]; omega
                  have HE2 := Lib.hid hE2
                  clear hmin hkk hE2
                  go_wp2_with fail
                  refine wp_region_ext (by kernel_rfl) (by kernel_rfl) ?_
                  repeat (go_big_quiet_step (fail))
                  refine wpQuiet_nil ?_
                  intro w9 hb9
                  obtain ⟨hc9, hf9⟩ := bcell hb9
                  go_wp2_with fail
                  go_roundw
                  case rel => first | exact ⟨2, y.tdiv s, by go_num, rfl, by omega, fun h => by omega, fun h => by omega, fun _ => HE2.out, Lib.hid (HB.out.trans (hb9.mono HB.out.size))⟩ | exact ⟨2, rfl, by omega, fun h => by omega, fun h => by omega, fun _ => HE2.out, Lib.hid (HB.out.trans (hb9.mono HB.out.size))⟩
                  case measure => simp [intOf]
                · have hE2 : kk = n := by rw [← hmin, ← hkk]; omega
                  have HE2 := Lib.hid hE2
                  clear hmin hkk hE2
                  go_wp2_with fail
                  refine wp_region_ext (by kernel_rfl) (by kernel_rfl) ?_
                  repeat (go_big_quiet_step (fail))
                  refine wpQuiet_nil ?_
                  intro w9 hb9
                  obtain ⟨hc9, hf9⟩ := bcell hb9
                  go_wp2_with fail
                  go_roundw
                  case rel => first | exact ⟨2, kk, by go_num, rfl, by omega, fun h => by omega, fun h => by omega, fun _ => HE2.out, Lib.hid (HB.out.trans (hb9.mono HB.out.size))⟩ | exact ⟨2, rfl, by omega, fun h => by omega, fun h => by omega, fun _ => HE2.out, Lib.hid (HB.out.trans (hb9.mono HB.out.size))⟩
                  case measure => simp [intOf]
              · have hK1 : z = 0 := by omega
                have hb1 : (z == 0) = true := by simp [hK1]
                have hE2 : y.tdiv s = n := by
                  rcases hoft with h | h | h
                  · exact h.2.2
                  · omega
                  · omega
                have HE2 := Lib.hid hE2
                clear hoft hE2 hkk hK1
                go_wp2_with fail
                refine wp_region_ext (by kernel_rfl) (by kernel_rfl) ?_
                repeat (go_big_quiet_step (fail))
                refine wpQuiet_nil ?_
                intro w9 hb9
                obtain ⟨hc9, hf9⟩ := bcell hb9
                go_wp2_with fail
                go_roundw
                case rel => first | exact ⟨2, y.tdiv s, by go_num, rfl, by omega, fun h => by omega, fun h => by omega, fun _ => HE2.out, Lib.hid (HB.out.trans (hb9.mono HB.out.size))⟩ | exact ⟨2, rfl, by omega, fun h => by omega, fun h => by omega, fun _ => HE2.out, Lib.hid (HB.out.trans (hb9.mono HB.out.size))⟩
                case measure => simp [intOf]
            · have hE2 : kk = n := by
                rcases hoft with h | h | h
                · omega
                · rw [if_pos h.1] at hkk; rw [hkk]; exact h.2.2
                · omega
              have HE2 := Lib.hid hE2
              clear hoft hE2 hkk
              go_wp2_with fail
              go_roundw
              case rel => first | exact ⟨2, kk, by go_num, rfl, by omega, fun h => by omega, fun h => by omega, fun _ => HE2.out, HB⟩ | exact ⟨2, rfl, by omega, fun h => by omega, fun h => by omega, fun _ => HE2.out, HB⟩
              case measure => simp [intOf]
          · have hkk := hk2 rfl
            subst hkk
            clear hk0 hk1 hk2 HN2 HN3 HOf
            have O7 := Lib.hid (own_below O6.out HB.out)
            have T7 := Lib.hid (bfin T6.out HB.out)
            have hz7 : w.heap.size + 2 ≤ wr.heap.size := by have := HB.out.size; omega
            have hZ := HZ.out
            have hU := HU.out
            clear B6 O6 T6 HB
            go_wp2_with fail
            go_region
            go_wp2_with fail
            go_region
            have hne : ∀ k, (Value.slice A D.length cap).ownBlock = some k → k ≠ w.heap.size := fun k hk => by have := own_ge O7.out hk; omega
            have B8 := Lib.hid (show Blk4 ((wr.setCell ⟨w.heap.size, 0, none⟩ (.int .i64 x')).setCell ⟨w.heap.size, 1, none⟩ (.int .i64 y')).drew.drew w.heap.size 40 x' y' z s by
              have h : Blk4 ((wr.setCell ⟨w.heap.size, 0, none⟩ (.int .i64 x')).setCell ⟨w.heap.size, 1, none⟩ (.int .i64 y')) w.heap.size 40 x' y' z s := by simpa [Blk4] using heap_set_same (o := 1) (v := (.int .i64 y')) (heap_set_same (o := 0) (v := (.int .i64 x')) B7.out)
              exact h)
            have O8 := Lib.hid (show World.ownsRow ((wr.setCell ⟨w.heap.size, 0, none⟩ (.int .i64 x')).setCell ⟨w.heap.size, 1, none⟩ (.int .i64 y')).drew.drew (w.heap.size + 1) 2 1 (.slice A D.length cap) D.length (ints D) from own_below (own_store (o := 1) (u := (.int .i64 y')) (own_store (o := 0) (u := (.int .i64 x')) O7.out hne) hne) (by go_grown))
            have T8 := Lib.hid (show Below w.heap.size w ((wr.setCell ⟨w.heap.size, 0, none⟩ (.int .i64 x')).setCell ⟨w.heap.size, 1, none⟩ (.int .i64 y')).drew.drew by have := T7.out; go_grown)
            have hz8 : w.heap.size + 1 ≤ ((wr.setCell ⟨w.heap.size, 0, none⟩ (.int .i64 x')).setCell ⟨w.heap.size, 1, none⟩ (.int .i64 y')).drew.drew.heap.size := by simp [World.setCell]; omega
            have hz9 : w.heap.size + 2 ≤ ((wr.setCell ⟨w.heap.size, 0, none⟩ (.int .i64 x')).setCell ⟨w.heap.size, 1, none⟩ (.int .i64 y')).drew.drew.heap.size := by simp [World.setCell]; omega
            have hne8 := Lib.hid hne
            clear O7 T7 hne
            clear c0 c1 c2 c3 f0 f1 f2 f3 hl4 B7
            generalize ((wr.setCell ⟨w.heap.size, 0, none⟩ (.int .i64 x')).setCell ⟨w.heap.size, 1, none⟩ (.int .i64 y')).drew.drew = W8 at *
            go_wp2_with (at_builtin; refine app_one elI2 rfl _ _ rfl rfl rfl (by simp) (O8.out) ((Below.refl _ _)) rfl (by intro u hu; simp at hu; first | (subst hu; rfl) | (rcases hu with rfl | rfl <;> rfl) | (rcases hu with rfl | rfl | rfl <;> rfl) | (rcases hu with rfl | rfl | rfl | rfl <;> rfl)) (hz8) (by omega) ?_; intro v' w9 hown9 hb9 hg9; have HO9 := Lib.hid hown9; clear hown9)
            go_roundw
            case rel =>
              have hB9 : Blk4 w9 w.heap.size 40 (wM q').a (wM q').b (wM q').c (wM q').d := by
                rw [HX.out, HY.out, HK.out.1, HK.out.2]
                exact heap_app B8.out hg9 hne8.out
              refine ⟨D ++ [(n : Int)], q', by simp, HR3, HL3, Lib.hid hB9, Lib.hid (by simpa [ints] using HO9.out), Lib.hid (T8.out.grown hg9.grown T8.out.size (fun k hk => by have := own_ge O8.out hk; omega)), ?_⟩
              have := hg9.grown.size
              omega
            case measure =>
              rw [own_lenV HO9.out, hm]; omega
end Go.Proofs.Ytencfmipplgnkaa
