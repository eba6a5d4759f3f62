/- Contracts: the runs of a positive matrix, by the program. -/
import Derived.Test.YtencfmipplgnkaaP1
import Derived.Test.YtencfmipplgnkaaNa
import Derived.Test.YtencfmipplgnkaaRow3
import Derived.Test.YtencfmipplgnkaaBox
namespace Go.Proofs.Ytencfmipplgnkaa
open Go.RowKit
theorem elI2 : Elem Try.prog 23 2 (.int .i64 0) 1 8 := elem_of Try.underlying23 (by kernel_rfl) rfl (by omega) (by omega)
def lenV : Value → Nat
  | .slice _ n _ => n
  | _ => 0
theorem own_lenV {w : World} {B z n : Nat} {E : TypeId} {v : Value} {xs : List Value} (h : w.ownsRow B E z v n xs) : lenV v = n := by
  obtain ⟨A, cap, rfl, _⟩ := own_view h
  rfl
theorem ev_tmod {n : Nat} {b : Bool} (h : evB n = b) : (((n : Int) % 2) == 0) = b := by
  rw [← h]
  unfold evB
  have : ((n : Int) % 2) = ((n % 2 : Nat) : Int) := by omega
  rw [this]
  rcases Nat.mod_two_eq_zero_or_one n with h | h <;> rw [h] <;> rfl
attribute [local go_sem] eqMat
set_option maxRecDepth 100000 in
set_option maxHeartbeats 2000000 in
theorem runs_any (l : List Bool) (w : World) (hl : l.length ≤ 100000) (hlow : Low (wM l)) :
    Calls Try.prog 121 #[(.agg #[.int .i64 ((wM l).a), .int .i64 ((wM l).b), .int .i64 ((wM l).c), .int .i64 ((wM l).d)])] w fun e w' => ∃ (D : List Int) (v : Value), e = .returned v ∧ RunAt l D [] ∧ w'.ownsRow w.heap.size 2 1 v D.length (ints D) ∧ Below w.heap.size w w' := by
  have HS := Lib.hid (RunAt.start l)
  have HL0 := Lib.hid hlow
  clear hlow
  go_enter Try.func121, Try.ntmps121
  go_wp2_with fail
  have B0 := Lib.hid (show Blk4 ((w.alloc (Obj.cells #[(.int .i64 ((wM l).a)), (.int .i64 ((wM l).b)), (.int .i64 ((wM l).c)), (.int .i64 ((wM l).d))] 40)).alloc (Obj.cells #[] 2)) w.heap.size 40 (wM l).a (wM l).b (wM l).c (wM l).d from heap_alloc heap_new)
  have O0 := Lib.hid (show ((w.alloc (Obj.cells #[(.int .i64 ((wM l).a)), (.int .i64 ((wM l).b)), (.int .i64 ((wM l).c)), (.int .i64 ((wM l).d))] 40)).alloc (Obj.cells #[] 2)).ownsRow (w.heap.size + 1) 2 1 (.slice (some ⟨w.heap.size + 1, 0, none⟩) 0 0) 0 (ints []) from by
    have := World.ownsRow_lit (w.alloc (Obj.cells #[(.int .i64 ((wM l).a)), (.int .i64 ((wM l).b)), (.int .i64 ((wM l).c)), (.int .i64 ((wM l).d))] 40)) (base := w.heap.size + 1) (e := 2) (size := 1) #[] 0 (by simp) (by simp [maxLen]) rfl
    simpa [ints] using this)
  have T0 := Lib.hid (show Below w.heap.size w ((w.alloc (Obj.cells #[(.int .i64 ((wM l).a)), (.int .i64 ((wM l).b)), (.int .i64 ((wM l).c)), (.int .i64 ((wM l).d))] 40)).alloc (Obj.cells #[] 2)) by go_grown)
  have hz0 : w.heap.size + 2 ≤ ((w.alloc (Obj.cells #[(.int .i64 ((wM l).a)), (.int .i64 ((wM l).b)), (.int .i64 ((wM l).c)), (.int .i64 ((wM l).d))] 40)).alloc (Obj.cells #[] 2)).heap.size := by simp
  generalize (w.alloc (Obj.cells #[(.int .i64 ((wM l).a)), (.int .i64 ((wM l).b)), (.int .i64 ((wM l).c)), (.int .i64 ((wM l).d))] 40)).alloc (Obj.cells #[] 2) = W at *
  go_loopw [3, 4] (fun u _ wr => ∃ (D : List Int) (v : List Bool), Hid (RunAt l D v) ∧ Hid (Low (wM v)) ∧ Hid (Blk4 wr w.heap.size 40 (wM v).a (wM v).b (wM v).c (wM v).d) ∧ Hid (wr.ownsRow (w.heap.size + 1) 2 1 u D.length (ints D)) ∧ Hid (Below w.heap.size w wr) ∧ w.heap.size + 2 ≤ wr.heap.size) (fun u _ _ => l.length + 2 - lenV u)
  case atStart => exact ⟨[], l, HS, HL0, B0, O0, T0, hz0⟩
  case round =>
    clear B0 O0 T0 hz0 HS HL0
    obtain ⟨D, v, HR, HL, B, O, T, hz⟩ := hrel
    have hm := own_lenV O.out
    have hD := expR_len_le HR.out
    obtain ⟨A, cap, rfl, -, -, -⟩ := own_view O.out
    obtain ⟨⟨c0, c1, c2, c3⟩, ⟨f0, f1, f2, f3⟩, hl4⟩ := B.out.open_
    by_cases hv : v = []
    · subst hv
      have hE : ((wM []).a == 1 && ((wM []).b == 0 && ((wM []).c == 0 && (wM []).d == 1))) = true := rfl
      generalize (wM []).a = x at *
      generalize (wM []).b = y at *
      generalize (wM []).c = z at *
      generalize (wM []).d = s at *
      go_wp2_with fail
      refine wp_region_ext (by kernel_rfl) (by kernel_rfl) ?_
      repeat (go_big_quiet_step (first | ((go_at_call 143; with_reducible refine Calls.ext_of (Nat.le_refl _) (identity_any _)))))
      refine wpQuiet_nil ?_
      intro w6 hb6
      obtain ⟨hc6, hf6⟩ := bcell hb6
      go_wp2_with fail
      go_ret
      exact ⟨D, _, rfl, HR.out, own_base (own_below O.out hb6) (by omega), bfin T.out hb6⟩
    · have hE := wM_unit hv
      cases he : evB D.length
      · obtain ⟨n, q', HR2, HST⟩ := HR.out.stepL hv HL.out he
        have HT := ev_tmod he
        have hpos := wM_pos v
        obtain ⟨l1, l2, l3, l4⟩ := HL.out
        obtain ⟨p1, p2, p3, p4, -⟩ := hpos
        have HR3 := Lib.hid HR2
        have HL3 := Lib.hid HST.low
        have HOf := Lib.hid (fun W => often_any (wM v).c (wM v).d (wM v).a (wM v).b n W (by omega) (by omega) (by omega) (by omega) HST.oft)
        obtain ⟨e1, e2, e3, e4⟩ := (⟨HST.e1, HST.e2, HST.e3, HST.e4⟩ : (wM v).c - n * (wM v).a = (wM q').c ∧ (wM v).d - n * (wM v).b = (wM q').d ∧ (wM v).a = (wM q').a ∧ (wM v).b = (wM q').b)
        obtain ⟨q1, q2, q3, q4⟩ := (⟨HST.low.c, HST.low.d, (wM_pos q').c, (wM_pos q').d⟩ : (wM q').c ≤ 1000 ∧ (wM q').d ≤ 1000 ∧ 0 ≤ (wM q').c ∧ 1 ≤ (wM q').d)
        obtain ⟨n0, n1, a0, a1, d0, d1⟩ := (⟨HST.n0, HST.n1, HST.c0, HST.c1, HST.d0, HST.d1⟩ : 0 ≤ (n : Int) ∧ (n : Int) ≤ 1000 ∧ 0 ≤ (n : Int) * (wM v).a ∧ (n : Int) * (wM v).a ≤ 1000 ∧ 0 ≤ (n : Int) * (wM v).b ∧ (n : Int) * (wM v).b ≤ 1000)
        clear HST HR2 he hv HR
        have HK := Lib.hid (⟨e3.symm, e4.symm⟩ : (wM q').a = (wM v).a ∧ (wM q').b = (wM v).b)
        clear e3 e4
        generalize hX : (wM q').c = x' at e1 q1 q3
        generalize hY : (wM q').d = y' at e2 q2 q4
        have HX := Lib.hid hX
        have HY := Lib.hid hY
        clear hX hY
        generalize (wM v).a = x at *
        generalize (wM v).b = y at *
        generalize (wM v).c = z at *
        generalize (wM v).d = s at *
        generalize hZ : (n : Int) * x = Z at *
        generalize hU : (n : Int) * y = U at *
        have HZ := Lib.hid hZ
        have HU := Lib.hid hU
        clear hZ hU
        go_wp2_with fail
        refine wp_region_ext (by kernel_rfl) (by kernel_rfl) ?_
        repeat (go_big_quiet_step (first | ((go_at_call 143; with_reducible refine Calls.ext_of (Nat.le_refl _) (identity_any _)))))
        refine wpQuiet_nil ?_
        intro w6 hb6
        obtain ⟨hc6, hf6⟩ := bcell hb6
        have B6 := Lib.hid (show Blk4 w6 w.heap.size 40 x y z s from heap_below B.out hb6)
        have O6 := Lib.hid (own_below O.out hb6)
        have T6 := Lib.hid (bfin T.out hb6)
        go_wp2_with fail
        refine (HOf.out _).mono ?_; rintro e w7 ⟨rfl, hb7⟩
        have B7 := Lib.hid (show Blk4 w7 w.heap.size 40 x y z s from heap_below B6.out hb7)
        have O7 := Lib.hid (own_below O6.out hb7)
        have T7 := Lib.hid (bfin T6.out hb7)
        have hz7 : w.heap.size + 2 ≤ w7.heap.size := by have := hb6.size; have := hb7.size; omega
        clear B O T B6 O6 T6 hb6 hb7
        clear c0 c1 c2 c3 f0 f1 f2 f3 hl4 hE HT hc6 hf6 HOf
        have hZ := HZ.out
        have hU := HU.out
        obtain ⟨⟨c0, c1, c2, c3⟩, ⟨f0, f1, f2, f3⟩, hl4⟩ := B7.out.open_
        have hne : ∀ k, (Value.slice A D.length cap).ownBlock = some k → k ≠ w.heap.size := fun k hk => by have := own_ge O7.out hk; omega
        have B8 := Lib.hid (show Blk4 ((((w7.setCell ⟨w.heap.size, 0, none⟩ (.int .i64 x)).setCell ⟨w.heap.size, 1, none⟩ (.int .i64 y)).setCell ⟨w.heap.size, 2, none⟩ (.int .i64 x')).setCell ⟨w.heap.size, 3, none⟩ (.int .i64 y')) w.heap.size 40 x y x' y' from heap_set4 B7.out)
        have O8 := Lib.hid (own_store (o := 3) (u := (.int .i64 y')) (own_store (o := 2) (u := (.int .i64 x')) (own_store (o := 1) (u := (.int .i64 y)) (own_store (o := 0) (u := (.int .i64 x)) O7.out hne) hne) hne) hne)
        have T8 := Lib.hid (show Below w.heap.size w ((((w7.setCell ⟨w.heap.size, 0, none⟩ (.int .i64 x)).setCell ⟨w.heap.size, 1, none⟩ (.int .i64 y)).setCell ⟨w.heap.size, 2, none⟩ (.int .i64 x')).setCell ⟨w.heap.size, 3, none⟩ (.int .i64 y')) by have := T7.out; go_grown)
        have hz8 : w.heap.size + 1 ≤ ((((w7.setCell ⟨w.heap.size, 0, none⟩ (.int .i64 x)).setCell ⟨w.heap.size, 1, none⟩ (.int .i64 y)).setCell ⟨w.heap.size, 2, none⟩ (.int .i64 x')).setCell ⟨w.heap.size, 3, none⟩ (.int .i64 y')).heap.size := by simp [World.setCell]; omega
        have hne8 := Lib.hid hne
        clear O7 T7 hne
        go_wp2_with (at_builtin; refine app_one elI2 rfl _ _ rfl rfl rfl (by simp) (O8.out) ((Below.refl _ _)) rfl (by intro u hu; simp at hu; first | (subst hu; rfl) | (rcases hu with rfl | rfl <;> rfl) | (rcases hu with rfl | rfl | rfl <;> rfl) | (rcases hu with rfl | rfl | rfl | rfl <;> rfl)) (hz8) (by omega) ?_; intro v' w9 hown9 hb9 hg9; have HO9 := Lib.hid hown9; clear hown9)
        go_roundw
        case rel =>
          have hB9 : Blk4 w9 w.heap.size 40 (wM q').a (wM q').b (wM q').c (wM q').d := by
            rw [HX.out, HY.out, HK.out.1, HK.out.2]
            exact heap_app B8.out hg9 hne8.out
          refine ⟨D ++ [(n : Int)], q', HR3, HL3, Lib.hid hB9, Lib.hid (by simpa [ints] using HO9.out), Lib.hid (T8.out.grown hg9.grown T8.out.size (fun k hk => by have := own_ge O8.out hk; omega)), ?_⟩
          have := hg9.grown.size
          simp [World.setCell] at this
          omega
        case measure =>
          rw [own_lenV HO9.out, hm]; omega
      · obtain ⟨n, q', HR2, HST⟩ := HR.out.stepT hv HL.out he
        have HT := ev_tmod he
        have hpos := wM_pos v
        obtain ⟨l1, l2, l3, l4⟩ := HL.out
        obtain ⟨p1, p2, p3, p4, -⟩ := hpos
        have HR3 := Lib.hid HR2
        have HL3 := Lib.hid HST.low
        have HOf := Lib.hid (fun W => often_any (wM v).a (wM v).b (wM v).c (wM v).d n W (by omega) (by omega) (by omega) (by omega) HST.oft)
        obtain ⟨e1, e2, e3, e4⟩ := (⟨HST.e1, HST.e2, HST.e3, HST.e4⟩ : (wM v).a - n * (wM v).c = (wM q').a ∧ (wM v).b - n * (wM v).d = (wM q').b ∧ (wM v).c = (wM q').c ∧ (wM v).d = (wM q').d)
        obtain ⟨q1, q2, q3, q4⟩ := (⟨HST.low.a, HST.low.b, (wM_pos q').a, (wM_pos q').b⟩ : (wM q').a ≤ 1000 ∧ (wM q').b ≤ 1000 ∧ 1 ≤ (wM q').a ∧ 0 ≤ (wM q').b)
        obtain ⟨n0, n1, a0, a1, d0, d1⟩ := (⟨HST.n0, HST.n1, HST.c0, HST.c1, HST.d0, HST.d1⟩ : 0 ≤ (n : Int) ∧ (n : Int) ≤ 1000 ∧ 0 ≤ (n : Int) * (wM v).c ∧ (n : Int) * (wM v).c ≤ 1000 ∧ 0 ≤ (n : Int) * (wM v).d ∧ (n : Int) * (wM v).d ≤ 1000)
        clear HST HR2 he hv HR
        have HK := Lib.hid (⟨e3.symm, e4.symm⟩ : (wM q').c = (wM v).c ∧ (wM q').d = (wM v).d)
        clear e3 e4
        generalize hX : (wM q').a = x' at e1 q1 q3
        generalize hY : (wM q').b = y' at e2 q2 q4
        have HX := Lib.hid hX
        have HY := Lib.hid hY
        clear hX hY
        generalize (wM v).a = x at *
        generalize (wM v).b = y at *
        generalize (wM v).c = z at *
        generalize (wM v).d = s at *
        generalize hZ : (n : Int) * z = Z at *
        generalize hU : (n : Int) * s = U at *
        have HZ := Lib.hid hZ
        have HU := Lib.hid hU
        clear hZ hU
        go_wp2_with fail
        refine wp_region_ext (by kernel_rfl) (by kernel_rfl) ?_
        repeat (go_big_quiet_step (first | ((go_at_call 143; with_reducible refine Calls.ext_of (Nat.le_refl _) (identity_any _)))))
        refine wpQuiet_nil ?_
        intro w6 hb6
        obtain ⟨hc6, hf6⟩ := bcell hb6
        have B6 := Lib.hid (show Blk4 w6 w.heap.size 40 x y z s from heap_below B.out hb6)
        have O6 := Lib.hid (own_below O.out hb6)
        have T6 := Lib.hid (bfin T.out hb6)
        go_wp2_with fail
        refine (HOf.out _).mono ?_; rintro e w7 ⟨rfl, hb7⟩
        have B7 := Lib.hid (show Blk4 w7 w.heap.size 40 x y z s from heap_below B6.out hb7)
        have O7 := Lib.hid (own_below O6.out hb7)
        have T7 := Lib.hid (bfin T6.out hb7)
        have hz7 : w.heap.size + 2 ≤ w7.heap.size := by have := hb6.size; have := hb7.size; omega
        clear B O T B6 O6 T6 hb6 hb7
        clear c0 c1 c2 c3 f0 f1 f2 f3 hl4 hE HT hc6 hf6 HOf
        have hZ := HZ.out
        have hU := HU.out
        obtain ⟨⟨c0, c1, c2, c3⟩, ⟨f0, f1, f2, f3⟩, hl4⟩ := B7.out.open_
        have hne : ∀ k, (Value.slice A D.length cap).ownBlock = some k → k ≠ w.heap.size := fun k hk => by have := own_ge O7.out hk; omega
        have B8 := Lib.hid (show Blk4 ((((w7.setCell ⟨w.heap.size, 0, none⟩ (.int .i64 x')).setCell ⟨w.heap.size, 1, none⟩ (.int .i64 y')).setCell ⟨w.heap.size, 2, none⟩ (.int .i64 z)).setCell ⟨w.heap.size, 3, none⟩ (.int .i64 s)) w.heap.size 40 x' y' z s from heap_set4 B7.out)
        have O8 := Lib.hid (own_store (o := 3) (u := (.int .i64 s)) (own_store (o := 2) (u := (.int .i64 z)) (own_store (o := 1) (u := (.int .i64 y')) (own_store (o := 0) (u := (.int .i64 x')) O7.out hne) hne) hne) hne)
        have T8 := Lib.hid (show Below w.heap.size w ((((w7.setCell ⟨w.heap.size, 0, none⟩ (.int .i64 x')).setCell ⟨w.heap.size, 1, none⟩ (.int .i64 y')).setCell ⟨w.heap.size, 2, none⟩ (.int .i64 z)).setCell ⟨w.heap.size, 3, none⟩ (.int .i64 s)) by have := T7.out; go_grown)
        have hz8 : w.heap.size + 1 ≤ ((((w7.setCell ⟨w.heap.size, 0, none⟩ (.int .i64 x')).setCell ⟨w.heap.size, 1, none⟩ (.int .i64 y')).setCell ⟨w.heap.size, 2, none⟩ (.int .i64 z)).setCell ⟨w.heap.size, 3, none⟩ (.int .i64 s)).heap.size := by simp [World.setCell]; omega
        have hne8 := Lib.hid hne
        clear O7 T7 hne
        go_wp2_with (at_builtin; refine app_one elI2 rfl _ _ rfl rfl rfl (by simp) (O8.out) ((Below.refl _ _)) rfl (by intro u hu; simp at hu; first | (subst hu; rfl) | (rcases hu with rfl | rfl <;> rfl) | (rcases hu with rfl | rfl | rfl <;> rfl) | (rcases hu with rfl | rfl | rfl | rfl <;> rfl)) (hz8) (by omega) ?_; intro v' w9 hown9 hb9 hg9; have HO9 := Lib.hid hown9; clear hown9)
        go_roundw
        case rel =>
          have hB9 : Blk4 w9 w.heap.size 40 (wM q').a (wM q').b (wM q').c (wM q').d := by
            rw [HX.out, HY.out, HK.out.1, HK.out.2]
            exact heap_app B8.out hg9 hne8.out
          refine ⟨D ++ [(n : Int)], q', HR3, HL3, Lib.hid hB9, Lib.hid (by simpa [ints] using HO9.out), Lib.hid (T8.out.grown hg9.grown T8.out.size (fun k hk => by have := own_ge O8.out hk; omega)), ?_⟩
          have := hg9.grown.size
          simp [World.setCell] at this
          omega
        case measure =>
          rw [own_lenV HO9.out, hm]; omega
end Go.Proofs.Ytencfmipplgnkaa
