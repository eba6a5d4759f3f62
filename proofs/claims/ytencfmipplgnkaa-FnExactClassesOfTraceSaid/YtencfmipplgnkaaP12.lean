/- Contracts: the classes of a trace, by the program. -/
import Derived.Test.YtencfmipplgnkaaP4
import Derived.Test.YtencfmipplgnkaaP6
import Derived.Test.YtencfmipplgnkaaP7
import Derived.Test.YtencfmipplgnkaaP9
import Derived.Test.YtencfmipplgnkaaP10
import Derived.Test.YtencfmipplgnkaaNa
namespace Go.Proofs.Ytencfmipplgnkaa
open Go.RowKit Go.Sort
theorem strW_snoc (l : List (List Bool)) (x : List Bool) : strW (l ++ [x]) = strW l ++ [.string (wS x)] := by simp [strW]
theorem own_ptr {w : World} {B n z : Nat} {E : TypeId} {v : Value} {xs : List Value} (h : w.ownsRow B E z v n xs) (hn : 0 < n) : ∃ g cap, v = .slice (some ⟨g, 0, none⟩) n cap := by
  obtain ⟨A, cap, rfl, -, -, hat⟩ := own_view h
  obtain ⟨b, rfl, -⟩ := hat hn
  exact ⟨b, cap, rfl⟩
set_option maxRecDepth 100000 in
set_option maxHeartbeats 4000000 in
theorem ClassesOfTrace_any (t : Int) (w : World) :
    Calls Try.prog 34 #[(.int .i64 t)] w fun e w' => ∃ v, e = .returned (.tuple #[v, (.int .i64 ((coRes t).2))]) ∧ w'.ownsRow w.heap.size 40 4 v (coRes t).1.length (ints (flat4 (coRes t).1)) ∧ Below w.heap.size w w' := by
  have HW := Lib.hid (fun W => within_any t 3 60 W)
  cases hN : inB t 3 60
  · rw [show coRes t = ([], 2) by simp [coRes, hN]]
    rw [hN] at HW
    go_enter Try.func34, Try.ntmps34
    go_wp2_with fail
    refine (HW.out _).mono ?_; rintro e w' ⟨rfl, rfl⟩
    go_wp2_with fail
    go_ret2
    exact ⟨_, rfl, World.ownsRow_nil _ _ _ _, Below.refl _ _⟩
  rw [hN] at HW
  have h3 : 3 ≤ t := by simp [inB] at hN; omega
  have h60 : t ≤ 60 := by simp [inB] at hN; omega
  rw [show coRes t = (firstL (enumL t), 0) by simp [coRes, hN]]
  clear hN
  go_enter Try.func34, Try.ntmps34
  go_wp2_with fail
  refine (HW.out _).mono ?_; rintro e w' ⟨rfl, rfl⟩
  clear HW
  go_wp2_with fail
  have O0 := Lib.hid (show (w.alloc (Obj.cells #[] 9)).ownsRow w.heap.size 9 1 (.slice (some ⟨w.heap.size, 0, none⟩) 0 0) (rowA t 0).length (strW (wordsL (rowA t 0))) from World.ownsRow_lit w #[] 0 (Nat.le_refl _) (by simp [maxLen]) rfl)
  have T0 := Lib.hid (show Below w.heap.size w (w.alloc (Obj.cells #[] 9)) by go_grown)
  generalize w.alloc (Obj.cells #[] 9) = W at *
  go_loopw [4, 5, 6, 7, 8, 9] (fun v u5 _ _ _ _ wr => ∃ (i : Nat) (a : Int), u5 = (.int .i64 a) ∧ a = (i : Int) + 1 ∧ a ≤ t ∧ Hid (wr.ownsRow w.heap.size 9 1 v (rowA t i).length (strW (wordsL (rowA t i)))) ∧ Hid (Below w.heap.size w wr)) (fun _ u5 _ _ _ _ _ => (t - intOf u5).toNat)
  case atStart => exact ⟨0, 1, rfl, by omega, by omega, O0, T0⟩
  case round =>
    clear O0 T0
    obtain ⟨i, a, rfl, ha, hat, O, T⟩ := hrel
    have ha1 : 1 ≤ a := by omega
    have HA1 := Lib.hid ha
    by_cases hlt : a < t
    · have hp1 := area_low (t := t) (a := a) ha1 hlt
      have hp2 := area_900 (t := t) (a := a) (by omega) h60
      have hp0 : 0 ≤ a * (t - a) := by omega
      have HA := Lib.hid (rowA_succ (t := t) i)
      rw [← ha] at HA
      clear ha
      have HI := Lib.hid (fun b h1 h2 => ent_in (t := t) (a := a) (b := b) h3 ha1 hlt h1 h2)
      have hPl2 := rowA_len (t := t) (by omega) h60 i
      have hi60 : i ≤ 60 := by have := HA1.out; omega
      generalize rowA t i = P at *
      generalize hp : a * (t - a) - 1 = p at *
      have HEN := Lib.hid (fun b => ent_eq (b := b) hp)
      have HPE := Lib.hid hp
      have hp9 : p ≤ 899 := by omega
      have hsz := T.out.size
      go_wp2_with fail
      generalize wr = W1 at *
      go_loopw [4, 7, 8, 9] (fun v u7 _ _ wr => ∃ (j : Nat) (b : Int), u7 = (.int .i64 b) ∧ b = (j : Int) + 1 ∧ b ≤ p + 1 ∧ Hid (wr.ownsRow w.heap.size 9 1 v (P ++ rowB t a j).length (strW (wordsL (P ++ rowB t a j)))) ∧ Hid (Below w.heap.size w wr)) (fun _ u7 _ _ _ => (p + 1 - intOf u7).toNat)
      case atStart => exact ⟨0, 1, rfl, by omega, by omega, Lib.hid (by simpa [rowB, stepsL] using O.out), T⟩
      case round =>
        clear O T hsz
        obtain ⟨j, b, rfl, hb, hbt, O, T⟩ := hrel
        have hb1 : 1 ≤ b := by omega
        have hjp : (j : Int) ≤ p := by omega
        have HB1 := Lib.hid hb
        have hsz := T.out.size
        by_cases hlb : b ≤ p
        · have HB := Lib.hid (rowB_succ (t := t) (a := a) j)
          rw [← hb] at HB
          clear hb
          have hb0 : b ≠ 0 := by omega
          have hrl := rowB_len t a (n := j)
          have hpe : p.tmod b = p % b := Int.tmod_eq_emod_of_nonneg (by omega)
          by_cases hz : p.tmod b = 0
          · have hin := HI.out b (by omega) hz
            have HE := Lib.hid (show ent t a b = [⟨a, b, p.tdiv b, t - a⟩] by rw [HEN.out, if_pos hz])
            have hw := word_of h3 h60 hin
            have HPW := Lib.hid (show ∀ W, Calls Try.prog 75 #[(.agg #[.int .i64 a, .int .i64 b, .int .i64 (p.tdiv b), .int .i64 (t - a)])] W fun e w' => e = .returned (.tuple #[.string (wS (word ⟨a, b, p.tdiv b, t - a⟩)), (.int .i64 0)]) ∧ Below W.heap.size W w' from fun W => by
              have h := PositiveWord_any (word ⟨a, b, p.tdiv b, t - a⟩) W (by have := hw.len; omega) (by rw [hw.mat]; exact hw.low)
              rw [hw.mat] at h; exact h)
            have HLE := Lib.hid (fun W => least_any (word ⟨a, b, p.tdiv b, t - a⟩) W (by have := hw.len; omega))
            have HX := Lib.hid (show strW (wordsL (P ++ rowB t a (j + 1))) = strW (wordsL (P ++ rowB t a j)) ++ [.string (wS (leastW (word ⟨a, b, p.tdiv b, t - a⟩)))] by
              rw [HB.out, HE.out, ← List.append_assoc, wordsL_snoc, strW_snoc])
            have HY := Lib.hid (show (P ++ rowB t a (j + 1)).length = (P ++ rowB t a j).length + 1 by
              rw [HB.out, HE.out]; simp; omega)
            have hz' : (p % b == 0) = true := by rw [← hpe, hz]; rfl
            obtain ⟨d0, d1⟩ := tdiv_le (a := p) (b := b) (by omega) (by omega)
            generalize word ⟨a, b, p.tdiv b, t - a⟩ = l at *
            generalize wS l = S at *
            generalize wS (leastW l) = S2 at *
            clear hw hin hz hpe
            generalize hc : p.tdiv b = c at *
            go_wp2_with fail
            refine (HPW.out _).mono ?_; rintro e w2 ⟨rfl, hb2⟩
            have O2 := Lib.hid (own_below O.out hb2)
            have T2 := Lib.hid (bfin T.out hb2)
            have hz2 : w.heap.size ≤ w2.heap.size := by have := hb2.size; omega
            clear O T hb2
            go_wp2_with fail
            refine (HLE.out _).mono ?_; rintro e w3 ⟨rfl, hb3⟩
            have O3 := Lib.hid (own_below O2.out hb3)
            have T3 := Lib.hid (bfin T2.out hb3)
            have hz3 : w.heap.size ≤ w3.heap.size := by have := hb3.size; omega
            clear O2 T2 hb3 HPW HLE
            have hln : (P ++ rowB t a j).length ≤ 100000 := by rw [List.length_append]; omega
            go_wp2_with (at_builtin; refine app_one elSt rfl _ _ rfl rfl rfl (by simp) (O3.out) ((Below.refl _ _)) rfl (by intro u hu; simp at hu; first | (subst hu; rfl) | (rcases hu with rfl | rfl <;> rfl) | (rcases hu with rfl | rfl | rfl <;> rfl) | (rcases hu with rfl | rfl | rfl | rfl <;> rfl)) (hz3) (by omega) ?_; intro v' w4 hown4 hb4 hg4; have HO4 := Lib.hid hown4; clear hown4)
            go_roundw
            case rel =>
              refine ⟨j + 1, b + 1, rfl, by have := HB1.out; omega, by omega, ?_, Lib.hid (T3.out.grown hg4.grown T3.out.size (fun k hk => own_ge O3.out hk))⟩
              refine Lib.hid ?_
              rw [HX.out, HY.out]
              exact HO4.out
            case measure => simp [intOf]; omega
          · have hz' : (p % b == 0) = false := by rw [← hpe]; simp [hz]
            have HE := Lib.hid (show ent t a b = [] by rw [HEN.out, if_neg hz])
            clear hz hpe
            go_wp2_with fail
            go_roundw
            case rel => exact ⟨j + 1, b + 1, rfl, by have := HB1.out; omega, by omega, Lib.hid (by rw [HB.out, HE.out, List.append_nil]; exact O.out), T⟩
            case measure => simp [intOf]; omega
        · obtain rfl : b = p + 1 := by omega
          have hj : j = p.toNat := by omega
          clear hb HB1
          have HX := Lib.hid (show P ++ rowB t a j = rowA t (i + 1) by rw [HA.out, hj])
          clear hj
          rw [HX.out] at O
          have hlb2 : ¬ (p + 1 ≤ p) := by omega
          go_wp2_with fail
          go_roundw
          case rel => exact ⟨i + 1, a + 1, rfl, by have := HA1.out; omega, by omega, O, T⟩
          case measure => simp [intOf]; omega
    · obtain rfl : a = t := by omega
      have hlen := rowA_len (t := a) (by omega) h60 i
      have hi60 : i ≤ 60 := by omega
      have HX := Lib.hid (show rowA a i = enumL a by rw [enumL, show (a - 1).toNat = i by omega])
      clear ha HA1
      rw [HX.out] at O hlen
      obtain ⟨ls, hls, hlm, ⟨hll, hl0⟩, hfin⟩ := sorted_classes h3
      have HFin := Lib.hid (hfin (sortQ (ls.map wM)) (sortQ_perm _) (sortQ_le _))
      have HLm := Lib.hid (show ∀ l ∈ ls, Low (wM l) ∧ l.length ≤ 60 ∧ 0 < l.length from fun l hl => by
        obtain ⟨m, hm, rfl⟩ := hlm l hl
        exact least_of h3 h60 hm)
      have HSort := Lib.hid (sortW_own u4 w.heap.size (enumL a).length ((wordsL (enumL a)).map bs) wr (by simp [wordsL]) (by omega) (by rw [← strW_enc]; exact O.out))
      have hzl : ((((wordsL (enumL a)).map bs).mergeSort fun x y => decide (x ≤ y))).length = (enumL a).length := by simp [wordsL]
      clear hfin hlm hlt
      generalize (((wordsL (enumL a)).map bs).mergeSort fun x y => decide (x ≤ y)) = Zs at *
      have hN : (enumL a).length ≤ 60000 := by omega
      generalize (enumL a).length = N at *
      have HLs := Lib.hid hls
      clear hls hlen
      have hsz := T.out.size
      have HO := Lib.hid O.out
      clear O
      go_wp2_with fail
      refine HSort.out.mono ?_; rintro e w2 ⟨rfl, ho2, hg2⟩
      have O2 := Lib.hid ho2
      have T2 := Lib.hid (show Below w.heap.size w w2 from T.out.grown hg2 T.out.size (fun k hk => own_ge HO.out hk))
      clear HSort HO T ho2 hg2
      have hsz2 := T2.out.size
      go_wp2_with fail
      have O3 := Lib.hid (show (w2.alloc (Obj.cells #[] 40)).ownsRow w.heap.size 9 1 u4 N (Zs.map Proofs.encStr) from O2.out.alloc _)
      have U3 := Lib.hid (show (w2.alloc (Obj.cells #[] 40)).ownsRow w2.heap.size 40 4 (.slice (some ⟨w2.heap.size, 0, none⟩) 0 0) 0 (ints (flat4 ((ls.take 0).map wM))) from World.ownsRow_lit w2 #[] 0 (Nat.le_refl _) (by simp [maxLen]) rfl)
      have T3 := Lib.hid (show Below w.heap.size w (w2.alloc (Obj.cells #[] 40)) from T2.out.alloc hsz2 _)
      have hlt3 := Lib.hid (show ∀ k, u4.ownBlock = some k → k < w2.heap.size from fun k hk => own_lt O2.out hk)
      have hg3 : w2.heap.size ≤ (w2.alloc (Obj.cells #[] 40)).heap.size := by simp
      clear O2 T2
      generalize w2.alloc (Obj.cells #[] 40) = w3 at *
      generalize w2.heap.size = B5 at *
      refine (compactW_own u4 w.heap.size N Zs w3 hzl (by omega) O3.out).mono ?_; rintro e w4 ⟨v4, rfl, ho4, hg4, hv4⟩
      have T4 := Lib.hid (show Below w.heap.size w w4 from T3.out.grown hg4 T3.out.size (fun k hk => own_ge O3.out hk))
      have U4 := Lib.hid (show w4.ownsRow B5 40 4 (.slice (some ⟨B5, 0, none⟩) 0 0) 0 (ints (flat4 ((ls.take 0).map wM))) from U3.out.kept hg4 (.inr fun e => by
        have := hlt3.out B5 e.symm
        omega))
      have hg5 : B5 ≤ w4.heap.size := by have := hg4.size; omega
      rw [HLs.out, ← strW_enc, List.length_map] at ho4
      obtain ⟨A, cap, rfl, -, hcm, hat⟩ := own_view ho4
      have hu := Lib.hid (show ∀ b, A = some ⟨b, 0, none⟩ → b < B5 from fun b hb => hlt3.out b (hv4 b (by rw [hb]; rfl)))
      have R4 := Lib.hid hat
      unfold maxLen at hcm
      clear O3 U3 T3 hg4 hv4 ho4 hat hlt3 HLs hzl
      go_wp2_with fail
      go_loopw [10, 12, 13, 14, 63] (fun v _ _ _ i wq => ∃ k : Nat, i = (.int .i64 ((k : Int))) ∧ k ≤ ls.length ∧ Hid (wq.ownsRow B5 40 4 v k (ints (flat4 ((ls.take k).map wM)))) ∧ Hid (RowAt wq w.heap.size A ls.length (strW ls)) ∧ Hid (Below w.heap.size w wq) ∧ B5 ≤ wq.heap.size) (fun _ _ _ _ i _ => ls.length - (intOf i).toNat)
      case atStart => exact ⟨0, rfl, Nat.zero_le _, U4, R4, T4, hg5⟩
      case round =>
        clear U4 R4 T4 hg5
        obtain ⟨k, rfl, hk, O, R, T, hgl⟩ := hrel
        by_cases hlt : k < ls.length
        · obtain ⟨b, rfl, -, hbl, hc, -⟩ := R.out hl0
          have hub := hu.out b rfl
          obtain ⟨l, hl⟩ : ∃ l, ls[k]? = some l := ⟨ls[k], List.getElem?_eq_getElem hlt⟩
          have hck := hc k (.string (wS l)) (by simp [strW, hl])
          obtain ⟨q1, q2, q3⟩ := HLm.out l (List.mem_of_getElem? hl)
          have HF := Lib.hid (fun W => ofWord_any l W (by omega) q3 q1)
          have HX := Lib.hid (show flat4 ((ls.take (k + 1)).map wM) = flat4 ((ls.take k).map wM) ++ [(wM l).a, (wM l).b, (wM l).c, (wM l).d] by
            rw [List.take_add_one, hl, List.map_append, flat4_append]; rfl)
          generalize wS l = S at *
          generalize (wM l).a = x at *
          generalize (wM l).b = y at *
          generalize (wM l).c = z at *
          generalize (wM l).d = s at *
          have hlt2 : (k : Int) < (ls.length : Int) := by omega
          clear hc hl q1 q2 q3
          go_wp2_with fail
          refine (HF.out _).mono ?_; rintro e w5 ⟨rfl, hb5⟩
          have O5 := Lib.hid (own_below O.out hb5)
          have T5 := Lib.hid (bfin T.out hb5)
          have R5 := Lib.hid (R.out.below hb5)
          have hg5 : B5 ≤ w5.heap.size := Nat.le_trans hgl hb5.size
          clear O T R hb5 HF
          have O6 := Lib.hid (O5.out.alloc (Obj.cells #[(.int .i64 x), (.int .i64 y), (.int .i64 z), (.int .i64 s)] 40))
          have T6 := Lib.hid (show Below w.heap.size w (w5.alloc (Obj.cells #[(.int .i64 x), (.int .i64 y), (.int .i64 z), (.int .i64 s)] 40)) from T5.out.alloc (by omega) _)
          have R6 := Lib.hid (show RowAt (w5.alloc (Obj.cells #[(.int .i64 x), (.int .i64 y), (.int .i64 z), (.int .i64 s)] 40)) w.heap.size (some ⟨b, 0, none⟩) ls.length (strW ls) from R5.out.below ((Below.refl _ _).alloc (Nat.le_refl _) _))
          have hz6 : B5 ≤ (w5.alloc (Obj.cells #[(.int .i64 x), (.int .i64 y), (.int .i64 z), (.int .i64 s)] 40)).heap.size := by simp; omega
          clear O5 T5 R5
          go_wp2_with (at_builtin; refine app_one elMt rfl _ _ rfl rfl rfl (by simp) (O6.out) ((Below.refl _ _)) rfl (by intro u hu; simp at hu; first | (subst hu; rfl) | (rcases hu with rfl | rfl <;> rfl) | (rcases hu with rfl | rfl | rfl <;> rfl) | (rcases hu with rfl | rfl | rfl | rfl <;> rfl)) (hz6) (by omega) ?_; intro v' w7 hown7 hb7 hg7; have HO7 := Lib.hid hown7; clear hown7)
          go_roundw
          case rel =>
            refine ⟨k + 1, by go_num, by omega, ?_, Lib.hid (R6.out.far O6.out hg7.grown (fun b' hb' => by injection hb' with hb'; injection hb' with hb'; omega)), Lib.hid (T6.out.grown hg7.grown T6.out.size (fun k' hk' => Nat.le_trans (by omega) (own_ge O6.out hk'))), ?_⟩
            · refine Lib.hid ?_
              rw [HX.out]
              simpa [ints] using HO7.out
            · have := hg7.grown.size
              omega
          case measure => simp [intOf]; omega
        · obtain rfl : k = ls.length := by omega
          obtain ⟨g, cap2, rfl⟩ := own_ptr O.out hl0
          have hsl : (sortQ (ls.map wM)).length = ls.length := by rw [(sortQ_perm _).length_eq]; simp
          have HSF := Lib.hid (sortM_any g cap2 ls.length (ls.map wM) wr (by simp) hl0 (by omega) (B := B5) (by simpa using O.out))
          have HO2 := Lib.hid O.out
          clear O R hlt
          have hlt4 : ¬ ((ls.length : Nat) : Int) < ((ls.length : Nat) : Int) := by omega
          have hws : w.heap.size ≤ B5 := by omega
          go_wp2_with fail
          refine HSF.out.mono ?_; rintro e w5 ⟨rfl, ho, hg⟩
          have O5 := Lib.hid ho
          have T5 := Lib.hid (show Below w.heap.size w w5 from T.out.grown hg T.out.size (fun k hk => by injection hk with hk; subst hk; exact Nat.le_trans hws (own_ge HO2.out rfl)))
          clear ho hg
          go_wp2_with fail
          go_ret2
          refine ⟨_, rfl, ?_, T5.out⟩
          rw [← HFin.out, hsl]
          exact own_base O5.out hws
end Go.Proofs.Ytencfmipplgnkaa
