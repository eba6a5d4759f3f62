/- Contracts: the classes of a trace, by the model. -/
import Derived.Test.YtencfmipplgnkaaP5
import Derived.Test.YtencfmipplgnkaaP6
import Derived.Test.YtencfmipplgnkaaP7
import Derived.Test.YtencfmipplgnkaaNa
namespace Go.Proofs.Ytencfmipplgnkaa
open Go.RowKit
set_option maxRecDepth 100000 in
set_option maxHeartbeats 2000000 in
theorem sClassesOfTrace_any (t : Int) (w : World) :
    Calls Try.prog 33 #[(.int .i64 t)] w fun e w' => ∃ v, e = .returned (.tuple #[v, (.int .i64 ((coRes t).2))]) ∧ w'.ownsRow w.heap.size 40 4 v (coRes t).1.length (ints (flat4 (coRes t).1)) ∧ Below w.heap.size w w' := by
  have HW := Lib.hid (fun W => l01In_any t 3 60 W)
  cases hN : inB t 3 60
  · rw [show coRes t = ([], 2) by simp [coRes, hN]]
    rw [hN] at HW
    go_enter Try.func33, Try.ntmps33
    go_wp2_with fail
    refine (HW.out _).mono ?_; rintro e w' ⟨rfl, rfl⟩
    go_wp2_with fail
    go_ret2
    exact ⟨_, rfl, World.ownsRow_nil _ _ _ _, Below.refl _ _⟩
  rw [hN] at HW
  have h3 : 3 ≤ t := by simp [inB] at hN; omega
  have h60 : t ≤ 60 := by simp [inB] at hN; omega
  rw [show coRes t = (firstL (enumL t), 0) by simp [coRes, hN]]
  clear hN
  go_enter Try.func33, Try.ntmps33
  go_wp2_with fail
  refine (HW.out _).mono ?_; rintro e w' ⟨rfl, rfl⟩
  clear HW
  go_wp2_with fail
  have O0 := Lib.hid (show (w.alloc (Obj.cells #[] 40)).ownsRow w.heap.size 40 4 (.slice (some ⟨w.heap.size, 0, none⟩) 0 0) (firstL (rowA t 0)).length (ints (flat4 (firstL (rowA t 0)))) from World.ownsRow_lit w #[] 0 (Nat.le_refl _) (by simp [maxLen]) rfl)
  have T0 := Lib.hid (show Below w.heap.size w (w.alloc (Obj.cells #[] 40)) by go_grown)
  generalize w.alloc (Obj.cells #[] 40) = W at *
  go_loopw [4, 5, 6, 7, 8, 9, 10] (fun v u5 _ _ _ _ _ wr => ∃ (i : Nat) (a : Int), u5 = (.int .i64 a) ∧ a = (i : Int) + 1 ∧ a ≤ t ∧ Hid (wr.ownsRow w.heap.size 40 4 v (firstL (rowA t i)).length (ints (flat4 (firstL (rowA t i))))) ∧ Hid (Below w.heap.size w wr)) (fun _ u5 _ _ _ _ _ _ => (t - intOf u5).toNat)
  case atStart => exact ⟨0, 1, rfl, by omega, by omega, O0, T0⟩
  case round =>
    clear O0 T0
    obtain ⟨i, a, rfl, ha, hat, O, T⟩ := hrel
    have ha1 : 1 ≤ a := by omega
    have HA1 := Lib.hid ha
    by_cases hlt : a < t
    · have hp1 := area_low (t := t) (a := a) ha1 hlt
      have hp2 := area_900 (t := t) (a := a) (by omega) h60
      have hp0 : 0 ≤ a * (t - a) := by omega
      have HA := Lib.hid (rowA_succ (t := t) i)
      rw [← ha] at HA
      clear ha
      have HI := Lib.hid (fun b h1 h2 => ent_in (t := t) (a := a) (b := b) h3 ha1 hlt h1 h2)
      have hla := rowA_len (t := t) (by omega) h60 i
      have hPl := firstL_len (rowA t i)
      have hi60 : i ≤ 60 := by have := HA1.out; omega
      generalize hQ : firstL (rowA t i) = P at *
      have HQ := Lib.hid hQ
      clear hQ
      have hPl2 : P.length ≤ 60000 := by omega
      clear hla hPl
      generalize hp : a * (t - a) - 1 = p at *
      have HEN := Lib.hid (fun b => ent_eq (b := b) hp)
      have HPE := Lib.hid hp
      have hp9 : p ≤ 899 := by omega
      have hsz := T.out.size
      go_wp2_with fail
      generalize wr = W1 at *
      go_loopw [4, 7, 8, 9, 10] (fun v u7 _ _ _ wr => ∃ (j : Nat) (b : Int), u7 = (.int .i64 b) ∧ b = (j : Int) + 1 ∧ b ≤ p + 1 ∧ Hid (wr.ownsRow w.heap.size 40 4 v (P ++ firstL (rowB t a j)).length (ints (flat4 (P ++ firstL (rowB t a j))))) ∧ Hid (Below w.heap.size w wr)) (fun _ u7 _ _ _ _ => (p + 1 - intOf u7).toNat)
      case atStart => exact ⟨0, 1, rfl, by omega, by omega, Lib.hid (by simpa [rowB, stepsL, firstL] using O.out), T⟩
      case round =>
        clear O T hsz
        obtain ⟨j, b, rfl, hb, hbt, O, T⟩ := hrel
        have hb1 : 1 ≤ b := by omega
        have hjp : (j : Int) ≤ p := by omega
        have HB1 := Lib.hid hb
        have hsz := T.out.size
        by_cases hlb : b ≤ p
        · have HB := Lib.hid (rowB_succ (t := t) (a := a) j)
          rw [← hb] at HB
          clear hb
          have hb0 : b ≠ 0 := by omega
          have hfl := firstL_len (rowB t a j)
          have hrl := rowB_len t a (n := j)
          have hpe : p.tmod b = p % b := Int.tmod_eq_emod_of_nonneg (by omega)
          by_cases hz : p.tmod b = 0
          · have hin := HI.out b (by omega) hz
            have HE := Lib.hid (show ent t a b = [⟨a, b, p.tdiv b, t - a⟩] by rw [HEN.out, if_pos hz])
            have hw := word_of h3 h60 hin
            have HPW := Lib.hid (show ∀ W, Calls Try.prog 72 #[(.agg #[.int .i64 a, .int .i64 b, .int .i64 (p.tdiv b), .int .i64 (t - a)])] W fun e w' => e = .returned (.tuple #[.string (wS (word ⟨a, b, p.tdiv b, t - a⟩)), (.int .i64 0)]) ∧ Below W.heap.size W w' from fun W => by
              have h := sPositiveWord_any (word ⟨a, b, p.tdiv b, t - a⟩) W (by have := hw.len; omega) (by rw [hw.mat]; exact hw.low)
              rw [hw.mat] at h; exact h)
            have HLE := Lib.hid (fun W => l04Least_any (word ⟨a, b, p.tdiv b, t - a⟩) W (by have := hw.len; omega) hw.pos)
            have hob := own_bytes (m := ⟨a, b, p.tdiv b, t - a⟩) rfl
            have hz' : (p % b != 0) = false := by rw [← hpe, hz]; rfl
            obtain ⟨d0, d1⟩ := tdiv_le (a := p) (b := b) (by omega) (by omega)
            generalize word ⟨a, b, p.tdiv b, t - a⟩ = l at *
            generalize wS l = S at *
            generalize wS (leastW l) = S2 at *
            have HZ := Lib.hid hz
            clear hw hin hz hpe
            generalize hc : p.tdiv b = c at *
            have HC := Lib.hid hc
            cases ho : ownB ⟨a, b, c, t - a⟩
            · rw [ho] at hob
              have HF := Lib.hid (firstL_none ho)
              clear ho
              have Bk := Lib.hid (show Blk4 (wr.alloc (Obj.cells #[(.int .i64 a), (.int .i64 b), (.int .i64 c), (.int .i64 (t - a))] 40)) wr.heap.size 40 a b c (t - a) from heap_new)
              have Ok := Lib.hid (show World.ownsRow (wr.alloc (Obj.cells #[(.int .i64 a), (.int .i64 b), (.int .i64 c), (.int .i64 (t - a))] 40)) w.heap.size 40 4 u4 _ _ from O.out.alloc _)
              have Tk := Lib.hid (show Below w.heap.size w (wr.alloc (Obj.cells #[(.int .i64 a), (.int .i64 b), (.int .i64 c), (.int .i64 (t - a))] 40)) from T.out.alloc hsz _)
              clear O T
              go_wp2_with fail
              refine (HPW.out _).mono ?_; rintro e w2 ⟨rfl, hb2⟩
              have B2 := Lib.hid (heap_below Bk.out hb2)
              have O2 := Lib.hid (own_below Ok.out hb2)
              have T2 := Lib.hid (bfin Tk.out hb2)
              have hz2 : wr.heap.size + 1 ≤ w2.heap.size := by have := hb2.size; simpa using this
              clear Bk Ok Tk hb2
              go_wp2_with fail
              refine (HLE.out _).mono ?_; rintro e w3 ⟨rfl, hb3⟩
              have B3 := Lib.hid (heap_below B2.out hb3)
              have O3 := Lib.hid (own_below O2.out hb3)
              have T3 := Lib.hid (bfin T2.out hb3)
              have hz3 : wr.heap.size + 1 ≤ w3.heap.size := by have := hb3.size; omega
              clear B2 O2 T2 hb3 HPW HLE
              obtain ⟨⟨c0, c1, c2, c3⟩, ⟨f0, f1, f2, f3⟩, hl4⟩ := Blk4.open_ B3.out
              go_wp2_with fail
              go_roundw
              case rel => exact ⟨j + 1, b + 1, rfl, by have := HB1.out; omega, by omega, Lib.hid (by rw [HB.out, HE.out, firstL_append, HF.out, List.append_nil]; exact O3.out), T3⟩
              case measure => simp [intOf]; omega
            · rw [ho] at hob
              have HF := Lib.hid (firstL_one ho)
              clear ho
              have Bk := Lib.hid (show Blk4 (wr.alloc (Obj.cells #[(.int .i64 a), (.int .i64 b), (.int .i64 c), (.int .i64 (t - a))] 40)) wr.heap.size 40 a b c (t - a) from heap_new)
              have Ok := Lib.hid (show World.ownsRow (wr.alloc (Obj.cells #[(.int .i64 a), (.int .i64 b), (.int .i64 c), (.int .i64 (t - a))] 40)) w.heap.size 40 4 u4 _ _ from O.out.alloc _)
              have Tk := Lib.hid (show Below w.heap.size w (wr.alloc (Obj.cells #[(.int .i64 a), (.int .i64 b), (.int .i64 c), (.int .i64 (t - a))] 40)) from T.out.alloc hsz _)
              clear O T
              go_wp2_with fail
              refine (HPW.out _).mono ?_; rintro e w2 ⟨rfl, hb2⟩
              have B2 := Lib.hid (heap_below Bk.out hb2)
              have O2 := Lib.hid (own_below Ok.out hb2)
              have T2 := Lib.hid (bfin Tk.out hb2)
              have hz2 : wr.heap.size + 1 ≤ w2.heap.size := by have := hb2.size; simpa using this
              clear Bk Ok Tk hb2
              go_wp2_with fail
              refine (HLE.out _).mono ?_; rintro e w3 ⟨rfl, hb3⟩
              have B3 := Lib.hid (heap_below B2.out hb3)
              have O3 := Lib.hid (own_below O2.out hb3)
              have T3 := Lib.hid (bfin T2.out hb3)
              have hz3 : wr.heap.size + 1 ≤ w3.heap.size := by have := hb3.size; omega
              clear B2 O2 T2 hb3 HPW HLE
              obtain ⟨⟨c0, c1, c2, c3⟩, ⟨f0, f1, f2, f3⟩, hl4⟩ := Blk4.open_ B3.out
              have hz4 : w.heap.size ≤ w3.heap.size := by omega
              have hln : (P ++ firstL (rowB t a j)).length ≤ 100000 := by rw [List.length_append]; omega
              go_wp2_with (at_builtin; refine app_one elMt rfl _ _ rfl rfl rfl (by simp) (O3.out) ((Below.refl _ _)) rfl (by intro u hu; simp at hu; first | (subst hu; rfl) | (rcases hu with rfl | rfl <;> rfl) | (rcases hu with rfl | rfl | rfl <;> rfl) | (rcases hu with rfl | rfl | rfl | rfl <;> rfl)) (hz4) (by omega) ?_; intro v' w4 hown4 hb4 hg4; have HO4 := Lib.hid hown4; clear hown4)
              go_roundw
              case rel =>
                refine ⟨j + 1, b + 1, rfl, by have := HB1.out; omega, by omega, ?_, Lib.hid (T3.out.grown hg4.grown T3.out.size (fun k hk => own_ge O3.out hk))⟩
                refine Lib.hid ?_
                rw [HB.out, HE.out, firstL_append, HF.out, ← List.append_assoc, flat4_snoc, List.length_append]
                simpa [ints] using HO4.out
              case measure => simp [intOf]; omega
          · have hz' : (p % b != 0) = true := by rw [← hpe]; simp [hz]
            have HE := Lib.hid (show ent t a b = [] by rw [HEN.out, if_neg hz])
            clear hz hpe
            go_wp2_with fail
            go_roundw
            case rel => exact ⟨j + 1, b + 1, rfl, by have := HB1.out; omega, by omega, Lib.hid (by rw [HB.out, HE.out, List.append_nil]; exact O.out), T⟩
            case measure => simp [intOf]; omega
        · obtain rfl : b = p + 1 := by omega
          have hj : j = p.toNat := by omega
          clear hb HB1
          have HX := Lib.hid (show P ++ firstL (rowB t a j) = firstL (rowA t (i + 1)) by rw [HA.out, firstL_append, HQ.out, hj])
          clear hj
          rw [HX.out] at O
          have hlb2 : ¬ (p + 1 ≤ p) := by omega
          go_wp2_with fail
          go_roundw
          case rel => exact ⟨i + 1, a + 1, rfl, by have := HA1.out; omega, by omega, O, T⟩
          case measure => simp [intOf]; omega
    · obtain rfl : a = t := by omega
      have HX := Lib.hid (show rowA a i = enumL a by rw [enumL, show (a - 1).toNat = i by omega])
      clear ha HA1
      rw [HX.out] at O
      go_wp2_with fail
      go_ret2
      exact ⟨_, rfl, O.out, T.out⟩
end Go.Proofs.Ytencfmipplgnkaa
