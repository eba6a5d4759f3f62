/- Contracts: the numbers of cusps, the model's own. -/
import Derived.Test.YtjkemnnkgihefaaC98
namespace Go.Proofs.Ytjkemnnkgihefaa
open Go.RowKit
/-- The coset behind each coset, for T. -/
def cosP (n : Int) : List Int := movedL n (lineL n) 1 1 0 1
theorem cosP_len (n : Int) : (cosP n).length = (lineL n).length := movedL_len _ _ _ _ _ _
theorem cosP_at {n : Int} {k : Nat} (h : k < (lineL n).length) : (cosP n).getD k 0 = cosetI n (lineL n) (lineL n)[k].x ((lineL n)[k].x + (lineL n)[k].y) := by
  unfold cosP
  rw [movedL_at h, Int.mul_one, Int.mul_zero, Int.mul_one, Int.add_zero]
theorem cosP_in {N : Nat} (n0 : 0 < N) : PIn (cosP N) := by
  have key : ∀ k, k < (cosP N).length → 0 ≤ (cosP N).getD k 0 ∧ (cosP N).getD k 0 < (cosP N).length := fun k hk => by
    rw [cosP_len] at hk ⊢
    rw [cosP_at hk]
    have h := line_bd n0 hk
    exact coset_in (by omega) (pair_T h.pair)
  exact ⟨fun k hk => (key k hk).1, fun k hk => (key k hk).2⟩
theorem rep_snoc (k : Nat) : List.replicate (k + 1) (-1 : Int) = List.replicate k (-1) ++ [-1] := by rw [List.replicate_succ']
set_option maxRecDepth 100000 in
set_option maxHeartbeats 4000000 in
theorem l06Cusps_any (N : Nat) (v : Value) (B : Nat) (inn : List Value) (w : World) (n0 : 0 < N) (n1 : N ≤ 60) (h : LineSS w B v (lineL N) inn) :
    Calls Try.prog 37 #[(.int .i64 ((N : Int))), v] w fun e w' => ∃ u, e = .returned (.tuple #[u, (.int .i64 ((cusN (cosP N) (cosP N).length).2))]) ∧ w'.ownsRow w.heap.size 2 1 u (lineL N).length (ints (cusN (cosP N) (cosP N).length).1) ∧ Below w.heap.size w w' := by
  have hl := lineL_len (n := (N : Int)) (by omega)
  have HP := Lib.hid (cosP_in n0)
  have HI := Lib.hid (fun k h => line_bd n0 (k := k) h)
  have HC := Lib.hid (fun c d W hp h => l06Number_any N v B (lineL N) inn c d W n0 n1 (by omega) hp h)
  have HT := Lib.hid (fun k h => cosP_at (n := (N : Int)) (k := k) h)
  have HPl := Lib.hid (cosP_len (N : Int))
  have H := Lib.hid h
  obtain ⟨A, cap, rfl, hcap, hmax, -⟩ := own_view h.out
  unfold maxLen at hmax
  clear h
  generalize cosP (N : Int) = p at *
  generalize lineL (N : Int) = L at *
  have HV := Lib.hid (fun i hi => cusInv HP.out i hi)
  rw [HPl.out]
  rw [HPl.out] at HV
  have HG := Lib.hid (fun i h => @cusN_go p i h)
  have HN := Lib.hid (fun i h => @cusN_no p i h)
  have HZ := Lib.hid (show (cusN p 0).1 = List.replicate L.length (-1) by rw [← HPl.out]; rfl)
  have HZ2 := Lib.hid (show (cusN p 0).2 = 0 from rfl)
  generalize hcu : cusN p = cu at *
  clear hcu
  go_enter Try.func37, Try.ntmps37
  go_wp2_with fail
  go_loopw [6, 8] (fun u i wr => ∃ k : Nat, i = (.int .i64 ((k : Int))) ∧ k ≤ L.length ∧ Hid (wr.ownsRow w.heap.size 2 1 u k (ints (List.replicate k (-1)))) ∧ Below w.heap.size w wr) (fun _ i _ => L.length - (intOf i).toNat)
  case atStart => exact ⟨0, rfl, Nat.zero_le _, Lib.hid (World.ownsRow_lit w #[] 0 (Nat.le_refl _) (by simp [maxLen]) rfl), by go_grown⟩
  case round =>
    obtain ⟨k, rfl, hk, HO, hb⟩ := hrel
    have hsz := hb.size
    by_cases hlt : k < L.length
    · skip
      go_wp2_with (at_builtin; refine app_one elI rfl _ _ rfl rfl rfl (by simp) (HO.out) (hb) rfl (by intro u hu; simp at hu; first | (subst hu; rfl) | (rcases hu with rfl | rfl <;> rfl) | (rcases hu with rfl | rfl | rfl <;> rfl) | (rcases hu with rfl | rfl | rfl | rfl <;> rfl)) (hsz) (by omega) ?_; intro v' w3 hown3 hb3 hg3; have HO3 := Lib.hid hown3; clear hown3 hg3)
      go_roundw
      case rel => exact ⟨k + 1, by go_num, by omega, Lib.hid (by rw [rep_snoc]; simpa [ints] using HO3.out), hb3⟩
      case measure => simp [intOf]; omega
    · obtain rfl : k = L.length := by omega
      obtain ⟨A6, cap6, rfl, hcap6, hmax6, -⟩ := own_view HO.out
      unfold maxLen at hmax6
      have HO' := Lib.hid (show wr.ownsRow w.heap.size 2 1 (.slice A6 L.length cap6) L.length (ints (cu 0).1) by rw [HZ.out]; exact HO.out)
      obtain ⟨wo, rfl⟩ : ∃ wo : World, wo = wr := ⟨_, rfl⟩
      clear HO
      go_wp2_with fail
      go_loopw [7, 9] (fun c i wr => ∃ k : Nat, c = (.int .i64 ((cu k).2)) ∧ i = (.int .i64 ((k : Int))) ∧ k ≤ L.length ∧ Hid (wr.ownsRow w.heap.size 2 1 (.slice A6 L.length cap6) L.length (ints (cu k).1)) ∧ Below w.heap.size w wr) (fun _ i _ => L.length - (intOf i).toNat)
      case atStart => exact ⟨0, by rw [HZ2.out], rfl, Nat.zero_le _, HO', hb⟩
      case round =>
        obtain ⟨i, rfl, rfl, hi, HO, hb⟩ := hrel
        have HIv := Lib.hid (HV.out i hi)
        have HGi := Lib.hid (HG.out i)
        have HNi := Lib.hid (HN.out i)
        have kc0 := HIv.out.c0
        have kc1 := HIv.out.c1
        have hNl : (cu i).1.length = L.length := by rw [← HPl.out]; exact HIv.out.len
        by_cases hlt : i < L.length
        · have hx0 := HIv.out.lo i (by rw [HPl.out]; exact hlt)
          have hx1 := HIv.out.hi i (by rw [HPl.out]; exact hlt)
          obtain ⟨b6, rfl, hb6g, hb6l, hc6, hf6⟩ := (own_at HO.out) (by omega)
          have g1 := hc6 i _ (ints_at (by omega))
          clear hc6 hf6
          by_cases hN : (cu i).1.getD i 0 < 0
          · have HE := Lib.hid (HGi.out hN)
            have HS := Lib.hid (show ChAt2 p (cu i).2 (chainN p (cu i).2 p.length (cu i).1 i) L.length (cu i).1 i [] from
              ⟨HIv.out.len, by rw [HPl.out]; exact hlt, by rw [HPl.out], by rw [← hNl]; exact negs_le _, by simp, fun x => ⟨fun hx => by simp at hx, fun ⟨x0, x1, x2⟩ => by
                have := HIv.out.hi x.toNat (by omega)
                omega⟩⟩)
            clear HIv HGi HNi
            obtain ⟨NF, hNF⟩ : ∃ NF, chainN p (cu i).2 p.length (cu i).1 i = NF := ⟨_, rfl⟩
            rw [hNF] at HE HS
            clear hNF hNl
            have hE1 : (cu (i + 1)).1 = NF := by rw [HE.out]
            have hE2 : (cu (i + 1)).2 = (cu i).2 + 1 := by rw [HE.out]
            have HE1 := Lib.hid hE1
            have HE2 := Lib.hid hE2
            clear hE1 hE2 HE
            generalize (cu i).2 = c at *
            generalize (cu i).1 = N0 at *
            generalize N0.getD i 0 = x at *
            go_wp2_with fail
            go_loopg [10] L.length (fun g a wr => ∃ (k : Nat) (M O : List Int), a = (.int .i64 ((k : Int))) ∧ Hid (ChAt2 p c NF g M k O) ∧ Hid (wr.ownsRow w.heap.size 2 1 (.slice (some ⟨b6, 0, none⟩) L.length cap6) L.length (ints M)) ∧ Below w.heap.size w wr)
            case atStart => exact ⟨i, N0, [], rfl, HS, HO, hb⟩
            case round =>
              obtain ⟨k, M, O, rfl, HA, HO, hb⟩ := hrel
              have hsz := hb.size
              have hk : k < L.length := by rw [← HPl.out]; exact HA.out.k0
              have hMl : M.length = L.length := by rw [← HPl.out]; exact HA.out.len
              obtain ⟨b6', hb6', -, hb6l, hc6, hf6⟩ := (own_at HO.out) (by omega)
              injection hb6' with hb6'
              injection hb6' with hb6'
              subst hb6'
              have g2 := hc6 k _ (ints_at (l := M) (by omega))
              have g3 := hf6 k
              clear hc6 hf6
              by_cases hM : M.getD k 0 < 0
              · obtain ⟨g', rfl, hnx⟩ := HA.out.next HP.out hM kc0
                have HNx := Lib.hid hnx
                generalize M.getD k 0 = y at *
                have hbs : Below w.heap.size w (wr.setCell ⟨b6, k, none⟩ (.int .i64 c)) := by go_grown
                have HX := Lib.hid (show (wr.setCell ⟨b6, k, none⟩ (.int .i64 c)).ownsRow w.heap.size 2 1 (.slice (some ⟨b6, 0, none⟩) L.length cap6) L.length (ints (M.set k c)) by rw [← ints_setC]; exact own_set (j := k) (u := (.int .i64 c)) HO.out)
                go_wp2_with fail
                generalize wr.setCell ⟨b6, k, none⟩ (.int .i64 c) = W1 at *
                have G := Lib.hid (H.out.below hbs)
                obtain ⟨u, hu, ho⟩ := G.out.at_ hk
                rw [show lenX (lineXs L) k = 2 by unfold lenX; rw [lineXs_at hk]; rfl, show intX (lineXs L) k = [.int .i64 L[k].x, .int .i64 L[k].y] by unfold intX; rw [lineXs_at hk]; rfl] at ho
                obtain ⟨A1, c1, rfl, z1, z2, R1⟩ := own_view ho
                obtain ⟨b1, rfl, -, hl1, hc1, -⟩ := R1 (by omega)
                obtain ⟨b, rfl, -, hl0, hc, -⟩ := (own_at G.out.out) (by omega)
                have h1 := hc k _ hu
                have h2 := hc1 0 _ rfl
                have h3 := hc1 1 _ rfl
                unfold maxLen at z2
                have hin := HI.out k hk
                have HTk := HT.out k hk
                have hpk := (HP.out.pk_lt (k := k) (by rw [HPl.out]; exact hk)).2
                rw [hpk] at HTk
                clear hc hc1 hu ho R1 hnx hpk
                generalize L[k] = q at *
                obtain ⟨q0, q1⟩ := q
                have hp2 := pair_T hin.pair
                obtain ⟨i0, i1, i2, i3, -, -⟩ := hin
                simp only at h2 h3 i0 i1 i2 i3 HTk hp2
                have HCq := Lib.hid (fun W h => HC.out q0 (q0 + q1) W hp2 h)
                rw [← HTk] at HCq
                clear hp2 HTk
                refine wp_region_ext (by kernel_rfl) (by kernel_rfl) ?_
                repeat (go_big_quiet_step (first | ((go_at_call 38; refine Calls.ext_of (Nat.le_refl _) (HCq.out _ (OwnsSS.below G.out (Ext.h _)))))))
                refine wpQuiet_nil ?_
                intro w7 hb7
                obtain ⟨hc7, hf7⟩ := bcell hb7
                go_wp2_with fail
                go_roundg g'
                case measure => omega
                case rel => exact ⟨pk p k, M.set k c, O ++ [(k : Int)], rfl, HNx, Lib.hid (own_below HX.out hb7), hbs.trans (hb7.mono hbs.size)⟩
              · obtain rfl := HA.out.stop hM
                generalize NF.getD k 0 = y at *
                go_wp2_with fail
                go_roundw
                case rel => exact ⟨i + 1, by rw [HE2.out], by go_num, by omega, Lib.hid (by rw [HE1.out]; exact HO.out), hb⟩
                case measure => simp [intOf]; omega
          · have HE := Lib.hid (HNi.out (by omega))
            generalize (cu i).1.getD i 0 = x at *
            go_wp2_with fail
            go_roundw
            case rel => exact ⟨i + 1, by rw [HE.out], by go_num, by omega, Lib.hid (by rw [HE.out]; exact HO.out), hb⟩
            case measure => simp [intOf]; omega
        · obtain rfl : i = L.length := by omega
          go_wp2_with fail
          go_ret2
          exact ⟨_, rfl, HO.out, hb⟩
end Go.Proofs.Ytjkemnnkgihefaa
