/- Contracts: the line of a level, the number of a coset. -/
import Derived.Test.YtjkemnnkgihefaaGreatC61
import Derived.Test.YtjkemnnkgihefaaGreatR3
namespace Go.Proofs.YtjkemnnkgihefaaGreat
open Go.RowKit
theorem elP : Elem Tryz.prog 60 64 (.agg #[.int .i64 0, .int .i64 0]) 2 16 := elem_of Tryz.underlying60 (by kernel_rfl) rfl (by omega) (by omega)
theorem elS : Elem Tryz.prog 41 46 (.slice none 0 0) 1 24 := elem_of Tryz.underlying41 (by kernel_rfl) rfl (by omega) (by omega)
set_option maxRecDepth 100000 in
theorem eqPair (a b a' b' : Int) (w : World) : (Op.equalIn 10000 64 (.agg #[.int .i64 a, .int .i64 b]) (.agg #[.int .i64 a', .int .i64 b'])).run Tryz.prog w = .ok (a == a' && b == b') w :=
  run_equalIn_arr2 Tryz.underlying64 ⟨_, rfl⟩ Tryz.underlying2 (by kernel_rfl) (fun x y w => ⟨by kernel_rfl, by kernel_rfl⟩) a b a' b' w
attribute [local go_sem] eqPair
theorem selfB_eq {n c d : Int} (h : isPairB n c d = true) : ((normal n c d).x == c && (normal n c d).y == d) = selfB n c d := by
  unfold selfB
  rw [h, Bool.true_and, Bool.eq_iff_iff]
  simp only [Bool.and_eq_true, beq_iff_eq, decide_eq_true_eq]
  constructor
  · rintro ⟨h1, h2⟩
    generalize normal n c d = p at *
    obtain ⟨x, y⟩ := p
    simp only at h1 h2
    rw [h1, h2]
  · intro h1; rw [h1]; exact ⟨rfl, rfl⟩
theorem row_yes {n c : Int} {d : Nat} (h : selfB n c d = true) : lineRow n c (d + 1) = lineRow n c d ++ [⟨c, d⟩] := by
  show lineRow n c d ++ (if _ then _ else _) = _
  rw [if_pos h]
theorem row_no {n c : Int} {d : Nat} (h : selfB n c d = false) : lineRow n c (d + 1) = lineRow n c d := by
  show lineRow n c d ++ (if _ then _ else _) = _
  rw [if_neg (by rw [h]; simp)]; simp
structure LBd (n : Int) (N c d : Nat) : Prop where
  a : (lineTo n N c).length ≤ 3600
  b : (lineTo n N c ++ lineRow n c d).length ≤ 3660
theorem lBd {n : Int} {N c d : Nat} (h1 : N ≤ 60) (h2 : c ≤ 60) (h3 : d ≤ 60) : LBd n N c d := by
  have e1 := lineTo_len n N c
  have e2 := lineRow_len n c d
  have e3 : c * N ≤ 60 * 60 := Nat.mul_le_mul h2 h1
  refine ⟨by omega, ?_⟩
  rw [List.length_append]; omega
set_option maxRecDepth 100000 in
set_option maxHeartbeats 4000000 in
theorem line_any (N : Nat) (w : World) (n0 : 0 < N) (n1 : N ≤ 60) :
    Calls Tryz.prog 40 #[(.int .i64 ((N : Int)))] w fun e w' => ∃ v, e = .returned v ∧ w'.ownsRow w.heap.size 64 2 v (lineL N).length (ints (flat2 (lineL N))) ∧ Below w.heap.size w w' := by
  rw [show lineL (N : Int) = lineTo N N N by unfold lineL; rw [Int.toNat_natCast]]
  go_enter Tryz.func40, Tryz.ntmps40
  go_wp2_with fail
  go_loopw [3, 9] (fun v i wr => ∃ c : Nat, i = (.int .i64 ((c : Int))) ∧ c ≤ N ∧ Hid (wr.ownsRow w.heap.size 64 2 v (lineTo N N c).length (ints (flat2 (lineTo N N c)))) ∧ Below w.heap.size w wr) (fun _ i _ => N - (intOf i).toNat)
  case atStart => exact ⟨0, rfl, Nat.zero_le _, Lib.hid (World.ownsRow_lit w #[] 0 (Nat.le_refl _) (by simp [maxLen]) rfl), by go_grown⟩
  case round =>
    obtain ⟨c, rfl, hc, HO, hb⟩ := hrel
    obtain ⟨wo, rfl⟩ : ∃ wo : World, wo = wr := ⟨_, rfl⟩
    by_cases hlt : c < N
    · go_wp2_with fail
      go_loopw [3, 13] (fun v i wr => ∃ d : Nat, i = (.int .i64 ((d : Int))) ∧ d ≤ N ∧ Hid (wr.ownsRow w.heap.size 64 2 v (lineTo N N c ++ lineRow N c d).length (ints (flat2 (lineTo N N c ++ lineRow N c d)))) ∧ Below w.heap.size w wr) (fun _ i _ => N - (intOf i).toNat)
      case atStart => exact ⟨0, rfl, Nat.zero_le _, Lib.hid (by simpa [lineRow] using HO.out), hb⟩
      case round =>
        obtain ⟨d, rfl, hd, HO2, hb2⟩ := hrel
        have hsz := hb2.size
        by_cases hlt2 : d < N
        · have hlb := (lBd (n := (N : Int)) n1 (show c ≤ 60 by omega) (show d ≤ 60 by omega)).b
          have HI := Lib.hid (fun W => isPair_any (N : Int) c d W (by omega) (by omega) (by omega) (by omega) (by omega) (by omega))
          have HM := Lib.hid (fun W => normal_any N c d W n0 (by omega) ⟨by omega, by omega⟩ ⟨by omega, by omega⟩)
          cases hp : isPairB (N : Int) c d
          · have HV := Lib.hid (row_no (show selfB (N : Int) c d = false by simp [selfB, hp]))
            rw [hp] at HI
            clear hp HM
            go_wp2_with fail
            refine wp_region_ext (by kernel_rfl) (by kernel_rfl) ?_
            repeat (go_big_quiet_step (first | ((go_at_call 48; refine Calls.ext_of (Nat.le_refl _) (HI.out _)))))
            refine wpQuiet_nil ?_
            intro w6 hb6
            obtain ⟨hc6, hf6⟩ := bcell hb6
            go_wp2_with fail
            have hB6 : Below w.heap.size w w6 := bfin (by go_grown) hb6
            go_roundw
            case rel => exact ⟨d + 1, by go_num, by omega, Lib.hid (by rw [HV.out]; exact own_below (HO2.out.alloc _) hb6), hB6⟩
            case measure => simp [intOf]; omega
          · have HS := Lib.hid (selfB_eq hp)
            have HRY := Lib.hid (@row_yes N c d)
            have HRN := Lib.hid (@row_no N c d)
            rw [hp] at HI
            clear hp
            generalize selfB (N : Int) c d = sb at *
            generalize (normal (N : Int) c d).x = X at *
            generalize (normal (N : Int) c d).y = Y at *
            cases sb
            · have hE := HS.out
              have HV := Lib.hid (HRN.out rfl)
              go_wp2_with fail
              refine wp_region_ext (by kernel_rfl) (by kernel_rfl) ?_
              repeat (go_big_quiet_step (first | ((go_at_call 48; refine Calls.ext_of (Nat.le_refl _) (HI.out _))) | ((go_at_call 49; refine Calls.ext_of (Nat.le_refl _) (HM.out _)))))
              refine wpQuiet_nil ?_
              intro w6 hb6
              obtain ⟨hc6, hf6⟩ := bcell hb6
              go_wp2_with fail
              have hB6 : Below w.heap.size w w6 := bfin (by go_grown) hb6
              go_roundw
              case rel => exact ⟨d + 1, by go_num, by omega, Lib.hid (by rw [HV.out]; exact own_below (HO2.out.alloc _) hb6), hB6⟩
              case measure => simp [intOf]; omega
            · have hE := HS.out
              have HV := Lib.hid (HRY.out rfl)
              go_wp2_with fail
              refine wp_region_ext (by kernel_rfl) (by kernel_rfl) ?_
              repeat (go_big_quiet_step (first | ((go_at_call 48; refine Calls.ext_of (Nat.le_refl _) (HI.out _))) | ((go_at_call 49; refine Calls.ext_of (Nat.le_refl _) (HM.out _)))))
              refine wpQuiet_nil ?_
              intro w6 hb6
              obtain ⟨hc6, hf6⟩ := bcell hb6
              have hB6 : Below w.heap.size w w6 := bfin (by go_grown) hb6
              have hs6 := hB6.size
              go_wp2_with (at_builtin; refine app_one elP rfl _ _ rfl rfl rfl (by simp) (own_below (HO2.out.alloc _) hb6) (hB6) rfl (by intro u hu; simp at hu; first | (subst hu; rfl) | (rcases hu with rfl | rfl <;> rfl) | (rcases hu with rfl | rfl | rfl <;> rfl) | (rcases hu with rfl | rfl | rfl | rfl <;> rfl)) (hs6) (by omega) ?_; intro v' w7 hown7 hb7 hg7; have HO7 := Lib.hid hown7; clear hown7 hg7)
              go_roundw
              case rel => exact ⟨d + 1, by go_num, by omega, Lib.hid (by rw [HV.out, ← List.append_assoc, flat2_snoc]; simpa [ints, Nat.add_assoc] using HO7.out), hb7⟩
              case measure => simp [intOf]; omega
        · obtain rfl : d = N := by omega
          go_wp2_with fail
          go_roundw
          case rel => exact ⟨c + 1, by go_num, by omega, Lib.hid HO2.out, hb2⟩
          case measure => simp [intOf]; omega
    · obtain rfl : c = N := by omega
      go_wp2_with fail
      go_ret
      exact ⟨_, rfl, HO.out, hb⟩
/-- The rows of a line. -/
def lineXs (l : List P2) : List (List Int) := l.map fun p => [p.x, p.y]
theorem lineXs_at {l : List P2} {k : Nat} (h : k < l.length) : (lineXs l).getD k [] = [l[k].x, l[k].y] := by
  simp [lineXs, List.getD, List.getElem?_eq_getElem h]
theorem lineXs_snoc (l : List P2) (p : P2) (i : Nat) (hi : i < l.length + 1) : (lineXs (l ++ [p])).getD i [] = if i = l.length then [p.x, p.y] else (lineXs l).getD i [] := by
  by_cases h : i = l.length
  · subst h; simp [lineXs, List.getD]
  · rw [if_neg h]
    have : i < l.length := by omega
    simp [lineXs, List.getD, List.getElem?_append_left, this]
def lenX (xss : List (List Int)) (i : Nat) : Nat := (xss.getD i []).length
def intX (xss : List (List Int)) (i : Nat) : List Value := ints (xss.getD i [])
abbrev LineSS (w : World) (B : Nat) (v : Value) (l : List P2) (inn : List Value) : Prop := SS w B v l.length inn (lenX (lineXs l)) (intX (lineXs l))
theorem LineSS.push {wr w' : World} {B : Nat} {v v' : Value} {l : List P2} {inn : List Value} {p : P2} (h : LineSS wr B v l inn) (hB : B ≤ wr.heap.size)
    (ho : w'.ownsRow B 46 1 v' (l.length + 1) (inn ++ [.slice (some ⟨wr.heap.size, 0, none⟩) 2 2])) (ha : App (wr.alloc (.cells #[(.int .i64 p.x), (.int .i64 p.y)] 2)) w' v v') :
    LineSS w' B v' (l ++ [p]) (inn ++ [.slice (some ⟨wr.heap.size, 0, none⟩) 2 2]) := by
  have e : (l ++ [p]).length = l.length + 1 := by simp
  have := OwnsSS.push (vs := #[(.int .i64 p.x), (.int .i64 p.y)]) ss_ne h hB rfl (by simp [maxLen]) ho ha
  unfold LineSS
  rw [e]
  refine this.congr (fun i hi => ?_) (fun i hi => ?_)
  · unfold lenX; rw [lineXs_snoc l p i hi]; split <;> rfl
  · unfold intX; rw [lineXs_snoc l p i hi]; split
    · simp [ints]
    · rfl
theorem nrmV_yes {n c d : Int} (h : isPairB n c d = true) : nrmV n c d = .tuple #[(.int .i64 ((normal n c d).x)), (.int .i64 ((normal n c d).y)), .bool true] := by unfold nrmV; rw [if_pos h]
theorem nrmV_no {n c d : Int} (h : isPairB n c d = false) : nrmV n c d = .tuple #[(.int .i64 0), (.int .i64 0), .bool false] := by unfold nrmV; rw [if_neg (by rw [h]; simp)]
set_option maxRecDepth 100000 in
set_option maxHeartbeats 4000000 in
theorem l06Line_any (N : Nat) (w : World) (n0 : 0 < N) (n1 : N ≤ 60) :
    Calls Tryz.prog 42 #[(.int .i64 ((N : Int)))] w fun e w' => ∃ v inn, e = .returned v ∧ LineSS w' w.heap.size v (lineL N) inn ∧ Below w.heap.size w w' := by
  rw [show lineL (N : Int) = lineTo N N N by unfold lineL; rw [Int.toNat_natCast]]
  go_enter Tryz.func42, Tryz.ntmps42
  go_wp2_with fail
  go_loopw [3, 4] (fun v i wr => ∃ c : Nat, i = (.int .i64 ((c : Int))) ∧ c ≤ N ∧ Hid (∃ inn, LineSS wr w.heap.size v (lineTo N N c) inn) ∧ Below w.heap.size w wr) (fun _ i _ => N - (intOf i).toNat)
  case atStart => exact ⟨0, rfl, Nat.zero_le _, Lib.hid ⟨[], OwnsSS.lit0 w w.heap.size _ _ _ _ (Nat.le_refl _)⟩, by go_grown⟩
  case round =>
    obtain ⟨c, rfl, hc, HO, hb⟩ := hrel
    obtain ⟨wo, rfl⟩ : ∃ wo : World, wo = wr := ⟨_, rfl⟩
    by_cases hlt : c < N
    · go_wp2_with fail
      go_loopw [3, 5] (fun v i wr => ∃ d : Nat, i = (.int .i64 ((d : Int))) ∧ d ≤ N ∧ Hid (∃ inn, LineSS wr w.heap.size v (lineTo N N c ++ lineRow N c d) inn) ∧ Below w.heap.size w wr) (fun _ i _ => N - (intOf i).toNat)
      case atStart => exact ⟨0, rfl, Nat.zero_le _, Lib.hid (by simpa [lineRow] using HO.out), hb⟩
      case round =>
        obtain ⟨d, rfl, hd, HO2, hb2⟩ := hrel
        have hsz := hb2.size
        by_cases hlt2 : d < N
        · have hlb := (lBd (n := (N : Int)) n1 (show c ≤ 60 by omega) (show d ≤ 60 by omega)).b
          have HM := Lib.hid (fun W => l06Normal_any N c d W n0 (by omega) ⟨by omega, by omega⟩ ⟨by omega, by omega⟩)
          cases hp : isPairB (N : Int) c d
          · have HV := Lib.hid (row_no (show selfB (N : Int) c d = false by simp [selfB, hp]))
            rw [nrmV_no hp] at HM
            clear hp
            go_wp2_with fail
            refine (HM.out _).mono ?_; rintro e w6 ⟨rfl, hb6⟩
            go_wp2_with fail
            go_roundw
            case rel => exact ⟨d + 1, by go_num, by omega, Lib.hid (by rw [HV.out]; obtain ⟨inn, h⟩ := HO2.out; exact ⟨inn, h.below hb6⟩), hb2.trans (hb6.mono hsz)⟩
            case measure => simp [intOf]; omega
          · have HS := Lib.hid (selfB_eq hp)
            have HRY := Lib.hid (@row_yes N c d)
            have HRN := Lib.hid (@row_no N c d)
            rw [nrmV_yes hp] at HM
            clear hp
            generalize selfB (N : Int) c d = sb at *
            generalize (normal (N : Int) c d).x = X at *
            generalize (normal (N : Int) c d).y = Y at *
            cases sb
            · have HV := Lib.hid (HRN.out rfl)
              have hE := HS.out
              have hE2 : (X == (c : Int)) = false ∨ ((X == (c : Int)) = true ∧ (Y == (d : Int)) = false) := by
                revert hE; cases (X == (c : Int)) <;> cases (Y == (d : Int)) <;> simp
              clear hE
              rcases hE2 with hE | ⟨hE, hE'⟩
              all_goals
                go_wp2_with fail
                refine (HM.out _).mono ?_; rintro e w6 ⟨rfl, hb6⟩
                go_wp2_with fail
                go_roundw
                case rel => exact ⟨d + 1, by go_num, by omega, Lib.hid (by rw [HV.out]; obtain ⟨inn, h⟩ := HO2.out; exact ⟨inn, h.below hb6⟩), hb2.trans (hb6.mono hsz)⟩
                case measure => simp [intOf]; omega
            · have HV := Lib.hid (HRY.out rfl)
              have hE := HS.out
              have hE2 : (X == (c : Int)) = true ∧ (Y == (d : Int)) = true := by
                revert hE; cases (X == (c : Int)) <;> cases (Y == (d : Int)) <;> simp
              obtain ⟨hE1, hE3⟩ := hE2
              clear hE
              obtain ⟨inn, HO3⟩ := HO2.out
              have HO3 := Lib.hid HO3
              go_wp2_with fail
              refine (HM.out _).mono ?_; rintro e w6 ⟨rfl, hb6⟩
              have hB6 := hb2.trans (hb6.mono hsz)
              have hs6 := hB6.size
              go_wp2_with (at_builtin; refine app_one elS rfl _ _ rfl rfl rfl (by simp) ((own_below HO3.out.out hb6).alloc _) (hB6.alloc hs6 _) rfl (by intro u hu; simp at hu; first | (subst hu; rfl) | (rcases hu with rfl | rfl <;> rfl) | (rcases hu with rfl | rfl | rfl <;> rfl) | (rcases hu with rfl | rfl | rfl | rfl <;> rfl)) (Nat.le_trans hs6 (by simp)) (by omega) ?_; intro v' w7 hown7 hb7 hg7; have HO7 := Lib.hid hown7; clear hown7)
              have HP := Lib.hid (LineSS.push (p := ⟨(c : Int), (d : Int)⟩) (HO3.out.below hb6) hs6 HO7.out hg7)
              clear hg7
              go_wp2_with fail
              go_roundw
              case rel => exact ⟨d + 1, by go_num, by omega, Lib.hid ⟨_, by rw [HV.out, ← List.append_assoc]; exact HP.out⟩, hb7⟩
              case measure => simp [intOf]; omega
        · obtain rfl : d = N := by omega
          go_wp2_with fail
          go_roundw
          case rel => exact ⟨c + 1, by go_num, by omega, Lib.hid HO2.out, hb2⟩
          case measure => simp [intOf]; omega
    · obtain rfl : c = N := by omega
      go_wp2_with fail
      go_ret
      obtain ⟨inn, h⟩ := HO.out
      exact ⟨_, inn, rfl, h, hb⟩
end Go.Proofs.YtjkemnnkgihefaaGreat
