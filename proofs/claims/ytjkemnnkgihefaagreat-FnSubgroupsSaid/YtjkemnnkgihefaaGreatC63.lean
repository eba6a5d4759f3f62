/- Contracts: the number of a coset; the law CosetOf. -/
import Derived.Test.YtjkemnnkgihefaaGreatC62
import Derived.Deep.RegionHeld3
namespace Go.Proofs.YtjkemnnkgihefaaGreat
open Go.RowKit
attribute [local go_sem] eqPair
theorem flat2_at {l : List P2} {k : Nat} (h : k < l.length) : (ints (flat2 l))[k * 2]? = some (.int .i64 l[k].x) ∧ (ints (flat2 l))[k * 2 + 1]? = some (.int .i64 l[k].y) := by
  induction l generalizing k with
  | nil => simp at h
  | cons p l ih =>
    cases k with
    | zero => simp [flat2, ints]
    | succ k =>
      have := ih (k := k) (by simpa using h)
      have e : ints (flat2 (p :: l)) = .int .i64 p.x :: .int .i64 p.y :: ints (flat2 l) := by simp [flat2, ints]
      rw [e, show (k + 1) * 2 = k * 2 + 1 + 1 by omega]
      simp only [List.getElem?_cons_succ, List.getElem_cons_succ]
      exact this
theorem findI_step {p : P2} {l : List P2} {k : Nat} (hk : k < l.length) (hb : ∀ j (hj : j < l.length), j < k → l[j] ≠ p) (h : l[k] = p) : findI p l 0 = k := by
  rw [findI_hit hk h (fun j hj => hb j (by omega) hj) 0]; omega
theorem findI_end {p : P2} {l : List P2} (hb : ∀ j (hj : j < l.length), j < l.length → l[j] ≠ p) : findI p l 0 = -1 := by
  refine findI_none (fun hm => ?_) 0
  obtain ⟨j, hj, e⟩ := List.getElem_of_mem hm
  exact hb j hj hj e
theorem p2_eq {p q : P2} : (p.x == q.x && p.y == q.y) = decide (p = q) := by
  obtain ⟨a, b⟩ := p
  obtain ⟨c, d⟩ := q
  rw [Bool.eq_iff_iff]
  simp
set_option maxRecDepth 100000 in
set_option maxHeartbeats 2000000 in
theorem index_any (A : Option Addr) (cap B : Nat) (l : List P2) (p : P2) (w : World) (hl : l.length ≤ 4000) (h : RowAt w B A l.length (ints (flat2 l))) :
    Calls Tryz.prog 66 #[.slice A l.length cap, (.agg #[.int .i64 p.x, .int .i64 p.y])] w fun e w' => e = .returned (.int .i64 (findI p l 0)) ∧ Below w.heap.size w w' := by
  have H := Lib.hid h
  clear h
  have HP := Lib.hid (fun q => @p2_eq p q)
  obtain ⟨R, hR⟩ : ∃ R, findI p l 0 = R := ⟨_, rfl⟩
  have HR := Lib.hid hR
  rw [hR]
  clear hR
  have HH := Lib.hid (fun k hk hb h => @findI_step p l k hk hb h)
  have HN := Lib.hid (@findI_end p l)
  rw [HR.out] at HN
  obtain ⟨x, y⟩ := p
  simp only at HP
  go_enter Tryz.func66, Tryz.ntmps66
  go_wp2_with fail
  go_loopw [8] (fun i wr => ∃ k : Nat, i = (.int .i64 ((k : Int))) ∧ k ≤ l.length ∧ Hid ((∀ j (hj : j < l.length), j < k → l[j] ≠ ⟨x, y⟩) ∧ Blk2 wr w.heap.size 64 x y) ∧ Below w.heap.size w wr) (fun i _ => l.length - (intOf i).toNat)
  case atStart => exact ⟨0, rfl, Nat.zero_le _, Lib.hid ⟨fun j _ hj => by omega, heap_new⟩, by go_grown⟩
  case round =>
    obtain ⟨k, rfl, hk, HB, hb⟩ := hrel
    obtain ⟨⟨z0, z1⟩, ⟨fz0, fz1⟩, lz⟩ := HB.out.2.open_
    by_cases hlt : k < l.length
    · obtain ⟨b, rfl, -, hbl, hc, -⟩ := (H.out.below hb) (by omega)
      obtain ⟨hx, hy⟩ := flat2_at hlt
      have h1 := hc _ _ hx
      have h2 := hc _ _ hy
      have HE := Lib.hid (HP.out l[k])
      have HHk := Lib.hid (fun hb h => HH.out k hlt hb h)
      have HBn := Lib.hid (show l[k] ≠ ⟨x, y⟩ → ∀ j (hj : j < l.length), j < k + 1 → l[j] ≠ ⟨x, y⟩ from fun hne j hj hjk => by
        by_cases e : j = k
        · subst e; exact hne
        · exact HB.out.1 j hj (by omega))
      clear hc hx hy
      generalize l[k] = q at *
      by_cases he : q = ⟨x, y⟩
      · have hE : (x == q.x && y == q.y) = true := by rw [HE.out]; simp [he]
        have HV := Lib.hid (HHk.out HB.out.1 he)
        rw [HR.out] at HV
        have HE2 := Lib.hid he
        clear he
        go_wp2_with fail
        go_quiet (fail)
        go_wp2_with fail
        go_ret
        exact ⟨ret_int HV.out.symm, below_drewN hb _⟩
      · have hE : (x == q.x && y == q.y) = false := by rw [HE.out]; simp only [decide_eq_false_iff_not]; exact fun e => he e.symm
        have HE2 := Lib.hid (HBn.out he)
        clear he
        go_wp2_with fail
        go_quiet (fail)
        go_wp2_with fail
        go_roundw
        case rel => exact ⟨k + 1, by go_num, by omega, Lib.hid ⟨HE2.out, heap_drewN HB.out.2⟩, below_drewN hb _⟩
        case measure => simp [intOf]; omega
    · obtain rfl : k = l.length := by omega
      have HV := Lib.hid (HN.out HB.out.1)
      go_wp2_with fail
      go_ret
      exact ⟨ret_int HV.out.symm, hb⟩
theorem modB {c : Int} {N : Nat} (n0 : 0 < N) : 0 ≤ c % (N : Int) ∧ c % (N : Int) < N := ⟨Int.emod_nonneg c (by omega), Int.emod_lt_of_pos c (by omega)⟩
set_option maxRecDepth 100000 in
set_option maxHeartbeats 2000000 in
theorem coset_any (N : Nat) (A : Option Addr) (cap B : Nat) (l : List P2) (c d : Int) (w : World) (n0 : 0 < N) (n1 : N ≤ 60) (hl : l.length ≤ 4000) (h : RowAt w B A l.length (ints (flat2 l))) :
    Calls Tryz.prog 44 #[(.int .i64 ((N : Int))), .slice A l.length cap, (.int .i64 c), (.int .i64 d)] w fun e w' => e = .returned (.int .i64 (cosetI N l c d)) ∧ Below w.heap.size w w' := by
  have H1 := Lib.hid (fun W => rest_any c (N : Int) W (by omega) (by omega))
  have H2 := Lib.hid (fun W => rest_any d (N : Int) W (by omega) (by omega))
  have HM := Lib.hid (fun W => normal_any N (c % N) (d % N) W n0 (by omega) (modB n0) (modB n0))
  have HI := Lib.hid (fun W hb => index_any A cap B l (normal N (c % N) (d % N)) W hl (h.below hb))
  unfold cosetI
  clear h
  generalize c % (N : Int) = c' at *
  generalize d % (N : Int) = d' at *
  generalize normal (N : Int) c' d' = p at *
  go_enter Tryz.func44, Tryz.ntmps44
  go_wp2_with fail
  refine (H1.out _).mono ?_; rintro e w' ⟨rfl, rfl⟩
  go_wp2_with fail
  refine (H2.out _).mono ?_; rintro e w' ⟨rfl, rfl⟩
  go_wp2_with fail
  refine (HM.out _).mono ?_; rintro e w1 ⟨rfl, hb1⟩
  obtain ⟨hc1, hf1⟩ := bcell hb1
  go_wp2_with fail
  refine (HI.out _ hb1).mono ?_; rintro e w2 ⟨rfl, hb2⟩
  go_wp2_with fail
  go_ret
  exact ⟨rfl, hb1.trans (hb2.mono hb1.size)⟩
set_option maxRecDepth 100000 in
set_option maxHeartbeats 4000000 in
theorem l06Number_any (N : Nat) (v : Value) (B : Nat) (l : List P2) (inn : List Value) (c d : Int) (w : World) (n0 : 0 < N) (n1 : N ≤ 60) (hl : l.length ≤ 4000) (hp : isPairB N (c % N) (d % N) = true) (h : LineSS w B v l inn) :
    Calls Tryz.prog 45 #[(.int .i64 ((N : Int))), v, (.int .i64 c), (.int .i64 d)] w fun e w' => e = .returned (.int .i64 (cosetI N l c d)) ∧ Below w.heap.size w w' := by
  have H1 := Lib.hid (fun W => l01Mod_any c (N : Int) W (by omega) (by omega))
  have H2 := Lib.hid (fun W => l01Mod_any d (N : Int) W (by omega) (by omega))
  have HM := Lib.hid (fun W => l06Normal_any N (c % N) (d % N) W n0 (by omega) (modB n0) (modB n0))
  rw [nrmV_yes hp] at HM
  unfold cosetI
  have H := Lib.hid h
  obtain ⟨A, cap, rfl, hcap, hmax, -⟩ := own_view h.out
  unfold maxLen at hmax
  clear h hp
  generalize c % (N : Int) = c' at *
  generalize d % (N : Int) = d' at *
  generalize normal (N : Int) c' d' = p at *
  have HP := Lib.hid (fun q => @p2_eq p q)
  obtain ⟨R, hR⟩ : ∃ R, findI p l 0 = R := ⟨_, rfl⟩
  have HR := Lib.hid hR
  rw [hR]
  clear hR
  have HH := Lib.hid (fun k hk hb h => @findI_step p l k hk hb h)
  have HN := Lib.hid (@findI_end p l)
  rw [HR.out] at HN
  obtain ⟨x, y⟩ := p
  simp only at HP HM
  go_enter Tryz.func45, Tryz.ntmps45
  go_wp2_with fail
  refine (H1.out _).mono ?_; rintro e w' ⟨rfl, rfl⟩
  go_wp2_with fail
  refine (H2.out _).mono ?_; rintro e w' ⟨rfl, rfl⟩
  go_wp2_with fail
  refine (HM.out _).mono ?_; rintro e w1 ⟨rfl, hb1⟩
  go_wp2_with fail
  go_loopw [12] (fun i wr => ∃ k : Nat, i = (.int .i64 ((k : Int))) ∧ k ≤ l.length ∧ Hid (∀ j (hj : j < l.length), j < k → l[j] ≠ ⟨x, y⟩) ∧ Below w.heap.size w wr) (fun i _ => l.length - (intOf i).toNat)
  case atStart => exact ⟨0, rfl, Nat.zero_le _, Lib.hid (fun j _ hj => by omega), hb1⟩
  case round =>
    obtain ⟨k, rfl, hk, HB, hb⟩ := hrel
    by_cases hlt : k < l.length
    · have G := Lib.hid (H.out.below hb)
      obtain ⟨u, hu, ho⟩ := G.out.at_ hlt
      rw [show lenX (lineXs l) k = 2 by unfold lenX; rw [lineXs_at hlt]; rfl, show intX (lineXs l) k = [.int .i64 l[k].x, .int .i64 l[k].y] by unfold intX; rw [lineXs_at hlt]; rfl] at ho
      obtain ⟨A1, c1, rfl, q1, q2, R1⟩ := own_view ho
      obtain ⟨b1, rfl, -, -, hc1, -⟩ := R1 (by omega)
      obtain ⟨b, rfl, -, hl1, hc, -⟩ := (own_at G.out.out) (by omega)
      have h1 := hc k _ hu
      have h2 := hc1 0 _ rfl
      have h3 := hc1 1 _ rfl
      have HE := Lib.hid (HP.out l[k])
      have HHk := Lib.hid (fun hb h => HH.out k hlt hb h)
      have HBn := Lib.hid (show l[k] ≠ ⟨x, y⟩ → ∀ j (hj : j < l.length), j < k + 1 → l[j] ≠ ⟨x, y⟩ from fun hne j hj hjk => by
        by_cases e : j = k
        · subst e; exact hne
        · exact HB.out j hj (by omega))
      unfold maxLen at q2
      clear hc hc1 hu ho R1
      generalize l[k] = q at *
      obtain ⟨qx, qy⟩ := q
      simp only at h1 h2 h3 HE
      by_cases hx : qx = x
      · subst hx
        have hE1 : (qx == qx) = true := by simp
        by_cases hy : qy = y
        · subst hy
          have hE2 : (qy == qy) = true := by simp
          have HV := Lib.hid (HHk.out HB.out rfl)
          rw [HR.out] at HV
          go_wp2_with fail
          go_ret
          exact ⟨ret_int HV.out.symm, hb⟩
        · have hE2 : (qy == y) = false := by simp [hy]
          have HE2 := Lib.hid (HBn.out (fun e => hy (by injection e)))
          clear hy
          go_wp2_with fail
          go_roundw
          case rel => exact ⟨k + 1, by go_num, by omega, HE2, hb⟩
          case measure => simp [intOf]; omega
      · have hE1 : (qx == x) = false := by simp [hx]
        have HE2 := Lib.hid (HBn.out (fun e => hx (by injection e)))
        clear hx
        go_wp2_with fail
        go_roundw
        case rel => exact ⟨k + 1, by go_num, by omega, HE2, hb⟩
        case measure => simp [intOf]; omega
    · obtain rfl : k = l.length := by omega
      have HV := Lib.hid (HN.out HB.out)
      go_wp2_with fail
      go_ret
      exact ⟨ret_int HV.out.symm, hb⟩
end Go.Proofs.YtjkemnnkgihefaaGreat
