/- Draws: pairs for the sums, fractions. -/
import Derived.Test.YtkhlgphmimddhaaD1
import Derived.Test.YtkhlgphmimddhaaC30
import Derived.Deep.RegionHeld3
namespace Go.Proofs.Ytkhlgphmimddhaa
open Go.RowKit
theorem Src.base {w w' : World} {n b : Nat} (h : Src w n b) (hb : Below w.heap.size w w') : Src w' n b ∧ w.grownBy w' (some b) := ⟨h.keep hb, grown_of_below hb⟩
theorem grown_below {n b : Nat} {w0 w w' : World} (h : Below n w0 w) (hs : Src w n b) (hg : w.grownBy w' (some b)) : Below n w0 w' :=
  h.trans (below_src hs hg hs.ge)
theorem blk_keep {b r : Nat} {w w' : World} {o : Obj} (h : w.heap[r]? = some o) (hg : w.grownBy w' (some b)) (hne : r ≠ b) : w'.heap[r]? = some o :=
  (hg.block r (lt_of_blk h) (fun e => hne (by injection e))).trans h
theorem blk_two {w : World} {r : Nat} {t : TypeId} {u v : Value} (h : w.heap[r]? = some (.cells #[u, v] t (0, 0))) :
    (w.cell? ⟨r, 0, none⟩ = some u ∧ w.cell? ⟨r, 1, none⟩ = some v) ∧ (w.frozen? ⟨r, 0, none⟩ = false ∧ w.frozen? ⟨r, 1, none⟩ = false) ∧ r < w.heap.size :=
  ⟨⟨cell_of_blk h 0, cell_of_blk h 1⟩, ⟨frozen_of_blk h 0, frozen_of_blk h 1⟩, lt_of_blk h⟩
/-- What is known within a call that draws: the source, what has turned since w0, and the result's two cells. -/
structure In2 (n b r : Nat) (w0 w : World) : Prop where
  src : Src w n b
  grown : w0.grownBy w (some b)
  blk : w.heap[r]? = some (.cells #[.int .i64 0, .int .i64 0] 23 (0, 0))
  ne : r ≠ b
  new : w0.heap.size ≤ r
  old : b < w0.heap.size
theorem In2.start {n b : Nat} {w : World} (hs : Src w n b) : In2 n b w.heap.size w (w.alloc (.cells #[.int .i64 0, .int .i64 0] 23)) :=
  ⟨hs.keep ((Below.refl _ w).alloc (Nat.le_refl _) _), World.grownBy_alloc w _ _, heap_new, by have := hs.lt; omega, Nat.le_refl _, hs.lt⟩
theorem In2.turn {n b r : Nat} {w0 w w' : World} (h : In2 n b r w0 w) (hs : Src w' n b) (hg : w.grownBy w' (some b)) : In2 n b r w0 w' :=
  ⟨hs, grown_trans' h.grown hg, blk_keep h.blk hg h.ne, h.ne, h.new, h.old⟩
theorem In2.below {n b r : Nat} {w0 w w' : World} (h : In2 n b r w0 w) (hb : Below w.heap.size w w') : In2 n b r w0 w' :=
  h.turn (h.src.keep hb) (grown_of_below hb)
theorem In2.fin {n b r : Nat} {w0 w : World} (h : In2 n b r w0 w) (x y : Value) : Src ((w.setCell ⟨r, 0, none⟩ x).setCell ⟨r, 1, none⟩ y) n b ∧ w0.grownBy ((w.setCell ⟨r, 0, none⟩ x).setCell ⟨r, 1, none⟩ y) (some b) := by
  have hb : Below r w ((w.setCell ⟨r, 0, none⟩ x).setCell ⟨r, 1, none⟩ y) := ((Below.refl r w).setCell (p := ⟨r, 0, none⟩) (Nat.le_refl _) x).setCell (p := ⟨r, 1, none⟩) (Nat.le_refl _) y
  have hl := h.src.lt; have hg := h.src.ge; have hne := h.ne; have hn := h.new
  obtain ⟨a, len, cap, j, hh, h3, h4, h5, h6, h7, h8⟩ := h.src
  have hblk : ((w.setCell ⟨r, 0, none⟩ x).setCell ⟨r, 1, none⟩ y).heap[b]? = w.heap[b]? := by
    rw [Below.heap_setCell _ _ _ _ (Ne.symm hne), Below.heap_setCell _ _ _ _ (Ne.symm hne)]
  have hold := h.old
  refine ⟨⟨a, len, cap, j, hh, hblk.trans h3, h4, h5, h6, h7, h8.below (hb.mono (by omega))⟩, h.grown.os, h.grown.tape, h.grown.output, Nat.le_trans h.grown.size hb.size, fun k hk hkb => (hb.block k (by omega)).trans (h.grown.block k hk hkb)⟩
theorem set2_e {w : World} {r : Nat} {t : TypeId} {u v x : Value} (h : w.heap[r]? = some (.cells #[u, v] t (0, 0))) : (w.setCell ⟨r, 0, none⟩ x).cell? ⟨r, 0, none⟩ = some x := by
  have := cell_of_blk (heap_set_same (o := 0) (v := x) h) 0
  simpa using this
theorem set2_0 {w : World} {r : Nat} {t : TypeId} {u v x y : Value} (h : w.heap[r]? = some (.cells #[u, v] t (0, 0))) : ((w.setCell ⟨r, 0, none⟩ x).setCell ⟨r, 1, none⟩ y).cell? ⟨r, 0, none⟩ = some x := by
  have := cell_of_blk (heap_set_same (o := 1) (v := y) (heap_set_same (o := 0) (v := x) h)) 0
  simpa using this
theorem set2_1 {w : World} {r : Nat} {t : TypeId} {u v x y : Value} (h : w.heap[r]? = some (.cells #[u, v] t (0, 0))) : ((w.setCell ⟨r, 0, none⟩ x).setCell ⟨r, 1, none⟩ y).cell? ⟨r, 1, none⟩ = some y := by
  have := cell_of_blk (heap_set_same (o := 1) (v := y) (heap_set_same (o := 0) (v := x) h)) 1
  simpa using this
/-- What a pair drawn for a sum is. -/
def PairBd (h k : Int) : Prop := -1000000001 ≤ h ∧ h ≤ 1099511627776 ∧ -1 ≤ k ∧ k ≤ 20001
set_option maxRecDepth 100000 in
set_option maxHeartbeats 1000000 in
theorem l07Pair_any (a : Option Addr) (len cap : Nat) (m : Int) (w : World) (hm : 40 ≤ m ∧ m ≤ 20000) (hl : len ≤ 1152921504606846976) (hb : Bytes w w.heap.size a len) :
    Calls Try.prog 87 #[.slice a len cap, (.int .i64 m)] w fun e w' => (∃ h k : Int, e = .returned (.tuple #[(.int .i64 h), (.int .i64 k)]) ∧ PairBd h k) ∧ Below w.heap.size w w' := by
  have HF := Lib.hid (l01From_any a len cap w hl hb)
  go_enter Try.func87, Try.ntmps87
  go_wp2_with fail
  refine (HF.out).mono ?_; rintro e w1 ⟨b, rfl, hs1, hb1⟩
  have HS1 := Lib.hid hs1
  have HB1 := Lib.hid hb1
  generalize hn : w.heap.size = n at *
  have HN := Lib.hid hn
  clear HF hs1 hb1 hb hn
  go_wp2_with fail
  refine (pick_lit [10, 40, m] rfl HS1.out rfl (by simp) (by simp)).mono ?_; rintro e w2 ⟨y, rfl, hy, hs2, hg2⟩
  have hy2 : 10 ≤ y ∧ y ≤ m := by simp at hy; omega
  have HS2 := Lib.hid hs2
  have HB2 := Lib.hid (grown_below HB1.out HS1.out hg2)
  clear hs2 hg2 hy HS1 HB1
  go_wp2_with fail
  refine (l01Next_any n b y w2 (by omega) HS2.out).mono ?_; rintro e w3 ⟨k1, rfl, hk, hs3, hg3⟩
  have HS3 := Lib.hid hs3
  have HB3 := Lib.hid (grown_below HB2.out HS2.out hg3)
  clear hs3 hg3 HS2 HB2
  have hk2 : 0 ≤ k1 ∧ k1 ≤ 19999 := by omega
  clear hk hy2
  go_wp2_with fail
  refine (l01Next_any n b (3 * (1 + k1)) w3 (by omega) HS3.out).mono ?_; rintro e w4 ⟨h1, rfl, hh, hs4, hg4⟩
  have HS4 := Lib.hid hs4
  have HB4 := Lib.hid (grown_below HB3.out HS3.out hg4)
  clear hs4 hg4 HS3 HB3
  have hh2 : 0 ≤ h1 ∧ h1 ≤ 59999 := by omega
  clear hh
  go_wp2_with fail
  go_loopw [8, 9] (fun x i wr => ∃ (h : Int) (j : Nat), x = (.int .i64 h) ∧ i = (.int .i64 ((j : Int))) ∧ (-20000 ≤ h ∧ h ≤ 60000 + j ∧ j ≤ 3) ∧ Hid (Src wr n b) ∧ Hid (Below n w wr)) (fun _ i _ => 3 - (intOf i).toNat)
  case atStart => exact ⟨_, 0, rfl, rfl, by omega, HS4, HB4⟩
  case round =>
    obtain ⟨h, j, rfl, rfl, hj, HS, HB⟩ := hrel
    clear HS4 HB4
    by_cases hlt : j < 3
    · have hlt2 : (j : Int) < 3 := by omega
      have HG := Lib.hid (fun W => l01Gcd_any h (1 + k1) W (by omega) (by omega) (by omega) (by omega))
      generalize (Int.gcd h (1 + k1) : Int) = g at *
      go_wp2_with fail
      refine (HG.out _).mono ?_; rintro e w5 ⟨rfl, hb5⟩
      have HS5 := Lib.hid (HS.out.keep hb5)
      have HB5 := Lib.hid (HB.out.trans (hb5.mono (Nat.le_trans HS.out.ge (Nat.le_of_lt HS.out.lt))))
      clear hb5 HG
      by_cases hg : g = 1
      · subst hg
        go_wp2_with fail
        have HSX := HS5
        have HBX := HB5
        refine (l01Next_any n b 16 _ (by omega) HSX.out).mono ?_; rintro e w6 ⟨z, rfl, hz, hs6, hg6⟩
        have HS6 := Lib.hid hs6
        have HB6 := Lib.hid (grown_below HBX.out HSX.out hg6)
        clear hs6 hg6 HSX HBX
        by_cases hz0 : z = 0
        · subst hz0
          go_wp2_with fail
          refine (pick_lit [0, 1000000000, -1000000001, 1099511627776] rfl HS6.out rfl (by simp) (by simp)).mono ?_; rintro e w7 ⟨y, rfl, hy, hs7, hg7⟩
          have hy2 : -1000000001 ≤ y ∧ y ≤ 1099511627776 := by simp at hy; omega
          go_wp2_with fail
          go_ret2
          exact ⟨⟨_, _, rfl, by unfold PairBd; omega⟩, by rw [HN.out]; exact grown_below HB6.out HS6.out hg7⟩
        · have hz0' : (z == 0) = false := by simpa using hz0
          by_cases hz1 : z = 1
          · subst hz1
            go_wp2_with fail
            refine (pick_lit [0, -1, m + 1] rfl HS6.out rfl (by simp) (by simp)).mono ?_; rintro e w7 ⟨y, rfl, hy, hs7, hg7⟩
            have hy2 : -1 ≤ y ∧ y ≤ 20001 := by simp at hy; omega
            go_wp2_with fail
            go_ret2
            exact ⟨⟨_, _, rfl, by unfold PairBd; omega⟩, by rw [HN.out]; exact grown_below HB6.out HS6.out hg7⟩
          · have hz1' : (z == 1) = false := by simpa using hz1
            go_wp2_with fail
            go_ret2
            exact ⟨⟨_, _, rfl, by unfold PairBd; omega⟩, by rw [HN.out]; exact HB6.out⟩
      · have hg2 : (g != 1) = true := by simpa using hg
        go_wp2_with fail
        go_roundw
        case rel => exact ⟨h + 1, j + 1, rfl, by go_num, by omega, HS5, HB5⟩
        case measure => simp [intOf]; omega
    · have hlt2 : ¬ (j : Int) < 3 := by omega
      have HSX := HS
      have HBX := HB
      go_wp2_with fail
      refine (l01Next_any n b 16 _ (by omega) HSX.out).mono ?_; rintro e w6 ⟨z, rfl, hz, hs6, hg6⟩
      have HS6 := Lib.hid hs6
      have HB6 := Lib.hid (grown_below HBX.out HSX.out hg6)
      clear hs6 hg6 HSX HBX
      by_cases hz0 : z = 0
      · subst hz0
        go_wp2_with fail
        refine (pick_lit [0, 1000000000, -1000000001, 1099511627776] rfl HS6.out rfl (by simp) (by simp)).mono ?_; rintro e w7 ⟨y, rfl, hy, hs7, hg7⟩
        have hy2 : -1000000001 ≤ y ∧ y ≤ 1099511627776 := by simp at hy; omega
        go_wp2_with fail
        go_ret2
        exact ⟨⟨_, _, rfl, by unfold PairBd; omega⟩, by rw [HN.out]; exact grown_below HB6.out HS6.out hg7⟩
      · have hz0' : (z == 0) = false := by simpa using hz0
        by_cases hz1 : z = 1
        · subst hz1
          go_wp2_with fail
          refine (pick_lit [0, -1, m + 1] rfl HS6.out rfl (by simp) (by simp)).mono ?_; rintro e w7 ⟨y, rfl, hy, hs7, hg7⟩
          have hy2 : -1 ≤ y ∧ y ≤ 20001 := by simp at hy; omega
          go_wp2_with fail
          go_ret2
          exact ⟨⟨_, _, rfl, by unfold PairBd; omega⟩, by rw [HN.out]; exact grown_below HB6.out HS6.out hg7⟩
        · have hz1' : (z == 1) = false := by simpa using hz1
          go_wp2_with fail
          go_ret2
          exact ⟨⟨_, _, rfl, by unfold PairBd; omega⟩, by rw [HN.out]; exact HB6.out⟩
set_option maxRecDepth 100000 in
theorem DrawDedekindSum_any (a : Option Addr) (len cap : Nat) (w : World) (hl : len ≤ 1152921504606846976) (hb : Bytes w w.heap.size a len) :
    Calls Try.prog 42 #[.slice a len cap] w fun e w' => (∃ h k : Int, e = .returned (.tuple #[(.int .i64 h), (.int .i64 k)]) ∧ PairBd h k) ∧ Below w.heap.size w w' := by
  have HF := Lib.hid (l07Pair_any a len cap 20000 w (by omega) hl hb)
  clear hb
  go_enter Try.func42, Try.ntmps42
  go_wp2_with fail
  refine (HF.out).mono ?_; rintro e w1 ⟨⟨h, k, rfl, hp⟩, hb1⟩
  have HP := Lib.hid hp
  obtain ⟨p0, p1, p2, p3⟩ := hp
  go_wp2_with fail
  go_ret2
  exact ⟨⟨_, _, rfl, HP.out⟩, hb1⟩
set_option maxRecDepth 100000 in
theorem DrawReciprocityOf_any (a : Option Addr) (len cap : Nat) (w : World) (hl : len ≤ 1152921504606846976) (hb : Bytes w w.heap.size a len) :
    Calls Try.prog 43 #[.slice a len cap] w fun e w' => (∃ h k : Int, e = .returned (.tuple #[(.int .i64 h), (.int .i64 k)]) ∧ PairBd h k) ∧ Below w.heap.size w w' := by
  have HF := Lib.hid (l07Pair_any a len cap 20000 w (by omega) hl hb)
  clear hb
  go_enter Try.func43, Try.ntmps43
  go_wp2_with fail
  refine (HF.out).mono ?_; rintro e w1 ⟨⟨h, k, rfl, hp⟩, hb1⟩
  have HP := Lib.hid hp
  obtain ⟨p0, p1, p2, p3⟩ := hp
  go_wp2_with fail
  all_goals (go_ret2; exact ⟨⟨_, _, rfl, by unfold PairBd; omega⟩, hb1⟩)
set_option maxRecDepth 100000 in
theorem DrawEqualTo_any (a : Option Addr) (len cap : Nat) (w : World) (hl : len ≤ 1152921504606846976) (hb : Bytes w w.heap.size a len) :
    Calls Try.prog 45 #[.slice a len cap] w fun e w' => (∃ h k : Int, e = .returned (.tuple #[(.int .i64 h), (.int .i64 k)]) ∧ PairBd h k) ∧ Below w.heap.size w w' := by
  have HF := Lib.hid (l07Pair_any a len cap 100 w (by omega) hl hb)
  clear hb
  go_enter Try.func45, Try.ntmps45
  go_wp2_with fail
  refine (HF.out).mono ?_; rintro e w1 ⟨⟨h, k, rfl, hp⟩, hb1⟩
  have HP := Lib.hid hp
  obtain ⟨p0, p1, p2, p3⟩ := hp
  go_wp2_with fail
  go_ret2
  exact ⟨⟨_, _, rfl, HP.out⟩, hb1⟩
theorem DrawSumsOf_any (a : Option Addr) (len cap : Nat) (w : World) (hl : len ≤ 1152921504606846976) (hb : Bytes w w.heap.size a len) :
    Calls Try.prog 48 #[.slice a len cap] w fun e w' => (∃ h : Int, e = .returned (.int .i64 h)) ∧ Below w.heap.size w w' := by
  have HF := Lib.hid (l01From_any a len cap w hl hb)
  clear hb
  go_enter Try.func48, Try.ntmps48
  go_wp2_with fail
  refine (HF.out).mono ?_; rintro e w1 ⟨b, rfl, hs1, hb1⟩
  go_wp2_with fail
  refine (l01Near_any _ b 99 w1 (by omega) hs1).mono ?_; rintro e w2 ⟨y, rfl, hy, hs2, hg2⟩
  have HB2 := Lib.hid (grown_below hb1 hs1 hg2)
  go_wp2_with fail
  go_ret
  exact ⟨⟨_, rfl⟩, HB2.out⟩
theorem DrawTotalOf_any (a : Option Addr) (len cap : Nat) (w : World) (hl : len ≤ 1152921504606846976) (hb : Bytes w w.heap.size a len) :
    Calls Try.prog 49 #[.slice a len cap] w fun e w' => (∃ h : Int, e = .returned (.int .i64 h)) ∧ Below w.heap.size w w' := by
  have HF := Lib.hid (l01From_any a len cap w hl hb)
  clear hb
  go_enter Try.func49, Try.ntmps49
  go_wp2_with fail
  refine (HF.out).mono ?_; rintro e w1 ⟨b, rfl, hs1, hb1⟩
  go_wp2_with fail
  refine (l01Near_any _ b 11 w1 (by omega) hs1).mono ?_; rintro e w2 ⟨y, rfl, hy, hs2, hg2⟩
  have HB2 := Lib.hid (grown_below hb1 hs1 hg2)
  go_wp2_with fail
  go_ret
  exact ⟨⟨_, rfl⟩, HB2.out⟩
/-- Small entries of a drawn fraction. -/
def SFrac (x y : Int) : Prop := -1000000 ≤ x ∧ x ≤ 1000000 ∧ 0 ≤ y ∧ y ≤ 1000000
theorem tdiv_bdB {x g B : Int} (h0 : -B ≤ x) (h1 : x ≤ B) : -B ≤ x.tdiv g ∧ x.tdiv g ≤ B := by
  have h := Int.natAbs_tdiv_le_natAbs x g
  omega
theorem sfrac_red {p q : Int} (q0 : 0 < q) (q1 : q ≤ 1000000) (p0 : -1000000 ≤ p) (p1 : p ≤ 1000000) : SFrac (fx p q) (fy p q) := by
  have hq := tdiv_bdB (x := q) (g := (Int.gcd p q : Int)) (B := 1000000) (by omega) q1
  have hp := tdiv_bdB (x := p) (g := (Int.gcd p q : Int)) (B := 1000000) p0 p1
  have h0 : 0 ≤ q.tdiv (Int.gcd p q : Int) := Int.tdiv_nonneg (by omega) (by omega)
  unfold fx fy SFrac
  omega
set_option maxRecDepth 100000 in
theorem l01Reduced_1 (w : World) : Calls Try.prog 60 #[(.int .i64 1), (.int .i64 0)] w fun e w' => e = .returned (.agg #[.int .i64 1, .int .i64 0]) ∧ Below w.heap.size w w' := by
  have HD := Lib.hid (fun W => l01Gcd_any 1 0 W (by omega) (by omega) (by omega) (by omega))
  rw [show (Int.gcd 1 0 : Int) = 1 from rfl] at HD
  go_enter Try.func60, Try.ntmps60
  go_wp2_with fail
  refine (HD.out _).mono ?_; rintro e w1 ⟨rfl, hb1⟩
  obtain ⟨hc1, hf1⟩ := bcell hb1
  have hz0 : w.heap.size < w1.heap.size := by have := hb1.size; (try simp at this); omega
  go_wp2_with fail
  refine wp_region_ext_tail 7 (by kernel_rfl) (by kernel_rfl) ?_
  simp only [List.take_succ_cons, List.take_zero, List.drop_succ_cons, List.drop_zero]
  repeat (go_big_quiet_step (fail))
  refine wpQuiet_nil ?_
  intro w2 hb2
  replace hb2 := bstep hb1 hb2
  clear hc1 hf1 hb1
  obtain ⟨hc2, hf2⟩ := bcell hb2
  have hz0 : w.heap.size < w2.heap.size := by have := hb2.size; (try simp at this); omega
  have hB2 : Below w.heap.size w w2 := bfin (by go_grown) hb2
  go_wp2_with fail
  have hall := And.intro hc2 (hz0)
  refine bodyPost_ret (v := (.agg #[.int .i64 1, .int .i64 0])) (by first | (simp [results, Try.results60, go_sem]; done) | (simp [results, Try.results60, go_sem, hall] <;> rfl)) rfl ⟨rfl, by go_grown⟩
set_option maxRecDepth 100000 in
theorem l01Reduced_2 (w : World) : Calls Try.prog 60 #[(.int .i64 (-1)), (.int .i64 0)] w fun e w' => e = .returned (.agg #[.int .i64 1, .int .i64 0]) ∧ Below w.heap.size w w' := by
  have HD := Lib.hid (fun W => l01Gcd_any (-1) 0 W (by omega) (by omega) (by omega) (by omega))
  rw [show (Int.gcd (-1) 0 : Int) = 1 from rfl] at HD
  go_enter Try.func60, Try.ntmps60
  go_wp2_with fail
  refine (HD.out _).mono ?_; rintro e w1 ⟨rfl, hb1⟩
  obtain ⟨hc1, hf1⟩ := bcell hb1
  have hz0 : w.heap.size < w1.heap.size := by have := hb1.size; (try simp at this); omega
  go_wp2_with fail
  refine wp_region_ext_tail 7 (by kernel_rfl) (by kernel_rfl) ?_
  simp only [List.take_succ_cons, List.take_zero, List.drop_succ_cons, List.drop_zero]
  repeat (go_big_quiet_step (fail))
  refine wpQuiet_nil ?_
  intro w2 hb2
  replace hb2 := bstep hb1 hb2
  clear hc1 hf1 hb1
  obtain ⟨hc2, hf2⟩ := bcell hb2
  have hz0 : w.heap.size < w2.heap.size := by have := hb2.size; (try simp at this); omega
  have hB2 : Below w.heap.size w w2 := bfin (by go_grown) hb2
  go_wp2_with fail
  have hall := And.intro hc2 (hz0)
  refine bodyPost_ret (v := (.agg #[.int .i64 1, .int .i64 0])) (by first | (simp [results, Try.results60, go_sem]; done) | (simp [results, Try.results60, go_sem, hall] <;> rfl)) rfl ⟨rfl, by go_grown⟩
theorem l01Reduced_bd (p q : Int) (w : World) (q0 : 0 < q) (q1 : q ≤ 1000000) (p0 : -1000000 ≤ p) (p1 : p ≤ 1000000) :
    Calls Try.prog 60 #[(.int .i64 p), (.int .i64 q)] w fun e w' => (∃ x y, e = .returned (.agg #[.int .i64 x, .int .i64 y]) ∧ SFrac x y) ∧ Below w.heap.size w w' := by
  refine (l01Reduced_any p q w q0 (by omega) (by omega) (by omega)).mono ?_
  rintro e w' ⟨rfl, hb⟩
  exact ⟨⟨_, _, rfl, sfrac_red q0 q1 p0 p1⟩, hb⟩
theorem l01Reduced_0 (p q : Int) (w : World) (hq : q = 0 ∨ q = 1) (hp : p = 1 ∨ p = -1) :
    Calls Try.prog 60 #[(.int .i64 p), (.int .i64 q)] w fun e w' => (∃ x y, e = .returned (.agg #[.int .i64 x, .int .i64 y]) ∧ SFrac x y) ∧ Below w.heap.size w w' := by
  rcases hq with rfl | rfl
  · rcases hp with rfl | rfl
    · refine (l01Reduced_1 w).mono ?_; rintro e w' ⟨rfl, hb⟩; exact ⟨⟨_, _, rfl, by unfold SFrac; omega⟩, hb⟩
    · refine (l01Reduced_2 w).mono ?_; rintro e w' ⟨rfl, hb⟩; exact ⟨⟨_, _, rfl, by unfold SFrac; omega⟩, hb⟩
  · exact l01Reduced_bd p 1 w (by omega) (by omega) (by omega) (by omega)
end Go.Proofs.Ytkhlgphmimddhaa
