/- Draws: a fraction. -/
import Derived.Test.YtjnkogkpdbgohaaD2
namespace Go.Proofs.Ytjnkogkpdbgohaa
open Go.RowKit
set_option maxRecDepth 100000 in
set_option maxHeartbeats 1000000 in
theorem l01DrawFraction_any (n b : Nat) (w : World) (hs : Src w n b) :
    Calls Try.prog 38 #[.pointer (some ⟨b, 0, none⟩)] w fun e w' => (∃ x y, e = .returned (.agg #[.int .i64 x, .int .i64 y]) ∧ SFrac x y) ∧ Src w' n b ∧ w.grownBy w' (some b) := by
  have I0 := Lib.hid (In2.start hs)
  clear hs
  go_enter Try.func38, Try.ntmps38
  go_wp2_with fail
  refine (l01Next_any n b 6 _ (by omega) I0.out.src).mono ?_; rintro e w1 ⟨z, rfl, hz, hs1, hg1⟩
  have I1 := Lib.hid (I0.out.turn hs1 hg1)
  generalize w.heap.size = r at *
  clear I0 hs1 hg1
  by_cases hz0 : z = 0
  · subst hz0
    go_wp2_with fail
    refine (pick_lit [1, 0, 1, -1] rfl I1.out.src rfl (by simp) (by simp)).mono ?_; rintro e w2 ⟨p, rfl, hp, hs2, hg2⟩
    have I2 := Lib.hid (I1.out.turn hs2 hg2)
    have hp2 : p = 0 ∨ p = 1 ∨ p = -1 := by simp at hp; omega
    clear I1 hs2 hg2 hp
    go_wp2_with fail
    refine (pick_lit [0, 1, 1] rfl I2.out.src rfl (by simp) (by simp)).mono ?_; rintro e w3 ⟨q, rfl, hq, hs3, hg3⟩
    have I3 := Lib.hid (I2.out.turn hs3 hg3)
    have hq2 : q = 0 ∨ q = 1 := by simp at hq; omega
    clear I2 hs3 hg3 hq
    by_cases h0 : p = 0
    · subst h0
      go_wp2_with fail
      refine (l01Reduced_bd 0 1 w3 (by omega) (by omega) (by omega) (by omega)).mono ?_; rintro e w4 ⟨⟨x, y, rfl, hxy⟩, hb4⟩
      have I4 := Lib.hid (I3.out.below hb4)
      have HX := Lib.hid hxy
      clear I3 hb4 hxy
      obtain ⟨⟨c0, c1⟩, ⟨f0, f1⟩, hr⟩ := blk_two I4.out.blk
      go_wp2_with fail
      refine bodyPost_ret (v := (.agg #[.int .i64 x, .int .i64 y])) (by first | (simp [results, Try.results38, go_sem]; done) | (simp [results, Try.results38, go_sem, set2_0 I4.out.blk, set2_1 I4.out.blk] <;> rfl)) rfl ⟨⟨x, y, rfl, HX.out⟩, I4.out.fin _ _⟩
    · have h0' : (p == 0) = false := by simpa using h0
      have hp3 : p = 1 ∨ p = -1 := by omega
      clear hp2
      have HR := Lib.hid (l01Reduced_0 p q w3 hq2 hp3)
      clear hq2 hp3
      go_wp2_with fail
      refine (HR.out).mono ?_; rintro e w4 ⟨⟨x, y, rfl, hxy⟩, hb4⟩
      have I4 := Lib.hid (I3.out.below hb4)
      have HX := Lib.hid hxy
      clear I3 hb4 hxy
      obtain ⟨⟨c0, c1⟩, ⟨f0, f1⟩, hr⟩ := blk_two I4.out.blk
      go_wp2_with fail
      refine bodyPost_ret (v := (.agg #[.int .i64 x, .int .i64 y])) (by first | (simp [results, Try.results38, go_sem]; done) | (simp [results, Try.results38, go_sem, set2_0 I4.out.blk, set2_1 I4.out.blk] <;> rfl)) rfl ⟨⟨x, y, rfl, HX.out⟩, I4.out.fin _ _⟩
  · have hz0' : (z == 0) = false := by simpa using hz0
    by_cases hz1 : z = 1
    · subst hz1
      go_wp2_with fail
      refine (l01Next_any n b 2000000 _ (by omega) I1.out.src).mono ?_; rintro e w2 ⟨p, rfl, hp, hs2, hg2⟩
      have I2 := Lib.hid (I1.out.turn hs2 hg2)
      have hp2 : 0 ≤ p ∧ p < 2000000 := by omega
      clear I1 hs2 hg2 hp
      go_wp2_with fail
      refine (l01Next_any n b 1000000 _ (by omega) I2.out.src).mono ?_; rintro e w3 ⟨q, rfl, hq, hs3, hg3⟩
      have I3 := Lib.hid (I2.out.turn hs3 hg3)
      have hq2 : 0 ≤ q ∧ q < 1000000 := by omega
      clear I2 hs3 hg3 hq
      go_wp2_with fail
      refine (l01Reduced_bd (p - 1000000) (1 + q) w3 (by omega) (by omega) (by omega) (by omega)).mono ?_; rintro e w4 ⟨⟨x, y, rfl, hxy⟩, hb4⟩
      have I4 := Lib.hid (I3.out.below hb4)
      have HX := Lib.hid hxy
      clear I3 hb4 hxy
      obtain ⟨⟨c0, c1⟩, ⟨f0, f1⟩, hr⟩ := blk_two I4.out.blk
      go_wp2_with fail
      refine bodyPost_ret (v := (.agg #[.int .i64 x, .int .i64 y])) (by first | (simp [results, Try.results38, go_sem]; done) | (simp [results, Try.results38, go_sem, set2_0 I4.out.blk, set2_1 I4.out.blk] <;> rfl)) rfl ⟨⟨x, y, rfl, HX.out⟩, I4.out.fin _ _⟩
    · have hz1' : (z == 1) = false := by simpa using hz1
      go_wp2_with fail
      refine (l01Next_any n b 41 _ (by omega) I1.out.src).mono ?_; rintro e w2 ⟨p, rfl, hp, hs2, hg2⟩
      have I2 := Lib.hid (I1.out.turn hs2 hg2)
      have hp2 : 0 ≤ p ∧ p < 41 := by omega
      clear I1 hs2 hg2 hp
      go_wp2_with fail
      refine (l01Next_any n b 20 _ (by omega) I2.out.src).mono ?_; rintro e w3 ⟨q, rfl, hq, hs3, hg3⟩
      have I3 := Lib.hid (I2.out.turn hs3 hg3)
      have hq2 : 0 ≤ q ∧ q < 20 := by omega
      clear I2 hs3 hg3 hq
      go_wp2_with fail
      refine (l01Reduced_bd (p - 20) (1 + q) w3 (by omega) (by omega) (by omega) (by omega)).mono ?_; rintro e w4 ⟨⟨x, y, rfl, hxy⟩, hb4⟩
      have I4 := Lib.hid (I3.out.below hb4)
      have HX := Lib.hid hxy
      clear I3 hb4 hxy
      obtain ⟨⟨c0, c1⟩, ⟨f0, f1⟩, hr⟩ := blk_two I4.out.blk
      go_wp2_with fail
      refine bodyPost_ret (v := (.agg #[.int .i64 x, .int .i64 y])) (by first | (simp [results, Try.results38, go_sem]; done) | (simp [results, Try.results38, go_sem, set2_0 I4.out.blk, set2_1 I4.out.blk] <;> rfl)) rfl ⟨⟨x, y, rfl, HX.out⟩, I4.out.fin _ _⟩
theorem pick_lit_d {n b : Nat} (xs : List Int) {k cap : Nat} {w : World} {cs : Array Value} {t : TypeId} (h : cs.toList = ints xs) (hs : Src w n b) (hk : xs.length = k) (hk0 : 0 < k) (hk1 : k ≤ 1000) :
    Calls Try.prog 50 #[.pointer (some ⟨b, 0, none⟩), .slice (some ⟨w.heap.size, 0, none⟩) k cap] (w.alloc (.cells cs t)).drew fun e w' => ∃ x : Int, e = .returned (.int .i64 x) ∧ x ∈ xs ∧ Src w' n b ∧ w.grownBy w' (some b) := by
  subst hk
  have hl := hs.lt
  refine (l01Pick_any n b xs w.heap.size xs.length cap (w.alloc (.cells cs t)).drew rfl hk0 hk1 (by omega) (by show _ < (w.alloc (.cells cs t)).heap.size; simp) (lit_cells h) (hs.keep ((Below.refl _ w).alloc (Nat.le_refl _) _).drew)).mono ?_
  rintro e w' ⟨x, he, hx, hs', hg⟩
  exact ⟨x, he, hx, hs', grown_trans' (grown_of_below ((Below.refl _ w).alloc (Nat.le_refl _) _).drew) hg⟩
/-- Entries of a fraction, spoilt or not. -/
def BFrac (x y : Int) : Prop := -2000000000 ≤ x ∧ x ≤ 2000000000 ∧ -2000000000 ≤ y ∧ y ≤ 2000000000
/-- Entries of a fraction within the limits. -/
def WFrac (x y : Int) : Prop := -1000000000 ≤ x ∧ x ≤ 1000000000 ∧ -1000000000 ≤ y ∧ y ≤ 1000000000
set_option maxRecDepth 100000 in
set_option maxHeartbeats 1000000 in
theorem l01BadFraction_wide (n b : Nat) (f0 f1 : Int) (w : World) (hf : WFrac f0 f1) (hs : Src w n b) :
    Calls Try.prog 39 #[.pointer (some ⟨b, 0, none⟩), (.agg #[.int .i64 f0, .int .i64 f1])] w fun e w' => (∃ x y, e = .returned (.agg #[.int .i64 x, .int .i64 y]) ∧ BFrac x y) ∧ Src w' n b ∧ w.grownBy w' (some b) := by
  have hsA := hs.keep ((Below.refl _ w).alloc (Nat.le_refl _) (.cells #[(.int .i64 f0), (.int .i64 f1)] 25))
  have I0 := Lib.hid (In2.start hsA)
  have hx0 : ((w.alloc (.cells #[(.int .i64 f0), (.int .i64 f1)] 25)).alloc (.cells #[(.int .i64 0), (.int .i64 0)] 25)).heap[w.heap.size]? = some (.cells #[(.int .i64 f0), (.int .i64 f1)] 25 (0, 0)) := heap_alloc heap_new
  have hne : w.heap.size ≠ b := by have := hs.lt; omega
  have HG := Lib.hid (World.grownBy_alloc w (.cells #[(.int .i64 f0), (.int .i64 f1)] 25) (some b))
  obtain ⟨hf0, hf1, hf2, hf3⟩ := hf
  clear hs hsA
  go_enter Try.func39, Try.ntmps39
  go_wp2_with fail
  refine (l01Next_any n b 40 _ (by omega) I0.out.src).mono ?_; rintro e w1 ⟨z, rfl, hz, hs1, hg1⟩
  have I1 := Lib.hid (I0.out.turn hs1 hg1)
  have hx1 := blk_keep hx0 hg1 hne
  clear I0 hs1 hg1 hx0
  have hnx : w.heap.size ≠ w.heap.size + 1 := by omega
  rw [show (w.alloc (.cells #[(.int .i64 f0), (.int .i64 f1)] 25)).heap.size = w.heap.size + 1 by simp] at I1
  obtain ⟨⟨x0, x1⟩, ⟨y0, y1⟩, hx⟩ := blk_two hx1
  by_cases hz0 : z = 0
  · subst hz0
    obtain ⟨⟨c0, c1⟩, ⟨g0, g1⟩, hr⟩ := blk_two I1.out.blk
    go_wp2_with fail
    refine bodyPost_ret (v := (.agg #[.int .i64 (2 * f0), .int .i64 (2 * f1)])) (by first | (simp [results, Try.results39, go_sem]; done) | (simp [results, Try.results39, go_sem, set2_0 I1.out.blk, set2_1 I1.out.blk] <;> rfl)) rfl ⟨⟨_, _, rfl, by unfold BFrac; omega⟩, (I1.out.fin _ _).1, grown_trans' HG.out (I1.out.fin _ _).2⟩
  · have hz0' : (z == 0) = false := by simpa using hz0
    by_cases hz1 : z = 1
    · subst hz1
      go_wp2_with fail
      go_region_held3 (fun w' => w'.cell? ⟨w.heap.size, 0, none⟩ = some (.int .i64 f0)) (first | exact q2 | exact x0 | go_keep) (first | (go_at_call 50; (first | with_reducible refine (pick_lit [-1, 0, 1000000001] (by simp [ints]) I1.out.src (by simp) (by simp) (by simp)).mono ?_ | with_reducible refine (pick_lit_d [-1, 0, 1000000001] (by simp [ints]) I1.out.src (by simp) (by simp) (by simp)).mono ?_); rintro e w2 ⟨y, rfl, hy, hs2, hg2⟩; have hy2 : y = -1 ∨ y = 0 ∨ y = 1000000001 := (by simp at hy; omega); have I2 := Lib.hid (I1.out.turn hs2 hg2); have hx2 := blk_keep hx1 hg2 hne; have q2 : w2.cell? ⟨w.heap.size, 0, none⟩ = some (.int .i64 f0) := (by simpa using cell_of_blk hx2 0); obtain ⟨⟨c0, c1⟩, ⟨g0, g1⟩, hr⟩ := blk_two I2.out.blk))
      all_goals go_wp2_with fail
      all_goals refine bodyPost_ret (v := (.agg #[.int .i64 f0, .int .i64 y])) (by first | (simp [results, Try.results39, go_sem]; done) | (simp [results, Try.results39, go_sem, set2_0 I2.out.blk, set2_1 I2.out.blk] <;> rfl)) rfl ⟨⟨_, _, rfl, by unfold BFrac; omega⟩, (I2.out.fin _ _).1, grown_trans' HG.out (I2.out.fin _ _).2⟩
    · have hz1' : (z == 1) = false := by simpa using hz1
      by_cases hz2 : z = 2
      · subst hz2
        go_wp2_with fail
        refine (pick_lit [0, -1] rfl I1.out.src rfl (by simp) (by simp)).mono ?_; rintro e w2 ⟨y, rfl, hy, hs2, hg2⟩
        have I2 := Lib.hid (I1.out.turn hs2 hg2)
        have hy2 : y = 0 ∨ y = -1 := by simp at hy; omega
        clear x0 x1 y0 y1 hx hx1 hy
        obtain ⟨⟨c0, c1⟩, ⟨g0, g1⟩, hr⟩ := blk_two I2.out.blk
        go_wp2_with fail
        refine bodyPost_ret (v := (.agg #[.int .i64 y, .int .i64 0])) (by first | (simp [results, Try.results39, go_sem]; done) | (simp [results, Try.results39, go_sem, set2_0 I2.out.blk, set2_1 I2.out.blk] <;> rfl)) rfl ⟨⟨_, _, rfl, by unfold BFrac; omega⟩, (I2.out.fin _ _).1, grown_trans' HG.out (I2.out.fin _ _).2⟩
      · have hz2' : (z == 2) = false := by simpa using hz2
        obtain ⟨⟨c0, c1⟩, ⟨g0, g1⟩, hr⟩ := blk_two I1.out.blk
        go_wp2_with fail
        refine bodyPost_ret (v := (.agg #[.int .i64 f0, .int .i64 f1])) (by first | (simp [results, Try.results39, go_sem]; done) | (simp [results, Try.results39, go_sem, set2_0 I1.out.blk, set2_1 I1.out.blk] <;> rfl)) rfl ⟨⟨_, _, rfl, by unfold BFrac; omega⟩, (I1.out.fin _ _).1, grown_trans' HG.out (I1.out.fin _ _).2⟩
theorem l01BadFraction_any (n b : Nat) (f0 f1 : Int) (w : World) (hf : SFrac f0 f1) (hs : Src w n b) :
    Calls Try.prog 39 #[.pointer (some ⟨b, 0, none⟩), (.agg #[.int .i64 f0, .int .i64 f1])] w fun e w' => (∃ x y, e = .returned (.agg #[.int .i64 x, .int .i64 y]) ∧ BFrac x y) ∧ Src w' n b ∧ w.grownBy w' (some b) :=
  l01BadFraction_wide n b f0 f1 w (by unfold SFrac at hf; unfold WFrac; omega) hs
set_option maxRecDepth 100000 in
theorem l03Any_any (a : Option Addr) (len cap : Nat) (w : World) (hl : len ≤ 1152921504606846976) (hb : Bytes w w.heap.size a len) :
    Calls Try.prog 24 #[.slice a len cap] w fun e w' => (∃ x y, e = .returned (.agg #[.int .i64 x, .int .i64 y]) ∧ BFrac x y) ∧ Below w.heap.size w w' := by
  have hA : Below w.heap.size w (w.alloc (.cells #[(.int .i64 0), (.int .i64 0)] 25)) := (Below.refl _ w).alloc (Nat.le_refl _) _
  have hsz : (w.alloc (.cells #[(.int .i64 0), (.int .i64 0)] 25)).heap.size = w.heap.size + 1 := by simp
  have hnew : (w.alloc (.cells #[(.int .i64 0), (.int .i64 0)] 25)).heap[w.heap.size]? = some (.cells #[(.int .i64 0), (.int .i64 0)] 25 (0, 0)) := heap_new
  have HF := Lib.hid (l01From_any a len cap (w.alloc (.cells #[(.int .i64 0), (.int .i64 0)] 25)) hl (fun h0 => by
    obtain ⟨b, o, ha, h1, h2, h3⟩ := hb.below hA h0
    exact ⟨b, o, ha, by rw [hsz]; omega, h2, h3⟩))
  have HA := Lib.hid hA
  clear hb hA
  go_enter Try.func24, Try.ntmps24
  go_wp2_with fail
  refine (HF.out).mono ?_; rintro e w1 ⟨b, rfl, hs1, hb1⟩
  have hr1 := (hb1.block w.heap.size (by omega)).trans hnew
  have HB1 := Lib.hid (HA.out.trans (hb1.mono (by omega)))
  have hge : w.heap.size ≠ b := by have := hs1.ge; omega
  have hgb : w.heap.size ≤ b := by have := hs1.ge; omega
  clear HF hb1 hnew HA
  generalize (w.alloc (.cells #[(.int .i64 0), (.int .i64 0)] 25)).heap.size = n at *
  go_wp2_with fail
  refine (l01DrawFraction_any n b _ hs1).mono ?_; rintro e w2 ⟨⟨x, y, rfl, hxy⟩, hs2, hg2⟩
  have hr2 := blk_keep hr1 hg2 hge
  have HB2 := Lib.hid (HB1.out.trans (below_src hs1 hg2 hgb))
  clear hr1 HB1 hs1 hg2
  go_wp2_with fail
  refine (l01BadFraction_any n b x y _ hxy hs2).mono ?_; rintro e w3 ⟨⟨x', y', rfl, hxy'⟩, hs3, hg3⟩
  have hr3 := blk_keep hr2 hg3 hge
  have HB3 := Lib.hid (HB2.out.trans (below_src hs2 hg3 hgb))
  have HX := Lib.hid hxy'
  obtain ⟨⟨c0, c1⟩, ⟨g0, g1⟩, hr⟩ := blk_two hr3
  clear hr2 HB2 hs2 hg3 hxy hxy' hs3
  go_wp2_with fail
  refine bodyPost_ret (v := (.agg #[.int .i64 x', .int .i64 y'])) (by first | (simp [results, Try.results24, go_sem]; done) | (simp [results, Try.results24, go_sem, set2_0 hr3, set2_1 hr3] <;> rfl)) rfl ⟨⟨_, _, rfl, HX.out⟩, (HB3.out.setCell (p := ⟨w.heap.size, 0, none⟩) (Nat.le_refl _) _).setCell (p := ⟨w.heap.size, 1, none⟩) (Nat.le_refl _) _⟩
end Go.Proofs.Ytjnkogkpdbgohaa
