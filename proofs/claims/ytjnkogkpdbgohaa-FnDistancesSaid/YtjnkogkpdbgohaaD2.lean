/- Draws: pairs for the sums, fractions. -/
import Derived.Test.YtjnkogkpdbgohaaD2A
import Derived.Test.YtjnkogkpdbgohaaC30
import Derived.Deep.RegionHeld3
namespace Go.Proofs.Ytjnkogkpdbgohaa
open Go.RowKit
/-- What is known within a call that draws: the source, what has turned since w0, and the result's two cells. -/
structure In2 (n b r : Nat) (w0 w : World) : Prop where
  src : Src w n b
  grown : w0.grownBy w (some b)
  blk : w.heap[r]? = some (.cells #[.int .i64 0, .int .i64 0] 25 (0, 0))
  ne : r ≠ b
  new : w0.heap.size ≤ r
  old : b < w0.heap.size
theorem In2.start {n b : Nat} {w : World} (hs : Src w n b) : In2 n b w.heap.size w (w.alloc (.cells #[.int .i64 0, .int .i64 0] 25)) :=
  ⟨hs.keep ((Below.refl _ w).alloc (Nat.le_refl _) _), World.grownBy_alloc w _ _, heap_new, by have := hs.lt; omega, Nat.le_refl _, hs.lt⟩
theorem In2.turn {n b r : Nat} {w0 w w' : World} (h : In2 n b r w0 w) (hs : Src w' n b) (hg : w.grownBy w' (some b)) : In2 n b r w0 w' :=
  ⟨hs, grown_trans' h.grown hg, blk_keep h.blk hg h.ne, h.ne, h.new, h.old⟩
theorem In2.below {n b r : Nat} {w0 w w' : World} (h : In2 n b r w0 w) (hb : Below w.heap.size w w') : In2 n b r w0 w' :=
  h.turn (h.src.keep hb) (grown_of_below hb)
theorem In2.fin {n b r : Nat} {w0 w : World} (h : In2 n b r w0 w) (x y : Value) : Src ((w.setCell ⟨r, 0, none⟩ x).setCell ⟨r, 1, none⟩ y) n b ∧ w0.grownBy ((w.setCell ⟨r, 0, none⟩ x).setCell ⟨r, 1, none⟩ y) (some b) := by
  have hb : Below r w ((w.setCell ⟨r, 0, none⟩ x).setCell ⟨r, 1, none⟩ y) := ((Below.refl r w).setCell (p := ⟨r, 0, none⟩) (Nat.le_refl _) x).setCell (p := ⟨r, 1, none⟩) (Nat.le_refl _) y
  have hl := h.src.lt; have hg := h.src.ge; have hne := h.ne; have hn := h.new
  obtain ⟨a, len, cap, j, hh, h3, h4, h5, h6, h7, h8⟩ := h.src
  have hblk : ((w.setCell ⟨r, 0, none⟩ x).setCell ⟨r, 1, none⟩ y).heap[b]? = w.heap[b]? := by
    rw [Below.heap_setCell _ _ _ _ (Ne.symm hne), Below.heap_setCell _ _ _ _ (Ne.symm hne)]
  have hold := h.old
  refine ⟨⟨a, len, cap, j, hh, hblk.trans h3, h4, h5, h6, h7, h8.below (hb.mono (by omega))⟩, h.grown.os, h.grown.tape, h.grown.output, Nat.le_trans h.grown.size hb.size, fun k hk hkb => (hb.block k (by omega)).trans (h.grown.block k hk hkb)⟩
/-- What a pair drawn for a sum is. -/
def PairBd (h k : Int) : Prop := -1000000001 ≤ h ∧ h ≤ 1099511627776 ∧ -1 ≤ k ∧ k ≤ 20001
/-- Small entries of a drawn fraction. -/
def SFrac (x y : Int) : Prop := -1000000 ≤ x ∧ x ≤ 1000000 ∧ 0 ≤ y ∧ y ≤ 1000000
theorem tdiv_bdB {x g B : Int} (h0 : -B ≤ x) (h1 : x ≤ B) : -B ≤ x.tdiv g ∧ x.tdiv g ≤ B := by
  have h := Int.natAbs_tdiv_le_natAbs x g
  omega
theorem sfrac_red {p q : Int} (q0 : 0 < q) (q1 : q ≤ 1000000) (p0 : -1000000 ≤ p) (p1 : p ≤ 1000000) : SFrac (fx p q) (fy p q) := by
  have hq := tdiv_bdB (x := q) (g := (Int.gcd p q : Int)) (B := 1000000) (by omega) q1
  have hp := tdiv_bdB (x := p) (g := (Int.gcd p q : Int)) (B := 1000000) p0 p1
  have h0 : 0 ≤ q.tdiv (Int.gcd p q : Int) := Int.tdiv_nonneg (by omega) (by omega)
  unfold fx fy SFrac
  omega
set_option maxRecDepth 100000 in
theorem l01Reduced_1 (w : World) : Calls Try.prog 36 #[(.int .i64 1), (.int .i64 0)] w fun e w' => e = .returned (.agg #[.int .i64 1, .int .i64 0]) ∧ Below w.heap.size w w' := by
  have HD := Lib.hid (fun W => l01Gcd_any 1 0 W (by omega) (by omega) (by omega) (by omega))
  rw [show (Int.gcd 1 0 : Int) = 1 from rfl] at HD
  go_enter Try.func36, Try.ntmps36
  go_wp2_with fail
  refine (HD.out _).mono ?_; rintro e w1 ⟨rfl, hb1⟩
  obtain ⟨hc1, hf1⟩ := bcell hb1
  have hz0 : w.heap.size < w1.heap.size := by have := hb1.size; (try simp at this); omega
  go_wp2_with fail
  refine wp_region_ext_tail 7 (by kernel_rfl) (by kernel_rfl) ?_
  simp only [List.take_succ_cons, List.take_zero, List.drop_succ_cons, List.drop_zero]
  repeat (go_big_quiet_step (fail))
  refine wpQuiet_nil ?_
  intro w2 hb2
  replace hb2 := bstep hb1 hb2
  clear hc1 hf1 hb1
  obtain ⟨hc2, hf2⟩ := bcell hb2
  have hz0 : w.heap.size < w2.heap.size := by have := hb2.size; (try simp at this); omega
  have hB2 : Below w.heap.size w w2 := bfin (by go_grown) hb2
  go_wp2_with fail
  have hall := And.intro hc2 (hz0)
  refine bodyPost_ret (v := (.agg #[.int .i64 1, .int .i64 0])) (by first | (simp [results, Try.results36, go_sem]; done) | (simp [results, Try.results36, go_sem, hall] <;> rfl)) rfl ⟨rfl, by go_grown⟩
set_option maxRecDepth 100000 in
theorem l01Reduced_2 (w : World) : Calls Try.prog 36 #[(.int .i64 (-1)), (.int .i64 0)] w fun e w' => e = .returned (.agg #[.int .i64 1, .int .i64 0]) ∧ Below w.heap.size w w' := by
  have HD := Lib.hid (fun W => l01Gcd_any (-1) 0 W (by omega) (by omega) (by omega) (by omega))
  rw [show (Int.gcd (-1) 0 : Int) = 1 from rfl] at HD
  go_enter Try.func36, Try.ntmps36
  go_wp2_with fail
  refine (HD.out _).mono ?_; rintro e w1 ⟨rfl, hb1⟩
  obtain ⟨hc1, hf1⟩ := bcell hb1
  have hz0 : w.heap.size < w1.heap.size := by have := hb1.size; (try simp at this); omega
  go_wp2_with fail
  refine wp_region_ext_tail 7 (by kernel_rfl) (by kernel_rfl) ?_
  simp only [List.take_succ_cons, List.take_zero, List.drop_succ_cons, List.drop_zero]
  repeat (go_big_quiet_step (fail))
  refine wpQuiet_nil ?_
  intro w2 hb2
  replace hb2 := bstep hb1 hb2
  clear hc1 hf1 hb1
  obtain ⟨hc2, hf2⟩ := bcell hb2
  have hz0 : w.heap.size < w2.heap.size := by have := hb2.size; (try simp at this); omega
  have hB2 : Below w.heap.size w w2 := bfin (by go_grown) hb2
  go_wp2_with fail
  have hall := And.intro hc2 (hz0)
  refine bodyPost_ret (v := (.agg #[.int .i64 1, .int .i64 0])) (by first | (simp [results, Try.results36, go_sem]; done) | (simp [results, Try.results36, go_sem, hall] <;> rfl)) rfl ⟨rfl, by go_grown⟩
theorem l01Reduced_bd (p q : Int) (w : World) (q0 : 0 < q) (q1 : q ≤ 1000000) (p0 : -1000000 ≤ p) (p1 : p ≤ 1000000) :
    Calls Try.prog 36 #[(.int .i64 p), (.int .i64 q)] w fun e w' => (∃ x y, e = .returned (.agg #[.int .i64 x, .int .i64 y]) ∧ SFrac x y) ∧ Below w.heap.size w w' := by
  refine (l01Reduced_any p q w q0 (by omega) (by omega) (by omega)).mono ?_
  rintro e w' ⟨rfl, hb⟩
  exact ⟨⟨_, _, rfl, sfrac_red q0 q1 p0 p1⟩, hb⟩
theorem l01Reduced_0 (p q : Int) (w : World) (hq : q = 0 ∨ q = 1) (hp : p = 1 ∨ p = -1) :
    Calls Try.prog 36 #[(.int .i64 p), (.int .i64 q)] w fun e w' => (∃ x y, e = .returned (.agg #[.int .i64 x, .int .i64 y]) ∧ SFrac x y) ∧ Below w.heap.size w w' := by
  rcases hq with rfl | rfl
  · rcases hp with rfl | rfl
    · refine (l01Reduced_1 w).mono ?_; rintro e w' ⟨rfl, hb⟩; exact ⟨⟨_, _, rfl, by unfold SFrac; omega⟩, hb⟩
    · refine (l01Reduced_2 w).mono ?_; rintro e w' ⟨rfl, hb⟩; exact ⟨⟨_, _, rfl, by unfold SFrac; omega⟩, hb⟩
  · exact l01Reduced_bd p 1 w (by omega) (by omega) (by omega) (by omega)
end Go.Proofs.Ytjnkogkpdbgohaa
