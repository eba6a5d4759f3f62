/- Draws of matrices: those of the sums' laws. -/
import Derived.Test.YtcaiofhdcffogaaD14
namespace Go.Proofs.Ytcaiofhdcffogaa
open Go.RowKit
theorem Bm.grown {r n b : Nat} {w w' : World} {p q s u : Int} (h : Bm w r p q s u) (hi : InS n b w w') (hr : r ≠ b) : Bm w' r p q s u := blk_keep h hi.grown hr
theorem l01Spoil_any (n b : Nat) (w : World) (hs : Src w n b) :
    Calls Try.prog 50 #[.pointer (some ⟨b, 0, none⟩)] w fun e w' => RetA e ∧ Src w' n b ∧ w.grownBy w' (some b) := by
  have I0 := Lib.hid ((InS.start hs).alloc (.cells #[(.int .i64 0), (.int .i64 0), (.int .i64 0), (.int .i64 0)] 42))
  clear hs
  go_enter Try.func50, Try.ntmps50
  go_wp2_with fail
  refine (l01Draw_any n b _ I0.out.src).mono ?_; rintro e w1 ⟨⟨p, q, r, s, rfl, -⟩, hs1, hg1⟩
  have I1 := Lib.hid (I0.out.turn hs1 hg1)
  have B1 := Lib.hid ((Bm.new (w := w) (p := 0) (q := 0) (s := 0) (u := 0)).turn I0.out (Nat.le_refl _) hg1)
  clear hs1 hg1 I0
  go_wp2_with fail
  refine (l01Bad_any n b p q r s _ I1.out.src).mono ?_; rintro e w2 ⟨⟨p', q', r', s', rfl⟩, hs2, hg2⟩
  have I2 := Lib.hid (I1.out.turn hs2 hg2)
  have B2 := Lib.hid (B1.out.turn I1.out (Nat.le_refl _) hg2)
  clear hs2 hg2 I1 B1
  obtain ⟨⟨c0, c1, c2, c3⟩, ⟨f0, f1, f2, f3⟩, hl3⟩ := B2.out.open_
  go_wp2_with fail
  refine bodyPost_ret (v := (.agg #[.int .i64 p', .int .i64 q', .int .i64 r', .int .i64 s'])) (by simp [results, Try.results50, go_sem, set4_0 B2.out, set4_1 B2.out, set4_2 B2.out, set4_3 B2.out] <;> rfl) rfl ?_
  have IF := I2.out.set4 (.int .i64 p') (.int .i64 q') (.int .i64 r') (.int .i64 s') (Nat.le_refl w.heap.size)
  exact ⟨⟨_, _, _, _, rfl⟩, IF.src, IF.grown⟩
abbrev C88 (w : World) (g g' : Nat) (p q r s p' q' r' s' : Int) : Prop := (w.cell? ⟨g, 0, none⟩ = some (.int .i64 p) ∧ w.cell? ⟨g, 1, none⟩ = some (.int .i64 q) ∧ w.cell? ⟨g, 2, none⟩ = some (.int .i64 r) ∧ w.cell? ⟨g, 3, none⟩ = some (.int .i64 s)) ∧ (w.cell? ⟨g', 0, none⟩ = some (.int .i64 p') ∧ w.cell? ⟨g', 1, none⟩ = some (.int .i64 q') ∧ w.cell? ⟨g', 2, none⟩ = some (.int .i64 r') ∧ w.cell? ⟨g', 3, none⟩ = some (.int .i64 s'))
theorem C88.of {w : World} {g g' : Nat} {p q r s p' q' r' s' : Int} (h : Bm w g p q r s) (h' : Bm w g' p' q' r' s') : C88 w g g' p q r s p' q' r' s' := ⟨(Blk4.open_ h).1, (Blk4.open_ h').1⟩
theorem C88.drew {w : World} {g g' : Nat} {p q r s p' q' r' s' : Int} (h : C88 w g g' p q r s p' q' r' s') : C88 w.drew g g' p q r s p' q' r' s' := h
theorem undrew {w w' : World} {r : Option Nat} (h : w.drew.grownBy w' r) : w.grownBy w' r := ⟨h.os, h.tape, h.output, h.size, h.block⟩
def RetAA (e : Ending) : Prop := ∃ p q r s p' q' r' s' : Int, e = .returned (.tuple #[(.agg #[.int .i64 p, .int .i64 q, .int .i64 r, .int .i64 s]), (.agg #[.int .i64 p', .int .i64 q', .int .i64 r', .int .i64 s'])])
end Go.Proofs.Ytcaiofhdcffogaa
