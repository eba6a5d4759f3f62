/- Draws of matrices: words. -/
import Derived.Test.YtjnkogkpdbgohaaGreatDoorD12
namespace Go.Proofs.YtjnkogkpdbgohaaGreatDoor
open Go.RowKit
/-- The names lie in a block. -/
def NB (w : World) (r : Nat) : Prop := w.heap[r]? = some (.cells #[.string ⟨#[83]⟩, .string ⟨#[84]⟩, .string ⟨#[76]⟩, .string ⟨#[85]⟩, .string ⟨#[84]⟩, .string ⟨#[76]⟩] 9 (0, 0))
theorem NB.at {w : World} {r x : Nat} (h : NB w r) (hx : x < 6) : ∃ s, w.cell? ⟨r, x, none⟩ = some (.string s) ∧ IsName s := by
  rcases (show x = 0 ∨ x = 1 ∨ x = 2 ∨ x = 3 ∨ x = 4 ∨ x = 5 by omega) with rfl | rfl | rfl | rfl | rfl | rfl
  · exact ⟨_, cell_of_blk h 0, .inl rfl⟩
  · exact ⟨_, cell_of_blk h 1, .inr (.inl rfl)⟩
  · exact ⟨_, cell_of_blk h 2, .inr (.inr (.inl rfl))⟩
  · exact ⟨_, cell_of_blk h 3, .inr (.inr (.inr rfl))⟩
  · exact ⟨_, cell_of_blk h 4, .inr (.inl rfl)⟩
  · exact ⟨_, cell_of_blk h 5, .inr (.inr (.inl rfl))⟩
theorem NB.turn {n b r : Nat} {w0 w w' : World} (h : NB w r) (hi : InS n b w0 w) (hr : w0.heap.size ≤ r) (hg : w.grownBy w' (some b)) : NB w' r :=
  blk_keep h hg (by have := hi.old; omega)
theorem NB.below {r : Nat} {w w' : World} (h : NB w r) (hb : Below w.heap.size w w') : NB w' r := heap_below h hb
theorem NB.alloc {r : Nat} {w : World} (h : NB w r) (o : Obj) : NB (w.alloc o) r := heap_alloc h
theorem NB.far {r r' : Nat} {w : World} (h : NB w r) (x y z t : Value) (hne : r ≠ r') :
    NB ((((w.setCell ⟨r', 0, none⟩ x).setCell ⟨r', 1, none⟩ y).setCell ⟨r', 2, none⟩ z).setCell ⟨r', 3, none⟩ t) r :=
  heap_keep (heap_keep (heap_keep (heap_keep h hne) hne) hne) hne
/-- What is known in the middle of a word: the product so far, the result's cells, the names, the source. -/
structure Word (n b : Nat) (w w' : World) (p q r s : Int) : Prop where
  em : EM p q r s
  out : Bm w' (w.heap.size + 2) p q r s
  res : Bm w' w.heap.size 0 0 0 0
  nam : NB w' (w.heap.size + 1)
  src : InS n b w w'
theorem Word.turn {n b : Nat} {w w' w2 : World} {p q r s : Int} (h : Word n b w w' p q r s) (hs : Src w2 n b) (hg : w'.grownBy w2 (some b)) : Word n b w w2 p q r s :=
  ⟨h.em, h.out.turn h.src (by omega) hg, h.res.turn h.src (Nat.le_refl _) hg, h.nam.turn h.src (by omega) hg, h.src.turn hs hg⟩
theorem Word.below {n b : Nat} {w w' w2 : World} {p q r s : Int} (h : Word n b w w' p q r s) (hb : Below w'.heap.size w' w2) : Word n b w w2 p q r s :=
  ⟨h.em, h.out.below hb, h.res.below hb, h.nam.below hb, h.src.below hb⟩
theorem Word.alloc {n b : Nat} {w w' : World} {p q r s : Int} (h : Word n b w w' p q r s) (o : Obj) : Word n b w (w'.alloc o) p q r s := h.below ((Below.refl _ _).alloc (Nat.le_refl _) o)
theorem Word.far {n b g : Nat} {w w' : World} {p q r s : Int} (h : Word n b w w' p q r s) (x y z t : Value) (hg : w.heap.size + 2 < g) :
    Word n b w ((((w'.setCell ⟨g, 0, none⟩ x).setCell ⟨g, 1, none⟩ y).setCell ⟨g, 2, none⟩ z).setCell ⟨g, 3, none⟩ t) p q r s :=
  ⟨h.em, h.out.far _ _ _ _ (by omega), h.res.far _ _ _ _ (by omega), h.nam.far _ _ _ _ (by omega), h.src.set4 _ _ _ _ (by omega)⟩
theorem Word.set {n b : Nat} {w w' : World} {p q r s : Int} (h : Word n b w w' p q r s) {x y z t : Int} (he : EM x y z t) :
    Word n b w ((((w'.setCell ⟨w.heap.size + 2, 0, none⟩ (.int .i64 x)).setCell ⟨w.heap.size + 2, 1, none⟩ (.int .i64 y)).setCell ⟨w.heap.size + 2, 2, none⟩ (.int .i64 z)).setCell ⟨w.heap.size + 2, 3, none⟩ (.int .i64 t)) x y z t :=
  ⟨he, h.out.set _ _ _ _, h.res.far _ _ _ _ (by omega), h.nam.far _ _ _ _ (by omega), h.src.set4 _ _ _ _ (by omega)⟩
theorem pick_lit_g {n b g : Nat} (xs : List Int) {k cap : Nat} {w : World} {cs : Array Value} {t : TypeId} (h : cs.toList = ints xs) (hs : Src w n b) (hk : xs.length = k) (hk0 : 0 < k) (hk1 : k ≤ 1000) (hg : g = w.heap.size) :
    Calls Tryz.prog 58 #[.pointer (some ⟨b, 0, none⟩), .slice (some ⟨g, 0, none⟩) k cap] (w.alloc (.cells cs t)) fun e w' => ∃ x : Int, e = .returned (.int .i64 x) ∧ x ∈ xs ∧ Src w' n b ∧ w.grownBy w' (some b) := by
  subst hg
  exact pick_lit xs h hs hk hk0 hk1
set_option maxRecDepth 1000000 in
set_option maxHeartbeats 8000000 in
theorem l01DrawWord_any (n b : Nat) (m : Int) (w : World) (hm : 0 ≤ m ∧ m ≤ 1000) (hs : Src w n b) :
    Calls Tryz.prog 89 #[.pointer (some ⟨b, 0, none⟩), (.int .i64 m)] w fun e w' => RetM e ∧ Src w' n b ∧ w.grownBy w' (some b) := by
  have I0 := Lib.hid (InS.start hs)
  clear hs
  go_enter Tryz.func89, Tryz.ntmps89
  go_wp2_with fail
  go_loopw [1] (fun x wr => ∃ (j : Nat) (p q r s : Int), x = (.int .i64 ((j : Int))) ∧ j ≤ 1000 ∧ Hid (Word n b w wr p q r s)) (fun x _ => (intOf x).toNat)
  case atStart =>
    exact ⟨m.toNat, 1, 0, 0, 1, by congr 1; omega, by omega, Lib.hid ⟨EM.one, Bm.newE (by simp), (Bm.new.alloc _).alloc _, (show NB _ _ from heap_alloc (heap_new' (by simp))), ((I0.out.alloc _).alloc _).alloc _⟩⟩
  case round =>
    obtain ⟨j, p, q, r, s, rfl, hj, WH⟩ := hrel
    clear I0 hm
    by_cases hj0 : 0 < j
    · have hj0' : (0 : Int) < (j : Int) := by omega
      go_wp2_with fail
      refine (l01Next_any n b 6 _ (by omega) WH.out.src.src).mono ?_; rintro e w2 ⟨x, rfl, hx, hs2, hg2⟩
      have W2 := Lib.hid (WH.out.turn hs2 hg2)
      clear WH hs2 hg2
      obtain ⟨xn, rfl⟩ := Int.eq_ofNat_of_zero_le hx.1
      have hx6 : xn < 6 := by omega
      have hx6' : (xn : Int) < 6 := by omega
      obtain ⟨st, hst, hin⟩ := W2.out.nam.at hx6
      have HIN := Lib.hid hin
      clear hin hx
      go_wp2_with fail
      refine (l01Named_any st _ HIN.out).mono ?_; rintro e w3 ⟨⟨a0, a1, a2, a3, rfl, hm⟩, hb3⟩
      have HM := Lib.hid (show EM a0 a1 a2 a3 from ⟨⟨hm.a0, hm.a1⟩, ⟨hm.b0, hm.b1⟩, ⟨hm.c0, hm.c1⟩, ⟨hm.d0, hm.d1⟩⟩)
      have W3 := Lib.hid (W2.out.below hb3)
      have hg3 : w.heap.size + 2 < w3.heap.size := W3.out.out.lt
      clear hm hb3 W2 hst HIN
      have W3' := Lib.hid (W3.out.alloc (.cells #[(.int .i64 a0), (.int .i64 a1), (.int .i64 a2), (.int .i64 a3)] 94))
      have M3 := Lib.hid (Bm.new (w := w3) (p := a0) (q := a1) (s := a2) (u := a3))
      clear W3
      go_wp2_with fail
      generalize w3.heap.size = g at *
      refine (l01Next_any n b 3 _ (by omega) W3'.out.src.src).mono ?_; rintro e w4 ⟨v, rfl, -, hs4, hg4⟩
      have W4 := Lib.hid (W3'.out.turn hs4 hg4)
      have M4' := Lib.hid (M3.out.turn W3'.out.src (by omega) hg4)
      clear W3' M3 hs4 hg4
      by_cases hv : v = 0
      · have hv' : (v == 0) = true := by simpa using hv
        obtain ⟨⟨c0, c1, c2, c3⟩, -, hl4⟩ := M4'.out.open_
        clear hv
        go_wp2_with fail
        refine (l01Inverse_any a0 a1 a2 a3 _ HM.out).mono ?_; rintro e w5 ⟨rfl, hb5⟩
        have W5 := Lib.hid (W4.out.below hb5)
        have M5 := Lib.hid (M4'.out.below hb5)
        clear W4 M4' hb5 c0 c1 c2 c3 hl4
        obtain ⟨⟨c0, c1, c2, c3⟩, ⟨f0, f1, f2, f3⟩, hl4⟩ := M5.out.open_
        have W6 := Lib.hid (W5.out.far (.int .i64 a3) (.int .i64 (-a1)) (.int .i64 (-a2)) (.int .i64 a0) hg3)
        have M6 := Lib.hid (M5.out.set a3 (-a1) (-a2) a0)
        have HE := Lib.hid HM.out.inv
        go_wp2_with fail
        clear c0 c1 c2 c3 f0 f1 f2 f3 hl4 W5 M5
        with_reducible refine (pick_lit_g [1, 1, 1, 2, 3] (by simp [ints]) W6.out.src.src (by simp) (by simp) (by simp) (by simp)).mono ?_
        rintro e w7 ⟨kk, rfl, hkk, hs7, hg7⟩
        have hkk2 : 1 ≤ kk ∧ kk ≤ 3 := by simp at hkk; omega
        have W7 := Lib.hid (W6.out.turn hs7 hg7)
        have M7 := Lib.hid (M6.out.turn W6.out.src (by omega) hg7)
        clear hs7 hg7 hkk W6 M6
        go_wp2_with fail
        go_loopw [9] (fun y wr => ∃ (i : Nat) (p q r s : Int), y = (.int .i64 ((i : Int))) ∧ i ≤ 3 ∧ Hid (Word n b w wr p q r s) ∧ Hid (Bm wr g a3 (-a1) (-a2) a0)) (fun y _ => (intOf y).toNat)
        case atStart => exact ⟨kk.toNat, p, q, r, s, by congr 1; omega, by omega, W7, M7⟩
        case round =>
          clear W7 M7
          obtain ⟨i, p1, q1, r1, s1, rfl, hi, WI, MI⟩ := hrel
          by_cases hi0 : 0 < i
          · have hi0' : (0 : Int) < (i : Int) := by omega
            obtain ⟨⟨c0, c1, c2, c3⟩, ⟨f0, f1, f2, f3⟩, hl4⟩ := WI.out.out.open_
            obtain ⟨⟨d0, d1, d2, d3⟩, -, hl9⟩ := MI.out.open_
            go_wp2_with fail
            refine (l01Times_em p1 q1 r1 s1 a3 (-a1) (-a2) a0 _ WI.out.em HE.out).mono ?_; rintro e w8 ⟨⟨x, y, z, u, ok, rfl, hx⟩, hb8⟩
            have HX := Lib.hid hx
            have W8 := Lib.hid (WI.out.below hb8)
            have M8 := Lib.hid (MI.out.below hb8)
            clear hb8 hx c0 c1 c2 c3 f0 f1 f2 f3 hl4 d0 d1 d2 d3 hl9 WI MI
            obtain ⟨⟨c0, c1, c2, c3⟩, ⟨f0, f1, f2, f3⟩, hl4⟩ := W8.out.out.open_
            cases ok
            · go_wp2_with fail
              go_roundw
              case rel => exact ⟨i - 1, p1, q1, r1, s1, by congr 1; omega, by omega, Lib.hid (W8.out.alloc _), Lib.hid (M8.out.alloc _)⟩
              case measure => simp [intOf]; omega
            · go_wp2_with fail
              go_roundw
              case rel => exact ⟨i - 1, x, y, z, u, by congr 1; omega, by omega, Lib.hid ((W8.out.set HX.out).alloc _), Lib.hid ((M8.out.far _ _ _ _ (by omega)).alloc _)⟩
              case measure => simp [intOf]; omega
          · obtain rfl : i = 0 := by omega
            clear MI
            go_wp2_with fail
            go_roundw
            case rel => exact ⟨j - 1, p1, q1, r1, s1, by congr 1; omega, by omega, WI⟩
            case measure => simp [intOf]; omega
      · have hv' : (v == 0) = false := by simpa using hv
        clear hv
        go_wp2_with fail
        with_reducible refine (pick_lit_g [1, 1, 1, 2, 3] (by simp [ints]) W4.out.src.src (by simp) (by simp) (by simp) (by simp)).mono ?_
        rintro e w7 ⟨kk, rfl, hkk, hs7, hg7⟩
        have hkk2 : 1 ≤ kk ∧ kk ≤ 3 := by simp at hkk; omega
        have W7 := Lib.hid (W4.out.turn hs7 hg7)
        have M7 := Lib.hid (M4'.out.turn W4.out.src (by omega) hg7)
        clear hs7 hg7 hkk W4 M4'
        go_wp2_with fail
        go_loopw [9] (fun y wr => ∃ (i : Nat) (p q r s : Int), y = (.int .i64 ((i : Int))) ∧ i ≤ 3 ∧ Hid (Word n b w wr p q r s) ∧ Hid (Bm wr g a0 a1 a2 a3)) (fun y _ => (intOf y).toNat)
        case atStart => exact ⟨kk.toNat, p, q, r, s, by congr 1; omega, by omega, W7, M7⟩
        case round =>
          clear W7 M7
          obtain ⟨i, p1, q1, r1, s1, rfl, hi, WI, MI⟩ := hrel
          by_cases hi0 : 0 < i
          · have hi0' : (0 : Int) < (i : Int) := by omega
            obtain ⟨⟨c0, c1, c2, c3⟩, ⟨f0, f1, f2, f3⟩, hl4⟩ := WI.out.out.open_
            obtain ⟨⟨d0, d1, d2, d3⟩, -, hl9⟩ := MI.out.open_
            go_wp2_with fail
            refine (l01Times_em p1 q1 r1 s1 a0 a1 a2 a3 _ WI.out.em HM.out).mono ?_; rintro e w8 ⟨⟨x, y, z, u, ok, rfl, hx⟩, hb8⟩
            have HX := Lib.hid hx
            have W8 := Lib.hid (WI.out.below hb8)
            have M8 := Lib.hid (MI.out.below hb8)
            clear hb8 hx c0 c1 c2 c3 f0 f1 f2 f3 hl4 d0 d1 d2 d3 hl9 WI MI
            obtain ⟨⟨c0, c1, c2, c3⟩, ⟨f0, f1, f2, f3⟩, hl4⟩ := W8.out.out.open_
            cases ok
            · go_wp2_with fail
              go_roundw
              case rel => exact ⟨i - 1, p1, q1, r1, s1, by congr 1; omega, by omega, Lib.hid (W8.out.alloc _), Lib.hid (M8.out.alloc _)⟩
              case measure => simp [intOf]; omega
            · go_wp2_with fail
              go_roundw
              case rel => exact ⟨i - 1, x, y, z, u, by congr 1; omega, by omega, Lib.hid ((W8.out.set HX.out).alloc _), Lib.hid ((M8.out.far _ _ _ _ (by omega)).alloc _)⟩
              case measure => simp [intOf]; omega
          · obtain rfl : i = 0 := by omega
            clear MI
            go_wp2_with fail
            go_roundw
            case rel => exact ⟨j - 1, p1, q1, r1, s1, by congr 1; omega, by omega, WI⟩
            case measure => simp [intOf]; omega
    · obtain rfl : j = 0 := by omega
      obtain ⟨⟨c0, c1, c2, c3⟩, ⟨f0, f1, f2, f3⟩, hl4⟩ := WH.out.out.open_
      obtain ⟨⟨d0, d1, d2, d3⟩, ⟨i0, i1, i2, i3⟩, hl0⟩ := WH.out.res.open_
      go_wp2_with fail
      refine bodyPost_ret (v := (.agg #[.int .i64 p, .int .i64 q, .int .i64 r, .int .i64 s])) (by simp [results, Tryz.results89, go_sem, set4_0 WH.out.res, set4_1 WH.out.res, set4_2 WH.out.res, set4_3 WH.out.res] <;> rfl) rfl ?_
      have IF := WH.out.src.set4 (r := w.heap.size) (.int .i64 p) (.int .i64 q) (.int .i64 r) (.int .i64 s) (Nat.le_refl _)
      exact ⟨⟨_, _, _, _, rfl, WH.out.em⟩, IF.src, IF.grown⟩
end Go.Proofs.YtjnkogkpdbgohaaGreatDoor
