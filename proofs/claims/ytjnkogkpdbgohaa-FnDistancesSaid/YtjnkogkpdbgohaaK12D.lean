/- Draws: a row of numbers, as a continued fraction or not. -/
import Derived.Test.YtjnkogkpdbgohaaK12C
import Derived.Test.YtjnkogkpdbgohaaK2
namespace Go.Proofs.Ytjnkogkpdbgohaa
open Go.RowKit
def lenOf : Value → Nat
  | .slice _ n _ => n
  | _ => 0
theorem own_turn {w w' : World} {B b z n : Nat} {E : TypeId} {v : Value} {xs : List Value} (h : w.ownsRow B E z v n xs) (hg : w.grownBy w' (some b)) (hb : b < B) : w'.ownsRow B E z v n xs := by
  refine h.kept hg ?_
  cases hv : v.ownBlock with
  | none => exact .inl rfl
  | some k => exact .inr fun e => by have := own_ge h hv; injection e with e; omega
theorem InS.belowG {n b B : Nat} {w0 w w' : World} (h : InS n b w0 w) (hb : Below B w w') (hB : w0.heap.size ≤ B) : InS n b w0 w' := by
  have hold := h.old
  obtain ⟨a, len, cap, j, hh, h3, h4, h5, h6, h7, h8⟩ := h.src
  have hblk : w'.heap[b]? = w.heap[b]? := hb.block b (by omega)
  exact ⟨⟨a, len, cap, j, hh, hblk.trans h3, h4, h5, h6, h7, h8.below (hb.mono (by omega))⟩,
    ⟨hb.os.trans h.grown.os, hb.tape.trans h.grown.tape, hb.output.trans h.grown.output, Nat.le_trans h.grown.size hb.size, fun k hk hkb => (hb.block k (by omega)).trans (h.grown.block k hk hkb)⟩, hold⟩
theorem fy_pos {p q : Int} (h : 0 < q) : 0 < fy p q := by
  obtain ⟨k, hk⟩ := Int.gcd_dvd_right p q
  have hg := gcd_pos_right (p := p) h
  have e : fy p q = k := by
    unfold fy
    generalize (Int.gcd p q : Int) = g at *
    subst hk
    exact Int.mul_tdiv_cancel_left k (by omega)
  rw [e]
  refine Int.not_le.1 fun h0 => ?_
  have := Int.mul_le_mul_of_nonneg_left h0 (show 0 ≤ (Int.gcd p q : Int) by omega)
  omega
/-- A row of a call's own, as it is told. -/
def RowSay (W : World) (e : Ending) (w' : World) : Prop := ∃ (L : List Int) (A : Option Addr) (cap : Nat), e = .returned (.slice A L.length cap) ∧ L.length ≤ 1000 ∧ L.length ≤ cap ∧ cap ≤ maxLen ∧ RowAt w' W.heap.size A L.length (ints L) ∧ (∀ b, A = some ⟨b, 0, none⟩ → b < w'.heap.size)
theorem RowSay.of {W w' : World} {B : Nat} {v : Value} {L : List Int} (h : w'.ownsRow B 2 1 v L.length (ints L)) (hB : W.heap.size ≤ B) (hl : L.length ≤ 1000) : RowSay W (.returned v) w' := by
  obtain ⟨A, cap, rfl, h1, h2, h3⟩ := own_view h
  refine ⟨L, A, cap, rfl, hl, h1, h2, fun hn => ?_, own_under h⟩
  obtain ⟨b, hA, hb, hr⟩ := h3 hn
  exact ⟨b, hA, Nat.le_trans hB hb, hr⟩
theorem RowSay.cut {W w' : World} {B cap : Nat} {A : Option Addr} {L : List Int} (h : w'.ownsRow B 2 1 (.slice A L.length cap) L.length (ints L)) (hB : W.heap.size ≤ B) (hl : L.length ≤ 1000) (hn : 0 < L.length) : RowSay W (.returned (.slice A (L.length - 1) cap)) w' := by
  obtain ⟨A', cap', e, h1, h2, h3⟩ := own_view h
  injection e with e1 e2 e3
  subst e1 e3
  have hlen : L.dropLast.length = L.length - 1 := by simp
  refine ⟨L.dropLast, A, cap, by rw [hlen], by omega, by omega, h2, fun _ => ?_, own_under h⟩
  obtain ⟨b, hA, hb, hlt, hc, hf⟩ := h3 hn
  refine ⟨b, hA, Nat.le_trans hB hb, hlt, fun j u hu => hc j u ?_, hf⟩
  unfold ints at *
  rw [List.getElem?_map] at *
  rw [List.getElem?_dropLast] at hu
  split at hu
  · exact hu
  · simp at hu
set_option maxRecDepth 1000000 in
set_option maxHeartbeats 8000000 in
theorem DrawFractionOfContinued_any (a : Option Addr) (len cap : Nat) (w : World) (hl : len ≤ 1152921504606846976) (hb : Bytes w w.heap.size a len) :
    Calls Try.prog 22 #[.slice a len cap] w fun e w' => RowSay w e w' ∧ Below w.heap.size w w' := by
  have HF := Lib.hid (l01From_any a len cap w hl hb)
  clear hb
  go_enter Try.func22, Try.ntmps22
  go_wp2_with fail
  refine (HF.out).mono ?_; rintro e w1 ⟨b, rfl, hs1, hb1⟩
  have HB1 := Lib.hid hb1
  have I := Lib.hid (InS.start hs1)
  have hbn : w.heap.size ≤ b := hs1.ge
  have hbw : b < w1.heap.size := hs1.lt
  have hww : w.heap.size ≤ w1.heap.size := hb1.size
  have HN := Lib.hid (show w.heap.size = w.heap.size from rfl)
  generalize hnn : w.heap.size = n at HB1 I hs1 hbn hww hb1
  replace HN := Lib.hid hnn
  clear hnn
  clear HF hs1 hb1
  go_wp2_with fail
  refine (l01Next_any n b 2001 _ (by omega) I.out.src).mono ?_; rintro e w2 ⟨x, rfl, hx, hs, hg⟩
  replace I := Lib.hid (I.out.turn hs hg)
  clear hs hg
  have hx2 : 0 ≤ x ∧ x < 2001 := by omega
  clear hx
  go_wp2_with fail
  refine (l01Next_any n b 1000 _ (by omega) I.out.src).mono ?_; rintro e w3 ⟨y, rfl, hy, hs, hg⟩
  replace I := Lib.hid (I.out.turn hs hg)
  clear hs hg
  have hy2 : 0 ≤ y ∧ y < 1000 := by omega
  clear hy
  obtain ⟨P, hP⟩ : ∃ P, fx (x - 1000) (1 + y) = P := ⟨_, rfl⟩
  obtain ⟨Q, hQ⟩ : ∃ Q, fy (x - 1000) (1 + y) = Q := ⟨_, rfl⟩
  have HR := Lib.hid (fun W => l01Reduced_any (x - 1000) (1 + y) W (by omega) (by omega) (by omega) (by omega))
  have hfb := fracBd (p := x - 1000) (q := 1 + y) (K := 1000) (by omega) (by omega) (by omega) (by omega)
  have hQ0 : 0 < Q ∧ Q ≤ 1000 := ⟨by rw [← hQ]; exact fy_pos (by omega), by rw [← hQ]; exact hfb.y1⟩
  have hP0 : E9 P := by rw [← hP]; exact ⟨by have := hfb.x0; omega, by have := hfb.x1; omega⟩
  clear hfb
  rw [hP, hQ] at HR
  clear hP hQ
  go_wp2_with fail
  refine (HR.out _).mono ?_; rintro e w4 ⟨rfl, hb⟩
  replace I := Lib.hid (I.out.below hb)
  clear hb
  have HC := Lib.hid (fun W => l03Continued_any P Q W hP0 (by omega) (by omega))
  have hlen := cfrac_len (p := P) (q := Q) (by omega) (by omega)
  have hpos : 0 < (cfrac P Q).length := by rw [cfrac_step hQ0.1]; simp
  generalize cfrac P Q = L at *
  clear hP0 hQ0 HR hx2 hy2
  go_wp2_with fail
  refine (HC.out _).mono ?_; rintro e w5 ⟨v, rfl, ho, hb⟩
  have hg5 : w1.heap.size ≤ w4.heap.size := I.out.size
  have HO := Lib.hid (own_base ho hg5)
  replace I := Lib.hid (I.out.below hb)
  clear HC ho hb
  go_upto_region 3 with (fail)
  go_wp2_with fail
  refine (l01Next_any n b 8 _ (by omega) I.out.src).mono ?_; rintro e w6 ⟨u, rfl, -, hs, hg9⟩
  replace I := Lib.hid (I.out.turn hs hg9)
  clear hs
  replace HO := Lib.hid (own_turn HO.out hg9 hbw)
  clear hg9
  by_cases hu0 : u = 0
  · subst hu0
    go_wp2_with fail
    refine (pick_lit [1, 2, 3, 1000000000, 0] rfl I.out.src rfl (by simp) (by simp)).mono ?_; rintro e w7 ⟨k, rfl, -, hs, hg9⟩
    replace I := Lib.hid (I.out.turn hs hg9)
    clear hs
    replace HO := Lib.hid (own_turn HO.out hg9 hbw)
    clear hg9
    have hsz := I.out.size
    go_wp2_with (at_builtin; refine app_one elI2 rfl _ _ rfl rfl rfl (by simp) (HO.out) ((Below.refl w1.heap.size w7)) rfl (by intro u hu; simp at hu; first | (subst hu; rfl) | (rcases hu with rfl | rfl <;> rfl) | (rcases hu with rfl | rfl | rfl <;> rfl) | (rcases hu with rfl | rfl | rfl | rfl <;> rfl)) (hsz) (by omega) ?_; intro v' w8 hown8 hb8 hg8; have HO8 := Lib.hid hown8; clear hown8 hg8)
    replace I := Lib.hid (I.out.belowG hb8 (Nat.le_refl _))
    have HT := Lib.hid (HB1.out.trans (I.out.belowN hbn))
    clear hb8
    go_wp2_with fail
    go_ret
    rw [HN.out]
    exact ⟨RowSay.of (L := L ++ [k]) (by simpa [ints] using HO8.out) (by rw [HN.out]; exact hww) (by simp; omega), HT.out⟩
  · have hu0' : (u == 0) = false := by simpa using hu0
    clear hu0
    by_cases hu1 : u = 1
    · subst hu1
      have hm : L.length ≤ 60 := hlen
      go_wp2_with fail
      go_loopw [4] (fun x wr => ∃ (D : List Int), D.length ≤ 60 ∧ Hid (wr.ownsRow w1.heap.size 2 1 x D.length (ints D)) ∧ Hid (InS n b w1 wr)) (fun x _ => 60 - lenOf x)
      case atStart => exact ⟨L, hlen, HO, I⟩
      case round =>
        clear HO I hlen hpos hm
        obtain ⟨D, hD, HO, I⟩ := hrel
        obtain ⟨A, cap0, rfl, -, hcm, -⟩ := own_view HO.out
        by_cases h40 : D.length < 40
        · have h40' : (D.length : Int) < 40 := by omega
          go_wp2_with fail
          refine (l01Next_any n b 4 _ (by omega) I.out.src).mono ?_; rintro e w7 ⟨k, rfl, hk, hs, hg9⟩
          have hk2 : 0 ≤ k ∧ k < 4 := by omega
          replace I := Lib.hid (I.out.turn hs hg9)
          replace HO := Lib.hid (own_turn HO.out hg9 hbw)
          have hsz := I.out.size
          clear hs hg9 hk
          go_wp2_with (at_builtin; refine app_one elI2 rfl _ _ rfl rfl rfl (by simp) (HO.out) ((Below.refl w1.heap.size w7)) rfl (by intro u hu; simp at hu; first | (subst hu; rfl) | (rcases hu with rfl | rfl <;> rfl) | (rcases hu with rfl | rfl | rfl <;> rfl) | (rcases hu with rfl | rfl | rfl | rfl <;> rfl)) (hsz) (by omega) ?_; intro v' w8 hown8 hb8 hg8; have HO8 := Lib.hid hown8; clear hown8 hg8)
          replace I := Lib.hid (I.out.belowG hb8 (Nat.le_refl _))
          obtain ⟨A8, cap8, rfl, -, -, -⟩ := own_view HO8.out
          clear hb8
          go_wp2_with fail
          go_roundw
          case rel => exact ⟨D ++ [1 + k], by simp; omega, Lib.hid (by simpa [ints] using HO8.out), I⟩
          case measure => simp [lenOf]; omega
        · have h40' : ¬ (D.length : Int) < 40 := by omega
          have HT := Lib.hid (HB1.out.trans (I.out.belowN hbn))
          go_wp2_with fail
          go_ret
          rw [HN.out]
          exact ⟨RowSay.of (L := D) HO.out (by rw [HN.out]; exact hww) (by omega), HT.out⟩
    · have hu1' : (u == 1) = false := by simpa using hu1
      clear hu1
      by_cases hu2 : u = 2
      · subst hu2
        go_wp2_with fail
        refine (pick_lit [0, 5, -7, 2000000000] rfl I.out.src rfl (by simp) (by simp)).mono ?_; rintro e w7 ⟨k, rfl, -, hs, hg9⟩
        replace I := Lib.hid (I.out.turn hs hg9)
        clear hs
        clear hg9 HO
        have hsz := I.out.size
        have HO := Lib.hid (show (w7.alloc (.cells #[(.int .i64 k)] 2)).ownsRow w1.heap.size 2 1 (.slice (some ⟨w7.heap.size, 0, none⟩) 1 1) 1 (ints [k]) from World.ownsRow_lit w7 #[(.int .i64 k)] 1 hsz (by simp [maxLen]) rfl)
        replace I := Lib.hid (I.out.alloc (.cells #[(.int .i64 k)] 2))
        have HT := Lib.hid (HB1.out.trans (I.out.belowN hbn))
        go_wp2_with fail
        go_ret
        rw [HN.out]
        exact ⟨RowSay.of (L := [k]) HO.out (by rw [HN.out]; exact hww) (by simp), HT.out⟩
      · have hu2' : (u == 2) = false := by simpa using hu2
        clear hu2
        by_cases hu3 : u = 3
        · subst hu3
          obtain ⟨A, cap0, rfl, hcap, hcm, hat⟩ := own_view HO.out
          obtain ⟨g, rfl, -, -, -, -⟩ := hat hpos
          have HT := Lib.hid (HB1.out.trans (I.out.belowN hbn))
          have HR := Lib.hid (RowSay.cut (W := w) HO.out (by rw [HN.out]; exact hww) (by omega) hpos)
          have hc1 : (L.length : Int) - 1 ≤ (cap0 : Int) := by omega
          have hc2 : (0 : Int) ≤ (L.length : Int) - 1 := by omega
          clear hat
          go_wp2_with fail
          go_ret
          exact ⟨HR.out, by rw [HN.out]; exact HT.out⟩
        · have hu3' : (u == 3) = false := by simpa using hu3
          clear hu3
          go_wp2_with fail
          go_ret
          rw [HN.out]
          exact ⟨RowSay.of HO.out (by rw [HN.out]; exact hww) (by omega), (HB1.out.trans (I.out.belowN hbn))⟩
end Go.Proofs.Ytjnkogkpdbgohaa
