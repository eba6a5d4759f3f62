/- Contracts: FirstConjugator, the model's (written by gen_c76.py). -/
import Derived.Test.YtencfmipplgnkaaC76
namespace Go.Proofs.Ytencfmipplgnkaa
open Go.RowKit
attribute [local go_sem] eqMat
set_option maxRecDepth 100000 in
set_option maxHeartbeats 4000000 in
theorem sFirstConjugator_any (a b c d a' b' c' d' k : Int) (w : World) :
    Calls Try.prog 28 #[(.agg #[.int .i64 a, .int .i64 b, .int .i64 c, .int .i64 d]), (.agg #[.int .i64 a', .int .i64 b', .int .i64 c', .int .i64 d']), (.int .i64 k)] w fun e w' => e = .returned (.tuple #[(.agg #[.int .i64 ((fcR ⟨a, b, c, d⟩ ⟨a', b', c', d'⟩ k).1.a), .int .i64 ((fcR ⟨a, b, c, d⟩ ⟨a', b', c', d'⟩ k).1.b), .int .i64 ((fcR ⟨a, b, c, d⟩ ⟨a', b', c', d'⟩ k).1.c), .int .i64 ((fcR ⟨a, b, c, d⟩ ⟨a', b', c', d'⟩ k).1.d)]), (.int .i64 ((fcR ⟨a, b, c, d⟩ ⟨a', b', c', d'⟩ k).2))]) ∧ Below w.heap.size w w' := by
  have H0 := Lib.hid (fun W => l01Is_any a b c d W)
  have H1 := Lib.hid (fun W => l01Is_any a' b' c' d' W)
  have HW := Lib.hid (fun W => l01In_any k 0 3 W)
  cases hm : isMat a b c d
  · rw [show fcR ⟨a, b, c, d⟩ ⟨a', b', c', d'⟩ k = (⟨0, 0, 0, 0⟩, 1) by unfold fcR; rw [if_neg]; intro h; simp [hm] at h]
    rw [hm] at H0
    clear hm
    go_enter Try.func28, Try.ntmps28
    go_wp2_with fail
    refine (H0.out _).mono ?_; rintro e w1 ⟨rfl, hb1⟩
    obtain ⟨hc1, hf1⟩ := bcell hb1
    obtain ⟨hz0, hz1, hz2⟩ : w.heap.size < w1.heap.size ∧ w.heap.size + 1 < w1.heap.size ∧ w.heap.size + 1 + 1 < w1.heap.size := by have := hb1.size; (try simp at this); omega
    have hB1 : Below w.heap.size w w1 := bfin (by go_grown) hb1
    go_wp2_with fail
    have hall := And.intro hc1 (And.intro hz0 (And.intro hz1 (hz2)))
    refine bodyPost_ret (v := .tuple #[(.agg #[.int .i64 0, .int .i64 0, .int .i64 0, .int .i64 0]), (.int .i64 1)]) (by first | (simp [results, Try.results28, go_sem]; done) | (simp [results, Try.results28, go_sem, hall] <;> rfl)) rfl ⟨rfl, by go_grown⟩
  cases hn : isMat a' b' c' d'
  · rw [show fcR ⟨a, b, c, d⟩ ⟨a', b', c', d'⟩ k = (⟨0, 0, 0, 0⟩, 1) by unfold fcR; rw [if_neg]; intro h; simp [hn] at h]
    rw [hm] at H0
    rw [hn] at H1
    clear hm hn
    go_enter Try.func28, Try.ntmps28
    go_wp2_with fail
    refine (H0.out _).mono ?_; rintro e w1 ⟨rfl, hb1⟩
    obtain ⟨hc1, hf1⟩ := bcell hb1
    obtain ⟨hz0, hz1, hz2⟩ : w.heap.size < w1.heap.size ∧ w.heap.size + 1 < w1.heap.size ∧ w.heap.size + 1 + 1 < w1.heap.size := by have := hb1.size; (try simp at this); omega
    go_wp2_with fail
    refine (H1.out _).mono ?_; rintro e w2 ⟨rfl, hb2⟩
    replace hb2 := bstep hb1 hb2
    clear hc1 hf1 hb1
    obtain ⟨hc2, hf2⟩ := bcell hb2
    obtain ⟨hz0, hz1, hz2⟩ : w.heap.size < w2.heap.size ∧ w.heap.size + 1 < w2.heap.size ∧ w.heap.size + 1 + 1 < w2.heap.size := by have := hb2.size; (try simp at this); omega
    have hB2 : Below w.heap.size w w2 := bfin (by go_grown) hb2
    go_wp2_with fail
    have hall := And.intro hc2 (And.intro hz0 (And.intro hz1 (hz2)))
    refine bodyPost_ret (v := .tuple #[(.agg #[.int .i64 0, .int .i64 0, .int .i64 0, .int .i64 0]), (.int .i64 1)]) (by first | (simp [results, Try.results28, go_sem]; done) | (simp [results, Try.results28, go_sem, hall] <;> rfl)) rfl ⟨rfl, by go_grown⟩
  rw [hm] at H0
  rw [hn] at H1
  cases hk : inB k 0 3
  · rw [show fcR ⟨a, b, c, d⟩ ⟨a', b', c', d'⟩ k = (⟨0, 0, 0, 0⟩, 2) by unfold fcR; rw [if_pos ⟨hm, hn⟩, if_neg (by rw [hk]; simp)]]
    rw [hk] at HW
    clear hm hn hk
    go_enter Try.func28, Try.ntmps28
    go_wp2_with fail
    refine (H0.out _).mono ?_; rintro e w1 ⟨rfl, hb1⟩
    obtain ⟨hc1, hf1⟩ := bcell hb1
    obtain ⟨hz0, hz1, hz2⟩ : w.heap.size < w1.heap.size ∧ w.heap.size + 1 < w1.heap.size ∧ w.heap.size + 1 + 1 < w1.heap.size := by have := hb1.size; (try simp at this); omega
    go_wp2_with fail
    refine (H1.out _).mono ?_; rintro e w2 ⟨rfl, hb2⟩
    replace hb2 := bstep hb1 hb2
    clear hc1 hf1 hb1
    obtain ⟨hc2, hf2⟩ := bcell hb2
    obtain ⟨hz0, hz1, hz2⟩ : w.heap.size < w2.heap.size ∧ w.heap.size + 1 < w2.heap.size ∧ w.heap.size + 1 + 1 < w2.heap.size := by have := hb2.size; (try simp at this); omega
    go_wp2_with fail
    refine (HW.out _).mono ?_; rintro e w' ⟨rfl, rfl⟩
    have hB2 : Below w.heap.size w w2 := bfin (by go_grown) hb2
    go_wp2_with fail
    have hall := And.intro hc2 (And.intro hz0 (And.intro hz1 (hz2)))
    refine bodyPost_ret (v := .tuple #[(.agg #[.int .i64 0, .int .i64 0, .int .i64 0, .int .i64 0]), (.int .i64 2)]) (by first | (simp [results, Try.results28, go_sem]; done) | (simp [results, Try.results28, go_sem, hall] <;> rfl)) rfl ⟨rfl, by go_grown⟩
  obtain ⟨K, rfl⟩ := Int.eq_ofNat_of_zero_le (inB_iff.1 hk).1
  have hK : K ≤ 3 := by have := (inB_iff.1 hk).2; omega
  have HM := Lib.hid (fun W => sMatricesWithin_any K W)
  rw [mwRes_ok hk] at HM
  rw [hk] at HW
  have HG := Lib.hid (fcR_ok (m := ⟨a, b, c, d⟩) (n := ⟨a', b', c', d'⟩) hm hn hk)
  have HS := Lib.hid (fun (g : Q4) (h : g ∈ matsL K) => e24_small (matsL_small hK h))
  have Em := Lib.hid (e24_mat hm)
  have En := Lib.hid (e24_mat hn)
  have hlen : (matsL K).length ≤ 2401 := matA_len hK (by omega)
  generalize fcR ⟨a, b, c, d⟩ ⟨a', b', c', d'⟩ (K : Int) = G at *
  generalize matsL K = L at *
  clear hm hn hk
  go_enter Try.func28, Try.ntmps28
  go_wp2_with fail
  refine (H0.out _).mono ?_; rintro e w1 ⟨rfl, hb1⟩
  obtain ⟨hc1, hf1⟩ := bcell hb1
  obtain ⟨hz0, hz1, hz2⟩ : w.heap.size < w1.heap.size ∧ w.heap.size + 1 < w1.heap.size ∧ w.heap.size + 1 + 1 < w1.heap.size := by have := hb1.size; (try simp at this); omega
  go_wp2_with fail
  refine (H1.out _).mono ?_; rintro e w2 ⟨rfl, hb2⟩
  replace hb2 := bstep hb1 hb2
  clear hc1 hf1 hb1
  obtain ⟨hc2, hf2⟩ := bcell hb2
  obtain ⟨hz0, hz1, hz2⟩ : w.heap.size < w2.heap.size ∧ w.heap.size + 1 < w2.heap.size ∧ w.heap.size + 1 + 1 < w2.heap.size := by have := hb2.size; (try simp at this); omega
  go_wp2_with fail
  refine (HW.out _).mono ?_; rintro e w' ⟨rfl, rfl⟩
  go_wp2_with fail
  refine (HM.out _).mono ?_; rintro e w3 ⟨v, rfl, ho, hb3⟩
  obtain ⟨A, cap, rfl, -, -, hat⟩ := own_view ho
  have HR := Lib.hid hat
  replace hb3 := bstep hb2 hb3
  clear ho hat hb2 hc2 hf2
  have B0 := Lib.hid (show Blk4 w3 w.heap.size 40 a b c d from heap_below ((heap_alloc (heap_alloc heap_new))) hb3)
  have B1 := Lib.hid (show Blk4 w3 (w.heap.size + 1) 40 a' b' c' d' from heap_below ((heap_alloc (heap_new' (by simp)))) hb3)
  have B2 := Lib.hid (show Blk4 w3 (w.heap.size + 1 + 1) 40 0 0 0 0 from heap_below ((heap_new' (by simp))) hb3)
  have hB3 : Below w.heap.size w w3 := bfin (by go_grown) hb3
  have hs3 := hB3.size
  clear hb3
  go_wp2_with fail
  go_loopw [10] (fun i wr => ∃ D l : List Q4, i = (.int .i64 ((D.length : Int))) ∧ Hid (FcAt ⟨a, b, c, d⟩ ⟨a', b', c', d'⟩ L D l) ∧ Below w3.heap.size w3 wr) (fun i _ => L.length - (intOf i).toNat)
  case atStart => exact ⟨[], L, rfl, Lib.hid ⟨rfl, rfl⟩, Below.refl _ _⟩
  case round =>
    obtain ⟨D, l, rfl, HF, hb⟩ := hrel
    have hbw : Below w.heap.size w wr := hB3.trans (hb.mono hs3)
    have hlL : L.length = D.length + l.length := by rw [HF.out.hL, List.length_append]
    obtain ⟨⟨g20, g21, g22, g23⟩, ⟨f20, f21, f22, f23⟩, l2⟩ := Blk4.open_ (heap_below B2.out hb)
    cases l with
    | nil =>
      simp only [List.length_nil, Nat.add_zero] at hlL
      have HV := Lib.hid (HG.out.no (by rw [HF.out.hF]; rfl))
      clear hB3
      go_wp2_with fail
      refine bodyPost_ret (v := .tuple #[(.agg #[.int .i64 0, .int .i64 0, .int .i64 0, .int .i64 0]), (.int .i64 4)]) (by first | (simp [results, Try.results28, go_sem]; done) | (simp [results, Try.results28, go_sem, g20, g21, g22, g23] <;> rfl)) rfl ⟨by rw [HV.out], by go_grown⟩
    | cons g l =>
      simp only [List.length_cons] at hlL
      have hlt : D.length < L.length := by omega
      clear hlL
      have HRr := Lib.hid (show RowAt w3 _ A (D ++ g :: l).length (ints (flat4 (D ++ g :: l))) by rw [← HF.out.hL]; exact HR.out)
      obtain ⟨r, rfl, -, -, -, -⟩ := HRr.out (by rw [List.length_append, List.length_cons]; omega)
      obtain ⟨hr, c0, c1, c2, c3⟩ := cell4_of HRr.out hb
      have hrr : r < wr.heap.size := Nat.lt_of_lt_of_le hr hb.size
      obtain ⟨⟨g00, g01, g02, g03⟩, ⟨-, -, -, -⟩, l0⟩ := Blk4.open_ (heap_below B0.out hb)
      obtain ⟨⟨g10, g11, g12, g13⟩, ⟨-, -, -, -⟩, l1⟩ := Blk4.open_ (heap_below B1.out hb)
      have Eg := Lib.hid (HS.out g (by rw [HF.out.hL]; simp))
      have HNo := Lib.hid (@FcAt.next _ _ _ _ _ _ HF.out)
      have HYes := Lib.hid (fun h => HG.out.yes g (HF.out.found h))
      obtain ⟨x, y, z, u⟩ := g
      simp only at c0 c1 c2 c3
      have T1 := Lib.hid (fun W => l04Leads_any a b c d a' b' c' d' x y z u W Em.out En.out Eg.out)
      rw [show leadB a b c d a' b' c' d' x y z u = leads ⟨a, b, c, d⟩ ⟨a', b', c', d'⟩ ⟨x, y, z, u⟩ from rfl] at T1
      generalize leads ⟨a, b, c, d⟩ ⟨a', b', c', d'⟩ ⟨x, y, z, u⟩ = sb at *
      cases sb
      · go_wp2_with fail
        refine wp_region_ext (by kernel_rfl) (by kernel_rfl) ?_
        repeat (go_big_quiet_step (first | ((go_at_call 63; refine Calls.ext_of (Nat.le_refl _) (T1.out _)))))
        refine wpQuiet_nil ?_
        intro w6 hb6
        obtain ⟨hc6, hf6⟩ := bcell hb6
        obtain ⟨hz6_0, hz6_1⟩ : r < w6.heap.size ∧ w.heap.size + 1 + 1 < w6.heap.size := by have := hb6.size; (try simp at this); omega
        have hD6 := hb.trans (hb6.mono hb.size)
        have HN := Lib.hid (HNo.out (by simp))
        go_wp2_with fail
        go_roundw
        case rel => exact ⟨D ++ [⟨x, y, z, u⟩], l, by simp, HN, hD6⟩
        case measure => simp [intOf]; omega
      · go_wp2_with fail
        refine wp_region_ext (by kernel_rfl) (by kernel_rfl) ?_
        repeat (go_big_quiet_step (first | ((go_at_call 63; refine Calls.ext_of (Nat.le_refl _) (T1.out _)))))
        refine wpQuiet_nil ?_
        intro w6 hb6
        obtain ⟨hc6, hf6⟩ := bcell hb6
        obtain ⟨hz6_0, hz6_1⟩ : r < w6.heap.size ∧ w.heap.size + 1 + 1 < w6.heap.size := by have := hb6.size; (try simp at this); omega
        have HV := Lib.hid (HYes.out (by simp))
        clear hB3
        obtain ⟨⟨k0, k1, k2, k3⟩, ⟨-, -, -, -⟩, lk⟩ := Blk4.open_ (heap_below (by exact heap_below B2.out hb) hb6)
        have hB6 : Below w.heap.size w w6 := bfin (by go_grown) hb6
        go_wp2_with fail
        refine bodyPost_ret (v := .tuple #[(.agg #[.int .i64 x, .int .i64 y, .int .i64 z, .int .i64 u]), (.int .i64 0)]) (by first | (simp [results, Try.results28, go_sem]; done) | (simp [results, Try.results28, go_sem, k0, k1, k2, k3] <;> rfl)) rfl ⟨by rw [HV.out], by go_grown⟩
end Go.Proofs.Ytencfmipplgnkaa
