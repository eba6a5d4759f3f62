/- Contracts: FirstConjugator; the law (written by gen_c76.py). -/
import Derived.Test.YtencfmipplgnkaaC75
namespace Go.Proofs.Ytencfmipplgnkaa
open Go.RowKit
attribute [local go_sem] eqMat
def fcR (m n : Q4) (k : Int) : Q4 × Int :=
  if isMat m.a m.b m.c m.d = true ∧ isMat n.a n.b n.c n.d = true then (if inB k 0 3 = true then (match findQ m n (matsL k.toNat) with | some g => (g, 0) | none => (⟨0, 0, 0, 0⟩, 4)) else (⟨0, 0, 0, 0⟩, 2)) else (⟨0, 0, 0, 0⟩, 1)
structure FcG (m n : Q4) (L : List Q4) (G : Q4 × Int) : Prop where
  no : findQ m n L = none → G = (⟨0, 0, 0, 0⟩, 4)
  yes : ∀ g, findQ m n L = some g → G = (g, 0)
theorem fcR_ok {m n : Q4} {K : Nat} (hm : isMat m.a m.b m.c m.d = true) (hn : isMat n.a n.b n.c n.d = true) (hk : inB (K : Int) 0 3 = true) : FcG m n (matsL K) (fcR m n K) := by
  unfold fcR
  rw [if_pos ⟨hm, hn⟩, if_pos hk, Int.toNat_natCast]
  exact ⟨fun h => by rw [h], fun g h => by rw [h]⟩
theorem mwRes_ok {K : Nat} (hk : inB (K : Int) 0 3 = true) : mwRes K = ⟨flat4 (matsL K), (matsL K).length, 0⟩ := by
  unfold mwRes; rw [if_pos hk, Int.toNat_natCast]
theorem mwRes_no {k : Int} (hk : inB k 0 3 = false) : mwRes k = ⟨[], 0, 2⟩ := by
  unfold mwRes; rw [if_neg (by rw [hk]; simp)]
theorem e24_mat {a b c d : Int} (h : isMat a b c d = true) : E24 a b c d := by
  obtain ⟨h1, h2, h3, h4, h5, h6, h7, h8, _⟩ := isMat_iff.1 h
  exact ⟨⟨by omega, by omega⟩, ⟨by omega, by omega⟩, ⟨by omega, by omega⟩, ⟨by omega, by omega⟩⟩
theorem e24_small {g : Q4} (h : Small4 g) : E24 g.a g.b g.c g.d := by
  obtain ⟨h1, h2, h3, h4⟩ := h
  exact ⟨⟨by omega, by omega⟩, ⟨by omega, by omega⟩, ⟨by omega, by omega⟩, ⟨by omega, by omega⟩⟩
/-- What holds ahead of a round of the search. -/
structure FcAt (m n : Q4) (L D l : List Q4) : Prop where
  hL : L = D ++ l
  hF : findQ m n L = findQ m n l
theorem FcAt.next {m n g : Q4} {L D l : List Q4} (h : FcAt m n L D (g :: l)) (hg : leads m n g = false) : FcAt m n L (D ++ [g]) l :=
  ⟨by rw [h.hL]; simp, by rw [h.hF, findQ, if_neg (by rw [hg]; simp)]⟩
theorem FcAt.found {m n g : Q4} {L D l : List Q4} (h : FcAt m n L D (g :: l)) (hg : leads m n g = true) : findQ m n L = some g := by
  rw [h.hF, findQ, if_pos hg]
/-- The cells of one matrix in a row. -/
structure Cell4 (w : World) (r k : Nat) (x y z u : Int) : Prop where
  h0 : w.cell? ⟨r, k * 4, none⟩ = some (.int .i64 x)
  h1 : w.cell? ⟨r, k * 4 + 1, none⟩ = some (.int .i64 y)
  h2 : w.cell? ⟨r, k * 4 + 2, none⟩ = some (.int .i64 z)
  h3 : w.cell? ⟨r, k * 4 + 3, none⟩ = some (.int .i64 u)
theorem cell4_of {w w' : World} {B r : Nat} {D l : List Q4} {g : Q4} (h : RowAt w B (some ⟨r, 0, none⟩) (D ++ g :: l).length (ints (flat4 (D ++ g :: l)))) (hb : Below w.heap.size w w') : r < w.heap.size ∧ Cell4 w' r D.length g.a g.b g.c g.d := by
  obtain ⟨r', e, -, hr, hc, -⟩ := h (by rw [List.length_append, List.length_cons]; omega)
  injection e with e
  injection e with e
  subst e
  obtain ⟨f0, f1, f2, f3⟩ := @flat4_at D l g
  have hl : (flat4 (D ++ g :: l)).length = D.length * 4 + 4 + l.length * 4 := by rw [flat4_len, List.length_append, List.length_cons]; omega
  have key : ∀ j x, j < D.length * 4 + 4 → (flat4 (D ++ g :: l)).getD j 0 = x → w'.cell? ⟨r, j, none⟩ = some (.int .i64 x) := fun j x hj hx => by
    rw [hb.cell (p := ⟨r, j, none⟩) hr, hc j _ (ints_at (by omega)), hx]
  exact ⟨hr, key _ _ (by omega) f0, key _ _ (by omega) f1, key _ _ (by omega) f2, key _ _ (by omega) f3⟩
set_option maxRecDepth 100000 in
set_option maxHeartbeats 1000000 in
theorem FirstConjugator_any (a b c d a' b' c' d' k : Int) (w : World) :
    Calls Try.prog 29 #[(.agg #[.int .i64 a, .int .i64 b, .int .i64 c, .int .i64 d]), (.agg #[.int .i64 a', .int .i64 b', .int .i64 c', .int .i64 d']), (.int .i64 k)] w fun e w' => e = .returned (.tuple #[(.agg #[.int .i64 ((fcR ⟨a, b, c, d⟩ ⟨a', b', c', d'⟩ k).1.a), .int .i64 ((fcR ⟨a, b, c, d⟩ ⟨a', b', c', d'⟩ k).1.b), .int .i64 ((fcR ⟨a, b, c, d⟩ ⟨a', b', c', d'⟩ k).1.c), .int .i64 ((fcR ⟨a, b, c, d⟩ ⟨a', b', c', d'⟩ k).1.d)]), (.int .i64 ((fcR ⟨a, b, c, d⟩ ⟨a', b', c', d'⟩ k).2))]) ∧ Below w.heap.size w w' := by
  have HA := Lib.hid (fun bk W hc => areMatrices_2 bk a b c d a' b' c' d' W hc)
  cases hM : (isMat a b c d && isMat a' b' c' d')
  · rw [show fcR ⟨a, b, c, d⟩ ⟨a', b', c', d'⟩ k = (⟨0, 0, 0, 0⟩, 1) by unfold fcR; rw [if_neg]; intro h; simp [h.1, h.2] at hM]
    rw [hM] at HA
    clear hM
    go_enter Try.func29, Try.ntmps29
    go_wp2_with fail
    refine (HA.out _ _ ⟨by go_simp, by go_simp, by go_simp, by go_simp, by go_simp, by go_simp, by go_simp, by go_simp, by simp⟩).mono ?_; rintro e w1 ⟨rfl, hb1⟩
    obtain ⟨hc1, hf1⟩ := bcell hb1
    obtain ⟨hz0, hz1, hz2, hz3⟩ : w.heap.size < w1.heap.size ∧ w.heap.size + 1 < w1.heap.size ∧ w.heap.size + 1 + 1 < w1.heap.size ∧ w.heap.size + 1 + 1 + 1 < w1.heap.size := by have := hb1.size; (try simp at this); omega
    have hB1 : Below w.heap.size w w1 := bfin (by go_grown) hb1
    go_wp2_with fail
    have hall := And.intro hc1 (And.intro hz0 (And.intro hz1 (And.intro hz2 (hz3))))
    refine bodyPost_ret (v := .tuple #[(.agg #[.int .i64 0, .int .i64 0, .int .i64 0, .int .i64 0]), (.int .i64 1)]) (by first | (simp [results, Try.results29, go_sem]; done) | (simp [results, Try.results29, go_sem, hall] <;> rfl)) rfl ⟨rfl, by go_grown⟩
  rw [hM] at HA
  obtain ⟨hm, hn⟩ : isMat a b c d = true ∧ isMat a' b' c' d' = true := by simpa using hM
  clear hM
  cases hk : inB k 0 3
  · rw [show fcR ⟨a, b, c, d⟩ ⟨a', b', c', d'⟩ k = (⟨0, 0, 0, 0⟩, 2) by unfold fcR; rw [if_pos ⟨hm, hn⟩, if_neg (by rw [hk]; simp)]]
    have HM := Lib.hid (fun W => MatricesWithin_any k W)
    rw [mwRes_no hk] at HM
    clear hm hn hk
    go_enter Try.func29, Try.ntmps29
    go_wp2_with fail
    refine (HA.out _ _ ⟨by go_simp, by go_simp, by go_simp, by go_simp, by go_simp, by go_simp, by go_simp, by go_simp, by simp⟩).mono ?_; rintro e w1 ⟨rfl, hb1⟩
    obtain ⟨hc1, hf1⟩ := bcell hb1
    go_wp2_with fail
    refine (HM.out _).mono ?_; rintro e w2 ⟨v, rfl, ho, hb2⟩
    replace hb2 := bstep hb1 hb2
    clear ho hb1 hc1 hf1
    obtain ⟨hc2, hf2⟩ := bcell hb2
    obtain ⟨hz0, hz1, hz2, hz3⟩ : w.heap.size < w2.heap.size ∧ w.heap.size + 1 < w2.heap.size ∧ w.heap.size + 1 + 1 < w2.heap.size ∧ w.heap.size + 1 + 1 + 1 < w2.heap.size := by have := hb2.size; (try simp at this); omega
    have hB2 : Below w.heap.size w w2 := bfin (by go_grown) hb2
    go_wp2_with fail
    have hall := And.intro hc2 (And.intro hz0 (And.intro hz1 (And.intro hz2 (hz3))))
    refine bodyPost_ret (v := .tuple #[(.agg #[.int .i64 0, .int .i64 0, .int .i64 0, .int .i64 0]), (.int .i64 2)]) (by first | (simp [results, Try.results29, go_sem]; done) | (simp [results, Try.results29, go_sem, hall] <;> rfl)) rfl ⟨rfl, by go_grown⟩
  obtain ⟨K, rfl⟩ := Int.eq_ofNat_of_zero_le (inB_iff.1 hk).1
  have hK : K ≤ 3 := by have := (inB_iff.1 hk).2; omega
  have HM := Lib.hid (fun W => MatricesWithin_any K W)
  rw [mwRes_ok hk] at HM
  have HG := Lib.hid (fcR_ok (m := ⟨a, b, c, d⟩) (n := ⟨a', b', c', d'⟩) hm hn hk)
  have HS := Lib.hid (fun (g : Q4) (h : g ∈ matsL K) => e24_small (matsL_small hK h))
  have Em := Lib.hid (e24_mat hm)
  have En := Lib.hid (e24_mat hn)
  have hlen : (matsL K).length ≤ 2401 := matA_len hK (by omega)
  generalize fcR ⟨a, b, c, d⟩ ⟨a', b', c', d'⟩ (K : Int) = G at *
  generalize matsL K = L at *
  clear hm hn hk
  go_enter Try.func29, Try.ntmps29
  go_wp2_with fail
  refine (HA.out _ _ ⟨by go_simp, by go_simp, by go_simp, by go_simp, by go_simp, by go_simp, by go_simp, by go_simp, by simp⟩).mono ?_; rintro e w1 ⟨rfl, hb1⟩
  obtain ⟨hc1, hf1⟩ := bcell hb1
  go_wp2_with fail
  refine (HM.out _).mono ?_; rintro e w2 ⟨v, rfl, ho, hb2⟩
  obtain ⟨A, cap, rfl, -, -, hat⟩ := own_view ho
  have HR := Lib.hid hat
  replace hb2 := bstep hb1 hb2
  clear ho hat hb1 hc1 hf1
  have B0 := Lib.hid (show Blk4 w2 w.heap.size 40 a b c d from heap_below (heap_alloc (heap_alloc (heap_alloc heap_new))) hb2)
  have B1 := Lib.hid (show Blk4 w2 (w.heap.size + 1) 40 a' b' c' d' from heap_below (heap_alloc (heap_alloc (heap_new' (by simp)))) hb2)
  have B2 := Lib.hid (show Blk4 w2 (w.heap.size + 1 + 1) 40 0 0 0 0 from heap_below (heap_alloc (heap_new' (by simp))) hb2)
  have hB2 : Below w.heap.size w w2 := bfin (by go_grown) hb2
  have hs2 := hB2.size
  clear hb2
  go_wp2_with fail
  go_loopw [29] (fun i wr => ∃ D l : List Q4, i = (.int .i64 ((D.length : Int))) ∧ Hid (FcAt ⟨a, b, c, d⟩ ⟨a', b', c', d'⟩ L D l) ∧ Below w2.heap.size w2 wr) (fun i _ => L.length - (intOf i).toNat)
  case atStart => exact ⟨[], L, rfl, Lib.hid ⟨rfl, rfl⟩, Below.refl _ _⟩
  case round =>
    obtain ⟨D, l, rfl, HF, hb⟩ := hrel
    have hbw : Below w.heap.size w wr := hB2.trans (hb.mono hs2)
    have hlL : L.length = D.length + l.length := by rw [HF.out.hL, List.length_append]
    obtain ⟨⟨g20, g21, g22, g23⟩, ⟨f20, f21, f22, f23⟩, l2⟩ := Blk4.open_ (heap_below B2.out hb)
    cases l with
    | nil =>
      simp only [List.length_nil, Nat.add_zero] at hlL
      have HV := Lib.hid (HG.out.no (by rw [HF.out.hF]; rfl))
      clear hB2
      go_wp2_with fail
      refine bodyPost_ret (v := .tuple #[(.agg #[.int .i64 0, .int .i64 0, .int .i64 0, .int .i64 0]), (.int .i64 4)]) (by first | (simp [results, Try.results29, go_sem]; done) | (simp [results, Try.results29, go_sem, g20, g21, g22, g23] <;> rfl)) rfl ⟨by rw [HV.out], by go_grown⟩
    | cons g l =>
      simp only [List.length_cons] at hlL
      have hlt : D.length < L.length := by omega
      clear hlL
      have HRr := Lib.hid (show RowAt w2 _ A (D ++ g :: l).length (ints (flat4 (D ++ g :: l))) by rw [← HF.out.hL]; exact HR.out)
      obtain ⟨r, rfl, -, -, -, -⟩ := HRr.out (by rw [List.length_append, List.length_cons]; omega)
      obtain ⟨hr, c0, c1, c2, c3⟩ := cell4_of HRr.out hb
      have hrr : r < wr.heap.size := Nat.lt_of_lt_of_le hr hb.size
      obtain ⟨⟨g00, g01, g02, g03⟩, ⟨-, -, -, -⟩, l0⟩ := Blk4.open_ (heap_below B0.out hb)
      obtain ⟨⟨g10, g11, g12, g13⟩, ⟨-, -, -, -⟩, l1⟩ := Blk4.open_ (heap_below B1.out hb)
      have Eg := Lib.hid (HS.out g (by rw [HF.out.hL]; simp))
      have HNo := Lib.hid (@FcAt.next _ _ _ _ _ _ HF.out)
      have HYes := Lib.hid (fun h => HG.out.yes g (HF.out.found h))
      obtain ⟨x, y, z, u⟩ := g
      simp only at c0 c1 c2 c3
      have T1 := Lib.hid (fun W => times_any x y z u a b c d W Eg.out Em.out)
      have T2 := Lib.hid (fun W => times_any a' b' c' d' x y z u W En.out Eg.out)
      have HL := Lib.hid (show leads ⟨a, b, c, d⟩ ⟨a', b', c', d'⟩ ⟨x, y, z, u⟩ = leadB a b c d a' b' c' d' x y z u from rfl)
      unfold leadB at HL
      generalize leads ⟨a, b, c, d⟩ ⟨a', b', c', d'⟩ ⟨x, y, z, u⟩ = sb at *
      generalize x * a + y * c = p1 at *
      generalize x * b + y * d = p2 at *
      generalize z * a + u * c = p3 at *
      generalize z * b + u * d = p4 at *
      generalize a' * x + b' * z = q1 at *
      generalize a' * y + b' * u = q2 at *
      generalize c' * x + d' * z = q3 at *
      generalize c' * y + d' * u = q4 at *
      cases sb
      · have hE := HL.out.symm
        go_wp2_with fail
        refine wp_region_ext (by kernel_rfl) (by kernel_rfl) ?_
        repeat (go_big_quiet_step (first | ((go_at_call 66; with_reducible refine Calls.ext_of (Nat.le_refl _) (T1.out _))) | ((go_at_call 66; with_reducible refine Calls.ext_of (Nat.le_refl _) (T2.out _)))))
        refine wpQuiet_nil ?_
        intro w6 hb6
        obtain ⟨hc6, hf6⟩ := bcell hb6
        obtain ⟨hz6_0, hz6_1⟩ : wr.heap.size < w6.heap.size ∧ w.heap.size + 1 + 1 < w6.heap.size := by have := hb6.size; (try simp at this); omega
        have hB6 : Below w.heap.size w w6 := bfin (by go_grown) hb6
        have hD6 := (hb.alloc hb.size (.cells #[(.int .i64 x), (.int .i64 y), (.int .i64 z), (.int .i64 u)] 40)).trans (hb6.mono (by have := hb.size; simp; omega))
        have HN := Lib.hid (HNo.out (by simp))
        go_wp2_with fail
        go_roundw
        case rel => exact ⟨D ++ [⟨x, y, z, u⟩], l, by simp, HN, hD6⟩
        case measure => simp [intOf]; omega
      · have hE := HL.out.symm
        go_wp2_with fail
        refine wp_region_ext (by kernel_rfl) (by kernel_rfl) ?_
        repeat (go_big_quiet_step (first | ((go_at_call 66; with_reducible refine Calls.ext_of (Nat.le_refl _) (T1.out _))) | ((go_at_call 66; with_reducible refine Calls.ext_of (Nat.le_refl _) (T2.out _)))))
        refine wpQuiet_nil ?_
        intro w6 hb6
        obtain ⟨hc6, hf6⟩ := bcell hb6
        obtain ⟨hz6_0, hz6_1⟩ : wr.heap.size < w6.heap.size ∧ w.heap.size + 1 + 1 < w6.heap.size := by have := hb6.size; (try simp at this); omega
        have HV := Lib.hid (HYes.out (by simp))
        clear hB2
        obtain ⟨⟨k0, k1, k2, k3⟩, ⟨-, -, -, -⟩, lk⟩ := Blk4.open_ (heap_below (heap_alloc (p := .cells #[(.int .i64 x), (.int .i64 y), (.int .i64 z), (.int .i64 u)] 40) (by exact heap_below B2.out hb)) hb6)
        have hB6 : Below w.heap.size w w6 := bfin (by go_grown) hb6
        go_wp2_with fail
        refine bodyPost_ret (v := .tuple #[(.agg #[.int .i64 x, .int .i64 y, .int .i64 z, .int .i64 u]), (.int .i64 0)]) (by first | (simp [results, Try.results29, go_sem]; done) | (simp [results, Try.results29, go_sem, k0, k1, k2, k3] <;> rfl)) rfl ⟨by rw [HV.out], by go_grown⟩
end Go.Proofs.Ytencfmipplgnkaa
