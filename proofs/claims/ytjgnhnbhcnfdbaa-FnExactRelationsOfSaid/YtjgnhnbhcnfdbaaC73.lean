/- Contracts: the chain of a fraction; the law. -/
import Derived.Test.YtjgnhnbhcnfdbaaC72
namespace Go.Proofs.Ytjgnhnbhcnfdbaa
open Go.RowKit
theorem chainL_len (P Q : Int) : (chainL P Q).length = 1 + (cfrac P Q).length := by simp [chainL, convL_len]; omega
theorem chainL_flat (P Q : Int) : flat2 (chainL P Q) = [1, 0] ++ flat2 (convL (cfrac P Q) 1 0 0 1) := by simp [chainL, flat2]
set_option maxRecDepth 100000 in
set_option maxHeartbeats 1000000 in
theorem chainOf_any (P Q : Int) (w : World) (hf : isFrac P Q = true) :
    Calls Try.prog 78 #[(.agg #[.int .i64 P, .int .i64 Q])] w fun e w' => ∃ v, e = .returned v ∧ w'.ownsRow w.heap.size 46 2 v (chainL P Q).length (ints (flat2 (chainL P Q))) ∧ Below w.heap.size w w' := by
  obtain ⟨hP, hQ, -, hR⟩ := isFrac_iff.1 hf
  clear hf
  have hlen := cfrac_len (p := P) hQ.1 hQ.2
  rw [chainL_len, chainL_flat]
  by_cases h0 : Q = 0
  · subst h0
    rw [cfrac_zero]
    go_enter Try.func78, Try.ntmps78
    go_wp2_with fail
    go_ret
    exact ⟨_, rfl, by simpa [convL, flat2, ints] using World.ownsRow_lit (e := 46) (size := 2) (base := w.heap.size) (w.alloc (.cells #[(.int .i64 P), (.int .i64 0)] 46)) #[(.int .i64 1), (.int .i64 0)] 1 (by simp) (by simp [maxLen]) rfl, by go_grown⟩
  · have HC := Lib.hid (fun W => continued_any P Q W ⟨hP.1, hP.2⟩ hQ.1 hQ.2)
    have hpos : 0 < (cfrac P Q).length := by rw [cfrac_step (show 0 < Q by omega)]; simp
    have HK := Lib.hid (convOk_all (P := P) (Q := Q) ⟨hP.1, hP.2⟩ (by omega) hQ.2)
    have HL := Lib.hid (flat2_len (convL (cfrac P Q) 1 0 0 1))
    rw [convL_len] at HL
    clear hR
    generalize cfrac P Q = L at *
    go_enter Try.func78, Try.ntmps78
    go_wp2_with fail
    refine (HC.out _).mono ?_; rintro e w2 ⟨v2, rfl, ho2, hb2⟩
    obtain ⟨A2, cap2, rfl, -, -, hat2⟩ := own_view ho2
    have R2 := Lib.hid hat2
    have HO2 : Hid (w2.ownsRow w.heap.size 46 2 (.slice (some ⟨w.heap.size + 1, 0, none⟩) 1 1) 1 [(.int .i64 1), (.int .i64 0)]) := Lib.hid (by simpa using own_below (World.ownsRow_lit (e := 46) (size := 2) (base := w.heap.size) (w.alloc (.cells #[(.int .i64 P), (.int .i64 Q)] 46)) #[(.int .i64 1), (.int .i64 0)] 1 (by simp) (by simp [maxLen]) rfl) hb2)
    have hB2 : Below w.heap.size w w2 := bfin (by go_grown) hb2
    clear ho2 hat2
    go_wp2_with fail
    refine (convergents_any A2 cap2 _ L w2 R2.out hlen HK.out).mono ?_; rintro e w3 ⟨v3, rfl, ho3, hb3⟩
    obtain ⟨A3, cap3, rfl, -, -, hat3⟩ := own_view ho3
    obtain ⟨b3, rfl, -, -, hc3, -⟩ := hat3 hpos
    have HO3 := Lib.hid (own_below HO2.out hb3)
    have HC3 := Lib.hid hc3
    have hB3 : Below w.heap.size w w3 := bfin hB2 hb3
    have hs3 := hB3.size
    clear hat3 hc3 ho3
    go_wp2_with (at_builtin; refine app_all elFr rfl _ _ rfl rfl rfl HO3.out hB3 (by rw [ints_len]; exact HL.out) HC3.out (ints_one _) hs3 (by omega) ?_; intro v' w4 hown4 hb4 hg4; have HO4 := Lib.hid hown4; clear hown4 hg4)
    go_ret
    exact ⟨_, rfl, by simpa [ints] using HO4.out, hb4⟩
structure ChRes where
  xs : List Int
  n : Nat
  c : Int
def chRes (P Q : Int) : ChRes := if isFrac P Q = true then ⟨flat2 (chainL P Q), (chainL P Q).length, 0⟩ else ⟨[], 0, 1⟩
theorem chRes_len (P Q : Int) : (chRes P Q).xs.length = (chRes P Q).n * 2 := by
  unfold chRes; split
  · exact flat2_len _
  · rfl
theorem chRes_n (P Q : Int) : (chRes P Q).n ≤ 61 := by
  unfold chRes; split
  · rename_i h
    obtain ⟨-, hQ, -⟩ := isFrac_iff.1 h
    have := cfrac_len (p := P) hQ.1 hQ.2
    show (chainL P Q).length ≤ 61
    rw [chainL_len]; omega
  · simp
/-- What holds ahead of a round of the chain. -/
structure ChAt (P Q : Int) (O : List P2) (x y a b p q : Int) : Prop where
  hC : chainL P Q = O ++ convL (cfrac x y) a b p q
  ok : convOk (cfrac x y) a b p q
  ea : E9 a
  eb : E9 b
  ep : E9 p
  eq : E9 q
  y0 : 0 ≤ y
theorem ChAt.next {P Q x y a b p q : Int} {O : List P2} (h : ChAt P Q O x y a b p q) (hy : 0 < y) : ChAt P Q (O ++ [⟨x / y * a + p, x / y * b + q⟩]) y (x % y) (x / y * a + p) (x / y * b + q) a b := by
  obtain ⟨hC, ok, ea, eb, ep, eq, y0⟩ := h
  rw [cfrac_step hy] at hC ok
  obtain ⟨e1, e2, e3⟩ := ok
  exact ⟨by rw [hC]; simp [convL], e3, e1, e2, ea, eb, Int.emod_nonneg x (by omega)⟩
set_option maxRecDepth 100000 in
set_option maxHeartbeats 1000000 in
theorem l08Chain_any (P Q : Int) (w : World) (hf : isFrac P Q = true) :
    Calls Try.prog 73 #[(.agg #[.int .i64 P, .int .i64 Q])] w fun e w' => ∃ v, e = .returned v ∧ w'.ownsRow w.heap.size 46 2 v (chainL P Q).length (ints (flat2 (chainL P Q))) ∧ Below w.heap.size w w' := by
  have HQ := isFrac_iff.1 hf
  obtain ⟨hP, hQ, -, hR⟩ := HQ
  have hlen := cfrac_len (p := P) hQ.1 hQ.2
  have hS : ChAt P Q [⟨1, 0⟩] P Q 1 0 0 1 := by
    refine ⟨rfl, ?_, ⟨by omega, by omega⟩, ⟨by omega, by omega⟩, ⟨by omega, by omega⟩, ⟨by omega, by omega⟩, hQ.1⟩
    by_cases h0 : 0 < Q
    · exact convOk_all ⟨hP.1, hP.2⟩ h0 hQ.2
    · obtain rfl : Q = 0 := by omega
      rw [cfrac_zero]; trivial
  have HS := Lib.hid hS
  have hcl := chainL_len P Q
  clear hf hS hR
  go_enter Try.func73, Try.ntmps73
  go_wp2_with fail
  refine wp_region_ext (by kernel_rfl) (by kernel_rfl) ?_
  repeat (go_big_quiet_step (fail))
  refine wpQuiet_nil ?_
  intro w1 hb1
  obtain ⟨hc1, hf1⟩ := bcell hb1
  have HO0 := Lib.hid (own_below (World.ownsRow_lit (e := 46) (size := 2) (base := w.heap.size) (w.alloc (.cells #[(.int .i64 P), (.int .i64 Q)] 46)) #[(.int .i64 1), (.int .i64 0)] 1 (by simp) (by simp [maxLen]) rfl) hb1)
  have hB1 : Below w.heap.size w w1 := bfin (by go_grown) hb1
  go_wp2_with fail
  go_loopw [3, 4, 5, 6, 7, 8, 9] (fun v u1 u2 u3 u4 u5 u6 wr => ∃ (O : List P2) (x y a b p q : Int), u1 = (.int .i64 p) ∧ u2 = (.int .i64 q) ∧ u3 = (.int .i64 a) ∧ u4 = (.int .i64 b) ∧ u5 = (.int .i64 x) ∧ u6 = (.int .i64 y) ∧ -1000000000 ≤ x ∧ x ≤ 1000000000 ∧ 0 ≤ y ∧ y ≤ 1000000000 ∧ Hid (ChAt P Q O x y a b p q) ∧ Hid (wr.ownsRow w.heap.size 46 2 v O.length (ints (flat2 O))) ∧ Below w.heap.size w wr) (fun _ _ _ _ _ _ u6 _ => (intOf u6).toNat)
  case atStart => exact ⟨[⟨1, 0⟩], P, Q, 1, 0, 0, 1, rfl, rfl, rfl, rfl, rfl, rfl, hP.1, hP.2, hQ.1, hQ.2, HS, Lib.hid (by simpa [ints, flat2] using HO0.out), hB1⟩
  case round =>
    obtain ⟨O, x, y, a, b, p, q, rfl, rfl, rfl, rfl, rfl, rfl, x0, x1, y0, y1, HC, HO, hb⟩ := hrel
    have hsz := hb.size
    by_cases hy : y = 0
    · subst hy
      have HE := Lib.hid (show chainL P Q = O by rw [HC.out.hC, cfrac_zero]; simp [convL])
      clear hcl
      go_wp2_with fail
      go_ret
      exact ⟨_, rfl, by rw [HE.out]; exact HO.out, hb⟩
    · have hy0 : 0 < y := by omega
      have HN := Lib.hid (HC.out.next hy0)
      obtain ⟨⟨a0, a1⟩, ⟨b0, b1⟩, ⟨p0, p1⟩, ⟨q0, q1⟩⟩ := (⟨HC.out.ea, HC.out.eb, HC.out.ep, HC.out.eq⟩ : E9 a ∧ E9 b ∧ E9 p ∧ E9 q)
      obtain ⟨⟨z0, z1⟩, ⟨z2, z3⟩⟩ := (⟨HN.out.ea, HN.out.eb⟩ : E9 (x / y * a + p) ∧ E9 (x / y * b + q))
      have hOl : O.length ≤ 61 := by have := congrArg List.length HC.out.hC; rw [hcl, List.length_append] at this; omega
      have e0 := Int.mul_ediv_add_emod x y
      have e1 := Int.emod_nonneg x hy
      have e2 := Int.emod_lt_of_pos x hy0
      have HF := Lib.hid (fun W => l01Floor_any x y W (by omega) (by omega) hy0 (by omega))
      rw [Int.mul_comm] at e0
      generalize x / y = n at *
      generalize x % y = r at *
      have HR := Lib.hid (show x - n * y = r by omega)
      have HOl := Lib.hid hcl
      clear hcl
      go_wp2_with fail
      refine (HF.out _).mono ?_; rintro e w' ⟨rfl, rfl⟩
      go_wp2_with (at_builtin; refine app_one elFr rfl _ _ rfl rfl rfl (by simp) (HO.out.alloc _) (hb.alloc hsz _) rfl (by intro u hu; simp at hu; first | (subst hu; rfl) | (rcases hu with rfl | rfl <;> rfl) | (rcases hu with rfl | rfl | rfl <;> rfl) | (rcases hu with rfl | rfl | rfl | rfl <;> rfl)) (Nat.le_trans hsz (by simp)) (by omega) ?_; intro v' w3 hown3 hb3 hg3; have HO3 := Lib.hid hown3; clear hown3 hg3)
      go_roundw
      case rel => exact ⟨O ++ [⟨n * a + p, n * b + q⟩], y, r, n * a + p, n * b + q, a, b, rfl, rfl, rfl, rfl, rfl, by rw [HR.out], by omega, by omega, by omega, by omega, HN, Lib.hid (by rw [flat2_snoc]; simpa [ints] using HO3.out), hb3⟩
      case measure => simp [intOf]; omega
end Go.Proofs.Ytjgnhnbhcnfdbaa
