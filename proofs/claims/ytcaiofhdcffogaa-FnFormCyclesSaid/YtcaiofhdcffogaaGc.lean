/- Draws for the law of cycles of forms: discriminants, forms with a cycle, matrices. -/
import Derived.Test.YtcaiofhdcffogaaGb
import Derived.Test.YtcaiofhdcffogaaD15
import Derived.Test.YtcaiofhdcffogaaNa
import Derived.Test.YtcaiofhdcffogaaCd
import Derived.Test.YtcaiofhdcffogaaC95
namespace Go.Proofs.Ytcaiofhdcffogaa
open Go.RowKit
attribute [local go_sem] eqForm3
set_option maxRecDepth 100000 in
set_option maxHeartbeats 2000000 in
theorem forms5_same (A A' : Option Addr) (n cap cap' B B' : Nat) (xs : List Int) (w : World) (hl : xs.length = n * 3) (hn : n ≤ maxLen) (h : RowAt w B A n (ints xs)) (h' : RowAt w B' A' n (ints xs)) :
    Calls Try.prog 10 #[.slice A n cap, .slice A' n cap'] w fun e w' => e = .returned (.bool true) ∧ Below w.heap.size w w' := by
  have HL := Lib.hid hl
  unfold maxLen at hn
  clear hl
  go_enter Try.func10, Try.ntmps10
  go_wp2_with fail
  go_loopw [5] (fun i wr => ∃ k : Nat, i = (.int .i64 ((k : Int))) ∧ k ≤ n ∧ Below w.heap.size w wr) (fun i _ => n - (intOf i).toNat)
  case atStart => exact ⟨0, rfl, Nat.zero_le _, Below.refl _ _⟩
  case round =>
    obtain ⟨k, rfl, hk, hb⟩ := hrel
    by_cases hlt : k < n
    · obtain ⟨b, rfl, -, hl1, hc, -⟩ := (h.below hb) (by omega)
      obtain ⟨b', rfl, -, hl2, hc', -⟩ := (h'.below hb) (by omega)
      have h0 := hc (k * 3) _ (ints_at (by rw [HL.out]; omega))
      have g0 := hc' (k * 3) _ (ints_at (by rw [HL.out]; omega))
      have h1 := hc (k * 3 + 1) _ (ints_at (by rw [HL.out]; omega))
      have g1 := hc' (k * 3 + 1) _ (ints_at (by rw [HL.out]; omega))
      have h2 := hc (k * 3 + 2) _ (ints_at (by rw [HL.out]; omega))
      have g2 := hc' (k * 3 + 2) _ (ints_at (by rw [HL.out]; omega))
      generalize xs.getD (k * 3) 0 = x0 at h0 g0
      generalize xs.getD (k * 3 + 1) 0 = x1 at h1 g1
      generalize xs.getD (k * 3 + 2) 0 = x2 at h2 g2
      have hx0 : (x0 == x0) = true := by simp
      have hx1 : (x1 == x1) = true := by simp
      have hx2 : (x2 == x2) = true := by simp
      clear hc hc' h h'
      go_wp2_with fail
      go_quiet (fail)
      go_wp2_with fail
      go_roundw
      case rel => exact ⟨k + 1, by go_num, by omega, below_drewN hb _⟩
      case measure => simp [intOf]; omega
    · clear h h'
      go_wp2_with fail
      go_ret
      exact ⟨rfl, hb⟩
theorem DrawClassNumber_any (a : Option Addr) (len cap : Nat) (w : World) (hl : len ≤ 1152921504606846976) (hb : Bytes w w.heap.size a len) :
    Calls Try.prog 5 #[.slice a len cap] w fun e w' => RetI e ∧ Below w.heap.size w w' := by
  have HF := Lib.hid (l01From_any a len cap w hl hb)
  clear hb
  go_enter Try.func5, Try.ntmps5
  go_wp2_with fail
  refine (HF.out).mono ?_; rintro e w1 ⟨b, rfl, hs1, hb1⟩
  have I := Lib.hid (InS.start hs1)
  have HB1 := Lib.hid hb1
  have hge : w.heap.size ≤ b := hs1.ge
  clear hs1 hb1 HF
  generalize hnn : w.heap.size = n at *
  have HN := Lib.hid hnn
  clear hnn
  go_wp2_with fail
  refine (l05DrawDisc_any _ b _ I.out.src).mono ?_; rintro e w2 ⟨⟨y, rfl⟩, hs, hg⟩
  replace I := Lib.hid (I.out.turn hs hg)
  clear hs hg
  go_wp2_with fail
  go_ret
  exact ⟨⟨_, rfl⟩, by rw [HN.out]; exact HB1.out.trans (I.out.belowN hge)⟩
theorem DrawFormOfMatrix_any (a : Option Addr) (len cap : Nat) (w : World) (hl : len ≤ 1152921504606846976) (hb : Bytes w w.heap.size a len) :
    Calls Try.prog 19 #[.slice a len cap] w fun e w' => RetA e ∧ Below w.heap.size w w' := by
  have hA : Below w.heap.size w (w.alloc (.cells #[(.int .i64 0), (.int .i64 0), (.int .i64 0), (.int .i64 0)] 42)) := (Below.refl _ w).alloc (Nat.le_refl _) _
  have HF := Lib.hid (l01From_any a len cap _ hl (hb.after hA))
  have HA := Lib.hid hA
  clear hb hA
  go_enter Try.func19, Try.ntmps19
  go_wp2_with fail
  refine (HF.out).mono ?_; rintro e w1 ⟨b, rfl, hs1, hb1⟩
  have HB := Lib.hid (bfin HA.out hb1)
  have B1 := Lib.hid ((Bm.new (w := w) (p := 0) (q := 0) (s := 0) (u := 0)).below hb1)
  have I := Lib.hid (InS.start hs1)
  have hbn : w.heap.size + 1 ≤ b := by have := hs1.ge; simpa using this
  clear HF HA hs1 hb1
  go_wp2_with fail
  refine (l01Spoil_any _ b _ I.out.src).mono ?_; rintro e w2 ⟨⟨p, q, r, s, rfl⟩, hs, hg⟩
  replace I := Lib.hid (I.out.turn hs hg)
  clear hs hg
  have B := Lib.hid (B1.out.grown I.out (by omega))
  have HB2 := Lib.hid (HB.out.trans (I.out.belowN (m := w.heap.size) (by omega)))
  obtain ⟨⟨c0, c1, c2, c3⟩, ⟨f0, f1, f2, f3⟩, hl3⟩ := B.out.open_
  go_wp2_with fail
  refine bodyPost_ret (v := (.agg #[.int .i64 p, .int .i64 q, .int .i64 r, .int .i64 s])) (by simp [results, Try.results19, go_sem, set4_0 B.out, set4_1 B.out, set4_2 B.out, set4_3 B.out] <;> rfl) rfl ?_
  exact ⟨⟨_, _, _, _, rfl⟩, below_set4 HB2.out (Nat.le_refl _)⟩
set_option maxRecDepth 1000000 in
set_option maxHeartbeats 4000000 in
theorem l05DrawCycle_any (a : Option Addr) (len cap : Nat) (w : World) (hl : len ≤ 1152921504606846976) (hb : Bytes w w.heap.size a len) :
    Calls Try.prog 40 #[.slice a len cap] w fun e w' => RetF e ∧ Below w.heap.size w w' := by
  have hA : Below w.heap.size w (w.alloc (.cells #[(.int .i64 0), (.int .i64 0), (.int .i64 0)] 34)) := (Below.refl _ w).alloc (Nat.le_refl _) _
  have HF := Lib.hid (l01From_any a len cap _ hl (hb.after hA))
  have HA := Lib.hid hA
  clear hb hA
  go_enter Try.func40, Try.ntmps40
  go_wp2_with fail
  refine (HF.out).mono ?_; rintro e w1 ⟨b, rfl, hs1, hb1⟩
  have HB := Lib.hid (bfin HA.out hb1)
  have B1 := Lib.hid ((Bg.new (w := w) (p := 0) (q := 0) (s := 0)).below hb1)
  have I := Lib.hid (InS.start hs1)
  have hbn : w.heap.size + 1 ≤ b := by have := hs1.ge; simpa using this
  have hbw : b < w1.heap.size := hs1.lt
  generalize hnn : (w.alloc (.cells #[(.int .i64 0), (.int .i64 0), (.int .i64 0)] 34)).heap.size = n at *
  clear HF HA hs1 hb1 hnn
  go_wp2_with fail
  refine (pick_lit [20, 100, 499] rfl I.out.src rfl (by simp) (by simp)).mono ?_; rintro e w2 ⟨y, rfl, hy, hs, hg⟩
  replace I := Lib.hid (I.out.turn hs hg)
  clear hs hg
  have hy2 : 20 ≤ y ∧ y ≤ 499 := by simp at hy; omega
  clear hy
  go_wp2_with fail
  refine (l01Next_any _ b y _ (by omega) I.out.src).mono ?_; rintro e w3 ⟨z, rfl, hz, hs, hg⟩
  replace I := Lib.hid (I.out.turn hs hg)
  clear hs hg
  have hz2 : 0 ≤ z ∧ z ≤ 499 := by omega
  clear hz
  go_wp2_with fail
  refine (l01Next_any _ b 2 _ (by omega) I.out.src).mono ?_; rintro e w4 ⟨u, rfl, hu, hs, hg⟩
  replace I := Lib.hid (I.out.turn hs hg)
  clear hs hg
  have hu2 : 0 ≤ u ∧ u < 2 := by omega
  clear hu
  have hgl : w1.heap.size ≤ w4.heap.size := I.out.size
  have M := Lib.hid (Bg.new (w := w4) (p := 1) (q := 1) (s := -1))
  replace I := Lib.hid (I.out.alloc (.cells #[(.int .i64 1), (.int .i64 1), (.int .i64 (-1))] 34))
  go_upto_region 4 with (fail)
  generalize w4.alloc (.cells #[(.int .i64 1), (.int .i64 1), (.int .i64 (-1))] 34) = W at *
  generalize w4.heap.size = g at *
  generalize 4 * (1 + z) + u = d at *
  have hgw : w.heap.size ≠ g := by have := HB.out.size; omega
  have HT := Lib.hid (fun W => l05Told_any d W)
  have HTB := Lib.hid (show toldB d = toldB d from rfl)
  generalize hB : toldB d = B at HT
  go_wp2_with fail
  refine (HT.out _).mono ?_; rintro e w' ⟨rfl, rfl⟩
  clear HTB HT
  go_upto_if 21 with (fail)
  go_cut [6] from 22 to 30 (fun _ wx => ∃ p q r : Int, Hid (Bg wx g p q r) ∧ Hid (InS n b w1 wx))
  case first =>
    cases B
    · clear hB
      go_wp2_with fail
      go_meet
      exact ⟨_, _, _, M, I⟩
    · have HA := Lib.hid (fun W => l05All_any d W (told_bd hB) (told_nzA hB))
      have hlen := fall_len d 101
      have hne := fall_ne hB
      clear hB
      generalize fall d 101 = L at *
      have hbW : b < W.heap.size := I.out.src.lt
      go_wp2_with fail
      refine (HA.out _).mono ?_; rintro e w5 ⟨v, rfl, ho, hb5⟩
      replace M := Lib.hid (M.out.below hb5)
      replace I := Lib.hid (I.out.below hb5)
      obtain ⟨A, cap', rfl, -, -, hat⟩ := own_view ho
      have R := Lib.hid hat
      clear hb5 HA ho hat
      go_wp2_with fail
      refine (l01Next_any n b (L.length : Int) _ (by omega) I.out.src).mono ?_; rintro e w6 ⟨x, rfl, hx, hs, hg⟩
      replace R := Lib.hid (R.out.turn hg hbW)
      replace M := Lib.hid (M.out.turn I.out hgl hg)
      replace I := Lib.hid (I.out.turn hs hg)
      clear hs hg
      obtain ⟨k, rfl⟩ := Int.eq_ofNat_of_zero_le hx.1
      have hk : k < L.length := by omega
      have hk' : (k : Int) < (L.length : Int) := by omega
      clear hx
      obtain ⟨g', rfl, -, hgl', hcell, -⟩ := R.out (by omega)
      obtain ⟨e0, e1, e2⟩ := flatF_atG hk
      have c0 := hcell _ _ e0
      have c1 := hcell _ _ e1
      have c2 := hcell _ _ e2
      clear e0 e1 e2 hcell R
      generalize L[k].x = x at *
      generalize L[k].y = y at *
      generalize L[k].z = z at *
      obtain ⟨⟨d0, d1, d2⟩, ⟨f0, f1, f2⟩, hl3⟩ := M.out.open_
      go_wp2_with fail
      go_meet
      exact ⟨x, y, z, Lib.hid (M.out.set x y z), Lib.hid (I.out.set3 _ _ _ hgl)⟩
  case rest =>
    clear M I hB
    obtain ⟨p, q, r, M, I⟩ := hcut
    go_wp2_with fail
    refine (l01Next_any n b 10 _ (by omega) I.out.src).mono ?_; rintro e w7 ⟨v, rfl, -, hs, hg⟩
    replace M := Lib.hid (M.out.turn I.out (hgl) hg)
    replace I := Lib.hid (I.out.turn hs hg)
    clear hs hg
    by_cases h0 : v = 0
    · subst h0
      go_wp2_with fail
      refine (l05Draw_any n b _ I.out.src).mono ?_; rintro e w8 ⟨⟨p', q', r', rfl⟩, hs, hg⟩
      replace M := Lib.hid (M.out.turn I.out (hgl) hg)
      replace I := Lib.hid (I.out.turn hs hg)
      clear hs hg
      obtain ⟨⟨d0, d1, d2⟩, ⟨f0, f1, f2⟩, hl3⟩ := M.out.open_
      have M' := Lib.hid (M.out.set p' q' r')
      have I' := Lib.hid (I.out.set3 (.int .i64 p') (.int .i64 q') (.int .i64 r') hgl)
      obtain ⟨⟨n0, n1, n2⟩, -, hln⟩ := M'.out.open_
      go_wp2_with fail
      refine (l05Bad_any n b p' q' r' _ I'.out.src).mono ?_; rintro e w9 ⟨⟨x, y, z, rfl⟩, hs, hg⟩
      have I2 := Lib.hid (I'.out.turn hs hg)
      have B := Lib.hid (B1.out.grown I2.out (by omega))
      have HB2 := Lib.hid (HB.out.trans (I2.out.belowN (m := w.heap.size) (by omega)))
      clear hs hg n0 n1 n2 d0 d1 d2 f0 f1 f2
      obtain ⟨⟨c0, c1, c2⟩, ⟨f0, f1, f2⟩, hl3⟩ := B.out.open_
      go_wp2_with fail
      refine bodyPost_ret (v := (.agg #[.int .i64 x, .int .i64 y, .int .i64 z])) (by simp [results, Try.results40, go_sem, set3_0 B.out, set3_1 B.out, set3_2 B.out] <;> rfl) rfl ?_
      exact ⟨⟨_, _, _, rfl⟩, below_set3 HB2.out (Nat.le_refl _)⟩
    have h0' : (v == 0) = false := by simpa using h0
    by_cases h1 : v = 1
    · subst h1
      obtain ⟨⟨d0, d1, d2⟩, ⟨f0, f1, f2⟩, hl3⟩ := M.out.open_
      have M' := Lib.hid (M.out.set (wrap64 (-p)) q (wrap64 (-r)))
      have I' := Lib.hid (I.out.set3 (.int .i64 (wrap64 (-p))) (.int .i64 q) (.int .i64 (wrap64 (-r))) hgl)
      obtain ⟨⟨n0, n1, n2⟩, -, hln⟩ := M'.out.open_
      go_wp2_with fail
      refine (l05Bad_any n b (wrap64 (-p)) q (wrap64 (-r)) _ I'.out.src).mono ?_; rintro e w9 ⟨⟨x, y, z, rfl⟩, hs, hg⟩
      have I2 := Lib.hid (I'.out.turn hs hg)
      have B := Lib.hid (B1.out.grown I2.out (by omega))
      have HB2 := Lib.hid (HB.out.trans (I2.out.belowN (m := w.heap.size) (by omega)))
      clear hs hg n0 n1 n2 d0 d1 d2 f0 f1 f2
      obtain ⟨⟨c0, c1, c2⟩, ⟨f0, f1, f2⟩, hl3⟩ := B.out.open_
      go_wp2_with fail
      refine bodyPost_ret (v := (.agg #[.int .i64 x, .int .i64 y, .int .i64 z])) (by simp [results, Try.results40, go_sem, set3_0 B.out, set3_1 B.out, set3_2 B.out] <;> rfl) rfl ?_
      exact ⟨⟨_, _, _, rfl⟩, below_set3 HB2.out (Nat.le_refl _)⟩
    have h1' : (v == 1) = false := by simpa using h1
    obtain ⟨⟨d0, d1, d2⟩, ⟨f0, f1, f2⟩, hl3⟩ := M.out.open_
    go_wp2_with fail
    refine (l05Bad_any n b p q r _ I.out.src).mono ?_; rintro e w9 ⟨⟨x, y, z, rfl⟩, hs, hg⟩
    have I2 := Lib.hid (I.out.turn hs hg)
    have B := Lib.hid (B1.out.grown I2.out (by omega))
    have HB2 := Lib.hid (HB.out.trans (I2.out.belowN (m := w.heap.size) (by omega)))
    clear hs hg d0 d1 d2 f0 f1 f2
    obtain ⟨⟨c0, c1, c2⟩, ⟨f0, f1, f2⟩, hl3⟩ := B.out.open_
    go_wp2_with fail
    refine bodyPost_ret (v := (.agg #[.int .i64 x, .int .i64 y, .int .i64 z])) (by simp [results, Try.results40, go_sem, set3_0 B.out, set3_1 B.out, set3_2 B.out] <;> rfl) rfl ?_
    exact ⟨⟨_, _, _, rfl⟩, below_set3 HB2.out (Nat.le_refl _)⟩
end Go.Proofs.Ytcaiofhdcffogaa
/- Draws for the law of cycles of forms: two forms, a form and a matrix. -/
namespace Go.Proofs.Ytcaiofhdcffogaa
open Go.RowKit
theorem DrawCycleOf_any (a : Option Addr) (len cap : Nat) (w : World) (hl : len ≤ 1152921504606846976) (hb : Bytes w w.heap.size a len) :
    Calls Try.prog 13 #[.slice a len cap] w fun e w' => RetF e ∧ Below w.heap.size w w' := by
  have hA : Below w.heap.size w (w.alloc (.cells #[(.int .i64 0), (.int .i64 0), (.int .i64 0)] 34)) := (Below.refl _ w).alloc (Nat.le_refl _) _
  have HF := Lib.hid (l05DrawCycle_any a len cap _ hl (hb.after hA))
  have HA := Lib.hid hA
  clear hb hA
  go_enter Try.func13, Try.ntmps13
  go_wp2_with fail
  refine (HF.out).mono ?_; rintro e w1 ⟨⟨p, q, r, rfl⟩, hb1⟩
  have HB := Lib.hid (bfin HA.out hb1)
  have B := Lib.hid ((Bg.new (w := w) (p := 0) (q := 0) (s := 0)).below hb1)
  clear HF HA hb1
  obtain ⟨⟨c0, c1, c2⟩, ⟨f0, f1, f2⟩, hl3⟩ := B.out.open_
  go_wp2_with fail
  refine bodyPost_ret (v := (.agg #[.int .i64 p, .int .i64 q, .int .i64 r])) (by simp [results, Try.results13, go_sem, set3_0 B.out, set3_1 B.out, set3_2 B.out] <;> rfl) rfl ?_
  exact ⟨⟨_, _, _, rfl⟩, below_set3 HB.out (Nat.le_refl _)⟩
def RetFF (e : Ending) : Prop := ∃ p q r x y z : Int, e = .returned (.tuple #[(.agg #[.int .i64 p, .int .i64 q, .int .i64 r]), (.agg #[.int .i64 x, .int .i64 y, .int .i64 z])])
abbrev C33 (w : World) (g g' : Nat) (p q r p' q' r' : Int) : Prop := (w.cell? ⟨g, 0, none⟩ = some (.int .i64 p) ∧ w.cell? ⟨g, 1, none⟩ = some (.int .i64 q) ∧ w.cell? ⟨g, 2, none⟩ = some (.int .i64 r)) ∧ (w.cell? ⟨g', 0, none⟩ = some (.int .i64 p') ∧ w.cell? ⟨g', 1, none⟩ = some (.int .i64 q') ∧ w.cell? ⟨g', 2, none⟩ = some (.int .i64 r'))
theorem C33.of {w : World} {g g' : Nat} {p q r p' q' r' : Int} (h : Bg w g p q r) (h' : Bg w g' p' q' r') : C33 w g g' p q r p' q' r' := ⟨(Blk3.open_ h).1, (Blk3.open_ h').1⟩
theorem C33.drew {w : World} {g g' : Nat} {p q r p' q' r' : Int} (h : C33 w g g' p q r p' q' r') : C33 w.drew g g' p q r p' q' r' := h
theorem given_use {a b c : Int} (h : givenC a b c = 0) : Small a b c ∧ indB a b c = true ∧ redB a b c = true := by
  unfold givenC at h
  split at h
  · rename_i hF
    split at h
    · rename_i hI; exact ⟨small_of hF, hI.1, hI.2⟩
    · simp at h
  · simp at h
set_option maxRecDepth 1000000 in
set_option maxHeartbeats 8000000 in
theorem DrawAreEquivalent_any (a : Option Addr) (len cap : Nat) (w : World) (hl : len ≤ 1152921504606846976) (hb : Bytes w w.heap.size a len) :
    Calls Try.prog 23 #[.slice a len cap] w fun e w' => RetFF e ∧ Below w.heap.size w w' := by
  have HY := Lib.hid hb
  have hA : Below w.heap.size w ((w.alloc (.cells #[(.int .i64 0), (.int .i64 0), (.int .i64 0)] 34)).alloc (.cells #[(.int .i64 0), (.int .i64 0), (.int .i64 0)] 34)) := ((Below.refl _ w).alloc (Nat.le_refl _) _).alloc (by simp) _
  have HF := Lib.hid (l01From_any a len cap _ hl (hb.after hA))
  have HA := Lib.hid hA
  clear hb hA
  go_enter Try.func23, Try.ntmps23
  go_wp2_with fail
  refine (HF.out).mono ?_; rintro e w1 ⟨b, rfl, hs1, hb1⟩
  have HB1 := Lib.hid (bfin HA.out hb1)
  have B1 := Lib.hid (((Bg.new (w := w) (p := 0) (q := 0) (s := 0)).alloc (.cells #[(.int .i64 0), (.int .i64 0), (.int .i64 0)] 34)).below hb1)
  have C1 := Lib.hid ((Bg.newE (g := w.heap.size + 1) (w := w.alloc (.cells #[(.int .i64 0), (.int .i64 0), (.int .i64 0)] 34)) (p := 0) (q := 0) (s := 0) (by simp)).below hb1)
  have I := Lib.hid (InS.start hs1)
  have hbn : w.heap.size + 2 ≤ b := by have := hs1.ge; simpa using this
  have hbw : b < w1.heap.size := hs1.lt
  generalize hnn : ((w.alloc (.cells #[(.int .i64 0), (.int .i64 0), (.int .i64 0)] 34)).alloc (.cells #[(.int .i64 0), (.int .i64 0), (.int .i64 0)] 34)).heap.size = n at *
  clear HF HA hs1 hb1 hnn
  have HC := Lib.hid (l05DrawCycle_any a len cap w1 hl (HY.out.after HB1.out))
  go_wp2_with fail
  refine (HC.out).mono ?_; rintro e w2 ⟨⟨p, q, r, rfl⟩, hb2⟩
  replace I := Lib.hid (I.out.below hb2)
  have hg5 : w1.heap.size ≤ w2.heap.size := hb2.size
  have M := Lib.hid ((Bg.new (w := w2) (p := p) (q := q) (s := r)).alloc (.cells #[(.int .i64 p), (.int .i64 q), (.int .i64 r)] 34))
  have N := Lib.hid (Bg.newE (g := w2.heap.size + 1) (w := w2.alloc (.cells #[(.int .i64 p), (.int .i64 q), (.int .i64 r)] 34)) (p := p) (q := q) (s := r) (by simp))
  replace I := Lib.hid ((I.out.alloc (.cells #[(.int .i64 p), (.int .i64 q), (.int .i64 r)] 34)).alloc (.cells #[(.int .i64 p), (.int .i64 q), (.int .i64 r)] 34))
  clear HC hb2 HY
  go_upto_region 4 with (fail)
  generalize (w2.alloc (.cells #[(.int .i64 p), (.int .i64 q), (.int .i64 r)] 34)).alloc (.cells #[(.int .i64 p), (.int .i64 q), (.int .i64 r)] 34) = W at *
  generalize w2.heap.size = g at *
  have hg6 : w1.heap.size ≤ g + 1 := by omega
  have hww : w.heap.size ≤ w1.heap.size := HB1.out.size
  have hgg : g ≠ g + 1 := by omega
  have hgg' : g + 1 ≠ g := by omega
  go_cut [20] from 13 to 19 (fun s wx => ∃ B : Bool, s = .bool B ∧ Hid (B = true → IsCyc ⟨p, q, r⟩) ∧ Hid (Bg wx g p q r) ∧ Hid (Bg wx (g + 1) p q r) ∧ Hid (InS n b w1 wx))
  case first =>
    have HG := Lib.hid (fun W => l05Given_any p q r W)
    obtain ⟨⟨m0, m1, m2⟩, -, hlm⟩ := M.out.open_
    by_cases h0 : givenC p q r = 0
    · have hu := given_use h0
      rw [h0] at HG
      clear h0
      go_wp2_with fail
      refine (HG.out _).mono ?_; rintro e w3 ⟨rfl, hb3⟩
      have M3 := Lib.hid (M.out.below hb3)
      have N3 := Lib.hid (N.out.below hb3)
      have I3 := Lib.hid (I.out.below hb3)
      clear hb3 M N I m0 m1 m2 hlm HG
      obtain ⟨⟨m0, m1, m2⟩, -, hlm⟩ := M3.out.open_
      have HD := Lib.hid (fun W => l05Disc_any p q r W hu.1)
      have hdd : q * q - 4 * p * r = disc p q r := rfl
      rw [hdd] at HD
      by_cases hd : disc p q r ≤ 2000
      · have HC := Lib.hid (isCyc_of (a := p) (b := q) (c := r) (by omega) hu.2.1 hu.2.2)
        generalize disc p q r = D at HD hd
        clear hdd hu
        go_wp2_with fail
        refine (HD.out _).mono ?_; rintro e w4 ⟨rfl, hb4⟩
        go_wp2_with fail
        go_meet
        exact ⟨true, rfl, Lib.hid (fun _ => HC.out), Lib.hid (M3.out.below hb4), Lib.hid (N3.out.below hb4), Lib.hid (I3.out.below hb4)⟩
      · generalize disc p q r = D at HD hd
        clear hdd hu
        go_wp2_with fail
        refine (HD.out _).mono ?_; rintro e w4 ⟨rfl, hb4⟩
        go_wp2_with fail
        go_meet
        exact ⟨_, rfl, Lib.hid (fun h => absurd (of_decide_eq_true h) (by omega)), Lib.hid (M3.out.below hb4), Lib.hid (N3.out.below hb4), Lib.hid (I3.out.below hb4)⟩
    · have h0' : (givenC p q r == 0) = false := by simpa using h0
      generalize givenC p q r = k at *
      clear h0
      go_wp2_with fail
      refine (HG.out _).mono ?_; rintro e w3 ⟨rfl, hb3⟩
      go_wp2_with fail
      go_meet
      exact ⟨false, rfl, Lib.hid (fun h => by cases h), Lib.hid (M.out.below hb3), Lib.hid (N.out.below hb3), Lib.hid (I.out.below hb3)⟩
  case rest =>
    clear M N I
    obtain ⟨B, rfl, HC, M, N, I⟩ := hcut
    go_upto_if 20 with (fail)
    go_cut [7] from 21 to 41 (fun _ wx => ∃ x y z : Int, Hid (Bg wx g p q r) ∧ Hid (Bg wx (g + 1) x y z) ∧ Hid (InS n b w1 wx))
    case first =>
      cases B
      · go_wp2_with fail
        go_meet
        exact ⟨p, q, r, M, N, I⟩
      · have hc := HC.out rfl
        obtain ⟨L, hP⟩ := hc.period
        have hL1 := hP.n1
        have hL2 := hP.n2
        have HY := Lib.hid (fun W => l05Cycle_any ⟨p, q, r⟩ L W hc hP)
        simp only at HY
        have hlen : (cycL ⟨p, q, r⟩ L).length = L := cycL_len _ _
        generalize cycL ⟨p, q, r⟩ L = cy at *
        have hbW : b < w1.heap.size := hbw
        have hbI := I.out.src.lt
        clear hc hP HC
        obtain ⟨⟨m0, m1, m2⟩, -, hlm⟩ := M.out.open_
        go_wp2_with fail
        refine (HY.out _).mono ?_; rintro e w5 ⟨v, rfl, ho, hb5⟩
        replace M := Lib.hid (M.out.below hb5)
        replace N := Lib.hid (N.out.below hb5)
        replace I := Lib.hid (I.out.below hb5)
        obtain ⟨A, cap', rfl, -, -, hat⟩ := own_view ho
        have R := Lib.hid hat
        clear hb5 HY ho hat m0 m1 m2 hlm
        go_wp2_with fail
        refine (l01Next_any n b (L : Int) _ (by omega) I.out.src).mono ?_; rintro e w6 ⟨x, rfl, hx, hs, hg⟩
        replace R := Lib.hid (R.out.turn hg hbI)
        replace M := Lib.hid (M.out.turn I.out hg5 hg)
        replace N := Lib.hid (N.out.turn I.out hg6 hg)
        replace I := Lib.hid (I.out.turn hs hg)
        clear hs hg
        obtain ⟨k, rfl⟩ := Int.eq_ofNat_of_zero_le hx.1
        have hk : k < cy.length := by omega
        have hk' : (k : Int) < (L : Int) := by omega
        clear hx
        obtain ⟨g', rfl, -, hgl', hcell, -⟩ := R.out (by omega)
        obtain ⟨e0, e1, e2⟩ := flatF_atG hk
        have c0 := hcell _ _ e0
        have c1 := hcell _ _ e1
        have c2 := hcell _ _ e2
        clear e0 e1 e2 hcell R
        generalize cy[k].x = x at *
        generalize cy[k].y = y at *
        generalize cy[k].z = z at *
        obtain ⟨⟨d0, d1, d2⟩, ⟨f0, f1, f2⟩, hl3⟩ := N.out.open_
        have N6 := Lib.hid (N.out.set x y z)
        have M6 := Lib.hid (M.out.far (.int .i64 x) (.int .i64 y) (.int .i64 z) hgg)
        have I6 := Lib.hid (I.out.set3 (.int .i64 x) (.int .i64 y) (.int .i64 z) hg6)
        go_wp2_with fail
        refine (l01Next_any n b 3 _ (by omega) I6.out.src).mono ?_; rintro e w7 ⟨u, rfl, -, hs, hg⟩
        have M7 := Lib.hid (M6.out.turn I6.out hg5 hg)
        have N7 := Lib.hid (N6.out.turn I6.out hg6 hg)
        have I7 := Lib.hid (I6.out.turn hs hg)
        clear hs hg M N I M6 N6 I6 d0 d1 d2 f0 f1 f2 hl3
        by_cases hu : u = 0
        · subst hu
          obtain ⟨⟨d0, d1, d2⟩, ⟨f0, f1, f2⟩, hl3⟩ := N7.out.open_
          go_wp2_with fail
          go_meet
          exact ⟨wrap64 (-x), y, wrap64 (-z), Lib.hid (M7.out.far _ _ _ hgg), Lib.hid (N7.out.set _ _ _), Lib.hid (I7.out.set3 _ _ _ hg6)⟩
        · have hu' : (u == 0) = false := by simpa using hu
          go_wp2_with fail
          go_meet
          exact ⟨x, y, z, M7, N7, I7⟩
    case rest =>
      clear M N I HC
      obtain ⟨x, y, z, M, N, I⟩ := hcut
      go_wp2_with fail
      refine (l01Next_any n b 2 _ (by omega) I.out.src).mono ?_; rintro e w8 ⟨u, rfl, -, hs, hg⟩
      replace M := Lib.hid (M.out.turn I.out hg5 hg)
      replace N := Lib.hid (N.out.turn I.out hg6 hg)
      replace I := Lib.hid (I.out.turn hs hg)
      clear hs hg
      generalize hB : (u == 0) = B2
      go_upto_if 44 with (fail)
      clear hB
      go_cut [] from 45 to 69 (fun wx => ∃ p q r x y z : Int, Hid (Bg wx g p q r) ∧ Hid (Bg wx (g + 1) x y z) ∧ Hid (InS n b w1 wx))
      case first =>
        cases B2
        · go_wp2_with fail
          go_meet
          exact ⟨p, q, r, x, y, z, M, N, I⟩
        · skip
          go_wp2_with fail
          refine (l01Next_any n b 6 _ (by omega) I.out.src).mono ?_; rintro e w9 ⟨u0, rfl, hu0, hs, hg⟩
          replace M := Lib.hid (M.out.turn I.out (hg5) hg)
          replace N := Lib.hid (N.out.turn I.out (hg6) hg)
          replace I := Lib.hid (I.out.turn hs hg)
          clear hs hg
          have hu0' : 0 ≤ u0 ∧ u0 < 6 := by omega
          clear hu0
          go_wp2_with fail
          refine (l01Next_any n b 9 _ (by omega) I.out.src).mono ?_; rintro e w10 ⟨u1, rfl, hu1, hs, hg⟩
          replace M := Lib.hid (M.out.turn I.out (hg5) hg)
          replace N := Lib.hid (N.out.turn I.out (hg6) hg)
          replace I := Lib.hid (I.out.turn hs hg)
          clear hs hg
          have hu1' : 0 ≤ u1 ∧ u1 < 9 := by omega
          clear hu1
          go_wp2_with fail
          refine (l01Next_any n b 9 _ (by omega) I.out.src).mono ?_; rintro e w11 ⟨u2, rfl, hu2, hs, hg⟩
          replace M := Lib.hid (M.out.turn I.out (hg5) hg)
          replace N := Lib.hid (N.out.turn I.out (hg6) hg)
          replace I := Lib.hid (I.out.turn hs hg)
          clear hs hg
          have hu2' : 0 ≤ u2 ∧ u2 < 9 := by omega
          clear hu2
          obtain ⟨⟨d0, d1, d2⟩, ⟨f0, f1, f2⟩, hl3⟩ := M.out.open_
          replace N := Lib.hid (N.out.far (.int .i64 (1 + u0)) (.int .i64 (u1 - 4)) (.int .i64 (7 + u2)) hgg')
          replace M := Lib.hid (M.out.set (1 + u0) (u1 - 4) (7 + u2))
          replace I := Lib.hid (I.out.set3 (.int .i64 (1 + u0)) (.int .i64 (u1 - 4)) (.int .i64 (7 + u2)) hg5)
          go_upto_region 11 with (fail)
          clear d0 d1 d2 f0 f1 f2 hl3
          generalize ((w11.setCell ⟨g, 0, none⟩ (.int .i64 (1 + u0))).setCell ⟨g, 1, none⟩ (.int .i64 (u1 - 4))).setCell ⟨g, 2, none⟩ (.int .i64 (7 + u2)) = W2 at *
          generalize 1 + u0 = p2 at *
          generalize u1 - 4 = q2 at *
          generalize 7 + u2 = r2 at *
          have kW := Lib.hid (C3f.of M.out)
          go_cut [] from 55 to 58 (fun wx => ∃ x y z : Int, Hid (Bg wx g p2 q2 r2) ∧ Hid (Bg wx (g + 1) x y z) ∧ Hid (InS n b w1 wx))
          case first =>
            go_region_held3 (fun w' => w'.cell? ⟨g, 0, none⟩ = some (.int .i64 p2) ∧ w'.cell? ⟨g, 1, none⟩ = some (.int .i64 q2) ∧ w'.cell? ⟨g, 2, none⟩ = some (.int .i64 r2)) (first | with_reducible exact k5.out | with_reducible exact k4.out | with_reducible exact kW.out | with_reducible exact kW.out.drew | with_reducible exact k4.out.drew | with_reducible exact C3f.of (M5.out.far _ _ _ hgg) | go_keep) (first | (go_at_call 60; (first | ((with_reducible refine (l01Small_any n b _ I.out.src).mono ?_); rintro e w4 ⟨⟨a0, a1, a2, a3, rfl, -⟩, hs4, hg4⟩; have hg4x := Lib.hid hg4; clear hg4) | ((with_reducible refine (l01Small_any n b _ I.out.drew.src).mono ?_); rintro e w4 ⟨⟨a0, a1, a2, a3, rfl, -⟩, hs4, hg4⟩; have hg4x := Lib.hid (undrewG hg4); clear hg4)); have I4 := Lib.hid (I.out.turn hs4 hg4x.out); have N4 := Lib.hid (N.out.turn I.out hg6 hg4x.out); have M4 := Lib.hid (M.out.turn I.out hg5 hg4x.out); have k4 := Lib.hid (C3f.of M4.out); clear hs4 hg4x) | (go_at_call 59; refine (l05Apply_wild p2 q2 r2 a0 a1 a2 a3 _).mono ?_; rintro e w5 ⟨⟨x0, x1, x2, rfl⟩, hb5⟩; have T5 := Lib.hid (show Below w4.heap.size w4 w5 by first | with_reducible exact hb5 | with_reducible exact wayAd (Below.refl _ _) (Nat.le_refl _) hb5); have I5 := Lib.hid (I4.out.below T5.out); have N5 := Lib.hid (N4.out.below T5.out); have M5 := Lib.hid (M4.out.below T5.out); have k5 := Lib.hid (C3f.of M5.out); have y5 := Blk3.open_ N5.out; obtain ⟨⟨c50, c51, c52⟩, ⟨f50, f51, f52⟩, hl5⟩ := y5; clear hb5))
            all_goals
              go_wp2_with fail
              go_meet
              exact ⟨x0, x1, x2, Lib.hid (M5.out.far _ _ _ hgg), Lib.hid (N5.out.set _ _ _), Lib.hid (I5.out.set3 _ _ _ hg6)⟩
          case rest =>
            clear M N I kW
            obtain ⟨x2, y2, z2, M, N, I⟩ := hcut
            go_wp2_with fail
            refine (l01Next_any n b 3 _ (by omega) I.out.src).mono ?_; rintro e w12 ⟨u, rfl, -, hs, hg⟩
            replace M := Lib.hid (M.out.turn I.out (hg5) hg)
            replace N := Lib.hid (N.out.turn I.out (hg6) hg)
            replace I := Lib.hid (I.out.turn hs hg)
            clear hs hg
            by_cases hu : u = 0
            · subst hu
              obtain ⟨⟨d0, d1, d2⟩, ⟨f0, f1, f2⟩, hl3⟩ := N.out.open_
              go_wp2_with fail
              go_meet
              exact ⟨p2, q2, r2, x2, wrap64 (-y2), z2, Lib.hid (M.out.far _ _ _ hgg), Lib.hid (N.out.set _ _ _), Lib.hid (I.out.set3 _ _ _ hg6)⟩
            · have hu' : (u == 0) = false := by simpa using hu
              go_wp2_with fail
              go_meet
              exact ⟨p2, q2, r2, x2, y2, z2, M, N, I⟩
      case rest =>
        clear M N I
        obtain ⟨p1, q1, r1, x1, y1, z1, M, N, I⟩ := hcut
        have hlN := N.out.lt
        have kW := Lib.hid (C33.of M.out N.out)
        have hwg : w.heap.size + 1 < g := by have := B1.out.lt; have := C1.out.lt; omega
        have hq1 : g ≠ w.heap.size := by omega
        have hq2 : g + 1 ≠ w.heap.size := by omega
        have hq3 : g ≠ w.heap.size + 1 := by omega
        have hq4 : g + 1 ≠ w.heap.size + 1 := by omega
        go_upto_region 14 with (fail)
        go_region_held3 (fun w' => (w'.cell? ⟨g, 0, none⟩ = some (.int .i64 p1) ∧ w'.cell? ⟨g, 1, none⟩ = some (.int .i64 q1) ∧ w'.cell? ⟨g, 2, none⟩ = some (.int .i64 r1)) ∧ (w'.cell? ⟨g + 1, 0, none⟩ = some (.int .i64 x1) ∧ w'.cell? ⟨g + 1, 1, none⟩ = some (.int .i64 y1) ∧ w'.cell? ⟨g + 1, 2, none⟩ = some (.int .i64 z1))) (first | with_reducible exact k5.out | with_reducible exact k4.out | with_reducible exact kW.out | with_reducible exact kW.out.drew | with_reducible exact k4.out.drew | with_reducible exact k5.out.drew | with_reducible exact C33.of (X5.out.far _ _ _ hq1) (Y5.out.far _ _ _ hq2) | with_reducible exact C33.of ((X5.out.far _ _ _ hq1).far _ _ _ hq3) ((Y5.out.far _ _ _ hq2).far _ _ _ hq4) | go_keep) (first | (go_at_call 61; (first | ((with_reducible refine (l05Bad_any n b p1 q1 r1 _ I.out.src).mono ?_); rintro e w4 ⟨⟨a0, a1, a2, rfl⟩, hs4, hg4⟩; have hg4x := Lib.hid hg4; clear hg4) | ((with_reducible refine (l05Bad_any n b p1 q1 r1 _ I.out.drew.src).mono ?_); rintro e w4 ⟨⟨a0, a1, a2, rfl⟩, hs4, hg4⟩; have hg4x := Lib.hid (undrewG hg4); clear hg4)); have I4 := Lib.hid (I.out.turn hs4 hg4x.out); have X4 := Lib.hid (M.out.turn I.out hg5 hg4x.out); have Y4 := Lib.hid (N.out.turn I.out hg6 hg4x.out); have k4 := Lib.hid (C33.of X4.out Y4.out); clear hs4 hg4x) | (go_at_call 61; (first | ((with_reducible refine (l05Bad_any n b x1 y1 z1 _ I4.out.src).mono ?_); rintro e w5 ⟨⟨c0, c1, c2, rfl⟩, hs5, hg5'⟩; have hg5x := Lib.hid hg5'; clear hg5') | ((with_reducible refine (l05Bad_any n b x1 y1 z1 _ I4.out.drew.src).mono ?_); rintro e w5 ⟨⟨c0, c1, c2, rfl⟩, hs5, hg5'⟩; have hg5x := Lib.hid (undrewG hg5'); clear hg5')); have I5 := Lib.hid (I4.out.turn hs5 hg5x.out); have X5 := Lib.hid (X4.out.turn I4.out hg5 hg5x.out); have Y5 := Lib.hid (Y4.out.turn I4.out hg6 hg5x.out); have k5 := Lib.hid (C33.of X5.out Y5.out); have B5 := Lib.hid (B1.out.grown I5.out (by omega)); have C5 := Lib.hid (C1.out.grown I5.out (by omega)); have y5 := Blk3.open_ B5.out; obtain ⟨⟨d0, d1, d2⟩, ⟨e0, e1, e2⟩, hl5⟩ := y5; have y6 := Blk3.open_ C5.out; obtain ⟨⟨m0, m1, m2⟩, ⟨n0, n1, n2⟩, hl6⟩ := y6; clear hs5 hg5x))
        all_goals
          have hne1 : w.heap.size ≠ w.heap.size + 1 := by omega
          have hne2 : w.heap.size + 1 ≠ w.heap.size := by omega
          have F2 := (B5.out.set a0 a1 a2).far (.int .i64 c0) (.int .i64 c1) (.int .i64 c2) hne1
          have F3 := (C5.out.far (.int .i64 a0) (.int .i64 a1) (.int .i64 a2) hne2).set c0 c1 c2
          obtain ⟨⟨s0, s1, s2⟩, -, -⟩ := Blk3.open_ F2
          obtain ⟨⟨t0, t1, t2⟩, -, -⟩ := Blk3.open_ F3
          have HF := Lib.hid (below_set3 (x := (.int .i64 c0)) (y := (.int .i64 c1)) (z := (.int .i64 c2)) (r := w.heap.size + 1) (below_set3 (x := (.int .i64 a0)) (y := (.int .i64 a1)) (z := (.int .i64 a2)) (r := w.heap.size) (HB1.out.trans (I5.out.belowN (m := w.heap.size) (by omega))) (Nat.le_refl _)) (Nat.le_succ _))
          clear F2 F3
          go_wp2_with fail
          refine bodyPost_ret (v := .tuple #[(.agg #[.int .i64 a0, .int .i64 a1, .int .i64 a2]), (.agg #[.int .i64 c0, .int .i64 c1, .int .i64 c2])]) (by simp [results, Try.results23, go_sem, s0, s1, s2, t0, t1, t2] <;> rfl) rfl ?_
          exact ⟨⟨_, _, _, _, _, _, rfl⟩, HF.out⟩
abbrev C34 (w : World) (g g' : Nat) (p q r a b c d : Int) : Prop := (w.cell? ⟨g, 0, none⟩ = some (.int .i64 p) ∧ w.cell? ⟨g, 1, none⟩ = some (.int .i64 q) ∧ w.cell? ⟨g, 2, none⟩ = some (.int .i64 r)) ∧ (w.cell? ⟨g', 0, none⟩ = some (.int .i64 a) ∧ w.cell? ⟨g', 1, none⟩ = some (.int .i64 b) ∧ w.cell? ⟨g', 2, none⟩ = some (.int .i64 c) ∧ w.cell? ⟨g', 3, none⟩ = some (.int .i64 d))
theorem C34.of {w : World} {g g' : Nat} {p q r a b c d : Int} (h : Bg w g p q r) (h' : Bm w g' a b c d) : C34 w g g' p q r a b c d := ⟨(Blk3.open_ h).1, (Blk4.open_ h').1⟩
theorem C34.drew {w : World} {g g' : Nat} {p q r a b c d : Int} (h : C34 w g g' p q r a b c d) : C34 w.drew g g' p q r a b c d := h
set_option maxRecDepth 1000000 in
set_option maxHeartbeats 8000000 in
theorem DrawKeepsForm_any (a : Option Addr) (len cap : Nat) (w : World) (hl : len ≤ 1152921504606846976) (hb : Bytes w w.heap.size a len) :
    Calls Try.prog 25 #[.slice a len cap] w fun e w' => RetFM e ∧ Below w.heap.size w w' := by
  have hA : Below w.heap.size w ((w.alloc (.cells #[(.int .i64 0), (.int .i64 0), (.int .i64 0)] 34)).alloc (.cells #[(.int .i64 0), (.int .i64 0), (.int .i64 0), (.int .i64 0)] 42)) := ((Below.refl _ w).alloc (Nat.le_refl _) _).alloc (by simp) _
  have HF := Lib.hid (l01From_any a len cap _ hl (hb.after hA))
  have HA := Lib.hid hA
  clear hb hA
  go_enter Try.func25, Try.ntmps25
  go_wp2_with fail
  refine (HF.out).mono ?_; rintro e w1 ⟨b, rfl, hs1, hb1⟩
  have HB1 := Lib.hid (bfin HA.out hb1)
  have B1 := Lib.hid (((Bg.new (w := w) (p := 0) (q := 0) (s := 0)).alloc (.cells #[(.int .i64 0), (.int .i64 0), (.int .i64 0), (.int .i64 0)] 42)).below hb1)
  have C1 := Lib.hid ((Bm.newE (g := w.heap.size + 1) (w := w.alloc (.cells #[(.int .i64 0), (.int .i64 0), (.int .i64 0)] 34)) (p := 0) (q := 0) (s := 0) (u := 0) (by simp)).below hb1)
  have I := Lib.hid (InS.start hs1)
  have hbn : w.heap.size + 2 ≤ b := by have := hs1.ge; simpa using this
  have hbw : b < w1.heap.size := hs1.lt
  generalize hnn : ((w.alloc (.cells #[(.int .i64 0), (.int .i64 0), (.int .i64 0)] 34)).alloc (.cells #[(.int .i64 0), (.int .i64 0), (.int .i64 0), (.int .i64 0)] 42)).heap.size = n at *
  clear HF HA hs1 hb1 hnn
  go_wp2_with fail
  refine (l01Small_any n b _ I.out.src).mono ?_; rintro e w2 ⟨⟨p, q, r, s, rfl, hem⟩, hs, hg⟩
  replace I := Lib.hid (I.out.turn hs hg)
  clear hs hg
  have HE := Lib.hid hem
  have hg5 : w1.heap.size ≤ w2.heap.size := I.out.size
  have M := Lib.hid ((Bm.new (w := w2) (p := p) (q := q) (s := r) (u := s)).alloc (.cells #[(.int .i64 1), (.int .i64 0), (.int .i64 1)] 34))
  have N := Lib.hid (Bg.newE (g := w2.heap.size + 1) (w := w2.alloc (.cells #[(.int .i64 p), (.int .i64 q), (.int .i64 r), (.int .i64 s)] 42)) (p := 1) (q := 0) (s := 1) (by simp))
  replace I := Lib.hid ((I.out.alloc (.cells #[(.int .i64 p), (.int .i64 q), (.int .i64 r), (.int .i64 s)] 42)).alloc (.cells #[(.int .i64 1), (.int .i64 0), (.int .i64 1)] 34))
  clear hem
  go_upto_region 4 with (fail)
  generalize (w2.alloc (.cells #[(.int .i64 p), (.int .i64 q), (.int .i64 r), (.int .i64 s)] 42)).alloc (.cells #[(.int .i64 1), (.int .i64 0), (.int .i64 1)] 34) = W at *
  generalize w2.heap.size = g at *
  have hg6 : w1.heap.size ≤ g + 1 := by omega
  have hww : w.heap.size ≤ w1.heap.size := HB1.out.size
  have hgg : g ≠ g + 1 := by omega
  have hgg' : g + 1 ≠ g := by omega
  have HK := Lib.hid (fun W => l01Kind_em p q r s W HE.out)
  have HFM := Lib.hid (fun W => sFormOfMatrix_any p q r s W)
  generalize formOfMat p q r s = R at *
  obtain ⟨⟨x0, x1, x2⟩, xk⟩ := R
  simp only at HFM
  obtain ⟨⟨m0, m1, m2, m3⟩, -, hlm⟩ := M.out.open_
  go_wp2_with fail
  refine (HK.out _).mono ?_; rintro e w3 ⟨⟨kk, rfl⟩, hb3⟩
  replace M := Lib.hid (M.out.below hb3)
  replace N := Lib.hid (N.out.below hb3)
  replace I := Lib.hid (I.out.below hb3)
  clear hb3 m0 m1 m2 m3 hlm HK
  obtain ⟨B2, hB⟩ : ∃ B, decide (0 < kk) = B := ⟨_, rfl⟩
  go_upto_if 14 with (fail)
  clear hB
  go_cut [] from 15 to 19 (fun wx => ∃ p1 q1 r1 : Int, Hid (Bm wx g p q r s) ∧ Hid (Bg wx (g + 1) p1 q1 r1) ∧ Hid (InS n b w1 wx))
  case first =>
    cases B2
    · go_wp2_with fail
      go_meet
      exact ⟨_, _, _, M, N, I⟩
    · obtain ⟨⟨m0, m1, m2, m3⟩, -, hlm⟩ := M.out.open_
      go_wp2_with fail
      refine (HFM.out _).mono ?_; rintro e w4 ⟨rfl, hb4⟩
      replace M := Lib.hid (M.out.below hb4)
      replace N := Lib.hid (N.out.below hb4)
      replace I := Lib.hid (I.out.below hb4)
      clear hb4 m0 m1 m2 m3 hlm HFM
      obtain ⟨⟨d0, d1, d2⟩, ⟨f0, f1, f2⟩, hl3⟩ := N.out.open_
      go_wp2_with fail
      go_meet
      exact ⟨x0, x1, x2, Lib.hid (M.out.far3 _ _ _ hgg), Lib.hid (N.out.set _ _ _), Lib.hid (I.out.set3 _ _ _ hg6)⟩
  case rest =>
    clear M N I HFM
    obtain ⟨p1, q1, r1, M, N, I⟩ := hcut
    go_wp2_with fail
    refine (l01Next_any n b 4 _ (by omega) I.out.src).mono ?_; rintro e w6 ⟨u, rfl, -, hs, hg⟩
    replace M := Lib.hid (M.out.turn I.out (hg5) hg)
    replace N := Lib.hid (N.out.turn I.out (hg6) hg)
    replace I := Lib.hid (I.out.turn hs hg)
    clear hs hg
    generalize hB : (u == 0) = B3
    go_upto_if 22 with (fail)
    clear hB
    go_cut [] from 23 to 24 (fun wx => ∃ p1 q1 r1 : Int, Hid (Bm wx g p q r s) ∧ Hid (Bg wx (g + 1) p1 q1 r1) ∧ Hid (InS n b w1 wx))
    case first =>
      cases B3
      · go_wp2_with fail
        go_meet
        exact ⟨_, _, _, M, N, I⟩
      · skip
        go_wp2_with fail
        refine (l05Draw_any n b _ I.out.src).mono ?_; rintro e w7 ⟨⟨p2, q2, r2, rfl⟩, hs, hg⟩
        replace M := Lib.hid (M.out.turn I.out (hg5) hg)
        replace N := Lib.hid (N.out.turn I.out (hg6) hg)
        replace I := Lib.hid (I.out.turn hs hg)
        clear hs hg
        obtain ⟨⟨d0, d1, d2⟩, ⟨f0, f1, f2⟩, hl3⟩ := N.out.open_
        go_wp2_with fail
        go_meet
        exact ⟨p2, q2, r2, Lib.hid (M.out.far3 _ _ _ hgg), Lib.hid (N.out.set _ _ _), Lib.hid (I.out.set3 _ _ _ hg6)⟩
    case rest =>
      clear M N I
      obtain ⟨p1, q1, r1, M, N, I⟩ := hcut
      have hlN := N.out.lt
      have kW := Lib.hid (C34.of N.out M.out)
      have hwg : w.heap.size + 1 < g := by have := B1.out.lt; have := C1.out.lt; omega
      have hq1 : g ≠ w.heap.size := by omega
      have hq2 : g + 1 ≠ w.heap.size := by omega
      have hq3 : g ≠ w.heap.size + 1 := by omega
      have hq4 : g + 1 ≠ w.heap.size + 1 := by omega
      go_upto_region 8 with (fail)
      go_region_held3 (fun w' => (w'.cell? ⟨g + 1, 0, none⟩ = some (.int .i64 p1) ∧ w'.cell? ⟨g + 1, 1, none⟩ = some (.int .i64 q1) ∧ w'.cell? ⟨g + 1, 2, none⟩ = some (.int .i64 r1)) ∧ (w'.cell? ⟨g, 0, none⟩ = some (.int .i64 p) ∧ w'.cell? ⟨g, 1, none⟩ = some (.int .i64 q) ∧ w'.cell? ⟨g, 2, none⟩ = some (.int .i64 r) ∧ w'.cell? ⟨g, 3, none⟩ = some (.int .i64 s))) (first | with_reducible exact k5.out | with_reducible exact k4.out | with_reducible exact kW.out | with_reducible exact kW.out.drew | with_reducible exact k4.out.drew | with_reducible exact k5.out.drew | with_reducible exact C34.of (X5.out.far _ _ _ hq2) (Y5.out.far3 _ _ _ hq1) | with_reducible exact C34.of ((X5.out.far _ _ _ hq2).far4 _ _ _ _ hq4) ((Y5.out.far3 _ _ _ hq1).far _ _ _ _ hq3) | go_keep) (first | (go_at_call 61; (first | ((with_reducible refine (l05Bad_any n b p1 q1 r1 _ I.out.src).mono ?_); rintro e w4 ⟨⟨a0, a1, a2, rfl⟩, hs4, hg4⟩; have hg4x := Lib.hid hg4; clear hg4) | ((with_reducible refine (l05Bad_any n b p1 q1 r1 _ I.out.drew.src).mono ?_); rintro e w4 ⟨⟨a0, a1, a2, rfl⟩, hs4, hg4⟩; have hg4x := Lib.hid (undrewG hg4); clear hg4)); have I4 := Lib.hid (I.out.turn hs4 hg4x.out); have X4 := Lib.hid (N.out.turn I.out hg6 hg4x.out); have Y4 := Lib.hid (M.out.turn I.out hg5 hg4x.out); have k4 := Lib.hid (C34.of X4.out Y4.out); clear hs4 hg4x) | (go_at_call 65; (first | ((with_reducible refine (l01Bad_any n b p q r s _ I4.out.src).mono ?_); rintro e w5 ⟨⟨c0, c1, c2, c3, rfl⟩, hs5, hg5'⟩; have hg5x := Lib.hid hg5'; clear hg5') | ((with_reducible refine (l01Bad_any n b p q r s _ I4.out.drew.src).mono ?_); rintro e w5 ⟨⟨c0, c1, c2, c3, rfl⟩, hs5, hg5'⟩; have hg5x := Lib.hid (undrewG hg5'); clear hg5')); have I5 := Lib.hid (I4.out.turn hs5 hg5x.out); have X5 := Lib.hid (X4.out.turn I4.out hg6 hg5x.out); have Y5 := Lib.hid (Y4.out.turn I4.out hg5 hg5x.out); have k5 := Lib.hid (C34.of X5.out Y5.out); have B5 := Lib.hid (B1.out.grown I5.out (by omega)); have C5 := Lib.hid (C1.out.grownG I5.out (by omega)); have y5 := Blk3.open_ B5.out; obtain ⟨⟨d0, d1, d2⟩, ⟨e0, e1, e2⟩, hl5⟩ := y5; have y6 := Blk4.open_ C5.out; obtain ⟨⟨m0, m1, m2, m3⟩, ⟨n0, n1, n2, n3⟩, hl6⟩ := y6; clear hs5 hg5x))
      all_goals
        have hne1 : w.heap.size ≠ w.heap.size + 1 := by omega
        have hne2 : w.heap.size + 1 ≠ w.heap.size := by omega
        have F2 := (B5.out.set a0 a1 a2).far4 (.int .i64 c0) (.int .i64 c1) (.int .i64 c2) (.int .i64 c3) hne1
        have F3 := (C5.out.far3 (.int .i64 a0) (.int .i64 a1) (.int .i64 a2) hne2).set c0 c1 c2 c3
        obtain ⟨⟨s0, s1, s2⟩, -, -⟩ := Blk3.open_ F2
        obtain ⟨⟨t0, t1, t2, t3⟩, -, -⟩ := Blk4.open_ F3
        have HF := Lib.hid (below_set4 (x := (.int .i64 c0)) (y := (.int .i64 c1)) (z := (.int .i64 c2)) (t := (.int .i64 c3)) (r := w.heap.size + 1) (below_set3 (x := (.int .i64 a0)) (y := (.int .i64 a1)) (z := (.int .i64 a2)) (r := w.heap.size) (HB1.out.trans (I5.out.belowN (m := w.heap.size) (by omega))) (Nat.le_refl _)) (Nat.le_succ _))
        clear F2 F3
        go_wp2_with fail
        refine bodyPost_ret (v := .tuple #[(.agg #[.int .i64 a0, .int .i64 a1, .int .i64 a2]), (.agg #[.int .i64 c0, .int .i64 c1, .int .i64 c2, .int .i64 c3])]) (by simp [results, Try.results25, go_sem, s0, s1, s2, t0, t1, t2, t3] <;> rfl) rfl ?_
        exact ⟨⟨_, _, _, _, _, _, _, rfl⟩, HF.out⟩
end Go.Proofs.Ytcaiofhdcffogaa
