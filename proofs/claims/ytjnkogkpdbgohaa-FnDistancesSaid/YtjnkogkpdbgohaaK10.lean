/- Contracts: the model's matrix that leads a fraction to infinity. -/
import Derived.Test.YtjnkogkpdbgohaaK9
import Derived.Test.YtjnkogkpdbgohaaK8
import Derived.Test.YtjnkogkpdbgohaaD10
namespace Go.Proofs.Ytjnkogkpdbgohaa
open Go.RowKit
/-- What holds ahead of a round: the last two convergents. -/
structure TIv (L D l : List Int) (a b p q : Int) : Prop where
  hL : L = D ++ l
  hC : ∃ O, convL L 1 0 0 1 = O ++ convL l a b p q ∧ (D ≠ [] → O.getLast? = some ⟨a, b⟩)
  ok : convOk l a b p q
  he : ∀ x ∈ l, E9 x
  ea : E9 a
  eb : E9 b
  ep : E9 p
  eq : E9 q
  det : a * q - b * p = 1 ∨ a * q - b * p = -1
  mo : (b = 0 ∧ q = 1 ∧ ∀ x ∈ l.tail, 1 ≤ x) ∨ (0 ≤ q ∧ q ≤ b ∧ 1 ≤ b ∧ ∀ x ∈ l, 1 ≤ x)
theorem TIv.next {L D l : List Int} {n a b p q : Int} (h : TIv L D (n :: l) a b p q) : TIv L (D ++ [n]) l (n * a + p) (n * b + q) a b := by
  obtain ⟨hL, ⟨O, hC, hO⟩, ok, he, ea, eb, ep, eq, det, mo⟩ := h
  obtain ⟨e1, e2, e3⟩ := ok
  refine ⟨by rw [hL]; simp, ⟨O ++ [⟨n * a + p, n * b + q⟩], by rw [hC]; simp [convL], fun _ => by simp⟩, e3, fun x hx => he x (List.mem_cons_of_mem _ hx), e1, e2, ea, eb, ?_, ?_⟩
  rotate_left
  · right
    rcases mo with ⟨rfl, rfl, ht⟩ | ⟨h1, h2, h3, h4⟩
    · exact ⟨by omega, by omega, by omega, by simpa using ht⟩
    · have hn := h4 n (by simp)
      have := Int.mul_le_mul_of_nonneg_right hn (show 0 ≤ b by omega)
      exact ⟨by omega, by omega, by omega, fun x hx => h4 x (List.mem_cons_of_mem _ hx)⟩
  have : (n * a + p) * b - (n * b + q) * a = -(a * q - b * p) := by grind
  rw [this]; omega
theorem TIv.last {P Q : Int} {D : List Int} {a b p q : Int} (h : TIv (cfrac P Q) D [] a b p q) (hq : 0 < Q) (hg : Int.gcd P Q = 1) : a = P ∧ b = Q := by
  obtain ⟨hL, ⟨O, hC, hO⟩, -, -, -, -, -, -, -, -⟩ := h
  rw [List.append_nil] at hL
  have hne : cfrac P Q ≠ [] := by rw [cfrac_step hq]; simp
  have h1 := hO (by rw [← hL]; exact hne)
  have h2 : convL (cfrac P Q) 1 0 0 1 = O := by rw [hC]; simp [convL]
  rw [← h2, conv_last _ _ _ _ _ hne, cv_cfrac (Q.toNat + 1) P Q (by omega) (by omega) hg (.inl hq)] at h1
  simp at h1
  omega
theorem TIv.slast {L D : List Int} {a b p q : Int} (h : TIv L D [] a b p q) (hb : 0 < b) : 0 ≤ q ∧ q ≤ b := by
  rcases h.mo with ⟨h1, -, -⟩ | ⟨h1, h2, -, -⟩
  · omega
  · exact ⟨h1, h2⟩
theorem tiv_start {P Q : Int} (hp : E9 P) (hq : 0 < Q) (h1 : Q ≤ 1000000000) (hc : Cont (cfrac P Q)) : TIv (cfrac P Q) [] (cfrac P Q) 1 0 0 1 :=
  ⟨rfl, ⟨[], rfl, fun h => absurd rfl h⟩, convOk_all hp hq h1, cfrac_e9 (Q.toNat + 1) P Q hp (by omega) h1 (by omega), ⟨by omega, by omega⟩, ⟨by omega, by omega⟩, ⟨by omega, by omega⟩, ⟨by omega, by omega⟩, .inl (by omega), .inl ⟨rfl, rfl, hc.t⟩⟩
theorem RowAt.under {w w' : World} {B n g : Nat} {A : Option Addr} {xs : List Value} (h : RowAt w B A n xs) (ha : ∀ b, A = some ⟨b, 0, none⟩ → b < g) (hb : Below g w w') : RowAt w' B A n xs := fun hn => by
  obtain ⟨b, hA, hB, hlt, hc, hf⟩ := h hn
  have hl := ha b hA
  exact ⟨b, hA, hB, Nat.lt_of_lt_of_le hlt hb.size, fun j u hu => (hb.cell (p := ⟨b, j, none⟩) hl).trans (hc j u hu), fun j => (hb.frozen (p := ⟨b, j, none⟩) hl).trans (hf j)⟩
/-- What l03ToInfinity says. -/
def InfSay (P Q : Int) (e : Ending) : Prop := ∃ r s : Int, e = .returned (.agg #[.int .i64 s, .int .i64 (-r), .int .i64 (-Q), .int .i64 P]) ∧ P * s - Q * r = 1 ∧ (-Q - 1 ≤ s ∧ s ≤ Q + 1) ∧ (Q = 0 → r = 0)
set_option maxRecDepth 100000 in
set_option maxHeartbeats 4000000 in
theorem l03ToInfinity_any (P Q : Int) (w : World) (hf : isFrac P Q = true) :
    Calls Try.prog 44 #[(.agg #[.int .i64 P, .int .i64 Q])] w fun e w' => InfSay P Q e ∧ Below w.heap.size w w' := by
  obtain ⟨e9, q0, q1, hg, hp⟩ := frac_e9 hf
  unfold InfSay
  by_cases hq : Q = 0
  · subst hq
    have hP1 : P = 1 := by omega
    subst hP1
    go_enter Try.func44, Try.ntmps44
    go_wp2_with fail
    refine bodyPost_ret (v := (.agg #[.int .i64 1, .int .i64 0, .int .i64 0, .int .i64 1])) (by simp [results, Try.results44, go_sem] <;> rfl) rfl ⟨⟨0, 1, by simp, by omega, ⟨by omega, by omega⟩, by first | rfl | exact fun _ => rfl⟩, by go_grown⟩
  have hq' : (Q == 0) = false := by simpa using hq
  have HC := Lib.hid (fun W => l03Continued_any P Q W e9 q0 q1)
  have hlen := cfrac_len (p := P) q0 q1
  have HS := Lib.hid (tiv_start e9 (show 0 < Q by omega) q1 (cfrac_cont e9 (show 0 < Q by omega) q1 (by exact_mod_cast hg)))
  have HLA := Lib.hid (fun D a b p q (h : TIv (cfrac P Q) D [] a b p q) => h.last (show 0 < Q by omega) hg)
  obtain ⟨P0, P1⟩ := e9
  clear hf hg hp
  generalize cfrac P Q = L at *
  go_enter Try.func44, Try.ntmps44
  go_wp2_with fail
  refine (HC.out _).mono ?_; rintro e w1 ⟨v, rfl, ho, hb1⟩
  have T := Lib.hid (show Below w.heap.size w w1 from bfin (by go_grown) hb1)
  obtain ⟨A, cap, rfl, -, -, hat⟩ := own_view ho
  have R := Lib.hid hat
  have HAU := Lib.hid (own_under ho)
  have HF := Lib.hid (heap_below (heap_alloc (p := .cells #[(.int .i64 0), (.int .i64 0), (.int .i64 0), (.int .i64 0)] 44) (heap_new (w := w) (p := .cells #[(.int .i64 P), (.int .i64 Q)] 25))) hb1)
  have HM := Lib.hid (heap_below (heap_new' (w := w.alloc (.cells #[(.int .i64 P), (.int .i64 Q)] 25)) (p := .cells #[(.int .i64 0), (.int .i64 0), (.int .i64 0), (.int .i64 0)] 44) (b := w.heap.size + 1) (by simp)) hb1)
  clear ho hat hb1 HC
  go_wp2_with fail
  have hg4 : w.heap.size + 1 < w1.heap.size := lt_of_blk HM.out
  have T2 := Lib.hid (T.out.alloc T.out.size (.cells #[(.int .i64 1), (.int .i64 0), (.int .i64 0), (.int .i64 1)] 44))
  have R2 := Lib.hid (R.out.below ((Below.refl _ w1).alloc (Nat.le_refl _) (.cells #[(.int .i64 1), (.int .i64 0), (.int .i64 0), (.int .i64 1)] 44)))
  have F2 := Lib.hid (show Blk2 (w1.alloc (.cells #[(.int .i64 1), (.int .i64 0), (.int .i64 0), (.int .i64 1)] 44)) w.heap.size 25 P Q from heap_alloc HF.out)
  have Z2 := Lib.hid (show Blk4 (w1.alloc (.cells #[(.int .i64 1), (.int .i64 0), (.int .i64 0), (.int .i64 1)] 44)) (w.heap.size + 1) 44 0 0 0 0 from heap_alloc HM.out)
  have M2 := Lib.hid (show Blk4 (w1.alloc (.cells #[(.int .i64 1), (.int .i64 0), (.int .i64 0), (.int .i64 1)] 44)) w1.heap.size 44 1 0 0 1 from heap_new)
  clear T R HF HM
  generalize w1.alloc (.cells #[(.int .i64 1), (.int .i64 0), (.int .i64 0), (.int .i64 1)] 44) = W at *
  generalize w1.heap.size = g at *
  have hwg : w.heap.size ≤ g := by omega
  have hn1 : w.heap.size ≠ g := by omega
  have hn2 : w.heap.size + 1 ≠ g := by omega
  go_loopw [5] (fun i wr => ∃ (D l : List Int) (a b p q : Int), i = (.int .i64 ((D.length : Int))) ∧ Hid (TIv L D l a b p q) ∧ Hid (Blk4 wr g 44 a p b q) ∧ Hid (Below w.heap.size w wr) ∧ Hid (Blk2 wr w.heap.size 25 P Q) ∧ Hid (Blk4 wr (w.heap.size + 1) 44 0 0 0 0) ∧ Hid (∃ B0, RowAt wr B0 A L.length (ints L))) (fun i _ => L.length - (intOf i).toNat)
  case atStart => exact ⟨[], L, 1, 0, 0, 1, rfl, HS, M2, T2, F2, Z2, Lib.hid ⟨_, R2.out⟩⟩
  case round =>
    clear HS T2 R2 F2 Z2 M2
    obtain ⟨D, l, a, b, p, q, rfl, HI, M, T, F, Z, R⟩ := hrel
    have hlen : L.length = D.length + l.length := by rw [HI.out.hL, List.length_append]
    cases l with
    | nil =>
      simp only [List.length_nil, Nat.add_zero] at hlen
      obtain ⟨rfl, rfl⟩ := HLA.out _ _ _ _ _ HI.out
      have hdet := HI.out.det
      have hqn : b ≠ 0 := hq
      obtain ⟨s0, s1⟩ := HI.out.slast (show 0 < b by omega)
      obtain ⟨⟨p0, p1⟩, ⟨q2, q3⟩⟩ := (⟨HI.out.ep, HI.out.eq⟩ : E9 p ∧ E9 q)
      obtain ⟨⟨c0, c1⟩, -, hlf⟩ := F.out.open_
      obtain ⟨⟨m0, m1, m2, m3⟩, -, hlm⟩ := M.out.open_
      obtain ⟨⟨z0, z1, z2, z3⟩, ⟨f0, f1, f2, f3⟩, hlz⟩ := Z.out.open_
      have haq := mul_bd (A := 1000000000) (B := 1000000000) P0 P1 q2 q3
      have hbp := mul_bd (A := 1000000000) (B := 1000000000) (show -1000000000 ≤ b by omega) (show b ≤ 1000000000 by omega) p0 p1
      obtain ⟨u0, u1⟩ := haq
      obtain ⟨v0, v1⟩ := hbp
      clear HI HLA
      rcases hdet with hdet | hdet
      · have hx1 : ¬ a * q - b * p < 0 := by omega
        go_wp2_with fail
        go_quiet (fail)
        have T' := Lib.hid (below_drewN T.out nq)
        have F' := Lib.hid (show Blk2 (wr.drewN nq) w.heap.size 25 a b from F.out)
        have M' := Lib.hid (show Blk4 (wr.drewN nq) g 44 a p b q from M.out)
        have Z' := Lib.hid (show Blk4 (wr.drewN nq) (w.heap.size + 1) 44 0 0 0 0 from Z.out)
        generalize wr.drewN nq = W3 at *
        clear T F M Z R c0 c1 hlf m0 m1 m2 m3 hlm z0 z1 z2 z3 f0 f1 f2 f3 hlz
        obtain ⟨⟨c0, c1⟩, -, hlf⟩ := F'.out.open_
        obtain ⟨⟨m0, m1, m2, m3⟩, -, hlm⟩ := M'.out.open_
        go_wp2_with fail
        refine (l01Inverse_any a (p) b (q) _ ⟨⟨by omega, by omega⟩, ⟨by omega, by omega⟩, ⟨by omega, by omega⟩, ⟨by omega, by omega⟩⟩).mono ?_; rintro e w4 ⟨rfl, hb4⟩
        have T4 := Lib.hid (bfin T'.out hb4)
        have Z4 := Lib.hid (show Bm w4 (w.heap.size + 1) 0 0 0 0 from heap_below Z'.out hb4)
        obtain ⟨⟨z0, z1, z2, z3⟩, ⟨f0, f1, f2, f3⟩, hlz⟩ := Z4.out.open_
        clear c0 c1 hlf m0 m1 m2 m3 hlm hb4
        go_wp2_with fail
        refine bodyPost_ret (v := (.agg #[.int .i64 q, .int .i64 (-(p)), .int .i64 (-b), .int .i64 a])) (by simp [results, Try.results44, go_sem, set4_0 Z4.out, set4_1 Z4.out, set4_2 Z4.out, set4_3 Z4.out] <;> rfl) rfl ?_
        exact ⟨⟨p, q, rfl, hdet, ⟨by omega, by omega⟩, fun h => absurd h hqn⟩, below_set4 T4.out (Nat.le_succ _)⟩
      · have hx1 : a * q - b * p < 0 := by omega
        go_wp2_with fail
        go_quiet (fail)
        have T' := Lib.hid (below_drewN T.out nq)
        have F' := Lib.hid (show Blk2 (wr.drewN nq) w.heap.size 25 a b from F.out)
        have M' := Lib.hid (show Blk4 (wr.drewN nq) g 44 a p b q from M.out)
        have Z' := Lib.hid (show Blk4 (wr.drewN nq) (w.heap.size + 1) 44 0 0 0 0 from Z.out)
        generalize wr.drewN nq = W3 at *
        clear T F M Z R c0 c1 hlf m0 m1 m2 m3 hlm z0 z1 z2 z3 f0 f1 f2 f3 hlz
        obtain ⟨⟨c0, c1⟩, -, hlf⟩ := F'.out.open_
        obtain ⟨⟨m0, m1, m2, m3⟩, -, hlm⟩ := M'.out.open_
        go_wp2_with fail
        refine (l01Inverse_any a (-p) b (-q) _ ⟨⟨by omega, by omega⟩, ⟨by omega, by omega⟩, ⟨by omega, by omega⟩, ⟨by omega, by omega⟩⟩).mono ?_; rintro e w4 ⟨rfl, hb4⟩
        have T4 := Lib.hid (bfin T'.out hb4)
        have Z4 := Lib.hid (show Bm w4 (w.heap.size + 1) 0 0 0 0 from heap_below Z'.out hb4)
        obtain ⟨⟨z0, z1, z2, z3⟩, ⟨f0, f1, f2, f3⟩, hlz⟩ := Z4.out.open_
        clear c0 c1 hlf m0 m1 m2 m3 hlm hb4
        go_wp2_with fail
        refine bodyPost_ret (v := (.agg #[.int .i64 (-q), .int .i64 (-(-p)), .int .i64 (-b), .int .i64 a])) (by simp [results, Try.results44, go_sem, set4_0 Z4.out, set4_1 Z4.out, set4_2 Z4.out, set4_3 Z4.out] <;> rfl) rfl ?_
        exact ⟨⟨-p, -q, rfl, by rw [Int.mul_neg, Int.mul_neg]; omega, ⟨by omega, by omega⟩, fun h => absurd h hqn⟩, below_set4 T4.out (Nat.le_succ _)⟩
    | cons n l =>
      simp only [List.length_cons] at hlen
      have hlt : D.length < L.length := by omega
      clear hlen
      obtain ⟨B0, hR⟩ := R.out
      obtain ⟨r, rfl, -, hrl, hrc, -⟩ := hR (by omega)
      have hc0 := hrc D.length _ (ints_at hlt)
      rw [show L.getD D.length 0 = n by rw [HI.out.hL]; simp [List.getD]] at hc0
      have HN := Lib.hid HI.out.next
      obtain ⟨⟨a0, a1⟩, ⟨b0, b1⟩, ⟨p0, p1⟩, ⟨q2, q3⟩⟩ := (⟨HI.out.ea, HI.out.eb, HI.out.ep, HI.out.eq⟩ : E9 a ∧ E9 b ∧ E9 p ∧ E9 q)
      obtain ⟨⟨x0, x1⟩, ⟨y0, y1⟩⟩ := cvBd (p := p) (q := q) (HI.out.he n (by simp)) HI.out.ea HI.out.eb
      obtain ⟨⟨m0, m1, m2, m3⟩, ⟨k0, k1, k2, k3⟩, hlm⟩ := M.out.open_
      clear hrc
      go_wp2_with fail
      refine wp_region_ext_tail 25 (by kernel_rfl) (by kernel_rfl) ?_
      simp only [List.take_succ_cons, List.take_zero, List.drop_succ_cons, List.drop_zero]
      repeat (go_big_quiet_step (fail))
      refine wpQuiet_nil ?_
      intro w2 hb2
      have hb3 := hb2
      clear m0 m1 m2 m3 k0 k1 k2 k3 hc0
      have M' := Lib.hid (show Blk4 w2 g 44 a p b q from heap_below M.out hb2)
      have F' := Lib.hid (show Blk2 w2 w.heap.size 25 P Q from heap_below F.out hb2)
      have Z' := Lib.hid (show Blk4 w2 (w.heap.size + 1) 44 0 0 0 0 from heap_below Z.out hb2)
      have T' := Lib.hid (bfin T.out hb2)
      have R' := Lib.hid (hR.below hb2)
      clear hb2 hb3 M F Z T R hR
      obtain ⟨⟨m0, m1, m2, m3⟩, ⟨k0, k1, k2, k3⟩, hlm⟩ := M'.out.open_
      go_wp2_with fail
      go_roundw
      case rel =>
        refine ⟨D ++ [n], l, n * a + p, n * b + q, a, b, by simp, HN, Lib.hid (heap_set4 M'.out), Lib.hid ((((T'.out.setCell (p := ⟨g, 0, none⟩) hwg _).setCell (p := ⟨g, 1, none⟩) hwg _).setCell (p := ⟨g, 2, none⟩) hwg _).setCell (p := ⟨g, 3, none⟩) hwg _), Lib.hid (heap_keep (heap_keep (heap_keep (heap_keep F'.out hn1) hn1) hn1) hn1), Lib.hid (heap_keep (heap_keep (heap_keep (heap_keep Z'.out hn2) hn2) hn2) hn2), Lib.hid ⟨B0, ?_⟩⟩
        exact R'.out.under HAU.out (((((Below.refl g w2).setCell (p := ⟨g, 0, none⟩) (Nat.le_refl _) _).setCell (p := ⟨g, 1, none⟩) (Nat.le_refl _) _).setCell (p := ⟨g, 2, none⟩) (Nat.le_refl _) _).setCell (p := ⟨g, 3, none⟩) (Nat.le_refl _) _)
      case measure => simp [intOf]; omega
end Go.Proofs.Ytjnkogkpdbgohaa
