/- Contracts: convergents of any list of numbers. -/
import Derived.Test.YtjnkogkpdbgohaaK2
namespace Go.Proofs.Ytjnkogkpdbgohaa
open Go.RowKit
def cvRes (L : List Int) : List P2 × Int := if cvB L 1 0 0 1 = true then (convL L 1 0 0 1, 0) else ([], 3)
theorem cvRes_len (L : List Int) : (cvRes L).1.length ≤ L.length := by
  unfold cvRes
  split
  · simp [convL_len]
  · simp
/-- What holds ahead of a round of the convergents of any list. -/
structure ConvG (L D l : List Int) (O : List P2) (a b p q : Int) : Prop where
  hL : L = D ++ l
  hC : convL L 1 0 0 1 = O ++ convL l a b p q
  hO : O.length = D.length
  ok : cvB L 1 0 0 1 = cvB l a b p q
  he : ∀ x ∈ l, E9 x
  ea : E9 a
  eb : E9 b
  ep : E9 p
  eq : E9 q
theorem ConvG.next {L D l : List Int} {O : List P2} {n a b p q : Int} (h : ConvG L D (n :: l) O a b p q) (ht : (entB (n * a + p) && entB (n * b + q)) = true) : ConvG L (D ++ [n]) l (O ++ [⟨n * a + p, n * b + q⟩]) (n * a + p) (n * b + q) a b := by
  obtain ⟨hL, hC, hO, ok, he, ea, eb, ep, eq⟩ := h
  have h2 := ht
  rw [Bool.and_eq_true] at h2
  refine ⟨by rw [hL]; simp, by rw [hC]; simp [convL], by simp [hO], ?_, fun x hx => he x (List.mem_cons_of_mem _ hx), e9_iff.1 h2.1, e9_iff.1 h2.2, ea, eb⟩
  rw [ok]
  show ((entB _ && entB _) && cvB l _ _ a b) = _
  rw [ht, Bool.true_and]
theorem ConvG.fail {L D l : List Int} {O : List P2} {n a b p q : Int} (h : ConvG L D (n :: l) O a b p q) (ht : (entB (n * a + p) && entB (n * b + q)) = false) : cvB L 1 0 0 1 = false := by
  rw [h.ok]
  show ((entB _ && entB _) && cvB l _ _ a b) = _
  rw [ht, Bool.false_and]
structure CvBd (n a b p q : Int) : Prop where
  x : -1000000000000000000 ≤ n * a ∧ n * a ≤ 1000000000000000000
  y : -1000000000000000000 ≤ n * b ∧ n * b ≤ 1000000000000000000
theorem cvBd {n a b p q : Int} (hn : E9 n) (ha : E9 a) (hb : E9 b) : CvBd n a b p q :=
  ⟨mul_bd (A := 1000000000) (B := 1000000000) hn.lo hn.hi ha.lo ha.hi, mul_bd (A := 1000000000) (B := 1000000000) hn.lo hn.hi hb.lo hb.hi⟩
set_option maxRecDepth 100000 in
set_option maxHeartbeats 2000000 in
theorem convergentsG_any (A : Option Addr) (cap B : Nat) (L : List Int) (w : World) (hat : RowAt w B A L.length (ints L)) (hl : L.length ≤ 60) (hE : ∀ x ∈ L, E9 x) :
    Calls Try.prog 25 #[.slice A L.length cap] w fun e w' => ∃ v, e = .returned (.tuple #[v, (.int .i64 ((cvRes L).2))]) ∧ w'.ownsRow w.heap.size 25 2 v (cvRes L).1.length (ints (flat2 (cvRes L).1)) ∧ Below w.heap.size w w' := by
  have HA := Lib.hid hat
  have HK := Lib.hid hE
  clear hat hE
  go_enter Try.func25, Try.ntmps25
  go_wp2_with fail
  go_loopw [4, 14] (fun v i wr => ∃ (D l : List Int) (O : List P2) (a b p q : Int), i = (.int .i64 ((D.length : Int))) ∧ Hid (ConvG L D l O a b p q) ∧ Hid (wr.ownsRow w.heap.size 25 2 v D.length (ints (flat2 O))) ∧ Hid (Far3 w.heap.size v) ∧ Hid (Blk2 wr (w.heap.size + 1) 25 p q) ∧ Hid (Blk2 wr (w.heap.size + 1 + 1) 25 a b) ∧ Below w.heap.size w wr) (fun _ i _ => L.length - (intOf i).toNat)
  case atStart => exact ⟨[], L, [], 1, 0, 0, 1, rfl, Lib.hid ⟨rfl, rfl, rfl, rfl, HK.out, ⟨by omega, by omega⟩, ⟨by omega, by omega⟩, ⟨by omega, by omega⟩, ⟨by omega, by omega⟩⟩, Lib.hid (((World.ownsRow_lit w #[] 0 (Nat.le_refl _) (by simp [maxLen]) rfl).alloc _).alloc _), Lib.hid ⟨fun k hk => by simp [Value.ownBlock] at hk; omega⟩, Lib.hid (heap_alloc (heap_new' (by simp))), Lib.hid (heap_new' (by simp)), by go_grown⟩
  case round =>
    obtain ⟨D, l, O, a, b, p, q, rfl, HL, HO, HS, HX, HY, hb⟩ := hrel
    have hsz := hb.size
    have hlen : L.length = D.length + l.length := by rw [HL.out.hL, List.length_append]
    cases l with
    | nil =>
      simp only [List.length_nil, Nat.add_zero] at hlen
      have HE := Lib.hid (show cvRes L = (O, 0) by unfold cvRes; rw [HL.out.ok, HL.out.hC]; simp [convL, cvB])
      have HN := HL.out.hO
      go_wp2_with fail
      go_ret2
      rw [HE.out]
      refine ⟨_, rfl, ?_, hb⟩
      show World.ownsRow _ _ _ _ _ O.length _
      rw [HN]; exact HO.out
    | cons n l =>
      simp only [List.length_cons] at hlen
      have hlt : D.length < L.length := by omega
      clear hlen
      obtain ⟨r, rfl, -, hrl, hrc, -⟩ := HA.out (by omega)
      have hc0 := hrc D.length _ (ints_at hlt)
      rw [show L.getD D.length 0 = n by rw [HL.out.hL]; simp [List.getD]] at hc0
      rw [← hb.cell (p := ⟨r, D.length, none⟩) hrl] at hc0
      obtain ⟨⟨a0, a1⟩, ⟨b0, b1⟩, ⟨p0, p1⟩, ⟨q0, q1⟩⟩ := (⟨HL.out.ea, HL.out.eb, HL.out.ep, HL.out.eq⟩ : E9 a ∧ E9 b ∧ E9 p ∧ E9 q)
      obtain ⟨⟨x0, x1⟩, ⟨y0, y1⟩⟩ := cvBd (p := p) (q := q) (HL.out.he n (by simp)) HL.out.ea HL.out.eb
      have HE := Lib.hid (fun b' cap' W h => areEntries_any b' 0 cap' 2 (fun i => if i = 0 then n * a + p else n * b + q) W (by omega) h)
      rw [allB2] at HE
      have HT := Lib.hid (show (entB (n * a + p) && entB (n * b + q)) = (entB (n * a + p) && entB (n * b + q)) from rfl)
      generalize hT : (entB (n * a + p) && entB (n * b + q)) = T at HE
      have HTT := Lib.hid hT
      clear hT HT
      obtain ⟨⟨u0, u1⟩, ⟨fu0, fu1⟩, lx⟩ := HX.out.open_
      obtain ⟨⟨v0, v1⟩, ⟨fv0, fv1⟩, ly⟩ := HY.out.open_
      go_wp2_with fail
      go_big_region
      go_wp2_with fail
      have hXW := Lib.hid (show Blk2 ((((wr.setCell ⟨w.heap.size + 1, 0, none⟩ (.int .i64 a)).setCell ⟨w.heap.size + 1, 1, none⟩ (.int .i64 b)).setCell ⟨w.heap.size + 1 + 1, 0, none⟩ (.int .i64 (n * a + p))).setCell ⟨w.heap.size + 1 + 1, 1, none⟩ (.int .i64 (n * b + q))).drew (w.heap.size + 1) 25 a b from heap_keep (heap_keep (by exact heap_set2 (by exact HX.out)) (by omega)) (by omega))
      have hYW := Lib.hid (show Blk2 ((((wr.setCell ⟨w.heap.size + 1, 0, none⟩ (.int .i64 a)).setCell ⟨w.heap.size + 1, 1, none⟩ (.int .i64 b)).setCell ⟨w.heap.size + 1 + 1, 0, none⟩ (.int .i64 (n * a + p))).setCell ⟨w.heap.size + 1 + 1, 1, none⟩ (.int .i64 (n * b + q))).drew (w.heap.size + 1 + 1) 25 (n * a + p) (n * b + q) from heap_set2 (by exact heap_keep (heap_keep (by exact HY.out) (by omega)) (by omega)))
      have hOW := Lib.hid (show ((((wr.setCell ⟨w.heap.size + 1, 0, none⟩ (.int .i64 a)).setCell ⟨w.heap.size + 1, 1, none⟩ (.int .i64 b)).setCell ⟨w.heap.size + 1 + 1, 0, none⟩ (.int .i64 (n * a + p))).setCell ⟨w.heap.size + 1 + 1, 1, none⟩ (.int .i64 (n * b + q))).drew.ownsRow w.heap.size 25 2 _ D.length (ints (flat2 O)) from own_store (own_store (own_store (own_store HO.out HS.out.ne1) HS.out.ne1) HS.out.ne2) HS.out.ne2)
      have hBW : Below w.heap.size w ((((wr.setCell ⟨w.heap.size + 1, 0, none⟩ (.int .i64 a)).setCell ⟨w.heap.size + 1, 1, none⟩ (.int .i64 b)).setCell ⟨w.heap.size + 1 + 1, 0, none⟩ (.int .i64 (n * a + p))).setCell ⟨w.heap.size + 1 + 1, 1, none⟩ (.int .i64 (n * b + q))).drew := by go_grown
      generalize ((((wr.setCell ⟨w.heap.size + 1, 0, none⟩ (.int .i64 a)).setCell ⟨w.heap.size + 1, 1, none⟩ (.int .i64 b)).setCell ⟨w.heap.size + 1 + 1, 0, none⟩ (.int .i64 (n * a + p))).setCell ⟨w.heap.size + 1 + 1, 1, none⟩ (.int .i64 (n * b + q))).drew = W0 at *
      obtain ⟨⟨m0, m1⟩, ⟨-, -⟩, lm⟩ := hYW.out.open_
      refine (HE.out _ _ _ (by intro i hi; rcases (show i = 0 ∨ i = 1 by omega) with rfl | rfl <;> simp [m0, m1])).mono ?_; rintro e w' ⟨rfl, rfl⟩
      have hsW := hBW.size
      cases T
      · have HE := Lib.hid (show cvRes L = ([], 3) by unfold cvRes; rw [HL.out.fail HTT.out]; simp)
        clear HTT
        go_wp2_with fail
        go_ret2
        rw [HE.out]
        exact ⟨_, rfl, World.ownsRow_nil _ _ _ _, hBW⟩
      have HN := Lib.hid (HL.out.next HTT.out)
      clear HTT
      go_wp2_with (at_builtin; refine app_one elFr rfl _ _ rfl rfl rfl (by simp) (hOW.out) (hBW) rfl (by intro u hu; simp at hu; first | (subst hu; rfl) | (rcases hu with rfl | rfl <;> rfl) | (rcases hu with rfl | rfl | rfl <;> rfl) | (rcases hu with rfl | rfl | rfl | rfl <;> rfl)) (hsW) (by omega) ?_; intro v' w4 hown4 hb4 hg4; have HO4 := Lib.hid hown4; clear hown4)
      have HS4 := Lib.hid (HS.out.app hg4 (by omega))
      have HX4 := Lib.hid (heap_app hXW.out hg4 HS.out.ne1)
      have HY4 := Lib.hid (heap_app hYW.out hg4 HS.out.ne2)
      clear hg4
      go_wp2_with fail
      go_roundw
      case rel => exact ⟨D ++ [n], l, O ++ [⟨n * a + p, n * b + q⟩], n * a + p, n * b + q, a, b, by simp, HN, Lib.hid (by rw [flat2_snoc]; simpa [ints] using HO4.out), HS4, Lib.hid (by exact HX4.out), Lib.hid (by exact HY4.out), hb4⟩
      case measure => simp [intOf]; omega
/-- A row lies at B, or behind the block after it. -/
structure Far2 (B : Nat) (v : Value) : Prop where
  out : ∀ k, v.ownBlock = some k → k = B ∨ B + 2 ≤ k
theorem Far2.app {B : Nat} {wr w' : World} {v v' : Value} (h : Far2 B v) (ha : App wr w' v v') (hs : B + 2 ≤ wr.heap.size) : Far2 B v' := ⟨fun k hk => by
  rcases ha.sit k hk with h1 | h1
  · exact h.out k h1
  · right; omega⟩
theorem Far2.ne1 {B : Nat} {v : Value} (h : Far2 B v) : ∀ k, v.ownBlock = some k → k ≠ B + 1 := fun k hk => by have := h.out k hk; omega
set_option maxRecDepth 100000 in
set_option maxHeartbeats 2000000 in
theorem l03ConvergentsG_any (A : Option Addr) (cap B : Nat) (L : List Int) (w : World) (hat : RowAt w B A L.length (ints L)) (hl : L.length ≤ 60) (hE : ∀ x ∈ L, E9 x) :
    Calls Try.prog 27 #[.slice A L.length cap] w fun e w' => ∃ v, e = .returned (.tuple #[v, .bool (cvB L 1 0 0 1)]) ∧ w'.ownsRow w.heap.size 25 2 v (cvRes L).1.length (ints (flat2 (cvRes L).1)) ∧ Below w.heap.size w w' := by
  have HA := Lib.hid hat
  have HK := Lib.hid hE
  clear hat hE
  go_enter Try.func27, Try.ntmps27
  go_wp2_with fail
  go_loopw [4, 6, 7, 8] (fun v i _ _ wr => ∃ (D l : List Int) (O : List P2) (a b p q : Int), i = (.int .i64 ((D.length : Int))) ∧ Hid (ConvG L D l O a b p q) ∧ Hid (wr.ownsRow w.heap.size 25 2 v D.length (ints (flat2 O))) ∧ Hid (Far2 w.heap.size v) ∧ Hid (Blk4 wr (w.heap.size + 1) 44 a p b q) ∧ Below w.heap.size w wr) (fun _ i _ _ _ => L.length - (intOf i).toNat)
  case atStart => exact ⟨[], L, [], 1, 0, 0, 1, rfl, Lib.hid ⟨rfl, rfl, rfl, rfl, HK.out, ⟨by omega, by omega⟩, ⟨by omega, by omega⟩, ⟨by omega, by omega⟩, ⟨by omega, by omega⟩⟩, Lib.hid ((World.ownsRow_lit w #[] 0 (Nat.le_refl _) (by simp [maxLen]) rfl).alloc _), Lib.hid ⟨fun k hk => by simp [Value.ownBlock] at hk; omega⟩, Lib.hid (heap_new' (by simp)), by go_grown⟩
  case round =>
    obtain ⟨D, l, O, a, b, p, q, rfl, HL, HO, HS, HX, hb⟩ := hrel
    have hsz := hb.size
    have hlen : L.length = D.length + l.length := by rw [HL.out.hL, List.length_append]
    cases l with
    | nil =>
      simp only [List.length_nil, Nat.add_zero] at hlen
      have HE := Lib.hid (show cvRes L = (O, 0) ∧ cvB L 1 0 0 1 = true by unfold cvRes; rw [HL.out.ok, HL.out.hC]; simp [convL, cvB])
      have HN := HL.out.hO
      go_wp2_with fail
      go_ret2
      rw [HE.out.1, HE.out.2]
      refine ⟨_, rfl, ?_, hb⟩
      show World.ownsRow _ _ _ _ _ O.length _
      rw [HN]; exact HO.out
    | cons n l =>
      simp only [List.length_cons] at hlen
      have hlt : D.length < L.length := by omega
      clear hlen
      obtain ⟨r, rfl, -, hrl, hrc, -⟩ := HA.out (by omega)
      have hc0 := hrc D.length _ (ints_at hlt)
      rw [show L.getD D.length 0 = n by rw [HL.out.hL]; simp [List.getD]] at hc0
      rw [← hb.cell (p := ⟨r, D.length, none⟩) hrl] at hc0
      obtain ⟨⟨a0, a1⟩, ⟨b0, b1⟩, ⟨p0, p1⟩, ⟨q0, q1⟩⟩ := (⟨HL.out.ea, HL.out.eb, HL.out.ep, HL.out.eq⟩ : E9 a ∧ E9 b ∧ E9 p ∧ E9 q)
      obtain ⟨⟨x0, x1⟩, ⟨y0, y1⟩⟩ := cvBd (p := p) (q := q) (HL.out.he n (by simp)) HL.out.ea HL.out.eb
      have H1 := Lib.hid (fun W => l01Entry_any (n * a + p) W)
      have H2 := Lib.hid (fun W => l01Entry_any (n * b + q) W)
      obtain ⟨⟨u0, u1, u2, u3⟩, ⟨fu0, fu1, fu2, fu3⟩, lx⟩ := HX.out.open_
      cases hT1 : entB (n * a + p)
      · have HE := Lib.hid (HL.out.fail (show (entB (n * a + p) && entB (n * b + q)) = false by rw [hT1]; rfl))
        rw [hT1] at H1
        clear hT1 H2
        go_wp2_with fail
        go_quiet (fail)
        go_wp2_with fail
        refine (H1.out _).mono ?_; rintro e w' ⟨rfl, rfl⟩
        go_wp2_with fail
        go_ret2
        rw [HE.out, show cvRes L = ([], 3) by unfold cvRes; rw [HE.out]; simp]
        exact ⟨_, rfl, World.ownsRow_nil _ _ _ _, below_drewN hb _⟩
      cases hT2 : entB (n * b + q)
      · have HE := Lib.hid (HL.out.fail (show (entB (n * a + p) && entB (n * b + q)) = false by rw [hT2, Bool.and_false]))
        rw [hT1] at H1
        rw [hT2] at H2
        clear hT1 hT2
        go_wp2_with fail
        go_quiet (fail)
        go_wp2_with fail
        refine (H1.out _).mono ?_; rintro e w' ⟨rfl, rfl⟩
        go_wp2_with fail
        refine (H2.out _).mono ?_; rintro e w' ⟨rfl, rfl⟩
        go_wp2_with fail
        go_ret2
        rw [HE.out, show cvRes L = ([], 3) by unfold cvRes; rw [HE.out]; simp]
        exact ⟨_, rfl, World.ownsRow_nil _ _ _ _, below_drewN hb _⟩
      have HN := Lib.hid (HL.out.next (by rw [hT1, hT2]; rfl))
      rw [hT1] at H1
      rw [hT2] at H2
      clear hT1 hT2
      go_wp2_with fail
      go_quiet (fail)
      have hbd := below_drewN hb nq
      have HXd := Lib.hid (show Blk4 (wr.drewN nq) (w.heap.size + 1) 44 a p b q from heap_drewN HX.out)
      have HOd := Lib.hid (show (wr.drewN nq).ownsRow w.heap.size 25 2 _ D.length (ints (flat2 O)) from own_below HO.out (below_drewN (Below.refl _ _) nq))
      generalize wr.drewN nq = W1 at *
      have hsd := hbd.size
      clear HX HO hb u0 u1 u2 u3 fu0 fu1 fu2 fu3 lx hc0
      go_wp2_with fail
      refine (H1.out _).mono ?_; rintro e w' ⟨rfl, rfl⟩
      obtain ⟨⟨u0, u1, u2, u3⟩, ⟨fu0, fu1, fu2, fu3⟩, lx⟩ := HXd.out.open_
      have hXW := Lib.hid (show Blk4 ((((W1.setCell ⟨w.heap.size + 1, 0, none⟩ (.int .i64 (n * a + p))).setCell ⟨w.heap.size + 1, 1, none⟩ (.int .i64 a)).setCell ⟨w.heap.size + 1, 2, none⟩ (.int .i64 (n * b + q))).setCell ⟨w.heap.size + 1, 3, none⟩ (.int .i64 b)) (w.heap.size + 1) 44 (n * a + p) a (n * b + q) b from heap_set4 HXd.out)
      have hOW := Lib.hid (show ((((W1.setCell ⟨w.heap.size + 1, 0, none⟩ (.int .i64 (n * a + p))).setCell ⟨w.heap.size + 1, 1, none⟩ (.int .i64 a)).setCell ⟨w.heap.size + 1, 2, none⟩ (.int .i64 (n * b + q))).setCell ⟨w.heap.size + 1, 3, none⟩ (.int .i64 b)).ownsRow w.heap.size 25 2 _ D.length (ints (flat2 O)) from own_store (own_store (own_store (own_store HOd.out HS.out.ne1) HS.out.ne1) HS.out.ne1) HS.out.ne1)
      have hBW : Below w.heap.size w ((((W1.setCell ⟨w.heap.size + 1, 0, none⟩ (.int .i64 (n * a + p))).setCell ⟨w.heap.size + 1, 1, none⟩ (.int .i64 a)).setCell ⟨w.heap.size + 1, 2, none⟩ (.int .i64 (n * b + q))).setCell ⟨w.heap.size + 1, 3, none⟩ (.int .i64 b)) := by go_grown
      go_wp2_with fail
      refine (H2.out _).mono ?_; rintro e w' ⟨rfl, rfl⟩
      have hsW := hBW.size
      go_wp2_with (at_builtin; refine app_one elFr rfl _ _ rfl rfl rfl (by simp) (hOW.out) (hBW) rfl (by intro u hu; simp at hu; first | (subst hu; rfl) | (rcases hu with rfl | rfl <;> rfl) | (rcases hu with rfl | rfl | rfl <;> rfl) | (rcases hu with rfl | rfl | rfl | rfl <;> rfl)) (hsW) (by omega) ?_; intro v' w4 hown4 hb4 hg4; have HO4 := Lib.hid hown4; clear hown4)
      have HS4 := Lib.hid (HS.out.app hg4 (by simp; omega))
      have HX4 := Lib.hid (heap_app hXW.out hg4 HS.out.ne1)
      clear hg4
      go_wp2_with fail
      go_roundw
      case rel => exact ⟨D ++ [n], l, O ++ [⟨n * a + p, n * b + q⟩], n * a + p, n * b + q, a, b, by simp, HN, Lib.hid (by rw [flat2_snoc]; simpa [ints] using HO4.out), HS4, Lib.hid (by exact HX4.out), hb4⟩
      case measure => simp [intOf]; omega
end Go.Proofs.Ytjnkogkpdbgohaa
