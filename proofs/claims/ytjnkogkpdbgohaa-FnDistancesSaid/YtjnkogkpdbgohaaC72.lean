/- Contracts: continued fractions and their convergents. -/
import Derived.Test.YtjnkogkpdbgohaaC30
import Derived.Test.YtjnkogkpdbgohaaNa
import Derived.Test.YtjnkogkpdbgohaaR2
namespace Go.Proofs.Ytjnkogkpdbgohaa
open Go.RowKit
theorem elI2 : Elem Try.prog 30 2 (.int .i64 0) 1 8 := elem_of Try.underlying30 (by kernel_rfl) rfl (by omega) (by omega)
theorem elFr : Elem Try.prog 27 25 (.agg #[.int .i64 0, .int .i64 0]) 2 16 := elem_of Try.underlying27 (by kernel_rfl) rfl (by omega) (by omega)
set_option maxRecDepth 100000 in
set_option maxHeartbeats 1000000 in
theorem continued_any (P Q : Int) (w : World) (hP : E9 P) (h0 : 0 ≤ Q) (h1 : Q ≤ 1000000000) :
    Calls Try.prog 30 #[(.agg #[.int .i64 P, .int .i64 Q])] w fun e w' => ∃ v, e = .returned v ∧ w'.ownsRow w.heap.size 2 1 v (cfrac P Q).length (ints (cfrac P Q)) ∧ Below w.heap.size w w' := by
  have hlen := cfrac_len (p := P) h0 h1
  obtain ⟨P0, P1⟩ := hP
  go_enter Try.func30, Try.ntmps30
  go_wp2_with fail
  refine wp_region_ext (by kernel_rfl) (by kernel_rfl) ?_
  repeat (go_big_quiet_step (fail))
  refine wpQuiet_nil ?_
  intro w1 hb1
  obtain ⟨hc1, hf1⟩ := bcell hb1
  have HO0 := Lib.hid (own_below (World.ownsRow_lit (e := 2) (size := 1) (base := w.heap.size) (w.alloc (.cells #[(.int .i64 P), (.int .i64 Q)] 25)) #[] 0 (by simp) (by simp [maxLen]) rfl) hb1)
  have hB1 : Below w.heap.size w w1 := bfin (by go_grown) hb1
  go_wp2_with fail
  go_loopw [3, 4, 5] (fun v u1 u2 wr => ∃ (D : List Int) (x y : Int), u1 = (.int .i64 x) ∧ u2 = (.int .i64 y) ∧ -1000000000 ≤ x ∧ x ≤ 1000000000 ∧ 0 ≤ y ∧ y ≤ 1000000000 ∧ Hid (cfrac P Q = D ++ cfrac x y) ∧ Hid (wr.ownsRow w.heap.size 2 1 v D.length (ints D)) ∧ Below w.heap.size w wr) (fun _ _ u2 _ => (intOf u2).toNat)
  case atStart => exact ⟨[], P, Q, rfl, rfl, P0, P1, h0, h1, Lib.hid rfl, Lib.hid (by simpa [ints] using HO0.out), hB1⟩
  case round =>
    obtain ⟨D, x, y, rfl, rfl, x0, x1, y0, y1, HC, HO, hb⟩ := hrel
    have hsz := hb.size
    by_cases hy : y = 0
    · subst hy
      have HE := Lib.hid (show cfrac P Q = D by rw [HC.out, cfrac_zero, List.append_nil])
      go_wp2_with fail
      go_ret
      exact ⟨_, rfl, by rw [HE.out]; exact HO.out, hb⟩
    · have hy0 : 0 < y := by omega
      have HC2 := HC.out
      rw [cfrac_step hy0] at HC2
      have e0 := Int.mul_ediv_add_emod x y
      have e1 := Int.emod_nonneg x hy
      have e2 := Int.emod_lt_of_pos x hy0
      have hD : D.length ≤ 60 := by have := congrArg List.length HC2; simp at this; omega
      have HF := Lib.hid (fun W => floor_any x y W (by omega) (by omega) hy0 (by omega))
      rw [Int.mul_comm] at e0
      have HC3 := Lib.hid HC2
      clear HC2 HC
      generalize x / y = n at *
      generalize x % y = r at *
      have HR := Lib.hid (show x - n * y = r by omega)
      go_wp2_with fail
      refine (HF.out _).mono ?_; rintro e w' ⟨rfl, rfl⟩
      go_wp2_with (at_builtin; refine app_one elI2 rfl _ _ rfl rfl rfl (by simp) (HO.out) (hb) rfl (by intro u hu; simp at hu; first | (subst hu; rfl) | (rcases hu with rfl | rfl <;> rfl) | (rcases hu with rfl | rfl | rfl <;> rfl) | (rcases hu with rfl | rfl | rfl | rfl <;> rfl)) (hsz) (by omega) ?_; intro v' w3 hown3 hb3 hg3; have HO3 := Lib.hid hown3; clear hown3 hg3)
      go_roundw
      case rel => exact ⟨D ++ [n], y, r, rfl, by rw [HR.out], by omega, by omega, by omega, by omega, Lib.hid (by rw [HC3.out]; simp), Lib.hid (by simpa [ints] using HO3.out), hb3⟩
      case measure => simp [intOf]; omega
theorem own_store {w : World} {b o B z n : Nat} {E : TypeId} {v u : Value} {xs : List Value} (h : w.ownsRow B E z v n xs) (hne : ∀ k, v.ownBlock = some k → k ≠ b) : (w.setCell ⟨b, o, none⟩ u).ownsRow B E z v n xs := by
  refine h.kept (row := some b) grown_set ?_
  cases hv : v.ownBlock with
  | none => exact .inl rfl
  | some k => exact .inr fun e => hne k hv (by injection e)
theorem heap_app {wr w' : World} {v v' : Value} {b : Nat} {o : Obj} (h : wr.heap[b]? = some o) (ha : App wr w' v v') (hne : ∀ k, v.ownBlock = some k → k ≠ b) : w'.heap[b]? = some o := by
  rw [← h]; exact ha.grown.block b (lt_of_blk h) (fun e => hne b e.symm rfl)
/-- A row lies at B, or behind the two blocks after it. -/
structure Far3 (B : Nat) (v : Value) : Prop where
  out : ∀ k, v.ownBlock = some k → k = B ∨ B + 3 ≤ k
theorem Far3.app {B : Nat} {wr w' : World} {v v' : Value} (h : Far3 B v) (ha : App wr w' v v') (hs : B + 3 ≤ wr.heap.size) : Far3 B v' := ⟨fun k hk => by
  rcases ha.sit k hk with h1 | h1
  · exact h.out k h1
  · right; omega⟩
theorem Far3.ne1 {B : Nat} {v : Value} (h : Far3 B v) : ∀ k, v.ownBlock = some k → k ≠ B + 1 := fun k hk => by have := h.out k hk; omega
theorem Far3.ne2 {B : Nat} {v : Value} (h : Far3 B v) : ∀ k, v.ownBlock = some k → k ≠ B + 1 + 1 := fun k hk => by have := h.out k hk; omega
/-- What holds ahead of a round of the convergents. -/
structure ConvAt (L D l : List Int) (O : List P2) (a b p q : Int) : Prop where
  hL : L = D ++ l
  hC : convL L 1 0 0 1 = O ++ convL l a b p q
  hO : O.length = D.length
  ok : convOk l a b p q
  ea : E9 a
  eb : E9 b
  ep : E9 p
  eq : E9 q
theorem ConvAt.next {L D l : List Int} {O : List P2} {n a b p q : Int} (h : ConvAt L D (n :: l) O a b p q) : ConvAt L (D ++ [n]) l (O ++ [⟨n * a + p, n * b + q⟩]) (n * a + p) (n * b + q) a b := by
  obtain ⟨hL, hC, hO, ok, ea, eb, ep, eq⟩ := h
  obtain ⟨e1, e2, e3⟩ := ok
  exact ⟨by rw [hL]; simp, by rw [hC]; simp [convL], by simp [hO], e3, e1, e2, ea, eb⟩
set_option maxRecDepth 100000 in
set_option maxHeartbeats 1000000 in
theorem convergents_any (A : Option Addr) (cap B : Nat) (L : List Int) (w : World) (hat : RowAt w B A L.length (ints L)) (hl : L.length ≤ 60) (hok : convOk L 1 0 0 1) :
    Calls Try.prog 25 #[.slice A L.length cap] w fun e w' => ∃ v, e = .returned (.tuple #[v, (.int .i64 0)]) ∧ w'.ownsRow w.heap.size 25 2 v L.length (ints (flat2 (convL L 1 0 0 1))) ∧ Below w.heap.size w w' := by
  have HA := Lib.hid hat
  have HK := Lib.hid hok
  clear hat hok
  go_enter Try.func25, Try.ntmps25
  go_wp2_with fail
  go_loopw [4, 14] (fun v i wr => ∃ (D l : List Int) (O : List P2) (a b p q : Int), i = (.int .i64 ((D.length : Int))) ∧ Hid (ConvAt L D l O a b p q) ∧ Hid (wr.ownsRow w.heap.size 25 2 v D.length (ints (flat2 O))) ∧ Hid (Far3 w.heap.size v) ∧ Hid (Blk2 wr (w.heap.size + 1) 25 p q) ∧ Hid (Blk2 wr (w.heap.size + 1 + 1) 25 a b) ∧ Below w.heap.size w wr) (fun _ i _ => L.length - (intOf i).toNat)
  case atStart => exact ⟨[], L, [], 1, 0, 0, 1, rfl, Lib.hid ⟨rfl, rfl, rfl, HK.out, ⟨by omega, by omega⟩, ⟨by omega, by omega⟩, ⟨by omega, by omega⟩, ⟨by omega, by omega⟩⟩, Lib.hid (((World.ownsRow_lit w #[] 0 (Nat.le_refl _) (by simp [maxLen]) rfl).alloc _).alloc _), Lib.hid ⟨fun k hk => by simp [Value.ownBlock] at hk; omega⟩, Lib.hid (heap_alloc (heap_new' (by simp))), Lib.hid (heap_new' (by simp)), by go_grown⟩
  case round =>
    obtain ⟨D, l, O, a, b, p, q, rfl, HL, HO, HS, HX, HY, hb⟩ := hrel
    have hsz := hb.size
    have hlen : L.length = D.length + l.length := by rw [HL.out.hL, List.length_append]
    cases l with
    | nil =>
      simp only [List.length_nil, Nat.add_zero] at hlen
      have HE := Lib.hid (show convL L 1 0 0 1 = O by rw [HL.out.hC]; simp [convL])
      go_wp2_with fail
      go_ret2
      exact ⟨_, rfl, by rw [HE.out, hlen]; exact HO.out, hb⟩
    | cons n l =>
      simp only [List.length_cons] at hlen
      have hlt : D.length < L.length := by omega
      clear hlen
      obtain ⟨r, rfl, -, hrl, hrc, -⟩ := HA.out (by omega)
      have hc0 := hrc D.length _ (ints_at hlt)
      rw [show L.getD D.length 0 = n by rw [HL.out.hL]; simp [List.getD]] at hc0
      rw [← hb.cell (p := ⟨r, D.length, none⟩) hrl] at hc0
      have HN := Lib.hid HL.out.next
      obtain ⟨⟨a0, a1⟩, ⟨b0, b1⟩, ⟨p0, p1⟩, ⟨q0, q1⟩⟩ := (⟨HL.out.ea, HL.out.eb, HL.out.ep, HL.out.eq⟩ : E9 a ∧ E9 b ∧ E9 p ∧ E9 q)
      obtain ⟨⟨x0, x1⟩, ⟨y0, y1⟩⟩ := (⟨HN.out.ea, HN.out.eb⟩ : E9 (n * a + p) ∧ E9 (n * b + q))
      have HT := Lib.hid (show (entB (n * a + p) && entB (n * b + q)) = true by rw [Bool.and_eq_true, entB_iff, entB_iff]; omega)
      have HE := Lib.hid (fun b' cap' W h => areEntries_any b' 0 cap' 2 (fun i => if i = 0 then n * a + p else n * b + q) W (by omega) h)
      rw [allB2, HT.out] at HE
      obtain ⟨⟨u0, u1⟩, ⟨fu0, fu1⟩, lx⟩ := HX.out.open_
      obtain ⟨⟨v0, v1⟩, ⟨fv0, fv1⟩, ly⟩ := HY.out.open_
      go_wp2_with fail
      go_big_region
      go_wp2_with fail
      have hXW := Lib.hid (show Blk2 ((((wr.setCell ⟨w.heap.size + 1, 0, none⟩ (.int .i64 a)).setCell ⟨w.heap.size + 1, 1, none⟩ (.int .i64 b)).setCell ⟨w.heap.size + 1 + 1, 0, none⟩ (.int .i64 (n * a + p))).setCell ⟨w.heap.size + 1 + 1, 1, none⟩ (.int .i64 (n * b + q))).drew (w.heap.size + 1) 25 a b from heap_keep (heap_keep (by exact heap_set2 (by exact HX.out)) (by omega)) (by omega))
      have hYW := Lib.hid (show Blk2 ((((wr.setCell ⟨w.heap.size + 1, 0, none⟩ (.int .i64 a)).setCell ⟨w.heap.size + 1, 1, none⟩ (.int .i64 b)).setCell ⟨w.heap.size + 1 + 1, 0, none⟩ (.int .i64 (n * a + p))).setCell ⟨w.heap.size + 1 + 1, 1, none⟩ (.int .i64 (n * b + q))).drew (w.heap.size + 1 + 1) 25 (n * a + p) (n * b + q) from heap_set2 (by exact heap_keep (heap_keep (by exact HY.out) (by omega)) (by omega)))
      have hOW := Lib.hid (show ((((wr.setCell ⟨w.heap.size + 1, 0, none⟩ (.int .i64 a)).setCell ⟨w.heap.size + 1, 1, none⟩ (.int .i64 b)).setCell ⟨w.heap.size + 1 + 1, 0, none⟩ (.int .i64 (n * a + p))).setCell ⟨w.heap.size + 1 + 1, 1, none⟩ (.int .i64 (n * b + q))).drew.ownsRow w.heap.size 25 2 _ D.length (ints (flat2 O)) from own_store (own_store (own_store (own_store HO.out HS.out.ne1) HS.out.ne1) HS.out.ne2) HS.out.ne2)
      have hBW : Below w.heap.size w ((((wr.setCell ⟨w.heap.size + 1, 0, none⟩ (.int .i64 a)).setCell ⟨w.heap.size + 1, 1, none⟩ (.int .i64 b)).setCell ⟨w.heap.size + 1 + 1, 0, none⟩ (.int .i64 (n * a + p))).setCell ⟨w.heap.size + 1 + 1, 1, none⟩ (.int .i64 (n * b + q))).drew := by go_grown
      generalize ((((wr.setCell ⟨w.heap.size + 1, 0, none⟩ (.int .i64 a)).setCell ⟨w.heap.size + 1, 1, none⟩ (.int .i64 b)).setCell ⟨w.heap.size + 1 + 1, 0, none⟩ (.int .i64 (n * a + p))).setCell ⟨w.heap.size + 1 + 1, 1, none⟩ (.int .i64 (n * b + q))).drew = W0 at *
      obtain ⟨⟨m0, m1⟩, ⟨-, -⟩, lm⟩ := hYW.out.open_
      refine (HE.out _ _ _ (by intro i hi; rcases (show i = 0 ∨ i = 1 by omega) with rfl | rfl <;> simp [m0, m1])).mono ?_; rintro e w' ⟨rfl, rfl⟩
      have hsW := hBW.size
      go_wp2_with (at_builtin; refine app_one elFr rfl _ _ rfl rfl rfl (by simp) (hOW.out) (hBW) rfl (by intro u hu; simp at hu; first | (subst hu; rfl) | (rcases hu with rfl | rfl <;> rfl) | (rcases hu with rfl | rfl | rfl <;> rfl) | (rcases hu with rfl | rfl | rfl | rfl <;> rfl)) (hsW) (by omega) ?_; intro v' w4 hown4 hb4 hg4; have HO4 := Lib.hid hown4; clear hown4)
      have HS4 := Lib.hid (HS.out.app hg4 (by omega))
      have HX4 := Lib.hid (heap_app hXW.out hg4 HS.out.ne1)
      have HY4 := Lib.hid (heap_app hYW.out hg4 HS.out.ne2)
      clear hg4
      go_wp2_with fail
      go_roundw
      case rel => exact ⟨D ++ [n], l, O ++ [⟨n * a + p, n * b + q⟩], n * a + p, n * b + q, a, b, by simp, HN, Lib.hid (by rw [flat2_snoc]; simpa [ints] using HO4.out), HS4, Lib.hid (by exact HX4.out), Lib.hid (by exact HY4.out), hb4⟩
      case measure => simp [intOf]; omega
/-- append of a whole row. -/
theorem app_all {P : Program} {ops : Array Oper} {rest : List Oper} {o : Oper} {a : Act} {Q : Exit → Act → World → Prop} {w0 wr : World} {B n m b cap size bytes : Nat} {t e : TypeId} {z v : Value} {xs news : List Value}
    (hE : Elem P t e z size bytes) (hgd : o.guard = none) (s x : Operand) (ho : o.op = .call { callee := .builtin .append, args := #[s, x], argTypes := #[t, t] })
    (hs : a.eval s = v) (hx : a.eval x = .slice (some ⟨b, 0, none⟩) m cap) (hown : wr.ownsRow B e size v n xs) (hb : Below B w0 wr) (hl : news.length = m * size)
    (hc : ∀ j u, news[j]? = some u → wr.cell? ⟨b, j, none⟩ = some u) (h1 : ∀ u ∈ news, u.oneCell' = true) (hB : B ≤ wr.heap.size) (hn : n + m ≤ 1000000000)
    (h : ∀ v' w', w'.ownsRow B e size v' (n + m) (xs ++ news) → Below B w0 w' → App wr w' v v' → wpList P ops Q rest (a.put o.dst v') w') : wpList P ops Q (o :: rest) a wr := by
  obtain ⟨hu, ⟨i, hi, hz, hsz, hby⟩, hzc, hpos, hsm⟩ := hE
  have hmul : (n + m) * bytes ≤ (n + m) * 100 := Nat.mul_le_mul_left _ hsm
  refine wpList_append_own_at (P := P) _ hgd s x t ho B e i z size bytes hu hi hz hsz hby hzc hpos v n xs hs hown ⟨b, 0, none⟩ m cap news hx hl ?_ h1 (by unfold maxLen; omega) (by omega) hB ?_
  · intro j u hu
    have e : (⟨b, 0, none⟩ : Addr).add j = ⟨b, j, none⟩ := by unfold Addr.add; split <;> simp_all
    rw [e]
    exact hc j u hu
  · intro v' w' h2 h3 _ h5
    refine h v' w' h2 (hb.grown h3 hB (fun k hk => (hown.lt k hk).1)) ⟨h3, fun k hk => ?_⟩
    rcases h5 with h5 | h5
    · exact .inl (by rw [← h5]; exact hk)
    · rw [h5] at hk; injection hk with hk; subst hk; right; exact Nat.le_refl _
theorem own_base {w : World} {B B' z n : Nat} {E : TypeId} {v : Value} {xs : List Value} (h : w.ownsRow B E z v n xs) (hB : B' ≤ B) : w.ownsRow B' E z v n xs := by
  obtain ⟨h1, h2⟩ := h
  refine ⟨h1, ?_⟩
  rcases h2 with h2 | ⟨g, c, cur, he, hb, hr⟩
  · exact .inl h2
  · exact .inr ⟨g, c, cur, he, Nat.le_trans hB hb, hr⟩
end Go.Proofs.Ytjnkogkpdbgohaa
