/- Words for rows of letters; append as one step of a region that draws its order; the less one of two fractions. -/
import Derived.Test.YtjnkogkpdbgohaaGreatDoorM7
import Derived.Test.YtjnkogkpdbgohaaGreatDoorRow3
import Derived.Test.YtjnkogkpdbgohaaGreatDoorNa
import Derived.Laws.BytesArg
import Derived.Test.YtjnkogkpdbgohaaGreatDoorM5
import Derived.Deep.RegionLaw
namespace Go.Proofs.YtjnkogkpdbgohaaGreatDoor
open Go.RowKit
/-- append of one element of one cell, that lies in another block, as one step of a region that draws. -/
theorem step_app_cell {P : Program} {ops : Array Oper} {o : Oper} {a : Act} {K : Act → World → Prop} {Q : Exit → Act → World → Prop} {E : Prop} {w0 wr : World} {B n bytes g : Nat} {t e : TypeId} {z v u : Value} {xs : List Value}
    (hE : Elem P t e z 1 bytes) (hgd : o.guard = none) (s x : Operand) (ho : o.op = .call { callee := .builtin .append, args := #[s, x], argTypes := #[t, t] })
    (hs : a.eval s = v) (hx : a.eval x = .slice (some ⟨g, 0, none⟩) 1 1) (hc : wr.cell? ⟨g, 0, none⟩ = some u) (hown : wr.ownsRow B e 1 v n xs) (hb : Below B w0 wr) (h1 : u.oneCell' = true) (hB : B ≤ wr.heap.size) (hn : n ≤ 1000000000)
    (h : ∀ v' w', w'.ownsRow B e 1 v' (n + 1) (xs ++ [u]) → Below B w0 w' → App wr w' v v' → K (a.put o.dst v') w') :
    if Region.wanted o (yielded ops a.tmps) = true then Oper.wp P o a wr K Q else E := by
  have hw : Region.wanted o (yielded ops a.tmps) = true := by simp [Region.wanted, hgd]
  rw [if_pos hw]
  obtain ⟨hu, ⟨i, hi, hz, hsz, hby⟩, hzc, hpos, hsm⟩ := hE
  have hmul : (n + 1) * bytes ≤ (n + 1) * 100 := Nat.mul_le_mul_left _ hsm
  have hnews : ∀ j u', [u][j]? = some u' → wr.cell? ((⟨g, 0, none⟩ : Addr).add j) = some u' := by
    intro j u' hu'
    have e : (⟨g, 0, none⟩ : Addr).add j = ⟨g, j, none⟩ := by unfold Addr.add; split <;> simp_all
    rw [e]
    match j, hu' with
    | 0, hu' => simp at hu'; subst hu'; exact hc
  obtain ⟨v', w', hr, h2, h3, h4, h5⟩ := run_append_own_at (P := P) wr B t o.type e i z 1 bytes hu hi hz hsz hby hzc hpos v n xs hown ⟨g, 0, none⟩ 1 1 [u] rfl hnews (by intro u' hu'; simp at hu'; subst hu'; exact h1) (by unfold maxLen; omega) (by omega) hB
  unfold Oper.wp execOp
  simp only [ho, resolve, invoke, builtin, Sem.run_bind, Sem.run_pure, Result.andThen_ok, List.map_toArray, List.map_cons, List.map_nil, hs, hx, hr]
  refine h v' w' h2 (hb.grown h3 hB (fun k hk => (hown.lt k hk).1)) ⟨h3, fun k hk => ?_⟩
  rcases h5 with h5 | h5
  · exact .inl (by rw [← h5]; exact hk)
  · rw [h5] at hk; injection hk with hk; subst hk; right; exact Nat.le_refl _
theorem elBy : Elem Tryz.prog 22 5 (.int .u8 0) 1 1 := elem_of Tryz.underlying22 (by kernel_rfl) rfl (by omega) (by omega)
/-- The letters of a path: L and R. -/
def lrI (b : Bool) : Int := if b then 76 else 82
def lrV (l : List Bool) : List Value := l.map fun b => .int .u8 (lrI b)
theorem lrV_len (l : List Bool) : (lrV l).length = l.length := by simp [lrV]
theorem lrV_snoc (l : List Bool) (b : Bool) : lrV (l ++ [b]) = lrV l ++ [.int .u8 (lrI b)] := by simp [lrV]
theorem l01Less_pos (a b c d : Int) (w : World) (hb : 0 < b) (hd : 0 < d) (h1 : -1000000000000000000 ≤ a * d ∧ a * d ≤ 1000000000000000000) (h2 : -1000000000000000000 ≤ c * b ∧ c * b ≤ 1000000000000000000) :
    Calls Tryz.prog 71 #[(.agg #[.int .i64 a, .int .i64 b]), (.agg #[.int .i64 c, .int .i64 d])] w fun e w' => e = .returned (.bool (decide (a * d < c * b))) ∧ Below w.heap.size w w' := by
  generalize hX : a * d = X at *
  generalize hY : c * b = Y at *
  have hX2 := Lib.hid hX
  have hY2 := Lib.hid hY
  obtain ⟨x0, x1⟩ := h1
  obtain ⟨y0, y1⟩ := h2
  have hb' : (b == 0) = false := by simp; omega
  have hd' : (d == 0) = false := by simp; omega
  go_enter Tryz.func71, Tryz.ntmps71
  go_wp2_with fail
  go_ret
  exact ⟨rfl, by go_grown⟩
/-- A path as a string. -/
def lrS (l : List Bool) : Value := .string (strOfNums (l.map lrI))
set_option maxRecDepth 100000 in
theorem conv_own {B : Nat} {v : Value} {n : Nat} {l : List Bool} {w : World} (h : w.ownsRow B 5 1 v n (lrV l)) :
    (convert 22 9 v).run Tryz.prog w = .ok (lrS l) w := by
  obtain ⟨A, cap, rfl, -, -, hat⟩ := own_view h
  have hn : l.length = n := by have := h.1; simpa [lrV_len] using this
  rcases Nat.eq_zero_or_pos n with h0 | h0
  · subst h0
    rcases h.2 with ⟨he, -⟩ | ⟨g, c, cur, he, -⟩
    · injection he with e1 e2 e3
      subst e1
      have e := List.eq_nil_of_length_eq_zero hn
      subst e
      exact run_convert_bytes_nil (P := Tryz.prog) w 22 5 Tryz.underlying22 Tryz.underlying5 _ _ 9 Tryz.underlying9
    · injection he with e1 e2 e3
      subst e1
      exact run_convert_bytes_arg (P := Tryz.prog) w 22 5 Tryz.underlying22 Tryz.underlying5 g 0 0 cap (l.map lrI) (by simpa using hn) (fun i hi => by omega) 9 Tryz.underlying9
  · obtain ⟨b, rfl, -, -, hc, -⟩ := hat h0
    refine run_convert_bytes_arg (P := Tryz.prog) w 22 5 Tryz.underlying22 Tryz.underlying5 b 0 n cap (l.map lrI) (by simpa using hn) (fun i hi => ?_) 9 Tryz.underlying9
    rw [Nat.zero_add]
    refine hc i _ ?_
    have hi' : i < l.length := by omega
    simp [lrV, List.getD, List.getElem?_eq_getElem hi']
/-- What memory holds on the way down: the fraction, the results, both parents, the letters so far. -/
structure DS (w wr : World) (P Q : Int) (u : Q4) (v : Value) (D : List Bool) : Prop where
  f : Blk2 wr w.heap.size 34 P Q
  z1 : Blk2 wr (w.heap.size + 1) 34 0 0
  z2 : Blk2 wr (w.heap.size + 1 + 1) 34 0 0
  l : Blk2 wr (w.heap.size + 1 + 1 + 1 + 1) 34 u.a u.b
  r : Blk2 wr (w.heap.size + 1 + 1 + 1 + 1 + 1) 34 u.c u.d
  o : wr.ownsRow w.heap.size 5 1 v D.length (lrV D)
  far : ∀ k, v.ownBlock = some k → k = w.heap.size + 3 ∨ w.heap.size + 6 ≤ k
  t : Below w.heap.size w wr
  sz : w.heap.size + 6 ≤ wr.heap.size
section
variable {w wr w2 : World} {P Q : Int} {u : Q4} {v v' : Value} {D : List Bool}
theorem DS.below (h : DS w wr P Q u v D) (hb : Below wr.heap.size wr w2) : DS w w2 P Q u v D :=
  ⟨heap_below h.f hb, heap_below h.z1 hb, heap_below h.z2 hb, heap_below h.l hb, heap_below h.r hb, own_below h.o hb, h.far, bfin h.t hb, Nat.le_trans h.sz hb.size⟩
theorem DS.alloc (h : DS w wr P Q u v D) (o : Obj) : DS w (wr.alloc o) P Q u v D := h.below ((Below.refl _ _).alloc (Nat.le_refl _) o)
theorem DS.drew (h : DS w wr P Q u v D) : DS w wr.drew P Q u v D := h.below (Below.refl _ _).drew
theorem DS.ne (h : DS w wr P Q u v D) {b : Nat} (h1 : b < w.heap.size + 6) (h2 : b ≠ w.heap.size + 3) : ∀ k, v.ownBlock = some k → k ≠ b := fun k hk => by have := h.far k hk; omega
theorem DS.setR (h : DS w wr P Q u v D) (x y : Int) : DS w ((wr.setCell ⟨w.heap.size + 1 + 1 + 1 + 1 + 1, 0, none⟩ (.int .i64 x)).setCell ⟨w.heap.size + 1 + 1 + 1 + 1 + 1, 1, none⟩ (.int .i64 y)) P Q ⟨u.a, u.b, x, y⟩ v D := by
  have hn := h.ne (b := w.heap.size + 1 + 1 + 1 + 1 + 1) (by omega) (by omega)
  refine ⟨heap_keep (heap_keep h.f (by omega)) (by omega), heap_keep (heap_keep h.z1 (by omega)) (by omega), heap_keep (heap_keep h.z2 (by omega)) (by omega), heap_keep (heap_keep h.l (by omega)) (by omega), heap_set2 h.r, own_store (own_store h.o hn) hn, h.far, (h.t.setCell (p := ⟨w.heap.size + 1 + 1 + 1 + 1 + 1, 0, none⟩) (by show _ ≤ w.heap.size + 1 + 1 + 1 + 1 + 1; omega) _).setCell (p := ⟨w.heap.size + 1 + 1 + 1 + 1 + 1, 1, none⟩) (by show _ ≤ w.heap.size + 1 + 1 + 1 + 1 + 1; omega) _, ?_⟩
  have := h.sz
  simpa [World.setCell] using this
theorem DS.setL (h : DS w wr P Q u v D) (x y : Int) : DS w ((wr.setCell ⟨w.heap.size + 1 + 1 + 1 + 1, 0, none⟩ (.int .i64 x)).setCell ⟨w.heap.size + 1 + 1 + 1 + 1, 1, none⟩ (.int .i64 y)) P Q ⟨x, y, u.c, u.d⟩ v D := by
  have hn := h.ne (b := w.heap.size + 1 + 1 + 1 + 1) (by omega) (by omega)
  refine ⟨heap_keep (heap_keep h.f (by omega)) (by omega), heap_keep (heap_keep h.z1 (by omega)) (by omega), heap_keep (heap_keep h.z2 (by omega)) (by omega), heap_set2 h.l, heap_keep (heap_keep h.r (by omega)) (by omega), own_store (own_store h.o hn) hn, h.far, (h.t.setCell (p := ⟨w.heap.size + 1 + 1 + 1 + 1, 0, none⟩) (by show _ ≤ w.heap.size + 1 + 1 + 1 + 1; omega) _).setCell (p := ⟨w.heap.size + 1 + 1 + 1 + 1, 1, none⟩) (by show _ ≤ w.heap.size + 1 + 1 + 1 + 1; omega) _, ?_⟩
  have := h.sz
  simpa [World.setCell] using this
theorem DS.app (h : DS w wr P Q u v D) (b : Bool) (ho : w2.ownsRow w.heap.size 5 1 v' (D.length + 1) (lrV D ++ [.int .u8 (lrI b)])) (ha : App wr w2 v v') (hb : Below w.heap.size w w2) : DS w w2 P Q u v' (D ++ [b]) := by
  refine ⟨heap_app h.f ha (h.ne (by omega) (by omega)), heap_app h.z1 ha (h.ne (by omega) (by omega)), heap_app h.z2 ha (h.ne (by omega) (by omega)), heap_app h.l ha (h.ne (by omega) (by omega)), heap_app h.r ha (h.ne (by omega) (by omega)), by rw [lrV_snoc]; simpa using ho, fun k hk => ?_, hb, Nat.le_trans h.sz ha.grown.size⟩
  rcases ha.sit k hk with h1 | h1
  · exact h.far k h1
  · have := h.sz; omega
structure DSc (w wr : World) (P Q : Int) (u : Q4) : Prop where
  f0 : wr.cell? ⟨w.heap.size, 0, none⟩ = some (.int .i64 P)
  f1 : wr.cell? ⟨w.heap.size, 1, none⟩ = some (.int .i64 Q)
  l0 : wr.cell? ⟨w.heap.size + 1 + 1 + 1 + 1, 0, none⟩ = some (.int .i64 u.a)
  l1 : wr.cell? ⟨w.heap.size + 1 + 1 + 1 + 1, 1, none⟩ = some (.int .i64 u.b)
  r0 : wr.cell? ⟨w.heap.size + 1 + 1 + 1 + 1 + 1, 0, none⟩ = some (.int .i64 u.c)
  r1 : wr.cell? ⟨w.heap.size + 1 + 1 + 1 + 1 + 1, 1, none⟩ = some (.int .i64 u.d)
  g0 : wr.frozen? ⟨w.heap.size + 1 + 1 + 1 + 1, 0, none⟩ = false
  g1 : wr.frozen? ⟨w.heap.size + 1 + 1 + 1 + 1, 1, none⟩ = false
  k0 : wr.frozen? ⟨w.heap.size + 1 + 1 + 1 + 1 + 1, 0, none⟩ = false
  k1 : wr.frozen? ⟨w.heap.size + 1 + 1 + 1 + 1 + 1, 1, none⟩ = false
  s0 : w.heap.size < wr.heap.size
  s1 : w.heap.size + 1 + 1 + 1 + 1 < wr.heap.size
  s2 : w.heap.size + 1 + 1 + 1 + 1 + 1 < wr.heap.size
theorem DS.cells (h : DS w wr P Q u v D) : DSc w wr P Q u :=
  ⟨cell_of_blk h.f 0, cell_of_blk h.f 1, cell_of_blk h.l 0, cell_of_blk h.l 1, cell_of_blk h.r 0, cell_of_blk h.r 1, frozen_of_blk h.l 0, frozen_of_blk h.l 1, frozen_of_blk h.r 0, frozen_of_blk h.r 1, lt_of_blk h.f, lt_of_blk h.l, lt_of_blk h.r⟩
structure DSz (w wr : World) : Prop where
  c0 : wr.cell? ⟨w.heap.size + 1, 0, none⟩ = some (.int .i64 0)
  c1 : wr.cell? ⟨w.heap.size + 1, 1, none⟩ = some (.int .i64 0)
  d0 : wr.cell? ⟨w.heap.size + 1 + 1, 0, none⟩ = some (.int .i64 0)
  d1 : wr.cell? ⟨w.heap.size + 1 + 1, 1, none⟩ = some (.int .i64 0)
  g0 : wr.frozen? ⟨w.heap.size + 1, 0, none⟩ = false
  g1 : wr.frozen? ⟨w.heap.size + 1, 1, none⟩ = false
  k0 : wr.frozen? ⟨w.heap.size + 1 + 1, 0, none⟩ = false
  k1 : wr.frozen? ⟨w.heap.size + 1 + 1, 1, none⟩ = false
  s0 : w.heap.size + 1 < wr.heap.size
  s1 : w.heap.size + 1 + 1 < wr.heap.size
theorem DS.zeros (h : DS w wr P Q u v D) : DSz w wr :=
  ⟨cell_of_blk h.z1 0, cell_of_blk h.z1 1, cell_of_blk h.z2 0, cell_of_blk h.z2 1, frozen_of_blk h.z1 0, frozen_of_blk h.z1 1, frozen_of_blk h.z2 0, frozen_of_blk h.z2 1, lt_of_blk h.z1, lt_of_blk h.z2⟩
structure DSf (w W : World) (x y x' y' : Int) (v : Value) (D : List Bool) : Prop where
  b1 : Blk2 W (w.heap.size + 1) 34 x y
  b2 : Blk2 W (w.heap.size + 1 + 1) 34 x' y'
  o : W.ownsRow w.heap.size 5 1 v D.length (lrV D)
  t : Below w.heap.size w W
theorem DS.fin (h : DS w wr P Q u v D) (x y x' y' : Int) : DSf w ((((wr.setCell ⟨w.heap.size + 1, 0, none⟩ (.int .i64 x)).setCell ⟨w.heap.size + 1, 1, none⟩ (.int .i64 y)).setCell ⟨w.heap.size + 1 + 1, 0, none⟩ (.int .i64 x')).setCell ⟨w.heap.size + 1 + 1, 1, none⟩ (.int .i64 y')).drew x y x' y' v D := by
  have h1 := h.ne (b := w.heap.size + 1) (by omega) (by omega)
  have h2 := h.ne (b := w.heap.size + 1 + 1) (by omega) (by omega)
  refine ⟨heap_keep (heap_keep (by exact heap_set2 (by exact h.z1)) (by omega)) (by omega), heap_set2 (by exact heap_keep (heap_keep (by exact h.z2) (by omega)) (by omega)), own_store (own_store (own_store (own_store h.o h1) h1) h2) h2, ?_⟩
  exact ((((h.t.setCell (p := ⟨w.heap.size + 1, 0, none⟩) (by show _ ≤ w.heap.size + 1; omega) _).setCell (p := ⟨w.heap.size + 1, 1, none⟩) (by show _ ≤ w.heap.size + 1; omega) _).setCell (p := ⟨w.heap.size + 1 + 1, 0, none⟩) (by show _ ≤ w.heap.size + 1 + 1; omega) _).setCell (p := ⟨w.heap.size + 1 + 1, 1, none⟩) (by show _ ≤ w.heap.size + 1 + 1; omega) _).drew
end
theorem DS.start (P Q : Int) (w : World) : DS w ((((((w.alloc (.cells #[(.int .i64 P), (.int .i64 Q)] 34)).alloc (.cells #[(.int .i64 0), (.int .i64 0)] 34)).alloc (.cells #[(.int .i64 0), (.int .i64 0)] 34)).alloc (.cells #[] 5)).alloc (.cells #[(.int .i64 0), (.int .i64 1)] 34)).alloc (.cells #[(.int .i64 1), (.int .i64 0)] 34)) P Q ⟨0, 1, 1, 0⟩ (.slice (some ⟨w.heap.size + 1 + 1 + 1, 0, none⟩) 0 0) [] := by
  refine ⟨heap_alloc (heap_alloc (heap_alloc (heap_alloc (heap_alloc heap_new)))), heap_alloc (heap_alloc (heap_alloc (heap_alloc (heap_new' (by simp))))), heap_alloc (heap_alloc (heap_alloc (heap_new' (by simp)))), heap_alloc (heap_new' (by simp)), heap_new' (by simp), ?_, fun k hk => ?_, by go_grown, by simp⟩
  · have := ((World.ownsRow_lit (((w.alloc (.cells #[(.int .i64 P), (.int .i64 Q)] 34)).alloc (.cells #[(.int .i64 0), (.int .i64 0)] 34)).alloc (.cells #[(.int .i64 0), (.int .i64 0)] 34)) (base := w.heap.size) (e := 5) (size := 1) #[] 0 (by simp; omega) (by simp [maxLen]) rfl).alloc (.cells #[(.int .i64 0), (.int .i64 1)] 34)).alloc (.cells #[(.int .i64 1), (.int .i64 0)] 34)
    simpa [lrV] using this
  · simp [Value.ownBlock] at hk; omega
end Go.Proofs.YtjnkogkpdbgohaaGreatDoor
/- Contracts: the way down the tree, by the model. -/
namespace Go.Proofs.YtjnkogkpdbgohaaGreatDoor
open Go.RowKit
attribute [local go_sem] eqFracM
/-- What a round down the tree needs of its numbers. -/
structure TrB (P Q : Int) (u : Q4) : Prop where
  a : 0 ≤ u.a ∧ u.a ≤ 10000
  b : 0 ≤ u.b ∧ u.b ≤ 10000
  c : 0 ≤ u.c ∧ u.c ≤ 10000
  d : 0 ≤ u.d ∧ u.d ≤ 10000
  ac : 0 ≤ u.a + u.c ∧ u.a + u.c ≤ 10000
  bd : 1 ≤ u.b + u.d ∧ u.b + u.d ≤ 10000
  med : MedIn u.a u.b u.c u.d
  fxe : fx (u.a + u.c) (u.b + u.d) = u.a + u.c
  fye : fy (u.a + u.c) (u.b + u.d) = u.b + u.d
  p1 : -1000000000000000000 ≤ P * (u.b + u.d) ∧ P * (u.b + u.d) ≤ 1000000000000000000
  p2 : -1000000000000000000 ≤ (u.a + u.c) * Q ∧ (u.a + u.c) * Q ≤ 1000000000000000000
theorem trB {P Q : Int} {u : Q4} {α β : Int} (h : TrI P Q u α β) (hP : P ≤ 10000) (hQ : Q ≤ 10000) : TrB P Q u := by
  obtain ⟨h1, h2⟩ := h.bd
  obtain ⟨e1, e2⟩ := h.p
  obtain ⟨a0, b0, c0, d0, det, -, -, al1, be1⟩ := h
  have hP0 : 0 ≤ P := by omega
  have hQ0 : 0 ≤ Q := by omega
  have hbd : 1 ≤ u.b + u.d := by
    refine Int.not_lt.1 fun hlt => ?_
    have hb : u.b = 0 := by omega
    have hd : u.d = 0 := by omega
    rw [hb, hd] at det
    simp at det
  have hg : Int.gcd (u.a + u.c) (u.b + u.d) = 1 := by
    refine gcd_of_det (r := u.c) (s := u.d) ?_
    right
    rw [← show -(u.c * u.b - u.a * u.d) = -1 by rw [det]]
    grind
  refine ⟨by omega, by omega, by omega, by omega, by omega, by omega, ⟨.inl ⟨by omega, by omega, by omega, by omega⟩, by omega, by omega, by omega, by omega⟩, ?_, ?_, ?_, ?_⟩
  · unfold fx; rw [hg]; exact Int.tdiv_one _
  · unfold fy; rw [hg]; exact Int.tdiv_one _
  · exact mul_bd (A := 1000000000) (B := 1000000000) (by omega) (by omega) (by omega) (by omega)
  · exact mul_bd (A := 1000000000) (B := 1000000000) (by omega) (by omega) (by omega) (by omega)
set_option maxRecDepth 100000 in
set_option maxHeartbeats 2000000 in
theorem l03Walk_any (P Q : Int) (R : Q4) (full : List Bool) (w : World) (hP : P ≤ 10000) (hQ : Q ≤ 10000) (P0 : 0 < P) (Q0 : 0 < Q) (hg : Int.gcd P Q = 1) (hT : Tr ⟨0, 1, 1, 0⟩ Q P R full) :
    Calls Tryz.prog 47 #[(.agg #[.int .i64 P, .int .i64 Q])] w fun e w' => ∃ v, e = .returned (.tuple #[(.agg #[.int .i64 R.a, .int .i64 R.b]), (.agg #[.int .i64 R.c, .int .i64 R.d]), v]) ∧ w'.ownsRow w.heap.size 5 1 v full.length (lrV full) ∧ Below w.heap.size w w' := by
  have HS := Lib.hid (TrI.start P0 Q0)
  have hfl : full.length ≤ 20000 := by have := hT.len Q0 P0; omega
  have HT := Lib.hid hT
  clear hT
  have HG := Lib.hid hg
  clear hg
  go_enter Tryz.func47, Tryz.ntmps47
  go_wp2_with fail
  have S := Lib.hid (DS.start P Q w)
  generalize ((((((w.alloc (Obj.cells #[(.int .i64 P), (.int .i64 Q)] 34)).alloc (Obj.cells #[(.int .i64 0), (.int .i64 0)] 34)).alloc (Obj.cells #[(.int .i64 0), (.int .i64 0)] 34)).alloc (Obj.cells #[] 5)).alloc (Obj.cells #[(.int .i64 0), (.int .i64 1)] 34)).alloc (Obj.cells #[(.int .i64 1), (.int .i64 0)] 34)) = W at *
  have HB := Lib.hid (fun u α β (hI : TrI P Q u α β) => trB hI hP hQ)
  have HM := Lib.hid (fun a b c d W (h : MedIn a b c d) => l03Mediant_any a b c d W h)
  have HL := Lib.hid (fun a b W hb h1 h2 => l01Less_pos P Q a b W Q0 hb h1 h2)
  go_loopw [7, 8] (fun v _ wr => ∃ (D l : List Bool) (u : Q4) (α β : Int), Hid (full = D ++ l) ∧ Hid (Tr u α β R l) ∧ Hid (TrI P Q u α β) ∧ Hid (DS w wr P Q u v D)) (fun v _ _ => full.length + 1 - lenV v)
  case atStart => exact ⟨[], full, ⟨0, 1, 1, 0⟩, Q, P, Lib.hid rfl, HT, HS, S⟩
  case round =>
    clear S HT HS
    obtain ⟨D, l, u, α, β, HD, HT, HI, S⟩ := hrel
    have hb := HB.out u α β HI.out
    have hcmp := HI.out.cmp
    have hhit := HI.out.hit HG.out
    obtain ⟨⟨a0, a1⟩, ⟨b0, b1⟩, ⟨c0, c1⟩, ⟨d0, d1⟩, ⟨ac0, ac1⟩, ⟨bd0, bd1⟩, hmed, hfx, hfy, p1, p2⟩ := hb
    have HM2 := Lib.hid (fun W => HM.out u.a u.b u.c u.d W hmed)
    rw [hfx, hfy] at HM2
    have HL2 := Lib.hid (fun W => HL.out (u.a + u.c) (u.b + u.d) W (by omega) p1 p2)
    have hlv := Lib.hid (own_lenV S.out.o)
    obtain ⟨f0, f1, l0, l1, r0, r1, g0, g1, k0, k1, s0, s1, s2⟩ := S.out.cells
    clear hmed hfx hfy HM
    have HU := Lib.hid (show (⟨u.a, u.b, u.c, u.d⟩ : Q4) = u from rfl)
    by_cases heq : α = β
    · obtain ⟨e1, e2⟩ := hhit.2 heq
      rw [e1, e2] at HM2
      have HE : Hid (R = u ∧ l = []) := by
        refine Lib.hid ?_
        cases HT.out with
        | stop _ => exact ⟨rfl, rfl⟩
        | left h _ => omega
        | right h _ => omega
      have ht : (P == P && Q == Q) = true := by simp
      have hfull := Lib.hid (show full = D by rw [HD.out, HE.out.2, List.append_nil])
      have hRu := Lib.hid HE.out.1
      clear HE HL2 p1 p2 hcmp hhit e1 e2 heq
      go_wp2_with fail
      refine (HM2.out _).mono ?_; rintro e w2 ⟨rfl, hb⟩
      replace S := Lib.hid ((S.out.below hb).alloc (.cells #[(.int .i64 P), (.int .i64 Q)] 34))
      clear hb f0 f1 l0 l1 r0 r1 g0 g1 k0 k1 s0 s1 s2
      obtain ⟨f0, f1, l0, l1, r0, r1, g0, g1, k0, k1, s0, s1, s2⟩ := S.out.cells
      obtain ⟨z0, z1, z2, z3, y0, y1, y2, y3, t0, t1⟩ := S.out.zeros
      go_wp2_with fail
      generalize w2.alloc (.cells #[(.int .i64 P), (.int .i64 Q)] 34) = W3 at *
      go_big_region
      go_wp2_with fail
      have HF := Lib.hid (S.out.fin u.a u.b u.c u.d)
      generalize ((((W3.setCell ⟨w.heap.size + 1, 0, none⟩ (.int .i64 u.a)).setCell ⟨w.heap.size + 1, 1, none⟩ (.int .i64 u.b)).setCell ⟨w.heap.size + 1 + 1, 0, none⟩ (.int .i64 u.c)).setCell ⟨w.heap.size + 1 + 1, 1, none⟩ (.int .i64 u.d)).drew = W4 at *
      obtain ⟨c0, c1⟩ := (⟨cell_of_blk HF.out.b1 0, cell_of_blk HF.out.b1 1⟩ : W4.cell? ⟨w.heap.size + 1, 0, none⟩ = some (.int .i64 u.a) ∧ W4.cell? ⟨w.heap.size + 1, 1, none⟩ = some (.int .i64 u.b))
      obtain ⟨d0, d1⟩ := (⟨cell_of_blk HF.out.b2 0, cell_of_blk HF.out.b2 1⟩ : W4.cell? ⟨w.heap.size + 1 + 1, 0, none⟩ = some (.int .i64 u.c) ∧ W4.cell? ⟨w.heap.size + 1 + 1, 1, none⟩ = some (.int .i64 u.d))
      refine bodyPost_ret (v := .tuple #[(.agg #[.int .i64 u.a, .int .i64 u.b]), (.agg #[.int .i64 u.c, .int .i64 u.d]), u7]) (by first | (simp [results, Tryz.results47, go_sem]; done) | (simp [results, Tryz.results47, go_sem, c0, c1, d0, d1] <;> rfl)) rfl ?_
      rw [hRu.out, hfull.out]
      exact ⟨_, rfl, HF.out.o, HF.out.t⟩
    · have hne : (u.a + u.c == P && u.b + u.d == Q) = false := by
        rw [Bool.eq_false_iff]; intro e
        rw [Bool.and_eq_true, beq_iff_eq, beq_iff_eq] at e
        exact heq (hhit.1 e)
      by_cases hlt : β < α
      · have hle : (decide (P * (u.b + u.d) < (u.a + u.c) * Q)) = true := by rw [decide_eq_true_eq]; omega
        rw [hle] at HL2
        have HE : Hid (∃ l', l = true :: l' ∧ Tr ⟨u.a, u.b, u.a + u.c, u.b + u.d⟩ (α - β) β R l' ∧ TrI P Q ⟨u.a, u.b, u.a + u.c, u.b + u.d⟩ (α - β) β) := by
          refine Lib.hid ?_
          have h2 := HI.out.left hlt
          cases HT.out with
          | stop h => exact absurd h heq
          | left _ h => exact ⟨_, rfl, h, h2⟩
          | right h _ => omega
        obtain ⟨l', hl', ht', hi'⟩ := HE.out
        have HT' := Lib.hid ht'
        have HI' := Lib.hid hi'
        have HD' := Lib.hid (show full = (D ++ [true]) ++ l' by rw [HD.out, hl']; simp)
        have hDl : D.length < full.length := by rw [HD.out, hl', List.length_append, List.length_cons]; omega
        clear HE hl' ht' hi' HD HT HI p1 p2 hcmp hhit heq hle HU hlt
        go_wp2_with fail
        refine (HM2.out _).mono ?_; rintro e w2 ⟨rfl, hb⟩
        have G := Lib.hid (show Blk2 (w2.alloc (.cells #[(.int .i64 (u.a + u.c)), (.int .i64 (u.b + u.d))] 34)) w2.heap.size 34 (u.a + u.c) (u.b + u.d) from heap_new)
        replace S := Lib.hid ((S.out.below hb).alloc (.cells #[(.int .i64 (u.a + u.c)), (.int .i64 (u.b + u.d))] 34))
        clear hb f0 f1 l0 l1 r0 r1 g0 g1 k0 k1 s0 s1 s2
        obtain ⟨f0, f1, l0, l1, r0, r1, g0, g1, k0, k1, s0, s1, s2⟩ := S.out.cells
        go_wp2_with fail
        refine (HL2.out _).mono ?_; rintro e w3 ⟨rfl, hb⟩
        replace S := Lib.hid (S.out.below hb)
        replace G := Lib.hid (show Blk2 w3 w2.heap.size 34 (u.a + u.c) (u.b + u.d) from heap_below G.out hb)
        clear hb f0 f1 l0 l1 r0 r1 g0 g1 k0 k1 s0 s1 s2
        generalize w2.heap.size = g at *
        obtain ⟨m0, m1⟩ := (⟨cell_of_blk G.out 0, cell_of_blk G.out 1⟩ : w3.cell? ⟨g, 0, none⟩ = some (.int .i64 (u.a + u.c)) ∧ w3.cell? ⟨g, 1, none⟩ = some (.int .i64 (u.b + u.d)))
        obtain ⟨f0, f1, l0, l1, r0, r1, g0, g1, k0, k1, s0, s1, s2⟩ := S.out.cells
        have S3 := Lib.hid (S.out.setR (u.a + u.c) (u.b + u.d))
        have hsz3 := S3.out.t.size
        go_wp2_with (at_builtin; refine app_one elBy rfl _ _ rfl rfl rfl (by simp) (S3.out.o) (S3.out.t) rfl (by intro u hu; simp at hu; first | (subst hu; rfl) | (rcases hu with rfl | rfl <;> rfl) | (rcases hu with rfl | rfl | rfl <;> rfl) | (rcases hu with rfl | rfl | rfl | rfl <;> rfl)) (hsz3) (by omega) ?_; intro v' w4 hown4 hb4 hg4; have HO4 := Lib.hid hown4; clear hown4)
        have S4 := Lib.hid (S3.out.app true HO4.out hg4 hb4)
        go_roundw
        case rel => exact ⟨D ++ [true], l', _, _, _, HD', HT', HI', S4⟩
        case measure =>
          show full.length + 1 - lenV v' < full.length + 1 - lenV u7
          rw [own_lenV HO4.out, hlv.out]
          omega
      · have hle : (decide (P * (u.b + u.d) < (u.a + u.c) * Q)) = false := by rw [decide_eq_false_iff_not]; omega
        rw [hle] at HL2
        have HE : Hid (∃ l', l = false :: l' ∧ Tr ⟨u.a + u.c, u.b + u.d, u.c, u.d⟩ α (β - α) R l' ∧ TrI P Q ⟨u.a + u.c, u.b + u.d, u.c, u.d⟩ α (β - α)) := by
          refine Lib.hid ?_
          have h2 := HI.out.right (show α < β by omega)
          cases HT.out with
          | stop h => exact absurd h heq
          | left h _ => omega
          | right _ h => exact ⟨_, rfl, h, h2⟩
        obtain ⟨l', hl', ht', hi'⟩ := HE.out
        have HT' := Lib.hid ht'
        have HI' := Lib.hid hi'
        have HD' := Lib.hid (show full = (D ++ [false]) ++ l' by rw [HD.out, hl']; simp)
        have hDl : D.length < full.length := by rw [HD.out, hl', List.length_append, List.length_cons]; omega
        clear HE hl' ht' hi' HD HT HI p1 p2 hcmp hhit heq hle HU hlt
        go_wp2_with fail
        refine (HM2.out _).mono ?_; rintro e w2 ⟨rfl, hb⟩
        have G := Lib.hid (show Blk2 (w2.alloc (.cells #[(.int .i64 (u.a + u.c)), (.int .i64 (u.b + u.d))] 34)) w2.heap.size 34 (u.a + u.c) (u.b + u.d) from heap_new)
        replace S := Lib.hid ((S.out.below hb).alloc (.cells #[(.int .i64 (u.a + u.c)), (.int .i64 (u.b + u.d))] 34))
        clear hb f0 f1 l0 l1 r0 r1 g0 g1 k0 k1 s0 s1 s2
        obtain ⟨f0, f1, l0, l1, r0, r1, g0, g1, k0, k1, s0, s1, s2⟩ := S.out.cells
        go_wp2_with fail
        refine (HL2.out _).mono ?_; rintro e w3 ⟨rfl, hb⟩
        replace S := Lib.hid (S.out.below hb)
        replace G := Lib.hid (show Blk2 w3 w2.heap.size 34 (u.a + u.c) (u.b + u.d) from heap_below G.out hb)
        clear hb f0 f1 l0 l1 r0 r1 g0 g1 k0 k1 s0 s1 s2
        generalize w2.heap.size = g at *
        obtain ⟨m0, m1⟩ := (⟨cell_of_blk G.out 0, cell_of_blk G.out 1⟩ : w3.cell? ⟨g, 0, none⟩ = some (.int .i64 (u.a + u.c)) ∧ w3.cell? ⟨g, 1, none⟩ = some (.int .i64 (u.b + u.d)))
        obtain ⟨f0, f1, l0, l1, r0, r1, g0, g1, k0, k1, s0, s1, s2⟩ := S.out.cells
        have S3 := Lib.hid (S.out.setL (u.a + u.c) (u.b + u.d))
        have hsz3 := S3.out.t.size
        go_wp2_with (at_builtin; refine app_one elBy rfl _ _ rfl rfl rfl (by simp) (S3.out.o) (S3.out.t) rfl (by intro u hu; simp at hu; first | (subst hu; rfl) | (rcases hu with rfl | rfl <;> rfl) | (rcases hu with rfl | rfl | rfl <;> rfl) | (rcases hu with rfl | rfl | rfl | rfl <;> rfl)) (hsz3) (by omega) ?_; intro v' w4 hown4 hb4 hg4; have HO4 := Lib.hid hown4; clear hown4)
        have S4 := Lib.hid (S3.out.app false HO4.out hg4 hb4)
        go_roundw
        case rel => exact ⟨D ++ [false], l', _, _, _, HD', HT', HI', S4⟩
        case measure =>
          show full.length + 1 - lenV v' < full.length + 1 - lenV u7
          rw [own_lenV HO4.out, hlv.out]
          omega
end Go.Proofs.YtjnkogkpdbgohaaGreatDoor
/- Contracts: the way down the tree, by the program. -/
namespace Go.Proofs.YtjnkogkpdbgohaaGreatDoor
open Go.RowKit
set_option maxRecDepth 100000 in
set_option maxHeartbeats 4000000 in
theorem descend_any (P Q : Int) (R : Q4) (full : List Bool) (w : World) (hP : P ≤ 10000) (hQ : Q ≤ 10000) (P0 : 0 < P) (Q0 : 0 < Q) (hg : Int.gcd P Q = 1) (hT : Tr ⟨0, 1, 1, 0⟩ Q P R full) :
    Calls Tryz.prog 45 #[(.agg #[.int .i64 P, .int .i64 Q])] w fun e w' => e = .returned (.tuple #[(.agg #[.int .i64 R.a, .int .i64 R.b]), (.agg #[.int .i64 R.c, .int .i64 R.d]), lrS full]) ∧ Below w.heap.size w w' := by
  have HS := Lib.hid (TrI.start P0 Q0)
  have hfl : full.length ≤ 20000 := by have := hT.len Q0 P0; omega
  have HT := Lib.hid hT
  clear hT
  have HG := Lib.hid hg
  clear hg
  go_enter Tryz.func45, Tryz.ntmps45
  go_wp2_with fail
  have S := Lib.hid (DS.start P Q w)
  generalize ((((((w.alloc (Obj.cells #[(.int .i64 P), (.int .i64 Q)] 34)).alloc (Obj.cells #[(.int .i64 0), (.int .i64 0)] 34)).alloc (Obj.cells #[(.int .i64 0), (.int .i64 0)] 34)).alloc (Obj.cells #[] 5)).alloc (Obj.cells #[(.int .i64 0), (.int .i64 1)] 34)).alloc (Obj.cells #[(.int .i64 1), (.int .i64 0)] 34)) = W at *
  have HB := Lib.hid (fun u α β (hI : TrI P Q u α β) => trB hI hP hQ)
  have HC := Lib.hid (fun a b W h1 h2 => compare_any P Q a b W h1 h2)
  go_loopw [7, 8] (fun v _ wr => ∃ (D l : List Bool) (u : Q4) (α β : Int), Hid (full = D ++ l) ∧ Hid (Tr u α β R l) ∧ Hid (TrI P Q u α β) ∧ Hid (DS w wr P Q u v D)) (fun v _ _ => full.length + 1 - lenV v)
  case atStart => exact ⟨[], full, ⟨0, 1, 1, 0⟩, Q, P, Lib.hid rfl, HT, HS, S⟩
  case round =>
    clear S HT HS
    obtain ⟨D, l, u, α, β, HD, HT, HI, S⟩ := hrel
    have hb := HB.out u α β HI.out
    have hcmp := HI.out.cmp
    obtain ⟨⟨a0, a1⟩, ⟨b0, b1⟩, ⟨c0, c1⟩, ⟨d0, d1⟩, ⟨ac0, ac1⟩, ⟨bd0, bd1⟩, hmed, hfx, hfy, p1, p2⟩ := hb
    have HC2 := Lib.hid (fun W => HC.out (u.a + u.c) (u.b + u.d) W p1 p2)
    rw [hcmp] at HC2
    have hlv := Lib.hid (own_lenV S.out.o)
    have hsz0 := S.out.sz
    have hgA := Lib.hid (show ∀ k, u7.ownBlock = some k → k ≠ wr.heap.size from fun k hk => by have := own_lt S.out.o hk; omega)
    obtain ⟨f0, f1, l0, l1, r0, r1, g0, g1, k0, k1, s0, s1, s2⟩ := S.out.cells
    have S' := Lib.hid (S.out.alloc (.cells #[(.int .i64 (u.a + u.c)), (.int .i64 (u.b + u.d))] 34))
    have G := Lib.hid (show Blk2 (wr.alloc (.cells #[(.int .i64 (u.a + u.c)), (.int .i64 (u.b + u.d))] 34)) wr.heap.size 34 (u.a + u.c) (u.b + u.d) from heap_new)
    clear hmed hfx hfy HC p1 p2 hcmp S
    rcases Int.lt_trichotomy α β with hlt | heq | hlt
    · have hsg : sg (β - α) = 1 := by unfold sg; rw [if_neg (by omega), if_pos (by omega)]
      rw [hsg] at HC2
      have HE : Hid (∃ l', l = false :: l' ∧ Tr ⟨u.a + u.c, u.b + u.d, u.c, u.d⟩ α (β - α) R l' ∧ TrI P Q ⟨u.a + u.c, u.b + u.d, u.c, u.d⟩ α (β - α)) := by
        refine Lib.hid ?_
        have h2 := HI.out.right hlt
        cases HT.out with
        | stop h => omega
        | left h _ => omega
        | right _ h => exact ⟨_, rfl, h, h2⟩
      obtain ⟨l', hl', ht', hi'⟩ := HE.out
      have HT' := Lib.hid ht'
      have HI' := Lib.hid hi'
      have HD' := Lib.hid (show full = (D ++ [false]) ++ l' by rw [HD.out, hl']; simp)
      have hDl : D.length < full.length := by rw [HD.out, hl', List.length_append, List.length_cons]; omega
      clear HE hl' ht' hi' HD HT HI hsg hlt
      go_wp2_with fail
      refine (HC2.out _).mono ?_; rintro e w2 ⟨rfl, hb⟩
      replace S' := Lib.hid (S'.out.below hb)
      replace G := Lib.hid (show Blk2 w2 wr.heap.size 34 (u.a + u.c) (u.b + u.d) from heap_below G.out hb)
      have hgs : w.heap.size + 6 ≤ wr.heap.size := hsz0
      clear hb f0 f1 l0 l1 r0 r1 g0 g1 k0 k1 s0 s1 s2
      generalize wr.heap.size = g at *
      obtain ⟨f0, f1, l0, l1, r0, r1, g0, g1, k0, k1, s0, s1, s2⟩ := S'.out.cells
      have S2 := Lib.hid S'.out.drew
      have G2 := Lib.hid (show Blk2 w2.drew g 34 (u.a + u.c) (u.b + u.d) from G.out)
      clear S' G
      obtain ⟨m0, m1⟩ := (⟨cell_of_blk G2.out 0, cell_of_blk G2.out 1⟩ : w2.cell? ⟨g, 0, none⟩ = some (.int .i64 (u.a + u.c)) ∧ w2.cell? ⟨g, 1, none⟩ = some (.int .i64 (u.b + u.d)))
      have hDn : D.length ≤ 1000000000 := by omega
      have SA := Lib.hid (S2.out.alloc (.cells #[.int .u8 82] 5))
      have GA := Lib.hid (show Blk2 (w2.drew.alloc (.cells #[.int .u8 82] 5)) g 34 (u.a + u.c) (u.b + u.d) from heap_alloc G2.out)
      have hcA : (w2.drew.alloc (.cells #[.int .u8 82] 5)).cell? ⟨w2.heap.size, 0, none⟩ = some (.int .u8 82) := cell_of_blk heap_new 0
      have hgl : g < w2.heap.size := lt_of_blk G2.out
      go_wp2_with fail
      go_region_law (first | (refine step_app_cell elBy rfl _ _ rfl rfl rfl hcA SA.out.o SA.out.t rfl SA.out.t.size hDn ?_; intro v' w' ho hb hg; have hv' := Lib.hid (own_lenV ho); have S4 := Lib.hid (SA.out.app false ho hg hb); have G4 := Lib.hid (heap_app GA.out hg hgA.out); obtain ⟨q0, q1, q2, q3, q4, q5, q6, q7, q8, q9, t0, t1, t2⟩ := S4.out.cells; have n0 := cell_of_blk G4.out 0; have n1 := cell_of_blk G4.out 1; simp only [List.getElem?_toArray, List.getElem?_cons_zero, List.getElem?_cons_succ] at n0 n1; clear ho hb hg))
      all_goals
        simp only [Act.put, List.getElem_toArray, List.getElem_cons_succ, List.getElem_cons_zero, List.setIfInBounds_toArray, List.set_cons_zero, List.set_cons_succ]
        go_wp2_with fail
        refine ⟨⟨D ++ [false], l', _, _, _, HD', HT', HI', Lib.hid (S4.out.setL _ _)⟩, ?_⟩
        rw [hv'.out, hlv.out]
        omega
    · have hsg : sg (β - α) = 0 := by unfold sg; rw [if_neg (by omega), if_neg (by omega)]
      rw [hsg] at HC2
      have HE : Hid (R = u ∧ l = []) := by
        refine Lib.hid ?_
        cases HT.out with
        | stop _ => exact ⟨rfl, rfl⟩
        | left h _ => omega
        | right h _ => omega
      have hfull := Lib.hid (show full = D by rw [HD.out, HE.out.2, List.append_nil])
      have hRu := Lib.hid HE.out.1
      clear HE hsg
      go_wp2_with fail
      refine (HC2.out _).mono ?_; rintro e w2 ⟨rfl, hb⟩
      replace S' := Lib.hid (S'.out.below hb)
      clear hb f0 f1 l0 l1 r0 r1 g0 g1 k0 k1 s0 s1 s2
      obtain ⟨f0, f1, l0, l1, r0, r1, g0, g1, k0, k1, s0, s1, s2⟩ := S'.out.cells
      obtain ⟨z0, z1, z2, z3, y0, y1, y2, y3, t0, t1⟩ := S'.out.zeros
      go_wp2_with fail
      have HF := Lib.hid (S'.out.fin u.a u.b u.c u.d)
      have q1 := S'.out.ne (b := w.heap.size + 1) (by omega) (by omega)
      have q2 := S'.out.ne (b := w.heap.size + 1 + 1) (by omega) (by omega)
      have hcv0 := conv_own (own_below S'.out.o (Below.refl _ _).drew)
      have hcv1 := conv_own (w := ((w2.setCell ⟨w.heap.size + 1, 0, none⟩ (.int .i64 u.a)).setCell ⟨w.heap.size + 1, 1, none⟩ (.int .i64 u.b)).drew) (own_below (own_store (own_store S'.out.o q1) q1) (Below.refl _ _).drew)
      have hcv2 := conv_own (w := ((((w2.setCell ⟨w.heap.size + 1, 0, none⟩ (.int .i64 u.a)).setCell ⟨w.heap.size + 1, 1, none⟩ (.int .i64 u.b)).setCell ⟨w.heap.size + 1 + 1, 0, none⟩ (.int .i64 u.c)).setCell ⟨w.heap.size + 1 + 1, 1, none⟩ (.int .i64 u.d)).drew) (own_below (own_store (own_store (own_store (own_store S'.out.o q1) q1) q2) q2) (Below.refl _ _).drew)
      clear q1 q2
      go_big_region
      go_wp2_with fail
      clear hcv0 hcv1 hcv2
      generalize ((((w2.setCell ⟨w.heap.size + 1, 0, none⟩ (.int .i64 u.a)).setCell ⟨w.heap.size + 1, 1, none⟩ (.int .i64 u.b)).setCell ⟨w.heap.size + 1 + 1, 0, none⟩ (.int .i64 u.c)).setCell ⟨w.heap.size + 1 + 1, 1, none⟩ (.int .i64 u.d)).drew = W4 at *
      obtain ⟨c0, c1⟩ := (⟨cell_of_blk HF.out.b1 0, cell_of_blk HF.out.b1 1⟩ : W4.cell? ⟨w.heap.size + 1, 0, none⟩ = some (.int .i64 u.a) ∧ W4.cell? ⟨w.heap.size + 1, 1, none⟩ = some (.int .i64 u.b))
      obtain ⟨d0, d1⟩ := (⟨cell_of_blk HF.out.b2 0, cell_of_blk HF.out.b2 1⟩ : W4.cell? ⟨w.heap.size + 1 + 1, 0, none⟩ = some (.int .i64 u.c) ∧ W4.cell? ⟨w.heap.size + 1 + 1, 1, none⟩ = some (.int .i64 u.d))
      refine bodyPost_ret (v := .tuple #[(.agg #[.int .i64 u.a, .int .i64 u.b]), (.agg #[.int .i64 u.c, .int .i64 u.d]), lrS D]) (by first | (simp [results, Tryz.results45, go_sem]; done) | (simp [results, Tryz.results45, go_sem, c0, c1, d0, d1] <;> rfl)) rfl ?_
      rw [hRu.out, hfull.out]
      exact ⟨rfl, HF.out.t⟩
    · have hsg : sg (β - α) = -1 := by unfold sg; rw [if_pos (by omega)]
      rw [hsg] at HC2
      have HE : Hid (∃ l', l = true :: l' ∧ Tr ⟨u.a, u.b, u.a + u.c, u.b + u.d⟩ (α - β) β R l' ∧ TrI P Q ⟨u.a, u.b, u.a + u.c, u.b + u.d⟩ (α - β) β) := by
        refine Lib.hid ?_
        have h2 := HI.out.left hlt
        cases HT.out with
        | stop h => omega
        | left _ h => exact ⟨_, rfl, h, h2⟩
        | right h _ => omega
      obtain ⟨l', hl', ht', hi'⟩ := HE.out
      have HT' := Lib.hid ht'
      have HI' := Lib.hid hi'
      have HD' := Lib.hid (show full = (D ++ [true]) ++ l' by rw [HD.out, hl']; simp)
      have hDl : D.length < full.length := by rw [HD.out, hl', List.length_append, List.length_cons]; omega
      clear HE hl' ht' hi' HD HT HI hsg hlt
      go_wp2_with fail
      refine (HC2.out _).mono ?_; rintro e w2 ⟨rfl, hb⟩
      replace S' := Lib.hid (S'.out.below hb)
      replace G := Lib.hid (show Blk2 w2 wr.heap.size 34 (u.a + u.c) (u.b + u.d) from heap_below G.out hb)
      have hgs : w.heap.size + 6 ≤ wr.heap.size := hsz0
      clear hb f0 f1 l0 l1 r0 r1 g0 g1 k0 k1 s0 s1 s2
      generalize wr.heap.size = g at *
      obtain ⟨f0, f1, l0, l1, r0, r1, g0, g1, k0, k1, s0, s1, s2⟩ := S'.out.cells
      have S2 := Lib.hid S'.out.drew
      have G2 := Lib.hid (show Blk2 w2.drew g 34 (u.a + u.c) (u.b + u.d) from G.out)
      clear S' G
      obtain ⟨m0, m1⟩ := (⟨cell_of_blk G2.out 0, cell_of_blk G2.out 1⟩ : w2.cell? ⟨g, 0, none⟩ = some (.int .i64 (u.a + u.c)) ∧ w2.cell? ⟨g, 1, none⟩ = some (.int .i64 (u.b + u.d)))
      have hDn : D.length ≤ 1000000000 := by omega
      have SA := Lib.hid (S2.out.alloc (.cells #[.int .u8 76] 5))
      have GA := Lib.hid (show Blk2 (w2.drew.alloc (.cells #[.int .u8 76] 5)) g 34 (u.a + u.c) (u.b + u.d) from heap_alloc G2.out)
      have hcA : (w2.drew.alloc (.cells #[.int .u8 76] 5)).cell? ⟨w2.heap.size, 0, none⟩ = some (.int .u8 76) := cell_of_blk heap_new 0
      have hgl : g < w2.heap.size := lt_of_blk G2.out
      go_wp2_with fail
      go_region_law (first | (refine step_app_cell elBy rfl _ _ rfl rfl rfl hcA SA.out.o SA.out.t rfl SA.out.t.size hDn ?_; intro v' w' ho hb hg; have hv' := Lib.hid (own_lenV ho); have S4 := Lib.hid (SA.out.app true ho hg hb); have G4 := Lib.hid (heap_app GA.out hg hgA.out); obtain ⟨q0, q1, q2, q3, q4, q5, q6, q7, q8, q9, t0, t1, t2⟩ := S4.out.cells; have n0 := cell_of_blk G4.out 0; have n1 := cell_of_blk G4.out 1; simp only [List.getElem?_toArray, List.getElem?_cons_zero, List.getElem?_cons_succ] at n0 n1; clear ho hb hg))
      all_goals
        simp only [Act.put, List.getElem_toArray, List.getElem_cons_succ, List.getElem_cons_zero, List.setIfInBounds_toArray, List.set_cons_zero, List.set_cons_succ]
        go_wp2_with fail
        refine ⟨⟨D ++ [true], l', _, _, _, HD', HT', HI', Lib.hid (S4.out.setR _ _)⟩, ?_⟩
        rw [hv'.out, hlv.out]
        omega
end Go.Proofs.YtjnkogkpdbgohaaGreatDoor
