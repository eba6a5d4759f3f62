/- Contracts: tiers, by the model (printed by gen_m11.py). -/
import Derived.Test.YtjnkogkpdbgohaaGreatDoorM10
import Derived.Test.YtjnkogkpdbgohaaGreatDoorM5
import Derived.Deep.RegionHeld3
namespace Go.Proofs.YtjnkogkpdbgohaaGreatDoor
open Go.RowKit
/-- The fractions of a tier between two parents, ascending. -/
def tierL : Nat → Q4 → List P2
  | 0, u => [⟨u.a + u.c, u.b + u.d⟩]
  | k + 1, u => tierL k ⟨u.a, u.b, u.a + u.c, u.b + u.d⟩ ++ tierL k ⟨u.a + u.c, u.b + u.d, u.c, u.d⟩
theorem tierL_len : ∀ (k : Nat) (u : Q4), (tierL k u).length = 2 ^ k
  | 0, _ => rfl
  | k + 1, u => by simp only [tierL, List.length_append, tierL_len k]; omega
theorem tierL_pos (k : Nat) (u : Q4) : 0 < (tierL k u).length := by rw [tierL_len]; exact Nat.pow_pos (by omega)
theorem tierL_small {k : Nat} (h : k ≤ 7) (u : Q4) : (tierL k u).length ≤ 128 := by
  rw [tierL_len]
  have := Nat.pow_le_pow_right (show 0 < 2 by omega) h
  omega
theorem flat2_app (l m : List P2) : flat2 (l ++ m) = flat2 l ++ flat2 m := by simp [flat2]
/-- append of a whole row, as one step of a region that draws. -/
theorem step_app_all {P : Program} {ops : Array Oper} {o : Oper} {a : Act} {K : Act → World → Prop} {Q : Exit → Act → World → Prop} {E : Prop} {w0 wr : World} {B B' n m b cap size bytes : Nat} {t e : TypeId} {z v : Value} {xs news : List Value}
    (hE : Elem P t e z size bytes) (hgd : o.guard = none) (s x : Operand) (ho : o.op = .call { callee := .builtin .append, args := #[s, x], argTypes := #[t, t] })
    (hs : a.eval s = v) (hx : a.eval x = .slice (some ⟨b, 0, none⟩) m cap) (hown : wr.ownsRow B e size v n xs) (hnew : wr.ownsRow B' e size (.slice (some ⟨b, 0, none⟩) m cap) m news) (hb : Below B w0 wr)
    (h1 : ∀ u ∈ news, u.oneCell' = true) (hB : B ≤ wr.heap.size) (hn : n + m ≤ 1000000000)
    (h : ∀ v' w', w'.ownsRow B e size v' (n + m) (xs ++ news) → Below B w0 w' → App wr w' v v' → K (a.put o.dst v') w') :
    if Region.wanted o (yielded ops a.tmps) = true then Oper.wp P o a wr K Q else E := by
  have hw : Region.wanted o (yielded ops a.tmps) = true := by simp [Region.wanted, hgd]
  rw [if_pos hw]
  obtain ⟨hu, ⟨i, hi, hz, hsz, hby⟩, hzc, hpos, hsm⟩ := hE
  have hmul : (n + m) * bytes ≤ (n + m) * 100 := Nat.mul_le_mul_left _ hsm
  have hnews : ∀ j u', news[j]? = some u' → wr.cell? ((⟨b, 0, none⟩ : Addr).add j) = some u' := hnew.cells (g := b) rfl
  obtain ⟨v', w', hr, h2, h3, h4, h5⟩ := run_append_own_at (P := P) wr B t o.type e i z size bytes hu hi hz hsz hby hzc hpos v n xs hown ⟨b, 0, none⟩ m cap news hnew.1 hnews h1 (by unfold maxLen; omega) (by omega) hB
  unfold Oper.wp execOp
  simp only [ho, resolve, invoke, builtin, Sem.run_bind, Sem.run_pure, Result.andThen_ok, List.map_toArray, List.map_cons, List.map_nil, hs, hx, hr]
  refine h v' w' h2 (hb.grown h3 hB (fun k hk => (hown.lt k hk).1)) ⟨h3, fun k hk => ?_⟩
  rcases h5 with h5 | h5
  · exact .inl (by rw [← h5]; exact hk)
  · rw [h5] at hk; injection hk with hk; subst hk; right; exact Nat.le_refl _
theorem own_ptr {w : World} {B z n : Nat} {E : TypeId} {v : Value} {xs : List Value} (h : w.ownsRow B E z v n xs) (hn : 0 < n) : ∃ b cap, v = .slice (some ⟨b, 0, none⟩) n cap := by
  obtain ⟨A, cap, rfl, -, -, hat⟩ := own_view h
  obtain ⟨b, rfl, -⟩ := hat hn
  exact ⟨b, cap, rfl⟩
/-- What memory holds while a tier is laid: both parents and the middle. -/
structure TS (w wr : World) (u : Q4) (g : Nat) : Prop where
  l : Blk2 wr w.heap.size 34 u.a u.b
  r : Blk2 wr (w.heap.size + 1) 34 u.c u.d
  m : Blk2 wr g 34 (u.a + u.c) (u.b + u.d)
  t : Below w.heap.size w wr
section
variable {w wr w2 : World} {u : Q4} {g : Nat}
theorem TS.below (h : TS w wr u g) (hb : Below wr.heap.size wr w2) : TS w w2 u g := ⟨heap_below h.l hb, heap_below h.r hb, heap_below h.m hb, bfin h.t hb⟩
theorem TS.app {v v' : Value} (h : TS w wr u g) (ha : App wr w2 v v') (hb : Below w.heap.size w w2) (hn : ∀ k, v.ownBlock = some k → g < k) (hg : w.heap.size + 1 < g) : TS w w2 u g :=
  ⟨heap_app h.l ha (fun k hk => by have := hn k hk; omega), heap_app h.r ha (fun k hk => by have := hn k hk; omega), heap_app h.m ha (fun k hk => by have := hn k hk; omega), hb⟩
theorem TS.cells (h : TS w wr u g) : wr.cell? ⟨w.heap.size, 0, none⟩ = some (.int .i64 u.a) ∧ wr.cell? ⟨w.heap.size, 1, none⟩ = some (.int .i64 u.b) ∧ wr.cell? ⟨w.heap.size + 1, 0, none⟩ = some (.int .i64 u.c) ∧ wr.cell? ⟨w.heap.size + 1, 1, none⟩ = some (.int .i64 u.d) ∧ wr.cell? ⟨g, 0, none⟩ = some (.int .i64 (u.a + u.c)) ∧ wr.cell? ⟨g, 1, none⟩ = some (.int .i64 (u.b + u.d)) :=
  ⟨cell_of_blk h.l 0, cell_of_blk h.l 1, cell_of_blk h.r 0, cell_of_blk h.r 1, cell_of_blk h.m 0, cell_of_blk h.m 1⟩
end
def TierSay (k : Nat) : Prop := ∀ (u : Q4) (j : Nat) (w : World), FolI j u → j + k ≤ 40 → k ≤ 7 →
    Calls Tryz.prog 63 #[(.agg #[.int .i64 u.a, .int .i64 u.b]), (.agg #[.int .i64 u.c, .int .i64 u.d]), (.int .i64 ((k : Int)))] w fun e w' => ∃ v, e = .returned v ∧ w'.ownsRow w.heap.size 34 2 v (tierL k u).length (ints (flat2 (tierL k u))) ∧ Below w.heap.size w w'
set_option maxRecDepth 100000 in
set_option maxHeartbeats 4000000 in
theorem tier_zero : TierSay 0 := by
  intro u j w hI hj h7
  obtain ⟨⟨a0, a1⟩, ⟨b0, b1⟩, ⟨c0, c1⟩, ⟨d0, d1⟩, hmed, hfx, hfy⟩ := hI.bd (by omega)
  have HM2 := Lib.hid (fun W => l03Mediant_any u.a u.b u.c u.d W hmed)
  rw [hfx, hfy] at HM2
  clear hmed hfx hfy
  go_enter Tryz.func63, Tryz.ntmps63
  go_wp2_with fail
  refine (HM2.out _).mono ?_; rintro e w2 ⟨rfl, hb⟩
  have T := Lib.hid (show Below w.heap.size w w2 from bfin (by go_grown) hb)
  clear hb
  go_wp2_with fail
  go_ret
  have hs := T.out.size
  refine ⟨.slice (some ⟨w2.heap.size + 1, 0, none⟩) 1 1, rfl, ?_, (T.out.alloc hs _).alloc (by simp; omega) _⟩
  have := World.ownsRow_lit (w2.alloc (.cells #[(.int .i64 (u.a + u.c)), (.int .i64 (u.b + u.d))] 34)) (base := w.heap.size) (e := 34) (size := 2) #[(.int .i64 (u.a + u.c)), (.int .i64 (u.b + u.d))] 1 (by simp; omega) (by simp [maxLen]) rfl
  simpa [ints, flat2, tierL] using this
set_option maxRecDepth 100000 in
set_option maxHeartbeats 4000000 in
theorem tier_succ (k : Nat) (ih : TierSay k) : TierSay (k + 1) := by
  intro u j w hI hj h7
  obtain ⟨⟨a0, a1⟩, ⟨b0, b1⟩, ⟨c0, c1⟩, ⟨d0, d1⟩, hmed, hfx, hfy⟩ := hI.bd (by omega)
  have HM2 := Lib.hid (fun W => l03Mediant_any u.a u.b u.c u.d W hmed)
  rw [hfx, hfy] at HM2
  have H1 := Lib.hid (fun W => ih ⟨u.a, u.b, u.a + u.c, u.b + u.d⟩ (j + 1) W hI.left (by omega) (by omega))
  have H2 := Lib.hid (fun W => ih ⟨u.a + u.c, u.b + u.d, u.c, u.d⟩ (j + 1) W hI.right (by omega) (by omega))
  simp only at H1 H2
  have HN := Lib.hid (show tierL (k + 1) u = tierL k ⟨u.a, u.b, u.a + u.c, u.b + u.d⟩ ++ tierL k ⟨u.a + u.c, u.b + u.d, u.c, u.d⟩ from rfl)
  have hp1 := tierL_pos k ⟨u.a, u.b, u.a + u.c, u.b + u.d⟩
  have hp2 := tierL_pos k ⟨u.a + u.c, u.b + u.d, u.c, u.d⟩
  have hq1 := tierL_small (k := k) (by omega) ⟨u.a, u.b, u.a + u.c, u.b + u.d⟩
  have hq2 := tierL_small (k := k) (by omega) ⟨u.a + u.c, u.b + u.d, u.c, u.d⟩
  generalize tierL (k + 1) u = L at *
  generalize tierL k ⟨u.a, u.b, u.a + u.c, u.b + u.d⟩ = L1 at *
  generalize tierL k ⟨u.a + u.c, u.b + u.d, u.c, u.d⟩ = L2 at *
  have hk0 : (((k + 1 : Nat) : Int) == 0) = false := by simp; omega
  have hw : IntKind.i64.wrap (k : Int) = (k : Int) := IntWalk.i64_in _ (by omega)
  clear hmed hfx hfy ih hI
  go_enter Tryz.func63, Tryz.ntmps63
  go_wp2_with fail
  refine (HM2.out _).mono ?_; rintro e w2 ⟨rfl, hb⟩
  have T := Lib.hid (show TS w (w2.alloc (.cells #[(.int .i64 (u.a + u.c)), (.int .i64 (u.b + u.d))] 34)) u w2.heap.size from ⟨heap_alloc (heap_below (heap_alloc heap_new) hb), heap_alloc (heap_below (heap_new' (by simp)) hb), heap_new, (bfin (by go_grown) hb : Below w.heap.size w w2).alloc (bfin (by go_grown) hb : Below w.heap.size w w2).size _⟩)
  have hgs : w.heap.size + 1 < w2.heap.size := by have := hb.size; simp at this; omega
  clear hb
  go_wp2_with fail
  generalize w2.alloc (.cells #[(.int .i64 (u.a + u.c)), (.int .i64 (u.b + u.d))] 34) = W3 at *
  generalize w2.heap.size = g at *
  have hu0 := T.out.cells
  obtain ⟨x0, x1, x2, x3, x4, x5⟩ := T.out.cells
  have hsT := T.out.t.size
  have TD := Lib.hid (show TS w W3.drew u g from T.out.below (Below.refl _ _).drew)
  have hgl : g < W3.heap.size := lt_of_blk T.out.m
  go_region_held3 (fun w' => w'.cell? ⟨w.heap.size, 0, none⟩ = some (.int .i64 u.a) ∧ w'.cell? ⟨w.heap.size, 1, none⟩ = some (.int .i64 u.b) ∧ w'.cell? ⟨w.heap.size + 1, 0, none⟩ = some (.int .i64 u.c) ∧ w'.cell? ⟨w.heap.size + 1, 1, none⟩ = some (.int .i64 u.d) ∧ w'.cell? ⟨g, 0, none⟩ = some (.int .i64 (u.a + u.c)) ∧ w'.cell? ⟨g, 1, none⟩ = some (.int .i64 (u.b + u.d))) (first | exact hu3 | exact hu2 | exact hu1 | exact hu0 | go_keep) (first
    | (go_at_call 63; with_reducible refine (H1.out _).mono ?_; rintro e w4 ⟨v1, rfl, ho1, hb1⟩; have T1 := Lib.hid (TS.below TD.out hb1); have hu1 := T1.out.cells; have O1 := Lib.hid ho1; have hl1 := Lib.hid hb1.size; clear ho1 hb1)
    | (go_at_call 63; with_reducible refine (H2.out _).mono ?_; rintro e w5 ⟨v2, rfl, ho2, hb2⟩; have T2 := Lib.hid (TS.below T1.out hb2); have hu2 := T2.out.cells; have O2 := Lib.hid (own_below O1.out hb2); have O3 := Lib.hid ho2; have hl2 := Lib.hid hb2.size; clear ho2 hb2; obtain ⟨b2, cap2, rfl⟩ := own_ptr O3.out hp2)
    | (refine step_app_all elFrM rfl _ _ rfl rfl rfl (own_base O2.out hsT) O3.out T2.out.t (ints_one _) T2.out.t.size (by omega) ?_; intro v3 w6 ho hb hg; have T3 := Lib.hid (TS.app T2.out hg hb (fun k hk => Nat.lt_of_lt_of_le hgl (own_ge O1.out hk)) hgs); have hu3 := T3.out.cells; have O4 := Lib.hid ho; clear ho hb hg))
  have HE := Lib.hid (show w6.ownsRow w.heap.size 34 2 v3 L.length (ints (flat2 L)) by rw [HN.out, List.length_append, flat2_app]; simpa [ints] using O4.out)
  go_wp2_with fail
  go_ret
  exact ⟨_, rfl, HE.out, T3.out.t⟩
theorem l03Tier_any : ∀ k, TierSay k
  | 0 => tier_zero
  | k + 1 => tier_succ k (l03Tier_any k)
def tiRes (N : Int) : List P2 × Int := if inB N 0 7 = true then (tierL N.toNat ⟨0, 1, 1, 0⟩, 0) else ([], 2)
set_option maxRecDepth 100000 in
theorem sTierOf_any (N : Int) (w : World) :
    Calls Tryz.prog 27 #[(.int .i64 N)] w fun e w' => ∃ v, e = .returned (.tuple #[v, (.int .i64 ((tiRes N).2))]) ∧ w'.ownsRow w.heap.size 34 2 v (tiRes N).1.length (ints (flat2 (tiRes N).1)) ∧ Below w.heap.size w w' := by
  have HW := Lib.hid (fun W => l01In_any N 0 7 W)
  cases hN : inB N 0 7
  · rw [show tiRes N = ([], 2) by simp [tiRes, hN]]
    rw [hN] at HW
    go_enter Tryz.func27, Tryz.ntmps27
    go_wp2_with fail
    refine (HW.out _).mono ?_; rintro e w' ⟨rfl, rfl⟩
    go_wp2_with fail
    go_ret2
    exact ⟨_, rfl, World.ownsRow_nil _ _ _ _, Below.refl _ _⟩
  rw [hN] at HW
  obtain ⟨n, rfl⟩ : ∃ n : Nat, N = (n : Int) := ⟨N.toNat, by simp [inB] at hN; omega⟩
  have hn : n ≤ 7 := by simp [inB] at hN; omega
  rw [show tiRes (n : Int) = (tierL n ⟨0, 1, 1, 0⟩, 0) by simp [tiRes, hN]]
  have HT := Lib.hid (fun W => l03Tier_any n ⟨0, 1, 1, 0⟩ 0 W FolI.start (by omega) hn)
  simp only at HT
  generalize tierL n ⟨0, 1, 1, 0⟩ = L at *
  clear hN
  go_enter Tryz.func27, Tryz.ntmps27
  go_wp2_with fail
  refine (HW.out _).mono ?_; rintro e w' ⟨rfl, rfl⟩
  go_wp2_with fail
  refine (HT.out _).mono ?_; rintro e w1 ⟨v, rfl, ho, hb⟩
  go_wp2_with fail
  go_ret2
  exact ⟨_, rfl, ho, hb⟩
end Go.Proofs.YtjnkogkpdbgohaaGreatDoor
