/- Contracts: cycles of forms; the law CycleOf. -/
import Derived.Test.YtcaiofhdcffogaaC90
import Derived.Test.YtcaiofhdcffogaaRow3
namespace Go.Proofs.Ytcaiofhdcffogaa
open Go.RowKit
noncomputable def cycRes (a b c : Int) : List F3 × Int := if isForm a b c = true then (if 2000 < disc a b c then ([], 2) else if indB a b c = true ∧ redB a b c = true then (cycR ⟨a, b, c⟩, 0) else ([], 5)) else ([], 1)
theorem cycRes_len (a b c : Int) : (cycRes a b c).1.length ≤ 10000 := by
  unfold cycRes
  split
  · split
    · simp
    · split
      · exact cycR_len _
      · simp
  · simp
theorem isCyc_of {a b c : Int} (h1 : ¬ 2000 < disc a b c) (h2 : indB a b c = true) (h3 : redB a b c = true) : IsCyc ⟨a, b, c⟩ := by
  simp only [indB, Bool.and_eq_true, decide_eq_true_eq] at h2
  obtain ⟨hd, hs⟩ := h2
  refine ⟨hd, by simp only; omega, by simpa [sqB] using hs, ?_⟩
  refine cyc_of_red (D := disc a b c) rfl hd ?_
  unfold redB at h3
  rwa [if_neg (by omega)] at h3
def cycB (a b c : Int) : Bool := decide (disc a b c ≤ 2000) && (indB a b c && redB a b c)
noncomputable def equRes (f g : F3) : Bool × Int :=
  if isForm f.x f.y f.z = true ∧ isForm g.x g.y g.z = true then
    (if defB f.x f.y f.z = true ∧ defB g.x g.y g.z = true then (decide ((reduceOf f.x f.y f.z).f = (reduceOf g.x g.y g.z).f), 0)
     else if cycB f.x f.y f.z = true ∧ cycB g.x g.y g.z = true then (decide (g ∈ cycR f), 0) else (false, 5))
  else (false, 1)
attribute [local go_sem] eqForm3
def sLen : Value → Nat
  | .slice _ n _ => n
  | _ => 0
theorem own_sLen {w : World} {B z n : Nat} {E : TypeId} {v : Value} {xs : List Value} (h : w.ownsRow B E z v n xs) : sLen v = n := by
  obtain ⟨A, cap, rfl, _⟩ := own_view h; rfl
/-- What holds ahead of a round along a cycle. -/
structure CyAt (f : F3) (N : Nat) (k : Nat) (g : F3) : Prop where
  k1 : 1 ≤ k
  kN : k ≤ N
  it : itN f k = g
  stop : g = f → k = N
  go : g ≠ f → k < N
theorem cyAt {f : F3} {N k : Nat} (hP : Period f N) (k1 : 1 ≤ k) (kN : k ≤ N) : CyAt f N k (itN f k) := by
  refine ⟨k1, kN, rfl, fun h => ?_, fun h => ?_⟩
  · refine Nat.le_antisymm kN (Nat.le_of_not_lt fun hlt => hP.ne k k1 hlt h)
  · refine Nat.lt_of_le_of_ne kN fun e => h (by rw [e]; exact hP.eq)
/-- A row lies behind the first block, and not in block b. -/
structure Off (B b : Nat) (v : Value) : Prop where
  gt : ∀ k, v.ownBlock = some k → B < k
  ne : ∀ k, v.ownBlock = some k → k ≠ b
theorem Off.app {B b b' : Nat} {wr w' : World} {v v' : Value} (h : Off B b v) (ha : App wr w' v v') (hs : B < wr.heap.size) (hb : w'.heap.size ≤ b') (hl : ∀ k, v'.ownBlock = some k → k < w'.heap.size) : Off B b' v' :=
  ⟨fun k hk => by
    rcases ha.sit k hk with h1 | h1
    · exact h.gt k h1
    · omega, fun k hk => by have := hl k hk; omega⟩
set_option maxRecDepth 100000 in
set_option maxHeartbeats 4000000 in
theorem cycle_any (f : F3) (N : Nat) (w : World) (hc : IsCyc f) (hP : Period f N) :
    Calls Try.prog 31 #[(.agg #[.int .i64 f.x, .int .i64 f.y, .int .i64 f.z])] w fun e w' => ∃ v, e = .returned v ∧ w'.ownsRow w.heap.size 34 3 v N (ints (flatF (cycL f N))) ∧ Below w.heap.size w w' := by
  have H0 := Lib.hid (fun W => next_any f.x f.y f.z W (hc.all 0).sm (hc.all 0).ok)
  have HNx := Lib.hid (fun k g W (h : itN f k = g) => show Calls Try.prog _ #[(.agg #[.int .i64 g.x, .int .i64 g.y, .int .i64 g.z])] W fun e w' => e = .returned (.agg #[.int .i64 ((nextQ g).x), .int .i64 ((nextQ g).y), .int .i64 ((nextQ g).z)]) ∧ Below W.heap.size W w' by
    subst h; exact next_any (itN f k).x (itN f k).y (itN f k).z W (hc.all k).sm (hc.all k).ok)
  have HS := Lib.hid (show ∀ k, 1 ≤ k → k ≤ N → CyAt f N k (itN f k) from fun k h1 h2 => cyAt hP h1 h2)
  have hN1 := hP.n1
  have hN2 := hP.n2
  have HI0 := Lib.hid (show nextF f.x f.y f.z = itN f 1 from rfl)
  rw [HI0.out] at H0
  have HC0 := Lib.hid (show cycL f 1 = [f] by simp [cycL, itN])
  have HA1 := Lib.hid (HS.out 1 (by omega) hN1)
  have HCn := Lib.hid (show ∀ k g, itN f k = g → cycL f (k + 1) = cycL f k ++ [g] from fun k g h => by rw [cycL_snoc, h])
  have HNxt := Lib.hid (show ∀ k g, itN f k = g → itN f (k + 1) = nextQ g from fun k g h => by rw [← h]; rfl)
  clear hc hP HI0
  generalize itN f 1 = G1 at *
  have HF0 := Lib.hid (show ints (flatF (cycL f 1)) = [(.int .i64 f.x), (.int .i64 f.y), (.int .i64 f.z)] by rw [HC0.out]; simp [flatF, ints])
  clear HC0
  obtain ⟨fx, fy, fz⟩ := f
  obtain ⟨gx, gy, gz⟩ := G1
  simp only at *
  go_enter Try.func31, Try.ntmps31
  go_wp2_with fail
  refine (H0.out _).mono ?_; rintro e w1 ⟨rfl, hb1⟩
  obtain ⟨hc1, hf1⟩ := bcell hb1
  obtain ⟨hz0, hz1⟩ : w.heap.size < w1.heap.size ∧ w.heap.size + 1 < w1.heap.size := by have := hb1.size; (try simp at this); omega
  go_wp2_with fail
  have hB1 : Below w.heap.size w w1 := bfin (by go_grown) hb1
  have hs1 := hb1.size
  simp at hs1
  have HX := Lib.hid (show Blk3 (w1.alloc (.cells #[(.int .i64 gx), (.int .i64 gy), (.int .i64 gz)] 34)) w.heap.size 34 fx fy fz from heap_alloc (heap_below (by exact heap_alloc heap_new) hb1))
  have HY := Lib.hid (show Blk3 (w1.alloc (.cells #[(.int .i64 gx), (.int .i64 gy), (.int .i64 gz)] 34)) w1.heap.size 34 gx gy gz from heap_new)
  have HO0 := Lib.hid (own_below (World.ownsRow_lit (e := 34) (size := 3) (base := w.heap.size) (w.alloc (.cells #[(.int .i64 fx), (.int .i64 fy), (.int .i64 fz)] 34)) #[(.int .i64 fx), (.int .i64 fy), (.int .i64 fz)] 1 (by simp) (by simp [maxLen]) rfl) hb1)
  simp only [World.size_alloc] at HO0
  have hBW : Below w.heap.size w (w1.alloc (.cells #[(.int .i64 gx), (.int .i64 gy), (.int .i64 gz)] 34)) := hB1.alloc (by omega) _
  clear hb1 hc1 hf1
  go_loopw [3, 4] (fun v p wr => ∃ (k b : Nat) (g : F3), p = .pointer (some ⟨b, 0, none⟩) ∧ Hid (CyAt ⟨fx, fy, fz⟩ N k g) ∧ Hid (wr.ownsRow w.heap.size 34 3 v k (ints (flatF (cycL ⟨fx, fy, fz⟩ k)))) ∧ Hid (Blk3 wr b 34 g.x g.y g.z) ∧ Hid (Blk3 wr w.heap.size 34 fx fy fz) ∧ Hid (Off w.heap.size b v) ∧ w.heap.size < b ∧ Below w.heap.size w wr) (fun v _ _ => N - sLen v)
  case atStart => exact ⟨1, w1.heap.size, ⟨gx, gy, gz⟩, rfl, HA1, Lib.hid (by rw [HF0.out]; exact HO0.out.alloc _), HY, HX, Lib.hid ⟨fun k hk => by simp [Value.ownBlock] at hk; omega, fun k hk => by simp [Value.ownBlock] at hk; omega⟩, by omega, hBW⟩
  case round =>
    obtain ⟨k, b, ⟨x, y, z⟩, rfl, HC, HO, HG, HF, HOf, hbb, hb⟩ := hrel
    have hsz := hb.size
    have hk1 := HC.out.k1
    have hkN := HC.out.kN
    obtain ⟨⟨a0, a1, a2⟩, ⟨-, -, -⟩, la⟩ := HG.out.open_
    obtain ⟨⟨e0, e1, e2⟩, ⟨-, -, -⟩, le⟩ := HF.out.open_
    simp only at a0 a1 a2
    by_cases hEq : x = fx ∧ y = fy ∧ z = fz
    · obtain ⟨rfl, rfl, rfl⟩ := hEq
      have hE : (x == x && (y == y && z == z)) = true := by simp
      obtain rfl := HC.out.stop rfl
      go_wp2_with fail
      go_ret
      exact ⟨_, rfl, HO.out, hb⟩
    · have hlt := HC.out.go (fun e => hEq (by injection e with e1 e2 e3; exact ⟨e1, e2, e3⟩))
      have hE : (x == fx && (y == fy && z == fz)) = false := by
        rw [Bool.eq_false_iff]; intro h; simp at h; exact hEq h
      clear hEq
      have HV := Lib.hid (HCn.out k _ HC.out.it)
      have HV2 := Lib.hid (HNxt.out k _ HC.out.it)
      have HNk := Lib.hid (fun W => HNx.out k _ W HC.out.it)
      simp only at HNk
      generalize nextQ ⟨x, y, z⟩ = G at *
      obtain ⟨p, q, r⟩ := G
      simp only at HNk
      go_wp2_with (at_builtin; refine app_one elF rfl _ _ rfl rfl rfl (by simp) (HO.out) (hb) rfl (by intro u hu; simp at hu; first | (subst hu; rfl) | (rcases hu with rfl | rfl <;> rfl) | (rcases hu with rfl | rfl | rfl <;> rfl) | (rcases hu with rfl | rfl | rfl | rfl <;> rfl)) (hsz) (by omega) ?_; intro v' w4 hown4 hb4 hg4; have HO4 := Lib.hid hown4; clear hown4; have hg4' := Lib.hid hg4 ; have HG4 := Lib.hid (heap_app HG.out hg4 HOf.out.ne) ; clear hg4 ; obtain ⟨⟨b0, b1, b2⟩, ⟨-, -, -⟩, lb⟩ := Blk3.open_ (show Blk3 w4 b 34 x y z from HG4.out))
      have HF4 := Lib.hid (heap_app HF.out hg4'.out (fun k hk => by have := HOf.out.gt k hk; omega))
      have hs4 := hb4.size
      have hle4 := hg4'.out.grown.size
      refine (HNk.out _).mono ?_; rintro e w5 ⟨rfl, hb5⟩
      have HG5 := Lib.hid (show Blk3 w5 w4.heap.size 34 x y z from heap_below heap_new hb5)
      obtain ⟨⟨c0, c1, c2⟩, ⟨i0, i1, i2⟩, lc⟩ := HG5.out.open_
      go_wp2_with fail
      have hs5 := hb5.size
      simp at hs5
      have HF5 := Lib.hid (show Blk3 w5 w.heap.size 34 fx fy fz from heap_below (by exact heap_alloc HF4.out) hb5)
      have HO5 := Lib.hid (own_below (HO4.out.alloc (.cells #[(.int .i64 x), (.int .i64 y), (.int .i64 z)] 34)) hb5)
      have hB5 : Below w.heap.size w w5 := (hb4.alloc hs4 _).trans (hb5.mono (by simp; omega))
      have hlv : ∀ k, v'.ownBlock = some k → k < w4.heap.size := fun k hk => own_lt HO4.out hk
      have HOf5 := Lib.hid (HOf.out.app (b' := w4.heap.size) hg4'.out (by omega) (Nat.le_refl _) hlv)
      go_roundw
      case rel => exact ⟨k + 1, w4.heap.size, ⟨p, q, r⟩, rfl, Lib.hid (by have := HS.out (k + 1) (by omega) hlt; rw [HV2.out] at this; exact this), Lib.hid (by rw [HV.out, flatF_snoc]; simpa [ints] using own_store (own_store (own_store HO5.out HOf5.out.ne) HOf5.out.ne) HOf5.out.ne), Lib.hid (heap_set3 HG5.out), Lib.hid (heap_keep (heap_keep (heap_keep HF5.out (by omega)) (by omega)) (by omega)), HOf5, by omega, by go_grown⟩
      case measure => 
        have m1 := own_sLen HO.out
        have m2 := own_sLen HO4.out
        show N - sLen v' < N - sLen _
        rw [m1, m2]
        omega
set_option maxRecDepth 100000 in
set_option maxHeartbeats 4000000 in
theorem l05Cycle_any (f : F3) (N : Nat) (w : World) (hc : IsCyc f) (hP : Period f N) :
    Calls Try.prog 34 #[(.agg #[.int .i64 f.x, .int .i64 f.y, .int .i64 f.z])] w fun e w' => ∃ v, e = .returned v ∧ w'.ownsRow w.heap.size 34 3 v N (ints (flatF (cycL f N))) ∧ Below w.heap.size w w' := by
  have H0 := Lib.hid (fun W => l05Next_any f.x f.y f.z W (hc.all 0).sm (hc.all 0).ok)
  have HNx := Lib.hid (fun k g W (h : itN f k = g) => show Calls Try.prog _ #[(.agg #[.int .i64 g.x, .int .i64 g.y, .int .i64 g.z])] W fun e w' => e = .returned (.agg #[.int .i64 ((nextQ g).x), .int .i64 ((nextQ g).y), .int .i64 ((nextQ g).z)]) ∧ Below W.heap.size W w' by
    subst h; exact l05Next_any (itN f k).x (itN f k).y (itN f k).z W (hc.all k).sm (hc.all k).ok)
  have HS := Lib.hid (show ∀ k, 1 ≤ k → k ≤ N → CyAt f N k (itN f k) from fun k h1 h2 => cyAt hP h1 h2)
  have hN1 := hP.n1
  have hN2 := hP.n2
  have HI0 := Lib.hid (show nextF f.x f.y f.z = itN f 1 from rfl)
  rw [HI0.out] at H0
  have HC0 := Lib.hid (show cycL f 1 = [f] by simp [cycL, itN])
  have HA1 := Lib.hid (HS.out 1 (by omega) hN1)
  have HCn := Lib.hid (show ∀ k g, itN f k = g → cycL f (k + 1) = cycL f k ++ [g] from fun k g h => by rw [cycL_snoc, h])
  have HNxt := Lib.hid (show ∀ k g, itN f k = g → itN f (k + 1) = nextQ g from fun k g h => by rw [← h]; rfl)
  clear hc hP HI0
  generalize itN f 1 = G1 at *
  have HF0 := Lib.hid (show ints (flatF (cycL f 1)) = [(.int .i64 f.x), (.int .i64 f.y), (.int .i64 f.z)] by rw [HC0.out]; simp [flatF, ints])
  clear HC0
  obtain ⟨fx, fy, fz⟩ := f
  obtain ⟨gx, gy, gz⟩ := G1
  simp only at *
  go_enter Try.func34, Try.ntmps34
  go_wp2_with fail
  refine (H0.out _).mono ?_; rintro e w1 ⟨rfl, hb1⟩
  obtain ⟨hc1, hf1⟩ := bcell hb1
  obtain ⟨hz0, hz1⟩ : w.heap.size < w1.heap.size ∧ w.heap.size + 1 < w1.heap.size := by have := hb1.size; (try simp at this); omega
  go_wp2_with fail
  have hB1 : Below w.heap.size w w1 := bfin (by go_grown) hb1
  have hs1 := hb1.size
  simp at hs1
  have HX := Lib.hid (show Blk3 (w1.alloc (.cells #[(.int .i64 gx), (.int .i64 gy), (.int .i64 gz)] 34)) w.heap.size 34 fx fy fz from heap_alloc (heap_below (by exact heap_alloc heap_new) hb1))
  have HY := Lib.hid (show Blk3 (w1.alloc (.cells #[(.int .i64 gx), (.int .i64 gy), (.int .i64 gz)] 34)) w1.heap.size 34 gx gy gz from heap_new)
  have HO0 := Lib.hid (own_below (World.ownsRow_lit (e := 34) (size := 3) (base := w.heap.size) (w.alloc (.cells #[(.int .i64 fx), (.int .i64 fy), (.int .i64 fz)] 34)) #[(.int .i64 fx), (.int .i64 fy), (.int .i64 fz)] 1 (by simp) (by simp [maxLen]) rfl) hb1)
  simp only [World.size_alloc] at HO0
  have hBW : Below w.heap.size w (w1.alloc (.cells #[(.int .i64 gx), (.int .i64 gy), (.int .i64 gz)] 34)) := hB1.alloc (by omega) _
  clear hb1 hc1 hf1
  go_loopw [3, 4] (fun v p wr => ∃ (k b : Nat) (g : F3), p = .pointer (some ⟨b, 0, none⟩) ∧ Hid (CyAt ⟨fx, fy, fz⟩ N k g) ∧ Hid (wr.ownsRow w.heap.size 34 3 v k (ints (flatF (cycL ⟨fx, fy, fz⟩ k)))) ∧ Hid (Blk3 wr b 34 g.x g.y g.z) ∧ Hid (Blk3 wr w.heap.size 34 fx fy fz) ∧ Hid (Off w.heap.size b v) ∧ w.heap.size < b ∧ Below w.heap.size w wr) (fun v _ _ => N - sLen v)
  case atStart => exact ⟨1, w1.heap.size, ⟨gx, gy, gz⟩, rfl, HA1, Lib.hid (by rw [HF0.out]; exact HO0.out.alloc _), HY, HX, Lib.hid ⟨fun k hk => by simp [Value.ownBlock] at hk; omega, fun k hk => by simp [Value.ownBlock] at hk; omega⟩, by omega, hBW⟩
  case round =>
    obtain ⟨k, b, ⟨x, y, z⟩, rfl, HC, HO, HG, HF, HOf, hbb, hb⟩ := hrel
    have hsz := hb.size
    have hk1 := HC.out.k1
    have hkN := HC.out.kN
    obtain ⟨⟨a0, a1, a2⟩, ⟨-, -, -⟩, la⟩ := HG.out.open_
    obtain ⟨⟨e0, e1, e2⟩, ⟨-, -, -⟩, le⟩ := HF.out.open_
    simp only at a0 a1 a2
    by_cases hEq : x = fx ∧ y = fy ∧ z = fz
    · obtain ⟨rfl, rfl, rfl⟩ := hEq
      have hE : (x == x && (y == y && z == z)) = true := by simp
      obtain rfl := HC.out.stop rfl
      go_wp2_with fail
      go_ret
      exact ⟨_, rfl, HO.out, hb⟩
    · have hlt := HC.out.go (fun e => hEq (by injection e with e1 e2 e3; exact ⟨e1, e2, e3⟩))
      have hE : (x == fx && (y == fy && z == fz)) = false := by
        rw [Bool.eq_false_iff]; intro h; simp at h; exact hEq h
      clear hEq
      have HV := Lib.hid (HCn.out k _ HC.out.it)
      have HV2 := Lib.hid (HNxt.out k _ HC.out.it)
      have HNk := Lib.hid (fun W => HNx.out k _ W HC.out.it)
      simp only at HNk
      generalize nextQ ⟨x, y, z⟩ = G at *
      obtain ⟨p, q, r⟩ := G
      simp only at HNk
      go_wp2_with (at_builtin; refine app_one elF rfl _ _ rfl rfl rfl (by simp) (HO.out) (hb) rfl (by intro u hu; simp at hu; first | (subst hu; rfl) | (rcases hu with rfl | rfl <;> rfl) | (rcases hu with rfl | rfl | rfl <;> rfl) | (rcases hu with rfl | rfl | rfl | rfl <;> rfl)) (hsz) (by omega) ?_; intro v' w4 hown4 hb4 hg4; have HO4 := Lib.hid hown4; clear hown4; have hg4' := Lib.hid hg4 ; have HG4 := Lib.hid (heap_app HG.out hg4 HOf.out.ne) ; clear hg4 ; obtain ⟨⟨b0, b1, b2⟩, ⟨-, -, -⟩, lb⟩ := Blk3.open_ (show Blk3 w4 b 34 x y z from HG4.out))
      have HF4 := Lib.hid (heap_app HF.out hg4'.out (fun k hk => by have := HOf.out.gt k hk; omega))
      have hs4 := hb4.size
      have hle4 := hg4'.out.grown.size
      refine (HNk.out _).mono ?_; rintro e w5 ⟨rfl, hb5⟩
      have HG5 := Lib.hid (show Blk3 w5 w4.heap.size 34 x y z from heap_below heap_new hb5)
      obtain ⟨⟨c0, c1, c2⟩, ⟨i0, i1, i2⟩, lc⟩ := HG5.out.open_
      go_wp2_with fail
      have hs5 := hb5.size
      simp at hs5
      have HF5 := Lib.hid (show Blk3 w5 w.heap.size 34 fx fy fz from heap_below (by exact heap_alloc HF4.out) hb5)
      have HO5 := Lib.hid (own_below (HO4.out.alloc (.cells #[(.int .i64 x), (.int .i64 y), (.int .i64 z)] 34)) hb5)
      have hB5 : Below w.heap.size w w5 := (hb4.alloc hs4 _).trans (hb5.mono (by simp; omega))
      have hlv : ∀ k, v'.ownBlock = some k → k < w4.heap.size := fun k hk => own_lt HO4.out hk
      have HOf5 := Lib.hid (HOf.out.app (b' := w4.heap.size) hg4'.out (by omega) (Nat.le_refl _) hlv)
      go_roundw
      case rel => exact ⟨k + 1, w4.heap.size, ⟨p, q, r⟩, rfl, Lib.hid (by have := HS.out (k + 1) (by omega) hlt; rw [HV2.out] at this; exact this), Lib.hid (by rw [HV.out, flatF_snoc]; simpa [ints] using own_store (own_store (own_store HO5.out HOf5.out.ne) HOf5.out.ne) HOf5.out.ne), Lib.hid (heap_set3 HG5.out), Lib.hid (heap_keep (heap_keep (heap_keep HF5.out (by omega)) (by omega)) (by omega)), HOf5, by omega, by go_grown⟩
      case measure => 
        have m1 := own_sLen HO.out
        have m2 := own_sLen HO4.out
        show N - sLen v' < N - sLen _
        rw [m1, m2]
        omega
end Go.Proofs.Ytcaiofhdcffogaa
