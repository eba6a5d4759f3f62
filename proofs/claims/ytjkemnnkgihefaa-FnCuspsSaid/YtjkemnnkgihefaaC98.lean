/- Contracts: cycles of a permutation, sorted. -/
import Derived.Test.YtjkemnnkgihefaaCc
import Derived.Test.YtjkemnnkgihefaaPlain
import Derived.Test.YtjkemnnkgihefaaRow3
import Derived.Test.YtjkemnnkgihefaaSh
import Derived.Sort.OwnSortedInts
namespace Go.Proofs.Ytjkemnnkgihefaa
open Go.RowKit
theorem ints_setC (l : List Int) (i : Nat) (x : Int) : (ints l).set i (.int .i64 x) = ints (l.set i x) := by simp [ints, List.map_set]
/-- The library's sort over a row of one's own. -/
theorem sortI_own (v : Value) (B n : Nat) (xs : List Int) (w : World) (hl : xs.length = n) (hn : n ≤ 1000000000) (h : w.ownsRow B 2 1 v n (ints xs)) :
    Calls Try.prog 69 #[v] w fun e w' => e = .returned (.tuple #[]) ∧ w'.ownsRow B 2 1 v n (ints (xs.mergeSort fun x y => decide (x ≤ y))) ∧ w.grownBy w' v.ownBlock := by
  subst hl
  obtain ⟨h1, h2⟩ := h
  rcases h2 with ⟨rfl, h0⟩ | ⟨g, cap, cur, rfl, hB, hh, hle, hmax, hs, ht⟩
  · have hx : xs = [] := List.eq_nil_of_length_eq_zero h0
    subst hx
    refine (sh_slices_Sort_int_none none 0 w).mono ?_
    rintro e w' ⟨rfl, rfl⟩
    exact ⟨rfl, ⟨by simp [ints], .inl ⟨rfl, rfl⟩⟩, grown_refl' _ _⟩
  · rw [Nat.mul_one] at ht
    refine (sh_slices_Sort_int g 0 cap xs w (holds_of_blockI hh ht) (lt_of_blk hh) (by omega)).mono ?_
    rintro e w' ⟨rfl, m, os, rfl⟩
    exact ⟨rfl, ownsRow_sortedI (ss := xs) (ts := xs.mergeSort fun x y => decide (x ≤ y)) (by simp) hB hh hle hmax hs, grownBy_sortedI _⟩
def zsB (n : Nat) : Array Value := madeCells #[.bool false] n
theorem zsB_list (n : Nat) : (zsB n).toList = List.replicate n (.bool false) := by
  unfold zsB madeCells
  apply List.ext_getElem
  · simp
  · intro i h1 h2
    simp [Nat.mod_one]
theorem zsB_size (n : Nat) : (zsB n).size = n := size_madeCells _ _
set_option maxRecDepth 100000 in
theorem mkB (n : Nat) (hn : n ≤ 100000) (W : World) : (Instr.makeSlice 89 (.int .i64 (n : Int)) (.int .i64 (n : Int))).run Try.prog W = .ok (.slice (some ⟨W.heap.size, 0, none⟩) n n) (W.alloc (.cells (zsB n) 4)) := by
  obtain ⟨i, hi, h2⟩ := Option.map_eq_some_iff.1 (show (Try.prog.info? 4).map (fun i => (i.zero, i.size, i.bytes)) = some (some (.bool false), 1, 1) by kernel_rfl)
  simp only [Prod.mk.injEq] at h2
  have := run_make (P := Try.prog) W 89 4 i (.bool false) Try.underlying89 hi h2.1 .i64 .i64 n n (by omega) (Int.le_refl _) (by rw [h2.2.2]; omega) (by omega)
  rw [Int.toNat_natCast, h2.2.1, Nat.mul_one] at this
  exact this
/-- Which places are numbered. -/
def mB (N : List Int) : List Value := N.map fun x => .bool (decide (0 ≤ x))
theorem mB_at {N : List Int} {k : Nat} (h : k < N.length) : (mB N)[k]? = some (.bool (decide (0 ≤ N.getD k 0))) := by
  simp [mB, List.getElem?_eq_getElem h, List.getD]
theorem mB_set {N : List Int} {k : Nat} {c : Int} (hc : 0 ≤ c) : (mB N).set k (.bool true) = mB (N.set k c) := by
  unfold mB
  rw [List.map_set]
  simp [hc]
theorem mB_start (n : Nat) : mB (List.replicate n (-1)) = List.replicate n (.bool false) := by simp [mB]
/-- One more row is put behind, that lies in another block than the others. -/
theorem OwnsSS.push2 {wr w' : World} {B n m : Nat} {ES EI : TypeId} {v v' u : Value} {inn vs : List Value} {len : Nat → Nat} {f : Nat → List Value} (hne : ES ≠ EI) (h : OwnsSS wr B ES EI v n inn len f) (hu : wr.ownsRow B EI 1 u m vs)
    (hap : ∀ (i : Nat) (u' : Value) (b : Nat), inn[i]? = some u' → u'.ownBlock = some b → u.ownBlock ≠ some b) (ho : w'.ownsRow B ES 1 v' (n + 1) (inn ++ [u])) (hg : wr.grownBy w' v.ownBlock) :
    OwnsSS w' B ES EI v' (n + 1) (inn ++ [u]) (fun i => if i = n then m else len i) (fun i => if i = n then vs else f i) := by
  have hl := h.lenE
  have key : ∀ i u', (inn ++ [u])[i]? = some u' → (i < n ∧ inn[i]? = some u') ∨ (i = n ∧ u' = u) := fun i u' hu' => by
    have hlt := (List.getElem?_eq_some_iff.1 hu').1
    simp at hlt
    by_cases hi : i < n
    · rw [List.getElem?_append_left (by omega)] at hu'; exact .inl ⟨hi, hu'⟩
    · have : i = n := by omega
      subst this
      rw [← hl, List.getElem?_append_right (Nat.le_refl _)] at hu'
      simp at hu'
      exact .inr ⟨by omega, hu'.symm⟩
  have keep : ∀ {m' : Nat} {x : Value} {xs : List Value}, wr.ownsRow B EI 1 x m' xs → w'.ownsRow B EI 1 x m' xs := fun {m' x xs} hx => by
    refine hx.kept hg ?_
    cases hxb : x.ownBlock with
    | none => exact .inl rfl
    | some b => exact .inr fun e => own_types h.out hx hne b e.symm hxb
  refine ⟨ho, fun i u' hu' => ?_, fun i j u1 u2 b h1 h2 hb1 hb2 => ?_⟩
  · rcases key i u' hu' with ⟨h1, h2⟩ | ⟨h1, h2⟩
    · rw [if_neg (by omega), if_neg (by omega)]; exact keep (h.row i u' h2)
    · subst h2; rw [if_pos h1, if_pos h1]; exact keep hu
  · rcases key i u1 h1 with ⟨k1, k2⟩ | ⟨k1, k2⟩ <;> rcases key j u2 h2 with ⟨k3, k4⟩ | ⟨k3, k4⟩
    · exact h.apart i j u1 u2 b k2 k4 hb1 hb2
    · subst k4; exact absurd hb2 (hap i u1 b k2 hb1)
    · subst k2; exact absurd hb1 (hap j u2 b k4 hb2)
    · omega
theorem lenX_snoc {xss : List (List Int)} {ys : List Int} {n : Nat} (hn : xss.length = n) (i : Nat) (hi : i < n + 1) : lenX (xss ++ [ys]) i = if i = n then ys.length else lenX xss i := by
  unfold lenX
  by_cases h : i = n
  · subst h; rw [if_pos rfl]; simp [List.getD, ← hn]
  · rw [if_neg h]
    simp only [List.getD_eq_getElem?_getD]
    rw [List.getElem?_append_left (by omega)]
theorem intX_snoc {xss : List (List Int)} {ys : List Int} {n : Nat} (hn : xss.length = n) (i : Nat) (hi : i < n + 1) : intX (xss ++ [ys]) i = if i = n then ints ys else intX xss i := by
  unfold intX
  by_cases h : i = n
  · subst h; rw [if_pos rfl]; simp [List.getD, ← hn]
  · rw [if_neg h]
    simp only [List.getD_eq_getElem?_getD]
    rw [List.getElem?_append_left (by omega)]
theorem SS.push2 {wr w' : World} {B n : Nat} {v v' u : Value} {inn : List Value} {xss : List (List Int)} {ys : List Int} (hn : xss.length = n) (h : SS wr B v n inn (lenX xss) (intX xss)) (hu : wr.ownsRow B 2 1 u ys.length (ints ys))
    (hap : ∀ (i : Nat) (u' : Value) (b : Nat), inn[i]? = some u' → u'.ownBlock = some b → u.ownBlock ≠ some b) (ho : w'.ownsRow B 54 1 v' (n + 1) (inn ++ [u])) (hg : wr.grownBy w' v.ownBlock) :
    SS w' B v' (n + 1) (inn ++ [u]) (lenX (xss ++ [ys])) (intX (xss ++ [ys])) :=
  (OwnsSS.push2 ss_ne h hu hap ho hg).congr (fun i hi => (lenX_snoc hn i hi).symm) (fun i hi => (intX_snoc hn i hi).symm)
/-- All blocks of rows of rows lie under b. -/
structure UnderB (v : Value) (inn : List Value) (b : Nat) : Prop where
  v : ∀ k, v.ownBlock = some k → k < b
  i : ∀ (i : Nat) (u : Value) (k : Nat), inn[i]? = some u → u.ownBlock = some k → k < b
theorem underB_of {w : World} {B n : Nat} {ES EI : TypeId} {v : Value} {inn : List Value} {len : Nat → Nat} {f : Nat → List Value} (h : OwnsSS w B ES EI v n inn len f) : UnderB v inn w.heap.size :=
  ⟨fun _ hk => own_lt h.out hk, fun i u _ hu hk => own_lt (h.row i u hu) hk⟩
/-- Rows of rows are kept where another block turns. -/
theorem OwnsSS.far {w w' : World} {B n b : Nat} {ES EI : TypeId} {v : Value} {inn : List Value} {len : Nat → Nat} {f : Nat → List Value} {row : Option Nat} (h : OwnsSS w B ES EI v n inn len f) (hu : UnderB v inn b) (hg : w.grownBy w' row) (hne : ∀ k, row = some k → b ≤ k) : OwnsSS w' B ES EI v n inn len f := by
  have key : ∀ {B' z n' : Nat} {E : TypeId} {u : Value} {xs : List Value}, (∀ k, u.ownBlock = some k → k < b) → w.ownsRow B' E z u n' xs → w'.ownsRow B' E z u n' xs := fun {B' z n' E u xs} hub ho => by
    refine ho.kept hg ?_
    cases huo : u.ownBlock with
    | none => exact .inl rfl
    | some k => exact .inr fun e => by have := hne k e.symm; have := hub k huo; omega
  exact ⟨key hu.v h.out, fun i u hi => key (fun k hk => hu.i i u k hi hk) (h.row i u hi), h.apart⟩
/-- Rows of rows are kept where a row of another type turns. -/
theorem OwnsSS.other {w w' : World} {B B' n z nm : Nat} {ES EI E : TypeId} {v vm : Value} {inn xs : List Value} {len : Nat → Nat} {f : Nat → List Value} (h : OwnsSS w B ES EI v n inn len f) (hm : w.ownsRow B' E z vm nm xs) (h1 : E ≠ ES) (h2 : E ≠ EI) (hg : w.grownBy w' vm.ownBlock) : OwnsSS w' B ES EI v n inn len f := by
  have key : ∀ {B2 z2 n2 : Nat} {E2 : TypeId} {u : Value} {ys : List Value}, E ≠ E2 → w.ownsRow B2 E2 z2 u n2 ys → w'.ownsRow B2 E2 z2 u n2 ys := fun {B2 z2 n2 E2 u ys} hE ho => by
    refine ho.kept hg ?_
    cases huo : u.ownBlock with
    | none => exact .inl rfl
    | some k => exact .inr fun e => own_types hm ho hE k e.symm huo
  exact ⟨key h1 h.out, fun i u hi => key h2 (h.row i u hi), h.apart⟩
theorem sortI_idxs {N O : List Int} {c : Int} (hnd : O.Nodup) (hm : ∀ x : Int, x ∈ O ↔ 0 ≤ x ∧ x < N.length ∧ N.getD x.toNat 0 = c) : (O.mergeSort fun x y => decide (x ≤ y)) = idxs N c := by
  refine idxs_uniq hnd hm (List.mergeSort_perm _ _) ?_
  have := List.pairwise_mergeSort (le := fun x y : Int => decide (x ≤ y)) (fun a b c h1 h2 => by simp at *; omega) (fun a b => by simp; omega) O
  exact this.imp (fun h => by simpa using h)
/-- A row lies from block b on. -/
structure GeB (b : Nat) (v : Value) : Prop where
  out : ∀ k, v.ownBlock = some k → b ≤ k
theorem GeB.app {b : Nat} {wr w' : World} {v v' : Value} (h : GeB b v) (ha : App wr w' v v') (hs : b ≤ wr.heap.size) : GeB b v' := ⟨fun k hk => by
  rcases ha.sit k hk with h1 | h1
  · exact h.out k h1
  · omega⟩
set_option maxRecDepth 100000 in
set_option maxHeartbeats 10000000 in
theorem orbits_any (A : Option Addr) (cap B : Nat) (p : List Int) (w : World) (hp : PIn p) (hl : p.length ≤ 4000) (hat : RowAt w B A p.length (ints p)) :
    Calls Try.prog 60 #[.slice A p.length cap] w fun e w' => ∃ v inn, e = .returned v ∧ SS w' w.heap.size v (cusL p).length inn (lenX (cusL p)) (intX (cusL p)) ∧ Below w.heap.size w w' := by
  have HA := Lib.hid hat
  have HP := Lib.hid hp
  have hmk := mkB p.length (by omega)
  have HV := Lib.hid (fun i hi => cusInv hp i hi)
  have HG := Lib.hid (fun i h => @cusN_go p i h)
  have HN := Lib.hid (fun i h => @cusN_no p i h)
  have HZ := Lib.hid (show (zsB p.length).toList = mB (cusN p 0).1 by rw [zsB_list]; exact (mB_start _).symm)
  have HZ2 := Lib.hid (show rowsC (cusN p 0).1 (cusN p 0).2.toNat = [] from rfl)
  have HZ3 := Lib.hid (show (cusN p 0).2 = 0 from rfl)
  have HCL := Lib.hid (show cusL p = rowsC (cusN p p.length).1 (cusN p p.length).2.toNat from rfl)
  rw [HCL.out, rowsC_len]
  generalize hcu : cusN p = cu at *
  clear hcu hp hat HCL
  go_enter Try.func60, Try.ntmps60
  go_wp2_with fail
  go_region
  · go_wp2_with fail
    go_loopw [3, 14] (fun vo i wr => ∃ (k : Nat) (inn : List Value), i = (.int .i64 ((k : Int))) ∧ k ≤ p.length ∧ Hid (SS wr w.heap.size vo (cu k).2.toNat inn (lenX (rowsC (cu k).1 (cu k).2.toNat)) (intX (rowsC (cu k).1 (cu k).2.toNat))) ∧ Hid (wr.ownsRow w.heap.size 4 1 (.slice (some ⟨w.heap.size + 1, 0, none⟩) p.length p.length) p.length (mB (cu k).1)) ∧ Below w.heap.size w wr) (fun _ i _ => p.length - (intOf i).toNat)
    case atStart => 
      have q1 := (OwnsSS.lit0 w w.heap.size 54 2 (lenX []) (intX []) (Nat.le_refl _)).below ((Below.refl _ _).alloc (Nat.le_refl _) (.cells (zsB p.length) 4))
      have q2 := Lib.hid (by simpa using World.ownsRow_lit (e := 4) (size := 1) (base := w.heap.size) (w.alloc (.cells #[] 54)) (zsB p.length) p.length (by simp) (by unfold maxLen; omega) (by rw [zsB_size, Nat.mul_one]))
      rw [HZ.out] at q2
      exact ⟨0, [], rfl, Nat.zero_le _, Lib.hid (by rw [HZ2.out, HZ3.out]; have q3 := OwnsSS.below q1 ((Below.refl _ _).drew); simpa using q3), Lib.hid (by have q3 := own_below q2.out ((Below.refl _ _).drew); simpa using q3), by go_grown⟩
    case round =>
      obtain ⟨i, inn, rfl, hi, HO, HM, hb⟩ := hrel
      have hsz := hb.size
      have HIv := Lib.hid (HV.out i hi)
      have HGi := Lib.hid (HG.out i)
      have HNi := Lib.hid (HN.out i)
      have kc0 := HIv.out.c0
      have kc1 := HIv.out.c1
      have hNl := HIv.out.len
      by_cases hlt : i < p.length
      · have hx1 := HIv.out.hi i hlt
        obtain ⟨bq, hbq, -, hml, hmc, -⟩ := (own_at HM.out) (by omega)
        injection hbq with hbq
        injection hbq with hbq
        subst hbq
        have g1 := hmc i _ (mB_at (by omega))
        clear hmc
        by_cases hN : (cu i).1.getD i 0 < 0
        · rw [decide_eq_false (by omega)] at g1
          have HE := Lib.hid (HGi.out hN)
          have HR := Lib.hid (show rowsC (chainN p (cu i).2 p.length (cu i).1 i) (cu i).2.toNat = rowsC (cu i).1 (cu i).2.toNat from rowsC_old HP.out HIv.out.len hlt _ (by omega))
          have HS := Lib.hid (show ChAt2 p (cu i).2 (chainN p (cu i).2 p.length (cu i).1 i) p.length (cu i).1 i [] from
            ⟨HIv.out.len, hlt, rfl, by rw [← hNl]; exact negs_le _, by simp, fun x => ⟨fun hx => by simp at hx, fun ⟨x0, x1, x2⟩ => by
              have := HIv.out.hi x.toNat (by omega)
              omega⟩⟩)
          clear HIv HGi HNi
          obtain ⟨NF, hNF⟩ : ∃ NF, chainN p (cu i).2 p.length (cu i).1 i = NF := ⟨_, rfl⟩
          rw [hNF] at HE HS HR
          clear hNF hNl
          have hE1 : (cu (i + 1)).1 = NF := by rw [HE.out]
          have hE2 : (cu (i + 1)).2 = (cu i).2 + 1 := by rw [HE.out]
          have HE1 := Lib.hid hE1
          have HE2 := Lib.hid hE2
          clear hE1 hE2 HE hx1
          generalize (cu i).2 = c at *
          generalize (cu i).1 = N0 at *
          have HUB := Lib.hid (underB_of HO.out)
          have hbm : w.heap.size + 1 < wr.heap.size := hml
          obtain ⟨wo, rfl⟩ : ∃ wo : World, wo = wr := ⟨_, rfl⟩
          clear hml
          go_wp2_with fail
          have HO' := Lib.hid (HO.out.below (w' := wo.alloc (.cells #[] 2)) ((Below.refl _ _).alloc (Nat.le_refl _) _))
          have HM' := Lib.hid (HM.out.alloc (.cells #[] 2))
          have hb' := hb.alloc hsz (.cells #[] 2)
          go_loopg [6, 7] p.length (fun g v a wr => ∃ (k : Nat) (M O : List Int), a = (.int .i64 ((k : Int))) ∧ Hid (ChAt2 p c NF g M k O) ∧ Hid (SS wr w.heap.size u3 c.toNat inn (lenX (rowsC N0 c.toNat)) (intX (rowsC N0 c.toNat))) ∧ Hid (wr.ownsRow w.heap.size 4 1 (.slice (some ⟨w.heap.size + 1, 0, none⟩) p.length p.length) p.length (mB M)) ∧ Hid (wr.ownsRow w.heap.size 2 1 v O.length (ints O)) ∧ Hid (GeB wo.heap.size v) ∧ Below w.heap.size w wr ∧ wo.heap.size ≤ wr.heap.size)
          case atStart => exact ⟨i, N0, [], rfl, HS, HO', HM', Lib.hid (World.ownsRow_lit wo #[] 0 hsz (by simp [maxLen]) rfl), Lib.hid ⟨fun k hk => by simp [Value.ownBlock] at hk; omega⟩, hb', by simp⟩
          case round =>
            obtain ⟨k, M, O, rfl, HC, HO, HM, HB, HGe, hb, hwo⟩ := hrel
            have hsz := hb.size
            have hk := HC.out.k0
            have hMl := HC.out.len
            obtain ⟨bq, hbq, -, hml, hmc, hmf⟩ := (own_at HM.out) (by omega)
            injection hbq with hbq
            injection hbq with hbq
            subst hbq
            have g2 := hmc k _ (mB_at (by omega))
            have g3 := hmf k
            clear hmc hmf
            by_cases hM : M.getD k 0 < 0
            · rw [decide_eq_false (by omega)] at g2
              have hOl := HC.out.lt hM kc0
              obtain ⟨g', rfl, hnx⟩ := HC.out.next HP.out hM kc0
              have HNx := Lib.hid hnx
              have HMs := Lib.hid (show (mB M).set k (.bool true) = mB (M.set k c) from mB_set kc0)
              obtain ⟨bp, hbp, -, hbl, hpc, -⟩ := HA.out (by omega)
              have g4 := hpc k _ (ints_at hk)
              rw [(HP.out.pk_lt hk).2] at g4
              clear hpc hnx
              have HX := Lib.hid (own_set (j := k) (u := .bool true) HM.out)
              have HY := Lib.hid (OwnsSS.other HO.out HM.out (by decide) (by decide) (grown_set (j := k) (u := .bool true)))
              have hneb : ∀ b, u6.ownBlock = some b → b ≠ w.heap.size + 1 := fun b hb => by have := HGe.out.out b hb; omega
              have HQ := Lib.hid (own_store (o := k) (u := .bool true) HB.out hneb)
              have hbs : Below w.heap.size w (wr.setCell ⟨w.heap.size + 1, k, none⟩ (.bool true)) := by go_grown
              have hbps : bp < w.heap.size := hbl
              have g5 : (wr.setCell ⟨w.heap.size + 1, k, none⟩ (.bool true)).cell? ⟨bp, k, none⟩ = some (.int .i64 ((pk p k : Nat))) := (hbs.cell (p := ⟨bp, k, none⟩) hbps).trans g4
              subst hbp
              go_wp2_with (at_builtin; refine app_one elI rfl _ _ rfl rfl rfl (by simp) (HQ.out) (hbs) rfl (by intro u hu; simp at hu; first | (subst hu; rfl) | (rcases hu with rfl | rfl <;> rfl) | (rcases hu with rfl | rfl | rfl <;> rfl) | (rcases hu with rfl | rfl | rfl | rfl <;> rfl)) (hbs.size) (by omega) ?_; intro v' w4 hown4 hb4 hg4; have HO4 := Lib.hid hown4; clear hown4; have hg4' := Lib.hid hg4 ; clear hg4 ; have g6 := (hb4.cell (p := ⟨bp, k, none⟩) hbps).trans g4)
              go_wp2_with fail
              go_roundg g'
              case measure => omega
              case rel => exact ⟨pk p k, M.set k c, O ++ [(k : Int)], rfl, HNx, Lib.hid (HY.out.far HUB.out hg4'.out.grown (fun b e => HGe.out.out b e)), Lib.hid (by rw [← HMs.out]; exact HX.out.kept hg4'.out.grown (.inr fun e => hneb _ e.symm rfl)), Lib.hid (by simpa [ints] using HO4.out), Lib.hid (HGe.out.app hg4'.out (by simpa using hwo)), hb4, Nat.le_trans hwo (by have := hg4'.out.grown.size; simpa using this)⟩
            · rw [decide_eq_true (by omega)] at g2
              obtain rfl := HC.out.stop hM
              obtain ⟨A6, cap6, rfl, hcap6, hmax6, -⟩ := own_view HB.out
              unfold maxLen at hmax6
              have hOl := HC.out.olen
              have HSo := Lib.hid (sortI_idxs (N := NF) HC.out.nd (by rw [hMl]; exact HC.out.mem))
              have HSt := Lib.hid (fun W h => sortI_own (.slice A6 O.length cap6) w.heap.size O.length O W rfl (by omega) h)
              rw [HSo.out] at HSt
              have hil : (idxs NF c).length = O.length := by rw [← HSo.out]; simp
              have HIl := Lib.hid hil
              clear hil
              go_wp2_with fail
              refine (HSt.out _ HB.out).mono ?_; rintro e w5 ⟨rfl, ho5, hg5⟩
              have HB5 := Lib.hid ho5
              have HO5 := Lib.hid (HO.out.far HUB.out hg5 (fun b e => HGe.out.out b e))
              have HM5 := Lib.hid (HM.out.kept hg5 (.inr fun e => by have : wo.heap.size ≤ w.heap.size + 1 := HGe.out.out _ e.symm; omega))
              have hb5 : Below w.heap.size w w5 := hb.grown hg5 hsz (fun b e => by have := HGe.out.out b e; omega)
              have hs5 := hb5.size
              have HU5 := Lib.hid (underB_of HO5.out)
              have HGe5 := Lib.hid (fun (j : Nat) (u' : Value) (b : Nat) (h1 : inn[j]? = some u') (h2 : u'.ownBlock = some b) => show (Value.slice A6 O.length cap6).ownBlock ≠ some b from fun e => by have := HGe.out.out b e; have := HUB.out.i j u' b h1 h2; omega)
              clear ho5 hg5
              go_wp2_with (at_builtin; refine app_one elS rfl _ _ rfl rfl rfl (by simp) (HO5.out.out) (hb5) rfl (by intro u hu; simp at hu; first | (subst hu; rfl) | (rcases hu with rfl | rfl <;> rfl) | (rcases hu with rfl | rfl | rfl <;> rfl) | (rcases hu with rfl | rfl | rfl | rfl <;> rfl)) (hs5) (by omega) ?_; intro v' w6 hown6 hb6 hg6; have HO6 := Lib.hid hown6; clear hown6)
              have hg6' := Lib.hid hg6
              clear hg6
              have HM6 := Lib.hid (HM5.out.kept hg6'.out.grown (.inr fun e => own_types HM5.out HO5.out.out (by decide) _ rfl e.symm))
              have HP6 := Lib.hid (SS.push2 (ys := idxs NF c) (rowsC_len N0 c.toNat) HO5.out (by rw [HIl.out]; exact HB5.out) HGe5.out HO6.out hg6'.out.grown)
              have HRow := Lib.hid (show rowsC (cu (i + 1)).1 (cu (i + 1)).2.toNat = rowsC N0 c.toNat ++ [idxs NF c] by
                rw [HE1.out, HE2.out, show (c + 1).toNat = c.toNat + 1 by omega]
                show rowsC NF c.toNat ++ [idxs NF (c.toNat : Nat)] = _
                rw [HR.out, show ((c.toNat : Nat) : Int) = c by omega])
              have HRn := Lib.hid (show (cu (i + 1)).2.toNat = c.toNat + 1 by rw [HE2.out]; omega)
              go_wp2_with fail
              go_roundw
              case rel => exact ⟨i + 1, inn ++ [.slice A6 O.length cap6], by go_num, by omega, Lib.hid (by rw [HRow.out, HRn.out]; exact HP6.out), Lib.hid (by rw [HE1.out]; exact HM6.out), hb6⟩
              case measure => simp [intOf]; omega
        · rw [decide_eq_true (by omega)] at g1
          have HE := Lib.hid (HNi.out (by omega))
          go_wp2_with fail
          go_roundw
          case rel => exact ⟨i + 1, inn, by go_num, by omega, Lib.hid (by rw [HE.out]; exact HO.out), Lib.hid (by rw [HE.out]; exact HM.out), hb⟩
          case measure => simp [intOf]; omega
      · obtain rfl : i = p.length := by omega
        go_wp2_with fail
        go_ret
        exact ⟨_, inn, rfl, HO.out, hb⟩
  · go_wp2_with fail
    go_loopw [3, 14] (fun vo i wr => ∃ (k : Nat) (inn : List Value), i = (.int .i64 ((k : Int))) ∧ k ≤ p.length ∧ Hid (SS wr w.heap.size vo (cu k).2.toNat inn (lenX (rowsC (cu k).1 (cu k).2.toNat)) (intX (rowsC (cu k).1 (cu k).2.toNat))) ∧ Hid (wr.ownsRow w.heap.size 4 1 (.slice (some ⟨w.heap.size, 0, none⟩) p.length p.length) p.length (mB (cu k).1)) ∧ Below w.heap.size w wr) (fun _ i _ => p.length - (intOf i).toNat)
    case atStart => 
      have q1 := OwnsSS.lit0 (w.alloc (.cells (zsB p.length) 4)) w.heap.size 54 2 (lenX []) (intX []) (by simp)
      have q2 := Lib.hid (by simpa using (World.ownsRow_lit (e := 4) (size := 1) (base := w.heap.size) w (zsB p.length) p.length (Nat.le_refl _) (by unfold maxLen; omega) (by rw [zsB_size, Nat.mul_one])).alloc (.cells #[] 54))
      rw [HZ.out] at q2
      exact ⟨0, [], rfl, Nat.zero_le _, Lib.hid (by rw [HZ2.out, HZ3.out]; have q3 := OwnsSS.below q1 ((Below.refl _ _).drew); simpa using q3), Lib.hid (by have q3 := own_below q2.out ((Below.refl _ _).drew); simpa using q3), by go_grown⟩
    case round =>
      obtain ⟨i, inn, rfl, hi, HO, HM, hb⟩ := hrel
      have hsz := hb.size
      have HIv := Lib.hid (HV.out i hi)
      have HGi := Lib.hid (HG.out i)
      have HNi := Lib.hid (HN.out i)
      have kc0 := HIv.out.c0
      have kc1 := HIv.out.c1
      have hNl := HIv.out.len
      by_cases hlt : i < p.length
      · have hx1 := HIv.out.hi i hlt
        obtain ⟨bq, hbq, -, hml, hmc, -⟩ := (own_at HM.out) (by omega)
        injection hbq with hbq
        injection hbq with hbq
        subst hbq
        have g1 := hmc i _ (mB_at (by omega))
        clear hmc
        by_cases hN : (cu i).1.getD i 0 < 0
        · rw [decide_eq_false (by omega)] at g1
          have HE := Lib.hid (HGi.out hN)
          have HR := Lib.hid (show rowsC (chainN p (cu i).2 p.length (cu i).1 i) (cu i).2.toNat = rowsC (cu i).1 (cu i).2.toNat from rowsC_old HP.out HIv.out.len hlt _ (by omega))
          have HS := Lib.hid (show ChAt2 p (cu i).2 (chainN p (cu i).2 p.length (cu i).1 i) p.length (cu i).1 i [] from
            ⟨HIv.out.len, hlt, rfl, by rw [← hNl]; exact negs_le _, by simp, fun x => ⟨fun hx => by simp at hx, fun ⟨x0, x1, x2⟩ => by
              have := HIv.out.hi x.toNat (by omega)
              omega⟩⟩)
          clear HIv HGi HNi
          obtain ⟨NF, hNF⟩ : ∃ NF, chainN p (cu i).2 p.length (cu i).1 i = NF := ⟨_, rfl⟩
          rw [hNF] at HE HS HR
          clear hNF hNl
          have hE1 : (cu (i + 1)).1 = NF := by rw [HE.out]
          have hE2 : (cu (i + 1)).2 = (cu i).2 + 1 := by rw [HE.out]
          have HE1 := Lib.hid hE1
          have HE2 := Lib.hid hE2
          clear hE1 hE2 HE hx1
          generalize (cu i).2 = c at *
          generalize (cu i).1 = N0 at *
          have HUB := Lib.hid (underB_of HO.out)
          have hbm : w.heap.size < wr.heap.size := hml
          obtain ⟨wo, rfl⟩ : ∃ wo : World, wo = wr := ⟨_, rfl⟩
          clear hml
          go_wp2_with fail
          have HO' := Lib.hid (HO.out.below (w' := wo.alloc (.cells #[] 2)) ((Below.refl _ _).alloc (Nat.le_refl _) _))
          have HM' := Lib.hid (HM.out.alloc (.cells #[] 2))
          have hb' := hb.alloc hsz (.cells #[] 2)
          go_loopg [6, 7] p.length (fun g v a wr => ∃ (k : Nat) (M O : List Int), a = (.int .i64 ((k : Int))) ∧ Hid (ChAt2 p c NF g M k O) ∧ Hid (SS wr w.heap.size u3 c.toNat inn (lenX (rowsC N0 c.toNat)) (intX (rowsC N0 c.toNat))) ∧ Hid (wr.ownsRow w.heap.size 4 1 (.slice (some ⟨w.heap.size, 0, none⟩) p.length p.length) p.length (mB M)) ∧ Hid (wr.ownsRow w.heap.size 2 1 v O.length (ints O)) ∧ Hid (GeB wo.heap.size v) ∧ Below w.heap.size w wr ∧ wo.heap.size ≤ wr.heap.size)
          case atStart => exact ⟨i, N0, [], rfl, HS, HO', HM', Lib.hid (World.ownsRow_lit wo #[] 0 hsz (by simp [maxLen]) rfl), Lib.hid ⟨fun k hk => by simp [Value.ownBlock] at hk; omega⟩, hb', by simp⟩
          case round =>
            obtain ⟨k, M, O, rfl, HC, HO, HM, HB, HGe, hb, hwo⟩ := hrel
            have hsz := hb.size
            have hk := HC.out.k0
            have hMl := HC.out.len
            obtain ⟨bq, hbq, -, hml, hmc, hmf⟩ := (own_at HM.out) (by omega)
            injection hbq with hbq
            injection hbq with hbq
            subst hbq
            have g2 := hmc k _ (mB_at (by omega))
            have g3 := hmf k
            clear hmc hmf
            by_cases hM : M.getD k 0 < 0
            · rw [decide_eq_false (by omega)] at g2
              have hOl := HC.out.lt hM kc0
              obtain ⟨g', rfl, hnx⟩ := HC.out.next HP.out hM kc0
              have HNx := Lib.hid hnx
              have HMs := Lib.hid (show (mB M).set k (.bool true) = mB (M.set k c) from mB_set kc0)
              obtain ⟨bp, hbp, -, hbl, hpc, -⟩ := HA.out (by omega)
              have g4 := hpc k _ (ints_at hk)
              rw [(HP.out.pk_lt hk).2] at g4
              clear hpc hnx
              have HX := Lib.hid (own_set (j := k) (u := .bool true) HM.out)
              have HY := Lib.hid (OwnsSS.other HO.out HM.out (by decide) (by decide) (grown_set (j := k) (u := .bool true)))
              have hneb : ∀ b, u6.ownBlock = some b → b ≠ w.heap.size := fun b hb => by have := HGe.out.out b hb; omega
              have HQ := Lib.hid (own_store (o := k) (u := .bool true) HB.out hneb)
              have hbs : Below w.heap.size w (wr.setCell ⟨w.heap.size, k, none⟩ (.bool true)) := by go_grown
              have hbps : bp < w.heap.size := hbl
              have g5 : (wr.setCell ⟨w.heap.size, k, none⟩ (.bool true)).cell? ⟨bp, k, none⟩ = some (.int .i64 ((pk p k : Nat))) := (hbs.cell (p := ⟨bp, k, none⟩) hbps).trans g4
              subst hbp
              go_wp2_with (at_builtin; refine app_one elI rfl _ _ rfl rfl rfl (by simp) (HQ.out) (hbs) rfl (by intro u hu; simp at hu; first | (subst hu; rfl) | (rcases hu with rfl | rfl <;> rfl) | (rcases hu with rfl | rfl | rfl <;> rfl) | (rcases hu with rfl | rfl | rfl | rfl <;> rfl)) (hbs.size) (by omega) ?_; intro v' w4 hown4 hb4 hg4; have HO4 := Lib.hid hown4; clear hown4; have hg4' := Lib.hid hg4 ; clear hg4 ; have g6 := (hb4.cell (p := ⟨bp, k, none⟩) hbps).trans g4)
              go_wp2_with fail
              go_roundg g'
              case measure => omega
              case rel => exact ⟨pk p k, M.set k c, O ++ [(k : Int)], rfl, HNx, Lib.hid (HY.out.far HUB.out hg4'.out.grown (fun b e => HGe.out.out b e)), Lib.hid (by rw [← HMs.out]; exact HX.out.kept hg4'.out.grown (.inr fun e => hneb _ e.symm rfl)), Lib.hid (by simpa [ints] using HO4.out), Lib.hid (HGe.out.app hg4'.out (by simpa using hwo)), hb4, Nat.le_trans hwo (by have := hg4'.out.grown.size; simpa using this)⟩
            · rw [decide_eq_true (by omega)] at g2
              obtain rfl := HC.out.stop hM
              obtain ⟨A6, cap6, rfl, hcap6, hmax6, -⟩ := own_view HB.out
              unfold maxLen at hmax6
              have hOl := HC.out.olen
              have HSo := Lib.hid (sortI_idxs (N := NF) HC.out.nd (by rw [hMl]; exact HC.out.mem))
              have HSt := Lib.hid (fun W h => sortI_own (.slice A6 O.length cap6) w.heap.size O.length O W rfl (by omega) h)
              rw [HSo.out] at HSt
              have hil : (idxs NF c).length = O.length := by rw [← HSo.out]; simp
              have HIl := Lib.hid hil
              clear hil
              go_wp2_with fail
              refine (HSt.out _ HB.out).mono ?_; rintro e w5 ⟨rfl, ho5, hg5⟩
              have HB5 := Lib.hid ho5
              have HO5 := Lib.hid (HO.out.far HUB.out hg5 (fun b e => HGe.out.out b e))
              have HM5 := Lib.hid (HM.out.kept hg5 (.inr fun e => by have : wo.heap.size ≤ w.heap.size := HGe.out.out _ e.symm; omega))
              have hb5 : Below w.heap.size w w5 := hb.grown hg5 hsz (fun b e => by have := HGe.out.out b e; omega)
              have hs5 := hb5.size
              have HU5 := Lib.hid (underB_of HO5.out)
              have HGe5 := Lib.hid (fun (j : Nat) (u' : Value) (b : Nat) (h1 : inn[j]? = some u') (h2 : u'.ownBlock = some b) => show (Value.slice A6 O.length cap6).ownBlock ≠ some b from fun e => by have := HGe.out.out b e; have := HUB.out.i j u' b h1 h2; omega)
              clear ho5 hg5
              go_wp2_with (at_builtin; refine app_one elS rfl _ _ rfl rfl rfl (by simp) (HO5.out.out) (hb5) rfl (by intro u hu; simp at hu; first | (subst hu; rfl) | (rcases hu with rfl | rfl <;> rfl) | (rcases hu with rfl | rfl | rfl <;> rfl) | (rcases hu with rfl | rfl | rfl | rfl <;> rfl)) (hs5) (by omega) ?_; intro v' w6 hown6 hb6 hg6; have HO6 := Lib.hid hown6; clear hown6)
              have hg6' := Lib.hid hg6
              clear hg6
              have HM6 := Lib.hid (HM5.out.kept hg6'.out.grown (.inr fun e => own_types HM5.out HO5.out.out (by decide) _ rfl e.symm))
              have HP6 := Lib.hid (SS.push2 (ys := idxs NF c) (rowsC_len N0 c.toNat) HO5.out (by rw [HIl.out]; exact HB5.out) HGe5.out HO6.out hg6'.out.grown)
              have HRow := Lib.hid (show rowsC (cu (i + 1)).1 (cu (i + 1)).2.toNat = rowsC N0 c.toNat ++ [idxs NF c] by
                rw [HE1.out, HE2.out, show (c + 1).toNat = c.toNat + 1 by omega]
                show rowsC NF c.toNat ++ [idxs NF (c.toNat : Nat)] = _
                rw [HR.out, show ((c.toNat : Nat) : Int) = c by omega])
              have HRn := Lib.hid (show (cu (i + 1)).2.toNat = c.toNat + 1 by rw [HE2.out]; omega)
              go_wp2_with fail
              go_roundw
              case rel => exact ⟨i + 1, inn ++ [.slice A6 O.length cap6], by go_num, by omega, Lib.hid (by rw [HRow.out, HRn.out]; exact HP6.out), Lib.hid (by rw [HE1.out]; exact HM6.out), hb6⟩
              case measure => simp [intOf]; omega
        · rw [decide_eq_true (by omega)] at g1
          have HE := Lib.hid (HNi.out (by omega))
          go_wp2_with fail
          go_roundw
          case rel => exact ⟨i + 1, inn, by go_num, by omega, Lib.hid (by rw [HE.out]; exact HO.out), Lib.hid (by rw [HE.out]; exact HM.out), hb⟩
          case measure => simp [intOf]; omega
      · obtain rfl : i = p.length := by omega
        go_wp2_with fail
        go_ret
        exact ⟨_, inn, rfl, HO.out, hb⟩
end Go.Proofs.Ytjkemnnkgihefaa
