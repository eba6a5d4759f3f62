/- Contracts: one relation is put behind the others, by a closure. -/
import Derived.Test.YtjgnhnbhcnfdbaaC100
import Derived.Test.YtjgnhnbhcnfdbaaC97
namespace Go.Proofs.Ytjgnhnbhcnfdbaa
open Go.RowKit
/-- One more at each of some places. -/
def bump (L : List Int) (i : Int) : List Int := L.set i.toNat (L.getD i.toNat 0 + 1)
def bumps (L : List Int) : List Int → List Int
  | [] => L
  | i :: is => bumps (bump L i) is
def rowR (n : Nat) (is : List Int) : List Int := bumps (List.replicate n 0) is
theorem bumps_snoc (i : Int) : ∀ (is : List Int) (L : List Int), bumps L (is ++ [i]) = bump (bumps L is) i
  | [], _ => rfl
  | _ :: is, _ => bumps_snoc i is _
theorem bumps_len : ∀ (is : List Int) (L : List Int), (bumps L is).length = L.length
  | [], _ => rfl
  | i :: is, _ => by
    show (bumps (bump _ i) is).length = _
    rw [bumps_len is]; simp [bump]
theorem bump_bd {K : Int} {L : List Int} {i : Int} (h : ∀ j, 0 ≤ L.getD j 0 ∧ L.getD j 0 ≤ K) (j : Nat) : 0 ≤ (bump L i).getD j 0 ∧ (bump L i).getD j 0 ≤ K + 1 := by
  unfold bump
  have h1 := h i.toNat
  have h2 := h j
  have e : (L.set i.toNat (L.getD i.toNat 0 + 1)).getD j 0 = if i.toNat = j ∧ j < L.length then L.getD i.toNat 0 + 1 else L.getD j 0 := by
    simp only [List.getD_eq_getElem?_getD, List.getElem?_set]
    by_cases hj : i.toNat = j
    · subst hj
      by_cases hl : i.toNat < L.length
      · simp [hl]
      · simp [hl]
    · simp [hj]
  rw [e]
  split <;> omega
theorem bumps_bd : ∀ (is : List Int) (L : List Int) (K : Int), (∀ j, 0 ≤ L.getD j 0 ∧ L.getD j 0 ≤ K) → ∀ j, 0 ≤ (bumps L is).getD j 0 ∧ (bumps L is).getD j 0 ≤ K + is.length
  | [], L, K, h, j => by simpa [bumps] using h j
  | i :: is, L, K, h, j => by
    have := bumps_bd is (bump L i) (K + 1) (fun j => bump_bd h j) j
    show 0 ≤ (bumps (bump L i) is).getD j 0 ∧ (bumps (bump L i) is).getD j 0 ≤ _
    simp only [List.length_cons]; push_cast; omega
theorem rowR_len (n : Nat) (is : List Int) : (rowR n is).length = n := by unfold rowR; rw [bumps_len]; simp
theorem rowR_bd (n : Nat) (is : List Int) (j : Nat) : 0 ≤ (rowR n is).getD j 0 ∧ (rowR n is).getD j 0 ≤ is.length := by
  have := bumps_bd is (List.replicate n 0) 0 (fun j => by
    rw [List.getD_eq_getElem?_getD, List.getElem?_replicate]; split <;> simp) j
  unfold rowR; omega
theorem rowR_take {n : Nat} {is : List Int} {k : Nat} (h : k < is.length) : rowR n (is.take (k + 1)) = bump (rowR n (is.take k)) is[k] := by
  unfold rowR
  rw [List.take_succ_eq_append_getElem h, bumps_snoc]
theorem OwnsSS.store {w : World} {B n b : Nat} {ES EI E : TypeId} {v u : Value} {c : Array Value} {inn : List Value} {len : Nat → Nat} {f : Nat → List Value} (h : OwnsSS w B ES EI v n inn len f) (hb : w.heap[b]? = some (.cells c E (0, 0))) (h1 : E ≠ ES) (h2 : E ≠ EI) : OwnsSS (w.setCell ⟨b, 0, none⟩ u) B ES EI v n inn len f := by
  have key : ∀ {B2 z2 n2 : Nat} {E2 : TypeId} {x : Value} {ys : List Value}, E ≠ E2 → w.ownsRow B2 E2 z2 x n2 ys → (w.setCell ⟨b, 0, none⟩ u).ownsRow B2 E2 z2 x n2 ys := fun {B2 z2 n2 E2 x ys} hE ho => by
    refine ho.kept (grown_set (b := b)) ?_
    cases huo : x.ownBlock with
    | none => exact .inl rfl
    | some k =>
      refine .inr fun e => ?_
      injection e with e
      subst e
      obtain ⟨c', hc'⟩ := own_block_form ho huo
      rw [hb] at hc'; injection hc' with e1; injection e1 with _ e2; exact hE e2
  exact ⟨key h1 h.out, fun i u hi => key h2 (h.row i u hi), h.apart⟩
set_option maxRecDepth 100000 in
set_option maxHeartbeats 2000000 in
theorem addRel_any (is : List Int) (A : Option Addr) (cap Bs B b3 b5 n len capS : Nat) (v : Value) (AS : Option Addr) (inn : List Value) (xss : List (List Int)) (w : World) (hB : B ≤ w.heap.size) (h3 : w.cell? ⟨b3, 0, none⟩ = some (.slice AS len capS))
    (h5 : w.heap[b5]? = some (.cells #[v] 49 (0, 0))) (h5B : B ≤ b5) (hs : SS w B v n inn (lenX xss) (intX xss)) (hn : xss.length = n) (hat : RowAt w Bs A is.length (ints is)) (hin : ∀ k (h : k < is.length), 0 ≤ is[k] ∧ is[k] < len) (hlen : len ≤ 10000) (hil : is.length ≤ 1000) (hnn : n ≤ 1000000) :
    Calls Try.prog 129 #[.slice A is.length cap, .pointer (some ⟨b3, 0, none⟩), .pointer (some ⟨b5, 0, none⟩)] w fun e w' => ∃ v' inn', e = .returned (.tuple #[]) ∧ SS w' B v' (n + 1) inn' (lenX (xss ++ [rowR len is])) (intX (xss ++ [rowR len is])) ∧ w'.heap[b5]? = some (.cells #[v'] 49 (0, 0)) ∧ Below B w w' := by
  have HA := Lib.hid hat
  have HS := Lib.hid hs
  have HI := Lib.hid hin
  have H5 := Lib.hid h5
  have hmk := mk64 len (by omega)
  have H0 := Lib.hid (zs64_list len)
  have HT := Lib.hid (fun k h => @rowR_take len is k h)
  have HBd := Lib.hid (fun k => rowR_bd len (is.take k))
  have HLn := Lib.hid (fun k => rowR_len len (is.take k))
  have HFull := Lib.hid (show rowR len (is.take is.length) = rowR len is by rw [List.take_length])
  have HFL := Lib.hid (rowR_len len is)
  have H00 := Lib.hid (show rowR len (is.take 0) = List.replicate len 0 from rfl)
  clear hat hs hin h5
  generalize rowR len is = R at *
  generalize hRR : (fun k => rowR len (is.take k)) = M
  simp only [show ∀ k, rowR len (is.take k) = M k from fun k => by rw [← hRR]] at *
  clear hRR
  go_enter Try.func129, Try.ntmps129
  go_wp2_with fail
  have O0 := Lib.hid (World.ownsRow_lit (e := 2) (size := 1) (base := w.heap.size) w (zs64 len) len (by omega) (by unfold maxLen; omega) (by rw [zs64_size, Nat.mul_one]))
  rw [H0.out, ← H00.out] at O0
  go_loopw [12] (fun i wr => ∃ k : Nat, i = (.int .i64 ((k : Int))) ∧ k ≤ is.length ∧ Hid (wr.ownsRow w.heap.size 2 1 (.slice (some ⟨w.heap.size, 0, none⟩) len len) len (ints (M k))) ∧ Hid (w.grownBy wr (some w.heap.size)) ∧ Below w.heap.size w wr) (fun i _ => is.length - (intOf i).toNat)
  case atStart => exact ⟨0, rfl, by omega, O0, Lib.hid (World.grownBy_alloc _ _ _), by go_grown⟩
  case round =>
    obtain ⟨k, rfl, hk, HO, HG, hb⟩ := hrel
    have hsz := hb.size
    by_cases hlt : k < is.length
    · obtain ⟨bc, rfl, -, hbl, hcc, -⟩ := (HA.out.below hb) (by omega)
      have g1 := hcc k _ (show (ints is)[k]? = some (.int .i64 is[k]) by simp [ints, hlt])
      obtain ⟨i0, i1⟩ := HI.out k hlt
      have HV := Lib.hid (HT.out k hlt)
      clear hcc
      generalize is[k] = x at *
      obtain ⟨r, rfl⟩ := Int.eq_ofNat_of_zero_le i0
      have hr : r < len := by omega
      obtain ⟨v0, v1⟩ := HBd.out k r
      have hMl := HLn.out k
      obtain ⟨bm, hbm, -, hml, hmc, hmf⟩ := (own_at HO.out) (by omega)
      injection hbm with hbm
      injection hbm with hbm
      subst hbm
      have u1 := hmc r _ (ints_at (l := M k) (by omega))
      have u2 := hmf r
      have hv2 : (List.take k is).length ≤ 1000 := by simp; omega
      have v2 : (M k).getD r 0 ≤ 1000 := by omega
      have HV2 := Lib.hid (show M (k + 1) = (M k).set r ((M k).getD r 0 + 1) by rw [HV.out]; unfold bump; rw [Int.toNat_natCast])
      clear hmc hmf v1 hv2 HV
      generalize (M k).getD r 0 = q at *
      go_wp2_with fail
      have HO4 := Lib.hid (own_set (j := r) (u := .int .i64 (q + 1)) HO.out)
      have HG4 := Lib.hid (grown_trans' HG.out (grown_set (j := r) (u := .int .i64 (q + 1))))
      go_roundw
      case rel => exact ⟨k + 1, by go_num, by omega, Lib.hid (by rw [HV2.out, ← ints_set]; exact HO4.out), HG4, by go_grown⟩
      case measure => simp [intOf]; omega
    · obtain rfl : k = is.length := by omega
      have HSw := Lib.hid (OwnsSS.grown HS.out HG.out (fun k e => by injection e with e; omega))
      have l5 := lt_of_blk H5.out
      have e5 : wr.heap[b5]? = some (.cells #[v] 49 (0, 0)) := (HG.out.block b5 l5 (fun e => by injection e with e; omega)).trans H5.out
      have c5 := (cell_of_blk e5 0).trans (show (#[v] : Array Value)[0]? = some v from rfl)
      have f5 := frozen_of_blk e5 0
      have l5' := lt_of_blk e5
      have HUB := Lib.hid (underB_of HS.out)
      have hap := Lib.hid (fun (i : Nat) (u' : Value) (b : Nat) (h1 : inn[i]? = some u') (h2 : u'.ownBlock = some b) => show (Value.slice (some ⟨w.heap.size, 0, none⟩) len len).ownBlock ≠ some b from fun e => absurd (HUB.out.i i u' b h1 h2) (by rw [show b = w.heap.size from (by simpa [Value.ownBlock] using e.symm)]; omega))
      have HRow := Lib.hid (own_base HO.out hB)
      rw [HFull.out] at HRow
      have hne5 : Hid (v.ownBlock ≠ some b5) := Lib.hid (fun e => by obtain ⟨c, hc⟩ := own_block_form HSw.out.out e; rw [e5] at hc; injection hc with e1; injection e1 with _ e2; exact absurd e2 (by decide))
      have hbB := hb.mono hB
      have E5 := Lib.hid e5
      clear e5
      go_wp2_with (at_builtin; refine app_one elS rfl _ _ rfl rfl rfl (by simp) (HSw.out.out) (hbB) rfl (by intro u hu; simp at hu; first | (subst hu; rfl) | (rcases hu with rfl | rfl <;> rfl) | (rcases hu with rfl | rfl | rfl <;> rfl) | (rcases hu with rfl | rfl | rfl | rfl <;> rfl)) ((Nat.le_trans hB hsz)) (by omega) ?_; intro v' w6 hown6 hb6 hg6; have HO6 := Lib.hid hown6; clear hown6; have e6 : w6.heap[b5]? = some (.cells #[v] 49 (0, 0)) := (hg6.grown.block b5 l5' (fun e => hne5.out e.symm)).trans E5.out ; have c6 := (cell_of_blk e6 0).trans (show (#[v] : Array Value)[0]? = some v from rfl) ; have f6 := frozen_of_blk e6 0 ; obtain ⟨A6, cap6, rfl, -, -, -⟩ := own_view HO6.out)
      have HP6 := Lib.hid (SS.push2 (ys := R) hn HSw.out (by rw [HFL.out]; exact HRow.out) hap.out HO6.out hg6.grown)
      go_wp2_with fail
      go_end0
      simp only [true_and]
      exact ⟨.slice A6 (n + 1) cap6, ⟨inn ++ [.slice (some ⟨w.heap.size, 0, none⟩) len len], HP6.out.store e6 (by decide) (by decide)⟩, heap_set_same e6, Below.setCell hb6 (p := ⟨b5, 0, none⟩) h5B _⟩
end Go.Proofs.Ytjgnhnbhcnfdbaa
