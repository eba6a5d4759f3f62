/- Contracts: the law's own helpers over rows of rows. -/
import Derived.Test.YtjgnhnbhcnfdbaaR1
import Derived.Test.YtjgnhnbhcnfdbaaRow2
namespace Go.Proofs.Ytjgnhnbhcnfdbaa
open Go.RowKit
abbrev SS (w : World) (B : Nat) (v : Value) (n : Nat) (inn : List Value) (len : Nat → Nat) (f : Nat → List Value) : Prop := OwnsSS w B 38 2 v n inn len f
theorem ss_ne : (38 : TypeId) ≠ 2 := by decide
set_option maxRecDepth 100000 in
set_option maxHeartbeats 2000000 in
theorem eqInt64SS_same (A A' : Option Addr) (n cap cap' B B' : Nat) (inn inn' : List Value) (xss : List (List Int)) (w : World) (hn : n ≤ maxLen)
    (h : SS w B (.slice A n cap) n inn (fun i => (xss.getD i []).length) (fun i => ints (xss.getD i []))) (h' : SS w B' (.slice A' n cap') n inn' (fun i => (xss.getD i []).length) (fun i => ints (xss.getD i []))) :
    Calls Try.prog 37 #[.slice A n cap, .slice A' n cap'] w fun e w' => e = .returned (.bool true) ∧ Below w.heap.size w w' := by
  have H := Lib.hid h
  have H' := Lib.hid h'
  clear h h'
  unfold maxLen at hn
  go_enter Try.func37, Try.ntmps37
  go_wp2_with fail
  go_loopw [5] (fun i wr => ∃ k : Nat, i = (.int .i64 ((k : Int))) ∧ k ≤ n ∧ Below w.heap.size w wr) (fun i _ => n - (intOf i).toNat)
  case atStart => exact ⟨0, rfl, Nat.zero_le _, Below.refl _ _⟩
  case round =>
    obtain ⟨k, rfl, hk, hb⟩ := hrel
    by_cases hlt : k < n
    · have G := Lib.hid (H.out.below hb)
      have G' := Lib.hid (H'.out.below hb)
      obtain ⟨u, hu, ho⟩ := G.out.at_ hlt
      obtain ⟨u', hu', ho'⟩ := G'.out.at_ hlt
      obtain ⟨A1, c1, rfl, q1, q2, R⟩ := own_view ho
      obtain ⟨A2, c2, rfl, -, -, R'⟩ := own_view ho'
      have R := Lib.hid R
      have R' := Lib.hid R'
      obtain ⟨b, rfl, -, hl1, hc, -⟩ := (own_at G.out.out) (by omega)
      obtain ⟨b', rfl, -, hl2, hc', -⟩ := (own_at G'.out.out) (by omega)
      have h1 := hc k _ hu
      have h2 := hc' k _ hu'
      have hml : (xss.getD k []).length ≤ maxLen := by omega
      have HM := Lib.hid hml
      clear hc hc' hu hu' ho ho' hml
      generalize xss.getD k [] = xs at *
      go_wp2_with fail
      refine wp_region_ext (by kernel_rfl) (by kernel_rfl) ?_
      repeat (go_big_quiet_step (((go_at_call 27; refine Calls.ext_of (Nat.le_refl _) (eqInt64S_same _ _ _ _ _ _ _ xs _ rfl HM.out (R.out.below (Ext.h _)) (R'.out.below (Ext.h _)))))))
      refine wpQuiet_nil ?_
      intro w1 hb1
      obtain ⟨hc1, hf1⟩ := bcell hb1
      go_wp2_with fail
      go_roundw
      case rel => exact ⟨k + 1, by go_num, by omega, hb.trans (hb1.mono hb.size)⟩
      case measure => simp [intOf]; omega
    · go_wp2_with fail
      go_ret
      exact ⟨rfl, hb⟩
/-- Below some block nothing has turned. -/
structure Under (B : Nat) (w w' : World) : Prop where
  os : w'.os = w.os
  tape : w'.tape = w.tape
  output : w'.output = w.output
  size : w.heap.size ≤ w'.heap.size
  block : ∀ k, k < B → k < w.heap.size → w'.heap[k]? = w.heap[k]?
theorem Under.below {B : Nat} {w w' : World} (h : Under B w w') (hB : B ≤ w.heap.size) : Below B w w' := ⟨h.os, h.tape, h.output, h.size, fun k hk => h.block k hk (by omega)⟩
theorem Under.refl (B : Nat) (w : World) : Under B w w := ⟨rfl, rfl, rfl, Nat.le_refl _, fun _ _ _ => rfl⟩
theorem Under.step {B : Nat} {w w' w2 : World} {row : Option Nat} (h : Under B w w') (hg : w'.grownBy w2 row) (hr : ∀ b, row = some b → B ≤ b) : Under B w w2 :=
  ⟨hg.os.trans h.os, hg.tape.trans h.tape, hg.output.trans h.output, Nat.le_trans h.size hg.size, fun k hk hs => (hg.block k (Nat.lt_of_lt_of_le hs h.size) (fun e => by have := hr k e.symm; omega)).trans (h.block k hk hs)⟩
set_option maxRecDepth 100000 in
set_option maxHeartbeats 2000000 in
theorem markInt64SS_any (v : Value) (n B : Nat) (inn : List Value) (xss : List (List Int)) (m : Int) (w : World) (hn : n ≤ 1000000) (m0 : 0 ≤ m) (hm : m + offs xss n ≤ 4000000000000000000)
    (h : SS w B v n inn (fun i => (xss.getD i []).length) (fun i => ints (xss.getD i []))) :
    Calls Try.prog 38 #[v, (.int .i64 m)] w fun e w' => e = .returned (.int .i64 (m + offs xss n)) ∧ SS w' B v n inn (fun i => (xss.getD i []).length) (mrow m xss n) ∧ Under B w w' := by
  have H := Lib.hid (h.congr (len' := fun i => (xss.getD i []).length) (f' := mrow m xss 0) (fun _ _ => rfl) (fun i _ => (mrow_zero m xss i).symm))
  obtain ⟨A, cap, rfl, hcap, hmax, -⟩ := own_view h.out
  unfold maxLen at hmax
  clear h
  have HO := Lib.hid (fun k (hk : k ≤ n) => offs_mono xss hk)
  go_enter Try.func38, Try.ntmps38
  go_wp2_with fail
  go_loopw [1, 5] (fun q i wr => ∃ k : Nat, q = (.int .i64 (m + ((offs xss k : Nat) : Int))) ∧ i = (.int .i64 ((k : Int))) ∧ k ≤ n ∧ Hid (SS wr B (.slice A n cap) n inn (fun i => (xss.getD i []).length) (mrow m xss k) ∧ Under B w wr)) (fun _ i _ => n - (intOf i).toNat)
  case atStart => exact ⟨0, by simp [offs], rfl, Nat.zero_le _, Lib.hid ⟨H.out, Under.refl _ _⟩⟩
  case round =>
    obtain ⟨k, rfl, rfl, hk, HR⟩ := hrel
    by_cases hlt : k < n
    · obtain ⟨u, hu, ho⟩ := HR.out.1.at_ hlt
      obtain ⟨b, rfl, -, hl1, hc, -⟩ := (own_at HR.out.1.out) (by omega)
      have h1 := hc k _ hu
      have HU := Lib.hid hu
      have hok := HO.out (k + 1) hlt
      have hok2 : offs xss (k + 1) = offs xss k + (xss.getD k []).length := rfl
      have ho2 : wr.ownsRow B 2 1 u (xss.getD k []).length (ints (xss.getD k [])) := by
        have e : mrow m xss k k = ints (xss.getD k []) := by unfold mrow; rw [if_neg (by omega)]
        rw [← e]; exact ho
      have HM := Lib.hid (markInt64S_any u (xss.getD k []).length B 2 (xss.getD k []) (m + ((offs xss k : Nat) : Int)) wr rfl (by omega) (by omega) ho2)
      have HGE := Lib.hid (fun b hb => own_ge ho2 (k := b) hb)
      have HK := Lib.hid hok2
      have HS := Lib.hid (mrow_succ m xss k)
      clear hc hu ho ho2 hok hok2
      generalize hxs : xss.getD k [] = xs at HM HK
      have HXS := Lib.hid hxs
      clear hxs
      generalize offs xss k = q at *
      obtain ⟨A1, c1, rfl, -, -, -⟩ : ∃ A1 c1, u = .slice A1 xs.length c1 ∧ True ∧ True ∧ True := by
        obtain ⟨u', hu', ho'⟩ := HR.out.1.at_ hlt
        rw [HU.out] at hu'
        injection hu' with e
        subst e
        obtain ⟨A1, c1, e1, _⟩ := own_view ho'
        refine ⟨A1, c1, ?_, trivial, trivial, trivial⟩
        rw [e1, ← HXS.out]
      go_wp2_with fail
      refine (HM.out).mono ?_; rintro e w2 ⟨rfl, ho2, hg2⟩
      have HO2 := Lib.hid ho2
      have HG2 := Lib.hid hg2
      clear ho2 hg2
      go_wp2_with fail
      go_roundw
      case rel =>
        refine ⟨k + 1, by rw [HK.out]; push_cast; go_num, by go_num, by omega, Lib.hid ⟨?_, HR.out.2.step HG2.out HGE.out⟩⟩
        refine (HR.out.1.put ss_ne HU.out HG2.out (by rw [HXS.out]; exact HO2.out)).congr (fun _ _ => rfl) (fun i _ => ?_)
        have := HS.out i
        rw [HXS.out] at this
        exact this
      case measure => simp [intOf]; omega
    · obtain rfl : k = n := by omega
      go_wp2_with fail
      go_ret
      exact ⟨rfl, HR.out⟩
set_option maxRecDepth 100000 in
set_option maxHeartbeats 2000000 in
theorem heldInt64SS_any (v : Value) (n B : Nat) (inn : List Value) (xss : List (List Int)) (m : Int) (w : World) (hn : n ≤ 1000000) (m0 : 0 ≤ m) (hm : m + offs xss n ≤ 4000000000000000000)
    (h : SS w B v n inn (fun i => (xss.getD i []).length) (mrow m xss n)) :
    Calls Try.prog 39 #[v, (.int .i64 m)] w fun e w' => e = .returned (.int .i64 (m + offs xss n)) ∧ Below w.heap.size w w' := by
  have H := Lib.hid h
  obtain ⟨A, cap, rfl, hcap, hmax, -⟩ := own_view h.out
  unfold maxLen at hmax
  clear h
  have HO := Lib.hid (fun k (hk : k ≤ n) => offs_mono xss hk)
  go_enter Try.func39, Try.ntmps39
  go_wp2_with fail
  go_loopw [1, 5] (fun q i wr => ∃ k : Nat, q = (.int .i64 (m + ((offs xss k : Nat) : Int))) ∧ i = (.int .i64 ((k : Int))) ∧ k ≤ n ∧ Below w.heap.size w wr) (fun _ i _ => n - (intOf i).toNat)
  case atStart => exact ⟨0, by simp [offs], rfl, Nat.zero_le _, Below.refl _ _⟩
  case round =>
    obtain ⟨k, rfl, rfl, hk, hb⟩ := hrel
    by_cases hlt : k < n
    · have G := Lib.hid (H.out.below hb)
      obtain ⟨u, hu, ho⟩ := G.out.at_ hlt
      obtain ⟨b, rfl, -, hl1, hc, -⟩ := (own_at G.out.out) (by omega)
      have h1 := hc k _ hu
      have hok := HO.out (k + 1) hlt
      have hok2 : offs xss (k + 1) = offs xss k + (xss.getD k []).length := rfl
      rw [show mrow m xss n k = allMarks (m + offs xss k) (xss.getD k []).length by unfold mrow; rw [if_pos hlt]] at ho
      obtain ⟨A1, c1, rfl, q1, q2, R⟩ := own_view ho
      have HM := Lib.hid (heldInt64S_any A1 (xss.getD k []).length c1 B (m + ((offs xss k : Nat) : Int)) wr (by omega) (by omega) (by omega) R)
      have HK := Lib.hid hok2
      have hok3 : offs xss k + (xss.getD k []).length ≤ offs xss n := by rw [← hok2]; exact hok
      clear hc hu ho R q1 q2 hok hok2
      generalize (xss.getD k []).length = l at *
      generalize offs xss k = q at *
      go_wp2_with fail
      refine (HM.out).mono ?_; rintro e w2 ⟨rfl, hb2⟩
      go_wp2_with fail
      go_roundw
      case rel => exact ⟨k + 1, by rw [HK.out]; push_cast; go_num, by go_num, by omega, hb.trans (hb2.mono hb.size)⟩
      case measure => simp [intOf]; omega
    · obtain rfl : k = n := by omega
      go_wp2_with fail
      go_ret
      exact ⟨rfl, hb⟩
end Go.Proofs.Ytjgnhnbhcnfdbaa
