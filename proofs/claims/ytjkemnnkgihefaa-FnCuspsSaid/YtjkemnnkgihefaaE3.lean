/- Contracts: rows of rows compared by the great law. -/
import Derived.Test.YtjkemnnkgihefaaR3
import Derived.Test.YtjkemnnkgihefaaD4A
namespace Go.Proofs.Ytjkemnnkgihefaa
open Go.RowKit
set_option maxRecDepth 100000 in
set_option maxHeartbeats 2000000 in
theorem rows9_same (A A' : Option Addr) (n cap cap' B B' : Nat) (inn inn' : List Value) (xss : List (List Int)) (w : World) (hn : n ≤ maxLen)
    (h : SS w B (.slice A n cap) n inn (fun i => (xss.getD i []).length) (fun i => ints (xss.getD i []))) (h' : SS w B' (.slice A' n cap') n inn' (fun i => (xss.getD i []).length) (fun i => ints (xss.getD i []))) :
    Calls Try.prog 11 #[.slice A n cap, .slice A' n cap'] w fun e w' => e = .returned (.bool true) ∧ Below w.heap.size w w' := by
  have H := Lib.hid h
  have H' := Lib.hid h'
  clear h h'
  unfold maxLen at hn
  go_enter Try.func11, Try.ntmps11
  go_wp2_with fail
  go_loopw [5] (fun i wr => ∃ k : Nat, i = (.int .i64 ((k : Int))) ∧ k ≤ n ∧ Below w.heap.size w wr) (fun i _ => n - (intOf i).toNat)
  case atStart => exact ⟨0, rfl, Nat.zero_le _, Below.refl _ _⟩
  case round =>
    obtain ⟨k, rfl, hk, hb⟩ := hrel
    by_cases hlt : k < n
    · have G := Lib.hid (H.out.below hb)
      have G' := Lib.hid (H'.out.below hb)
      obtain ⟨u, hu, ho⟩ := G.out.at_ hlt
      obtain ⟨u', hu', ho'⟩ := G'.out.at_ hlt
      obtain ⟨A1, c1, rfl, q1, q2, R⟩ := own_view ho
      obtain ⟨A2, c2, rfl, -, -, R'⟩ := own_view ho'
      have R := Lib.hid R
      have R' := Lib.hid R'
      obtain ⟨b, rfl, -, hl1, hc, -⟩ := (own_at G.out.out) (by omega)
      obtain ⟨b', rfl, -, hl2, hc', -⟩ := (own_at G'.out.out) (by omega)
      have h1 := hc k _ hu
      have h2 := hc' k _ hu'
      have hml : (xss.getD k []).length ≤ maxLen := by omega
      have HM := Lib.hid hml
      clear hc hc' hu hu' ho ho' hml
      generalize xss.getD k [] = xs at *
      go_wp2_with fail
      refine wp_region_ext (by kernel_rfl) (by kernel_rfl) ?_
      repeat (go_big_quiet_step (((go_at_call 40; refine Calls.ext_of (Nat.le_refl _) (likeInts_same _ _ _ _ _ _ _ xs _ rfl HM.out (R.out.below (Ext.h _)) (R'.out.below (Ext.h _)))))))
      refine wpQuiet_nil ?_
      intro w1 hb1
      obtain ⟨hc1, hf1⟩ := bcell hb1
      go_wp2_with fail
      go_roundw
      case rel => exact ⟨k + 1, by go_num, by omega, hb.trans (hb1.mono hb.size)⟩
      case measure => simp [intOf]; omega
    · go_wp2_with fail
      go_ret
      exact ⟨rfl, hb⟩
end Go.Proofs.Ytjkemnnkgihefaa
