/- The law RootOf (written by gen_c82.py). -/
import Derived.Test.YtencfmipplgnkaaC82
import Derived.Test.YtencfmipplgnkaaC83
namespace Go.Proofs.Ytencfmipplgnkaa
open Go.RowKit
set_option maxRecDepth 100000 in
set_option maxHeartbeats 1000000 in
theorem lawFnExactRootOf (a b c d : Int) (_ : I64 a) (_ : I64 b) (_ : I64 c) (_ : I64 d) (w : World) :
    Calls Try.prog 8 #[(.agg #[.int .i64 a, .int .i64 b, .int .i64 c, .int .i64 d])] w fun e w' => e = .returned (.bool true) ∧ Below w.heap.size w w' := by
  have HS := Lib.hid (sRootOf_any a b c d)
  have HI := Lib.hid (RootOf_any a b c d)
  generalize rtR a b c d = R at HS HI
  obtain ⟨⟨⟨x, y, z, u⟩, v⟩, k⟩ := R
  simp only at HS HI
  have hn1 : (v != v) = false := by simp
  have hn2 : (k != k) = false := by simp
  go_enter Try.func8, Try.ntmps8
  go_wp2_with fail
  refine (toMatrix_any _ _ _ _ _).mono ?_; rintro e w1 ⟨rfl, hb1⟩
  obtain ⟨hc1, hf1⟩ := bcell hb1
  go_wp2_with fail
  refine (HS.out _).mono ?_; rintro e w2 ⟨rfl, hb2⟩
  replace hb2 := bstep hb1 hb2
  clear hc1 hf1 hb1
  obtain ⟨hc2, hf2⟩ := bcell hb2
  have hz0 : w.heap.size < w2.heap.size := by have := hb2.size; (try simp at this); omega
  have hB2 : Below w.heap.size w w2 := bfin (by go_grown) hb2
  go_wp2_with fail
  refine (toMatrix_any _ _ _ _ _).mono ?_; rintro e w3 ⟨rfl, hb3⟩
  obtain ⟨hc3, hf3⟩ := bcell hb3
  obtain ⟨hz3_0, hz3_1⟩ : w.heap.size < w3.heap.size ∧ w2.heap.size < w3.heap.size := by have := hb3.size; (try simp at this); omega
  go_wp2_with fail
  refine (HI.out _).mono ?_; rintro e w4 ⟨rfl, hb4⟩
  replace hb4 := bstep hb3 hb4
  clear hc3 hf3 hb3
  obtain ⟨hc4, hf4⟩ := bcell hb4
  obtain ⟨hz4_0, hz4_1⟩ : w.heap.size < w4.heap.size ∧ w2.heap.size < w4.heap.size := by have := hb4.size; (try simp at this); omega
  have hB4 : Below w.heap.size w w4 := bfin (by go_grown) hb4
  go_wp2_with fail
  refine (eqMatrix_same _ _ _ _ _).mono ?_; rintro e w5 ⟨rfl, hb5⟩
  obtain ⟨hc5, hf5⟩ := bcell hb5
  have hB5 : Below w.heap.size w w5 := bfin (by go_grown) hb5
  go_wp2_with fail
  go_ret
  exact ⟨rfl, by go_grown⟩
end Go.Proofs.Ytencfmipplgnkaa
