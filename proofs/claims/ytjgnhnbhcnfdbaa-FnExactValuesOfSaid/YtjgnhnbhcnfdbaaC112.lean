/- The law ValuesOf. -/
import Derived.Test.YtjgnhnbhcnfdbaaC111
import Derived.Test.YtjgnhnbhcnfdbaaR1
namespace Go.Proofs.Ytjgnhnbhcnfdbaa
open Go.RowKit
theorem valsRes_len (a b c n : Int) : (valsRes a b c n).xs.length ≤ 1000000 := by
  unfold valsRes
  split
  · split
    · rename_i h
      rw [inB_iff] at h
      have h1 := sall_len (formAt a b c) n (2 * n.toNat + 1) (n.toNat + 1)
      have h2 := Nat.mul_le_mul (show n.toNat + 1 ≤ 21 by omega) (show 2 * n.toNat + 1 ≤ 21 by omega)
      show (sall _ _ _ _).length ≤ _
      omega
    · simp
  · simp
private theorem own_base {w : World} {B B' z n : Nat} {E : TypeId} {v : Value} {xs : List Value} (h : w.ownsRow B E z v n xs) (hB : B' ≤ B) : w.ownsRow B' E z v n xs := own_baseV h hB
set_option maxRecDepth 100000 in
set_option maxHeartbeats 2000000 in
theorem lawFnExactValuesOf (a b d m : Int) (_ : I64 a) (_ : I64 b) (_ : I64 d) (_ : I64 m) (w : World) :
    Calls Try.prog 7 #[(.agg #[.int .i64 a, .int .i64 b, .int .i64 d]), (.int .i64 m)] w fun e w' => e = .returned (.bool true) ∧ Below w.heap.size w w' := by
  have HS := Lib.hid (sValuesOf_any a b d m)
  have HI := Lib.hid (ValuesOf_any a b d m)
  have hn := valsRes_len a b d m
  generalize valsRes a b d m = R at HS HI hn
  obtain ⟨xs, c⟩ := R
  simp only at HS HI hn
  obtain ⟨n, hnl⟩ : ∃ n, xs.length = n := ⟨_, rfl⟩
  have HN := Lib.hid hnl
  rw [hnl] at HS HI hn
  clear hnl
  go_enter Try.func7, Try.ntmps7
  have hn2 : (c != c) = false := by simp
  have hml : n ≤ maxLen := by unfold maxLen; omega
  go_wp2_with fail
  have hXB := Lib.hid (show Blk3 (w.alloc (.cells #[(.int .i64 a), (.int .i64 b), (.int .i64 d)] 28)) w.heap.size 28 a b d from heap_new)
  have hBB : Below w.heap.size w (w.alloc (.cells #[(.int .i64 a), (.int .i64 b), (.int .i64 d)] 28)) := by go_grown
  generalize w.alloc _ = wB at *
  refine (toForm_any a b d _).mono ?_; rintro e t1 ⟨rfl, ht1⟩
  go_wp2_with fail
  refine (HS.out _).mono ?_; rintro e w1 ⟨v0, rfl, ho0', hb1'⟩
  have ho0 := own_base ho0' ht1.size
  have hb1 := bfin ht1 hb1'
  clear ho0' hb1' ht1
  obtain ⟨A0, cap0, rfl, -, -, hat0⟩ := own_view ho0
  have hu0 := Lib.hid (own_under ho0)
  have R0 := Lib.hid hat0
  clear ho0 hat0
  obtain ⟨⟨bx20, bx21, bx22⟩, -, -⟩ := Blk3.open_ (heap_below hXB.out hb1)
  go_wp2_with fail
  refine (toForm_any a b d _).mono ?_; rintro e t2 ⟨rfl, ht2⟩
  go_wp2_with fail
  refine (HI.out _).mono ?_; rintro e w2 ⟨v1, rfl, ho1', hb2'⟩
  have ho1 := own_base ho1' ht2.size
  have hb2 := bfin ht2 hb2'
  clear ho1' hb2' ht2
  obtain ⟨A1, cap1, rfl, -, -, hat1⟩ := own_view ho1
  have O1 := Lib.hid ho1
  have R1 := Lib.hid hat1
  clear ho1 hat1
  have R0' := Lib.hid (R0.out.below hb2)
  go_wp2_with fail
  refine (eqInt64S_same A1 A0 n cap1 cap0 _ _ xs w2 HN.out hml R1.out R0'.out).mono ?_; rintro e w3 ⟨rfl, hb3⟩
  have O3 := Lib.hid (own_below O1.out hb3)
  have R03 := Lib.hid (R0'.out.below hb3)
  have hB2 := hb1.trans (hb2.mono hb1.size)
  have hB3 := hB2.trans (hb3.mono hB2.size)
  have hN := HN.out
  have M := Lib.hid (markInt64S_any (.slice A1 n cap1) n w1.heap.size 2 xs 1 w3 hN (by omega) (by omega) O3.out)
  clear hN
  go_wp2_with fail
  refine (M.out).mono ?_; rintro e w4 ⟨rfl, ho4, hg4⟩
  have hB4 := below_mark hB3 O3.out hg4 hb1.size
  have R04 := Lib.hid (R03.out.far O3.out hg4 hu0.out)
  have O4 := Lib.hid ho4
  clear ho4 hg4 M
  have hm0 : ¬ ((1 : Int) + ((n : Nat) : Int) < 0) := by omega
  have hm1 : ((1 : Int) + ((n : Nat) : Int) != 1 + ((n : Nat) : Int)) = false := by simp
  go_wp2_with fail
  refine (heldInt64S_any A1 n cap1 _ 1 w4 hml (by omega) (by omega) (own_at O4.out)).mono ?_; rintro e w5 ⟨rfl, hb5⟩
  have hB5 := hB4.trans (hb5.mono hB4.size)
  have O5 := Lib.hid (own_below O4.out hb5)
  have R05 := Lib.hid (R04.out.below hb5)
  obtain ⟨⟨bx30, bx31, bx32⟩, -, -⟩ := Blk3.open_ (heap_below hXB.out hB5)
  go_wp2_with fail
  refine (toForm_any a b d _).mono ?_; rintro e t3 ⟨rfl, ht3⟩
  go_wp2_with fail
  refine (HI.out _).mono ?_; rintro e w6 ⟨v2, rfl, ho6', hb6'⟩
  have ho6 := own_base ho6' ht3.size
  have hb6 := bfin ht3 hb6'
  clear ho6' hb6' ht3
  obtain ⟨A2, cap2, rfl, -, -, hat6⟩ := own_view ho6
  have R6 := Lib.hid hat6
  clear ho6 hat6
  have hB6 := hB5.trans (hb6.mono hB5.size)
  have O6 := Lib.hid (own_below O5.out hb6)
  have R06 := Lib.hid (R05.out.below hb6)
  go_wp2_with fail
  refine (eqInt64S_same A2 A0 n cap2 cap0 _ _ xs w6 HN.out hml R6.out R06.out).mono ?_; rintro e w7 ⟨rfl, hb7⟩
  have hB7 := hB6.trans (hb7.mono hB6.size)
  have O7 := Lib.hid (own_below O6.out hb7)
  go_wp2_with fail
  refine (heldInt64S_any A1 n cap1 _ 1 w7 hml (by omega) (by omega) (own_at O7.out)).mono ?_; rintro e w8 ⟨rfl, hb8⟩
  have hB8 := hB7.trans (hb8.mono hB7.size)
  go_wp2_with fail
  go_ret
  exact ⟨rfl, bfin hBB hB8⟩
end Go.Proofs.Ytjgnhnbhcnfdbaa
