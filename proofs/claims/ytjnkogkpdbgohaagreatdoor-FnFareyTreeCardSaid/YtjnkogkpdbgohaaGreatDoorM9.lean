/- Contracts: paths and parents. -/
import Derived.Test.YtjnkogkpdbgohaaGreatDoorMa
namespace Go.Proofs.YtjnkogkpdbgohaaGreatDoor
open Go.RowKit
abbrev noS : Value := .string { data := #[] }
def poRes (P Q : Int) (full : List Bool) : Value × Int := if tcRes P Q = 0 then (if 200 < full.length then (noS, 3) else (lrS full, 0)) else (noS, tcRes P Q)
def paRes (P Q : Int) (R : Q4) : Q4 × Int := if tcRes P Q = 0 then (R, 0) else (⟨0, 0, 0, 0⟩, tcRes P Q)
structure TcIn (P Q : Int) : Prop where
  p : P ≤ 10000
  q : Q ≤ 10000
  p0 : 0 < P
  q0 : 0 < Q
  g : Int.gcd P Q = 1
  f : isFrac P Q = true
theorem tcIn {P Q : Int} (h : tcRes P Q = 0) : TcIn P Q := by
  unfold tcRes at h
  split at h
  · rename_i hf
    obtain ⟨h1, h2, h3, h4⟩ := isFrac_iff.1 hf
    split at h
    · simp at h
    · split at h
      · simp at h
      · exact ⟨by omega, by omega, by omega, by omega, by exact_mod_cast h3, hf⟩
  · simp at h
structure LrS (l : List Bool) (s : ByteArray) : Prop where
  e : lrS l = .string s
  n : s.size = l.length
theorem lrS_str (l : List Bool) : ∃ s, LrS l s := ⟨_, rfl, by rw [strOfNums_size]; simp⟩
set_option maxRecDepth 100000 in
theorem PathOf_any (P Q : Int) (R : Q4) (full : List Bool) (w : World) (hT : tcRes P Q = 0 → Tr ⟨0, 1, 1, 0⟩ Q P R full) :
    Calls Tryz.prog 13 #[(.agg #[.int .i64 P, .int .i64 Q])] w fun e w' => e = .returned (.tuple #[(poRes P Q full).1, (.int .i64 ((poRes P Q full).2))]) ∧ Below w.heap.size w w' := by
  have HC := Lib.hid (fun W => treeCode_any P Q W)
  by_cases h0 : tcRes P Q = 0
  · have ht := hT h0
    obtain ⟨p1, q1, p0, q0, hg, -⟩ := tcIn h0
    have HD := Lib.hid (fun W => descend_any P Q R full W p1 q1 p0 q0 hg ht)
    have hfl : full.length ≤ 20000 := by have := ht.len q0 p0; omega
    rw [show poRes P Q full = if 200 < full.length then (noS, 3) else (lrS full, 0) by unfold poRes; rw [if_pos h0]]
    rw [h0] at HC
    obtain ⟨s, he, hn⟩ := lrS_str full
    rw [he] at HD ⊢
    clear hT ht h0 he hg
    by_cases hl : 200 < full.length
    · rw [if_pos hl]
      rw [← hn] at hl hfl
      have hl2 : (200 : Int) < (s.size : Int) := by omega
      clear hn
      go_enter Tryz.func13, Tryz.ntmps13
      go_wp2_with fail
      refine (HC.out _).mono ?_; rintro e w1 ⟨rfl, hb⟩
      have T := Lib.hid (show Below w.heap.size w w1 from bfin (by go_grown) hb)
      have F := Lib.hid (show Blk2 w1 w.heap.size 34 P Q from heap_below heap_new hb)
      clear hb
      obtain ⟨⟨f0, f1⟩, -, hlf⟩ := F.out.open_
      go_wp2_with fail
      refine (HD.out _).mono ?_; rintro e w2 ⟨rfl, hb⟩
      replace T := Lib.hid (bfin T.out hb)
      clear hb f0 f1 hlf F
      go_wp2_with fail
      go_ret2
      exact ⟨rfl, (T.out.alloc T.out.size _).alloc (by have := T.out.size; simp; omega) _⟩
    · rw [if_neg hl]
      rw [← hn] at hl hfl
      have hl2 : ¬ (200 : Int) < (s.size : Int) := by omega
      clear hn
      go_enter Tryz.func13, Tryz.ntmps13
      go_wp2_with fail
      refine (HC.out _).mono ?_; rintro e w1 ⟨rfl, hb⟩
      have T := Lib.hid (show Below w.heap.size w w1 from bfin (by go_grown) hb)
      have F := Lib.hid (show Blk2 w1 w.heap.size 34 P Q from heap_below heap_new hb)
      clear hb
      obtain ⟨⟨f0, f1⟩, -, hlf⟩ := F.out.open_
      go_wp2_with fail
      refine (HD.out _).mono ?_; rintro e w2 ⟨rfl, hb⟩
      replace T := Lib.hid (bfin T.out hb)
      clear hb f0 f1 hlf F
      go_wp2_with fail
      go_ret2
      exact ⟨rfl, (T.out.alloc T.out.size _).alloc (by have := T.out.size; simp; omega) _⟩
  · rw [show poRes P Q full = (noS, tcRes P Q) by unfold poRes; rw [if_neg h0]]
    have h0' : (tcRes P Q != 0) = true := by simpa using h0
    generalize tcRes P Q = k at *
    clear hT
    go_enter Tryz.func13, Tryz.ntmps13
    go_wp2_with fail
    refine (HC.out _).mono ?_; rintro e w1 ⟨rfl, hb⟩
    have T := Lib.hid (show Below w.heap.size w w1 from bfin (by go_grown) hb)
    clear hb
    go_wp2_with fail
    go_ret2
    exact ⟨rfl, T.out⟩
set_option maxRecDepth 100000 in
theorem sPathOf_any (P Q : Int) (R : Q4) (full : List Bool) (w : World) (hT : tcRes P Q = 0 → Tr ⟨0, 1, 1, 0⟩ Q P R full) :
    Calls Tryz.prog 14 #[(.agg #[.int .i64 P, .int .i64 Q])] w fun e w' => e = .returned (.tuple #[(poRes P Q full).1, (.int .i64 ((poRes P Q full).2))]) ∧ Below w.heap.size w w' := by
  have HC := Lib.hid (fun W => l03Given_any P Q W)
  by_cases h0 : tcRes P Q = 0
  · have ht := hT h0
    obtain ⟨p1, q1, p0, q0, hg, -⟩ := tcIn h0
    have HD := Lib.hid (fun W => l03Walk_any P Q R full W p1 q1 p0 q0 hg ht)
    have hfl : full.length ≤ 20000 := by have := ht.len q0 p0; omega
    rw [show poRes P Q full = if 200 < full.length then (noS, 3) else (lrS full, 0) by unfold poRes; rw [if_pos h0]]
    rw [h0] at HC
    clear hT ht h0 hg
    by_cases hl : 200 < full.length
    · rw [if_pos hl]
      have hl2 : (200 : Int) < (full.length : Int) := by omega
      go_enter Tryz.func14, Tryz.ntmps14
      go_wp2_with fail
      refine (HC.out _).mono ?_; rintro e w1 ⟨rfl, hb⟩
      have T := Lib.hid (show Below w.heap.size w w1 from bfin (by go_grown) hb)
      have F := Lib.hid (show Blk2 w1 w.heap.size 34 P Q from heap_below heap_new hb)
      clear hb
      obtain ⟨⟨f0, f1⟩, -, hlf⟩ := F.out.open_
      go_wp2_with fail
      refine (HD.out _).mono ?_; rintro e w2 ⟨v, rfl, ho, hb⟩
      obtain ⟨A, cap, rfl, -, -, -⟩ := own_view ho
      replace T := Lib.hid (bfin T.out hb)
      clear hb f0 f1 hlf F ho
      go_wp2_with fail
      go_ret2
      exact ⟨rfl, (T.out.alloc T.out.size _).alloc (by have := T.out.size; simp; omega) _⟩
    · rw [if_neg hl]
      have hl2 : ¬ (200 : Int) < (full.length : Int) := by omega
      go_enter Tryz.func14, Tryz.ntmps14
      go_wp2_with fail
      refine (HC.out _).mono ?_; rintro e w1 ⟨rfl, hb⟩
      have T := Lib.hid (show Below w.heap.size w w1 from bfin (by go_grown) hb)
      have F := Lib.hid (show Blk2 w1 w.heap.size 34 P Q from heap_below heap_new hb)
      clear hb
      obtain ⟨⟨f0, f1⟩, -, hlf⟩ := F.out.open_
      go_wp2_with fail
      refine (HD.out _).mono ?_; rintro e w2 ⟨v, rfl, ho, hb⟩
      obtain ⟨A, cap, rfl, -, -, -⟩ := own_view ho
      have hcv := conv_own ((ho.alloc (.cells #[(.int .i64 R.a), (.int .i64 R.b)] 34)).alloc (.cells #[(.int .i64 R.c), (.int .i64 R.d)] 34))
      replace T := Lib.hid (bfin T.out hb)
      clear hb f0 f1 hlf F ho
      go_wp2_with fail
      go_ret2
      exact ⟨rfl, (T.out.alloc T.out.size _).alloc (by have := T.out.size; simp; omega) _⟩
  · rw [show poRes P Q full = (noS, tcRes P Q) by unfold poRes; rw [if_neg h0]]
    have h0' : (tcRes P Q != 0) = true := by simpa using h0
    generalize tcRes P Q = k at *
    clear hT
    go_enter Tryz.func14, Tryz.ntmps14
    go_wp2_with fail
    refine (HC.out _).mono ?_; rintro e w1 ⟨rfl, hb⟩
    have T := Lib.hid (show Below w.heap.size w w1 from bfin (by go_grown) hb)
    clear hb
    go_wp2_with fail
    go_ret2
    exact ⟨rfl, T.out⟩
set_option maxRecDepth 100000 in
set_option maxHeartbeats 1000000 in
theorem ParentsOf_any (P Q : Int) (R : Q4) (full : List Bool) (w : World) (hT : tcRes P Q = 0 → Tr ⟨0, 1, 1, 0⟩ Q P R full) :
    Calls Tryz.prog 15 #[(.agg #[.int .i64 P, .int .i64 Q])] w fun e w' => e = .returned (.tuple #[(.agg #[.int .i64 ((paRes P Q R).1.a), .int .i64 ((paRes P Q R).1.b)]), (.agg #[.int .i64 ((paRes P Q R).1.c), .int .i64 ((paRes P Q R).1.d)]), (.int .i64 ((paRes P Q R).2))]) ∧ Below w.heap.size w w' := by
  have HC := Lib.hid (fun W => treeCode_any P Q W)
  by_cases h0 : tcRes P Q = 0
  · have ht := hT h0
    obtain ⟨p1, q1, p0, q0, hg, -⟩ := tcIn h0
    have HD := Lib.hid (fun W => descend_any P Q R full W p1 q1 p0 q0 hg ht)
    rw [show paRes P Q R = (R, 0) by unfold paRes; rw [if_pos h0]]
    rw [h0] at HC
    clear hT ht h0 hg
    go_enter Tryz.func15, Tryz.ntmps15
    go_wp2_with fail
    refine (HC.out _).mono ?_; rintro e w1 ⟨rfl, hb⟩
    have T := Lib.hid (show Below w.heap.size w w1 from bfin (by go_grown) hb)
    have F := Lib.hid (show Blk2 w1 w.heap.size 34 P Q from heap_below (heap_alloc (heap_alloc heap_new)) hb)
    have Z1 := Lib.hid (show Blk2 w1 (w.heap.size + 1) 34 0 0 from heap_below (heap_alloc (heap_new' (by simp))) hb)
    have Z2 := Lib.hid (show Blk2 w1 (w.heap.size + 1 + 1) 34 0 0 from heap_below (heap_new' (by simp)) hb)
    have hz2 := lt_of_blk Z2.out
    clear hb
    obtain ⟨⟨f0, f1⟩, -, hlf⟩ := F.out.open_
    go_wp2_with fail
    refine (HD.out _).mono ?_; rintro e w2 ⟨rfl, hb⟩
    replace T := Lib.hid (((bfin T.out hb).alloc (bfin T.out hb).size (.cells #[(.int .i64 R.a), (.int .i64 R.b)] 34)).alloc (by have := (bfin T.out hb).size; simp; omega) (.cells #[(.int .i64 R.c), (.int .i64 R.d)] 34))
    replace Z1 := Lib.hid (show Blk2 ((w2.alloc (.cells #[(.int .i64 R.a), (.int .i64 R.b)] 34)).alloc (.cells #[(.int .i64 R.c), (.int .i64 R.d)] 34)) (w.heap.size + 1) 34 0 0 from heap_alloc (heap_alloc (heap_below Z1.out hb)))
    replace Z2 := Lib.hid (show Blk2 ((w2.alloc (.cells #[(.int .i64 R.a), (.int .i64 R.b)] 34)).alloc (.cells #[(.int .i64 R.c), (.int .i64 R.d)] 34)) (w.heap.size + 1 + 1) 34 0 0 from heap_alloc (heap_alloc (heap_below Z2.out hb)))
    have L := Lib.hid (show Blk2 ((w2.alloc (.cells #[(.int .i64 R.a), (.int .i64 R.b)] 34)).alloc (.cells #[(.int .i64 R.c), (.int .i64 R.d)] 34)) w2.heap.size 34 R.a R.b from heap_alloc heap_new)
    have M := Lib.hid (show Blk2 ((w2.alloc (.cells #[(.int .i64 R.a), (.int .i64 R.b)] 34)).alloc (.cells #[(.int .i64 R.c), (.int .i64 R.d)] 34)) (w2.heap.size + 1) 34 R.c R.d from heap_new' (by simp))
    have hgg : w.heap.size + 3 ≤ w2.heap.size := by have h4 := hb.size; omega
    clear hb f0 f1 hlf F hz2
    go_wp2_with fail
    generalize w2.heap.size = g at *
    have n1 : ¬ g = w.heap.size := by omega
    have n2 : ¬ g = w.heap.size + 1 := by omega
    have n3 : ¬ g = w.heap.size + 1 + 1 := by omega
    have n4 : ¬ g + 1 = w.heap.size + 1 := by omega
    have n5 : ¬ g + 1 = w.heap.size + 1 + 1 := by omega
    generalize (w2.alloc (.cells #[(.int .i64 R.a), (.int .i64 R.b)] 34)).alloc (.cells #[(.int .i64 R.c), (.int .i64 R.d)] 34) = W3 at *
    obtain ⟨⟨x0, x1⟩, ⟨x2, x3⟩, hx⟩ := Z1.out.open_
    obtain ⟨⟨y0, y1⟩, ⟨y2, y3⟩, hy⟩ := Z2.out.open_
    obtain ⟨⟨l0, l1⟩, -, hl⟩ := L.out.open_
    obtain ⟨⟨m0, m1⟩, -, hm⟩ := M.out.open_
    have hgs := hx
    go_big_region
    go_wp2_with fail
    have HB1 := Lib.hid (show Blk2 (((((W3.setCell ⟨w.heap.size + 1, 0, none⟩ (.int .i64 R.a)).setCell ⟨w.heap.size + 1, 1, none⟩ (.int .i64 R.b)).setCell ⟨w.heap.size + 1 + 1, 0, none⟩ (.int .i64 R.c)).setCell ⟨w.heap.size + 1 + 1, 1, none⟩ (.int .i64 R.d)).drew) (w.heap.size + 1) 34 R.a R.b from heap_keep (heap_keep (by exact heap_set2 (by exact Z1.out)) (by omega)) (by omega))
    have HB2 := Lib.hid (show Blk2 (((((W3.setCell ⟨w.heap.size + 1, 0, none⟩ (.int .i64 R.a)).setCell ⟨w.heap.size + 1, 1, none⟩ (.int .i64 R.b)).setCell ⟨w.heap.size + 1 + 1, 0, none⟩ (.int .i64 R.c)).setCell ⟨w.heap.size + 1 + 1, 1, none⟩ (.int .i64 R.d)).drew) (w.heap.size + 1 + 1) 34 R.c R.d from heap_set2 (by exact heap_keep (heap_keep (by exact Z2.out) (by omega)) (by omega)))
    have T4 := Lib.hid (show Below w.heap.size w (((((W3.setCell ⟨w.heap.size + 1, 0, none⟩ (.int .i64 R.a)).setCell ⟨w.heap.size + 1, 1, none⟩ (.int .i64 R.b)).setCell ⟨w.heap.size + 1 + 1, 0, none⟩ (.int .i64 R.c)).setCell ⟨w.heap.size + 1 + 1, 1, none⟩ (.int .i64 R.d)).drew) from ((((T.out.setCell (p := ⟨w.heap.size + 1, 0, none⟩) (by show _ ≤ w.heap.size + 1; omega) _).setCell (p := ⟨w.heap.size + 1, 1, none⟩) (by show _ ≤ w.heap.size + 1; omega) _).setCell (p := ⟨w.heap.size + 1 + 1, 0, none⟩) (by show _ ≤ w.heap.size + 1 + 1; omega) _).setCell (p := ⟨w.heap.size + 1 + 1, 1, none⟩) (by show _ ≤ w.heap.size + 1 + 1; omega) _).drew)
    generalize ((((W3.setCell ⟨w.heap.size + 1, 0, none⟩ (.int .i64 R.a)).setCell ⟨w.heap.size + 1, 1, none⟩ (.int .i64 R.b)).setCell ⟨w.heap.size + 1 + 1, 0, none⟩ (.int .i64 R.c)).setCell ⟨w.heap.size + 1 + 1, 1, none⟩ (.int .i64 R.d)).drew = W4 at *
    obtain ⟨c0, c1⟩ := (⟨cell_of_blk HB1.out 0, cell_of_blk HB1.out 1⟩ : W4.cell? ⟨w.heap.size + 1, 0, none⟩ = some (.int .i64 R.a) ∧ W4.cell? ⟨w.heap.size + 1, 1, none⟩ = some (.int .i64 R.b))
    obtain ⟨d0, d1⟩ := (⟨cell_of_blk HB2.out 0, cell_of_blk HB2.out 1⟩ : W4.cell? ⟨w.heap.size + 1 + 1, 0, none⟩ = some (.int .i64 R.c) ∧ W4.cell? ⟨w.heap.size + 1 + 1, 1, none⟩ = some (.int .i64 R.d))
    refine bodyPost_ret (v := .tuple #[(.agg #[.int .i64 R.a, .int .i64 R.b]), (.agg #[.int .i64 R.c, .int .i64 R.d]), (.int .i64 0)]) (by first | (simp [results, Tryz.results15, go_sem]; done) | (simp [results, Tryz.results15, go_sem, c0, c1, d0, d1] <;> rfl)) rfl ?_
    exact ⟨rfl, T4.out⟩
  · rw [show paRes P Q R = (⟨0, 0, 0, 0⟩, tcRes P Q) by unfold paRes; rw [if_neg h0]]
    have h0' : (tcRes P Q != 0) = true := by simpa using h0
    generalize tcRes P Q = k at *
    clear hT
    go_enter Tryz.func15, Tryz.ntmps15
    go_wp2_with fail
    refine (HC.out _).mono ?_; rintro e w1 ⟨rfl, hb⟩
    have T := Lib.hid (show Below w.heap.size w w1 from bfin (by go_grown) hb)
    have Z1 := Lib.hid (show Blk2 w1 (w.heap.size + 1) 34 0 0 from heap_below (heap_alloc (heap_new' (by simp))) hb)
    have Z2 := Lib.hid (show Blk2 w1 (w.heap.size + 1 + 1) 34 0 0 from heap_below (heap_new' (by simp)) hb)
    clear hb
    obtain ⟨⟨x0, x1⟩, ⟨x2, x3⟩, hx⟩ := Z1.out.open_
    obtain ⟨⟨y0, y1⟩, ⟨y2, y3⟩, hy⟩ := Z2.out.open_
    go_wp2_with fail
    have HB1 := Lib.hid (show Blk2 ((((w1.setCell ⟨w.heap.size + 1, 0, none⟩ (.int .i64 0)).setCell ⟨w.heap.size + 1, 1, none⟩ (.int .i64 0)).setCell ⟨w.heap.size + 1 + 1, 0, none⟩ (.int .i64 0)).setCell ⟨w.heap.size + 1 + 1, 1, none⟩ (.int .i64 0)) (w.heap.size + 1) 34 0 0 from heap_keep (heap_keep (heap_set2 Z1.out) (by omega)) (by omega))
    have HB2 := Lib.hid (show Blk2 ((((w1.setCell ⟨w.heap.size + 1, 0, none⟩ (.int .i64 0)).setCell ⟨w.heap.size + 1, 1, none⟩ (.int .i64 0)).setCell ⟨w.heap.size + 1 + 1, 0, none⟩ (.int .i64 0)).setCell ⟨w.heap.size + 1 + 1, 1, none⟩ (.int .i64 0)) (w.heap.size + 1 + 1) 34 0 0 from heap_set2 (heap_keep (heap_keep Z2.out (by omega)) (by omega)))
    have T4 := Lib.hid (show Below w.heap.size w ((((w1.setCell ⟨w.heap.size + 1, 0, none⟩ (.int .i64 0)).setCell ⟨w.heap.size + 1, 1, none⟩ (.int .i64 0)).setCell ⟨w.heap.size + 1 + 1, 0, none⟩ (.int .i64 0)).setCell ⟨w.heap.size + 1 + 1, 1, none⟩ (.int .i64 0)) from (((T.out.setCell (p := ⟨w.heap.size + 1, 0, none⟩) (by show _ ≤ w.heap.size + 1; omega) _).setCell (p := ⟨w.heap.size + 1, 1, none⟩) (by show _ ≤ w.heap.size + 1; omega) _).setCell (p := ⟨w.heap.size + 1 + 1, 0, none⟩) (by show _ ≤ w.heap.size + 1 + 1; omega) _).setCell (p := ⟨w.heap.size + 1 + 1, 1, none⟩) (by show _ ≤ w.heap.size + 1 + 1; omega) _)
    generalize (((w1.setCell ⟨w.heap.size + 1, 0, none⟩ (.int .i64 0)).setCell ⟨w.heap.size + 1, 1, none⟩ (.int .i64 0)).setCell ⟨w.heap.size + 1 + 1, 0, none⟩ (.int .i64 0)).setCell ⟨w.heap.size + 1 + 1, 1, none⟩ (.int .i64 0) = W4 at *
    obtain ⟨c0, c1⟩ := (⟨cell_of_blk HB1.out 0, cell_of_blk HB1.out 1⟩ : W4.cell? ⟨w.heap.size + 1, 0, none⟩ = some (.int .i64 0) ∧ W4.cell? ⟨w.heap.size + 1, 1, none⟩ = some (.int .i64 0))
    obtain ⟨d0, d1⟩ := (⟨cell_of_blk HB2.out 0, cell_of_blk HB2.out 1⟩ : W4.cell? ⟨w.heap.size + 1 + 1, 0, none⟩ = some (.int .i64 0) ∧ W4.cell? ⟨w.heap.size + 1 + 1, 1, none⟩ = some (.int .i64 0))
    refine bodyPost_ret (v := .tuple #[(.agg #[.int .i64 0, .int .i64 0]), (.agg #[.int .i64 0, .int .i64 0]), (.int .i64 k)]) (by first | (simp [results, Tryz.results15, go_sem]; done) | (simp [results, Tryz.results15, go_sem, c0, c1, d0, d1] <;> rfl)) rfl ?_
    exact ⟨rfl, T4.out⟩
set_option maxRecDepth 100000 in
set_option maxHeartbeats 1000000 in
theorem sParentsOf_any (P Q : Int) (R : Q4) (full : List Bool) (w : World) (hT : tcRes P Q = 0 → Tr ⟨0, 1, 1, 0⟩ Q P R full) :
    Calls Tryz.prog 16 #[(.agg #[.int .i64 P, .int .i64 Q])] w fun e w' => e = .returned (.tuple #[(.agg #[.int .i64 ((paRes P Q R).1.a), .int .i64 ((paRes P Q R).1.b)]), (.agg #[.int .i64 ((paRes P Q R).1.c), .int .i64 ((paRes P Q R).1.d)]), (.int .i64 ((paRes P Q R).2))]) ∧ Below w.heap.size w w' := by
  have HC := Lib.hid (fun W => l03Given_any P Q W)
  by_cases h0 : tcRes P Q = 0
  · have ht := hT h0
    obtain ⟨p1, q1, p0, q0, hg, -⟩ := tcIn h0
    have HD := Lib.hid (fun W => l03Walk_any P Q R full W p1 q1 p0 q0 hg ht)
    rw [show paRes P Q R = (R, 0) by unfold paRes; rw [if_pos h0]]
    rw [h0] at HC
    clear hT ht h0 hg
    go_enter Tryz.func16, Tryz.ntmps16
    go_wp2_with fail
    refine (HC.out _).mono ?_; rintro e w1 ⟨rfl, hb⟩
    have T := Lib.hid (show Below w.heap.size w w1 from bfin (by go_grown) hb)
    have F := Lib.hid (show Blk2 w1 w.heap.size 34 P Q from heap_below (heap_alloc (heap_alloc heap_new)) hb)
    have Z1 := Lib.hid (show Blk2 w1 (w.heap.size + 1) 34 0 0 from heap_below (heap_alloc (heap_new' (by simp))) hb)
    have Z2 := Lib.hid (show Blk2 w1 (w.heap.size + 1 + 1) 34 0 0 from heap_below (heap_new' (by simp)) hb)
    have hz2 := lt_of_blk Z2.out
    clear hb
    obtain ⟨⟨f0, f1⟩, -, hlf⟩ := F.out.open_
    go_wp2_with fail
    refine (HD.out _).mono ?_; rintro e w2 ⟨v, rfl, ho, hb⟩
    clear ho
    replace T := Lib.hid (((bfin T.out hb).alloc (bfin T.out hb).size (.cells #[(.int .i64 R.a), (.int .i64 R.b)] 34)).alloc (by have := (bfin T.out hb).size; simp; omega) (.cells #[(.int .i64 R.c), (.int .i64 R.d)] 34))
    replace Z1 := Lib.hid (show Blk2 ((w2.alloc (.cells #[(.int .i64 R.a), (.int .i64 R.b)] 34)).alloc (.cells #[(.int .i64 R.c), (.int .i64 R.d)] 34)) (w.heap.size + 1) 34 0 0 from heap_alloc (heap_alloc (heap_below Z1.out hb)))
    replace Z2 := Lib.hid (show Blk2 ((w2.alloc (.cells #[(.int .i64 R.a), (.int .i64 R.b)] 34)).alloc (.cells #[(.int .i64 R.c), (.int .i64 R.d)] 34)) (w.heap.size + 1 + 1) 34 0 0 from heap_alloc (heap_alloc (heap_below Z2.out hb)))
    have L := Lib.hid (show Blk2 ((w2.alloc (.cells #[(.int .i64 R.a), (.int .i64 R.b)] 34)).alloc (.cells #[(.int .i64 R.c), (.int .i64 R.d)] 34)) w2.heap.size 34 R.a R.b from heap_alloc heap_new)
    have M := Lib.hid (show Blk2 ((w2.alloc (.cells #[(.int .i64 R.a), (.int .i64 R.b)] 34)).alloc (.cells #[(.int .i64 R.c), (.int .i64 R.d)] 34)) (w2.heap.size + 1) 34 R.c R.d from heap_new' (by simp))
    have hgg : w.heap.size + 3 ≤ w2.heap.size := by have h4 := hb.size; omega
    clear hb f0 f1 hlf F hz2
    go_wp2_with fail
    generalize w2.heap.size = g at *
    have n1 : ¬ g = w.heap.size := by omega
    have n2 : ¬ g = w.heap.size + 1 := by omega
    have n3 : ¬ g = w.heap.size + 1 + 1 := by omega
    have n4 : ¬ g + 1 = w.heap.size + 1 := by omega
    have n5 : ¬ g + 1 = w.heap.size + 1 + 1 := by omega
    generalize (w2.alloc (.cells #[(.int .i64 R.a), (.int .i64 R.b)] 34)).alloc (.cells #[(.int .i64 R.c), (.int .i64 R.d)] 34) = W3 at *
    obtain ⟨⟨x0, x1⟩, ⟨x2, x3⟩, hx⟩ := Z1.out.open_
    obtain ⟨⟨y0, y1⟩, ⟨y2, y3⟩, hy⟩ := Z2.out.open_
    obtain ⟨⟨l0, l1⟩, -, hl⟩ := L.out.open_
    obtain ⟨⟨m0, m1⟩, -, hm⟩ := M.out.open_
    have hgs := hx
    go_big_region
    go_wp2_with fail
    have HB1 := Lib.hid (show Blk2 (((((W3.setCell ⟨w.heap.size + 1, 0, none⟩ (.int .i64 R.a)).setCell ⟨w.heap.size + 1, 1, none⟩ (.int .i64 R.b)).setCell ⟨w.heap.size + 1 + 1, 0, none⟩ (.int .i64 R.c)).setCell ⟨w.heap.size + 1 + 1, 1, none⟩ (.int .i64 R.d)).drew) (w.heap.size + 1) 34 R.a R.b from heap_keep (heap_keep (by exact heap_set2 (by exact Z1.out)) (by omega)) (by omega))
    have HB2 := Lib.hid (show Blk2 (((((W3.setCell ⟨w.heap.size + 1, 0, none⟩ (.int .i64 R.a)).setCell ⟨w.heap.size + 1, 1, none⟩ (.int .i64 R.b)).setCell ⟨w.heap.size + 1 + 1, 0, none⟩ (.int .i64 R.c)).setCell ⟨w.heap.size + 1 + 1, 1, none⟩ (.int .i64 R.d)).drew) (w.heap.size + 1 + 1) 34 R.c R.d from heap_set2 (by exact heap_keep (heap_keep (by exact Z2.out) (by omega)) (by omega)))
    have T4 := Lib.hid (show Below w.heap.size w (((((W3.setCell ⟨w.heap.size + 1, 0, none⟩ (.int .i64 R.a)).setCell ⟨w.heap.size + 1, 1, none⟩ (.int .i64 R.b)).setCell ⟨w.heap.size + 1 + 1, 0, none⟩ (.int .i64 R.c)).setCell ⟨w.heap.size + 1 + 1, 1, none⟩ (.int .i64 R.d)).drew) from ((((T.out.setCell (p := ⟨w.heap.size + 1, 0, none⟩) (by show _ ≤ w.heap.size + 1; omega) _).setCell (p := ⟨w.heap.size + 1, 1, none⟩) (by show _ ≤ w.heap.size + 1; omega) _).setCell (p := ⟨w.heap.size + 1 + 1, 0, none⟩) (by show _ ≤ w.heap.size + 1 + 1; omega) _).setCell (p := ⟨w.heap.size + 1 + 1, 1, none⟩) (by show _ ≤ w.heap.size + 1 + 1; omega) _).drew)
    generalize ((((W3.setCell ⟨w.heap.size + 1, 0, none⟩ (.int .i64 R.a)).setCell ⟨w.heap.size + 1, 1, none⟩ (.int .i64 R.b)).setCell ⟨w.heap.size + 1 + 1, 0, none⟩ (.int .i64 R.c)).setCell ⟨w.heap.size + 1 + 1, 1, none⟩ (.int .i64 R.d)).drew = W4 at *
    obtain ⟨c0, c1⟩ := (⟨cell_of_blk HB1.out 0, cell_of_blk HB1.out 1⟩ : W4.cell? ⟨w.heap.size + 1, 0, none⟩ = some (.int .i64 R.a) ∧ W4.cell? ⟨w.heap.size + 1, 1, none⟩ = some (.int .i64 R.b))
    obtain ⟨d0, d1⟩ := (⟨cell_of_blk HB2.out 0, cell_of_blk HB2.out 1⟩ : W4.cell? ⟨w.heap.size + 1 + 1, 0, none⟩ = some (.int .i64 R.c) ∧ W4.cell? ⟨w.heap.size + 1 + 1, 1, none⟩ = some (.int .i64 R.d))
    refine bodyPost_ret (v := .tuple #[(.agg #[.int .i64 R.a, .int .i64 R.b]), (.agg #[.int .i64 R.c, .int .i64 R.d]), (.int .i64 0)]) (by first | (simp [results, Tryz.results16, go_sem]; done) | (simp [results, Tryz.results16, go_sem, c0, c1, d0, d1] <;> rfl)) rfl ?_
    exact ⟨rfl, T4.out⟩
  · rw [show paRes P Q R = (⟨0, 0, 0, 0⟩, tcRes P Q) by unfold paRes; rw [if_neg h0]]
    have h0' : (tcRes P Q != 0) = true := by simpa using h0
    generalize tcRes P Q = k at *
    clear hT
    go_enter Tryz.func16, Tryz.ntmps16
    go_wp2_with fail
    refine (HC.out _).mono ?_; rintro e w1 ⟨rfl, hb⟩
    have T := Lib.hid (show Below w.heap.size w w1 from bfin (by go_grown) hb)
    have Z1 := Lib.hid (show Blk2 w1 (w.heap.size + 1) 34 0 0 from heap_below (heap_alloc (heap_new' (by simp))) hb)
    have Z2 := Lib.hid (show Blk2 w1 (w.heap.size + 1 + 1) 34 0 0 from heap_below (heap_new' (by simp)) hb)
    clear hb
    obtain ⟨⟨x0, x1⟩, ⟨x2, x3⟩, hx⟩ := Z1.out.open_
    obtain ⟨⟨y0, y1⟩, ⟨y2, y3⟩, hy⟩ := Z2.out.open_
    go_wp2_with fail
    have HB1 := Lib.hid (show Blk2 ((((w1.setCell ⟨w.heap.size + 1, 0, none⟩ (.int .i64 0)).setCell ⟨w.heap.size + 1, 1, none⟩ (.int .i64 0)).setCell ⟨w.heap.size + 1 + 1, 0, none⟩ (.int .i64 0)).setCell ⟨w.heap.size + 1 + 1, 1, none⟩ (.int .i64 0)) (w.heap.size + 1) 34 0 0 from heap_keep (heap_keep (heap_set2 Z1.out) (by omega)) (by omega))
    have HB2 := Lib.hid (show Blk2 ((((w1.setCell ⟨w.heap.size + 1, 0, none⟩ (.int .i64 0)).setCell ⟨w.heap.size + 1, 1, none⟩ (.int .i64 0)).setCell ⟨w.heap.size + 1 + 1, 0, none⟩ (.int .i64 0)).setCell ⟨w.heap.size + 1 + 1, 1, none⟩ (.int .i64 0)) (w.heap.size + 1 + 1) 34 0 0 from heap_set2 (heap_keep (heap_keep Z2.out (by omega)) (by omega)))
    have T4 := Lib.hid (show Below w.heap.size w ((((w1.setCell ⟨w.heap.size + 1, 0, none⟩ (.int .i64 0)).setCell ⟨w.heap.size + 1, 1, none⟩ (.int .i64 0)).setCell ⟨w.heap.size + 1 + 1, 0, none⟩ (.int .i64 0)).setCell ⟨w.heap.size + 1 + 1, 1, none⟩ (.int .i64 0)) from (((T.out.setCell (p := ⟨w.heap.size + 1, 0, none⟩) (by show _ ≤ w.heap.size + 1; omega) _).setCell (p := ⟨w.heap.size + 1, 1, none⟩) (by show _ ≤ w.heap.size + 1; omega) _).setCell (p := ⟨w.heap.size + 1 + 1, 0, none⟩) (by show _ ≤ w.heap.size + 1 + 1; omega) _).setCell (p := ⟨w.heap.size + 1 + 1, 1, none⟩) (by show _ ≤ w.heap.size + 1 + 1; omega) _)
    generalize (((w1.setCell ⟨w.heap.size + 1, 0, none⟩ (.int .i64 0)).setCell ⟨w.heap.size + 1, 1, none⟩ (.int .i64 0)).setCell ⟨w.heap.size + 1 + 1, 0, none⟩ (.int .i64 0)).setCell ⟨w.heap.size + 1 + 1, 1, none⟩ (.int .i64 0) = W4 at *
    obtain ⟨c0, c1⟩ := (⟨cell_of_blk HB1.out 0, cell_of_blk HB1.out 1⟩ : W4.cell? ⟨w.heap.size + 1, 0, none⟩ = some (.int .i64 0) ∧ W4.cell? ⟨w.heap.size + 1, 1, none⟩ = some (.int .i64 0))
    obtain ⟨d0, d1⟩ := (⟨cell_of_blk HB2.out 0, cell_of_blk HB2.out 1⟩ : W4.cell? ⟨w.heap.size + 1 + 1, 0, none⟩ = some (.int .i64 0) ∧ W4.cell? ⟨w.heap.size + 1 + 1, 1, none⟩ = some (.int .i64 0))
    refine bodyPost_ret (v := .tuple #[(.agg #[.int .i64 0, .int .i64 0]), (.agg #[.int .i64 0, .int .i64 0]), (.int .i64 k)]) (by first | (simp [results, Tryz.results16, go_sem]; done) | (simp [results, Tryz.results16, go_sem, c0, c1, d0, d1] <;> rfl)) rfl ?_
    exact ⟨rfl, T4.out⟩
end Go.Proofs.YtjnkogkpdbgohaaGreatDoor
