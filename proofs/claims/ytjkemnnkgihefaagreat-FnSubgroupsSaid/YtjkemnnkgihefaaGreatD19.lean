/- Contracts: inverses and products of two matrices. -/
import Derived.Test.YtjkemnnkgihefaaGreatD10
namespace Go.Proofs.YtjkemnnkgihefaaGreat
open Go.RowKit
theorem EM.mat {a b c d : Int} (h : IsMat a b c d) : EM a b c d := ⟨⟨h.a0, h.a1⟩, ⟨h.b0, h.b1⟩, ⟨h.c0, h.c1⟩, ⟨h.d0, h.d1⟩⟩
set_option maxRecDepth 100000 in
theorem InverseOf_any (a b c d : Int) (w : World) (h : IsMat a b c d) :
    Calls Tryz.prog 25 #[(.agg #[.int .i64 a, .int .i64 b, .int .i64 c, .int .i64 d])] w fun e w' => e = .returned (.tuple #[(.agg #[.int .i64 d, .int .i64 (-b), .int .i64 (-c), .int .i64 a]), (.int .i64 0)]) ∧ Below w.heap.size w w' := by
  have HM := Lib.hid (fun W => IsMatrix_any a b c d W)
  rw [isMat_iff.2 h] at HM
  have HI := Lib.hid (fun W => inverse_any a b c d W (EM.mat h))
  clear h
  go_enter Tryz.func25, Tryz.ntmps25
  go_wp2_with fail
  refine (HM.out _).mono ?_; rintro e w1 ⟨rfl, hb1⟩
  have HB1 := Lib.hid (show Below w.heap.size w w1 from bfin (by go_grown) hb1)
  have M1 := Lib.hid ((Bm.new (w := w) (p := a) (q := b) (s := c) (u := d)).alloc (.cells #[(.int .i64 0), (.int .i64 0), (.int .i64 0), (.int .i64 0)] 25) |>.below hb1)
  have B1 := Lib.hid ((Bm.newE (g := w.heap.size + 1) (w := w.alloc (.cells #[(.int .i64 a), (.int .i64 b), (.int .i64 c), (.int .i64 d)] 25)) (p := 0) (q := 0) (s := 0) (u := 0) (by simp)).below hb1)
  clear hb1 HM
  obtain ⟨⟨c0, c1, c2, c3⟩, -, hl1⟩ := M1.out.open_
  go_wp2_with fail
  refine (HI.out _).mono ?_; rintro e w2 ⟨rfl, hb2⟩
  have HB2 := Lib.hid (bfin HB1.out hb2)
  have B2 := Lib.hid (B1.out.below hb2)
  clear hb2 HI c0 c1 c2 c3 hl1 M1 B1 HB1
  obtain ⟨⟨c0, c1, c2, c3⟩, ⟨f0, f1, f2, f3⟩, hl1⟩ := B2.out.open_
  go_wp2_with fail
  refine bodyPost_ret (v := .tuple #[(.agg #[.int .i64 d, .int .i64 (-b), .int .i64 (-c), .int .i64 a]), (.int .i64 0)]) (by simp [results, Tryz.results25, go_sem, set4_0 B2.out, set4_1 B2.out, set4_2 B2.out, set4_3 B2.out] <;> rfl) rfl ⟨rfl, below_set4 HB2.out (by omega)⟩
theorem cells8 {w : World} {b : Nat} {t : TypeId} {x y : M4} (h : w.heap[b]? = some (.cells #[(.int .i64 x.p), (.int .i64 x.q), (.int .i64 x.r), (.int .i64 x.s), (.int .i64 y.p), (.int .i64 y.q), (.int .i64 y.r), (.int .i64 y.s)] t (0, 0))) : ∀ k m, [x, y][k]? = some m → CellsM w b k m := by
  intro k m hm
  rcases (show k = 0 ∨ k = 1 ∨ 2 ≤ k by omega) with rfl | rfl | hk
  · simp at hm; subst hm; exact ⟨cell_of_blk h 0, cell_of_blk h 1, cell_of_blk h 2, cell_of_blk h 3⟩
  · simp at hm; subst hm; exact ⟨cell_of_blk h 4, cell_of_blk h 5, cell_of_blk h 6, cell_of_blk h 7⟩
  · rw [List.getElem?_eq_none (by simpa using hk)] at hm; cases hm
theorem cellsEight {w : World} {b : Nat} {t : TypeId} {a0 a1 a2 a3 b0 b1 b2 b3 : Int} (h : w.heap[b]? = some (.cells #[(.int .i64 a0), (.int .i64 a1), (.int .i64 a2), (.int .i64 a3), (.int .i64 b0), (.int .i64 b1), (.int .i64 b2), (.int .i64 b3)] t (0, 0))) : Cells8 w b a0 a1 a2 a3 b0 b1 b2 b3 :=
  ⟨cell_of_blk h 0, cell_of_blk h 1, cell_of_blk h 2, cell_of_blk h 3, cell_of_blk h 4, cell_of_blk h 5, cell_of_blk h 6, cell_of_blk h 7, lt_of_blk h⟩
theorem entQ_of {m : M4} (h : IsMat m.p m.q m.r m.s) : entQ m = true := entM_mat h
theorem product_2 {x y : M4} (hx : IsMat x.p x.q x.r x.s) (hy : IsMat y.p y.q y.r y.s) (he : entQ (mulM x y) = true) {w : World} {b : Nat} {t : TypeId} (h : w.heap[b]? = some (.cells #[(.int .i64 x.p), (.int .i64 x.q), (.int .i64 x.r), (.int .i64 x.s), (.int .i64 y.p), (.int .i64 y.q), (.int .i64 y.r), (.int .i64 y.s)] t (0, 0))) :
    Calls Tryz.prog 59 #[.slice (some ⟨b, 0, none⟩) 2 2] w fun e w' => e = .returned (.tuple #[(.agg #[.int .i64 ((mulM x y).p), .int .i64 ((mulM x y).q), .int .i64 ((mulM x y).r), .int .i64 ((mulM x y).s)]), (.int .i64 0)]) ∧ Below w.heap.size w w' := by
  refine (product_any b 2 2 [x, y] w rfl (by omega) (lt_of_blk h) (cells8 h) (by
    intro m hm; simp at hm; rcases hm with rfl | rfl
    · exact entQ_of hx
    · exact entQ_of hy)).mono ?_
  rintro e w' ⟨rfl, hb⟩
  rw [prodF_2 hx, if_pos he]
  exact ⟨rfl, hb⟩
set_option maxRecDepth 1000000 in
set_option maxHeartbeats 4000000 in
theorem ProductOf_any (x y : M4) (w : World) (h : IsMat x.p x.q x.r x.s) (h' : IsMat y.p y.q y.r y.s) (he : entQ (mulM x y) = true) :
    Calls Tryz.prog 26 #[(.agg #[.int .i64 x.p, .int .i64 x.q, .int .i64 x.r, .int .i64 x.s]), (.agg #[.int .i64 y.p, .int .i64 y.q, .int .i64 y.r, .int .i64 y.s])] w fun e w' => e = .returned (.tuple #[(.agg #[.int .i64 ((mulM x y).p), .int .i64 ((mulM x y).q), .int .i64 ((mulM x y).r), .int .i64 ((mulM x y).s)]), (.int .i64 0)]) ∧ Below w.heap.size w w' := by
  have HA := Lib.hid (fun b W hc => areMatrices_2 b x.p x.q x.r x.s y.p y.q y.r y.s W hc)
  rw [isMat_iff.2 h, isMat_iff.2 h'] at HA
  have HPR := Lib.hid (fun (W : World) (b : Nat) hW => product_2 h h' he (w := W) (b := b) (t := 25) hW)
  generalize (mulM x y).p = P at *
  generalize (mulM x y).q = Q at *
  generalize (mulM x y).r = R at *
  generalize (mulM x y).s = S at *
  clear h h' he
  go_enter Tryz.func26, Tryz.ntmps26
  go_wp2_with fail
  refine (HA.out _ _ (cellsEight (by exact heap_new' (by simp)))).mono ?_; rintro e w1 ⟨rfl, hb1⟩
  have T1 := Lib.hid (show Below w.heap.size w w1 from bfin (by go_grown) hb1)
  have M1 := Lib.hid ((((Bm.new (w := w) (p := x.p) (q := x.q) (s := x.r) (u := x.s)).alloc (.cells #[(.int .i64 y.p), (.int .i64 y.q), (.int .i64 y.r), (.int .i64 y.s)] 25)).alloc (.cells #[(.int .i64 0), (.int .i64 0), (.int .i64 0), (.int .i64 0)] 25)).alloc _ |>.below hb1)
  have N1 := Lib.hid (((Bm.newE (g := w.heap.size + 1) (w := w.alloc (.cells #[(.int .i64 x.p), (.int .i64 x.q), (.int .i64 x.r), (.int .i64 x.s)] 25)) (p := y.p) (q := y.q) (s := y.r) (u := y.s) (by simp)).alloc (.cells #[(.int .i64 0), (.int .i64 0), (.int .i64 0), (.int .i64 0)] 25)).alloc _ |>.below hb1)
  have B1 := Lib.hid ((Bm.newE (g := w.heap.size + 2) (w := (w.alloc (.cells #[(.int .i64 x.p), (.int .i64 x.q), (.int .i64 x.r), (.int .i64 x.s)] 25)).alloc (.cells #[(.int .i64 y.p), (.int .i64 y.q), (.int .i64 y.r), (.int .i64 y.s)] 25)) (p := 0) (q := 0) (s := 0) (u := 0) (by simp)).alloc _ |>.below hb1)
  clear hb1 HA
  obtain ⟨⟨c0, c1, c2, c3⟩, -, hl1⟩ := M1.out.open_
  obtain ⟨⟨d0, d1, d2, d3⟩, -, hl2⟩ := N1.out.open_
  go_wp2_with fail
  refine (HPR.out _ _ (by exact heap_new)).mono ?_; rintro e w2 ⟨rfl, hb2⟩
  have T2 := Lib.hid (show Below w.heap.size w w2 from bfin (T1.out.alloc T1.out.size _) hb2)
  have B2 := Lib.hid ((B1.out.alloc _).below hb2)
  clear hb2 HPR M1 N1 B1 c0 c1 c2 c3 d0 d1 d2 d3 hl1 hl2
  obtain ⟨⟨c0, c1, c2, c3⟩, ⟨e0, e1, e2, e3⟩, hl1⟩ := B2.out.open_
  go_wp2_with fail
  refine bodyPost_ret (v := .tuple #[(.agg #[.int .i64 P, .int .i64 Q, .int .i64 R, .int .i64 S]), (.int .i64 0)]) (by simp [results, Tryz.results26, go_sem, set4_0 B2.out, set4_1 B2.out, set4_2 B2.out, set4_3 B2.out] <;> rfl) rfl ⟨rfl, below_set4 T2.out (by omega)⟩
theorem product_2no {x y : M4} (hx : IsMat x.p x.q x.r x.s) (hy : IsMat y.p y.q y.r y.s) (he : entQ (mulM x y) = false) {w : World} {b : Nat} {t : TypeId} (h : w.heap[b]? = some (.cells #[(.int .i64 x.p), (.int .i64 x.q), (.int .i64 x.r), (.int .i64 x.s), (.int .i64 y.p), (.int .i64 y.q), (.int .i64 y.r), (.int .i64 y.s)] t (0, 0))) :
    Calls Tryz.prog 59 #[.slice (some ⟨b, 0, none⟩) 2 2] w fun e w' => e = .returned (.tuple #[(.agg #[.int .i64 0, .int .i64 0, .int .i64 0, .int .i64 0]), (.int .i64 3)]) ∧ Below w.heap.size w w' := by
  refine (product_any b 2 2 [x, y] w rfl (by omega) (lt_of_blk h) (cells8 h) (by
    intro m hm; simp at hm; rcases hm with rfl | rfl
    · exact entQ_of hx
    · exact entQ_of hy)).mono ?_
  rintro e w' ⟨rfl, hb⟩
  rw [prodF_2 hx, he]
  exact ⟨rfl, hb⟩
set_option maxRecDepth 1000000 in
set_option maxHeartbeats 4000000 in
theorem ProductOf_no (x y : M4) (w : World) (h : IsMat x.p x.q x.r x.s) (h' : IsMat y.p y.q y.r y.s) (he : entQ (mulM x y) = false) :
    Calls Tryz.prog 26 #[(.agg #[.int .i64 x.p, .int .i64 x.q, .int .i64 x.r, .int .i64 x.s]), (.agg #[.int .i64 y.p, .int .i64 y.q, .int .i64 y.r, .int .i64 y.s])] w fun e w' => e = .returned (.tuple #[(.agg #[.int .i64 0, .int .i64 0, .int .i64 0, .int .i64 0]), (.int .i64 3)]) ∧ Below w.heap.size w w' := by
  have HA := Lib.hid (fun b W hc => areMatrices_2 b x.p x.q x.r x.s y.p y.q y.r y.s W hc)
  rw [isMat_iff.2 h, isMat_iff.2 h'] at HA
  have HPR := Lib.hid (fun (W : World) (b : Nat) hW => product_2no h h' he (w := W) (b := b) (t := 25) hW)
  clear h h' he
  go_enter Tryz.func26, Tryz.ntmps26
  go_wp2_with fail
  refine (HA.out _ _ (cellsEight (by exact heap_new' (by simp)))).mono ?_; rintro e w1 ⟨rfl, hb1⟩
  have T1 := Lib.hid (show Below w.heap.size w w1 from bfin (by go_grown) hb1)
  have M1 := Lib.hid ((((Bm.new (w := w) (p := x.p) (q := x.q) (s := x.r) (u := x.s)).alloc (.cells #[(.int .i64 y.p), (.int .i64 y.q), (.int .i64 y.r), (.int .i64 y.s)] 25)).alloc (.cells #[(.int .i64 0), (.int .i64 0), (.int .i64 0), (.int .i64 0)] 25)).alloc _ |>.below hb1)
  have N1 := Lib.hid (((Bm.newE (g := w.heap.size + 1) (w := w.alloc (.cells #[(.int .i64 x.p), (.int .i64 x.q), (.int .i64 x.r), (.int .i64 x.s)] 25)) (p := y.p) (q := y.q) (s := y.r) (u := y.s) (by simp)).alloc (.cells #[(.int .i64 0), (.int .i64 0), (.int .i64 0), (.int .i64 0)] 25)).alloc _ |>.below hb1)
  have B1 := Lib.hid ((Bm.newE (g := w.heap.size + 2) (w := (w.alloc (.cells #[(.int .i64 x.p), (.int .i64 x.q), (.int .i64 x.r), (.int .i64 x.s)] 25)).alloc (.cells #[(.int .i64 y.p), (.int .i64 y.q), (.int .i64 y.r), (.int .i64 y.s)] 25)) (p := 0) (q := 0) (s := 0) (u := 0) (by simp)).alloc _ |>.below hb1)
  clear hb1 HA
  obtain ⟨⟨c0, c1, c2, c3⟩, -, hl1⟩ := M1.out.open_
  obtain ⟨⟨d0, d1, d2, d3⟩, -, hl2⟩ := N1.out.open_
  go_wp2_with fail
  refine (HPR.out _ _ (by exact heap_new)).mono ?_; rintro e w2 ⟨rfl, hb2⟩
  have T2 := Lib.hid (show Below w.heap.size w w2 from bfin (T1.out.alloc T1.out.size _) hb2)
  have B2 := Lib.hid ((B1.out.alloc _).below hb2)
  clear hb2 HPR M1 N1 B1 c0 c1 c2 c3 d0 d1 d2 d3 hl1 hl2
  obtain ⟨⟨c0, c1, c2, c3⟩, ⟨e0, e1, e2, e3⟩, hl1⟩ := B2.out.open_
  go_wp2_with fail
  refine bodyPost_ret (v := .tuple #[(.agg #[.int .i64 0, .int .i64 0, .int .i64 0, .int .i64 0]), (.int .i64 3)]) (by simp [results, Tryz.results26, go_sem, set4_0 B2.out, set4_1 B2.out, set4_2 B2.out, set4_3 B2.out] <;> rfl) rfl ⟨rfl, below_set4 T2.out (by omega)⟩
end Go.Proofs.YtjkemnnkgihefaaGreat
