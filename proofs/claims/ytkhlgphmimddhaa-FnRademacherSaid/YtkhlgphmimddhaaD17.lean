/- Contracts: inverses, conjugate matrices, products. -/
import Derived.Test.YtkhlgphmimddhaaD15
import Derived.Test.YtkhlgphmimddhaaD16
namespace Go.Proofs.Ytkhlgphmimddhaa
open Go.RowKit
theorem EM.mat {a b c d : Int} (h : IsMat a b c d) : EM a b c d := ⟨⟨h.a0, h.a1⟩, ⟨h.b0, h.b1⟩, ⟨h.c0, h.c1⟩, ⟨h.d0, h.d1⟩⟩
set_option maxRecDepth 100000 in
theorem InverseOf_any (a b c d : Int) (w : World) (h : IsMat a b c d) :
    Calls Try.prog 53 #[(.agg #[.int .i64 a, .int .i64 b, .int .i64 c, .int .i64 d])] w fun e w' => e = .returned (.tuple #[(.agg #[.int .i64 d, .int .i64 (-b), .int .i64 (-c), .int .i64 a]), (.int .i64 0)]) ∧ Below w.heap.size w w' := by
  have HM := Lib.hid (fun W => IsMatrix_any a b c d W)
  rw [isMat_iff.2 h] at HM
  have HI := Lib.hid (fun W => inverse_any a b c d W (EM.mat h))
  clear h
  go_enter Try.func53, Try.ntmps53
  go_wp2_with fail
  refine (HM.out _).mono ?_; rintro e w1 ⟨rfl, hb1⟩
  have HB1 := Lib.hid (show Below w.heap.size w w1 from bfin (by go_grown) hb1)
  have M1 := Lib.hid ((Bm.new (w := w) (p := a) (q := b) (s := c) (u := d)).alloc (.cells #[(.int .i64 0), (.int .i64 0), (.int .i64 0), (.int .i64 0)] 36) |>.below hb1)
  have B1 := Lib.hid ((Bm.newE (g := w.heap.size + 1) (w := w.alloc (.cells #[(.int .i64 a), (.int .i64 b), (.int .i64 c), (.int .i64 d)] 36)) (p := 0) (q := 0) (s := 0) (u := 0) (by simp)).below hb1)
  clear hb1 HM
  obtain ⟨⟨c0, c1, c2, c3⟩, -, hl1⟩ := M1.out.open_
  go_wp2_with fail
  refine (HI.out _).mono ?_; rintro e w2 ⟨rfl, hb2⟩
  have HB2 := Lib.hid (bfin HB1.out hb2)
  have B2 := Lib.hid (B1.out.below hb2)
  clear hb2 HI c0 c1 c2 c3 hl1 M1 B1 HB1
  obtain ⟨⟨c0, c1, c2, c3⟩, ⟨f0, f1, f2, f3⟩, hl1⟩ := B2.out.open_
  go_wp2_with fail
  refine bodyPost_ret (v := .tuple #[(.agg #[.int .i64 d, .int .i64 (-b), .int .i64 (-c), .int .i64 a]), (.int .i64 0)]) (by simp [results, Try.results53, go_sem, set4_0 B2.out, set4_1 B2.out, set4_2 B2.out, set4_3 B2.out] <;> rfl) rfl ⟨rfl, below_set4 HB2.out (by omega)⟩
/-- Three matrices in a row, one behind the other. -/
theorem cells12 {w : World} {b : Nat} {t : TypeId} {x y z : M4} (h : w.heap[b]? = some (.cells #[(.int .i64 x.p), (.int .i64 x.q), (.int .i64 x.r), (.int .i64 x.s), (.int .i64 y.p), (.int .i64 y.q), (.int .i64 y.r), (.int .i64 y.s), (.int .i64 z.p), (.int .i64 z.q), (.int .i64 z.r), (.int .i64 z.s)] t (0, 0))) : ∀ k m, [x, y, z][k]? = some m → CellsM w b k m := by
  intro k m hm
  rcases (show k = 0 ∨ k = 1 ∨ k = 2 ∨ 3 ≤ k by omega) with rfl | rfl | rfl | hk
  · simp at hm; subst hm; exact ⟨cell_of_blk h 0, cell_of_blk h 1, cell_of_blk h 2, cell_of_blk h 3⟩
  · simp at hm; subst hm; exact ⟨cell_of_blk h 4, cell_of_blk h 5, cell_of_blk h 6, cell_of_blk h 7⟩
  · simp at hm; subst hm; exact ⟨cell_of_blk h 8, cell_of_blk h 9, cell_of_blk h 10, cell_of_blk h 11⟩
  · rw [List.getElem?_eq_none (by simpa using hk)] at hm; cases hm
theorem cells8 {w : World} {b : Nat} {t : TypeId} {x y : M4} (h : w.heap[b]? = some (.cells #[(.int .i64 x.p), (.int .i64 x.q), (.int .i64 x.r), (.int .i64 x.s), (.int .i64 y.p), (.int .i64 y.q), (.int .i64 y.r), (.int .i64 y.s)] t (0, 0))) : ∀ k m, [x, y][k]? = some m → CellsM w b k m := by
  intro k m hm
  rcases (show k = 0 ∨ k = 1 ∨ 2 ≤ k by omega) with rfl | rfl | hk
  · simp at hm; subst hm; exact ⟨cell_of_blk h 0, cell_of_blk h 1, cell_of_blk h 2, cell_of_blk h 3⟩
  · simp at hm; subst hm; exact ⟨cell_of_blk h 4, cell_of_blk h 5, cell_of_blk h 6, cell_of_blk h 7⟩
  · rw [List.getElem?_eq_none (by simpa using hk)] at hm; cases hm
theorem cellsEight {w : World} {b : Nat} {t : TypeId} {a0 a1 a2 a3 b0 b1 b2 b3 : Int} (h : w.heap[b]? = some (.cells #[(.int .i64 a0), (.int .i64 a1), (.int .i64 a2), (.int .i64 a3), (.int .i64 b0), (.int .i64 b1), (.int .i64 b2), (.int .i64 b3)] t (0, 0))) : Cells8 w b a0 a1 a2 a3 b0 b1 b2 b3 :=
  ⟨cell_of_blk h 0, cell_of_blk h 1, cell_of_blk h 2, cell_of_blk h 3, cell_of_blk h 4, cell_of_blk h 5, cell_of_blk h 6, cell_of_blk h 7, lt_of_blk h⟩
theorem entQ_of {m : M4} (h : IsMat m.p m.q m.r m.s) : entQ m = true := entM_mat h
theorem prodF_3 {x y z P : M4} (hx : IsMat x.p x.q x.r x.s) (h : prodF [x, y, z] ⟨1, 0, 0, 1⟩ = some P) : P = mulM (mulM x y) z ∧ entQ P = true := by
  have e : mulM ⟨1, 0, 0, 1⟩ x = x := by simp [mulM]
  simp only [prodF, e, entQ_of hx, if_true] at h
  split at h
  · split at h
    · rename_i h2
      injection h with h
      subst h
      exact ⟨rfl, h2⟩
    · cases h
  · cases h
/-- The ending of a product of three. -/
def RetConj (m n : M4) (e : Ending) : Prop := (∃ P, e = .returned (.tuple #[(.agg #[.int .i64 P.p, .int .i64 P.q, .int .i64 P.r, .int .i64 P.s]), (.int .i64 0)]) ∧ P = mulM (mulM n m) (invM n)) ∨ e = .returned (.tuple #[(.agg #[.int .i64 0, .int .i64 0, .int .i64 0, .int .i64 0]), (.int .i64 3)])
def RetP3 (x y z : M4) (e : Ending) : Prop := ∃ (P : M4) (c : Int), e = .returned (.tuple #[(.agg #[.int .i64 P.p, .int .i64 P.q, .int .i64 P.r, .int .i64 P.s]), (.int .i64 c)]) ∧ ((c = 0 ∧ P = mulM (mulM x y) z) ∨ (c = 3 ∧ P = ⟨0, 0, 0, 0⟩))
theorem product_3 {x y z : M4} (hx : IsMat x.p x.q x.r x.s) (hy : IsMat y.p y.q y.r y.s) (hz : IsMat z.p z.q z.r z.s) {w : World} {b : Nat} {t : TypeId} (h : w.heap[b]? = some (.cells #[(.int .i64 x.p), (.int .i64 x.q), (.int .i64 x.r), (.int .i64 x.s), (.int .i64 y.p), (.int .i64 y.q), (.int .i64 y.r), (.int .i64 y.s), (.int .i64 z.p), (.int .i64 z.q), (.int .i64 z.r), (.int .i64 z.s)] t (0, 0))) :
    Calls Try.prog 86 #[.slice (some ⟨b, 0, none⟩) 3 3] w fun e w' => RetP3 x y z e ∧ Below w.heap.size w w' := by
  refine (product_any b 3 3 [x, y, z] w rfl (by omega) (lt_of_blk h) (cells12 h) (by
    intro m hm; simp at hm; rcases hm with rfl | rfl | rfl
    · exact entQ_of hx
    · exact entQ_of hy
    · exact entQ_of hz)).mono ?_
  rintro e w' ⟨rfl, hb⟩
  refine ⟨?_, hb⟩
  cases hp : prodF [x, y, z] ⟨1, 0, 0, 1⟩ with
  | none => exact ⟨⟨0, 0, 0, 0⟩, 3, rfl, .inr ⟨rfl, rfl⟩⟩
  | some P => exact ⟨P, 0, rfl, .inl ⟨rfl, (prodF_3 hx hp).1⟩⟩
theorem undrewB {w w' : World} (h : Below w.drew.heap.size w.drew w') : Below w.heap.size w w' := ⟨h.os, h.tape, h.output, h.size, h.block⟩
section
variable {w : World} {t : TypeId} {x y z : M4}
theorem p3A (hx : IsMat x.p x.q x.r x.s) (hy : IsMat y.p y.q y.r y.s) (hz : IsMat z.p z.q z.r z.s) :
    Calls Try.prog 86 #[.slice (some ⟨w.heap.size, 0, none⟩) 3 3] (w.alloc (.cells #[(.int .i64 x.p), (.int .i64 x.q), (.int .i64 x.r), (.int .i64 x.s), (.int .i64 y.p), (.int .i64 y.q), (.int .i64 y.r), (.int .i64 y.s), (.int .i64 z.p), (.int .i64 z.q), (.int .i64 z.r), (.int .i64 z.s)] t)) fun e w' => RetP3 x y z e ∧ Below w.heap.size w w' :=
  (product_3 hx hy hz heap_new).mono fun _ _ ⟨h1, h2⟩ => ⟨h1, bfin ((Below.refl _ w).alloc (Nat.le_refl _) _) h2⟩
theorem p3Ad (hx : IsMat x.p x.q x.r x.s) (hy : IsMat y.p y.q y.r y.s) (hz : IsMat z.p z.q z.r z.s) :
    Calls Try.prog 86 #[.slice (some ⟨w.heap.size, 0, none⟩) 3 3] (w.alloc (.cells #[(.int .i64 x.p), (.int .i64 x.q), (.int .i64 x.r), (.int .i64 x.s), (.int .i64 y.p), (.int .i64 y.q), (.int .i64 y.r), (.int .i64 y.s), (.int .i64 z.p), (.int .i64 z.q), (.int .i64 z.r), (.int .i64 z.s)] t)).drew fun e w' => RetP3 x y z e ∧ Below w.heap.size w w' :=
  (product_3 (w := (w.alloc (.cells #[(.int .i64 x.p), (.int .i64 x.q), (.int .i64 x.r), (.int .i64 x.s), (.int .i64 y.p), (.int .i64 y.q), (.int .i64 y.r), (.int .i64 y.s), (.int .i64 z.p), (.int .i64 z.q), (.int .i64 z.r), (.int .i64 z.s)] t)).drew) hx hy hz heap_new).mono fun _ _ ⟨h1, h2⟩ => ⟨h1, bfin ((Below.refl _ w).alloc (Nat.le_refl _) _).drew h2⟩
end
set_option maxRecDepth 1000000 in
set_option maxHeartbeats 4000000 in
theorem ConjugateBy_any (p q r s p' q' r' s' : Int) (w : World) (h : IsMat p q r s) (h' : IsMat p' q' r' s') :
    Calls Try.prog 55 #[(.agg #[.int .i64 p, .int .i64 q, .int .i64 r, .int .i64 s]), (.agg #[.int .i64 p', .int .i64 q', .int .i64 r', .int .i64 s'])] w fun e w' => RetConj ⟨p, q, r, s⟩ ⟨p', q', r', s'⟩ e ∧ Below w.heap.size w w' := by
  have HA := Lib.hid (fun b W hc => areMatrices_2 b p q r s p' q' r' s' W hc)
  rw [isMat_iff.2 h, isMat_iff.2 h'] at HA
  have HM := Lib.hid h
  have HN := Lib.hid h'
  clear h h'
  go_enter Try.func55, Try.ntmps55
  go_wp2_with fail
  refine (HA.out _ _ (cellsEight (by exact heap_new' (by simp)))).mono ?_; rintro e w1 ⟨rfl, hb1⟩
  have T1 := Lib.hid (show Below w.heap.size w w1 from bfin (by go_grown) hb1)
  have M1 := Lib.hid ((((Bm.new (w := w) (p := p) (q := q) (s := r) (u := s)).alloc (.cells #[(.int .i64 p'), (.int .i64 q'), (.int .i64 r'), (.int .i64 s')] 36)).alloc (.cells #[(.int .i64 0), (.int .i64 0), (.int .i64 0), (.int .i64 0)] 36)).alloc _ |>.below hb1)
  have N1 := Lib.hid (((Bm.newE (g := w.heap.size + 1) (w := w.alloc (.cells #[(.int .i64 p), (.int .i64 q), (.int .i64 r), (.int .i64 s)] 36)) (p := p') (q := q') (s := r') (u := s') (by simp)).alloc (.cells #[(.int .i64 0), (.int .i64 0), (.int .i64 0), (.int .i64 0)] 36)).alloc _ |>.below hb1)
  have B1 := Lib.hid ((Bm.newE (g := w.heap.size + 2) (w := (w.alloc (.cells #[(.int .i64 p), (.int .i64 q), (.int .i64 r), (.int .i64 s)] 36)).alloc (.cells #[(.int .i64 p'), (.int .i64 q'), (.int .i64 r'), (.int .i64 s')] 36)) (p := 0) (q := 0) (s := 0) (u := 0) (by simp)).alloc _ |>.below hb1)
  clear hb1 HA
  go_upto_region 3 with (fail)
  have k1 := Lib.hid (C88.of M1.out N1.out)
  have HNI := Lib.hid (isMat_inv HN.out)
  go_region_held3 (fun w' => (w'.cell? ⟨w.heap.size, 0, none⟩ = some (.int .i64 p) ∧ w'.cell? ⟨w.heap.size, 1, none⟩ = some (.int .i64 q) ∧ w'.cell? ⟨w.heap.size, 2, none⟩ = some (.int .i64 r) ∧ w'.cell? ⟨w.heap.size, 3, none⟩ = some (.int .i64 s)) ∧ (w'.cell? ⟨w.heap.size + 1, 0, none⟩ = some (.int .i64 p') ∧ w'.cell? ⟨w.heap.size + 1, 1, none⟩ = some (.int .i64 q') ∧ w'.cell? ⟨w.heap.size + 1, 2, none⟩ = some (.int .i64 r') ∧ w'.cell? ⟨w.heap.size + 1, 3, none⟩ = some (.int .i64 s'))) (first | with_reducible exact k3.out | with_reducible exact k2.out | with_reducible exact k1.out | with_reducible exact k1.out.drew | with_reducible exact k2.out.drew | with_reducible exact k3.out.drew | with_reducible exact C88.of (M2.out.alloc _) (N2.out.alloc _) | with_reducible exact (C88.of (M2.out.alloc _) (N2.out.alloc _)).drew | with_reducible exact C88.of (M3.out.far _ _ _ _ (by omega)) (N3.out.far _ _ _ _ (by omega)) | go_keep) (first | (go_at_call 93; (first | ((with_reducible refine (inverse_any p' q' r' s' w1 (EM.mat HN.out)).mono ?_); rintro e w2 ⟨rfl, hb2⟩; have T2 := Lib.hid (bfin T1.out hb2); have M2 := Lib.hid (M1.out.below hb2); have N2 := Lib.hid (N1.out.below hb2); have B2 := Lib.hid (B1.out.below hb2)) | ((with_reducible refine (inverse_any p' q' r' s' w1.drew (EM.mat HN.out)).mono ?_); rintro e w2 ⟨rfl, hb2⟩; have hb2' := undrewB hb2; have T2 := Lib.hid (bfin T1.out hb2'); have M2 := Lib.hid (M1.out.below hb2'); have N2 := Lib.hid (N1.out.below hb2'); have B2 := Lib.hid (B1.out.below hb2'); clear hb2')); have k2 := Lib.hid (C88.of M2.out N2.out); clear hb2) | (go_at_call 86; (first | (with_reducible refine (p3A (x := ⟨p', q', r', s'⟩) (y := ⟨p, q, r, s⟩) (z := ⟨s', -q', -r', p'⟩) HN.out HM.out HNI.out).mono ?_) | (with_reducible refine (p3Ad (x := ⟨p', q', r', s'⟩) (y := ⟨p, q, r, s⟩) (z := ⟨s', -q', -r', p'⟩) HN.out HM.out HNI.out).mono ?_)); rintro e w3 ⟨⟨P, c, rfl, hP⟩, hb3⟩; have HP := Lib.hid hP; have T3 := Lib.hid (bfin T2.out hb3); have M3 := Lib.hid (M2.out.below hb3); have N3 := Lib.hid (N2.out.below hb3); have B3 := Lib.hid (B2.out.below hb3); have k3 := Lib.hid (C88.of M3.out N3.out); have y3 := Blk4.open_ B3.out; obtain ⟨⟨d0, d1, d2, d3⟩, ⟨e0, e1, e2, e3⟩, hl3⟩ := y3; clear hb3 hP))
  clear k1 k2 k3 M1 N1 B1 M2 N2 B2 M3 N3 T1 T2
  rcases HP.out with ⟨rfl, hP⟩ | ⟨rfl, rfl⟩
  · have HQ := Lib.hid hP
    clear hP HP
    go_wp2_with fail
    refine bodyPost_ret (v := .tuple #[(.agg #[.int .i64 P.p, .int .i64 P.q, .int .i64 P.r, .int .i64 P.s]), (.int .i64 0)]) (by simp [results, Try.results55, go_sem, set4_0 B3.out, set4_1 B3.out, set4_2 B3.out, set4_3 B3.out] <;> rfl) rfl ?_
    exact ⟨.inl ⟨P, rfl, HQ.out⟩, below_set4 T3.out (by omega)⟩
  · clear HP
    go_wp2_with fail
    refine bodyPost_ret (v := .tuple #[(.agg #[.int .i64 0, .int .i64 0, .int .i64 0, .int .i64 0]), (.int .i64 3)]) (by simp [results, Try.results55, go_sem, set4_0 B3.out, set4_1 B3.out, set4_2 B3.out, set4_3 B3.out] <;> rfl) rfl ?_
    exact ⟨.inr rfl, below_set4 T3.out (by omega)⟩
theorem product_2 {x y : M4} (hx : IsMat x.p x.q x.r x.s) (hy : IsMat y.p y.q y.r y.s) (he : entQ (mulM x y) = true) {w : World} {b : Nat} {t : TypeId} (h : w.heap[b]? = some (.cells #[(.int .i64 x.p), (.int .i64 x.q), (.int .i64 x.r), (.int .i64 x.s), (.int .i64 y.p), (.int .i64 y.q), (.int .i64 y.r), (.int .i64 y.s)] t (0, 0))) :
    Calls Try.prog 86 #[.slice (some ⟨b, 0, none⟩) 2 2] w fun e w' => e = .returned (.tuple #[(.agg #[.int .i64 ((mulM x y).p), .int .i64 ((mulM x y).q), .int .i64 ((mulM x y).r), .int .i64 ((mulM x y).s)]), (.int .i64 0)]) ∧ Below w.heap.size w w' := by
  refine (product_any b 2 2 [x, y] w rfl (by omega) (lt_of_blk h) (cells8 h) (by
    intro m hm; simp at hm; rcases hm with rfl | rfl
    · exact entQ_of hx
    · exact entQ_of hy)).mono ?_
  rintro e w' ⟨rfl, hb⟩
  rw [prodF_2 hx, if_pos he]
  exact ⟨rfl, hb⟩
set_option maxRecDepth 1000000 in
set_option maxHeartbeats 4000000 in
theorem ProductOf_any (x y : M4) (w : World) (h : IsMat x.p x.q x.r x.s) (h' : IsMat y.p y.q y.r y.s) (he : entQ (mulM x y) = true) :
    Calls Try.prog 57 #[(.agg #[.int .i64 x.p, .int .i64 x.q, .int .i64 x.r, .int .i64 x.s]), (.agg #[.int .i64 y.p, .int .i64 y.q, .int .i64 y.r, .int .i64 y.s])] w fun e w' => e = .returned (.tuple #[(.agg #[.int .i64 ((mulM x y).p), .int .i64 ((mulM x y).q), .int .i64 ((mulM x y).r), .int .i64 ((mulM x y).s)]), (.int .i64 0)]) ∧ Below w.heap.size w w' := by
  have HA := Lib.hid (fun b W hc => areMatrices_2 b x.p x.q x.r x.s y.p y.q y.r y.s W hc)
  rw [isMat_iff.2 h, isMat_iff.2 h'] at HA
  have HPR := Lib.hid (fun (W : World) (b : Nat) hW => product_2 h h' he (w := W) (b := b) (t := 36) hW)
  generalize (mulM x y).p = P at *
  generalize (mulM x y).q = Q at *
  generalize (mulM x y).r = R at *
  generalize (mulM x y).s = S at *
  clear h h' he
  go_enter Try.func57, Try.ntmps57
  go_wp2_with fail
  refine (HA.out _ _ (cellsEight (by exact heap_new' (by simp)))).mono ?_; rintro e w1 ⟨rfl, hb1⟩
  have T1 := Lib.hid (show Below w.heap.size w w1 from bfin (by go_grown) hb1)
  have M1 := Lib.hid ((((Bm.new (w := w) (p := x.p) (q := x.q) (s := x.r) (u := x.s)).alloc (.cells #[(.int .i64 y.p), (.int .i64 y.q), (.int .i64 y.r), (.int .i64 y.s)] 36)).alloc (.cells #[(.int .i64 0), (.int .i64 0), (.int .i64 0), (.int .i64 0)] 36)).alloc _ |>.below hb1)
  have N1 := Lib.hid (((Bm.newE (g := w.heap.size + 1) (w := w.alloc (.cells #[(.int .i64 x.p), (.int .i64 x.q), (.int .i64 x.r), (.int .i64 x.s)] 36)) (p := y.p) (q := y.q) (s := y.r) (u := y.s) (by simp)).alloc (.cells #[(.int .i64 0), (.int .i64 0), (.int .i64 0), (.int .i64 0)] 36)).alloc _ |>.below hb1)
  have B1 := Lib.hid ((Bm.newE (g := w.heap.size + 2) (w := (w.alloc (.cells #[(.int .i64 x.p), (.int .i64 x.q), (.int .i64 x.r), (.int .i64 x.s)] 36)).alloc (.cells #[(.int .i64 y.p), (.int .i64 y.q), (.int .i64 y.r), (.int .i64 y.s)] 36)) (p := 0) (q := 0) (s := 0) (u := 0) (by simp)).alloc _ |>.below hb1)
  clear hb1 HA
  obtain ⟨⟨c0, c1, c2, c3⟩, -, hl1⟩ := M1.out.open_
  obtain ⟨⟨d0, d1, d2, d3⟩, -, hl2⟩ := N1.out.open_
  go_wp2_with fail
  refine (HPR.out _ _ (by exact heap_new)).mono ?_; rintro e w2 ⟨rfl, hb2⟩
  have T2 := Lib.hid (show Below w.heap.size w w2 from bfin (T1.out.alloc T1.out.size _) hb2)
  have B2 := Lib.hid ((B1.out.alloc _).below hb2)
  clear hb2 HPR M1 N1 B1 c0 c1 c2 c3 d0 d1 d2 d3 hl1 hl2
  obtain ⟨⟨c0, c1, c2, c3⟩, ⟨e0, e1, e2, e3⟩, hl1⟩ := B2.out.open_
  go_wp2_with fail
  refine bodyPost_ret (v := .tuple #[(.agg #[.int .i64 P, .int .i64 Q, .int .i64 R, .int .i64 S]), (.int .i64 0)]) (by simp [results, Try.results57, go_sem, set4_0 B2.out, set4_1 B2.out, set4_2 B2.out, set4_3 B2.out] <;> rfl) rfl ⟨rfl, below_set4 T2.out (by omega)⟩
end Go.Proofs.Ytkhlgphmimddhaa
