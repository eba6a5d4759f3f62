/- Contracts: lists of two matrices; their product. -/
import Derived.Test.YtencfmipplgnkaaC18
import Derived.Test.YtencfmipplgnkaaBox
namespace Go.Proofs.Ytencfmipplgnkaa
open Go.RowKit
structure Cells8 (w : World) (bk : Nat) (a b c d a' b' c' d' : Int) : Prop where
  h0 : w.cell? ⟨bk, 0, none⟩ = some (.int .i64 a)
  h1 : w.cell? ⟨bk, 1, none⟩ = some (.int .i64 b)
  h2 : w.cell? ⟨bk, 2, none⟩ = some (.int .i64 c)
  h3 : w.cell? ⟨bk, 3, none⟩ = some (.int .i64 d)
  h4 : w.cell? ⟨bk, 4, none⟩ = some (.int .i64 a')
  h5 : w.cell? ⟨bk, 5, none⟩ = some (.int .i64 b')
  h6 : w.cell? ⟨bk, 6, none⟩ = some (.int .i64 c')
  h7 : w.cell? ⟨bk, 7, none⟩ = some (.int .i64 d')
  lt : bk < w.heap.size
set_option maxRecDepth 100000 in
set_option maxHeartbeats 1000000 in
theorem areMatrices_2 (bk : Nat) (a b c d a' b' c' d' : Int) (w : World) (h : Cells8 w bk a b c d a' b' c' d') :
    Calls Try.prog 64 #[.slice (some ⟨bk, 0, none⟩) 2 2] w fun e w' => e = .returned (.bool (isMat a b c d && isMat a' b' c' d')) ∧ Below w.heap.size w w' := by
  obtain ⟨h0, h1, h2, h3, h4, h5, h6, h7, hlt⟩ := h
  cases hM : isMat a b c d
  · simp only [Bool.false_and]
    go_enter Try.func64, Try.ntmps64
    go_wp2_with fail
    refine wp_loop_rounds 3 ?_
    rw [rounds_succ]
    go_wp2_with fail
    refine (IsMatrix_any _ _ _ _ _).mono ?_; rintro e w1 ⟨rfl, hb1⟩
    obtain ⟨hc1, hf1⟩ := bcell hb1
    have hB1 : Below w.heap.size w w1 := bfin (by go_grown) hb1
    go_wp2_with fail
    go_ret
    exact ⟨rfl, by go_grown⟩
  cases hN : isMat a' b' c' d'
  · simp only [Bool.and_false]
    go_enter Try.func64, Try.ntmps64
    go_wp2_with fail
    refine wp_loop_rounds 3 ?_
    rw [rounds_succ]
    go_wp2_with fail
    refine (IsMatrix_any _ _ _ _ _).mono ?_; rintro e w1 ⟨rfl, hb1⟩
    obtain ⟨hc1, hf1⟩ := bcell hb1
    have hz1_0 : bk < w1.heap.size := by have := hb1.size; (try simp at this); omega
    go_wp2_with fail
    rw [rounds_succ]
    have hB1 : Below w.heap.size w w1 := bfin (by go_grown) hb1
    go_wp2_with fail
    refine (IsMatrix_any _ _ _ _ _).mono ?_; rintro e w2 ⟨rfl, hb2⟩
    obtain ⟨hc2, hf2⟩ := bcell hb2
    have hS1 := hB1.size
    have hB2 : Below w.heap.size w w2 := bfin (by go_grown) hb2
    go_wp2_with fail
    go_ret
    exact ⟨rfl, by go_grown⟩
  · simp only [Bool.and_self]
    go_enter Try.func64, Try.ntmps64
    go_wp2_with fail
    refine wp_loop_rounds 3 ?_
    rw [rounds_succ]
    go_wp2_with fail
    refine (IsMatrix_any _ _ _ _ _).mono ?_; rintro e w1 ⟨rfl, hb1⟩
    obtain ⟨hc1, hf1⟩ := bcell hb1
    have hz1_0 : bk < w1.heap.size := by have := hb1.size; (try simp at this); omega
    go_wp2_with fail
    rw [rounds_succ]
    have hB1 : Below w.heap.size w w1 := bfin (by go_grown) hb1
    go_wp2_with fail
    refine (IsMatrix_any _ _ _ _ _).mono ?_; rintro e w2 ⟨rfl, hb2⟩
    obtain ⟨hc2, hf2⟩ := bcell hb2
    go_wp2_with fail
    rw [rounds_succ]
    have hS1 := hB1.size
    have hB2 : Below w.heap.size w w2 := bfin (by go_grown) hb2
    go_wp2_with fail
    go_ret
    exact ⟨rfl, by go_grown⟩
def entM (p q r s : Int) : Bool := entB p && (entB q && (entB r && entB s))
theorem entM_iff {p q r s : Int} : entM p q r s = true ↔ (-1000000000 ≤ p ∧ p ≤ 1000000000) ∧ (-1000000000 ≤ q ∧ q ≤ 1000000000) ∧ (-1000000000 ≤ r ∧ r ≤ 1000000000) ∧ (-1000000000 ≤ s ∧ s ≤ 1000000000) := by simp [entM, entB_iff]
theorem entM_mat {a b c d : Int} (h : IsMat a b c d) : entM a b c d = true := by
  obtain ⟨a0, a1, b0, b1, c0, c1, d0, d1, _⟩ := h
  rw [entM_iff]; omega
theorem e24_mat {a b c d : Int} (h : IsMat a b c d) : E24 a b c d := by
  obtain ⟨a0, a1, b0, b1, c0, c1, d0, d1, _⟩ := h
  exact ⟨⟨by omega, by omega⟩, ⟨by omega, by omega⟩, ⟨by omega, by omega⟩, ⟨by omega, by omega⟩⟩
set_option maxHeartbeats 1000000 in
theorem limited_yes (p q r s : Int) (w : World) (h : entM p q r s = true) :
    Calls Try.prog 166 #[(.agg #[.int .i64 p, .int .i64 q, .int .i64 r, .int .i64 s])] w fun e w' => e = .returned (.tuple #[(.agg #[.int .i64 p, .int .i64 q, .int .i64 r, .int .i64 s]), (.int .i64 0)]) ∧ Below w.heap.size w w' := by
  have HE := Lib.hid h
  clear h
  go_enter Try.func166, Try.ntmps166
  go_wp2_with (go_at_call 100; refine (areEntries_any _ _ _ 4 (fun i => if i = 0 then p else if i = 1 then q else if i = 2 then r else s) _ (by omega) (by intro i hi; rcases (show i = 0 ∨ i = 1 ∨ i = 2 ∨ i = 3 by omega) with rfl | rfl | rfl | rfl <;> simp)).mono ?_; rw [allB4, show (entB p && (entB q && (entB r && entB s))) = true from HE.out]; rintro e w' ⟨rfl, rfl⟩)
  go_wp2_with fail
  refine bodyPost_ret (v := .tuple #[(.agg #[.int .i64 p, .int .i64 q, .int .i64 r, .int .i64 s]), (.int .i64 0)]) (by simp [results, Try.results166, go_sem] <;> rfl) rfl ⟨rfl, by go_grown⟩
set_option maxHeartbeats 1000000 in
theorem limited_no (p q r s : Int) (w : World) (h : entM p q r s = false) :
    Calls Try.prog 166 #[(.agg #[.int .i64 p, .int .i64 q, .int .i64 r, .int .i64 s])] w fun e w' => e = .returned (.tuple #[(.agg #[.int .i64 0, .int .i64 0, .int .i64 0, .int .i64 0]), (.int .i64 3)]) ∧ Below w.heap.size w w' := by
  have HE := Lib.hid h
  clear h
  go_enter Try.func166, Try.ntmps166
  go_wp2_with (go_at_call 100; refine (areEntries_any _ _ _ 4 (fun i => if i = 0 then p else if i = 1 then q else if i = 2 then r else s) _ (by omega) (by intro i hi; rcases (show i = 0 ∨ i = 1 ∨ i = 2 ∨ i = 3 by omega) with rfl | rfl | rfl | rfl <;> simp)).mono ?_; rw [allB4, show (entB p && (entB q && (entB r && entB s))) = false from HE.out]; rintro e w' ⟨rfl, rfl⟩)
  go_wp2_with fail
  refine bodyPost_ret (v := .tuple #[(.agg #[.int .i64 0, .int .i64 0, .int .i64 0, .int .i64 0]), (.int .i64 3)]) (by simp [results, Try.results166, go_sem] <;> rfl) rfl ⟨rfl, by go_grown⟩
def valM (m : M4) : Value := (.agg #[.int .i64 m.p, .int .i64 m.q, .int .i64 m.r, .int .i64 m.s])
def entQ (m : M4) : Bool := entM m.p m.q m.r m.s
theorem e24_ent {m : M4} (h : entQ m = true) : E24 m.p m.q m.r m.s := by
  obtain ⟨h1, h2, h3, h4⟩ := entM_iff.1 h
  exact ⟨⟨by omega, by omega⟩, ⟨by omega, by omega⟩, ⟨by omega, by omega⟩, ⟨by omega, by omega⟩⟩
/-- The product, taken from the left, if no number is too great. -/
def prodF : List M4 → M4 → Option M4
  | [], p => some p
  | m :: l, p => if entQ (mulM p m) = true then prodF l (mulM p m) else none
def prodV (o : Option M4) : Value := match o with
  | some p => .tuple #[(.agg #[.int .i64 p.p, .int .i64 p.q, .int .i64 p.r, .int .i64 p.s]), (.int .i64 0)]
  | none => .tuple #[(.agg #[.int .i64 0, .int .i64 0, .int .i64 0, .int .i64 0]), (.int .i64 3)]
structure CellsM (w : World) (bk k : Nat) (m : M4) : Prop where
  h0 : w.cell? ⟨bk, k * 4, none⟩ = some (.int .i64 m.p)
  h1 : w.cell? ⟨bk, k * 4 + 1, none⟩ = some (.int .i64 m.q)
  h2 : w.cell? ⟨bk, k * 4 + 2, none⟩ = some (.int .i64 m.r)
  h3 : w.cell? ⟨bk, k * 4 + 3, none⟩ = some (.int .i64 m.s)
theorem CellsM.below {w w' : World} {bk k : Nat} {m : M4} (h : CellsM w bk k m) (hb : Below w.heap.size w w') (hl : bk < w.heap.size) : CellsM w' bk k m :=
  ⟨(hb.cell (p := ⟨bk, _, none⟩) hl).trans h.h0, (hb.cell (p := ⟨bk, _, none⟩) hl).trans h.h1, (hb.cell (p := ⟨bk, _, none⟩) hl).trans h.h2, (hb.cell (p := ⟨bk, _, none⟩) hl).trans h.h3⟩
theorem timesQ_any (m n : M4) (w : World) (h : E24 m.p m.q m.r m.s) (h' : E24 n.p n.q n.r n.s) :
    Calls Try.prog 66 #[(.agg #[.int .i64 m.p, .int .i64 m.q, .int .i64 m.r, .int .i64 m.s]), (.agg #[.int .i64 n.p, .int .i64 n.q, .int .i64 n.r, .int .i64 n.s])] w fun e w' => e = .returned (.agg #[.int .i64 ((mulM m n).p), .int .i64 ((mulM m n).q), .int .i64 ((mulM m n).r), .int .i64 ((mulM m n).s)]) ∧ Below w.heap.size w w' := times_any m.p m.q m.r m.s n.p n.q n.r n.s w h h'
set_option maxRecDepth 100000 in
set_option maxHeartbeats 2000000 in
theorem product_any (bk n cap : Nat) (ms : List M4) (w : World) (hlen : ms.length = n) (hn : n ≤ 100) (hlt : bk < w.heap.size) (hc : ∀ k m, ms[k]? = some m → CellsM w bk k m) (he : ∀ m ∈ ms, entQ m = true) :
    Calls Try.prog 126 #[.slice (some ⟨bk, 0, none⟩) n cap] w fun e w' => e = .returned (prodV (prodF ms ⟨1, 0, 0, 1⟩)) ∧ Below w.heap.size w w' := by
  have HL := Lib.hid hlen
  have HE := Lib.hid he
  have HC := Lib.hid hc
  have HR := Lib.hid (rfl : prodF ms ⟨1, 0, 0, 1⟩ = prodF ms ⟨1, 0, 0, 1⟩)
  generalize hR : prodF ms ⟨1, 0, 0, 1⟩ = R at HR ⊢
  have HR2 := Lib.hid hR
  clear hlen he hc hR HR
  go_enter Try.func126, Try.ntmps126
  go_wp2_with fail
  refine (identity_any _).mono ?_; rintro e w1 ⟨rfl, hb1⟩
  have hs1 := hb1.size
  have HZ := Lib.hid (heap_alloc (p := .cells #[(.int .i64 1), (.int .i64 0), (.int .i64 0), (.int .i64 1)] 40) (heap_below (heap_new (w := w) (p := .cells #[(.int .i64 0), (.int .i64 0), (.int .i64 0), (.int .i64 0)] 40)) hb1))
  have HO := Lib.hid (heap_new (w := w1) (p := .cells #[(.int .i64 1), (.int .i64 0), (.int .i64 0), (.int .i64 1)] 40))
  have hB1 : Below w.heap.size w (w1.alloc (.cells #[(.int .i64 1), (.int .i64 0), (.int .i64 0), (.int .i64 1)] 40)) := (bfin (by go_grown) hb1).alloc (by simp at hs1; omega) _
  simp at hs1
  go_wp2_with fail
  go_loopw [12] (fun i wr => ∃ (k : Nat) (p : M4), i = (.int .i64 ((k : Int))) ∧ k ≤ n ∧ Hid (prodF (ms.drop k) p = R ∧ entQ p = true ∧ Blk4 wr w1.heap.size 40 p.p p.q p.r p.s ∧ Blk4 wr w.heap.size 40 0 0 0 0) ∧ Below w.heap.size w wr) (fun i _ => n - (intOf i).toNat)
  case atStart => exact ⟨0, ⟨1, 0, 0, 1⟩, rfl, Nat.zero_le _, Lib.hid ⟨HR2.out, rfl, HO.out, HZ.out⟩, hB1⟩
  case round =>
    obtain ⟨k, p, rfl, hk, HP, hb⟩ := hrel
    obtain ⟨⟨c0, c1, c2, c3⟩, ⟨f0, f1, f2, f3⟩, hl4⟩ := HP.out.2.2.1.open_
    obtain ⟨⟨z0, z1, z2, z3⟩, ⟨g0, g1, g2, g3⟩, hl2⟩ := HP.out.2.2.2.open_
    have hsz := hb.size
    by_cases hk2 : k < n
    · have hm : ms[k]? = some (ms[k]'(by rw [HL.out]; exact hk2)) := List.getElem?_eq_getElem _
      have HD := Lib.hid (show ms.drop k = ms[k]'(by rw [HL.out]; exact hk2) :: ms.drop (k + 1) from List.drop_eq_getElem_cons _)
      have hmE := HE.out (ms[k]'(by rw [HL.out]; exact hk2)) (List.getElem_mem _)
      generalize ms[k]'(by rw [HL.out]; exact hk2) = m at hm HD hmE
      obtain ⟨m0, m1, m2, m3⟩ := (HC.out k m hm).below hb hlt
      have HT := Lib.hid (fun W => timesQ_any p m W (e24_ent HP.out.2.1) (e24_ent hmE))
      have HF := Lib.hid (show prodF (m :: ms.drop (k + 1)) p = R by rw [← HD.out]; exact HP.out.1)
      clear hm HD hmE
      generalize hq : mulM p m = q at HT
      have HQ := Lib.hid hq
      clear hq
      cases hE : entQ q
      · have HN := Lib.hid (fun W => limited_no q.p q.q q.r q.s W hE)
        have HV := Lib.hid (show R = none by rw [← HF.out]; simp [prodF, HQ.out, hE])
        clear hE
        go_wp2_with fail
        refine (HT.out _).mono ?_; rintro e w2 ⟨rfl, hb2⟩
        obtain ⟨hc2, hf2⟩ := bcell hb2
        have hB2 : Below w.heap.size w w2 := (hb.alloc hsz _).trans (hb2.mono (by simp; omega))
        have hs2 := hb2.size
        have HZ2 := Lib.hid (heap_below (heap_alloc (p := .cells #[(.int .i64 m.p), (.int .i64 m.q), (.int .i64 m.r), (.int .i64 m.s)] 40) HP.out.2.2.2) hb2)
        simp at hs2
        go_wp2_with fail
        refine (HN.out _).mono ?_; rintro e w3 ⟨rfl, hb3⟩
        have hB3 := hB2.trans (hb3.mono hB2.size)
        have hs3 := hb3.size
        obtain ⟨⟨y0, y1, y2, y3⟩, ⟨i0, i1, i2, i3⟩, hl3⟩ := Blk4.open_ (show Blk4 w3 w.heap.size 40 0 0 0 0 from heap_below HZ2.out hb3)
        clear hc2 hf2
        go_wp2_with fail
        refine bodyPost_ret (v := .tuple #[(.agg #[.int .i64 0, .int .i64 0, .int .i64 0, .int .i64 0]), (.int .i64 3)]) (by simp [results, Try.results126, go_sem, y0, y1, y2, y3, hl3]) rfl ⟨by rw [HV.out]; rfl, by go_grown⟩
      · have HY := Lib.hid (fun W => limited_yes q.p q.q q.r q.s W hE)
        have HV := Lib.hid (show prodF (ms.drop (k + 1)) q = R by rw [← HF.out]; simp [prodF, HQ.out, hE])
        have HE2 := Lib.hid hE
        clear hE
        go_wp2_with fail
        refine (HT.out _).mono ?_; rintro e w2 ⟨rfl, hb2⟩
        obtain ⟨hc2, hf2⟩ := bcell hb2
        have hB2 : Below w.heap.size w w2 := (hb.alloc hsz _).trans (hb2.mono (by simp; omega))
        have hs2 := hb2.size
        have HZ2 := Lib.hid (heap_below (heap_alloc (p := .cells #[(.int .i64 m.p), (.int .i64 m.q), (.int .i64 m.r), (.int .i64 m.s)] 40) HP.out.2.2.2) hb2)
        have HO2 := Lib.hid (heap_below (heap_alloc (p := .cells #[(.int .i64 m.p), (.int .i64 m.q), (.int .i64 m.r), (.int .i64 m.s)] 40) HP.out.2.2.1) hb2)
        simp at hs2
        go_wp2_with fail
        refine (HY.out _).mono ?_; rintro e w3 ⟨rfl, hb3⟩
        have hB3 := hB2.trans (hb3.mono hB2.size)
        have hs3 := hb3.size
        obtain ⟨hc3, hf3⟩ := bcell hb3
        have HZ3 := Lib.hid (heap_below HZ2.out hb3)
        have HO3 := Lib.hid (heap_below HO2.out hb3)
        have hz2 : w.heap.size < w2.heap.size := by omega
        have hz3 : w.heap.size < w3.heap.size := by omega
        have hy2 : w1.heap.size < w2.heap.size := by omega
        have hy3 : w1.heap.size < w3.heap.size := by omega
        go_wp2_with fail
        go_roundw
        case rel =>
          refine ⟨k + 1, q, by go_num, by omega, Lib.hid ⟨HV.out, HE2.out, ?_, ?_⟩, by go_grown⟩
          · exact heap_alloc (heap_set4 HO3.out)
          · exact heap_alloc (heap_keep (heap_keep (heap_keep (heap_keep HZ3.out (by omega)) (by omega)) (by omega)) (by omega))
        case measure => simp [intOf]; omega
    · obtain rfl : k = n := by omega
      have HV := Lib.hid (show R = some p by rw [← HP.out.1, List.drop_eq_nil_of_le (by rw [HL.out]; omega)]; rfl)
      go_wp2_with fail
      refine bodyPost_ret (v := .tuple #[(.agg #[.int .i64 p.p, .int .i64 p.q, .int .i64 p.r, .int .i64 p.s]), (.int .i64 0)]) (by simp [results, Try.results126, go_sem, z0, z1, z2, z3]) rfl ⟨by rw [HV.out]; rfl, by go_grown⟩
end Go.Proofs.Ytencfmipplgnkaa
