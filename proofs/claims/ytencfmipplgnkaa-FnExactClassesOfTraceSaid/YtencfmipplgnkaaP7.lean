/- Contracts: the matrix of a word. -/
import Derived.Test.YtencfmipplgnkaaC38
import Derived.Test.YtencfmipplgnkaaNa
import Derived.Test.YtencfmipplgnkaaRow3
namespace Go.Proofs.Ytencfmipplgnkaa
open Go.RowKit
theorem elMt : Elem Try.prog 51 40 (.agg #[.int .i64 0, .int .i64 0, .int .i64 0, .int .i64 0]) 4 32 := elem_of Try.underlying51 (by kernel_rfl) rfl (by omega) (by omega)
/-- The matrix of a letter. -/
def letQ (b : Bool) : Q4 := if b then ⟨1, 1, 0, 1⟩ else ⟨1, 0, 1, 1⟩
def toM (q : Q4) : M4 := ⟨q.a, q.b, q.c, q.d⟩
theorem Low.mul_left {u v : List Bool} (h : Low (wM (u ++ v))) : Low (wM u) := by
  rw [wM_append] at h
  obtain ⟨h1, h2, h3, h4⟩ := h
  obtain ⟨a1, a2, a3, a4, -⟩ := wM_pos u
  obtain ⟨b1, b2, b3, b4, -⟩ := wM_pos v
  simp only [mulQ] at h1 h2 h3 h4
  have m1 : (wM u).a * 1 ≤ (wM u).a * (wM v).a := Int.mul_le_mul_of_nonneg_left b1 (by omega)
  have m2 : (wM u).b * 1 ≤ (wM u).b * (wM v).d := Int.mul_le_mul_of_nonneg_left b4 (by omega)
  have m3 : (wM u).c * 1 ≤ (wM u).c * (wM v).a := Int.mul_le_mul_of_nonneg_left b1 (by omega)
  have m4 : (wM u).d * 1 ≤ (wM u).d * (wM v).d := Int.mul_le_mul_of_nonneg_left b4 (by omega)
  have n1 : 0 ≤ (wM u).b * (wM v).c := Int.mul_nonneg a2 b3
  have n2 : 0 ≤ (wM u).a * (wM v).b := Int.mul_nonneg (by omega) b2
  have n3 : 0 ≤ (wM u).d * (wM v).c := Int.mul_nonneg (by omega) b3
  have n4 : 0 ≤ (wM u).c * (wM v).b := Int.mul_nonneg a3 b2
  exact ⟨by omega, by omega, by omega, by omega⟩
theorem wM_one (b : Bool) : wM [b] = letQ b := by cases b <;> rfl
theorem ent_low {u : List Bool} (h : Low (wM u)) : entQ (toM (wM u)) = true := by
  obtain ⟨h1, h2, h3, h4⟩ := h
  obtain ⟨a1, a2, a3, a4, -⟩ := wM_pos u
  exact entM_iff.2 ⟨⟨by simp only [toM]; omega, by simp only [toM]; omega⟩, ⟨by simp only [toM]; omega, by simp only [toM]; omega⟩, ⟨by simp only [toM]; omega, by simp only [toM]; omega⟩, ⟨by simp only [toM]; omega, by simp only [toM]; omega⟩⟩
theorem prod_word : ∀ (v u : List Bool), Low (wM (u ++ v)) → prodF (v.map fun b => toM (letQ b)) (toM (wM u)) = some (toM (wM (u ++ v)))
  | [], u, _ => by simp [prodF]
  | b :: v, u, h => by
    have e : u ++ b :: v = (u ++ [b]) ++ v := by simp
    rw [e] at h ⊢
    have hm : mulM (toM (wM u)) (toM (letQ b)) = toM (wM (u ++ [b])) := by
      rw [wM_append, wM_one]; rfl
    rw [List.map_cons, prodF, hm, if_pos (ent_low h.mul_left), prod_word v (u ++ [b]) h]
theorem named_T (w : World) : Calls Try.prog 165 #[.string ⟨#[84]⟩] w fun e w' => e = .returned (.tuple #[(.agg #[.int .i64 1, .int .i64 1, .int .i64 0, .int .i64 1]), .bool true]) ∧ Below w.heap.size w w' := by
  go_enter Try.func165, Try.ntmps165
  go_wp2_with fail
  refine bodyPost_ret (v := .tuple #[(.agg #[.int .i64 1, .int .i64 1, .int .i64 0, .int .i64 1]), .bool true]) (by simp [results, Try.results165, go_sem] <;> rfl) rfl ⟨rfl, by go_grown⟩
theorem named_L (w : World) : Calls Try.prog 165 #[.string ⟨#[76]⟩] w fun e w' => e = .returned (.tuple #[(.agg #[.int .i64 1, .int .i64 0, .int .i64 1, .int .i64 1]), .bool true]) ∧ Below w.heap.size w w' := by
  go_enter Try.func165, Try.ntmps165
  go_wp2_with fail
  refine bodyPost_ret (v := .tuple #[(.agg #[.int .i64 1, .int .i64 0, .int .i64 1, .int .i64 1]), .bool true]) (by simp [results, Try.results165, go_sem] <;> rfl) rfl ⟨rfl, by go_grown⟩
theorem named_T' (w : World) : Calls Try.prog 165 #[.string (Utf8.encode 84)] w fun e w' => e = .returned (.tuple #[(.agg #[.int .i64 1, .int .i64 1, .int .i64 0, .int .i64 1]), .bool true]) ∧ Below w.heap.size w w' := by
  rw [show Utf8.encode 84 = ⟨#[84]⟩ by kernel_rfl]; exact named_T w
theorem named_L' (w : World) : Calls Try.prog 165 #[.string (Utf8.encode 76)] w fun e w' => e = .returned (.tuple #[(.agg #[.int .i64 1, .int .i64 0, .int .i64 1, .int .i64 1]), .bool true]) ∧ Below w.heap.size w w' := by
  rw [show Utf8.encode 76 = ⟨#[76]⟩ by kernel_rfl]; exact named_L w
theorem letter_T (w : World) : Calls Try.prog 125 #[.int .u8 84] w fun e w' => e = .returned (.agg #[.int .i64 1, .int .i64 1, .int .i64 0, .int .i64 1]) ∧ Below w.heap.size w w' := by
  have HN := Lib.hid named_T'
  go_enter Try.func125, Try.ntmps125
  go_wp2_with fail
  refine (HN.out _).mono ?_; rintro e w2 ⟨rfl, hb2⟩
  have B := Lib.hid (show Blk4 w2 w.heap.size 40 0 0 0 0 from heap_below heap_new hb2)
  have T : Below w.heap.size w w2 := bfin (by go_grown) hb2
  obtain ⟨⟨c0, c1, c2, c3⟩, ⟨f0, f1, f2, f3⟩, hl⟩ := B.out.open_
  clear hb2
  obtain ⟨⟨k0, k1, k2, k3⟩, -, hl3⟩ := Blk4.open_ (show Blk4 (((((w2.setCell ⟨w.heap.size, 0, none⟩ (.int .i64 1)).setCell ⟨w.heap.size, 1, none⟩ (.int .i64 1)).setCell ⟨w.heap.size, 2, none⟩ (.int .i64 0)).setCell ⟨w.heap.size, 3, none⟩ (.int .i64 1)).alloc (.cells #[(.int .i64 1), (.int .i64 1), (.int .i64 0), (.int .i64 1)] 40)) w.heap.size 40 1 1 0 1 from heap_alloc (heap_set4 B.out))
  go_wp2_with fail
  refine bodyPost_ret (v := (.agg #[.int .i64 1, .int .i64 1, .int .i64 0, .int .i64 1])) (by simp [results, Try.results125, go_sem, k0, k1, k2, k3]) rfl ⟨rfl, by go_grown⟩
theorem letter_L (w : World) : Calls Try.prog 125 #[.int .u8 76] w fun e w' => e = .returned (.agg #[.int .i64 1, .int .i64 0, .int .i64 1, .int .i64 1]) ∧ Below w.heap.size w w' := by
  have HN := Lib.hid named_L'
  go_enter Try.func125, Try.ntmps125
  go_wp2_with fail
  refine (HN.out _).mono ?_; rintro e w2 ⟨rfl, hb2⟩
  have B := Lib.hid (show Blk4 w2 w.heap.size 40 0 0 0 0 from heap_below heap_new hb2)
  have T : Below w.heap.size w w2 := bfin (by go_grown) hb2
  obtain ⟨⟨c0, c1, c2, c3⟩, ⟨f0, f1, f2, f3⟩, hl⟩ := B.out.open_
  clear hb2
  obtain ⟨⟨k0, k1, k2, k3⟩, -, hl3⟩ := Blk4.open_ (show Blk4 (((((w2.setCell ⟨w.heap.size, 0, none⟩ (.int .i64 1)).setCell ⟨w.heap.size, 1, none⟩ (.int .i64 0)).setCell ⟨w.heap.size, 2, none⟩ (.int .i64 1)).setCell ⟨w.heap.size, 3, none⟩ (.int .i64 1)).alloc (.cells #[(.int .i64 1), (.int .i64 0), (.int .i64 1), (.int .i64 1)] 40)) w.heap.size 40 1 0 1 1 from heap_alloc (heap_set4 B.out))
  go_wp2_with fail
  refine bodyPost_ret (v := (.agg #[.int .i64 1, .int .i64 0, .int .i64 1, .int .i64 1])) (by simp [results, Try.results125, go_sem, k0, k1, k2, k3]) rfl ⟨rfl, by go_grown⟩
theorem letter_any (b : Bool) (w : World) : Calls Try.prog 125 #[.int .u8 (ltr b).toNat] w fun e w' => e = .returned (.agg #[.int .i64 ((letQ b).a), .int .i64 ((letQ b).b), .int .i64 ((letQ b).c), .int .i64 ((letQ b).d)]) ∧ Below w.heap.size w w' := by
  cases b
  · exact letter_L w
  · exact letter_T w
def letsL (l : List Bool) (k : Nat) : List Q4 := (l.take k).map letQ
theorem letsL_succ {l : List Bool} {k : Nat} {b : Bool} (h : l[k]? = some b) : letsL l (k + 1) = letsL l k ++ [letQ b] := by
  unfold letsL
  rw [List.take_add_one, h]; simp
theorem letsL_all (l : List Bool) : letsL l l.length = l.map letQ := by simp [letsL]
theorem wS_get {l : List Bool} {k : Nat} {b : Bool} (hb : l[k]? = some b) (h : k < (wS l).size) : (wS l)[k] = ltr b := by
  have hk : k < l.length := (List.getElem?_eq_some_iff.1 hb).1
  have e : (wS l)[k] = (bs l).toArray[k]'(by simpa [bs] using hk) := rfl
  rw [e]
  have hb2 : l[k] = b := (List.getElem?_eq_some_iff.1 hb).2
  simp [bs, hb2]
theorem cells_row {w : World} {bk : Nat} {l : List Q4} (hc : ∀ j u, (ints (flat4 l))[j]? = some u → w.cell? ⟨bk, j, none⟩ = some u) {k : Nat} {m : M4} (hm : (l.map toM)[k]? = some m) : CellsM w bk k m := by
  rw [List.getElem?_map] at hm
  obtain ⟨q, hq, rfl⟩ := Option.map_eq_some_iff.1 hm
  obtain ⟨hk, e⟩ := List.getElem?_eq_some_iff.1 hq
  have hl : l = l.take k ++ q :: l.drop (k + 1) := by rw [← e, ← List.drop_eq_getElem_cons hk, List.take_append_drop]
  have ht : (l.take k).length = k := by simp; omega
  obtain ⟨h0, h1, h2, h3⟩ := flat4_at (l := l.take k) (m := l.drop (k + 1)) (f := q)
  rw [← hl, ht] at h0 h1 h2 h3
  have hL := flat4_len l
  have at_ : ∀ i, i < 4 → w.cell? ⟨bk, k * 4 + i, none⟩ = some (.int .i64 ((flat4 l).getD (k * 4 + i) 0)) := fun i hi => hc _ _ (ints_at (by rw [hL]; omega))
  refine ⟨?_, ?_, ?_, ?_⟩
  · have := at_ 0 (by omega); rw [Nat.add_zero, h0] at this; exact this
  · have := at_ 1 (by omega); rw [h1] at this; exact this
  · have := at_ 2 (by omega); rw [h2] at this; exact this
  · have := at_ 3 (by omega); rw [h3] at this; exact this
set_option maxRecDepth 100000 in
set_option maxHeartbeats 1000000 in
theorem ofWord_any (l : List Bool) (w : World) (hl : l.length ≤ 100) (h0 : 0 < l.length) (hlow : Low (wM l)) :
    Calls Try.prog 79 #[.string (wS l)] w fun e w' => e = .returned (.tuple #[(.agg #[.int .i64 ((wM l).a), .int .i64 ((wM l).b), .int .i64 ((wM l).c), .int .i64 ((wM l).d)]), (.int .i64 0)]) ∧ Below w.heap.size w w' := by
  have hsz := wS_size l
  go_enter Try.func79, Try.ntmps79
  go_wp2_with fail
  have B0 := Lib.hid (show Blk4 ((w.alloc (Obj.cells #[(.int .i64 0), (.int .i64 0), (.int .i64 0), (.int .i64 0)] 40)).alloc (Obj.cells #[] 40)) w.heap.size 40 0 0 0 0 from heap_alloc heap_new)
  have O0 := Lib.hid (show ((w.alloc (Obj.cells #[(.int .i64 0), (.int .i64 0), (.int .i64 0), (.int .i64 0)] 40)).alloc (Obj.cells #[] 40)).ownsRow (w.heap.size + 1) 40 4 (.slice (some ⟨w.heap.size + 1, 0, none⟩) 0 0) 0 (ints (flat4 (letsL l 0))) from by
    have := World.ownsRow_lit (w.alloc (Obj.cells #[(.int .i64 0), (.int .i64 0), (.int .i64 0), (.int .i64 0)] 40)) (base := w.heap.size + 1) (e := 40) (size := 4) #[] 0 (by simp) (by simp [maxLen]) rfl
    simpa [ints, letsL, flat4] using this)
  have T0 := Lib.hid (show Below w.heap.size w ((w.alloc (Obj.cells #[(.int .i64 0), (.int .i64 0), (.int .i64 0), (.int .i64 0)] 40)).alloc (Obj.cells #[] 40)) by go_grown)
  have hz0 : w.heap.size + 2 ≤ ((w.alloc (Obj.cells #[(.int .i64 0), (.int .i64 0), (.int .i64 0), (.int .i64 0)] 40)).alloc (Obj.cells #[] 40)).heap.size := by simp
  generalize (w.alloc (Obj.cells #[(.int .i64 0), (.int .i64 0), (.int .i64 0), (.int .i64 0)] 40)).alloc (Obj.cells #[] 40) = W at *
  go_loopw [4, 5, 9] (fun v _ i wr => ∃ k : Nat, i = (.int .i64 ((k : Int))) ∧ k ≤ l.length ∧ Hid (Blk4 wr w.heap.size 40 0 0 0 0) ∧ Hid (wr.ownsRow (w.heap.size + 1) 40 4 v k (ints (flat4 (letsL l k)))) ∧ Hid (Below w.heap.size w wr) ∧ w.heap.size + 2 ≤ wr.heap.size) (fun _ _ i _ => l.length - (intOf i).toNat)
  case atStart => exact ⟨0, rfl, Nat.zero_le _, B0, O0, T0, hz0⟩
  case round =>
    clear B0 O0 T0 hz0
    obtain ⟨k, rfl, hk, B, O, T, hz⟩ := hrel
    by_cases hlt : k < l.length
    · obtain ⟨b, hb⟩ : ∃ b, l[k]? = some b := ⟨l[k], List.getElem?_eq_getElem hlt⟩
      have HX := Lib.hid (letsL_succ hb)
      have HL := Lib.hid (show ∀ (h : k < (wS l).size) (W : World), Calls Try.prog 125 #[.int .u8 ((((wS l)[k]'h).toNat : Nat) : Int)] W fun e w' => e = .returned (.agg #[.int .i64 ((letQ b).a), .int .i64 ((letQ b).b), .int .i64 ((letQ b).c), .int .i64 ((letQ b).d)]) ∧ Below W.heap.size W w' from fun h W => by rw [wS_get hb h]; exact letter_any b W)
      obtain ⟨q0, q1, q2, q3⟩ := letQ b
      clear hb
      go_wp2_with fail
      refine (HL.out _ _).mono ?_; rintro e w2 ⟨rfl, hb2⟩
      have B2 := Lib.hid (heap_below B.out hb2)
      have O2 := Lib.hid (own_below O.out hb2)
      have T2 := Lib.hid (bfin T.out hb2)
      have hz2 : w.heap.size + 1 ≤ w2.heap.size := by have := hb2.size; omega
      have hz5 : w.heap.size + 2 ≤ w2.heap.size := by have := hb2.size; omega
      have hne := Lib.hid (show ∀ j, u4.ownBlock = some j → j ≠ w.heap.size from fun j hj => by have := own_ge O.out hj; omega)
      clear B O T hb2
      go_wp2_with (at_builtin; refine app_one elMt rfl _ _ rfl rfl rfl (by simp) (O2.out) ((Below.refl _ _)) rfl (by intro u hu; simp at hu; first | (subst hu; rfl) | (rcases hu with rfl | rfl <;> rfl) | (rcases hu with rfl | rfl | rfl <;> rfl) | (rcases hu with rfl | rfl | rfl | rfl <;> rfl)) (hz2) (by omega) ?_; intro v' w3 hown3 hb3 hg3; have HO3 := Lib.hid hown3; clear hown3)
      go_roundw
      case rel =>
        refine ⟨k + 1, by go_num, by omega, Lib.hid (heap_app B2.out hg3 hne.out), ?_, Lib.hid (T2.out.grown hg3.grown T2.out.size (fun j hj => by have := own_ge O2.out hj; omega)), ?_⟩
        · refine Lib.hid ?_
          rw [HX.out, flat4_snoc]
          simpa [ints] using HO3.out
        · have := hg3.grown.size
          omega
      case measure => simp [intOf]; omega
    · obtain rfl : k = l.length := by omega
      obtain ⟨A, cap, rfl, -, -, hat⟩ := own_view O.out
      rw [letsL_all] at hat
      obtain ⟨bk, rfl, -, hbl, hc, -⟩ := hat (by omega)
      have HP := Lib.hid (product_any bk l.length cap ((l.map letQ).map toM) wr (by simp) hl hbl (fun k m hm => cells_row hc hm) (fun m hm => by
        obtain ⟨q, hq, rfl⟩ := List.mem_map.1 hm
        obtain ⟨b, -, rfl⟩ := List.mem_map.1 hq
        cases b <;> rfl))
      have HV := Lib.hid (show prodV (prodF ((l.map letQ).map toM) ⟨1, 0, 0, 1⟩) = .tuple #[(.agg #[.int .i64 ((wM l).a), .int .i64 ((wM l).b), .int .i64 ((wM l).c), .int .i64 ((wM l).d)]), (.int .i64 0)] by
        have h := prod_word l [] hlow
        rw [List.map_map]
        have e : toM (wM []) = ⟨1, 0, 0, 1⟩ := rfl
        rw [e] at h
        have e2 : (toM ∘ letQ) = (fun b => toM (letQ b)) := rfl
        rw [e2, h]; rfl)
      rw [HV.out] at HP
      clear hc hat HV
      generalize hx : (wM l).a = x at *
      generalize hy : (wM l).b = y at *
      generalize hz4 : (wM l).c = z at *
      generalize hs : (wM l).d = s at *
      have HQ := Lib.hid (And.intro hx (And.intro hy (And.intro hz4 hs)))
      clear hx hy hz4 hs
      have HO := Lib.hid O.out
      clear O
      go_wp2_with fail
      refine HP.out.mono ?_; rintro e w2 ⟨rfl, hb2⟩
      have B2 := Lib.hid (show Blk4 w2 w.heap.size 40 0 0 0 0 from heap_below B.out hb2)
      have T2 := Lib.hid (bfin T.out hb2)
      obtain ⟨⟨c0, c1, c2, c3⟩, ⟨f0, f1, f2, f3⟩, hl4⟩ := B2.out.open_
      obtain ⟨⟨k0, k1, k2, k3⟩, -, hl3⟩ := Blk4.open_ (show Blk4 ((((w2.setCell ⟨w.heap.size, 0, none⟩ (.int .i64 x)).setCell ⟨w.heap.size, 1, none⟩ (.int .i64 y)).setCell ⟨w.heap.size, 2, none⟩ (.int .i64 z)).setCell ⟨w.heap.size, 3, none⟩ (.int .i64 s)) w.heap.size 40 x y z s from heap_set4 B2.out)
      clear hb2
      go_wp2_with fail
      refine bodyPost_ret (v := .tuple #[(.agg #[.int .i64 x, .int .i64 y, .int .i64 z, .int .i64 s]), (.int .i64 0)]) (by simp [results, Try.results79, go_sem, k0, k1, k2, k3]) rfl ⟨by rw [HQ.out.1, HQ.out.2.1, HQ.out.2.2.1, HQ.out.2.2.2], by have := T2.out; go_grown⟩
end Go.Proofs.Ytencfmipplgnkaa
