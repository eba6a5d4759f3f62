/- Contracts: the fraction with a path. -/
import Derived.Test.YtjnkogkpdbgohaaGreatDoorMa
import Derived.Test.YtjnkogkpdbgohaaGreatDoorShT
namespace Go.Proofs.YtjnkogkpdbgohaaGreatDoor
open Go.RowKit
/-- The letters of a text: whether each is an L. -/
def letS (s : ByteArray) : List Bool := s.data.toList.map (fun b => b == 76)
theorem letS_len (s : ByteArray) : (letS s).length = s.size := by
  simp [letS]
theorem letS_drop {s : ByteArray} {k : Nat} (h : k < s.size) : (letS s).drop k = (((s[k]'h).toNat : Int) == 76) :: (letS s).drop (k + 1) := by
  have h2 : k < (letS s).length := by rw [letS_len]; exact h
  rw [List.drop_eq_getElem_cons h2]
  congr 1
  have e : (letS s)[k] = ((s[k]'h) == 76) := by
    simp only [letS, List.getElem_map, Array.getElem_toList]
    rfl
  rw [e, Bool.eq_iff_iff, beq_iff_eq, beq_iff_eq]
  constructor
  · intro e; rw [e]; rfl
  · intro e
    have e2 : (s[k]'h).toNat = (76 : UInt8).toNat := by
      have : (s[k]'h).toNat = 76 := by exact_mod_cast e
      rw [this]; rfl
    exact UInt8.toNat_inj.1 e2
/-- What holds of the parents behind k letters. -/
structure FolI (k : Nat) (u : Q4) : Prop where
  a0 : 0 ≤ u.a
  b0 : 0 ≤ u.b
  c0 : 0 ≤ u.c
  d0 : 0 ≤ u.d
  a1 : u.a ≤ 2 ^ k
  b1 : u.b ≤ 2 ^ k
  c1 : u.c ≤ 2 ^ k
  d1 : u.d ≤ 2 ^ k
  det : u.c * u.b - u.a * u.d = 1
theorem FolI.start : FolI 0 ⟨0, 1, 1, 0⟩ := ⟨by simp, by simp, by simp, by simp, by simp, by simp, by simp, by simp, by simp⟩
theorem FolI.left {k : Nat} {u : Q4} (h : FolI k u) : FolI (k + 1) ⟨u.a, u.b, u.a + u.c, u.b + u.d⟩ := by
  obtain ⟨a0, b0, c0, d0, a1, b1, c1, d1, det⟩ := h
  have e : (2 : Int) ^ (k + 1) = 2 ^ k + 2 ^ k := by rw [Int.pow_succ]; omega
  refine ⟨a0, b0, by simp; omega, by simp; omega, by simp only [e]; omega, by simp only [e]; omega, by simp only [e]; omega, by simp only [e]; omega, ?_⟩
  show (u.a + u.c) * u.b - u.a * (u.b + u.d) = 1
  rw [← det]; grind
theorem FolI.right {k : Nat} {u : Q4} (h : FolI k u) : FolI (k + 1) ⟨u.a + u.c, u.b + u.d, u.c, u.d⟩ := by
  obtain ⟨a0, b0, c0, d0, a1, b1, c1, d1, det⟩ := h
  have e : (2 : Int) ^ (k + 1) = 2 ^ k + 2 ^ k := by rw [Int.pow_succ]; omega
  refine ⟨by simp; omega, by simp; omega, c0, d0, by simp only [e]; omega, by simp only [e]; omega, by simp only [e]; omega, by simp only [e]; omega, ?_⟩
  show u.c * (u.b + u.d) - (u.a + u.c) * u.d = 1
  rw [← det]; grind
/-- The numbers of a round. -/
structure FolB (u : Q4) : Prop where
  a : 0 ≤ u.a ∧ u.a ≤ 2000000000000
  b : 0 ≤ u.b ∧ u.b ≤ 2000000000000
  c : 0 ≤ u.c ∧ u.c ≤ 2000000000000
  d : 0 ≤ u.d ∧ u.d ≤ 2000000000000
  med : MedIn u.a u.b u.c u.d
  fxe : fx (u.a + u.c) (u.b + u.d) = u.a + u.c
  fye : fy (u.a + u.c) (u.b + u.d) = u.b + u.d
theorem FolI.bd {k : Nat} {u : Q4} (h : FolI k u) (hk : k ≤ 40) : FolB u := by
  obtain ⟨a0, b0, c0, d0, a1, b1, c1, d1, det⟩ := h
  have e : (2 : Int) ^ k ≤ 2 ^ 40 := by
    have := Nat.pow_le_pow_right (show 0 < 2 by omega) hk
    exact_mod_cast this
  have e2 : (2 : Int) ^ 40 = 1099511627776 := by decide
  rw [e2] at e
  generalize (2 : Int) ^ k = K at *
  have hbd : 1 ≤ u.b + u.d := by
    refine Int.not_lt.1 fun hlt => ?_
    have hb : u.b = 0 := by omega
    have hd : u.d = 0 := by omega
    rw [hb, hd] at det
    simp at det
  have hg : Int.gcd (u.a + u.c) (u.b + u.d) = 1 := by
    refine gcd_of_det (r := u.c) (s := u.d) ?_
    right
    rw [← show -(u.c * u.b - u.a * u.d) = -1 by rw [det]]
    grind
  refine ⟨by omega, by omega, by omega, by omega, ⟨.inl ⟨by omega, by omega, by omega, by omega⟩, by omega, by omega, by omega, by omega⟩, ?_, ?_⟩
  · unfold fx; rw [hg]; exact Int.tdiv_one _
  · unfold fy; rw [hg]; exact Int.tdiv_one _
/-- What memory holds while letters are followed: the result, both parents. -/
structure FS (w wr : World) (u : Q4) : Prop where
  z : Blk2 wr w.heap.size 34 0 0
  l : Blk2 wr (w.heap.size + 1) 34 u.a u.b
  r : Blk2 wr (w.heap.size + 1 + 1) 34 u.c u.d
  t : Below w.heap.size w wr
structure FSc (w wr : World) (u : Q4) : Prop where
  z0 : wr.cell? ⟨w.heap.size, 0, none⟩ = some (.int .i64 0)
  z1 : wr.cell? ⟨w.heap.size, 1, none⟩ = some (.int .i64 0)
  l0 : wr.cell? ⟨w.heap.size + 1, 0, none⟩ = some (.int .i64 u.a)
  l1 : wr.cell? ⟨w.heap.size + 1, 1, none⟩ = some (.int .i64 u.b)
  r0 : wr.cell? ⟨w.heap.size + 1 + 1, 0, none⟩ = some (.int .i64 u.c)
  r1 : wr.cell? ⟨w.heap.size + 1 + 1, 1, none⟩ = some (.int .i64 u.d)
  y0 : wr.frozen? ⟨w.heap.size, 0, none⟩ = false
  y1 : wr.frozen? ⟨w.heap.size, 1, none⟩ = false
  g0 : wr.frozen? ⟨w.heap.size + 1, 0, none⟩ = false
  g1 : wr.frozen? ⟨w.heap.size + 1, 1, none⟩ = false
  k0 : wr.frozen? ⟨w.heap.size + 1 + 1, 0, none⟩ = false
  k1 : wr.frozen? ⟨w.heap.size + 1 + 1, 1, none⟩ = false
  s0 : w.heap.size < wr.heap.size
  s1 : w.heap.size + 1 < wr.heap.size
  s2 : w.heap.size + 1 + 1 < wr.heap.size
section
variable {w wr w2 : World} {u : Q4}
theorem FS.cells (h : FS w wr u) : FSc w wr u :=
  ⟨cell_of_blk h.z 0, cell_of_blk h.z 1, cell_of_blk h.l 0, cell_of_blk h.l 1, cell_of_blk h.r 0, cell_of_blk h.r 1, frozen_of_blk h.z 0, frozen_of_blk h.z 1, frozen_of_blk h.l 0, frozen_of_blk h.l 1, frozen_of_blk h.r 0, frozen_of_blk h.r 1, lt_of_blk h.z, lt_of_blk h.l, lt_of_blk h.r⟩
theorem FS.below (h : FS w wr u) (hb : Below wr.heap.size wr w2) : FS w w2 u := ⟨heap_below h.z hb, heap_below h.l hb, heap_below h.r hb, bfin h.t hb⟩
theorem FS.alloc (h : FS w wr u) (o : Obj) : FS w (wr.alloc o) u := h.below ((Below.refl _ _).alloc (Nat.le_refl _) o)
theorem FS.setR (h : FS w wr u) (x y : Int) : FS w ((wr.setCell ⟨w.heap.size + 1 + 1, 0, none⟩ (.int .i64 x)).setCell ⟨w.heap.size + 1 + 1, 1, none⟩ (.int .i64 y)) ⟨u.a, u.b, x, y⟩ :=
  ⟨heap_keep (heap_keep h.z (by omega)) (by omega), heap_keep (heap_keep h.l (by omega)) (by omega), heap_set2 h.r, (h.t.setCell (p := ⟨w.heap.size + 1 + 1, 0, none⟩) (by show _ ≤ w.heap.size + 1 + 1; omega) _).setCell (p := ⟨w.heap.size + 1 + 1, 1, none⟩) (by show _ ≤ w.heap.size + 1 + 1; omega) _⟩
theorem FS.setL (h : FS w wr u) (x y : Int) : FS w ((wr.setCell ⟨w.heap.size + 1, 0, none⟩ (.int .i64 x)).setCell ⟨w.heap.size + 1, 1, none⟩ (.int .i64 y)) ⟨x, y, u.c, u.d⟩ :=
  ⟨heap_keep (heap_keep h.z (by omega)) (by omega), heap_set2 h.l, heap_keep (heap_keep h.r (by omega)) (by omega), (h.t.setCell (p := ⟨w.heap.size + 1, 0, none⟩) (by show _ ≤ w.heap.size + 1; omega) _).setCell (p := ⟨w.heap.size + 1, 1, none⟩) (by show _ ≤ w.heap.size + 1; omega) _⟩
end
theorem FS.start (w : World) : FS w (((w.alloc (.cells #[(.int .i64 0), (.int .i64 0)] 34)).alloc (.cells #[(.int .i64 0), (.int .i64 1)] 34)).alloc (.cells #[(.int .i64 1), (.int .i64 0)] 34)) ⟨0, 1, 1, 0⟩ :=
  ⟨heap_alloc (heap_alloc heap_new), heap_alloc (heap_new' (by simp)), heap_new' (by simp), by go_grown⟩
set_option maxRecDepth 100000 in
set_option maxHeartbeats 2000000 in
theorem follow_any (s : ByteArray) (u : Q4) (w : World) (hs : s.size ≤ 40) (hu : fol (letS s) ⟨0, 1, 1, 0⟩ = u) :
    Calls Tryz.prog 51 #[.string s] w fun e w' => e = .returned (.agg #[.int .i64 (u.a + u.c), .int .i64 (u.b + u.d)]) ∧ Below w.heap.size w w' := by
  have HL := Lib.hid (letS_len s)
  have HU := Lib.hid hu
  clear hu
  go_enter Tryz.func51, Tryz.ntmps51
  go_wp2_with fail
  have S := Lib.hid (FS.start w)
  generalize (((w.alloc (Obj.cells #[(.int .i64 0), (.int .i64 0)] 34)).alloc (Obj.cells #[(.int .i64 0), (.int .i64 1)] 34)).alloc (Obj.cells #[(.int .i64 1), (.int .i64 0)] 34)) = W at *
  go_loopw [5, 6, 11] (fun _ _ i wr => ∃ (k : Nat) (x : Q4), i = (.int .i64 ((k : Int))) ∧ k ≤ s.size ∧ Hid (fol ((letS s).drop k) x = u) ∧ Hid (FolI k x) ∧ Hid (FS w wr x)) (fun _ _ i _ => s.size - (intOf i).toNat)
  case atStart => exact ⟨0, ⟨0, 1, 1, 0⟩, rfl, Nat.zero_le _, HU, Lib.hid FolI.start, S⟩
  case round =>
    clear S
    obtain ⟨k, x, rfl, hk, HF, HI, S⟩ := hrel
    obtain ⟨⟨a0, a1⟩, ⟨b0, b1⟩, ⟨c0, c1⟩, ⟨d0, d1⟩, -, -, -⟩ := HI.out.bd (by omega)
    obtain ⟨z0, z1, l0, l1, r0, r1, y0, y1, g0, g1, k0, k1, s0, s1, s2⟩ := S.out.cells
    by_cases hlt : k < s.size
    · have HD := Lib.hid (letS_drop hlt)
      cases hc : (((s[k]'hlt).toNat : Int) == 76)
      · rw [hc] at HD
        have HF2 := Lib.hid (show fol ((letS s).drop (k + 1)) ⟨x.a + x.c, x.b + x.d, x.c, x.d⟩ = u by have := HF.out; rw [HD.out] at this; exact this)
        clear HF HD
        go_wp2_with fail
        go_roundw
        case rel => exact ⟨k + 1, ⟨x.a + x.c, x.b + x.d, x.c, x.d⟩, by go_num, by omega, HF2, Lib.hid HI.out.right, Lib.hid ((S.out.setL _ _).alloc _)⟩
        case measure => simp [intOf]; omega
      · rw [hc] at HD
        have HF2 := Lib.hid (show fol ((letS s).drop (k + 1)) ⟨x.a, x.b, x.a + x.c, x.b + x.d⟩ = u by have := HF.out; rw [HD.out] at this; exact this)
        clear HF HD
        go_wp2_with fail
        go_roundw
        case rel => exact ⟨k + 1, ⟨x.a, x.b, x.a + x.c, x.b + x.d⟩, by go_num, by omega, HF2, Lib.hid HI.out.left, Lib.hid ((S.out.setR _ _).alloc _)⟩
        case measure => simp [intOf]; omega
    · obtain rfl : k = s.size := by omega
      have hE : x = u := by
        have := HF.out
        rw [← HL.out, List.drop_length] at this
        exact this
      subst hE
      clear HF HI HU
      go_wp2_with fail
      refine bodyPost_ret (v := (.agg #[.int .i64 (x.a + x.c), .int .i64 (x.b + x.d)])) (by first | (simp [results, Tryz.results51, go_sem]; done) | (simp [results, Tryz.results51, go_sem, set2_0 S.out.z, set2_1 S.out.z] <;> rfl)) rfl ?_
      exact ⟨rfl, (S.out.t.setCell (p := ⟨w.heap.size, 0, none⟩) (by show _ ≤ w.heap.size; omega) _).setCell (p := ⟨w.heap.size, 1, none⟩) (by show _ ≤ w.heap.size; omega) _⟩
set_option maxRecDepth 100000 in
set_option maxHeartbeats 2000000 in
theorem l03OfPath_any (s : ByteArray) (u : Q4) (w : World) (hs : s.size ≤ 40) (hu : fol (letS s) ⟨0, 1, 1, 0⟩ = u) :
    Calls Tryz.prog 60 #[.string s] w fun e w' => e = .returned (.agg #[.int .i64 (u.a + u.c), .int .i64 (u.b + u.d)]) ∧ Below w.heap.size w w' := by
  have HL := Lib.hid (letS_len s)
  have HU := Lib.hid hu
  clear hu
  have HM := Lib.hid (fun a b c d W (h : MedIn a b c d) => l03Mediant_any a b c d W h)
  go_enter Tryz.func60, Tryz.ntmps60
  go_wp2_with fail
  have S := Lib.hid (FS.start w)
  generalize (((w.alloc (Obj.cells #[(.int .i64 0), (.int .i64 0)] 34)).alloc (Obj.cells #[(.int .i64 0), (.int .i64 1)] 34)).alloc (Obj.cells #[(.int .i64 1), (.int .i64 0)] 34)) = W at *
  go_loopw [5] (fun i wr => ∃ (k : Nat) (x : Q4), i = (.int .i64 ((k : Int))) ∧ k ≤ s.size ∧ Hid (fol ((letS s).drop k) x = u) ∧ Hid (FolI k x) ∧ Hid (FS w wr x)) (fun i _ => s.size - (intOf i).toNat)
  case atStart => exact ⟨0, ⟨0, 1, 1, 0⟩, rfl, Nat.zero_le _, HU, Lib.hid FolI.start, S⟩
  case round =>
    clear S
    obtain ⟨k, x, rfl, hk, HF, HI, S⟩ := hrel
    obtain ⟨⟨a0, a1⟩, ⟨b0, b1⟩, ⟨c0, c1⟩, ⟨d0, d1⟩, hmed, hfx, hfy⟩ := HI.out.bd (by omega)
    have HM2 := Lib.hid (fun W => HM.out x.a x.b x.c x.d W hmed)
    rw [hfx, hfy] at HM2
    clear hmed hfx hfy HM
    obtain ⟨z0, z1, l0, l1, r0, r1, y0, y1, g0, g1, k0, k1, s0, s1, s2⟩ := S.out.cells
    by_cases hlt : k < s.size
    · have HD := Lib.hid (letS_drop hlt)
      cases hc : (((s[k]'hlt).toNat : Int) == 76)
      · rw [hc] at HD
        have HF2 := Lib.hid (show fol ((letS s).drop (k + 1)) ⟨x.a + x.c, x.b + x.d, x.c, x.d⟩ = u by have := HF.out; rw [HD.out] at this; exact this)
        clear HF HD
        go_wp2_with fail
        refine (HM2.out _).mono ?_; rintro e w2 ⟨rfl, hb⟩
        replace S := Lib.hid (S.out.below hb)
        clear hb z0 z1 l0 l1 r0 r1 y0 y1 g0 g1 k0 k1 s0 s1 s2
        obtain ⟨z0, z1, l0, l1, r0, r1, y0, y1, g0, g1, k0, k1, s0, s1, s2⟩ := S.out.cells
        go_wp2_with fail
        go_roundw
        case rel => exact ⟨k + 1, ⟨x.a + x.c, x.b + x.d, x.c, x.d⟩, by go_num, by omega, HF2, Lib.hid HI.out.right, Lib.hid (S.out.setL _ _)⟩
        case measure => simp [intOf]; omega
      · rw [hc] at HD
        have HF2 := Lib.hid (show fol ((letS s).drop (k + 1)) ⟨x.a, x.b, x.a + x.c, x.b + x.d⟩ = u by have := HF.out; rw [HD.out] at this; exact this)
        clear HF HD
        go_wp2_with fail
        refine (HM2.out _).mono ?_; rintro e w2 ⟨rfl, hb⟩
        replace S := Lib.hid (S.out.below hb)
        clear hb z0 z1 l0 l1 r0 r1 y0 y1 g0 g1 k0 k1 s0 s1 s2
        obtain ⟨z0, z1, l0, l1, r0, r1, y0, y1, g0, g1, k0, k1, s0, s1, s2⟩ := S.out.cells
        go_wp2_with fail
        go_roundw
        case rel => exact ⟨k + 1, ⟨x.a, x.b, x.a + x.c, x.b + x.d⟩, by go_num, by omega, HF2, Lib.hid HI.out.left, Lib.hid (S.out.setR _ _)⟩
        case measure => simp [intOf]; omega
    · obtain rfl : k = s.size := by omega
      have hE : x = u := by
        have := HF.out
        rw [← HL.out, List.drop_length] at this
        exact this
      subst hE
      clear HF HI HU
      go_wp2_with fail
      refine (HM2.out _).mono ?_; rintro e w2 ⟨rfl, hb⟩
      replace S := Lib.hid (S.out.below hb)
      clear hb z0 z1 l0 l1 r0 r1 y0 y1 g0 g1 k0 k1 s0 s1 s2
      obtain ⟨z0, z1, l0, l1, r0, r1, y0, y1, g0, g1, k0, k1, s0, s1, s2⟩ := S.out.cells
      go_wp2_with fail
      refine bodyPost_ret (v := (.agg #[.int .i64 (x.a + x.c), .int .i64 (x.b + x.d)])) (by first | (simp [results, Tryz.results60, go_sem]; done) | (simp [results, Tryz.results60, go_sem, set2_0 S.out.z, set2_1 S.out.z] <;> rfl)) rfl ?_
      exact ⟨rfl, (S.out.t.setCell (p := ⟨w.heap.size, 0, none⟩) (by show _ ≤ w.heap.size; omega) _).setCell (p := ⟨w.heap.size, 1, none⟩) (by show _ ≤ w.heap.size; omega) _⟩
def okS (s : ByteArray) : Bool := s.data.toList.all (fun b => b == 76 || b == 82)
def fpRes (s : ByteArray) : (Int × Int) × Int := if (decide (s.size ≤ 40) && okS s) = true then ((((fol (letS s) ⟨0, 1, 1, 0⟩).a + (fol (letS s) ⟨0, 1, 1, 0⟩).c, (fol (letS s) ⟨0, 1, 1, 0⟩).b + (fol (letS s) ⟨0, 1, 1, 0⟩).d)), 0) else ((0, 0), 2)
theorem dropW_nil {α : Type} {p : α → Bool} : ∀ {l : List α}, (∀ x ∈ l, p x = true) → l.dropWhile p = []
  | [], _ => rfl
  | a :: l, h => by
    rw [List.dropWhile_cons_of_pos (h a (by simp))]
    exact dropW_nil fun x hx => h x (List.mem_cons_of_mem _ hx)
theorem trim_ok {s : ByteArray} (h : okS s = true) : Lib.trimS s.data.toList [76, 82] = [] := by
  unfold Lib.trimS Lib.trimRightS Lib.trimLeftS
  have h1 : (s.data.toList.reverse.dropWhile ([76, 82].contains ·)) = [] := by
    refine dropW_nil fun b hb => ?_
    have := List.all_eq_true.1 h b (List.mem_reverse.1 hb)
    simpa using this
  rw [h1]; rfl
theorem dropW_ne {α : Type} {p : α → Bool} : ∀ {l : List α}, (∃ x ∈ l, p x = false) → ∃ y r, l.dropWhile p = y :: r ∧ p y = false
  | [], h => by obtain ⟨x, hx, _⟩ := h; cases hx
  | a :: l, h => by
    by_cases hp : p a = true
    · rw [List.dropWhile_cons_of_pos hp]
      refine dropW_ne ?_
      obtain ⟨x, hx, hpx⟩ := h
      rcases List.mem_cons.1 hx with rfl | hx
      · rw [hp] at hpx; cases hpx
      · exact ⟨x, hx, hpx⟩
    · have hp' : p a = false := by simpa using hp
      exact ⟨a, l, List.dropWhile_cons_of_neg hp, hp'⟩
theorem trim_no {s : ByteArray} (h : okS s = false) : Lib.trimS s.data.toList [76, 82] ≠ [] := by
  obtain ⟨b, hb, hp⟩ := List.all_eq_false.1 h
  have hq : ([76, 82] : List UInt8).contains b = false := by
    simp at hp ⊢; exact hp
  unfold Lib.trimS Lib.trimRightS Lib.trimLeftS
  obtain ⟨y, r, h1, h2⟩ := dropW_ne (p := fun x => ([76, 82] : List UInt8).contains x) (l := s.data.toList.reverse) ⟨b, List.mem_reverse.2 hb, hq⟩
  rw [h1]
  obtain ⟨y', r', h3, -⟩ := dropW_ne (p := fun x => ([76, 82] : List UInt8).contains x) (l := (y :: r).reverse) ⟨y, by simp, h2⟩
  rw [h3]
  simp
set_option maxRecDepth 100000 in
set_option maxHeartbeats 2000000 in
theorem FractionOfPath_any (s : ByteArray) (w : World) (hs : s.size ≤ 1000000000) :
    Calls Tryz.prog 19 #[.string s] w fun e w' => e = .returned (.tuple #[(.agg #[.int .i64 ((fpRes s).1.1), .int .i64 ((fpRes s).1.2)]), (.int .i64 ((fpRes s).2))]) ∧ Below w.heap.size w w' := by
  have HT := Lib.hid (fun W => sh_strings_Trim_LR s W (by omega))
  by_cases hl : s.size ≤ 40
  · have hl2 : ¬ (40 : Int) < (s.size : Int) := by omega
    cases ho : okS s
    · rw [show fpRes s = ((0, 0), 2) by unfold fpRes; rw [ho, Bool.and_false]; rfl]
      have hn := trim_no ho
      generalize Lib.trimS s.data.toList [76, 82] = r at *
      have hn2 : r.isEmpty = false := by cases r with | nil => exact absurd rfl hn | cons _ _ => rfl
      go_enter Tryz.func19, Tryz.ntmps19
      go_wp2_with fail
      refine (HT.out _).mono ?_; rintro e w1 ⟨rfl, hb1⟩
      obtain ⟨hc1, hf1⟩ := bcell hb1
      have hz0 : w.heap.size < w1.heap.size := by have := hb1.size; (try simp at this); omega
      have hB1 : Below w.heap.size w w1 := bfin (by go_grown) hb1
      go_wp2_with fail
      have hall := And.intro hc1 (hz0)
      refine bodyPost_ret (v := .tuple #[(.agg #[.int .i64 0, .int .i64 0]), (.int .i64 2)]) (by first | (simp [results, Tryz.results19, go_sem]; done) | (simp [results, Tryz.results19, go_sem, hall] <;> rfl)) rfl ⟨rfl, by go_grown⟩
    · have HF := Lib.hid (fun W => follow_any s _ W hl rfl)
      rw [show fpRes s = (((fol (letS s) ⟨0, 1, 1, 0⟩).a + (fol (letS s) ⟨0, 1, 1, 0⟩).c, (fol (letS s) ⟨0, 1, 1, 0⟩).b + (fol (letS s) ⟨0, 1, 1, 0⟩).d), 0) by unfold fpRes; rw [ho, decide_eq_true hl]; rfl]
      rw [trim_ok ho] at HT
      generalize (fol (letS s) ⟨0, 1, 1, 0⟩).a + (fol (letS s) ⟨0, 1, 1, 0⟩).c = x at *
      generalize (fol (letS s) ⟨0, 1, 1, 0⟩).b + (fol (letS s) ⟨0, 1, 1, 0⟩).d = y at *
      clear ho
      go_enter Tryz.func19, Tryz.ntmps19
      go_wp2_with fail
      refine (HT.out _).mono ?_; rintro e w1 ⟨rfl, hb1⟩
      obtain ⟨hc1, hf1⟩ := bcell hb1
      have hz0 : w.heap.size < w1.heap.size := by have := hb1.size; (try simp at this); omega
      go_wp2_with fail
      refine (HF.out _).mono ?_; rintro e w2 ⟨rfl, hb2⟩
      replace hb2 := bstep hb1 hb2
      clear hc1 hf1 hb1
      obtain ⟨hc2, hf2⟩ := bcell hb2
      have hz0 : w.heap.size < w2.heap.size := by have := hb2.size; (try simp at this); omega
      have hB2 : Below w.heap.size w w2 := bfin (by go_grown) hb2
      go_wp2_with fail
      have hall := And.intro hc2 (hz0)
      refine bodyPost_ret (v := .tuple #[(.agg #[.int .i64 x, .int .i64 y]), (.int .i64 0)]) (by first | (simp [results, Tryz.results19, go_sem]; done) | (simp [results, Tryz.results19, go_sem, hall] <;> rfl)) rfl ⟨rfl, by go_grown⟩
  · have hl2 : (40 : Int) < (s.size : Int) := by omega
    rw [show fpRes s = ((0, 0), 2) by unfold fpRes; rw [decide_eq_false hl, Bool.false_and]; rfl]
    go_enter Tryz.func19, Tryz.ntmps19
    go_wp2_with fail
    refine bodyPost_ret (v := .tuple #[(.agg #[.int .i64 0, .int .i64 0]), (.int .i64 2)]) (by simp [results, Tryz.results19, go_sem] <;> rfl) rfl ⟨rfl, by go_grown⟩
theorem okS_at {s : ByteArray} {k : Nat} (h : okS s = true) (hk : k < s.size) : (((s[k]'hk).toNat : Int) == 76) = true ∨ (((s[k]'hk).toNat : Int) == 82) = true := by
  have h2 := List.all_eq_true.1 h (s[k]'hk) (by
    have e : s[k]'hk = s.data.toList[k]'(by simpa using hk) := by rw [Array.getElem_toList]; rfl
    rw [e]; exact List.getElem_mem _)
  rw [Bool.or_eq_true, beq_iff_eq, beq_iff_eq] at h2
  rcases h2 with h2 | h2 <;> rw [h2]
  · left; rfl
  · right; rfl
theorem okS_of {s : ByteArray} (h : ∀ k (hk : k < s.size), (((s[k]'hk).toNat : Int) == 76) = true ∨ (((s[k]'hk).toNat : Int) == 82) = true) : okS s = true := by
  refine List.all_eq_true.2 fun b hb => ?_
  obtain ⟨k, hk, rfl⟩ := List.getElem_of_mem hb
  have hk2 : k < s.size := by simpa using hk
  have e : s[k]'hk2 = s.data.toList[k]'hk := by rw [Array.getElem_toList]; rfl
  rw [← e, Bool.or_eq_true, beq_iff_eq, beq_iff_eq]
  rcases h k hk2 with h1 | h1
  · left
    have h3 : (s[k]'hk2).toNat = 76 := by have := beq_iff_eq.1 h1; exact_mod_cast this
    refine UInt8.toNat_inj.1 ?_
    rw [h3]; rfl
  · right
    have h3 : (s[k]'hk2).toNat = 82 := by have := beq_iff_eq.1 h1; exact_mod_cast this
    refine UInt8.toNat_inj.1 ?_
    rw [h3]; rfl
set_option maxRecDepth 100000 in
set_option maxHeartbeats 2000000 in
theorem sFractionOfPath_any (s : ByteArray) (w : World) (hs : s.size ≤ 1000000000) :
    Calls Tryz.prog 24 #[.string s] w fun e w' => e = .returned (.tuple #[(.agg #[.int .i64 ((fpRes s).1.1), .int .i64 ((fpRes s).1.2)]), (.int .i64 ((fpRes s).2))]) ∧ Below w.heap.size w w' := by
  by_cases hl : s.size ≤ 40
  · have hl2 : ¬ (40 : Int) < (s.size : Int) := by omega
    have HF := Lib.hid (fun W => l03OfPath_any s _ W hl rfl)
    have HN := Lib.hid (fun (ho : okS s = false) => (show fpRes s = ((0, 0), 2) by unfold fpRes; rw [ho, Bool.and_false]; rfl))
    have HY := Lib.hid (fun (ho : okS s = true) => (show fpRes s = (((fol (letS s) ⟨0, 1, 1, 0⟩).a + (fol (letS s) ⟨0, 1, 1, 0⟩).c, (fol (letS s) ⟨0, 1, 1, 0⟩).b + (fol (letS s) ⟨0, 1, 1, 0⟩).d), 0) by unfold fpRes; rw [ho, decide_eq_true hl]; rfl))
    generalize (fol (letS s) ⟨0, 1, 1, 0⟩).a + (fol (letS s) ⟨0, 1, 1, 0⟩).c = x at *
    generalize (fol (letS s) ⟨0, 1, 1, 0⟩).b + (fol (letS s) ⟨0, 1, 1, 0⟩).d = y at *
    have HO := Lib.hid (fun h => okS_of (s := s) h)
    have HA := Lib.hid (fun k hk h => okS_at (s := s) (k := k) h hk)
    generalize fpRes s = R at *
    generalize okS s = B at *
    go_enter Tryz.func24, Tryz.ntmps24
    go_wp2_with fail
    have Z := Lib.hid (show Blk2 (w.alloc (.cells #[(.int .i64 0), (.int .i64 0)] 34)) w.heap.size 34 0 0 from heap_new)
    have T := Lib.hid (show Below w.heap.size w (w.alloc (.cells #[(.int .i64 0), (.int .i64 0)] 34)) by go_grown)
    generalize w.alloc (.cells #[(.int .i64 0), (.int .i64 0)] 34) = W at *
    go_loopw [4] (fun i wr => ∃ k : Nat, i = (.int .i64 ((k : Int))) ∧ k ≤ s.size ∧ Hid (∀ j (hj : j < s.size), j < k → (((s[j]'hj).toNat : Int) == 76) = true ∨ (((s[j]'hj).toNat : Int) == 82) = true) ∧ wr = W) (fun i _ => s.size - (intOf i).toNat)
    case atStart => exact ⟨0, rfl, Nat.zero_le _, Lib.hid (fun j _ hj => by omega), rfl⟩
    case round =>
      obtain ⟨k, rfl, hk, HK, rfl⟩ := hrel
      obtain ⟨⟨z0, z1⟩, ⟨z2, z3⟩, hz⟩ := Z.out.open_
      by_cases hlt : k < s.size
      · cases hc : (((s[k]'hlt).toNat : Int) == 76)
        · cases hd : (((s[k]'hlt).toNat : Int) == 82)
          · have hB : B = false := by
              cases hB : B
              · rfl
              · rcases HA.out k hlt hB with h1 | h1
                · rw [hc] at h1; cases h1
                · rw [hd] at h1; cases h1
            have hR := Lib.hid (HN.out hB)
            clear HO HA HN HY HK hB HF
            have hc' : (((s[k]'hlt).toNat : Int) != 76) = true := by rw [bne, hc]; rfl
            have hd' : (((s[k]'hlt).toNat : Int) != 82) = true := by rw [bne, hd]; rfl
            go_wp2_with fail
            refine bodyPost_ret (v := .tuple #[(.agg #[.int .i64 0, .int .i64 0]), (.int .i64 2)]) (by first | (simp [results, Tryz.results24, go_sem]; done) | (simp [results, Tryz.results24, go_sem, set2_0 Z.out, set2_1 Z.out] <;> rfl)) rfl ?_
            rw [hR.out]
            exact ⟨rfl, (T.out.setCell (p := ⟨w.heap.size, 0, none⟩) (by show _ ≤ w.heap.size; omega) _).setCell (p := ⟨w.heap.size, 1, none⟩) (by show _ ≤ w.heap.size; omega) _⟩
          · have HK2 := Lib.hid (show ∀ j (hj : j < s.size), j < k + 1 → (((s[j]'hj).toNat : Int) == 76) = true ∨ (((s[j]'hj).toNat : Int) == 82) = true from fun j hj hjk => by
              by_cases he : j = k
              · subst he; exact .inr hd
              · exact HK.out j hj (by omega))
            have hc' : (((s[k]'hlt).toNat : Int) != 76) = true := by rw [bne, hc]; rfl
            have hd' : (((s[k]'hlt).toNat : Int) != 82) = false := by rw [bne, hd]; rfl
            clear HO HA HN HY HK HF
            go_wp2_with fail
            go_roundw
            case rel => exact ⟨k + 1, by go_num, by omega, HK2, trivial⟩
            case measure => simp [intOf]; omega
        · have HK2 := Lib.hid (show ∀ j (hj : j < s.size), j < k + 1 → (((s[j]'hj).toNat : Int) == 76) = true ∨ (((s[j]'hj).toNat : Int) == 82) = true from fun j hj hjk => by
            by_cases he : j = k
            · subst he; exact .inl hc
            · exact HK.out j hj (by omega))
          have hc' : (((s[k]'hlt).toNat : Int) != 76) = false := by rw [bne, hc]; rfl
          clear HO HA HN HY HK HF
          go_wp2_with fail
          go_roundw
          case rel => exact ⟨k + 1, by go_num, by omega, HK2, trivial⟩
          case measure => simp [intOf]; omega
      · obtain rfl : k = s.size := by omega
        have hB : B = true := HO.out (fun j hj => HK.out j hj hj)
        have hR := Lib.hid (HY.out hB)
        clear HO HA HN HY HK hB
        go_wp2_with fail
        refine (HF.out _).mono ?_; rintro e w2 ⟨rfl, hb⟩
        replace Z := Lib.hid (show Blk2 w2 w.heap.size 34 0 0 from heap_below Z.out hb)
        replace T := Lib.hid (bfin T.out hb)
        clear hb z0 z1 z2 z3 hz
        obtain ⟨⟨z0, z1⟩, ⟨z2, z3⟩, hz⟩ := Z.out.open_
        go_wp2_with fail
        refine bodyPost_ret (v := .tuple #[(.agg #[.int .i64 x, .int .i64 y]), (.int .i64 0)]) (by first | (simp [results, Tryz.results24, go_sem]; done) | (simp [results, Tryz.results24, go_sem, set2_0 Z.out, set2_1 Z.out] <;> rfl)) rfl ?_
        rw [hR.out]
        exact ⟨rfl, (T.out.setCell (p := ⟨w.heap.size, 0, none⟩) (by show _ ≤ w.heap.size; omega) _).setCell (p := ⟨w.heap.size, 1, none⟩) (by show _ ≤ w.heap.size; omega) _⟩
  · have hl2 : (40 : Int) < (s.size : Int) := by omega
    rw [show fpRes s = ((0, 0), 2) by unfold fpRes; rw [decide_eq_false hl, Bool.false_and]; rfl]
    go_enter Tryz.func24, Tryz.ntmps24
    go_wp2_with fail
    refine bodyPost_ret (v := .tuple #[(.agg #[.int .i64 0, .int .i64 0]), (.int .i64 2)]) (by simp [results, Tryz.results24, go_sem] <;> rfl) rfl ⟨rfl, by go_grown⟩
end Go.Proofs.YtjnkogkpdbgohaaGreatDoor
