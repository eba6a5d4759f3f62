/- Draws of forms: discriminants, reduced forms, and any. -/
import Derived.Test.YtcaiofhdcffogaaD14
import Derived.Test.YtcaiofhdcffogaaC91A
import Derived.Test.YtcaiofhdcffogaaCb
import Derived.Deep.DeepCutAuto
namespace Go.Proofs.Ytcaiofhdcffogaa
open Go.RowKit
/-- A form in a block of the call's own. -/
abbrev Bg (w : World) (r : Nat) (p q s : Int) : Prop := Blk3 w r 34 p q s
theorem Bg.turn {n b r : Nat} {w0 w w' : World} {p q s : Int} (h : Bg w r p q s) (hi : InS n b w0 w) (hr : w0.heap.size ≤ r) (hg : w.grownBy w' (some b)) : Bg w' r p q s :=
  blk_keep h hg (by have := hi.old; omega)
theorem Bg.below {r : Nat} {w w' : World} {p q s : Int} (h : Bg w r p q s) (hb : Below w.heap.size w w') : Bg w' r p q s := heap_below h hb
theorem Bg.alloc {r : Nat} {w : World} {p q s : Int} (h : Bg w r p q s) (o : Obj) : Bg (w.alloc o) r p q s := heap_alloc h
theorem Bg.new {w : World} {p q s : Int} : Bg (w.alloc (.cells #[(.int .i64 p), (.int .i64 q), (.int .i64 s)] 34)) w.heap.size p q s := heap_new
theorem Bg.newE {w : World} {g : Nat} {p q s : Int} (h : g = w.heap.size) : Bg (w.alloc (.cells #[(.int .i64 p), (.int .i64 q), (.int .i64 s)] 34)) g p q s := heap_new' h
theorem Bg.set {r : Nat} {w : World} {p q s : Int} (h : Bg w r p q s) (x y z : Int) : Bg (((w.setCell ⟨r, 0, none⟩ (.int .i64 x)).setCell ⟨r, 1, none⟩ (.int .i64 y)).setCell ⟨r, 2, none⟩ (.int .i64 z)) r x y z := heap_set3 h
theorem Bg.far {r r' : Nat} {w : World} {p q s : Int} (h : Bg w r p q s) (x y z : Value) (hne : r ≠ r') :
    Bg (((w.setCell ⟨r', 0, none⟩ x).setCell ⟨r', 1, none⟩ y).setCell ⟨r', 2, none⟩ z) r p q s :=
  heap_keep (heap_keep (heap_keep h hne) hne) hne
theorem Bg.lt {r : Nat} {w : World} {p q s : Int} (h : Bg w r p q s) : r < w.heap.size := lt_of_blk h
theorem Bg.grown {r n b : Nat} {w w' : World} {p q s : Int} (h : Bg w r p q s) (hi : InS n b w w') (hr : r ≠ b) : Bg w' r p q s := blk_keep h hi.grown hr
theorem below_set3 {B : Nat} {w0 w : World} {r : Nat} {x y z : Value} (h : Below B w0 w) (hr : B ≤ r) : Below B w0 (((w.setCell ⟨r, 0, none⟩ x).setCell ⟨r, 1, none⟩ y).setCell ⟨r, 2, none⟩ z) :=
  ((h.setCell (p := ⟨r, 0, none⟩) hr x).setCell (p := ⟨r, 1, none⟩) hr y).setCell (p := ⟨r, 2, none⟩) hr z
theorem set3_0 {w : World} {r : Nat} {p q s : Int} {x y z : Int} (h : Bg w r p q s) : (((w.setCell ⟨r, 0, none⟩ (.int .i64 x)).setCell ⟨r, 1, none⟩ (.int .i64 y)).setCell ⟨r, 2, none⟩ (.int .i64 z)).cell? ⟨r, 0, none⟩ = some (.int .i64 x) := (Blk3.open_ (heap_set3 h)).1.1
theorem set3_1 {w : World} {r : Nat} {p q s : Int} {x y z : Int} (h : Bg w r p q s) : (((w.setCell ⟨r, 0, none⟩ (.int .i64 x)).setCell ⟨r, 1, none⟩ (.int .i64 y)).setCell ⟨r, 2, none⟩ (.int .i64 z)).cell? ⟨r, 1, none⟩ = some (.int .i64 y) := (Blk3.open_ (heap_set3 h)).1.2.1
theorem set3_2 {w : World} {r : Nat} {p q s : Int} {x y z : Int} (h : Bg w r p q s) : (((w.setCell ⟨r, 0, none⟩ (.int .i64 x)).setCell ⟨r, 1, none⟩ (.int .i64 y)).setCell ⟨r, 2, none⟩ (.int .i64 z)).cell? ⟨r, 2, none⟩ = some (.int .i64 z) := (Blk3.open_ (heap_set3 h)).1.2.2
theorem InS.set3 {n b : Nat} {w0 w : World} (h : InS n b w0 w) {r : Nat} (x y z : Value) (hr : w0.heap.size ≤ r) :
    InS n b w0 (((w.setCell ⟨r, 0, none⟩ x).setCell ⟨r, 1, none⟩ y).setCell ⟨r, 2, none⟩ z) :=
  ((h.set x hr).set y hr).set z hr
def RetF (e : Ending) : Prop := ∃ p q r : Int, e = .returned (.agg #[.int .i64 p, .int .i64 q, .int .i64 r])
/-- Values in whatever numbers, as they wrap. -/
def wv (a b c x y : Int) : Int := wrap64 (wrap64 (wrap64 (wrap64 (a * x) * x) + wrap64 (wrap64 (b * x) * y)) + wrap64 (wrap64 (c * y) * y))
theorem l05Value_wild (a b c x y : Int) (w : World) :
    Calls Try.prog 89 #[(.agg #[.int .i64 a, .int .i64 b, .int .i64 c]), (.int .i64 x), (.int .i64 y)] w fun e w' => e = .returned (.int .i64 (wv a b c x y)) ∧ Below w.heap.size w w' := by
  go_enter Try.func89, Try.ntmps89
  go_wp2
  go_ret
  exact ⟨by rfl, by go_grown⟩
set_option maxHeartbeats 1000000 in
theorem l05Apply_wild (a b c p q r s : Int) (w : World) :
    Calls Try.prog 59 #[(.agg #[.int .i64 a, .int .i64 b, .int .i64 c]), (.agg #[.int .i64 p, .int .i64 q, .int .i64 r, .int .i64 s])] w fun e w' => RetF e ∧ Below w.heap.size w w' := by
  go_enter Try.func59, Try.ntmps59
  go_wp2
  refine wp_region_ext_tail 47 (by kernel_rfl) (by kernel_rfl) ?_
  simp only [List.take_succ_cons, List.take_zero, List.drop_succ_cons, List.drop_zero]
  repeat (go_big_quiet_step ((go_at_call 89; refine Calls.ext_of (Nat.le_refl _) (l05Value_wild _ _ _ _ _ _))))
  refine wpQuiet_nil ?_
  intro w1 hb1
  obtain ⟨hc1, hf1⟩ := bcell hb1
  have hB : Below w.heap.size w w1 := bfin (by go_grown) hb1
  go_wp2
  refine bodyPost_ret (v := (.agg #[.int .i64 (wv a b c p r), .int .i64 (wrap64 (wrap64 (wrap64 (wrap64 (wrap64 (2 * a) * p) * q) + wrap64 (b * wrap64 (wrap64 (p * s) + wrap64 (q * r)))) + wrap64 (wrap64 (wrap64 (2 * c) * r) * s))), .int .i64 (wv a b c q s)])) (by simp [results, Try.results59, go_sem, hc1] <;> rfl) rfl ⟨⟨_, _, _, rfl⟩, by go_grown⟩
set_option maxRecDepth 100000 in
theorem l05DrawDisc_any (n b : Nat) (w : World) (hs : Src w n b) :
    Calls Try.prog 27 #[.pointer (some ⟨b, 0, none⟩)] w fun e w' => (∃ x : Int, e = .returned (.int .i64 x)) ∧ Src w' n b ∧ w.grownBy w' (some b) := by
  have I := Lib.hid (InS.start hs)
  clear hs
  go_enter Try.func27, Try.ntmps27

  go_wp2_with fail
  refine (l01Next_any n b 14 _ (by omega) I.out.src).mono ?_; rintro e w1 ⟨x, rfl, -, hs, hg⟩
  replace I := Lib.hid (I.out.turn hs hg)
  clear hs hg
  by_cases h0 : x = 0
  · subst h0
    go_wp2_with fail
    refine (pick_lit [0, 1, 2, 4, -1, 2001, -2004, 9] rfl I.out.src rfl (by simp) (by simp)).mono ?_; rintro e w2 ⟨y, rfl, -, hs, hg⟩
    replace I := Lib.hid (I.out.turn hs hg)
    clear hs hg
    go_wp2_with fail
    go_ret
    exact ⟨⟨_, rfl⟩, I.out.src, I.out.grown⟩
  · have h0' : (x == 0) = false := by simpa using h0
    clear h0
    go_wp2_with fail
    refine (pick_lit [10, 60, 500] rfl I.out.src rfl (by simp) (by simp)).mono ?_; rintro e w3 ⟨y, rfl, hy, hs, hg⟩
    replace I := Lib.hid (I.out.turn hs hg)
    clear hs hg
    have hy2 : 10 ≤ y ∧ y ≤ 500 := by simp at hy; omega
    clear hy
    go_wp2_with fail
    refine (l01Next_any n b y _ (by omega) I.out.src).mono ?_; rintro e w4 ⟨z, rfl, hz, hs, hg⟩
    replace I := Lib.hid (I.out.turn hs hg)
    clear hs hg
    have hz2 : 0 ≤ z ∧ z ≤ 500 := by omega
    clear hz
    go_wp2_with fail
    refine (l01Next_any n b 2 _ (by omega) I.out.src).mono ?_; rintro e w5 ⟨u, rfl, hu, hs, hg⟩
    replace I := Lib.hid (I.out.turn hs hg)
    clear hs hg
    have hu2 : 0 ≤ u ∧ u < 2 := by omega
    clear hu
    go_wp2_with fail
    refine (l01Next_any n b 2 _ (by omega) I.out.src).mono ?_; rintro e w6 ⟨v, rfl, hv, hs, hg⟩
    replace I := Lib.hid (I.out.turn hs hg)
    clear hs hg
    by_cases h1 : v = 0
    · subst h1
      go_wp2_with fail
      refine (l01Next_any n b 2 _ (by omega) I.out.src).mono ?_; rintro e w7 ⟨r, rfl, hr, hs, hg⟩
      replace I := Lib.hid (I.out.turn hs hg)
      clear hs hg
      have hr2 : 0 ≤ r ∧ r < 2 := by omega
      clear hr hv
      go_wp2_with fail
      refine (pick_lit [10, 60, 499] rfl I.out.src rfl (by simp) (by simp)).mono ?_; rintro e w8 ⟨m, rfl, hm, hs, hg⟩
      replace I := Lib.hid (I.out.turn hs hg)
      clear hs hg
      have hm2 : 10 ≤ m ∧ m ≤ 500 := by simp at hm; omega
      clear hm
      go_wp2_with fail
      refine (l01Next_any n b m _ (by omega) I.out.src).mono ?_; rintro e w9 ⟨k, rfl, hk, hs, hg⟩
      replace I := Lib.hid (I.out.turn hs hg)
      clear hs hg
      have hk2 : 0 ≤ k ∧ k ≤ 500 := by omega
      clear hk
      go_wp2_with fail
      go_ret
      exact ⟨⟨_, rfl⟩, I.out.src, I.out.grown⟩
    · have h1' : (v == 0) = false := by simpa using h1
      clear h1 hv
      go_wp2_with fail
      go_ret
      exact ⟨⟨_, rfl⟩, I.out.src, I.out.grown⟩
theorem told_nzA {d : Int} (h : toldB d = true) : d ≠ 0 := fun e => by
  subst e
  revert h
  decide +kernel
theorem flatF_atG {l : List F3} {k : Nat} (h : k < l.length) : (ints (flatF l))[k * 3]? = some (.int .i64 l[k].x) ∧ (ints (flatF l))[k * 3 + 1]? = some (.int .i64 l[k].y) ∧ (ints (flatF l))[k * 3 + 2]? = some (.int .i64 l[k].z) := by
  induction l generalizing k with
  | nil => simp at h
  | cons a l ih =>
    cases k with
    | zero => simp [ints, flatF]
    | succ k =>
      simp only [List.length_cons] at h
      have := ih (k := k) (by omega)
      have e : ints (flatF (a :: l)) = .int .i64 a.x :: .int .i64 a.y :: .int .i64 a.z :: ints (flatF l) := by simp [ints, flatF]
      rw [e, show (k + 1) * 3 = k * 3 + 3 by omega, show k * 3 + 3 + 1 = (k * 3 + 1) + 3 by omega, show k * 3 + 3 + 2 = (k * 3 + 2) + 3 by omega]
      simpa using this
theorem RowAt.turn {w w' : World} {B b n : Nat} {A : Option Addr} {xs : List Value} (h : RowAt w B A n xs) (hg : w.grownBy w' (some b)) (hb : b < B) : RowAt w' B A n xs := fun hn => by
  obtain ⟨g, hA, hB, hlt, hc, hf⟩ := h hn
  have e := hg.block g hlt (fun e => by injection e with e; omega)
  exact ⟨g, hA, hB, Nat.lt_of_lt_of_le hlt hg.size, fun j u hu => (World.cell?_of_block (a := ⟨g, j, none⟩) e).trans (hc j u hu), fun j => (World.frozen?_of_block (a := ⟨g, j, none⟩) e).trans (hf j)⟩
set_option maxRecDepth 100000 in
theorem l05DrawReduced_any (n b : Nat) (w : World) (hs : Src w n b) :
    Calls Try.prog 93 #[.pointer (some ⟨b, 0, none⟩)] w fun e w' => RetF e ∧ Src w' n b ∧ w.grownBy w' (some b) := by
  have I := Lib.hid ((InS.start hs).alloc (.cells #[(.int .i64 0), (.int .i64 0), (.int .i64 0)] 34))
  have B := Lib.hid (Bg.new (w := w) (p := 0) (q := 0) (s := 0))
  clear hs
  go_enter Try.func93, Try.ntmps93
  go_wp2_with fail
  refine (l05DrawDisc_any n b _ I.out.src).mono ?_; rintro e w1 ⟨⟨d, rfl⟩, hs, hg⟩
  replace B := Lib.hid (B.out.turn I.out (Nat.le_refl _) hg)
  replace I := Lib.hid (I.out.turn hs hg)
  clear hs hg
  have HT := Lib.hid (fun W => l05Told_any d W)
  cases ht : toldB d
  · rw [ht] at HT
    go_wp2_with fail
    refine (HT.out _).mono ?_; rintro e w' ⟨rfl, rfl⟩
    obtain ⟨⟨c0, c1, c2⟩, ⟨f0, f1, f2⟩, hl3⟩ := B.out.open_
    go_wp2_with fail
    refine bodyPost_ret (v := (.agg #[.int .i64 1, .int .i64 1, .int .i64 (-1)])) (by simp [results, Try.results93, go_sem, set3_0 B.out, set3_1 B.out, set3_2 B.out] <;> rfl) rfl ?_
    have IF := I.out.set3 (.int .i64 1) (.int .i64 1) (.int .i64 (-1)) (Nat.le_refl w.heap.size)
    exact ⟨⟨_, _, _, rfl⟩, IF.src, IF.grown⟩
  · have HA := Lib.hid (fun W => l05All_any d W (told_bd ht) (told_nzA ht))
    have hlen := fall_len d 101
    rw [ht] at HT
    clear ht
    generalize fall d 101 = L at *
    go_wp2_with fail
    refine (HT.out _).mono ?_; rintro e w' ⟨rfl, rfl⟩
    have hbw : b < w1.heap.size := I.out.src.lt
    go_wp2_with fail
    refine (HA.out _).mono ?_; rintro e w2 ⟨v, rfl, ho, hb2⟩
    replace B := Lib.hid (B.out.below hb2)
    replace I := Lib.hid (I.out.below hb2)
    obtain ⟨A, cap, rfl, -, -, hat⟩ := own_view ho
    have R := Lib.hid hat
    clear hb2 HT HA ho hat
    by_cases h0 : 0 < L.length
    · have h0' : (0 : Int) < (L.length : Int) := by omega
      go_wp2_with fail
      refine (l01Next_any n b (L.length : Int) _ (by omega) I.out.src).mono ?_; rintro e w3 ⟨x, rfl, hx, hs, hg⟩
      replace R := Lib.hid (R.out.turn hg hbw)
      replace B := Lib.hid (B.out.turn I.out (Nat.le_refl _) hg)
      replace I := Lib.hid (I.out.turn hs hg)
      clear hs hg
      obtain ⟨k, rfl⟩ := Int.eq_ofNat_of_zero_le hx.1
      have hk : k < L.length := by omega
      have hk' : (k : Int) < (L.length : Int) := by omega
      clear hx
      obtain ⟨g, rfl, -, hgl, hcell, -⟩ := R.out h0
      obtain ⟨e0, e1, e2⟩ := flatF_atG hk
      have c0 := hcell _ _ e0
      have c1 := hcell _ _ e1
      have c2 := hcell _ _ e2
      clear e0 e1 e2 hcell R
      generalize L[k].x = x at *
      generalize L[k].y = y at *
      generalize L[k].z = z at *
      obtain ⟨⟨d0, d1, d2⟩, ⟨f0, f1, f2⟩, hl3⟩ := B.out.open_
      go_wp2_with fail
      refine bodyPost_ret (v := (.agg #[.int .i64 x, .int .i64 y, .int .i64 z])) (by simp [results, Try.results93, go_sem, set3_0 B.out, set3_1 B.out, set3_2 B.out] <;> rfl) rfl ?_
      have IF := I.out.set3 (.int .i64 x) (.int .i64 y) (.int .i64 z) (Nat.le_refl w.heap.size)
      exact ⟨⟨_, _, _, rfl⟩, IF.src, IF.grown⟩
    · have h0' : ¬ (0 : Int) < (L.length : Int) := by omega
      clear R
      obtain ⟨⟨c0, c1, c2⟩, ⟨f0, f1, f2⟩, hl3⟩ := B.out.open_
      go_wp2_with fail
      refine bodyPost_ret (v := (.agg #[.int .i64 1, .int .i64 1, .int .i64 (-1)])) (by simp [results, Try.results93, go_sem, set3_0 B.out, set3_1 B.out, set3_2 B.out] <;> rfl) rfl ?_
      have IF := I.out.set3 (.int .i64 1) (.int .i64 1) (.int .i64 (-1)) (Nat.le_refl w.heap.size)
      exact ⟨⟨_, _, _, rfl⟩, IF.src, IF.grown⟩
end Go.Proofs.Ytcaiofhdcffogaa
/- Draws of forms: any, and spoilt ones. -/
namespace Go.Proofs.Ytcaiofhdcffogaa
open Go.RowKit
abbrev C3f (w : World) (g : Nat) (p q r : Int) : Prop := w.cell? ⟨g, 0, none⟩ = some (.int .i64 p) ∧ w.cell? ⟨g, 1, none⟩ = some (.int .i64 q) ∧ w.cell? ⟨g, 2, none⟩ = some (.int .i64 r)
theorem C3f.of {w : World} {g : Nat} {p q r : Int} (h : Bg w g p q r) : C3f w g p q r := (Blk3.open_ h).1
theorem C3f.drew {w : World} {g : Nat} {p q r : Int} (h : C3f w g p q r) : C3f w.drew g p q r := h
theorem undrewG {w w' : World} {r : Option Nat} (h : w.drew.grownBy w' r) : w.grownBy w' r := ⟨h.os, h.tape, h.output, h.size, h.block⟩
theorem unallocG {w w' : World} {o : Obj} {r : Option Nat} (h : (w.alloc o).grownBy w' r) : w.grownBy w' r := grown_trans' (World.grownBy_alloc w _ _) h
section
variable {w w' : World}
theorem zWf (hb : Below (w.alloc (.cells #[(.int .i64 0), (.int .i64 0), (.int .i64 0)] 34)).heap.size (w.alloc (.cells #[(.int .i64 0), (.int .i64 0), (.int .i64 0)] 34)) w') : Bg w' w.heap.size 0 0 0 := Bg.new.below hb
theorem zWfd (hb : Below (w.alloc (.cells #[(.int .i64 0), (.int .i64 0), (.int .i64 0)] 34)).drew.heap.size (w.alloc (.cells #[(.int .i64 0), (.int .i64 0), (.int .i64 0)] 34)).drew w') : Bg w' w.heap.size 0 0 0 := zWf ⟨hb.os, hb.tape, hb.output, hb.size, hb.block⟩
theorem zTf {n b : Nat} {w0 : World} (hi : InS n b w0 w) (hg : (w.alloc (.cells #[(.int .i64 0), (.int .i64 0), (.int .i64 0)] 34)).grownBy w' (some b)) : Bg w' w.heap.size 0 0 0 := Bg.new.turn (hi.alloc _) hi.size hg
theorem zTfd {n b : Nat} {w0 : World} (hi : InS n b w0 w) (hg : (w.alloc (.cells #[(.int .i64 0), (.int .i64 0), (.int .i64 0)] 34)).drew.grownBy w' (some b)) : Bg w' w.heap.size 0 0 0 := zTf hi (undrewG hg)
end
theorem l05Is_of (a b c : Int) (w : World) :
    Calls Try.prog 41 #[(.agg #[.int .i64 a, .int .i64 b, .int .i64 c])] w fun e w' => (∃ k : Bool, e = .returned (.bool k)) ∧ Below w.heap.size w w' :=
  (l05Is_any a b c w).mono fun _ _ ⟨h1, h2⟩ => ⟨⟨_, h1⟩, h2⟩
set_option maxRecDepth 1000000 in
set_option maxHeartbeats 4000000 in
theorem l05Draw_any (n b : Nat) (w : World) (hs : Src w n b) :
    Calls Try.prog 64 #[.pointer (some ⟨b, 0, none⟩)] w fun e w' => RetF e ∧ Src w' n b ∧ w.grownBy w' (some b) := by
  have I := Lib.hid ((InS.start hs).alloc (.cells #[(.int .i64 0), (.int .i64 0), (.int .i64 0)] 34))
  have B := Lib.hid (Bg.new (w := w) (p := 0) (q := 0) (s := 0))
  clear hs
  go_enter Try.func64, Try.ntmps64
  go_wp2_with fail
  refine (l01Next_any n b 4 _ (by omega) I.out.src).mono ?_; rintro e w1 ⟨z, rfl, -, hs, hg⟩
  replace B := Lib.hid (B.out.turn I.out (Nat.le_refl _) hg)
  replace I := Lib.hid (I.out.turn hs hg)
  clear hs hg
  by_cases h0 : z = 0
  · subst h0
    go_wp2_with fail
    refine (l01Next_any n b 9 _ (by omega) I.out.src).mono ?_; rintro e w2 ⟨x, rfl, hx, hs, hg⟩
    replace B := Lib.hid (B.out.turn I.out (Nat.le_refl _) hg)
    replace I := Lib.hid (I.out.turn hs hg)
    clear hs hg
    have hx2 : 0 ≤ x ∧ x < 9 := by omega
    clear hx
    go_wp2_with fail
    refine (l01Next_any n b 41 _ (by omega) I.out.src).mono ?_; rintro e w3 ⟨y, rfl, hy, hs, hg⟩
    replace B := Lib.hid (B.out.turn I.out (Nat.le_refl _) hg)
    replace I := Lib.hid (I.out.turn hs hg)
    clear hs hg
    have hy2 : 0 ≤ y ∧ y < 41 := by omega
    clear hy
    go_wp2_with fail
    refine (l01Next_any n b 41 _ (by omega) I.out.src).mono ?_; rintro e w4 ⟨u, rfl, hu, hs, hg⟩
    replace B := Lib.hid (B.out.turn I.out (Nat.le_refl _) hg)
    replace I := Lib.hid (I.out.turn hs hg)
    clear hs hg
    have hu2 : 0 ≤ u ∧ u < 41 := by omega
    clear hu
    obtain ⟨⟨d0, d1, d2⟩, ⟨f0, f1, f2⟩, hl3⟩ := B.out.open_
    go_wp2_with fail
    refine bodyPost_ret (v := (.agg #[.int .i64 (1 + x), .int .i64 (y - 20), .int .i64 (u - 10)])) (by simp [results, Try.results64, go_sem, set3_0 B.out, set3_1 B.out, set3_2 B.out] <;> rfl) rfl ?_
    have IF := I.out.set3 (.int .i64 (1 + x)) (.int .i64 (y - 20)) (.int .i64 (u - 10)) (Nat.le_refl w.heap.size)
    exact ⟨⟨_, _, _, rfl⟩, IF.src, IF.grown⟩
  have h0' : (z == 0) = false := by simpa using h0
  by_cases h1 : z = 1
  · subst h1
    go_wp2_with fail
    refine (l05DrawReduced_any n b _ I.out.src).mono ?_; rintro e w2 ⟨⟨p, q, r, rfl⟩, hs, hg⟩
    replace B := Lib.hid (B.out.turn I.out (Nat.le_refl _) hg)
    replace I := Lib.hid (I.out.turn hs hg)
    clear hs hg
    have M := Lib.hid (Bg.new (w := w2) (p := p) (q := q) (s := r))
    have hgw : w.heap.size < w2.heap.size := B.out.lt
    have hgl : w.heap.size ≤ w2.heap.size := Nat.le_of_lt hgw
    replace B := Lib.hid (B.out.alloc (.cells #[(.int .i64 p), (.int .i64 q), (.int .i64 r)] 34))
    replace I := Lib.hid (I.out.alloc (.cells #[(.int .i64 p), (.int .i64 q), (.int .i64 r)] 34))
    go_upto_region 6 with (fail)
    generalize w2.alloc (.cells #[(.int .i64 p), (.int .i64 q), (.int .i64 r)] 34) = W at *
    generalize w2.heap.size = g at *
    have kW := Lib.hid (C3f.of M.out)
    have hgW : g < W.heap.size := M.out.lt
    go_cut [4] from 23 to 26 (fun s4 wx => ∃ (g4 : Nat) (x y z : Int), s4 = .pointer (some ⟨g4, 0, none⟩) ∧ Hid (Bg wx g4 x y z) ∧ Hid (Bg wx w.heap.size 0 0 0) ∧ Hid (Bg wx g p q r) ∧ Hid (InS n b w wx))
    case first =>
      go_region_held3 (fun w' => w'.cell? ⟨g, 0, none⟩ = some (.int .i64 p) ∧ w'.cell? ⟨g, 1, none⟩ = some (.int .i64 q) ∧ w'.cell? ⟨g, 2, none⟩ = some (.int .i64 r)) (first | with_reducible exact k5.out | with_reducible exact k4.out | with_reducible exact kW.out | with_reducible exact kW.out.drew | with_reducible exact C3f.of (M.out.alloc _) | with_reducible exact C3f.drew (C3f.of (M.out.alloc _)) | with_reducible exact C3f.of (M4.out.alloc _) | with_reducible exact C3f.drew (C3f.of (M4.out.alloc _)) | with_reducible exact C3f.of (M5.out.alloc _) | with_reducible exact C3f.drew (C3f.of (M5.out.alloc _)) | with_reducible exact C3f.of (M5.out.far _ _ _ (by omega)) | go_keep) (first | (go_at_call 60; (first | ((with_reducible refine (l01Small_any n b _ I.out.src).mono ?_); rintro e w4 ⟨⟨a0, a1, a2, a3, rfl, -⟩, hs4, hg4⟩; have hg4x := Lib.hid hg4; clear hg4) | ((with_reducible refine (l01Small_any n b _ I.out.drew.src).mono ?_); rintro e w4 ⟨⟨a0, a1, a2, a3, rfl, -⟩, hs4, hg4⟩; have hg4x := Lib.hid (undrewG hg4); clear hg4) | ((with_reducible refine (l01Small_any n b _ (I.out.alloc _).src).mono ?_); rintro e w4 ⟨⟨a0, a1, a2, a3, rfl, -⟩, hs4, hg4⟩; have z4 := Lib.hid (zTf I.out hg4); have hg4x := Lib.hid (unallocG hg4); clear hg4) | ((with_reducible refine (l01Small_any n b _ (I.out.alloc _).drew.src).mono ?_); rintro e w4 ⟨⟨a0, a1, a2, a3, rfl, -⟩, hs4, hg4⟩; have z4 := Lib.hid (zTfd I.out hg4); have hg4x := Lib.hid (unallocG (undrewG hg4)); clear hg4)); have I4 := Lib.hid (I.out.turn hs4 hg4x.out); have B4 := Lib.hid (B.out.turn I.out (Nat.le_refl _) hg4x.out); have M4 := Lib.hid (M.out.turn I.out hgl hg4x.out); have k4 := Lib.hid (C3f.of M4.out); have hs4w : W.heap.size ≤ w4.heap.size := hg4x.out.size; clear hs4 hg4x) | (go_at_call 59; refine (l05Apply_wild p q r a0 a1 a2 a3 _).mono ?_; rintro e w5 ⟨⟨x0, x1, x2, rfl⟩, hb5⟩; have T5 := Lib.hid (show Below w4.heap.size w4 w5 by first | with_reducible exact hb5 | with_reducible exact wayAd (Below.refl _ _) (Nat.le_refl _) hb5 | with_reducible exact wayB (Below.refl _ _) (Nat.le_refl _) hb5 | with_reducible exact wayBd (Below.refl _ _) (Nat.le_refl _) hb5); have I5 := Lib.hid (I4.out.below T5.out); have B5 := Lib.hid (B4.out.below T5.out); have M5 := Lib.hid (M4.out.below T5.out); have k5 := Lib.hid (C3f.of M5.out); (first | ((with_reducible have z5 := Lib.hid (z4.out.below T5.out)); have y5 := Blk3.open_ z5.out; obtain ⟨⟨c50, c51, c52⟩, ⟨f50, f51, f52⟩, hl5⟩ := y5) | ((with_reducible have z5 := Lib.hid (zWf hb5)); have y5 := Blk3.open_ z5.out; obtain ⟨⟨c50, c51, c52⟩, ⟨f50, f51, f52⟩, hl5⟩ := y5) | ((with_reducible have z5 := Lib.hid (zWfd hb5)); have y5 := Blk3.open_ z5.out; obtain ⟨⟨c50, c51, c52⟩, ⟨f50, f51, f52⟩, hl5⟩ := y5) | skip); clear hb5))
      all_goals
        have hw4 : w4.heap.size ≤ w5.heap.size := T5.out.size
        have hq1 : w.heap.size ≠ W.heap.size := by omega
        have hq2 : w.heap.size ≠ w4.heap.size := by omega
        have hr1 : w.heap.size ≤ W.heap.size := by omega
        have hr2 : w.heap.size ≤ w4.heap.size := by omega
        have hp1 : g ≠ W.heap.size := by omega
        have hp2 : g ≠ w4.heap.size := by omega
        go_wp2_with fail
        go_meet
        first
          | with_reducible exact ⟨w5.heap.size, x0, x1, x2, rfl, Lib.hid Bg.new, Lib.hid (B5.out.alloc _), Lib.hid (M5.out.alloc _), Lib.hid (I5.out.alloc _)⟩
          | with_reducible exact ⟨W.heap.size, x0, x1, x2, rfl, Lib.hid (z5.out.set x0 x1 x2), Lib.hid (B5.out.far _ _ _ hq1), Lib.hid (M5.out.far _ _ _ hp1), Lib.hid (I5.out.set3 _ _ _ hr1)⟩
          | with_reducible exact ⟨w4.heap.size, x0, x1, x2, rfl, Lib.hid (z5.out.set x0 x1 x2), Lib.hid (B5.out.far _ _ _ hq2), Lib.hid (M5.out.far _ _ _ hp2), Lib.hid (I5.out.set3 _ _ _ hr2)⟩
    case rest =>
      obtain ⟨g4, x, y, z, rfl, N, B', M', I'⟩ := hcut
      clear kW hgl hgw B I M hgW
      obtain ⟨⟨z0, z1, z2⟩, ⟨i0, i1, i2⟩, hlz⟩ := B'.out.open_
      obtain ⟨⟨m0, m1, m2⟩, -, hlm⟩ := M'.out.open_
      obtain ⟨⟨n0, n1, n2⟩, -, hln⟩ := N.out.open_
      go_wp2_with fail
      refine (l05Is_of x y z _).mono ?_; rintro e w6 ⟨⟨k, rfl⟩, hb6⟩
      have B6 := Lib.hid (B'.out.below hb6)
      have M6 := Lib.hid (M'.out.below hb6)
      have N6 := Lib.hid (N.out.below hb6)
      have I6 := Lib.hid (I'.out.below hb6)
      clear z0 z1 z2 i0 i1 i2 hlz m0 m1 m2 hlm n0 n1 n2 hln hb6 B' M' N I'
      obtain ⟨⟨z0, z1, z2⟩, ⟨i0, i1, i2⟩, hlz⟩ := B6.out.open_
      obtain ⟨⟨m0, m1, m2⟩, -, hlm⟩ := M6.out.open_
      obtain ⟨⟨n0, n1, n2⟩, -, hln⟩ := N6.out.open_
      cases k
      · go_wp2_with fail
        refine bodyPost_ret (v := (.agg #[.int .i64 p, .int .i64 q, .int .i64 r])) (by simp [results, Try.results64, go_sem, set3_0 B6.out, set3_1 B6.out, set3_2 B6.out] <;> rfl) rfl ?_
        have IF := I6.out.set3 (.int .i64 p) (.int .i64 q) (.int .i64 r) (Nat.le_refl w.heap.size)
        exact ⟨⟨_, _, _, rfl⟩, IF.src, IF.grown⟩
      · go_wp2_with fail
        refine bodyPost_ret (v := (.agg #[.int .i64 x, .int .i64 y, .int .i64 z])) (by simp [results, Try.results64, go_sem, set3_0 B6.out, set3_1 B6.out, set3_2 B6.out] <;> rfl) rfl ?_
        have IF := I6.out.set3 (.int .i64 x) (.int .i64 y) (.int .i64 z) (Nat.le_refl w.heap.size)
        exact ⟨⟨_, _, _, rfl⟩, IF.src, IF.grown⟩
  have h1' : (z == 1) = false := by simpa using h1
  by_cases h2 : z = 2
  · subst h2
    go_wp2_with fail
    refine (l01Next_any n b 2001 _ (by omega) I.out.src).mono ?_; rintro e w2 ⟨x, rfl, hx, hs, hg⟩
    replace B := Lib.hid (B.out.turn I.out (Nat.le_refl _) hg)
    replace I := Lib.hid (I.out.turn hs hg)
    clear hs hg
    have hx2 : 0 ≤ x ∧ x < 2001 := by omega
    clear hx
    go_wp2_with fail
    refine (l01Next_any n b 2001 _ (by omega) I.out.src).mono ?_; rintro e w3 ⟨y, rfl, hy, hs, hg⟩
    replace B := Lib.hid (B.out.turn I.out (Nat.le_refl _) hg)
    replace I := Lib.hid (I.out.turn hs hg)
    clear hs hg
    have hy2 : 0 ≤ y ∧ y < 2001 := by omega
    clear hy
    go_wp2_with fail
    refine (l01Next_any n b 1000 _ (by omega) I.out.src).mono ?_; rintro e w4 ⟨u, rfl, hu, hs, hg⟩
    replace B := Lib.hid (B.out.turn I.out (Nat.le_refl _) hg)
    replace I := Lib.hid (I.out.turn hs hg)
    clear hs hg
    have hu2 : 0 ≤ u ∧ u < 1000 := by omega
    clear hu
    obtain ⟨⟨d0, d1, d2⟩, ⟨f0, f1, f2⟩, hl3⟩ := B.out.open_
    go_wp2_with fail
    refine bodyPost_ret (v := (.agg #[.int .i64 (x - 1000), .int .i64 (y - 1000), .int .i64 (1 + u)])) (by simp [results, Try.results64, go_sem, set3_0 B.out, set3_1 B.out, set3_2 B.out] <;> rfl) rfl ?_
    have IF := I.out.set3 (.int .i64 (x - 1000)) (.int .i64 (y - 1000)) (.int .i64 (1 + u)) (Nat.le_refl w.heap.size)
    exact ⟨⟨_, _, _, rfl⟩, IF.src, IF.grown⟩
  have h2' : (z == 2) = false := by simpa using h2
  go_wp2_with fail
  refine (l05DrawReduced_any n b _ I.out.src).mono ?_; rintro e w2 ⟨⟨p, q, r, rfl⟩, hs, hg⟩
  replace B := Lib.hid (B.out.turn I.out (Nat.le_refl _) hg)
  replace I := Lib.hid (I.out.turn hs hg)
  clear hs hg
  obtain ⟨⟨d0, d1, d2⟩, ⟨f0, f1, f2⟩, hl3⟩ := B.out.open_
  go_wp2_with fail
  refine bodyPost_ret (v := (.agg #[.int .i64 p, .int .i64 q, .int .i64 r])) (by simp [results, Try.results64, go_sem, set3_0 B.out, set3_1 B.out, set3_2 B.out] <;> rfl) rfl ?_
  have IF := I.out.set3 (.int .i64 p) (.int .i64 q) (.int .i64 r) (Nat.le_refl w.heap.size)
  exact ⟨⟨_, _, _, rfl⟩, IF.src, IF.grown⟩
end Go.Proofs.Ytcaiofhdcffogaa
/- Draws of forms: spoilt ones, and those of the laws' functions. -/
namespace Go.Proofs.Ytcaiofhdcffogaa
open Go.RowKit
set_option maxRecDepth 100000 in
set_option maxHeartbeats 4000000 in
theorem l05Bad_any (n b : Nat) (p q r : Int) (w : World) (hs : Src w n b) :
    Calls Try.prog 61 #[.pointer (some ⟨b, 0, none⟩), (.agg #[.int .i64 p, .int .i64 q, .int .i64 r])] w fun e w' => RetF e ∧ Src w' n b ∧ w.grownBy w' (some b) := by
  have I := Lib.hid (((InS.start hs).alloc (.cells #[(.int .i64 p), (.int .i64 q), (.int .i64 r)] 34)).alloc (.cells #[(.int .i64 0), (.int .i64 0), (.int .i64 0)] 34))
  have B := Lib.hid ((Bg.new (w := w) (p := p) (q := q) (s := r)).alloc (.cells #[(.int .i64 0), (.int .i64 0), (.int .i64 0)] 34))
  have D := Lib.hid (Bg.newE (g := w.heap.size + 1) (w := w.alloc (.cells #[(.int .i64 p), (.int .i64 q), (.int .i64 r)] 34)) (p := 0) (q := 0) (s := 0) (by simp))
  clear hs
  go_enter Try.func61, Try.ntmps61
  have hne : w.heap.size ≠ w.heap.size + 1 := by omega
  go_wp2_with fail
  refine (l01Next_any n b 40 _ (by omega) I.out.src).mono ?_; rintro e w1 ⟨z, rfl, -, hs, hg⟩
  replace B := Lib.hid (B.out.turn I.out (Nat.le_refl _) hg)
  replace D := Lib.hid (D.out.turn I.out (Nat.le_succ _) hg)
  replace I := Lib.hid (I.out.turn hs hg)
  clear hs hg
  by_cases hz0 : z = 0
  · subst hz0
    obtain ⟨⟨d0, d1, d2⟩, ⟨g0, g1, g2⟩, hl4⟩ := D.out.open_
    go_wp2_with fail
    refine bodyPost_ret (v := (.agg #[.int .i64 0, .int .i64 0, .int .i64 0])) (by simp [results, Try.results61, go_sem, set3_0 D.out, set3_1 D.out, set3_2 D.out] <;> rfl) rfl ?_
    have IF := I.out.set3 (.int .i64 0) (.int .i64 0) (.int .i64 0) (Nat.le_succ w.heap.size)
    exact ⟨⟨_, _, _, rfl⟩, IF.src, IF.grown⟩
  have hz0' : (z == 0) = false := by simpa using hz0
  by_cases hz1 : z = 1
  · subst hz1
    go_wp2_with fail
    refine (l01Next_any n b 3 _ (by omega) I.out.src).mono ?_; rintro e w2 ⟨x, rfl, hx, hs, hg⟩
    replace B := Lib.hid (B.out.turn I.out (Nat.le_refl _) hg)
    replace D := Lib.hid (D.out.turn I.out (Nat.le_succ _) hg)
    replace I := Lib.hid (I.out.turn hs hg)
    clear hs hg
    have hx3 : x = 0 ∨ x = 1 ∨ x = 2 := by omega
    clear hx
    go_wp2_with fail
    refine (pick_lit [1000001, -1099511627776, 1000000] rfl I.out.src rfl (by simp) (by simp)).mono ?_; rintro e w3 ⟨y, rfl, -, hs, hg⟩
    replace B := Lib.hid (B.out.turn I.out (Nat.le_refl _) hg)
    replace D := Lib.hid (D.out.turn I.out (Nat.le_succ _) hg)
    replace I := Lib.hid (I.out.turn hs hg)
    clear hs hg
    obtain ⟨⟨c0, c1, c2⟩, ⟨f0, f1, f2⟩, hl3⟩ := B.out.open_
    obtain ⟨⟨d0, d1, d2⟩, ⟨g0, g1, g2⟩, hl4⟩ := D.out.open_
    rcases hx3 with rfl | rfl | rfl
    · have BZ := Lib.hid (show Bg (w3.setCell ⟨w.heap.size, 0, none⟩ (.int .i64 y)) (w.heap.size + 1) 0 0 0 from heap_keep D.out (by omega))
      have I4 := Lib.hid (I.out.set (o := 0) (.int .i64 y) (Nat.le_refl w.heap.size))
      go_wp2_with fail
      refine bodyPost_ret (v := (.agg #[.int .i64 y, .int .i64 q, .int .i64 r])) (by simp [results, Try.results61, go_sem, set3_0 BZ.out, set3_1 BZ.out, set3_2 BZ.out] <;> rfl) rfl ?_
      have IF := I4.out.set3 (.int .i64 y) (.int .i64 q) (.int .i64 r) (Nat.le_succ w.heap.size)
      exact ⟨⟨_, _, _, rfl⟩, IF.src, IF.grown⟩
    · have BZ := Lib.hid (show Bg (w3.setCell ⟨w.heap.size, 1, none⟩ (.int .i64 y)) (w.heap.size + 1) 0 0 0 from heap_keep D.out (by omega))
      have I4 := Lib.hid (I.out.set (o := 1) (.int .i64 y) (Nat.le_refl w.heap.size))
      go_wp2_with fail
      refine bodyPost_ret (v := (.agg #[.int .i64 p, .int .i64 y, .int .i64 r])) (by simp [results, Try.results61, go_sem, set3_0 BZ.out, set3_1 BZ.out, set3_2 BZ.out] <;> rfl) rfl ?_
      have IF := I4.out.set3 (.int .i64 p) (.int .i64 y) (.int .i64 r) (Nat.le_succ w.heap.size)
      exact ⟨⟨_, _, _, rfl⟩, IF.src, IF.grown⟩
    · have BZ := Lib.hid (show Bg (w3.setCell ⟨w.heap.size, 2, none⟩ (.int .i64 y)) (w.heap.size + 1) 0 0 0 from heap_keep D.out (by omega))
      have I4 := Lib.hid (I.out.set (o := 2) (.int .i64 y) (Nat.le_refl w.heap.size))
      go_wp2_with fail
      refine bodyPost_ret (v := (.agg #[.int .i64 p, .int .i64 q, .int .i64 y])) (by simp [results, Try.results61, go_sem, set3_0 BZ.out, set3_1 BZ.out, set3_2 BZ.out] <;> rfl) rfl ?_
      have IF := I4.out.set3 (.int .i64 p) (.int .i64 q) (.int .i64 y) (Nat.le_succ w.heap.size)
      exact ⟨⟨_, _, _, rfl⟩, IF.src, IF.grown⟩
  have hz1' : (z == 1) = false := by simpa using hz1
  obtain ⟨⟨c0, c1, c2⟩, ⟨f0, f1, f2⟩, hl3⟩ := B.out.open_
  obtain ⟨⟨d0, d1, d2⟩, ⟨g0, g1, g2⟩, hl4⟩ := D.out.open_
  go_wp2_with fail
  refine bodyPost_ret (v := (.agg #[.int .i64 p, .int .i64 q, .int .i64 r])) (by simp [results, Try.results61, go_sem, set3_0 D.out, set3_1 D.out, set3_2 D.out] <;> rfl) rfl ?_
  have IF := I.out.set3 (.int .i64 p) (.int .i64 q) (.int .i64 r) (Nat.le_succ w.heap.size)
  exact ⟨⟨_, _, _, rfl⟩, IF.src, IF.grown⟩
end Go.Proofs.Ytcaiofhdcffogaa
/- Draws of forms with matrices and with numbers: regions that draw their order. -/
namespace Go.Proofs.Ytcaiofhdcffogaa
open Go.RowKit
theorem Bm.grownG {r n b : Nat} {w w' : World} {p q s u : Int} (h : Bm w r p q s u) (hi : InS n b w w') (hr : r ≠ b) : Bm w' r p q s u := blk_keep h hi.grown hr
theorem Bg.far4 {r r' : Nat} {w : World} {p q s : Int} (h : Bg w r p q s) (x y z t : Value) (hne : r ≠ r') :
    Bg ((((w.setCell ⟨r', 0, none⟩ x).setCell ⟨r', 1, none⟩ y).setCell ⟨r', 2, none⟩ z).setCell ⟨r', 3, none⟩ t) r p q s :=
  heap_keep (heap_keep (heap_keep (heap_keep h hne) hne) hne) hne
theorem Bm.far3 {r r' : Nat} {w : World} {p q s u : Int} (h : Bm w r p q s u) (x y z : Value) (hne : r ≠ r') :
    Bm (((w.setCell ⟨r', 0, none⟩ x).setCell ⟨r', 1, none⟩ y).setCell ⟨r', 2, none⟩ z) r p q s u :=
  heap_keep (heap_keep (heap_keep h hne) hne) hne
def RetFM (e : Ending) : Prop := ∃ p q r a b c d : Int, e = .returned (.tuple #[(.agg #[.int .i64 p, .int .i64 q, .int .i64 r]), (.agg #[.int .i64 a, .int .i64 b, .int .i64 c, .int .i64 d])])
def RetFII (e : Ending) : Prop := ∃ p q r x y : Int, e = .returned (.tuple #[(.agg #[.int .i64 p, .int .i64 q, .int .i64 r]), (.int .i64 x), (.int .i64 y)])
def RetFI (e : Ending) : Prop := ∃ p q r x : Int, e = .returned (.tuple #[(.agg #[.int .i64 p, .int .i64 q, .int .i64 r]), (.int .i64 x)])
section
variable {n b : Nat} {w0 W : World} {A B : Array Value} {t t' : TypeId} {xs : List Int} {k cap : Nat}
/-- What a pick gives. -/
def Pk (n b : Nat) (W : World) (xs : List Int) (e : Ending) (w' : World) : Prop := ∃ x : Int, e = .returned (.int .i64 x) ∧ x ∈ xs ∧ Src w' n b ∧ W.grownBy w' (some b)
theorem pk0 {g : Nat} (hs : Src W n b) (hne : g ≠ b) (hg : W.heap[g]? = some (.cells A t (0, 0))) (h : A.toList = ints xs) (hk : xs.length = k) (hk0 : 0 < k) (hk1 : k ≤ 1000) :
    Calls Try.prog 67 #[.pointer (some ⟨b, 0, none⟩), .slice (some ⟨g, 0, none⟩) k cap] W (Pk n b W xs) := by
  refine l01Pick_any n b xs g k cap W hk hk0 hk1 hne (lt_of_blk hg) (fun j hj => ?_) hs
  rw [cell_of_blk hg j, ← Array.getElem?_toList, h]
  exact ints_at (by omega)
theorem pk0d {g : Nat} (hs : Src W n b) (hne : g ≠ b) (hg : W.heap[g]? = some (.cells A t (0, 0))) (h : A.toList = ints xs) (hk : xs.length = k) (hk0 : 0 < k) (hk1 : k ≤ 1000) :
    Calls Try.prog 67 #[.pointer (some ⟨b, 0, none⟩), .slice (some ⟨g, 0, none⟩) k cap] W.drew (Pk n b W xs) :=
  (pk0 (W := W.drew) (cap := cap) (hs.keep ((Below.refl _ W).drew)) hne hg h hk hk0 hk1).mono fun _ _ ⟨x, h1, h2, h3, h4⟩ => ⟨x, h1, h2, h3, undrewG h4⟩
theorem pk1 (hs : Src W n b) (h : A.toList = ints xs) (hk : xs.length = k) (hk0 : 0 < k) (hk1 : k ≤ 1000) :
    Calls Try.prog 67 #[.pointer (some ⟨b, 0, none⟩), .slice (some ⟨W.heap.size, 0, none⟩) k cap] (W.alloc (.cells A t)) (Pk n b W xs) := by
  have hl := hs.lt
  exact (pk0 (W := W.alloc (.cells A t)) (cap := cap) (hs.keep ((Below.refl _ W).alloc (Nat.le_refl _) _)) (by omega) heap_new h hk hk0 hk1).mono fun _ _ ⟨x, h1, h2, h3, h4⟩ => ⟨x, h1, h2, h3, unallocG h4⟩
theorem pk1d (hs : Src W n b) (h : A.toList = ints xs) (hk : xs.length = k) (hk0 : 0 < k) (hk1 : k ≤ 1000) :
    Calls Try.prog 67 #[.pointer (some ⟨b, 0, none⟩), .slice (some ⟨W.heap.size, 0, none⟩) k cap] (W.alloc (.cells A t)).drew (Pk n b W xs) := by
  have hl := hs.lt
  exact (pk0d (W := W.alloc (.cells A t)) (cap := cap) (hs.keep ((Below.refl _ W).alloc (Nat.le_refl _) _)) (by omega) heap_new h hk hk0 hk1).mono fun _ _ ⟨x, h1, h2, h3, h4⟩ => ⟨x, h1, h2, h3, unallocG h4⟩
/-- The other list, B, is there already, in the block g. -/
def PkB (n b : Nat) (W : World) (xs : List Int) (g : Nat) (B : Array Value) (t : TypeId) (e : Ending) (w' : World) : Prop := ∃ x : Int, e = .returned (.int .i64 x) ∧ x ∈ xs ∧ Src w' n b ∧ W.grownBy w' (some b) ∧ w'.heap[g]? = some (.cells B t (0, 0))
theorem pk2 (hs : Src W n b) (h : A.toList = ints xs) (hk : xs.length = k) (hk0 : 0 < k) (hk1 : k ≤ 1000) :
    Calls Try.prog 67 #[.pointer (some ⟨b, 0, none⟩), .slice (some ⟨W.heap.size, 0, none⟩) k cap] ((W.alloc (.cells A t)).alloc (.cells B t')) (PkB n b W xs (W.heap.size + 1) B t') := by
  have hl := hs.lt
  have hB : ((W.alloc (.cells A t)).alloc (.cells B t')).heap[W.heap.size + 1]? = some (.cells B t' (0, 0)) := heap_new' (by simp)
  exact (pk0 (W := (W.alloc (.cells A t)).alloc (.cells B t')) (cap := cap) (hs.keep (((Below.refl _ W).alloc (Nat.le_refl _) _).alloc (by simp) _)) (by omega) (heap_alloc heap_new) h hk hk0 hk1).mono fun _ _ ⟨x, h1, h2, h3, h4⟩ => ⟨x, h1, h2, h3, unallocG (unallocG h4), blk_keep hB h4 (by omega)⟩
theorem pk2d (hs : Src W n b) (h : A.toList = ints xs) (hk : xs.length = k) (hk0 : 0 < k) (hk1 : k ≤ 1000) :
    Calls Try.prog 67 #[.pointer (some ⟨b, 0, none⟩), .slice (some ⟨W.heap.size, 0, none⟩) k cap] ((W.alloc (.cells A t)).alloc (.cells B t')).drew (PkB n b W xs (W.heap.size + 1) B t') := by
  have hl := hs.lt
  have hB : ((W.alloc (.cells A t)).alloc (.cells B t')).heap[W.heap.size + 1]? = some (.cells B t' (0, 0)) := heap_new' (by simp)
  exact (pk0d (W := (W.alloc (.cells A t)).alloc (.cells B t')) (cap := cap) (hs.keep (((Below.refl _ W).alloc (Nat.le_refl _) _).alloc (by simp) _)) (by omega) (heap_alloc heap_new) h hk hk0 hk1).mono fun _ _ ⟨x, h1, h2, h3, h4⟩ => ⟨x, h1, h2, h3, unallocG (unallocG h4), blk_keep hB h4 (by omega)⟩
theorem pk3 (hs : Src W n b) (h : A.toList = ints xs) (hk : xs.length = k) (hk0 : 0 < k) (hk1 : k ≤ 1000) :
    Calls Try.prog 67 #[.pointer (some ⟨b, 0, none⟩), .slice (some ⟨W.heap.size + 1, 0, none⟩) k cap] ((W.alloc (.cells B t')).alloc (.cells A t)) (PkB n b W xs W.heap.size B t') := by
  have hl := hs.lt
  have hB : ((W.alloc (.cells B t')).alloc (.cells A t)).heap[W.heap.size]? = some (.cells B t' (0, 0)) := heap_alloc heap_new
  exact (pk0 (W := (W.alloc (.cells B t')).alloc (.cells A t)) (cap := cap) (hs.keep (((Below.refl _ W).alloc (Nat.le_refl _) _).alloc (by simp) _)) (by omega) (heap_new' (by simp)) h hk hk0 hk1).mono fun _ _ ⟨x, h1, h2, h3, h4⟩ => ⟨x, h1, h2, h3, unallocG (unallocG h4), blk_keep hB h4 (by omega)⟩
theorem pk3d (hs : Src W n b) (h : A.toList = ints xs) (hk : xs.length = k) (hk0 : 0 < k) (hk1 : k ≤ 1000) :
    Calls Try.prog 67 #[.pointer (some ⟨b, 0, none⟩), .slice (some ⟨W.heap.size + 1, 0, none⟩) k cap] ((W.alloc (.cells B t')).alloc (.cells A t)).drew (PkB n b W xs W.heap.size B t') := by
  have hl := hs.lt
  have hB : ((W.alloc (.cells B t')).alloc (.cells A t)).heap[W.heap.size]? = some (.cells B t' (0, 0)) := heap_alloc heap_new
  exact (pk0d (W := (W.alloc (.cells B t')).alloc (.cells A t)) (cap := cap) (hs.keep (((Below.refl _ W).alloc (Nat.le_refl _) _).alloc (by simp) _)) (by omega) (heap_new' (by simp)) h hk hk0 hk1).mono fun _ _ ⟨x, h1, h2, h3, h4⟩ => ⟨x, h1, h2, h3, unallocG (unallocG h4), blk_keep hB h4 (by omega)⟩
end
end Go.Proofs.Ytcaiofhdcffogaa
