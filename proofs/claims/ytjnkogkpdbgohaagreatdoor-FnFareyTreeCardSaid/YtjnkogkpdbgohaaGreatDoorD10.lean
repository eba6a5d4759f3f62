/- Draws of matrices: what is known of blocks; the matrices with names, inverses, products. -/
import Derived.Test.YtjnkogkpdbgohaaGreatDoorDa
import Derived.Test.YtjnkogkpdbgohaaGreatDoorC38T
namespace Go.Proofs.YtjnkogkpdbgohaaGreatDoor
open Go.RowKit
/-- Small entries. -/
structure EM (p q r s : Int) : Prop where
  p : -1000000000 ≤ p ∧ p ≤ 1000000000
  q : -1000000000 ≤ q ∧ q ≤ 1000000000
  r : -1000000000 ≤ r ∧ r ≤ 1000000000
  s : -1000000000 ≤ s ∧ s ≤ 1000000000
theorem EM.e24 {p q r s : Int} (h : EM p q r s) : E24 p q r s := by
  obtain ⟨⟨a0, a1⟩, ⟨b0, b1⟩, ⟨c0, c1⟩, ⟨d0, d1⟩⟩ := h
  exact ⟨⟨by omega, by omega⟩, ⟨by omega, by omega⟩, ⟨by omega, by omega⟩, ⟨by omega, by omega⟩⟩
theorem EM.of {m : M4} (h : entQ m = true) : EM m.p m.q m.r m.s := by
  obtain ⟨h1, h2, h3, h4⟩ := entM_iff.1 h
  exact ⟨h1, h2, h3, h4⟩
theorem EM.inv {p q r s : Int} (h : EM p q r s) : EM s (-q) (-r) p := by
  obtain ⟨⟨a0, a1⟩, ⟨b0, b1⟩, ⟨c0, c1⟩, ⟨d0, d1⟩⟩ := h
  exact ⟨⟨by omega, by omega⟩, ⟨by omega, by omega⟩, ⟨by omega, by omega⟩, ⟨by omega, by omega⟩⟩
theorem EM.zero : EM 0 0 0 0 := ⟨by omega, by omega, by omega, by omega⟩
theorem EM.one : EM 1 0 0 1 := ⟨by omega, by omega, by omega, by omega⟩
/-- A matrix in a block of the call's own. -/
abbrev Bm (w : World) (r : Nat) (p q s u : Int) : Prop := Blk4 w r 94 p q s u
theorem Bm.turn {n b r : Nat} {w0 w w' : World} {p q s u : Int} (h : Bm w r p q s u) (hi : InS n b w0 w) (hr : w0.heap.size ≤ r) (hg : w.grownBy w' (some b)) : Bm w' r p q s u :=
  blk_keep h hg (by have := hi.old; omega)
theorem Bm.below {r : Nat} {w w' : World} {p q s u : Int} (h : Bm w r p q s u) (hb : Below w.heap.size w w') : Bm w' r p q s u := heap_below h hb
theorem Bm.alloc {r : Nat} {w : World} {p q s u : Int} (h : Bm w r p q s u) (o : Obj) : Bm (w.alloc o) r p q s u := heap_alloc h
theorem Bm.new {w : World} {p q s u : Int} : Bm (w.alloc (.cells #[(.int .i64 p), (.int .i64 q), (.int .i64 s), (.int .i64 u)] 94)) w.heap.size p q s u := heap_new
theorem Bm.newE {w : World} {g : Nat} {p q s u : Int} (h : g = w.heap.size) : Bm (w.alloc (.cells #[(.int .i64 p), (.int .i64 q), (.int .i64 s), (.int .i64 u)] 94)) g p q s u := heap_new' h
theorem Bm.set {r : Nat} {w : World} {p q s u : Int} (h : Bm w r p q s u) (x y z t : Int) : Bm ((((w.setCell ⟨r, 0, none⟩ (.int .i64 x)).setCell ⟨r, 1, none⟩ (.int .i64 y)).setCell ⟨r, 2, none⟩ (.int .i64 z)).setCell ⟨r, 3, none⟩ (.int .i64 t)) r x y z t := heap_set4 h
theorem Bm.far {r r' : Nat} {w : World} {p q s u : Int} (h : Bm w r p q s u) (x y z t : Value) (hne : r ≠ r') :
    Bm ((((w.setCell ⟨r', 0, none⟩ x).setCell ⟨r', 1, none⟩ y).setCell ⟨r', 2, none⟩ z).setCell ⟨r', 3, none⟩ t) r p q s u :=
  heap_keep (heap_keep (heap_keep (heap_keep h hne) hne) hne) hne
theorem Bm.lt {r : Nat} {w : World} {p q s u : Int} (h : Bm w r p q s u) : r < w.heap.size := lt_of_blk h
theorem below_set4 {B : Nat} {w0 w : World} {r : Nat} {x y z t : Value} (h : Below B w0 w) (hr : B ≤ r) : Below B w0 ((((w.setCell ⟨r, 0, none⟩ x).setCell ⟨r, 1, none⟩ y).setCell ⟨r, 2, none⟩ z).setCell ⟨r, 3, none⟩ t) :=
  (((h.setCell (p := ⟨r, 0, none⟩) hr x).setCell (p := ⟨r, 1, none⟩) hr y).setCell (p := ⟨r, 2, none⟩) hr z).setCell (p := ⟨r, 3, none⟩) hr t
theorem below_set4a {B : Nat} {w0 w : World} {r : Nat} {x y z t : Value} {o : Obj} (h : Below B w0 w) (hr : B ≤ r) (hB : B ≤ w.heap.size) : Below B w0 (((((w.setCell ⟨r, 0, none⟩ x).setCell ⟨r, 1, none⟩ y).setCell ⟨r, 2, none⟩ z).setCell ⟨r, 3, none⟩ t).alloc o) :=
  (below_set4 h hr).alloc (by simpa using hB) o
/-- The last four cells stored, read back. -/
theorem set4_0 {w : World} {r : Nat} {p q s u : Int} {x y z t : Int} (h : Bm w r p q s u) : ((((w.setCell ⟨r, 0, none⟩ (.int .i64 x)).setCell ⟨r, 1, none⟩ (.int .i64 y)).setCell ⟨r, 2, none⟩ (.int .i64 z)).setCell ⟨r, 3, none⟩ (.int .i64 t)).cell? ⟨r, 0, none⟩ = some (.int .i64 x) := (Blk4.open_ (heap_set4 h)).1.1
theorem set4_1 {w : World} {r : Nat} {p q s u : Int} {x y z t : Int} (h : Bm w r p q s u) : ((((w.setCell ⟨r, 0, none⟩ (.int .i64 x)).setCell ⟨r, 1, none⟩ (.int .i64 y)).setCell ⟨r, 2, none⟩ (.int .i64 z)).setCell ⟨r, 3, none⟩ (.int .i64 t)).cell? ⟨r, 1, none⟩ = some (.int .i64 y) := (Blk4.open_ (heap_set4 h)).1.2.1
theorem set4_2 {w : World} {r : Nat} {p q s u : Int} {x y z t : Int} (h : Bm w r p q s u) : ((((w.setCell ⟨r, 0, none⟩ (.int .i64 x)).setCell ⟨r, 1, none⟩ (.int .i64 y)).setCell ⟨r, 2, none⟩ (.int .i64 z)).setCell ⟨r, 3, none⟩ (.int .i64 t)).cell? ⟨r, 2, none⟩ = some (.int .i64 z) := (Blk4.open_ (heap_set4 h)).1.2.2.1
theorem set4_3 {w : World} {r : Nat} {p q s u : Int} {x y z t : Int} (h : Bm w r p q s u) : ((((w.setCell ⟨r, 0, none⟩ (.int .i64 x)).setCell ⟨r, 1, none⟩ (.int .i64 y)).setCell ⟨r, 2, none⟩ (.int .i64 z)).setCell ⟨r, 3, none⟩ (.int .i64 t)).cell? ⟨r, 3, none⟩ = some (.int .i64 t) := (Blk4.open_ (heap_set4 h)).1.2.2.2
theorem set4a_0 {w : World} {r : Nat} {o : Obj} {p q s u : Int} {x y z t : Int} (h : Bm w r p q s u) : (((((w.setCell ⟨r, 0, none⟩ (.int .i64 x)).setCell ⟨r, 1, none⟩ (.int .i64 y)).setCell ⟨r, 2, none⟩ (.int .i64 z)).setCell ⟨r, 3, none⟩ (.int .i64 t)).alloc o).cell? ⟨r, 0, none⟩ = some (.int .i64 x) := (Blk4.open_ (heap_alloc (p := o) (heap_set4 h))).1.1
theorem set4a_1 {w : World} {r : Nat} {o : Obj} {p q s u : Int} {x y z t : Int} (h : Bm w r p q s u) : (((((w.setCell ⟨r, 0, none⟩ (.int .i64 x)).setCell ⟨r, 1, none⟩ (.int .i64 y)).setCell ⟨r, 2, none⟩ (.int .i64 z)).setCell ⟨r, 3, none⟩ (.int .i64 t)).alloc o).cell? ⟨r, 1, none⟩ = some (.int .i64 y) := (Blk4.open_ (heap_alloc (p := o) (heap_set4 h))).1.2.1
theorem set4a_2 {w : World} {r : Nat} {o : Obj} {p q s u : Int} {x y z t : Int} (h : Bm w r p q s u) : (((((w.setCell ⟨r, 0, none⟩ (.int .i64 x)).setCell ⟨r, 1, none⟩ (.int .i64 y)).setCell ⟨r, 2, none⟩ (.int .i64 z)).setCell ⟨r, 3, none⟩ (.int .i64 t)).alloc o).cell? ⟨r, 2, none⟩ = some (.int .i64 z) := (Blk4.open_ (heap_alloc (p := o) (heap_set4 h))).1.2.2.1
theorem set4a_3 {w : World} {r : Nat} {o : Obj} {p q s u : Int} {x y z t : Int} (h : Bm w r p q s u) : (((((w.setCell ⟨r, 0, none⟩ (.int .i64 x)).setCell ⟨r, 1, none⟩ (.int .i64 y)).setCell ⟨r, 2, none⟩ (.int .i64 z)).setCell ⟨r, 3, none⟩ (.int .i64 t)).alloc o).cell? ⟨r, 3, none⟩ = some (.int .i64 t) := (Blk4.open_ (heap_alloc (p := o) (heap_set4 h))).1.2.2.2
/-- One of the four names. -/
def IsName (s : ByteArray) : Prop := s = ⟨#[83]⟩ ∨ s = ⟨#[84]⟩ ∨ s = ⟨#[76]⟩ ∨ s = ⟨#[85]⟩
theorem l01Times_em (p q r s p' q' r' s' : Int) (w : World) (h : EM p q r s) (h' : EM p' q' r' s') :
    Calls Tryz.prog 110 #[(.agg #[.int .i64 p, .int .i64 q, .int .i64 r, .int .i64 s]), (.agg #[.int .i64 p', .int .i64 q', .int .i64 r', .int .i64 s'])] w fun e w' => (∃ (x y z u : Int) (k : Bool), e = .returned (.tuple #[(.agg #[.int .i64 x, .int .i64 y, .int .i64 z, .int .i64 u]), .bool k]) ∧ EM x y z u) ∧ Below w.heap.size w w' := by
  cases he : entQ (mulM ⟨p, q, r, s⟩ ⟨p', q', r', s'⟩)
  · refine (l01Times_no ⟨p, q, r, s⟩ ⟨p', q', r', s'⟩ w h.e24 h'.e24 he).mono ?_
    rintro e w' ⟨rfl, hb⟩
    exact ⟨⟨_, _, _, _, _, rfl, EM.zero⟩, hb⟩
  · refine (l01Times_yes ⟨p, q, r, s⟩ ⟨p', q', r', s'⟩ w h.e24 h'.e24 he).mono ?_
    rintro e w' ⟨rfl, hb⟩
    exact ⟨⟨_, _, _, _, _, rfl, EM.of he⟩, hb⟩
theorem l01Inverse_any (a b c d : Int) (w : World) (h : EM a b c d) :
    Calls Tryz.prog 91 #[(.agg #[.int .i64 a, .int .i64 b, .int .i64 c, .int .i64 d])] w fun e w' => e = .returned (.agg #[.int .i64 d, .int .i64 (-b), .int .i64 (-c), .int .i64 a]) ∧ Below w.heap.size w w' := by
  obtain ⟨⟨a0, a1⟩, ⟨b0, b1⟩, ⟨c0, c1⟩, ⟨d0, d1⟩⟩ := h
  go_enter Tryz.func91, Tryz.ntmps91
  go_wp2
  go_returns
  exact ⟨rfl, by go_grown⟩
theorem l01Neg_em (a b c d : Int) (w : World) (h : EM a b c d) :
    Calls Tryz.prog 94 #[(.agg #[.int .i64 a, .int .i64 b, .int .i64 c, .int .i64 d])] w fun e w' => e = .returned (.agg #[.int .i64 (-a), .int .i64 (-b), .int .i64 (-c), .int .i64 (-d)]) ∧ Below w.heap.size w w' := by
  obtain ⟨⟨a0, a1⟩, ⟨b0, b1⟩, ⟨c0, c1⟩, ⟨d0, d1⟩⟩ := h
  go_enter Tryz.func94, Tryz.ntmps94
  go_wp2
  go_returns
  exact ⟨rfl, by go_grown⟩
set_option maxRecDepth 100000 in
theorem l01Named_any (s : ByteArray) (w : World) (h : IsName s) :
    Calls Tryz.prog 109 #[.string s] w fun e w' => (∃ p q r u : Int, e = .returned (.tuple #[(.agg #[.int .i64 p, .int .i64 q, .int .i64 r, .int .i64 u]), .bool true]) ∧ IsMat p q r u) ∧ Below w.heap.size w w' := by
  rcases h with rfl | rfl | rfl | rfl
  · go_enter Tryz.func109, Tryz.ntmps109
    go_wp2
    exact bodyPost_ret (v := .tuple #[(.agg #[.int .i64 0, .int .i64 (-1), .int .i64 1, .int .i64 0]), .bool true]) (by simp [results, Tryz.results109, go_sem]) rfl ⟨⟨_, _, _, _, rfl, by constructor <;> omega⟩, by go_grown⟩
  · go_enter Tryz.func109, Tryz.ntmps109
    go_wp2
    exact bodyPost_ret (v := .tuple #[(.agg #[.int .i64 1, .int .i64 1, .int .i64 0, .int .i64 1]), .bool true]) (by simp [results, Tryz.results109, go_sem]) rfl ⟨⟨_, _, _, _, rfl, by constructor <;> omega⟩, by go_grown⟩
  · go_enter Tryz.func109, Tryz.ntmps109
    go_wp2
    exact bodyPost_ret (v := .tuple #[(.agg #[.int .i64 1, .int .i64 0, .int .i64 1, .int .i64 1]), .bool true]) (by simp [results, Tryz.results109, go_sem]) rfl ⟨⟨_, _, _, _, rfl, by constructor <;> omega⟩, by go_grown⟩
  · go_enter Tryz.func109, Tryz.ntmps109
    go_wp2
    exact bodyPost_ret (v := .tuple #[(.agg #[.int .i64 1, .int .i64 (-1), .int .i64 1, .int .i64 0]), .bool true]) (by simp [results, Tryz.results109, go_sem]) rfl ⟨⟨_, _, _, _, rfl, by constructor <;> omega⟩, by go_grown⟩
end Go.Proofs.YtjnkogkpdbgohaaGreatDoor
