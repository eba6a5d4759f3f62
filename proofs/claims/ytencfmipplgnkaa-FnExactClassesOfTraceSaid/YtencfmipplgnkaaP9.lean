/- Contracts: slices.SortFunc at matrices. -/
import Derived.Test.YtencfmipplgnkaaP8
import Derived.Test.YtencfmipplgnkaaM20
import Derived.Test.YtencfmipplgnkaaBox
import Derived.Test.YtencfmipplgnkaaShM
import Derived.Shelf.SlSortCmp.QuietGrown
namespace Go.Proofs.Ytencfmipplgnkaa
open Go.Sort Go.RowKit Go.Lib
theorem blk_at4 {w : World} {b : Nat} {t : TypeId} {m : Q4} (h : Blk4 w b t m.a m.b m.c m.d) : ∀ k, k < 4 → w.cell? ⟨b, k, none⟩ = some (.int .i64 (at4 m k)) := by
  obtain ⟨⟨c0, c1, c2, c3⟩, -, -⟩ := h.open_
  intro k hk
  rcases (show k = 0 ∨ k = 1 ∨ k = 2 ∨ k = 3 by omega) with rfl | rfl | rfl | rfl <;> assumption
set_option maxHeartbeats 1000000 in
theorem compareMat_any (m n : Q4) (w : World) :
    Calls Try.prog 81 #[(.agg #[.int .i64 m.a, .int .i64 m.b, .int .i64 m.c, .int .i64 m.d]), (.agg #[.int .i64 n.a, .int .i64 n.b, .int .i64 n.c, .int .i64 n.d])] w fun e w' => e = .returned (.int .i64 (cmpQ m n)) ∧ ∃ q os, w' = grow (w.drewN q) os := by
  have hc : ∀ N OS, Calls Try.prog 128 #[.slice (some ⟨w.heap.size, 0, none⟩) 4 4, .slice (some ⟨w.heap.size + 1, 0, none⟩) 4 4] (grow (((w.alloc (.cells #[(.int .i64 m.a), (.int .i64 m.b), (.int .i64 m.c), (.int .i64 m.d)] 40)).alloc (.cells #[(.int .i64 n.a), (.int .i64 n.b), (.int .i64 n.c), (.int .i64 n.d)] 40)).drewN N) OS) fun e w' => e = .returned (.int .i64 (cmpQ m n)) ∧ (grow (((w.alloc (.cells #[(.int .i64 m.a), (.int .i64 m.b), (.int .i64 m.c), (.int .i64 m.d)] 40)).alloc (.cells #[(.int .i64 n.a), (.int .i64 n.b), (.int .i64 n.c), (.int .i64 n.d)] 40)).drewN N) OS) = w' := by
    intro N OS
    refine compare4_any _ _ _ _ m n _ (fun k hk => ?_) (fun k hk => ?_)
    · exact cell_grown (by simp; try omega) (blk_at4 (show Blk4 ((w.alloc (.cells #[(.int .i64 m.a), (.int .i64 m.b), (.int .i64 m.c), (.int .i64 m.d)] 40)).alloc (.cells #[(.int .i64 n.a), (.int .i64 n.b), (.int .i64 n.c), (.int .i64 n.d)] 40)) w.heap.size 40 m.a m.b m.c m.d from heap_alloc heap_new) k hk) N OS
    · exact cell_grown (by simp; try omega) (blk_at4 (show Blk4 ((w.alloc (.cells #[(.int .i64 m.a), (.int .i64 m.b), (.int .i64 m.c), (.int .i64 m.d)] 40)).alloc (.cells #[(.int .i64 n.a), (.int .i64 n.b), (.int .i64 n.c), (.int .i64 n.d)] 40)) (w.heap.size + 1) 40 n.a n.b n.c n.d from heap_new' (by simp)) k hk) N OS
  have HC := Lib.hid hc
  clear hc
  go_enter Try.func81, Try.ntmps81
  go_wp2_with fail
  refine wp_region_quiet_grown (by kernel_rfl) (by kernel_rfl) ?_
  repeat (quiet_step ((go_at_call 128; refine (HC.out _ _).mono ?_; rintro e w' ⟨rfl, rfl⟩; exact ⟨rfl, ⟨⟨_, _⟩, rfl⟩⟩)))
  refine wpQuiet_nil ?_
  intro W hw'
  obtain ⟨⟨nq, osq⟩, hw''⟩ := hw'
  subst hw''
  go_wp2_with fail
  go_ret
  refine ⟨rfl, nq, #[.cells #[(.int .i64 m.a), (.int .i64 m.b), (.int .i64 m.c), (.int .i64 m.d)] 40] ++ #[.cells #[(.int .i64 n.a), (.int .i64 n.b), (.int .i64 n.c), (.int .i64 n.d)] 40] ++ osq, ?_⟩
  rw [alloc_eq_grow, alloc_eq_grow, grow_grow, show (grow w (#[.cells #[(.int .i64 m.a), (.int .i64 m.b), (.int .i64 m.c), (.int .i64 m.d)] 40] ++ #[.cells #[(.int .i64 n.a), (.int .i64 n.b), (.int .i64 n.c), (.int .i64 n.d)] 40])).drewN nq = grow (w.drewN nq) (#[.cells #[(.int .i64 m.a), (.int .i64 m.b), (.int .i64 m.c), (.int .i64 m.d)] 40] ++ #[.cells #[(.int .i64 n.a), (.int .i64 n.b), (.int .i64 n.c), (.int .i64 n.d)] 40]) from rfl, grow_grow]
instance : Inhabited Q4 := ⟨⟨0, 0, 0, 0⟩⟩
def encQ (t : Q4) : List Value := [(.int .i64 t.a), (.int .i64 t.b), (.int .i64 t.c), (.int .i64 t.d)]
theorem cmpLaysQ (blk off size : Nat) (w : World) : CmpLays Try.prog 81 #[] encQ 4 cmpQ blk off size w :=
  fun _ _ _ _ x y => compareMat_any x y _
theorem ltQc (a b : Q4) : ltOf cmpQ a b = decide (cmpQ a b < 0) := rfl
theorem cmpQ_neg (a b : Q4) : cmpQ a b < 0 ↔ (a.a < b.a ∨ (a.a = b.a ∧ (a.b < b.b ∨ (a.b = b.b ∧ (a.c < b.c ∨ (a.c = b.c ∧ a.d < b.d)))))) := by
  unfold cmpQ cmpI
  (repeat' split) <;> omega
theorem swoQ : SWO (ltOf cmpQ) where
  irrefl a := by rw [ltQc, decide_eq_false_iff_not, cmpQ_neg]; omega
  trans a b c h1 h2 := by rw [ltQc, decide_eq_true_eq, cmpQ_neg] at *; omega
  ntrans a b c h1 h2 := by rw [ltQc, decide_eq_false_iff_not, cmpQ_neg] at *; omega
theorem partQ (a b : Q4) (h1 : ltOf cmpQ a b = false) (h2 : ltOf cmpQ b a = false) : a = b := by
  rw [ltQc, decide_eq_false_iff_not, cmpQ_neg] at h1 h2
  exact Q4.same (by omega) (by omega) (by omega) (by omega)
theorem flat_encQ (l : List Q4) : ints (flat4 l) = l.flatMap encQ := by
  induction l with
  | nil => rfl
  | cons q l ih => rw [List.flatMap_cons, ← ih]; simp [flat4, ints, encQ]
/-- The sorted list. -/
def sortQ (l : List Q4) : List Q4 := l.mergeSort fun x y => !(ltOf cmpQ) y x
theorem sortQ_perm (l : List Q4) : (sortQ l).Perm l := List.mergeSort_perm _ _
theorem sortQ_le (l : List Q4) : (sortQ l).Pairwise fun m n => cmpQ m n ≤ 0 := by
  have h := List.pairwise_mergeSort (le := fun x y => !(ltOf cmpQ) y x) (fun a b c h1 h2 => by
    simp only [Bool.not_eq_true'] at *
    rw [ltQc, decide_eq_false_iff_not, cmpQ_neg] at *; omega) (fun a b => by
    simp only [Bool.or_eq_true, Bool.not_eq_true']
    rw [ltQc, ltQc, decide_eq_false_iff_not, decide_eq_false_iff_not, cmpQ_neg, cmpQ_neg]; omega) l
  refine h.imp ?_
  intro a b hab
  simp only [Bool.not_eq_true'] at hab
  rw [ltQc, decide_eq_false_iff_not, cmpQ_neg] at hab
  have := cmpQ_neg a b
  unfold cmpQ cmpI at *
  (repeat' split at *) <;> omega
theorem sortM_any (g cap n : Nat) (l : List Q4) (w : World) (hn : l.length = n) (n0 : 0 < n) (n1 : n ≤ 1000000) {B : Nat} (h : w.ownsRow B 40 4 (.slice (some ⟨g, 0, none⟩) n cap) n (ints (flat4 l))) :
    Calls Try.prog 80 #[.slice (some ⟨g, 0, none⟩) n cap, .func (.func 81) #[] #[]] w fun e w' =>
      e = .returned (.tuple #[]) ∧ w'.ownsRow B 40 4 (.slice (some ⟨g, 0, none⟩) n cap) n (ints (flat4 (sortQ l))) ∧ w.grownBy w' (some g) := by
  subst hn
  have hd : l.toArray.size = l.length := by simp
  have hk : ∀ x, (encQ x).length = 4 := fun _ => rfl
  rw [flat_encQ] at h
  have h' : w.ownsRow B 40 4 (.slice (some ⟨g, 0, none⟩) l.toArray.size cap) l.toArray.size (l.toArray.toList.flatMap encQ) := by simpa using h
  have eg : ∀ args w, (callFunc 81 args).run Try.prog w = .ok (.enter 81 args) w := enters_of Try.func81 (by kernel_rfl) rfl
  have hcon := AnyQ.slices_SortFunc_total sh_laysSF 4 Try.isAgg40 Try.sizeOf40 encQ hk (fun x v hv => by simp [encQ] at hv; rcases hv with rfl | rfl | rfl | rfl <;> rfl) cmpQ swoQ 81 #[] g 0 cap l.toArray w eg (cmpLaysQ g 0 l.toArray.size w) (own_holdsK hk (by omega) (by rw [hd]; exact n0) h') (own_lt h rfl) (by rw [hd]; omega) partQ
  rw [hd] at hcon
  refine hcon.mono ?_
  rintro e w' ⟨rfl, n, os, rfl⟩
  have hs : (l.mergeSort fun x y => !(ltOf cmpQ) y x).toArray.size = l.length := by simp
  have := own_sortedK (enc := encQ) hk (by omega) (m := n) (os := os) hs h
  rw [flat_encQ]
  refine ⟨rfl, ?_, grown_sortedK⟩
  simpa [sortQ] using this
end Go.Proofs.Ytencfmipplgnkaa
