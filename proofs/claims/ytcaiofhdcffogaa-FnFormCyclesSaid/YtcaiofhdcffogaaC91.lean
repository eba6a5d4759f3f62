/- The law FormsOf. -/
import Derived.Test.YtcaiofhdcffogaaC91A
import Derived.Test.YtcaiofhdcffogaaR2
namespace Go.Proofs.Ytcaiofhdcffogaa
open Go.RowKit
theorem told_nz {d : Int} (h : toldB d = true) : d ≠ 0 := fun e => by
  subst e
  revert h
  decide +kernel
theorem FormsOf_any (d : Int) (w : World) :
    Calls Try.prog 8 #[(.int .i64 d)] w fun e w' => ∃ v, e = .returned (.tuple #[v, (.int .i64 ((formsRes d).2))]) ∧ w'.ownsRow w.heap.size 34 3 v (formsRes d).1.length (ints (flatF (formsRes d).1)) ∧ Below w.heap.size w w' := by
  have HD := Lib.hid (fun W => isDisc_any d W)
  cases ht : toldB d
  · rw [show formsRes d = ([], 2) by simp [formsRes, ht]]
    rw [ht] at HD
    go_enter Try.func8, Try.ntmps8
    go_wp2_with fail
    refine (HD.out _).mono ?_; rintro e w' ⟨rfl, rfl⟩
    go_wp2_with fail
    go_ret2
    exact ⟨_, rfl, World.ownsRow_nil _ _ _ _, Below.refl _ _⟩
  · rw [show formsRes d = (fall d 101, 0) by simp [formsRes, ht]]
    have HF := Lib.hid (fun W => formsOf_any d W (told_bd ht))
    rw [ht] at HD
    go_enter Try.func8, Try.ntmps8
    go_wp2_with fail
    refine (HD.out _).mono ?_; rintro e w' ⟨rfl, rfl⟩
    go_wp2_with fail
    refine (HF.out _).mono ?_; rintro e w1 ⟨v1, rfl, ho1, hb1⟩
    have HO1 := Lib.hid ho1
    clear ho1
    go_wp2_with fail
    go_ret2
    exact ⟨_, rfl, HO1.out, hb1⟩
theorem sFormsOf_any (d : Int) (w : World) :
    Calls Try.prog 9 #[(.int .i64 d)] w fun e w' => ∃ v, e = .returned (.tuple #[v, (.int .i64 ((formsRes d).2))]) ∧ w'.ownsRow w.heap.size 34 3 v (formsRes d).1.length (ints (flatF (formsRes d).1)) ∧ Below w.heap.size w w' := by
  have HD := Lib.hid (fun W => l05Told_any d W)
  cases ht : toldB d
  · rw [show formsRes d = ([], 2) by simp [formsRes, ht]]
    rw [ht] at HD
    go_enter Try.func9, Try.ntmps9
    go_wp2_with fail
    refine (HD.out _).mono ?_; rintro e w' ⟨rfl, rfl⟩
    go_wp2_with fail
    go_ret2
    exact ⟨_, rfl, World.ownsRow_nil _ _ _ _, Below.refl _ _⟩
  · rw [show formsRes d = (fall d 101, 0) by simp [formsRes, ht]]
    have HF := Lib.hid (fun W => l05All_any d W (told_bd ht) (told_nz ht))
    rw [ht] at HD
    go_enter Try.func9, Try.ntmps9
    go_wp2_with fail
    refine (HD.out _).mono ?_; rintro e w' ⟨rfl, rfl⟩
    go_wp2_with fail
    refine (HF.out _).mono ?_; rintro e w1 ⟨v1, rfl, ho1, hb1⟩
    have HO1 := Lib.hid ho1
    clear ho1
    go_wp2_with fail
    go_ret2
    exact ⟨_, rfl, HO1.out, hb1⟩
end Go.Proofs.Ytcaiofhdcffogaa
