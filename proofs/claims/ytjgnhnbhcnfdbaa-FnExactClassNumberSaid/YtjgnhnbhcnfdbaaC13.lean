/- Contracts: the whole square root, by floats and by halves. -/
import Derived.Test.YtjgnhnbhcnfdbaaC9
import Derived.Test.YtjgnhnbhcnfdbaaN5
import Derived.Test.YtjgnhnbhcnfdbaaFloat
import Derived.Laws.Externs
namespace Go.Proofs.Ytjgnhnbhcnfdbaa
open Go.RowKit
theorem findNextSqrt : Extern.findNext Try.f145 = none := by kernel_rfl
theorem findSqrt : Extern.find Try.f145 = some Extern.MathSqrt.sqrt := by kernel_rfl
theorem mathsqrt_any (x r : Nat) (w : World) (h : Ieee.double.sqrt x = some r) :
    Calls Try.prog 130 #[.float .f64 x] w fun e w' => e = .returned (.float .f64 r) ∧ w = w' := by
  have h1 : ∀ w, (Extern.MathSqrt.sqrt #[.float .f64 x]).run Try.prog w = .ok (.float .f64 r) w := by
    intro w
    have e : Extern.MathSqrt.sqrt #[.float .f64 x] = (match Ieee.double.sqrt x with
      | some r => pure (.float .f64 r)
      | none => do pure (.float .f64 (← choose (.nanBits .f64 x x)))) := rfl
    rw [e, h]
    rfl
  have h2 : ∀ w, (callFunc 145 #[.float .f64 x]).run Try.prog w = .ok (.value (.float .f64 r)) w := by
    intro w
    rw [run_callFunc_extern Try.func145 (by kernel_rfl) (by kernel_rfl) findNextSqrt findSqrt, h1]
    rfl
  have H := Lib.hid h
  clear h h1
  go_enter Try.func130, Try.ntmps130
  go_wp2
  go_ret
  exact ⟨rfl, rfl⟩
theorem conv_if (d : Nat) (w : World) : (convert 2 122 (.int .i64 (d : Int))).run Try.prog w = .ok (.float .f64 (Ieee.double.nearest false d 0)) w := by
  have h : (convert 2 122 (.int .i64 (d : Int))).run Try.prog w = .ok (.float .f64 (FloatKind.f64.nearest (d : Int))) w := by
    simp [convert, run_underlying Try.underlying2, run_underlying Try.underlying122, Conv.intToFloat]
  rw [h]
  have : decide ((d : Int) < 0) = false := by simp
  simp only [FloatKind.nearest, FloatKind.encode, FloatKind.format, Ieee.Format.write, this, Int.natAbs_natCast]
theorem conv_fi (b r : Nat) (w : World) (h : (Ieee.double.read b).toInt .zero = some (r : Int)) (hr : r ≤ 2 ^ 23) : (convert 122 2 (.float .f64 b)).run Try.prog w = .ok (.int .i64 (r : Int)) w := by
  have e : (convert 122 2 (.float .f64 b)).run Try.prog w = (Conv.floatToInt .f64 b .i64).run Try.prog w := by
    simp [convert, run_underlying Try.underlying2, run_underlying Try.underlying122]
  rw [e]
  unfold Conv.floatToInt
  simp only [FloatKind.decode, FloatKind.format, h]
  rw [if_pos (by simp [IntKind.min, IntKind.max, IntKind.signed, IntKind.bits]; omega)]
  rfl
set_option maxHeartbeats 1000000 in
theorem root_any (d : Int) (w : World) (d0 : 0 ≤ d) (d1 : d ≤ 5000000000000) :
    Calls Try.prog 98 #[(.int .i64 d)] w fun e w' => e = .returned (.int .i64 (isqrt d)) ∧ w = w' := by
  obtain ⟨n, rfl⟩ := Int.eq_ofNat_of_zero_le d0
  obtain ⟨bits, hs, r, hr, hb⟩ := Fl.sqrt_int n (by omega)
  have c1 := fun w => conv_if n w
  have c2 := fun w => conv_fi bits r w hr hb
  have HU := Lib.hid (fun s => @root_unique s (isqrt (n : Int)) n)
  have HR := Lib.hid (isqrt_root d0)
  have HS := Lib.hid hs
  have hb' : (r : Int) ≤ 8388608 := by omega
  clear hs hr hb
  go_enter Try.func98, Try.ntmps98
  go_wp2_with fail
  refine (mathsqrt_any _ _ _ HS.out).mono ?_; rintro e w' ⟨rfl, rfl⟩
  clear c1
  go_wp2_with fail
  clear c2
  go_loop [3] (fun x => ∃ s : Int, x = (.int .i64 s) ∧ 0 ≤ s ∧ s ≤ 8388608) (fun x => (intOf x).toNat)
  case atStart => exact ⟨_, rfl, by omega, hb'⟩
  case round =>
    obtain ⟨s, rfl, s0, s1⟩ := hrel
    have hm := mul_bd (a := s) (b := s) (A := 8388608) (B := 8388608) (by omega) s1 (by omega) s1
    obtain ⟨hm0, hm1⟩ := hm
    by_cases hgt : (n : Int) < s * s
    · have hs1 : 1 ≤ s := by
        rcases Int.lt_or_le s 1 with h | h
        · have : s = 0 := by omega
          subst this
          simp at hgt
          omega
        · exact h
      go_wp2_with fail
      go_round
      case rel => exact ⟨_, rfl, by omega, by omega⟩
      case measure => simp [intOf]; omega
    · have hle : s * s ≤ n := by omega
      have HL := Lib.hid hle
      go_wp2_with fail
      go_loop [3] (fun x => ∃ s : Int, x = (.int .i64 s) ∧ 0 ≤ s ∧ s * s ≤ n) (fun x => (3000000 - intOf x).toNat)
      case atStart => exact ⟨_, rfl, s0, HL.out⟩
      case round =>
        obtain ⟨t, rfl, t0, t1⟩ := hrel
        have ht : t ≤ 2236068 := by
          refine Int.not_lt.1 fun hh => ?_
          have := mul_le_self (show (0 : Int) ≤ 2236069 by omega) (show (2236069 : Int) ≤ t by omega)
          omega
        have hm2 := mul_bd (a := t + 1) (b := t + 1) (A := 2236069) (B := 2236069) (by omega) (by omega) (by omega) (by omega)
        obtain ⟨hm3, hm4⟩ := hm2
        by_cases hle2 : (t + 1) * (t + 1) ≤ n
        · go_wp2_with fail
          go_round
          case rel => exact ⟨_, rfl, by omega, hle2⟩
          case measure => simp [intOf]; omega
        · have hlt : (n : Int) < (t + 1) * (t + 1) := by omega
          have HT := Lib.hid (HU.out t ⟨t0, t1, hlt⟩ HR.out)
          go_wp2_with fail
          go_ret
          exact ⟨ret_int HT.out, rfl⟩
end Go.Proofs.Ytjgnhnbhcnfdbaa
