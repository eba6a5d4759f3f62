/- Contracts: the model's distance of a fraction from infinity. -/
import Derived.Test.YtjnkogkpdbgohaaK4
import Derived.Test.YtjnkogkpdbgohaaNa
namespace Go.Proofs.Ytjnkogkpdbgohaa
open Go.RowKit
theorem FarAt.pos {P Q : Int} {L : List Int} {i x y : Nat} {a b n r : Int} (h : FarAt P Q L i x y a b) (h' : FarIn P Q L i x y a b n r) : 1 ≤ n := by
  refine Int.not_lt.1 fun hn => ?_
  obtain rfl : n = 0 := by have := h'.n0; omega
  by_cases ho : i % 2 = 1
  · have h1 := h.lt
    rw [if_pos ho] at h1
    obtain ⟨h2, h3, -⟩ := h'.odd ho
    omega
  · have h1 := h.lt
    rw [if_neg ho] at h1
    obtain ⟨h2, h3, -⟩ := h'.even ho
    omega
/-- Ahead of a round of the inner loop. -/
structure FarN (P Q : Int) (L : List Int) (i x y : Nat) (n : Int) : Prop where
  at_ : ∃ a b r, FarIn P Q L i x y a b n r
  last : i + 1 = L.length → 1 ≤ n
theorem FarN.own {P Q : Int} {L : List Int} {i x y : Nat} (h : FarN P Q L i x y 1) (hl : i + 1 = L.length) : IsD vInf ⟨P, Q⟩ (1 + min x y) := by
  obtain ⟨⟨a, b, r, h⟩, -⟩ := h
  exact h.last hl
theorem FarN.odd {P Q : Int} {L : List Int} {i x y : Nat} {n : Int} (h : FarN P Q L i x y n) (ho : i % 2 = 1) (hn : 0 < n) (hl : ¬ (i + 1 = L.length ∧ n = 1)) : FarN P Q L i x (1 + min x y) (n - 1) := by
  obtain ⟨⟨a, b, r, h⟩, -⟩ := h
  exact ⟨⟨_, _, _, h.odd_step ho hn⟩, fun e => by omega⟩
theorem FarN.even {P Q : Int} {L : List Int} {i x y : Nat} {n : Int} (h : FarN P Q L i x y n) (ho : i % 2 ≠ 1) (hn : 0 < n) (hl : ¬ (i + 1 = L.length ∧ n = 1)) : FarN P Q L i (1 + min x y) y (n - 1) := by
  obtain ⟨⟨a, b, r, h⟩, -⟩ := h
  exact ⟨⟨_, _, _, h.even_step ho hn⟩, fun e => by omega⟩
theorem FarN.oddSkip {P Q : Int} {L : List Int} {i x y : Nat} {n : Int} (h : FarN P Q L i x y n) (ho : i % 2 = 1) (hs : 1 + min x y = y) (hn : 1 ≤ n) : FarN P Q L i x y 1 := by
  obtain ⟨⟨a, b, r, h⟩, -⟩ := h
  have h1 := h.odd_skip ho hs (n - 1).toNat (by omega)
  rw [show n - ((n - 1).toNat : Int) = 1 by omega] at h1
  exact ⟨⟨_, _, _, h1⟩, fun _ => by omega⟩
theorem FarN.evenSkip {P Q : Int} {L : List Int} {i x y : Nat} {n : Int} (h : FarN P Q L i x y n) (ho : i % 2 ≠ 1) (hs : 1 + min x y = x) (hn : 1 ≤ n) : FarN P Q L i x y 1 := by
  obtain ⟨⟨a, b, r, h⟩, -⟩ := h
  have h1 := h.even_skip ho hs (n - 1).toNat (by omega)
  rw [show n - ((n - 1).toNat : Int) = 1 by omega] at h1
  exact ⟨⟨_, _, _, h1⟩, fun _ => by omega⟩
theorem FarN.bd {P Q : Int} {L : List Int} {i x y : Nat} {n : Int} (h : FarN P Q L i x y n) : x ≤ i + 1 ∧ y ≤ i + 1 := by
  obtain ⟨⟨a, b, r, h⟩, -⟩ := h
  by_cases ho : i % 2 = 1
  · obtain ⟨-, -, -, -, h1, h2⟩ := h.odd ho; omega
  · obtain ⟨-, -, -, -, h1, h2⟩ := h.even ho; omega
structure FarO (P Q : Int) (L : List Int) (i x y : Nat) : Prop where
  at_ : ∃ a b, FarAt P Q L i x y a b
  i1 : 1 ≤ i
  more : i < L.length ∨ L.length = 1
theorem FarN.leave {P Q : Int} {L : List Int} {i x y : Nat} (h : FarN P Q L i x y 0) (hi : i < L.length) : FarO P Q L (i + 1) x y := by
  obtain ⟨⟨a, b, r, h1⟩, h2⟩ := h
  refine ⟨⟨_, _, h1.leave⟩, by omega, ?_⟩
  by_cases e : i + 1 = L.length
  · have := h2 e; omega
  · left; omega
theorem FarO.enter {P Q : Int} {L : List Int} {i x y : Nat} (h : FarO P Q L i x y) (hi : i < L.length) : ∃ n, L[i]? = some n ∧ FarN P Q L i x y n := by
  obtain ⟨⟨a, b, h1⟩, -, -⟩ := h
  obtain ⟨n, r, h2, h3⟩ := h1.enter hi
  exact ⟨n, h2, ⟨_, _, _, h3⟩, fun _ => h1.pos h3⟩
theorem FarO.bd {P Q : Int} {L : List Int} {i x y : Nat} (h : FarO P Q L i x y) : x ≤ i ∧ y ≤ i := by
  obtain ⟨⟨a, b, h1⟩, -, -⟩ := h
  exact ⟨h1.xb, h1.yb⟩
theorem min_cast (x y : Nat) : min (x : Int) (y : Int) = ((min x y : Nat) : Int) := by omega
set_option maxRecDepth 100000 in
set_option maxHeartbeats 4000000 in
theorem l03Far_any (P Q : Int) (w : World) (hf : isFrac P Q = true) :
    Calls Try.prog 45 #[(.agg #[.int .i64 P, .int .i64 Q])] w fun e w' => ∃ n : Nat, e = .returned (.int .i64 ((n : Int))) ∧ IsD vInf ⟨P, Q⟩ n ∧ Below w.heap.size w w' := by
  obtain ⟨e9, q0, q1, hg, hp⟩ := frac_e9 hf
  by_cases hq : Q = 0
  · subst hq
    have hd := far_end hg
    go_enter Try.func45, Try.ntmps45
    go_wp2_with fail
    go_ret
    exact ⟨0, rfl, hd, by go_grown⟩
  have hq' : (Q == 0) = false := by simpa using hq
  have HC := Lib.hid (fun W => l03Continued_any P Q W e9 q0 q1)
  have hlen := cfrac_len (p := P) q0 q1
  have HS := Lib.hid (show FarO P Q (cfrac P Q) 1 1 0 from ⟨⟨_, _, FarAt.start (by omega) hg⟩, by omega, by have := (cfrac_cont e9 (show 0 < Q by omega) q1 hg).n1; omega⟩)
  have HD := Lib.hid (FarAt.done (P := P) (Q := Q) (by omega) hg)
  have HE := Lib.hid (cfrac_e9 (Q.toNat + 1) P Q e9 q0 q1 (by omega))
  clear hf hg hp e9
  generalize cfrac P Q = L at *
  go_enter Try.func45, Try.ntmps45
  go_wp2_with fail
  refine (HC.out _).mono ?_; rintro e w1 ⟨v, rfl, ho, hb1⟩
  have T := Lib.hid (show Below w.heap.size w w1 from bfin (by go_grown) hb1)
  obtain ⟨A, cap, rfl, -, -, hat⟩ := own_view ho
  have R := Lib.hid hat
  clear ho hat hb1 HC
  have HT := Lib.hid T.out
  go_wp2_with fail
  go_loopw [4, 5, 6, 7, 8, 9] (fun v4 v5 v6 _ _ _ wr => ∃ (i x y : Nat), v4 = (.int .i64 ((x : Int))) ∧ v5 = (.int .i64 ((y : Int))) ∧ v6 = (.int .i64 ((i : Int))) ∧ i ≤ L.length ∧ (i = 1 → x = 1) ∧ Hid (FarO P Q L i x y) ∧ wr = w1) (fun _ _ v6 _ _ _ _ => L.length - (intOf v6).toNat)
  case atStart => exact ⟨1, 1, 0, rfl, rfl, rfl, by have := HS.out.more; omega, fun _ => rfl, HS, rfl⟩
  case round =>
    obtain ⟨i, x, y, rfl, rfl, rfl, hi, hi1, HO, rfl⟩ := hrel
    by_cases hlt : i < L.length
    · have hlt2 : (i : Int) < (L.length : Int) := by omega
      obtain ⟨n, hn, hN⟩ := HO.out.enter hlt
      have HN := Lib.hid hN
      obtain ⟨g, rfl, -, hgl, hcell, -⟩ := R.out (by omega)
      have ci := hcell i (.int .i64 n) (by simp [ints, hn])
      have hnb := HE.out n (List.mem_of_getElem? hn)
      obtain ⟨n0, n1⟩ := hnb
      clear hcell hN hn
      have hN2 := HN.out.bd
      have hiL : i ≤ 60 := by omega
      go_wp2_with fail
      go_loopw [4, 5, 7, 8, 9] (fun v4 v5 v7 _ _ wq => ∃ (x y : Nat) (n : Int), v4 = (.int .i64 ((x : Int))) ∧ v5 = (.int .i64 ((y : Int))) ∧ v7 = (.int .i64 n) ∧ 0 ≤ n ∧ n ≤ 1000000000 ∧ Hid (FarN P Q L i x y n) ∧ Hid (wq = wr)) (fun _ _ v7 _ _ _ => (intOf v7).toNat)
      case atStart => exact ⟨x, y, n, rfl, rfl, rfl, by obtain ⟨⟨_, _, _, h⟩, -⟩ := HN.out; exact h.n0, n1, HN, Lib.hid rfl⟩
      case round =>
        clear HN hN2 hi1 ci
        obtain ⟨x, y, n, rfl, rfl, rfl, hn0, hn1, HN, HW⟩ := hrel
        obtain rfl := HW.out
        have hbd := HN.out.bd
        obtain ⟨x0, y0⟩ := hbd
        by_cases hn : 0 < n
        · have HOW := Lib.hid (fun (h1 : n = 1) (h2 : i + 1 = L.length) => FarN.own (h1 ▸ HN.out) h2)
          have HOD := Lib.hid (fun (ho : i % 2 = 1) h => HN.out.odd ho hn h)
          have HEV := Lib.hid (fun (ho : i % 2 ≠ 1) h => HN.out.even ho hn h)
          rcases Nat.lt_or_ge y x with hxy | hxy
          · obtain ⟨hxy1, hxy2⟩ : (y : Int) < (x : Int) ∧ ¬ (x : Int) ≤ (y : Int) := by omega
            have hmin : min x y = y := by omega
            rw [hmin] at HOW HOD HEV
            clear hxy
            by_cases hlast : i + 1 = L.length ∧ n = 1
            · obtain ⟨hl1, rfl⟩ := hlast
              have hl2 : ((i : Int) == (L.length : Int) - 1) = true := by simp; omega
              have HX := Lib.hid (HOW.out rfl hl1)
              have HTT := Lib.hid T.out
              clear HOW HOD HEV HN hl1 hmin
              go_wp2_with fail
              go_ret
              exact ⟨1 + y, by go_num, HX.out, HTT.out⟩
            · by_cases hl1 : i + 1 = L.length
              · have hl2 : ((i : Int) == (L.length : Int) - 1) = true := by simp; omega
                have hn2 : (n == 1) = false := by simp; omega
                by_cases ho : i % 2 = 1
                · skip
                  have hS := Lib.hid (HOD.out ho hlast)
                  have ho2 : ((i : Int) % 2 == 1) = true := by simp; omega
                  have ho3 : (i : Int) % 2 = 1 := by omega
                  by_cases hs : y = 1 + y
                  · have hs2 : ((y : Int) == 1 + (y : Int)) = true := by simp; omega
                    have hsI := Lib.hid (show (y : Int) = 1 + (y : Int) by omega)
                    by_cases hn3 : 2 < n
                    · have hF := Lib.hid (show FarN P Q L i x y 1 from FarN.oddSkip (n := n - 1) (by have := hS.out; rwa [← hs] at this) ho (by rw [hmin]; exact hs.symm) (by omega))
                      clear HOW HOD HEV HN hS hmin hlast hs
                      go_wp2_with fail
                      go_roundw
                      case rel => exact ⟨x, y, 1, rfl, congrArg (Value.int .i64) hsI.out.symm, by go_num, by omega, by omega, hF, Lib.hid trivial⟩
                      case measure => simp [intOf]; omega
                    · clear HOW HOD HEV HN hmin hlast hs
                      go_wp2_with fail
                      go_roundw
                      case rel => exact ⟨x, 1 + y, n - 1, rfl, by go_num, by go_num, by omega, by omega, hS, Lib.hid trivial⟩
                      case measure => simp [intOf]; omega
                  · have hs2 : ((y : Int) == 1 + (y : Int)) = false := by simp; omega
                    clear HOW HOD HEV HN hmin hlast hs
                    go_wp2_with fail
                    go_roundw
                    case rel => exact ⟨x, 1 + y, n - 1, rfl, by go_num, by go_num, by omega, by omega, hS, Lib.hid trivial⟩
                    case measure => simp [intOf]; omega
                · skip
                  have hS := Lib.hid (HEV.out ho hlast)
                  have ho2 : ((i : Int) % 2 == 1) = false := by simp; omega
                  have ho3 : ¬ (i : Int) % 2 = 1 := by omega
                  by_cases hs : x = 1 + y
                  · have hs2 : ((x : Int) == 1 + (y : Int)) = true := by simp; omega
                    have hsI := Lib.hid (show (x : Int) = 1 + (y : Int) by omega)
                    by_cases hn3 : 2 < n
                    · have hF := Lib.hid (show FarN P Q L i x y 1 from FarN.evenSkip (n := n - 1) (by have := hS.out; rwa [← hs] at this) ho (by rw [hmin]; exact hs.symm) (by omega))
                      clear HOW HOD HEV HN hS hmin hlast hs
                      go_wp2_with fail
                      go_roundw
                      case rel => exact ⟨x, y, 1, congrArg (Value.int .i64) hsI.out.symm, rfl, by go_num, by omega, by omega, hF, Lib.hid trivial⟩
                      case measure => simp [intOf]; omega
                    · clear HOW HOD HEV HN hmin hlast hs
                      go_wp2_with fail
                      go_roundw
                      case rel => exact ⟨1 + y, y, n - 1, by go_num, rfl, by go_num, by omega, by omega, hS, Lib.hid trivial⟩
                      case measure => simp [intOf]; omega
                  · have hs2 : ((x : Int) == 1 + (y : Int)) = false := by simp; omega
                    clear HOW HOD HEV HN hmin hlast hs
                    go_wp2_with fail
                    go_roundw
                    case rel => exact ⟨1 + y, y, n - 1, by go_num, rfl, by go_num, by omega, by omega, hS, Lib.hid trivial⟩
                    case measure => simp [intOf]; omega
              · have hl2 : ((i : Int) == (L.length : Int) - 1) = false := by simp; omega
                by_cases ho : i % 2 = 1
                · skip
                  have hS := Lib.hid (HOD.out ho hlast)
                  have ho2 : ((i : Int) % 2 == 1) = true := by simp; omega
                  have ho3 : (i : Int) % 2 = 1 := by omega
                  by_cases hs : y = 1 + y
                  · have hs2 : ((y : Int) == 1 + (y : Int)) = true := by simp; omega
                    have hsI := Lib.hid (show (y : Int) = 1 + (y : Int) by omega)
                    by_cases hn3 : 2 < n
                    · have hF := Lib.hid (show FarN P Q L i x y 1 from FarN.oddSkip (n := n - 1) (by have := hS.out; rwa [← hs] at this) ho (by rw [hmin]; exact hs.symm) (by omega))
                      clear HOW HOD HEV HN hS hmin hlast hs
                      go_wp2_with fail
                      go_roundw
                      case rel => exact ⟨x, y, 1, rfl, congrArg (Value.int .i64) hsI.out.symm, by go_num, by omega, by omega, hF, Lib.hid trivial⟩
                      case measure => simp [intOf]; omega
                    · clear HOW HOD HEV HN hmin hlast hs
                      go_wp2_with fail
                      go_roundw
                      case rel => exact ⟨x, 1 + y, n - 1, rfl, by go_num, by go_num, by omega, by omega, hS, Lib.hid trivial⟩
                      case measure => simp [intOf]; omega
                  · have hs2 : ((y : Int) == 1 + (y : Int)) = false := by simp; omega
                    clear HOW HOD HEV HN hmin hlast hs
                    go_wp2_with fail
                    go_roundw
                    case rel => exact ⟨x, 1 + y, n - 1, rfl, by go_num, by go_num, by omega, by omega, hS, Lib.hid trivial⟩
                    case measure => simp [intOf]; omega
                · skip
                  have hS := Lib.hid (HEV.out ho hlast)
                  have ho2 : ((i : Int) % 2 == 1) = false := by simp; omega
                  have ho3 : ¬ (i : Int) % 2 = 1 := by omega
                  by_cases hs : x = 1 + y
                  · have hs2 : ((x : Int) == 1 + (y : Int)) = true := by simp; omega
                    have hsI := Lib.hid (show (x : Int) = 1 + (y : Int) by omega)
                    by_cases hn3 : 2 < n
                    · have hF := Lib.hid (show FarN P Q L i x y 1 from FarN.evenSkip (n := n - 1) (by have := hS.out; rwa [← hs] at this) ho (by rw [hmin]; exact hs.symm) (by omega))
                      clear HOW HOD HEV HN hS hmin hlast hs
                      go_wp2_with fail
                      go_roundw
                      case rel => exact ⟨x, y, 1, congrArg (Value.int .i64) hsI.out.symm, rfl, by go_num, by omega, by omega, hF, Lib.hid trivial⟩
                      case measure => simp [intOf]; omega
                    · clear HOW HOD HEV HN hmin hlast hs
                      go_wp2_with fail
                      go_roundw
                      case rel => exact ⟨1 + y, y, n - 1, by go_num, rfl, by go_num, by omega, by omega, hS, Lib.hid trivial⟩
                      case measure => simp [intOf]; omega
                  · have hs2 : ((x : Int) == 1 + (y : Int)) = false := by simp; omega
                    clear HOW HOD HEV HN hmin hlast hs
                    go_wp2_with fail
                    go_roundw
                    case rel => exact ⟨1 + y, y, n - 1, by go_num, rfl, by go_num, by omega, by omega, hS, Lib.hid trivial⟩
                    case measure => simp [intOf]; omega
          · obtain ⟨hxy1, hxy2⟩ : (x : Int) ≤ (y : Int) ∧ ¬ (y : Int) < (x : Int) := by omega
            have hmin : min x y = x := by omega
            rw [hmin] at HOW HOD HEV
            clear hxy
            by_cases hlast : i + 1 = L.length ∧ n = 1
            · obtain ⟨hl1, rfl⟩ := hlast
              have hl2 : ((i : Int) == (L.length : Int) - 1) = true := by simp; omega
              have HX := Lib.hid (HOW.out rfl hl1)
              have HTT := Lib.hid T.out
              clear HOW HOD HEV HN hl1 hmin
              go_wp2_with fail
              go_ret
              exact ⟨1 + x, by go_num, HX.out, HTT.out⟩
            · by_cases hl1 : i + 1 = L.length
              · have hl2 : ((i : Int) == (L.length : Int) - 1) = true := by simp; omega
                have hn2 : (n == 1) = false := by simp; omega
                by_cases ho : i % 2 = 1
                · skip
                  have hS := Lib.hid (HOD.out ho hlast)
                  have ho2 : ((i : Int) % 2 == 1) = true := by simp; omega
                  have ho3 : (i : Int) % 2 = 1 := by omega
                  by_cases hs : y = 1 + x
                  · have hs2 : ((y : Int) == 1 + (x : Int)) = true := by simp; omega
                    have hsI := Lib.hid (show (y : Int) = 1 + (x : Int) by omega)
                    by_cases hn3 : 2 < n
                    · have hF := Lib.hid (show FarN P Q L i x y 1 from FarN.oddSkip (n := n - 1) (by have := hS.out; rwa [← hs] at this) ho (by rw [hmin]; exact hs.symm) (by omega))
                      clear HOW HOD HEV HN hS hmin hlast hs
                      go_wp2_with fail
                      go_roundw
                      case rel => exact ⟨x, y, 1, rfl, congrArg (Value.int .i64) hsI.out.symm, by go_num, by omega, by omega, hF, Lib.hid trivial⟩
                      case measure => simp [intOf]; omega
                    · clear HOW HOD HEV HN hmin hlast hs
                      go_wp2_with fail
                      go_roundw
                      case rel => exact ⟨x, 1 + x, n - 1, rfl, by go_num, by go_num, by omega, by omega, hS, Lib.hid trivial⟩
                      case measure => simp [intOf]; omega
                  · have hs2 : ((y : Int) == 1 + (x : Int)) = false := by simp; omega
                    clear HOW HOD HEV HN hmin hlast hs
                    go_wp2_with fail
                    go_roundw
                    case rel => exact ⟨x, 1 + x, n - 1, rfl, by go_num, by go_num, by omega, by omega, hS, Lib.hid trivial⟩
                    case measure => simp [intOf]; omega
                · skip
                  have hS := Lib.hid (HEV.out ho hlast)
                  have ho2 : ((i : Int) % 2 == 1) = false := by simp; omega
                  have ho3 : ¬ (i : Int) % 2 = 1 := by omega
                  by_cases hs : x = 1 + x
                  · have hs2 : ((x : Int) == 1 + (x : Int)) = true := by simp; omega
                    have hsI := Lib.hid (show (x : Int) = 1 + (x : Int) by omega)
                    by_cases hn3 : 2 < n
                    · have hF := Lib.hid (show FarN P Q L i x y 1 from FarN.evenSkip (n := n - 1) (by have := hS.out; rwa [← hs] at this) ho (by rw [hmin]; exact hs.symm) (by omega))
                      clear HOW HOD HEV HN hS hmin hlast hs
                      go_wp2_with fail
                      go_roundw
                      case rel => exact ⟨x, y, 1, congrArg (Value.int .i64) hsI.out.symm, rfl, by go_num, by omega, by omega, hF, Lib.hid trivial⟩
                      case measure => simp [intOf]; omega
                    · clear HOW HOD HEV HN hmin hlast hs
                      go_wp2_with fail
                      go_roundw
                      case rel => exact ⟨1 + x, y, n - 1, by go_num, rfl, by go_num, by omega, by omega, hS, Lib.hid trivial⟩
                      case measure => simp [intOf]; omega
                  · have hs2 : ((x : Int) == 1 + (x : Int)) = false := by simp; omega
                    clear HOW HOD HEV HN hmin hlast hs
                    go_wp2_with fail
                    go_roundw
                    case rel => exact ⟨1 + x, y, n - 1, by go_num, rfl, by go_num, by omega, by omega, hS, Lib.hid trivial⟩
                    case measure => simp [intOf]; omega
              · have hl2 : ((i : Int) == (L.length : Int) - 1) = false := by simp; omega
                by_cases ho : i % 2 = 1
                · skip
                  have hS := Lib.hid (HOD.out ho hlast)
                  have ho2 : ((i : Int) % 2 == 1) = true := by simp; omega
                  have ho3 : (i : Int) % 2 = 1 := by omega
                  by_cases hs : y = 1 + x
                  · have hs2 : ((y : Int) == 1 + (x : Int)) = true := by simp; omega
                    have hsI := Lib.hid (show (y : Int) = 1 + (x : Int) by omega)
                    by_cases hn3 : 2 < n
                    · have hF := Lib.hid (show FarN P Q L i x y 1 from FarN.oddSkip (n := n - 1) (by have := hS.out; rwa [← hs] at this) ho (by rw [hmin]; exact hs.symm) (by omega))
                      clear HOW HOD HEV HN hS hmin hlast hs
                      go_wp2_with fail
                      go_roundw
                      case rel => exact ⟨x, y, 1, rfl, congrArg (Value.int .i64) hsI.out.symm, by go_num, by omega, by omega, hF, Lib.hid trivial⟩
                      case measure => simp [intOf]; omega
                    · clear HOW HOD HEV HN hmin hlast hs
                      go_wp2_with fail
                      go_roundw
                      case rel => exact ⟨x, 1 + x, n - 1, rfl, by go_num, by go_num, by omega, by omega, hS, Lib.hid trivial⟩
                      case measure => simp [intOf]; omega
                  · have hs2 : ((y : Int) == 1 + (x : Int)) = false := by simp; omega
                    clear HOW HOD HEV HN hmin hlast hs
                    go_wp2_with fail
                    go_roundw
                    case rel => exact ⟨x, 1 + x, n - 1, rfl, by go_num, by go_num, by omega, by omega, hS, Lib.hid trivial⟩
                    case measure => simp [intOf]; omega
                · skip
                  have hS := Lib.hid (HEV.out ho hlast)
                  have ho2 : ((i : Int) % 2 == 1) = false := by simp; omega
                  have ho3 : ¬ (i : Int) % 2 = 1 := by omega
                  by_cases hs : x = 1 + x
                  · have hs2 : ((x : Int) == 1 + (x : Int)) = true := by simp; omega
                    have hsI := Lib.hid (show (x : Int) = 1 + (x : Int) by omega)
                    by_cases hn3 : 2 < n
                    · have hF := Lib.hid (show FarN P Q L i x y 1 from FarN.evenSkip (n := n - 1) (by have := hS.out; rwa [← hs] at this) ho (by rw [hmin]; exact hs.symm) (by omega))
                      clear HOW HOD HEV HN hS hmin hlast hs
                      go_wp2_with fail
                      go_roundw
                      case rel => exact ⟨x, y, 1, congrArg (Value.int .i64) hsI.out.symm, rfl, by go_num, by omega, by omega, hF, Lib.hid trivial⟩
                      case measure => simp [intOf]; omega
                    · clear HOW HOD HEV HN hmin hlast hs
                      go_wp2_with fail
                      go_roundw
                      case rel => exact ⟨1 + x, y, n - 1, by go_num, rfl, by go_num, by omega, by omega, hS, Lib.hid trivial⟩
                      case measure => simp [intOf]; omega
                  · have hs2 : ((x : Int) == 1 + (x : Int)) = false := by simp; omega
                    clear HOW HOD HEV HN hmin hlast hs
                    go_wp2_with fail
                    go_roundw
                    case rel => exact ⟨1 + x, y, n - 1, by go_num, rfl, by go_num, by omega, by omega, hS, Lib.hid trivial⟩
                    case measure => simp [intOf]; omega
        · have hn' : ¬ (0 : Int) < n := hn
          obtain rfl : n = 0 := by omega
          have HO2 := Lib.hid (HN.out.leave hlt)
          have hi0 := HO.out.i1
          clear HN HO
          go_wp2_with fail
          go_roundw
          case rel => exact ⟨i + 1, x, y, rfl, rfl, by go_num, by omega, fun h => by omega, HO2, trivial⟩
          case measure => simp [intOf]; omega
    · have hlt2 : ¬ (i : Int) < (L.length : Int) := by omega
      have hl1 : L.length = 1 := by have := HO.out.more; omega
      obtain rfl : i = 1 := by have := HO.out.i1; omega
      have hx := HD.out hl1
      obtain rfl : x = 1 := hi1 rfl
      have HX := Lib.hid hx
      have HTT := Lib.hid T.out
      clear hx HO
      go_wp2_with fail
      go_ret
      exact ⟨1, rfl, HX.out, HTT.out⟩
end Go.Proofs.Ytjnkogkpdbgohaa
