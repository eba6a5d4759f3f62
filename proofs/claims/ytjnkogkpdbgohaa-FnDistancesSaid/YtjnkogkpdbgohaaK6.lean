/- Contracts: the fraction of a continued fraction. -/
import Derived.Test.YtjnkogkpdbgohaaK5
namespace Go.Proofs.Ytjnkogkpdbgohaa
open Go.RowKit
def fcRes (L : List Int) : (Int × Int) × Int := if contB L = true then (if cvB L 1 0 0 1 = true then (((cv L).p, (cv L).q), 0) else ((0, 0), 3)) else ((0, 0), 2)
theorem flat2_at {l : List P2} {k : Nat} {x : P2} (h : l[k]? = some x) : (ints (flat2 l))[k * 2]? = some (.int .i64 x.x) ∧ (ints (flat2 l))[k * 2 + 1]? = some (.int .i64 x.y) := by
  induction l generalizing k with
  | nil => simp at h
  | cons a l ih =>
    cases k with
    | zero => simp at h; subst h; simp [ints, flat2]
    | succ k =>
      have := ih (k := k) (by simpa using h)
      have e : ints (flat2 (a :: l)) = .int .i64 a.x :: .int .i64 a.y :: ints (flat2 l) := by simp [ints, flat2]
      rw [e, show (k + 1) * 2 = k * 2 + 2 by omega, show k * 2 + 2 + 1 = (k * 2 + 1) + 2 by omega]
      simpa using this
theorem conv_at {L : List Int} {M : Nat} (h : L.length = M + 1) : (convL L 1 0 0 1)[M]? = some ⟨(cv L).p, (cv L).q⟩ := by
  have hne : L ≠ [] := by rintro rfl; simp at h
  have h1 := conv_last L 1 0 0 1 hne
  rw [List.getLast?_eq_getElem?, convL_len, h] at h1
  simpa using h1
abbrev Zf (w : World) (r : Nat) (p q : Int) : Prop := Blk2 w r 25 p q
theorem Zf.below {r : Nat} {w w' : World} {p q : Int} (h : Zf w r p q) (hb : Below w.heap.size w w') : Zf w' r p q := heap_below h hb
theorem Zf.new {w : World} {p q : Int} : Zf (w.alloc (.cells #[(.int .i64 p), (.int .i64 q)] 25)) w.heap.size p q := heap_new
theorem setf_0 {w : World} {r : Nat} {p q : Int} {x y : Int} (h : Zf w r p q) : ((w.setCell ⟨r, 0, none⟩ (.int .i64 x)).setCell ⟨r, 1, none⟩ (.int .i64 y)).cell? ⟨r, 0, none⟩ = some (.int .i64 x) := (Blk2.open_ (heap_set2 h)).1.1
theorem setf_1 {w : World} {r : Nat} {p q : Int} {x y : Int} (h : Zf w r p q) : ((w.setCell ⟨r, 0, none⟩ (.int .i64 x)).setCell ⟨r, 1, none⟩ (.int .i64 y)).cell? ⟨r, 1, none⟩ = some (.int .i64 y) := (Blk2.open_ (heap_set2 h)).1.2
theorem below_set2K {B : Nat} {w0 w : World} {r : Nat} {x y : Value} (h : Below B w0 w) (hr : B ≤ r) : Below B w0 ((w.setCell ⟨r, 0, none⟩ x).setCell ⟨r, 1, none⟩ y) :=
  (h.setCell (p := ⟨r, 0, none⟩) hr x).setCell (p := ⟨r, 1, none⟩) hr y
set_option maxRecDepth 100000 in
set_option maxHeartbeats 2000000 in
theorem FractionOfContinued_any (A : Option Addr) (cap B : Nat) (L : List Int) (w : World) (hl : L.length ≤ 1000) (hcap : L.length ≤ cap) (hcm : cap ≤ maxLen) (h : RowAt w B A L.length (ints L)) :
    Calls Try.prog 12 #[.slice A L.length cap] w fun e w' => e = .returned (.tuple #[(.agg #[.int .i64 ((fcRes L).1.1), .int .i64 ((fcRes L).1.2)]), (.int .i64 ((fcRes L).2))]) ∧ Below w.heap.size w w' := by
  have HA := Lib.hid ((Below.refl w.heap.size w).alloc (Nat.le_refl _) (.cells #[(.int .i64 0), (.int .i64 0)] 25))
  have R := Lib.hid (h.below HA.out)
  have Z := Lib.hid (Zf.new (w := w) (p := 0) (q := 0))
  have HI := Lib.hid (fun W h => isContinued_any A cap B L W hl hcap hcm h)
  clear h
  cases hc : contB L
  · rw [show fcRes L = ((0, 0), 2) by simp [fcRes, hc]]
    rw [hc] at HI
    clear hc
    go_enter Try.func12, Try.ntmps12
    go_wp2_with fail
    refine (HI.out _ R.out).mono ?_; rintro e w1 ⟨rfl, hb1⟩
    have T := Lib.hid (bfin HA.out hb1)
    have Z1 := Lib.hid (Z.out.below hb1)
    obtain ⟨⟨c0, c1⟩, ⟨f0, f1⟩, hlz⟩ := Z1.out.open_
    clear hb1 HI R Z
    go_wp2_with fail
    refine bodyPost_ret (v := .tuple #[(.agg #[.int .i64 0, .int .i64 0]), (.int .i64 2)]) (by simp [results, Try.results12, go_sem, setf_0 Z1.out, setf_1 Z1.out] <;> rfl) rfl ?_
    exact ⟨rfl, below_set2K T.out (Nat.le_refl _)⟩
  have hC := contB_iff.1 hc
  have HV := Lib.hid (fun W h => convergentsG_any A cap B L W h hC.n2 hC.e)
  obtain ⟨M, hM⟩ : ∃ M, L.length = M + 1 := ⟨L.length - 1, by have := hC.n1; omega⟩
  have hM1 : ((M : Int) + 1 - 1) = (M : Int) := by omega
  have hMb : M ≤ 1000 := by omega
  rw [hc] at HI
  cases hv : cvB L 1 0 0 1
  · rw [show fcRes L = ((0, 0), 3) by simp [fcRes, hc, hv]]
    rw [show cvRes L = ([], 3) by simp [cvRes, hv]] at HV
    rw [hM] at HI HV R ⊢
    clear hc hv hC hM hM1 hl hcap
    go_enter Try.func12, Try.ntmps12
    go_wp2_with fail
    refine (HI.out _ R.out).mono ?_; rintro e w1 ⟨rfl, hb1⟩
    have T := Lib.hid (bfin HA.out hb1)
    have Z1 := Lib.hid (Z.out.below hb1)
    have R1 := Lib.hid (R.out.below hb1)
    clear hb1 HI R Z
    go_wp2_with fail
    refine (HV.out _ R1.out).mono ?_; rintro e w2 ⟨v, rfl, -, hb2⟩
    replace T := Lib.hid (bfin T.out hb2)
    replace Z1 := Lib.hid (Z1.out.below hb2)
    obtain ⟨⟨c0, c1⟩, ⟨f0, f1⟩, hlz⟩ := Z1.out.open_
    clear hb2 R1
    go_wp2_with fail
    refine bodyPost_ret (v := .tuple #[(.agg #[.int .i64 0, .int .i64 0]), (.int .i64 3)]) (by simp [results, Try.results12, go_sem, setf_0 Z1.out, setf_1 Z1.out] <;> rfl) rfl ?_
    exact ⟨rfl, below_set2K T.out (Nat.le_refl _)⟩
  · rw [show fcRes L = (((cv L).p, (cv L).q), 0) by simp [fcRes, hc, hv]]
    rw [show cvRes L = (convL L 1 0 0 1, 0) by simp [cvRes, hv]] at HV
    have hE := Lib.hid (flat2_at (conv_at hM))
    rw [show (convL L 1 0 0 1, (0 : Int)).1.length = M + 1 by simp [convL_len, hM]] at HV
    generalize (cv L).p = p at *
    generalize (cv L).q = q at *
    generalize convL L 1 0 0 1 = C at *
    rw [hM] at HI HV R ⊢
    clear hc hv hC hM hl hcap
    go_enter Try.func12, Try.ntmps12
    go_wp2_with fail
    refine (HI.out _ R.out).mono ?_; rintro e w1 ⟨rfl, hb1⟩
    have T := Lib.hid (bfin HA.out hb1)
    have Z1 := Lib.hid (Z.out.below hb1)
    have R1 := Lib.hid (R.out.below hb1)
    clear hb1 HI R Z
    go_wp2_with fail
    refine (HV.out _ R1.out).mono ?_; rintro e w2 ⟨v, rfl, ho, hb2⟩
    replace T := Lib.hid (bfin T.out hb2)
    replace Z1 := Lib.hid (Z1.out.below hb2)
    obtain ⟨A2, cap2, rfl, -, -, hat⟩ := own_view ho
    obtain ⟨g, rfl, -, hgl, hcell, -⟩ := hat (by omega)
    have d0 := hcell _ _ hE.out.1
    have d1 := hcell _ _ hE.out.2
    obtain ⟨⟨c0, c1⟩, ⟨f0, f1⟩, hlz⟩ := Z1.out.open_
    clear hb2 R1 ho hat hcell hE
    go_wp2_with fail
    refine bodyPost_ret (v := .tuple #[(.agg #[.int .i64 p, .int .i64 q]), (.int .i64 0)]) (by simp [results, Try.results12, go_sem, setf_0 Z1.out, setf_1 Z1.out] <;> rfl) rfl ?_
    exact ⟨rfl, below_set2K T.out (Nat.le_refl _)⟩
/-- What the model has seen of a list. -/
structure SeenC (L : List Int) (k : Nat) : Prop where
  k1 : 1 ≤ k
  kn : k ≤ L.length
  ok : ∀ j, 1 ≤ j → j < k → (1 ≤ L.getD j 0 ∧ L.getD j 0 ≤ 1000000000) ∧ (j = L.length - 1 → L.getD j 0 ≠ 1)
theorem SeenC.done {L : List Int} (h : SeenC L L.length) (h2 : L.length ≤ 60) (h0 : entB (L.getD 0 0) = true) : contB L = true := by
  refine contB_iff.2 ⟨h.k1, h2, fun x hx => ?_, fun x hx => ?_, fun h1 x hx => ?_⟩
  · obtain ⟨j, hj, rfl⟩ := List.getElem_of_mem hx
    have e : L.getD j 0 = L[j] := by rw [List.getD, List.getElem?_eq_getElem hj]; rfl
    by_cases hj0 : j = 0
    · subst hj0; rw [← e]; exact e9_iff.1 h0
    · obtain ⟨⟨a1, a2⟩, -⟩ := h.ok j (by omega) hj
      rw [e] at a1 a2
      exact ⟨by omega, a2⟩
  · obtain ⟨j, hj, rfl⟩ := List.getElem_of_mem hx
    simp at hj
    have := (h.ok (j + 1) (by omega) (by omega)).1.1
    have e : L.getD (j + 1) 0 = L.tail[j] := by
      cases L with
      | nil => simp at hj
      | cons a l =>
        simp only [List.length_cons, Nat.add_sub_cancel] at hj
        simp [List.getD, List.getElem?_eq_getElem hj]
    rwa [e] at this
  · rw [last_getD h.k1] at hx
    injection hx with hx
    obtain ⟨⟨a1, -⟩, a2⟩ := h.ok (L.length - 1) (by omega) (by omega)
    have := a2 rfl
    omega
theorem contB_len {L : List Int} (h : ¬ (1 ≤ L.length ∧ L.length ≤ 60)) : contB L = false := by
  cases hc : contB L
  · rfl
  · have := contB_iff.1 hc; exact absurd ⟨this.n1, this.n2⟩ h
theorem contB_first {L : List Int} (h1 : 1 ≤ L.length) (h : entB (L.getD 0 0) = false) : contB L = false := by
  cases hc : contB L
  · rfl
  · have := e9_iff.2 ((contB_iff.1 hc).e _ (getD_memK (j := 0) (by omega)))
    rw [h] at this; cases this
theorem contB_at {L : List Int} {j : Nat} (h1 : 1 ≤ j) (hj : j < L.length) (h : ¬ (1 ≤ L.getD j 0 ∧ L.getD j 0 ≤ 1000000000) ∨ (j = L.length - 1 ∧ L.getD j 0 = 1)) : contB L = false := by
  cases hc : contB L
  · rfl
  · exfalso
    have hC := contB_iff.1 hc
    have h3 := hC.e _ (getD_memK hj)
    have h4 : 1 ≤ L.getD j 0 := by
      refine hC.t _ ?_
      have e : L.getD j 0 = L.tail.getD (j - 1) 0 := by
        cases L with
        | nil => simp at hj
        | cons a l =>
          cases j with
          | zero => omega
          | succ j => simp [List.getD]
      rw [e]
      exact getD_memK (by simp; omega)
    rcases h with h | ⟨h5, h6⟩
    · exact h ⟨h4, h3.hi⟩
    · have := hC.z (by omega) _ (last_getD hC.n1)
      rw [← h5, h6] at this
      omega
set_option maxRecDepth 100000 in
set_option maxHeartbeats 2000000 in
theorem sFractionOfContinued_any (A : Option Addr) (cap B : Nat) (L : List Int) (w : World) (hl : L.length ≤ 1000) (h : RowAt w B A L.length (ints L)) :
    Calls Try.prog 23 #[.slice A L.length cap] w fun e w' => e = .returned (.tuple #[(.agg #[.int .i64 ((fcRes L).1.1), .int .i64 ((fcRes L).1.2)]), (.int .i64 ((fcRes L).2))]) ∧ Below w.heap.size w w' := by
  have HA := Lib.hid ((Below.refl w.heap.size w).alloc (Nat.le_refl _) (.cells #[(.int .i64 0), (.int .i64 0)] 25))
  have R := Lib.hid (h.below HA.out)
  have Z := Lib.hid (Zf.new (w := w) (p := 0) (q := 0))
  clear h
  have hno : contB L = false → fcRes L = ((0, 0), 2) := fun h => by simp [fcRes, h]
  by_cases h1 : L.length < 1
  · rw [hno (contB_len (by omega))]
    have h1' : ((L.length : Nat) : Int) < 1 := by omega
    obtain ⟨⟨c0, c1⟩, ⟨f0, f1⟩, hlz⟩ := Z.out.open_
    clear hno
    go_enter Try.func23, Try.ntmps23
    go_wp2_with fail
    refine bodyPost_ret (v := .tuple #[(.agg #[.int .i64 0, .int .i64 0]), (.int .i64 2)]) (by simp [results, Try.results23, go_sem, c0, c1] <;> rfl) rfl ?_
    exact ⟨rfl, HA.out⟩
  have h1' : ¬ ((L.length : Nat) : Int) < 1 := by omega
  by_cases h2 : 60 < L.length
  · rw [hno (contB_len (by omega))]
    have h2' : (60 : Int) < ((L.length : Nat) : Int) := by omega
    obtain ⟨⟨c0, c1⟩, ⟨f0, f1⟩, hlz⟩ := Z.out.open_
    clear hno
    go_enter Try.func23, Try.ntmps23
    go_wp2_with fail
    refine bodyPost_ret (v := .tuple #[(.agg #[.int .i64 0, .int .i64 0]), (.int .i64 2)]) (by simp [results, Try.results23, go_sem, c0, c1] <;> rfl) rfl ?_
    exact ⟨rfl, HA.out⟩
  have h2' : ¬ (60 : Int) < ((L.length : Nat) : Int) := by omega
  obtain ⟨b, rfl, -, hbl, hc, -⟩ := R.out (by omega)
  have HC := Lib.hid (fun k (hk : k < L.length) => hc k _ (ints_at hk))
  have hc0 := HC.out 0 (by omega)
  have H0 := Lib.hid (fun W => l01Entry_any (L.getD 0 0) W)
  clear hc
  cases he : entB (L.getD 0 0)
  · rw [hno (contB_first (by omega) he)]
    rw [he] at H0
    generalize L.getD 0 0 = x at *
    obtain ⟨⟨c0, c1⟩, ⟨f0, f1⟩, hlz⟩ := Z.out.open_
    clear hno he
    go_enter Try.func23, Try.ntmps23
    go_wp2_with fail
    refine (H0.out _).mono ?_; rintro e w' ⟨rfl, rfl⟩
    go_wp2_with fail
    refine bodyPost_ret (v := .tuple #[(.agg #[.int .i64 0, .int .i64 0]), (.int .i64 2)]) (by simp [results, Try.results23, go_sem, c0, c1] <;> rfl) rfl ?_
    exact ⟨rfl, HA.out⟩
  rw [he] at H0
  have HF := Lib.hid he
  generalize hx0 : L.getD 0 0 = x at H0 hc0
  clear he hx0
  generalize hRR : fcRes L = RR
  have HRR := Lib.hid hRR
  rw [hRR] at hno
  clear hRR
  go_enter Try.func23, Try.ntmps23
  go_wp2_with fail
  refine (H0.out _).mono ?_; rintro e w' ⟨rfl, rfl⟩
  go_wp2_with fail
  clear hc0 H0
  go_loopw [4] (fun i wr => ∃ k : Nat, i = (.int .i64 ((k : Int))) ∧ Hid (SeenC L k) ∧ Hid (Below w.heap.size w wr) ∧ Hid (Zf wr w.heap.size 0 0) ∧ Hid (RowAt wr B (some ⟨b, 0, none⟩) L.length (ints L))) (fun i _ => L.length - (intOf i).toNat)
  case atStart => exact ⟨1, rfl, Lib.hid ⟨by omega, by omega, fun j h1 h2 => by omega⟩, HA, Z, R⟩
  case round =>
    clear HA R Z HC
    obtain ⟨k, rfl, HS, T, Z, R⟩ := hrel
    by_cases hk : k < L.length
    · have hk' : (k : Int) < (L.length : Int) := by omega
      obtain ⟨b', hb', -, hbl', hc, -⟩ := R.out (by omega)
      injection hb' with hb'
      injection hb' with hb'
      subst hb'
      have ck := hc k _ (ints_at hk)
      have HI := Lib.hid (fun W => l01In_any (L.getD k 0) 1 1000000000 W)
      have k1 := HS.out.k1
      have HAT := Lib.hid (fun h => contB_at (L := L) k1 hk h)
      have HN := Lib.hid (fun (a1 : 1 ≤ L.getD k 0 ∧ L.getD k 0 ≤ 1000000000) (a2 : k = L.length - 1 → L.getD k 0 ≠ 1) => show SeenC L (k + 1) from ⟨by omega, by omega, fun j hj1 hj2 => by
        by_cases hjk : j = k
        · subst hjk; exact ⟨a1, a2⟩
        · exact HS.out.ok j hj1 (by omega)⟩)
      obtain ⟨⟨c0, c1⟩, ⟨f0, f1⟩, hlz⟩ := Z.out.open_
      clear hc
      generalize L.getD k 0 = x at *
      cases hi : inB x 1 1000000000
      · have hE := hno (HAT.out (.inl fun hh => by rw [inB_iff.2 hh] at hi; cases hi))
        rw [hi] at HI
        subst hE
        clear hi HAT HN HRR
        go_wp2_with fail
        refine (HI.out _).mono ?_; rintro e w' ⟨rfl, rfl⟩
        go_wp2_with fail
        refine bodyPost_ret (v := .tuple #[(.agg #[.int .i64 0, .int .i64 0]), (.int .i64 2)]) (by simp [results, Try.results23, go_sem, setf_0 Z.out, setf_1 Z.out] <;> rfl) rfl ?_
        exact ⟨rfl, below_set2K T.out (Nat.le_refl _)⟩
      have hb2 := inB_iff.1 hi
      rw [hi] at HI
      clear hi
      by_cases hl1 : k + 1 = L.length
      · have hl1' : (k : Int) = (L.length : Int) - 1 := by omega
        have hl2 : ((k : Int) == (L.length : Int) - 1) = true := by simpa using hl1'
        by_cases hx1 : x = 1
        · have hE := hno (HAT.out (.inr ⟨by omega, hx1⟩))
          have hx1' : (x == 1) = true := by simpa using hx1
          subst hE
          clear HAT HN hx1 hl1' hl1 HRR
          go_wp2_with fail
          refine (HI.out _).mono ?_; rintro e w' ⟨rfl, rfl⟩
          go_wp2_with fail
          refine bodyPost_ret (v := .tuple #[(.agg #[.int .i64 0, .int .i64 0]), (.int .i64 2)]) (by simp [results, Try.results23, go_sem, setf_0 Z.out, setf_1 Z.out] <;> rfl) rfl ?_
          exact ⟨rfl, below_set2K T.out (Nat.le_refl _)⟩
        · have hx1' : (x == 1) = false := by simpa using hx1
          have HN2 := Lib.hid (HN.out hb2 (fun _ => hx1))
          clear hno HAT HN hx1 hl1'
          go_wp2_with fail
          refine (HI.out _).mono ?_; rintro e w' ⟨rfl, rfl⟩
          go_wp2_with fail
          go_roundw
          case rel => exact ⟨k + 1, by go_num, HN2, T, Z, R⟩
          case measure => simp [intOf]; omega
      · have hl2 : ((k : Int) == (L.length : Int) - 1) = false := by simp; omega
        have HN2 := Lib.hid (HN.out hb2 (fun h => by omega))
        clear hno HAT HN hl1
        go_wp2_with fail
        refine (HI.out _).mono ?_; rintro e w' ⟨rfl, rfl⟩
        go_wp2_with fail
        go_roundw
        case rel => exact ⟨k + 1, by go_num, HN2, T, Z, R⟩
        case measure => simp [intOf]; omega
    · have hk' : ¬ (k : Int) < (L.length : Int) := by omega
      obtain rfl : k = L.length := by have := HS.out.kn; omega
      have hcB := HS.out.done (by omega) HF.out
      have hC := contB_iff.1 hcB
      have HV := Lib.hid (fun W h => l03ConvergentsG_any (some ⟨b, 0, none⟩) cap B L W h hC.n2 hC.e)
      obtain ⟨M, hM⟩ : ∃ M, L.length = M + 1 := ⟨L.length - 1, by have := hC.n1; omega⟩
      have hM1 : ((M : Int) + 1 - 1) = (M : Int) := by omega
      have hMb : M ≤ 1000 := by omega
      cases hv : cvB L 1 0 0 1
      · obtain rfl : RR = ((0, 0), 3) := by rw [← HRR.out]; simp [fcRes, hcB, hv]
        rw [show cvRes L = ([], 3) by simp [cvRes, hv], hv] at HV
        generalize L.length = nn at *
        subst hM
        clear hcB hv hC hno HRR
        go_wp2_with fail
        refine (HV.out _ R.out).mono ?_; rintro e w2 ⟨v, rfl, -, hb2⟩
        replace T := Lib.hid (bfin T.out hb2)
        replace Z := Lib.hid (Z.out.below hb2)
        obtain ⟨⟨c0, c1⟩, ⟨f0, f1⟩, hlz⟩ := Z.out.open_
        clear hb2 R
        go_wp2_with fail
        refine bodyPost_ret (v := .tuple #[(.agg #[.int .i64 0, .int .i64 0]), (.int .i64 3)]) (by simp [results, Try.results23, go_sem, setf_0 Z.out, setf_1 Z.out] <;> rfl) rfl ?_
        exact ⟨rfl, below_set2K T.out (Nat.le_refl _)⟩
      · obtain rfl : RR = (((cv L).p, (cv L).q), 0) := by rw [← HRR.out]; simp [fcRes, hcB, hv]
        clear HRR
        rw [show cvRes L = (convL L 1 0 0 1, 0) by simp [cvRes, hv], hv] at HV
        have hE := Lib.hid (flat2_at (conv_at hM))
        rw [show (convL L 1 0 0 1, (0 : Int)).1.length = M + 1 by simp [convL_len, hM]] at HV
        generalize convL L 1 0 0 1 = C at *
        generalize L.length = nn at *
        subst hM
        clear hcB hv hC hno
        go_wp2_with fail
        refine (HV.out _ R.out).mono ?_; rintro e w2 ⟨v, rfl, ho, hb2⟩
        replace T := Lib.hid (bfin T.out hb2)
        replace Z := Lib.hid (Z.out.below hb2)
        obtain ⟨A2, cap2, rfl, -, -, hat⟩ := own_view ho
        obtain ⟨g, rfl, -, hgl, hcell, -⟩ := hat (by omega)
        have d0 := hcell _ _ hE.out.1
        have d1 := hcell _ _ hE.out.2
        obtain ⟨⟨c0, c1⟩, ⟨f0, f1⟩, hlz⟩ := Z.out.open_
        clear hb2 R ho hat hcell hE
        go_wp2_with fail
        refine bodyPost_ret (v := .tuple #[(.agg #[.int .i64 ((cv L).p), .int .i64 ((cv L).q)]), (.int .i64 0)]) (by simp [results, Try.results23, go_sem, setf_0 Z.out, setf_1 Z.out] <;> rfl) rfl ?_
        exact ⟨rfl, below_set2K T.out (Nat.le_refl _)⟩
end Go.Proofs.Ytjnkogkpdbgohaa
