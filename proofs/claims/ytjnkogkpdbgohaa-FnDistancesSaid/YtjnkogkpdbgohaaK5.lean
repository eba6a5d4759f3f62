/- Contracts: whether a list is a continued fraction; the fraction of a list. -/
import Derived.Test.YtjnkogkpdbgohaaK4
namespace Go.Proofs.Ytjnkogkpdbgohaa
open Go.RowKit
def contB (L : List Int) : Bool := decide (1 ≤ L.length) && (decide (L.length ≤ 60) && (L.all entB && (decide (L.length ≤ 1 ∨ 2 ≤ L.getD (L.length - 1) 0) && L.tail.all fun x => decide (1 ≤ x))))
theorem last_getD {L : List Int} (h : 1 ≤ L.length) : L.getLast? = some (L.getD (L.length - 1) 0) := by
  rw [List.getLast?_eq_getElem?, List.getD, List.getElem?_eq_getElem (by omega)]; rfl
theorem contB_iff {L : List Int} : contB L = true ↔ Cont L := by
  unfold contB
  simp only [Bool.and_eq_true, decide_eq_true_eq, List.all_eq_true]
  constructor
  · rintro ⟨h1, h2, h3, h4, h5⟩
    refine ⟨h1, h2, fun x hx => e9_iff.1 (h3 x hx), h5, fun h x hx => ?_⟩
    rw [last_getD h1] at hx
    injection hx with hx
    rcases h4 with h4 | h4 <;> omega
  · rintro ⟨h1, h2, h3, h4, h5⟩
    refine ⟨h1, h2, fun x hx => e9_iff.2 (h3 x hx), ?_, h4⟩
    by_cases h : 1 < L.length
    · right; exact h5 h _ (last_getD h1)
    · left; omega
theorem allB_all {L : List Int} : (allB L.length fun i => entB (L.getD i 0)) = L.all entB := by
  rw [Bool.eq_iff_iff]
  unfold allB
  simp only [List.all_eq_true, List.mem_range]
  constructor
  · intro h x hx
    obtain ⟨j, hj, rfl⟩ := List.getElem_of_mem hx
    have := h j hj
    rwa [List.getD, List.getElem?_eq_getElem hj] at this
  · intro h i hi
    exact h _ (getD_memK hi)
theorem min_tail {L : List Int} {m : Int} (h : ∀ x ∈ 1 :: L.tail, m ≤ x) (hm : m ∈ 1 :: L.tail) : decide (1 ≤ m) = L.tail.all fun x => decide (1 ≤ x) := by
  rw [Bool.eq_iff_iff]
  simp only [decide_eq_true_eq, List.all_eq_true]
  constructor
  · intro h1 x hx
    have := h x (List.mem_cons_of_mem _ hx)
    omega
  · intro h1
    rcases List.mem_cons.1 hm with h2 | h2
    · omega
    · exact h1 m h2
/-- append of a whole row that lies anywhere in its block. -/
theorem app_off {P : Program} {ops : Array Oper} {rest : List Oper} {o : Oper} {a : Act} {Q : Exit → Act → World → Prop} {w0 wr : World} {B n m b f cap size bytes : Nat} {t e : TypeId} {z v : Value} {xs news : List Value}
    (hE : Elem P t e z size bytes) (hgd : o.guard = none) (s x : Operand) (ho : o.op = .call { callee := .builtin .append, args := #[s, x], argTypes := #[t, t] })
    (hs : a.eval s = v) (hx : a.eval x = .slice (some ⟨b, f, none⟩) m cap) (hown : wr.ownsRow B e size v n xs) (hb : Below B w0 wr) (hl : news.length = m * size)
    (hc : ∀ j u, news[j]? = some u → wr.cell? ⟨b, f + j, none⟩ = some u) (h1 : ∀ u ∈ news, u.oneCell' = true) (hB : B ≤ wr.heap.size) (hn : n + m ≤ 1000000000)
    (h : ∀ v' w', w'.ownsRow B e size v' (n + m) (xs ++ news) → Below B w0 w' → App wr w' v v' → wpList P ops Q rest (a.put o.dst v') w') : wpList P ops Q (o :: rest) a wr := by
  obtain ⟨hu, ⟨i, hi, hz, hsz, hby⟩, hzc, hpos, hsm⟩ := hE
  have hmul : (n + m) * bytes ≤ (n + m) * 100 := Nat.mul_le_mul_left _ hsm
  refine wpList_append_own_at (P := P) _ hgd s x t ho B e i z size bytes hu hi hz hsz hby hzc hpos v n xs hs hown ⟨b, f, none⟩ m cap news hx hl ?_ h1 (by unfold maxLen; omega) (by omega) hB ?_
  · intro j u hu
    have e : (⟨b, f, none⟩ : Addr).add j = ⟨b, f + j, none⟩ := by unfold Addr.add; split <;> simp_all
    rw [e]
    exact hc j u hu
  · intro v' w' h2 h3 _ h5
    refine h v' w' h2 (hb.grown h3 hB (fun k hk => (hown.lt k hk).1)) ⟨h3, fun k hk => ?_⟩
    rcases h5 with h5 | h5
    · exact .inl (by rw [← h5]; exact hk)
    · rw [h5] at hk; injection hk with hk; subst hk; right; exact Nat.le_refl _
set_option maxRecDepth 100000 in
set_option maxHeartbeats 2000000 in
theorem isContinued_any (A : Option Addr) (cap B : Nat) (L : List Int) (w : World) (hl : L.length ≤ 1000) (hcap : L.length ≤ cap) (hcm : cap ≤ maxLen) (h : RowAt w B A L.length (ints L)) :
    Calls Try.prog 31 #[.slice A L.length cap] w fun e w' => e = .returned (.bool (contB L)) ∧ Below w.heap.size w w' := by
  have HR := Lib.hid h
  clear h
  by_cases h1 : L.length < 1
  · rw [show contB L = false by unfold contB; rw [decide_eq_false (show ¬ 1 ≤ L.length by omega)]; rfl]
    have h1' : ((L.length : Nat) : Int) < 1 := by omega
    go_enter Try.func31, Try.ntmps31
    go_wp2_with fail
    go_ret
    exact ⟨rfl, by go_grown⟩
  have h1' : ¬ ((L.length : Nat) : Int) < 1 := by omega
  by_cases h2 : 60 < L.length
  · rw [show contB L = false by unfold contB; rw [decide_eq_false (show ¬ L.length ≤ 60 by omega)]; simp]
    have h2' : (60 : Int) < ((L.length : Nat) : Int) := by omega
    go_enter Try.func31, Try.ntmps31
    go_wp2_with fail
    go_ret
    exact ⟨rfl, by go_grown⟩
  have h2' : ¬ (60 : Int) < ((L.length : Nat) : Int) := by omega
  obtain ⟨b, rfl, -, hbl, hc, -⟩ := HR.out (by omega)
  have HC := Lib.hid (fun k (hk : k < L.length) => hc k _ (ints_at hk))
  have HE := Lib.hid (areEntries_any b 0 cap L.length (fun i => L.getD i 0) w (by omega) (fun i hi => by rw [Nat.zero_add]; exact HC.out i hi))
  rw [allB_all] at HE
  have hcb : contB L = (L.all entB && (decide (L.length ≤ 1 ∨ 2 ≤ L.getD (L.length - 1) 0) && L.tail.all fun x => decide (1 ≤ x))) := by
    unfold contB
    rw [decide_eq_true (show 1 ≤ L.length by omega), decide_eq_true (show L.length ≤ 60 by omega)]; rfl
  rw [hcb]
  clear hc hcb
  cases hE : L.all entB
  · rw [hE] at HE
    clear hE
    go_enter Try.func31, Try.ntmps31
    go_wp2_with fail
    refine HE.out.mono ?_; rintro e w' ⟨rfl, rfl⟩
    go_wp2_with fail
    go_ret
    exact ⟨rfl, by go_grown⟩
  rw [hE] at HE
  clear hE
  have hcz := HC.out (L.length - 1) (by omega)
  generalize hz : L.getD (L.length - 1) 0 = z at *
  obtain ⟨M, hM⟩ : ∃ M, L.length = M + 1 := ⟨L.length - 1, by omega⟩
  have hM1 : ((M : Int) + 1 - 1) = (M : Int) := by omega
  have HX := Lib.hid (fun A cap B W h1 h => minI_any A cap B (1 :: L.tail) W h1 (by simp) h)
  have HMT := Lib.hid (fun m => min_tail (L := L) (m := m))
  have HTC := Lib.hid (show ∀ j u, (ints L.tail)[j]? = some u → w.cell? ⟨b, 1 + j, none⟩ = some u from fun j u hu => by
    have hj : j < L.tail.length := by
      have := (List.getElem?_eq_some_iff.1 hu).1
      simpa [ints] using this
    have h2 := HC.out (j + 1) (by simp at hj; omega)
    rw [Nat.add_comm 1 j, h2]
    have e : L.getD (j + 1) 0 = L.tail.getD j 0 := by
      cases L with
      | nil => simp at hM
      | cons x l => simp [List.getD]
    rw [e, ← hu, ints_at hj])
  have hlT : L.tail.length = M := by simp; omega
  rw [hM, show M + 1 - 1 = M by omega] at hcz
  rw [hM] at HE ⊢
  replace h1' : ¬ (M : Int) + 1 < 1 := by omega
  replace h2' : ¬ (60 : Int) < (M : Int) + 1 := by omega
  clear h1 h2
  have HTC2 := Lib.hid (show ∀ j u, (ints L.tail)[j]? = some u → (w.alloc (.cells #[(.int .i64 1)] 2)).cell? ⟨b, 1 + j, none⟩ = some u from fun j u hu => by
    have hA : Below w.heap.size w (w.alloc (.cells #[(.int .i64 1)] 2)) := (Below.refl _ w).alloc (Nat.le_refl _) _
    rw [hA.cell (p := ⟨b, 1 + j, none⟩) hbl]
    exact HTC.out j u hu)
  have hc1 : (1 : Nat) ≤ cap := by omega
  have hc2 : M + 1 ≤ cap := by omega
  have HOL := Lib.hid (show (w.alloc (.cells #[(.int .i64 1)] 2)).ownsRow w.heap.size 2 1 (.slice (some ⟨w.heap.size, 0, none⟩) 1 1) 1 (ints [1]) from World.ownsRow_lit w #[(.int .i64 1)] 1 (Nat.le_refl _) (by simp [maxLen]) rfl)
  have hBL : Below w.heap.size w (w.alloc (.cells #[(.int .i64 1)] 2)) := (Below.refl _ w).alloc (Nat.le_refl _) _
  have hSL : w.heap.size ≤ (w.alloc (.cells #[(.int .i64 1)] 2)).heap.size := hBL.size
  have HLT := Lib.hid (show (ints L.tail).length = M * 1 by simp [ints]; omega)
  by_cases hM0 : M = 0
  · by_cases hk1 : cap = 1
    · subst hk1
      have hM00 : M = 0 := by omega
      subst hM00
      have hd : decide (0 + 1 ≤ 1 ∨ 2 ≤ z) = true := decide_eq_true (by omega)
      have hTn : L.tail = [] := List.eq_nil_of_length_eq_zero hlT
      rw [hd, Bool.true_and, Bool.true_and, hTn]
      rw [hTn] at HX HMT
      clear hd hcz hM0 hc2 hM1 HTC HTC2 HLT
      obtain ⟨A2, cap2, e2, -, -, hat2⟩ := own_view HOL.out
      injection e2 with e2 e3 e4
      subst e2; subst e4
      have HR2 := Lib.hid hat2
      clear hat2
      go_enter Try.func31, Try.ntmps31
      go_wp2_with fail
      refine HE.out.mono ?_; rintro e w' ⟨rfl, rfl⟩
      go_wp2_with fail
      refine (HX.out _ 1 _ _ (by simp) HR2.out).mono ?_; rintro e w3 ⟨m, rfl, hm1, hm2, rfl⟩
      have HMM := Lib.hid (HMT.out m hm1 hm2)
      clear HX HMT HR2 hm1 hm2 HOL
      go_wp2_with fail
      go_ret
      exact ⟨ret_bool HMM.out, hBL⟩
    · have hk2 : 1 < cap := by omega
      have hd : decide (M + 1 ≤ 1 ∨ 2 ≤ z) = true := decide_eq_true (by omega)
      rw [hd, Bool.true_and, Bool.true_and]
      have hM2 : ¬ (1 : Int) < (M : Int) + 1 := by omega
      clear hd hcz hM0
      go_enter Try.func31, Try.ntmps31
      go_wp2_with fail
      refine HE.out.mono ?_; rintro e w' ⟨rfl, rfl⟩
      go_wp2_with (at_builtin; refine app_off elI2 rfl _ _ rfl rfl rfl HOL.out hBL HLT.out HTC2.out (ints_one _) hSL (by omega) ?_; intro v' w2 hown2 hb2 hg2; have HO2 := Lib.hid hown2; clear hown2 hg2)
      obtain ⟨A2, cap2, rfl, -, -, hat2⟩ := own_view HO2.out
      have hlen2 : 1 + M = (1 :: L.tail).length := by simp; omega
      rw [hlen2] at hat2 ⊢
      have HR2 := Lib.hid (show RowAt w2 w.heap.size A2 (1 :: L.tail).length (ints (1 :: L.tail)) from hat2)
      clear hat2
      have hlt3 : (1 :: L.tail).length ≤ 1000 := by simp; omega
      with_reducible refine (HX.out _ _ _ _ hlt3 HR2.out).mono ?_; rintro e w3 ⟨m, rfl, hm1, hm2, rfl⟩
      have HMM := Lib.hid (HMT.out m hm1 hm2)
      clear HX HMT HTC HTC2 HR2 hm1 hm2 HO2 HOL HLT
      go_wp2_with fail
      go_ret
      exact ⟨ret_bool HMM.out, hb2⟩
  · have hM2 : (1 : Int) < (M : Int) + 1 := by omega
    by_cases hz2 : z < 2
    · have hd : decide (M + 1 ≤ 1 ∨ 2 ≤ z) = false := decide_eq_false (by omega)
      rw [hd, Bool.true_and, Bool.false_and]
      clear hd
      go_enter Try.func31, Try.ntmps31
      go_wp2_with fail
      refine HE.out.mono ?_; rintro e w' ⟨rfl, rfl⟩
      go_wp2_with fail
      go_ret
      exact ⟨rfl, by go_grown⟩
    have hd : decide (M + 1 ≤ 1 ∨ 2 ≤ z) = true := decide_eq_true (by omega)
    rw [hd, Bool.true_and, Bool.true_and]
    have hk2 : 1 < cap := by omega
    clear hd
    go_enter Try.func31, Try.ntmps31
    go_wp2_with fail
    refine HE.out.mono ?_; rintro e w' ⟨rfl, rfl⟩
    go_wp2_with (at_builtin; refine app_off elI2 rfl _ _ rfl rfl rfl HOL.out hBL HLT.out HTC2.out (ints_one _) hSL (by omega) ?_; intro v' w2 hown2 hb2 hg2; have HO2 := Lib.hid hown2; clear hown2 hg2)
    obtain ⟨A2, cap2, rfl, -, -, hat2⟩ := own_view HO2.out
    have hlen2 : 1 + M = (1 :: L.tail).length := by simp; omega
    rw [hlen2] at hat2 ⊢
    have HR2 := Lib.hid (show RowAt w2 w.heap.size A2 (1 :: L.tail).length (ints (1 :: L.tail)) from hat2)
    clear hat2
    have hlt3 : (1 :: L.tail).length ≤ 1000 := by simp; omega
    with_reducible refine (HX.out _ _ _ _ hlt3 HR2.out).mono ?_; rintro e w3 ⟨m, rfl, hm1, hm2, rfl⟩
    have HMM := Lib.hid (HMT.out m hm1 hm2)
    clear HX HMT HTC HTC2 HR2 hm1 hm2 HO2 HOL HLT
    go_wp2_with fail
    go_ret
    exact ⟨ret_bool HMM.out, hb2⟩
end Go.Proofs.Ytjnkogkpdbgohaa
