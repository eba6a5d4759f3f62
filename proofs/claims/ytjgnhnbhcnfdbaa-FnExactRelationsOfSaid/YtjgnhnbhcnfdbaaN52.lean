/- Plain: cycles along a list of places; the numbers of cusps. -/
import Derived.Test.YtjgnhnbhcnfdbaaN50
namespace Go.Proofs.Ytjgnhnbhcnfdbaa
theorem getD_set_eq {N : List Int} {k i : Nat} {c : Int} (hk : k < N.length) : (N.set k c).getD i 0 = if i = k then c else N.getD i 0 := by
  simp only [List.getD_eq_getElem?_getD, List.getElem?_set]
  by_cases h : k = i
  · subst h; rw [if_pos rfl, if_pos hk, if_pos rfl]; rfl
  · rw [if_neg h, if_neg (fun e => h e.symm)]
/-- How many are not numbered yet. -/
def negs (N : List Int) : Nat := N.countP fun x => decide (x < 0)
theorem negs_set {N : List Int} {k : Nat} {c : Int} (hk : k < N.length) (h : N.getD k 0 < 0) (hc : 0 ≤ c) : negs (N.set k c) + 1 = negs N := by
  unfold negs
  have e : N[k] < 0 := by simpa [List.getD, List.getElem?_eq_getElem hk] using h
  have h0 : 0 < N.countP fun x => decide (x < 0) := List.countP_pos_iff.2 ⟨N[k], List.getElem_mem hk, by simpa using e⟩
  rw [List.countP_set hk, if_pos (by simpa using e), if_neg (by simpa using hc)]
  omega
theorem negs_le (N : List Int) : negs N ≤ N.length := List.countP_le_length
theorem negs_pos {N : List Int} {k : Nat} (hk : k < N.length) (h : N.getD k 0 < 0) : 0 < negs N := by
  have e : N[k] < 0 := by simpa [List.getD, List.getElem?_eq_getElem hk] using h
  exact List.countP_pos_iff.2 ⟨N[k], List.getElem_mem hk, by simpa using e⟩
/-- The place behind k. -/
def pk (p : List Int) (k : Nat) : Nat := (p.getD k 0).toNat
/-- Numbers from k on, along p, up to a numbered one. -/
def chainN (p : List Int) (c : Int) : Nat → List Int → Nat → List Int
  | 0, N, _ => N
  | f + 1, N, k => if N.getD k 0 < 0 then chainN p c f (N.set k c) (pk p k) else N
theorem chainN_stop {p N : List Int} {c : Int} {f k : Nat} (h : ¬ N.getD k 0 < 0) : chainN p c f N k = N := by
  cases f with
  | zero => rfl
  | succ f => unfold chainN; rw [if_neg h]
theorem chainN_go {p N : List Int} {c : Int} {f k : Nat} (h : N.getD k 0 < 0) : chainN p c (f + 1) N k = chainN p c f (N.set k c) (pk p k) := by
  show (if N.getD k 0 < 0 then _ else _) = _
  rw [if_pos h]
structure PIn (p : List Int) : Prop where
  lo : ∀ k, k < p.length → 0 ≤ p.getD k 0
  hi : ∀ k, k < p.length → p.getD k 0 < p.length
theorem PIn.pk_lt {p : List Int} (h : PIn p) {k : Nat} (hk : k < p.length) : pk p k < p.length ∧ p.getD k 0 = (pk p k : Nat) := by
  have h1 := h.lo k hk
  have h2 := h.hi k hk
  unfold pk
  omega
/-- One place along: with a ghost g that is enough. -/
structure ChAt2 (p : List Int) (c : Int) (NF : List Int) (g : Nat) (N : List Int) (k : Nat) (O : List Int) : Prop where
  len : N.length = p.length
  k0 : k < p.length
  fin : chainN p c g N k = NF
  ng : negs N ≤ g
  nd : O.Nodup
  mem : ∀ x : Int, x ∈ O ↔ 0 ≤ x ∧ x < p.length ∧ N.getD x.toNat 0 = c
theorem ChAt2.olen {p N NF O : List Int} {c : Int} {g k : Nat} (h : ChAt2 p c NF g N k O) : O.length ≤ p.length := by
  have h3 : O ⊆ (List.range p.length).map (fun i : Nat => (i : Int)) := fun x hx => by
    have := (h.mem x).1 hx
    refine List.mem_map.2 ⟨x.toNat, by simp; omega, by omega⟩
  simpa using h.nd.length_le_of_subset h3
theorem ChAt2.lt {p N NF O : List Int} {c : Int} {g k : Nat} (h : ChAt2 p c NF g N k O) (hN : N.getD k 0 < 0) (hc : 0 ≤ c) : O.length < p.length := by
  have h3 : ((k : Nat) : Int) :: O ⊆ (List.range p.length).map (fun i : Nat => (i : Int)) := fun x hx => by
    have h0 := h.k0
    rcases List.mem_cons.1 hx with rfl | hx
    · exact List.mem_map.2 ⟨k, by simpa using h0, rfl⟩
    · have := (h.mem x).1 hx
      exact List.mem_map.2 ⟨x.toNat, by simp; omega, by omega⟩
  have h4 : (((k : Nat) : Int) :: O).Nodup := by
    refine List.nodup_cons.2 ⟨fun hm => ?_, h.nd⟩
    have := ((h.mem _).1 hm).2.2
    rw [Int.toNat_natCast] at this
    omega
  have h5 := h4.length_le_of_subset h3
  simp at h5
  omega
theorem ChAt2.next {p N NF O : List Int} {c : Int} {g k : Nat} (h : ChAt2 p c NF g N k O) (hp : PIn p) (hN : N.getD k 0 < 0) (hc : 0 ≤ c) : ∃ g', g = g' + 1 ∧ ChAt2 p c NF g' (N.set k c) (pk p k) (O ++ [(k : Int)]) := by
  obtain ⟨len, k0, fin, ng, nd, mem⟩ := h
  have hkN : k < N.length := by omega
  have hpos := negs_pos hkN hN
  have hset := negs_set hkN hN hc
  obtain ⟨g', rfl⟩ : ∃ g', g = g' + 1 := ⟨g - 1, by omega⟩
  refine ⟨g', rfl, by simpa using len, (hp.pk_lt k0).1, by rw [← fin, chainN_go hN], by omega, ?_, ?_⟩
  · rw [List.nodup_append]
    refine ⟨nd, by simp, ?_⟩
    intro a ha b hb e
    simp at hb
    subst e; subst hb
    have := ((mem _).1 ha).2.2
    rw [Int.toNat_natCast] at this
    omega
  · intro x
    rw [List.mem_append, mem, getD_set_eq hkN]
    simp only [List.mem_singleton]
    constructor
    · rintro (⟨h1, h2, h3⟩ | rfl)
      · refine ⟨h1, h2, ?_⟩
        split
        · rfl
        · exact h3
      · rw [Int.toNat_natCast, if_pos rfl]
        exact ⟨by omega, by omega, rfl⟩
    · rintro ⟨h1, h2, h3⟩
      by_cases e : x.toNat = k
      · right; omega
      · rw [if_neg e] at h3
        exact .inl ⟨h1, h2, h3⟩
theorem ChAt2.stop {p N NF O : List Int} {c : Int} {g k : Nat} (h : ChAt2 p c NF g N k O) (hN : ¬ N.getD k 0 < 0) : NF = N := by rw [← h.fin, chainN_stop hN]
/-- The places with the number c. -/
def idxs (N : List Int) (c : Int) : List Int := ((List.range N.length).filter fun i => N.getD i 0 == c).map fun i : Nat => (i : Int)
theorem idxs_mem {N : List Int} {c x : Int} : x ∈ idxs N c ↔ 0 ≤ x ∧ x < N.length ∧ N.getD x.toNat 0 = c := by
  unfold idxs
  simp only [List.mem_map, List.mem_filter, List.mem_range, beq_iff_eq]
  constructor
  · rintro ⟨i, ⟨h1, h2⟩, rfl⟩
    rw [Int.toNat_natCast]; exact ⟨by omega, by omega, h2⟩
  · rintro ⟨h1, h2, h3⟩
    exact ⟨x.toNat, ⟨by omega, h3⟩, by omega⟩
theorem idxs_sorted (N : List Int) (c : Int) : (idxs N c).Pairwise (· < ·) := by
  unfold idxs
  rw [List.pairwise_map]
  refine List.Pairwise.imp ?_ (List.Pairwise.filter _ List.pairwise_lt_range)
  intro a b h; omega
theorem idxs_len (N : List Int) (c : Int) : (idxs N c).length ≤ N.length := by
  unfold idxs
  rw [List.length_map]
  exact Nat.le_trans (List.length_filter_le _ _) (by simp)
theorem idxs_nodup (N : List Int) (c : Int) : (idxs N c).Nodup := by
  rw [List.nodup_iff_pairwise_ne]
  exact List.Pairwise.imp (fun h e => by omega) (idxs_sorted N c)
/-- Whatever is sorted and holds the places is their list. -/
theorem idxs_uniq {N O S : List Int} {c : Int} (hnd : O.Nodup) (hm : ∀ x : Int, x ∈ O ↔ 0 ≤ x ∧ x < N.length ∧ N.getD x.toNat 0 = c) (hp : S.Perm O) (hs : S.Pairwise (· ≤ ·)) : S = idxs N c := by
  refine List.Perm.eq_of_pairwise (le := (· ≤ ·)) (fun a b _ _ h1 h2 => by omega) hs (List.Pairwise.imp (fun h => by omega) (idxs_sorted N c)) (hp.trans ?_)
  refine (List.perm_ext_iff_of_nodup hnd (idxs_nodup N c)).2 fun x => ?_
  rw [hm, idxs_mem]
theorem chainN_len (p : List Int) (c : Int) : ∀ (f : Nat) (N : List Int) (k : Nat), (chainN p c f N k).length = N.length
  | 0, _, _ => rfl
  | f + 1, N, k => by
    unfold chainN
    split
    · rw [chainN_len p c f]; simp
    · rfl
theorem chainN_get {p : List Int} {c : Int} (hp : PIn p) : ∀ (f : Nat) (N : List Int) (k : Nat), N.length = p.length → k < p.length → ∀ i, i < p.length → (chainN p c f N k).getD i 0 = N.getD i 0 ∨ (N.getD i 0 < 0 ∧ (chainN p c f N k).getD i 0 = c)
  | 0, _, _, _, _, _, _ => .inl rfl
  | f + 1, N, k, hl, hk, i, hi => by
    unfold chainN
    split
    · rename_i hN
      have hkN : k < N.length := by omega
      rcases chainN_get hp f (N.set k c) (pk p k) (by simpa using hl) (hp.pk_lt hk).1 i hi with h | ⟨h1, h2⟩
      · rw [getD_set_eq hkN] at h
        by_cases e : i = k
        · subst e; rw [if_pos rfl] at h; exact .inr ⟨hN, h⟩
        · rw [if_neg e] at h; exact .inl h
      · rw [getD_set_eq hkN] at h1
        by_cases e : i = k
        · subst e; exact .inr ⟨hN, h2⟩
        · rw [if_neg e] at h1; exact .inr ⟨h1, h2⟩
    · exact .inl rfl
/-- The first k places are numbered: the numbers, and how many there are. -/
def cusN (p : List Int) : Nat → List Int × Int
  | 0 => (List.replicate p.length (-1), 0)
  | i + 1 => if (cusN p i).1.getD i 0 < 0 then (chainN p (cusN p i).2 p.length (cusN p i).1 i, (cusN p i).2 + 1) else cusN p i
structure CusInv (p : List Int) (i : Nat) (N : List Int) (c : Int) : Prop where
  len : N.length = p.length
  c0 : 0 ≤ c
  c1 : c ≤ i
  lo : ∀ j, j < p.length → -1 ≤ N.getD j 0
  hi : ∀ j, j < p.length → N.getD j 0 < c
  met : ∀ j, j < p.length → j < i → 0 ≤ N.getD j 0
theorem cusN_go {p : List Int} {i : Nat} (h : (cusN p i).1.getD i 0 < 0) : cusN p (i + 1) = (chainN p (cusN p i).2 p.length (cusN p i).1 i, (cusN p i).2 + 1) := by
  show (if _ then _ else _) = _
  rw [if_pos h]
theorem cusN_no {p : List Int} {i : Nat} (h : ¬ (cusN p i).1.getD i 0 < 0) : cusN p (i + 1) = cusN p i := by
  show (if _ then _ else _) = _
  rw [if_neg h]
theorem chainN_first {p N : List Int} {c : Int} {f k : Nat} (hp : PIn p) (hl : N.length = p.length) (hk : k < p.length) (hN : N.getD k 0 < 0) (_ : 0 ≤ c) : (chainN p c (f + 1) N k).getD k 0 = c := by
  rw [chainN_go hN]
  have hkN : k < N.length := by omega
  have h := chainN_get (c := c) hp f (N.set k c) (pk p k) (by simpa using hl) (hp.pk_lt hk).1 k hk
  rw [getD_set_eq hkN, if_pos rfl] at h
  rcases h with h | ⟨h1, _⟩
  · exact h
  · omega
theorem cusInv {p : List Int} (hp : PIn p) : ∀ i, i ≤ p.length → CusInv p i (cusN p i).1 (cusN p i).2
  | 0, _ => by
    have e : ∀ j, j < p.length → (List.replicate p.length (-1 : Int)).getD j 0 = -1 := fun j hj => by simp [List.getD, hj]
    exact ⟨by simp [cusN], Int.le_refl _, by simp [cusN], fun j hj => by show -1 ≤ (List.replicate p.length (-1 : Int)).getD j 0; rw [e j hj]; omega, fun j hj => by show (List.replicate p.length (-1 : Int)).getD j 0 < 0; rw [e j hj]; omega, fun j _ h => by omega⟩
  | i + 1, hi => by
    obtain ⟨len, c0, c1, lo, hi', met⟩ := cusInv hp i (by omega)
    by_cases hN : (cusN p i).1.getD i 0 < 0
    · rw [cusN_go hN]
      generalize (cusN p i).1 = N at *
      generalize (cusN p i).2 = c at *
      have hg := fun j hj => chainN_get (c := c) hp p.length N i len (by omega) j hj
      have hl0 : 0 < p.length := by omega
      obtain ⟨f, hf⟩ : ∃ f, p.length = f + 1 := ⟨p.length - 1, by omega⟩
      have hfi : (chainN p c p.length N i).getD i 0 = c := by rw [hf]; exact chainN_first hp len (by omega) hN c0
      refine ⟨by rw [chainN_len]; exact len, by simp only; omega, by simp only; push_cast; omega, fun j hj => ?_, fun j hj => ?_, fun j hj hji => ?_⟩
      · simp only
        rcases hg j hj with h | ⟨_, h⟩ <;> rw [h]
        · exact lo j hj
        · omega
      · simp only
        rcases hg j hj with h | ⟨_, h⟩ <;> rw [h]
        · have := hi' j hj; omega
        · omega
      · simp only
        by_cases e : j = i
        · subst e; rw [hfi]; exact c0
        · have hm := met j hj (by omega)
          rcases hg j hj with h | ⟨h1, _⟩
          · rw [h]; exact hm
          · omega
    · rw [cusN_no hN]
      refine ⟨len, c0, by push_cast; omega, lo, hi', fun j hj hji => ?_⟩
      by_cases e : j = i
      · subst e; omega
      · exact met j hj (by omega)
/-- The elder places keep. -/
theorem idxs_old {p N : List Int} {c d : Int} {f k : Nat} (hp : PIn p) (hl : N.length = p.length) (hk : k < p.length) (hd : 0 ≤ d) (hdc : d ≠ c) : idxs (chainN p c f N k) d = idxs N d := by
  unfold idxs
  rw [chainN_len]
  congr 1
  refine List.filter_congr fun i hi => ?_
  simp only [List.mem_range] at hi
  rw [Bool.eq_iff_iff, beq_iff_eq, beq_iff_eq]
  rcases chainN_get (c := c) hp f N k hl hk i (by omega) with h | ⟨h1, h2⟩
  · rw [h]
  · rw [h2]; omega
/-- The rows of the first d numbers. -/
def rowsC (N : List Int) : Nat → List (List Int)
  | 0 => []
  | d + 1 => rowsC N d ++ [idxs N d]
theorem rowsC_len (N : List Int) (d : Nat) : (rowsC N d).length = d := by
  induction d with
  | zero => rfl
  | succ d ih => simp [rowsC, ih]
theorem rowsC_at {N : List Int} {d j : Nat} (h : j < d) : (rowsC N d).getD j [] = idxs N j := by
  induction d with
  | zero => omega
  | succ d ih =>
    unfold rowsC
    by_cases e : j = d
    · subst e
      simp [List.getD, rowsC_len]
    · have hj : j < d := by omega
      rw [← ih hj]
      simp only [List.getD_eq_getElem?_getD]
      rw [List.getElem?_append_left (by rw [rowsC_len]; exact hj)]
theorem rowsC_old {p N : List Int} {c : Int} {f k : Nat} (hp : PIn p) (hl : N.length = p.length) (hk : k < p.length) : ∀ d : Nat, (d : Int) ≤ c → rowsC (chainN p c f N k) d = rowsC N d
  | 0, _ => rfl
  | d + 1, hd => by
    unfold rowsC
    rw [rowsC_old hp hl hk d (by omega), idxs_old hp hl hk (by omega) (by omega)]
def cusL (p : List Int) : List (List Int) := rowsC (cusN p p.length).1 (cusN p p.length).2.toNat
/-! ### Cycles are whole -/
def Closed (p N : List Int) : Prop := ∀ k, k < p.length → 0 ≤ N.getD k 0 → N.getD (pk p k) 0 = N.getD k 0
def itP (p : List Int) : Nat → Nat → Nat
  | 0, k => k
  | t + 1, k => itP p t (pk p k)
theorem itP_lt {p : List Int} (hp : PIn p) : ∀ t k, k < p.length → itP p t k < p.length
  | 0, _, h => h
  | t + 1, _, h => itP_lt hp t _ (hp.pk_lt h).1
theorem itP_old {p N : List Int} {c d : Int} (hp : PIn p) (hc : ∀ k, k < p.length → 0 ≤ N.getD k 0 → N.getD k 0 ≠ c → N.getD (pk p k) 0 = N.getD k 0) (hd : 0 ≤ d) (hdc : d ≠ c) : ∀ t k, k < p.length → N.getD k 0 = d → N.getD (itP p t k) 0 = d
  | 0, _, _, h => h
  | t + 1, k, hk, h => itP_old hp hc hd hdc t _ (hp.pk_lt hk).1 (by rw [hc k hk (by omega) (by omega)]; exact h)
structure ClAt (p : List Int) (c : Int) (N : List Int) (k : Nat) : Prop where
  len : N.length = p.length
  k0 : k < p.length
  old : ∀ j, j < p.length → 0 ≤ N.getD j 0 → N.getD j 0 ≠ c → N.getD (pk p j) 0 = N.getD j 0
  new : ∀ j, j < p.length → N.getD j 0 = c → N.getD (pk p j) 0 = c ∨ pk p j = k
  come : N.getD k 0 < 0 ∨ ∃ j, j < p.length ∧ N.getD j 0 = c ∧ pk p j = k
theorem chain_closed {p : List Int} {c : Int} {m : Nat} (hp : PIn p) (hc : 0 ≤ c) (hm : ∀ k, k < p.length → itP p (m + 1) k = k) : ∀ (f : Nat) (N : List Int) (k : Nat), negs N ≤ f → ClAt p c N k → Closed p (chainN p c f N k) := by
  have stop : ∀ (N : List Int) (k : Nat), ClAt p c N k → ¬ N.getD k 0 < 0 → Closed p N := by
    rintro N k ⟨len, k0, old, new, come⟩ hN
    have hkc : N.getD k 0 = c := by
      refine Classical.byContradiction fun hne => ?_
      rcases come with h | ⟨j, hj, hjc, e⟩
      · exact hN h
      · have h1 := itP_old hp old (show 0 ≤ N.getD k 0 by omega) hne m k k0 rfl
        have h2 := hm j hj
        unfold itP at h2
        rw [e] at h2
        rw [h2, hjc] at h1
        exact hne h1.symm
    intro j hj hj0
    by_cases e : N.getD j 0 = c
    · rcases new j hj e with h | h
      · rw [h, e]
      · rw [h, hkc, e]
    · exact old j hj hj0 e
  intro f
  induction f with
  | zero =>
    intro N k hn h
    refine stop N k h fun hN => ?_
    have := negs_pos (show k < N.length by have := h.len; have := h.k0; omega) hN
    omega
  | succ f ih =>
    intro N k hn h
    by_cases hN : N.getD k 0 < 0
    · rw [chainN_go hN]
      obtain ⟨len, k0, old, new, come⟩ := h
      have hkN : k < N.length := by omega
      have hset := negs_set hkN hN hc
      have hnk : ∀ j, j < p.length → 0 ≤ N.getD j 0 → j ≠ k := fun j _ hj0 e => by subst e; omega
      refine ih _ _ (by omega) ⟨by simpa using len, (hp.pk_lt k0).1, fun j hj hj0 hjc => ?_, fun j hj hjc => ?_, ?_⟩
      · rw [getD_set_eq hkN] at hj0 hjc ⊢
        rw [getD_set_eq hkN]
        by_cases e : j = k
        · subst e; rw [if_pos rfl] at hjc; exact absurd rfl hjc
        · rw [if_neg e] at hj0 hjc ⊢
          have h1 := old j hj hj0 hjc
          rw [if_neg (fun e2 => by rw [e2] at h1; omega), h1]
      · rw [getD_set_eq hkN] at hjc ⊢
        by_cases e : j = k
        · subst e; exact .inr rfl
        · rw [if_neg e] at hjc
          rcases new j hj hjc with h1 | h1
          · left; split
            · rfl
            · exact h1
          · left; rw [if_pos h1]
      · exact .inr ⟨k, k0, by rw [getD_set_eq hkN, if_pos rfl], rfl⟩
    · rw [chainN_stop hN]
      exact stop N k h hN
theorem cus_closed {p : List Int} {m : Nat} (hp : PIn p) (hm : ∀ k, k < p.length → itP p (m + 1) k = k) : ∀ i, i ≤ p.length → Closed p (cusN p i).1
  | 0, _ => fun k hk h => by
    have e : (List.replicate p.length (-1 : Int)).getD k 0 = -1 := by simp [List.getD, hk]
    have h' : 0 ≤ (List.replicate p.length (-1 : Int)).getD k 0 := h
    rw [e] at h'; omega
  | i + 1, hi => by
    have ih := cus_closed hp hm i (by omega)
    obtain ⟨len, c0, c1, lo, hi', met⟩ := cusInv hp i (by omega)
    by_cases hN : (cusN p i).1.getD i 0 < 0
    · rw [cusN_go hN]
      refine chain_closed hp c0 hm _ _ _ (by have := negs_le (cusN p i).1; omega) ⟨len, by omega, fun j hj h0 _ => ih j hj h0, fun j hj hjc => ?_, .inl hN⟩
      have := hi' j hj
      omega
    · rw [cusN_no hN]; exact ih
theorem itP_same {p N : List Int} (hp : PIn p) (hc : Closed p N) (hall : ∀ k, k < p.length → 0 ≤ N.getD k 0) : ∀ t k, k < p.length → N.getD (itP p t k) 0 = N.getD k 0
  | 0, _, _ => rfl
  | t + 1, k, hk => by
    show N.getD (itP p t (pk p k)) 0 = _
    rw [itP_same hp hc hall t _ (hp.pk_lt hk).1, hc k hk (hall k hk)]
end Go.Proofs.Ytjgnhnbhcnfdbaa
