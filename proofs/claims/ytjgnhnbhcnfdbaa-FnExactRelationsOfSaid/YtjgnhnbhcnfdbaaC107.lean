/- Contracts: the relations of a level, the model's own. -/
import Derived.Test.YtjgnhnbhcnfdbaaC106
namespace Go.Proofs.Ytjgnhnbhcnfdbaa
open Go.RowKit
theorem pair_UU {n c d : Int} (h : isPairB n c d = true) : isPairB n (d % n) ((-c - d) % n) = true :=
  pair_mod h (fun g h1 h2 _ => ⟨by
    have : c = -(-c - d) - d := by omega
    rw [this]; exact Int.dvd_sub (Int.dvd_neg.2 h2) h1, h1⟩)
theorem movUU_at {N k : Nat} (n0 : 0 < N) (n1 : N ≤ 60) (h : k < (lineL (N : Int)).length) : (movU N).getD ((movU N).getD k 0).toNat 0 = cosetI N (lineL N) (lineL (N : Int))[k].y (-(lineL (N : Int))[k].x - (lineL (N : Int))[k].y) := by
  rw [movU_at h]
  obtain ⟨r, hr, e, he⟩ := coset_get n0 (pair_U (line_bd n0 h).pair)
  rw [e, Int.toNat_natCast, movU_at hr, he]
  have := coset_lead (N := N) (l := lineL N) (c := (lineL (N : Int))[k].x + (lineL (N : Int))[k].y) (d := -(lineL (N : Int))[k].x) n0 n1 1 (-1) 1 0
  rw [Int.mul_one, Int.mul_one, Int.mul_zero, Int.add_zero, Int.mul_one, Int.mul_one, Int.mul_zero, Int.add_zero] at this
  generalize normal (N : Int) (((lineL (N : Int))[k].x + (lineL (N : Int))[k].y) % N) ((-(lineL (N : Int))[k].x) % N) = q at this ⊢
  rw [show q.x * -1 = -q.x by omega] at this
  rw [this]
  congr 1 <;> omega
/-- Rows of rows are kept where another row of rows turns. -/
theorem OwnsSS.kept2 {w w' : World} {B B' n z n1 : Nat} {ES EI : TypeId} {v v1 : Value} {inn xs : List Value} {len : Nat → Nat} {f : Nat → List Value} (h : OwnsSS w B ES EI v n inn len f) (h1 : w.ownsRow B' ES z v1 n1 xs) (hne : ES ≠ EI) (hd : ∀ b, v1.ownBlock = some b → v.ownBlock ≠ some b) (hg : w.grownBy w' v1.ownBlock) : OwnsSS w' B ES EI v n inn len f := by
  refine ⟨h.out.kept hg ?_, fun i u hi => (h.row i u hi).kept hg ?_, h.apart⟩
  · cases hv : v.ownBlock with
    | none => exact .inl rfl
    | some k => exact .inr fun e => hd k e.symm hv
  · cases hv : u.ownBlock with
    | none => exact .inl rfl
    | some k => exact .inr fun e => own_types h1 (h.row i u hi) hne k e.symm hv
/-- One row of rows is put behind another. -/
theorem SS.join {wr w' : World} {B n1 n2 : Nat} {v1 v2 v' : Value} {i1 i2 : List Value} {x1 x2 : List (List Int)} (h1 : SS wr B v1 n1 i1 (lenX x1) (intX x1)) (h2 : SS wr B v2 n2 i2 (lenX x2) (intX x2)) (l1 : x1.length = n1)
    (hap : ∀ (i j : Nat) (u u' : Value) (b : Nat), i1[i]? = some u → i2[j]? = some u' → u.ownBlock = some b → u'.ownBlock ≠ some b) (ho : w'.ownsRow B 38 1 v' (n1 + n2) (i1 ++ i2)) (hg : wr.grownBy w' v1.ownBlock) :
    SS w' B v' (n1 + n2) (i1 ++ i2) (lenX (x1 ++ x2)) (intX (x1 ++ x2)) := by
  have e1 := h1.lenE
  have key : ∀ i u, (i1 ++ i2)[i]? = some u → (i < n1 ∧ i1[i]? = some u) ∨ (n1 ≤ i ∧ i2[i - n1]? = some u) := fun i u hu => by
    by_cases hi : i < n1
    · rw [List.getElem?_append_left (by omega)] at hu; exact .inl ⟨hi, hu⟩
    · rw [List.getElem?_append_right (by omega), e1] at hu; exact .inr ⟨by omega, hu⟩
  have keep : ∀ {m : Nat} {x : Value} {xs : List Value}, wr.ownsRow B 2 1 x m xs → w'.ownsRow B 2 1 x m xs := fun {m x xs} hx => by
    refine hx.kept hg ?_
    cases hxb : x.ownBlock with
    | none => exact .inl rfl
    | some b => exact .inr fun e => own_types h1.out hx ss_ne b e.symm hxb
  refine ⟨ho, fun i u hu => ?_, fun i j u u' b hu hu' hb hb' => ?_⟩
  · rcases key i u hu with ⟨k1, k2⟩ | ⟨k1, k2⟩
    · have := keep (h1.row i u k2)
      unfold lenX intX at this ⊢
      simp only [List.getD_eq_getElem?_getD] at this ⊢
      rw [List.getElem?_append_left (by omega)]; exact this
    · have := keep (h2.row (i - n1) u k2)
      unfold lenX intX at this ⊢
      simp only [List.getD_eq_getElem?_getD] at this ⊢
      rw [List.getElem?_append_right (by omega), l1]; exact this
  · rcases key i u hu with ⟨k1, k2⟩ | ⟨k1, k2⟩ <;> rcases key j u' hu' with ⟨k3, k4⟩ | ⟨k3, k4⟩
    · exact h1.apart i j u u' b k2 k4 hb hb'
    · exact absurd hb' (hap i _ u u' b k2 k4 hb)
    · exact absurd hb (hap j _ u' u b k4 k2 hb')
    · have := h2.apart _ _ u u' b k2 k4 hb hb'
      omega
/-- A cell of a row of numbers. -/
theorem rowcell {w : World} {B b n cap r : Nat} {E : TypeId} {R : List Int} (h : w.ownsRow B E 1 (.slice (some ⟨b, 0, none⟩) n cap) n (ints R)) (hr : r < n) (hR : R.length = n) : w.cell? ⟨b, r, none⟩ = some (.int .i64 (R.getD r 0)) ∧ w.frozen? ⟨b, r, none⟩ = false := by
  obtain ⟨b', hb', -, -, hc, hf⟩ := (own_at h) (by omega)
  injection hb' with hb'
  injection hb' with hb'
  subst hb'
  exact ⟨hc r _ (ints_at (by omega)), hf r⟩
theorem own_other {w : World} {B b b' n n' cap z j : Nat} {E : TypeId} {xs : List Value} {u : Value} (h : w.ownsRow B E z (.slice (some ⟨b, 0, none⟩) n cap) n' xs) (hne : b ≠ b') : (w.setCell ⟨b', j, none⟩ u).ownsRow B E z (.slice (some ⟨b, 0, none⟩) n cap) n' xs :=
  h.kept grown_set (.inr fun e => hne (by simpa [Value.ownBlock] using e))
theorem rows_apart {i1 i2 : List Value} {u1 u2 : Value} (h : ∀ (i j : Nat) (u u' : Value) (b : Nat), i1[i]? = some u → i2[j]? = some u' → u.ownBlock = some b → u'.ownBlock ≠ some b)
    (h1 : ∀ (i : Nat) (u' : Value) (b : Nat), i1[i]? = some u' → u'.ownBlock = some b → u2.ownBlock ≠ some b) (h2 : ∀ (i : Nat) (u' : Value) (b : Nat), i2[i]? = some u' → u'.ownBlock = some b → u1.ownBlock ≠ some b) (h3 : ∀ b, u1.ownBlock = some b → u2.ownBlock ≠ some b) :
    ∀ (i j : Nat) (u u' : Value) (b : Nat), (i1 ++ [u1])[i]? = some u → (i2 ++ [u2])[j]? = some u' → u.ownBlock = some b → u'.ownBlock ≠ some b := by
  have key : ∀ (l : List Value) (x : Value) (i : Nat) (u : Value), (l ++ [x])[i]? = some u → l[i]? = some u ∨ u = x := fun l x i u hu => by
    by_cases hi : i < l.length
    · rw [List.getElem?_append_left hi] at hu; exact .inl hu
    · rw [List.getElem?_append_right (by omega)] at hu
      have := List.mem_of_getElem? hu
      exact .inr (by simpa using this)
  intro i j u u' b hu hu' hb hb'
  rcases key _ _ _ _ hu with k1 | rfl <;> rcases key _ _ _ _ hu' with k2 | rfl
  · exact h i j u u' b k1 k2 hb hb'
  · exact h1 i u b k1 hb hb'
  · exact h2 j u' b k2 hb' hb
  · exact h3 b hb hb'
set_option maxRecDepth 100000 in
set_option maxHeartbeats 8000000 in
theorem l08Relations_any (N : Nat) (v : Value) (B : Nat) (inn : List Value) (w : World) (n0 : 0 < N) (n1 : N ≤ 60) (h : LineSS w B v (lineL N) inn) :
    Calls Try.prog 90 #[(.int .i64 ((N : Int))), v] w fun e w' => ∃ u inu, e = .returned u ∧ SS w' w.heap.size u ((lineL (N : Int)).length + (lineL (N : Int)).length) inu (lenX (relL N)) (intX (relL N)) ∧ Below w.heap.size w w' := by
  have hl := lineL_len (n := (N : Int)) (by omega)
  have hpos : 0 < (lineL (N : Int)).length := by
    obtain ⟨k, hk, -, -⟩ := coset_get (c := 0) (d := 1) n0 (pair_det (a := 1) (b := 0) (by rfl))
    omega
  have HI := Lib.hid (fun k h => line_bd n0 (k := k) h)
  have HC := Lib.hid (fun c d W hp h => l06Number_any N v B (lineL N) inn c d W n0 n1 (by omega) hp h)
  have HSa := Lib.hid (fun k h => movS_at (n := (N : Int)) (k := k) h)
  have HUa := Lib.hid (fun k h => movU_at (n := (N : Int)) (k := k) h)
  have HVa := Lib.hid (fun k h => movUU_at (k := k) n0 n1 h)
  have HSb := Lib.hid (fun k h => movS_bd (k := k) n0 h)
  have HUb := Lib.hid (fun k h => movU_bd (k := k) n0 h)
  have HRel := Lib.hid (show relL N = relA (lineL (N : Int)).length (movS N) (lineL (N : Int)).length ++ relB (lineL (N : Int)).length (movU N) (lineL (N : Int)).length from rfl)
  rw [HRel.out]
  have H := Lib.hid h
  obtain ⟨A, cap, rfl, hcap, hmax, -⟩ := own_view h.out
  unfold maxLen at hmax
  clear h HRel
  generalize movS (N : Int) = S at *
  generalize movU (N : Int) = U at *
  generalize lineL (N : Int) = L at *
  have HAl := Lib.hid (fun k => relA_len L.length S k)
  have HBl := Lib.hid (fun k => relB_len L.length U k)
  have hmk := mk64 L.length (by omega)
  have HZ := Lib.hid (zs64_list L.length)
  go_enter Try.func90, Try.ntmps90
  go_wp2_with fail
  go_loopw [5, 6, 7] (fun x y i wr => ∃ (k : Nat) (i1 i2 : List Value), i = (.int .i64 ((k : Int))) ∧ k ≤ L.length ∧ Hid (SS wr w.heap.size x k i1 (lenX (relA L.length S k)) (intX (relA L.length S k))) ∧ Hid (SS wr w.heap.size y k i2 (lenX (relB L.length U k)) (intX (relB L.length U k))) ∧ Hid (∀ b, x.ownBlock = some b → y.ownBlock ≠ some b) ∧ Hid (∀ (i j : Nat) (u u' : Value) (b : Nat), i1[i]? = some u → i2[j]? = some u' → u.ownBlock = some b → u'.ownBlock ≠ some b) ∧ Below w.heap.size w wr) (fun _ _ i _ => L.length - (intOf i).toNat)
  case atStart => exact ⟨0, [], [], rfl, Nat.zero_le _, Lib.hid ((OwnsSS.lit0 w w.heap.size 38 2 _ _ (Nat.le_refl _)).below ((Below.refl _ _).alloc (Nat.le_refl _) _)), Lib.hid (by simpa using OwnsSS.lit0 (w.alloc (.cells #[] 38)) w.heap.size 38 2 (lenX (relB L.length U 0)) (intX (relB L.length U 0)) (by simp)), Lib.hid (fun b e e2 => by simp [Value.ownBlock] at e e2; omega), Lib.hid (fun i j u u' b h1 => by simp at h1), by go_grown⟩
  case round =>
    obtain ⟨k, i1, i2, rfl, hk, HX, HY, HD, HDD, hb⟩ := hrel
    have hsz := hb.size
    by_cases hlt : k < L.length
    · have G := Lib.hid (H.out.below hb)
      obtain ⟨u, hu, ho⟩ := G.out.at_ hlt
      rw [show lenX (lineXs L) k = 2 by unfold lenX; rw [lineXs_at hlt]; rfl, show intX (lineXs L) k = [.int .i64 L[k].x, .int .i64 L[k].y] by unfold intX; rw [lineXs_at hlt]; rfl] at ho
      obtain ⟨A1, c1, rfl, z1, z2, R1⟩ := own_view ho
      obtain ⟨b1, rfl, -, -, hc1, -⟩ := R1 (by omega)
      obtain ⟨b, rfl, -, hl1, hc, -⟩ := (own_at G.out.out) (by omega)
      have h1 := hc k _ hu
      have h2 := hc1 0 _ rfl
      have h3 := hc1 1 _ rfl
      unfold maxLen at z2
      have hin := HI.out k hlt
      obtain ⟨sb0, sb1⟩ := HSb.out k hlt
      obtain ⟨ub0, ub1⟩ := HUb.out k hlt
      obtain ⟨vb0, vb1⟩ := HUb.out (U.getD k 0).toNat (by omega)
      have ES := HSa.out k hlt
      have EU := HUa.out k hlt
      have EV := HVa.out k hlt
      clear hc hc1 hu ho R1
      have hp := hin.pair
      obtain ⟨i0, i1', i2', i3, -, -⟩ := hin
      have HCs := Lib.hid (fun W h => HC.out L[k].y (-L[k].x) W (pair_S hp) h)
      have HCu := Lib.hid (fun W h => HC.out (L[k].x + L[k].y) (-L[k].x) W (pair_U hp) h)
      have HCv := Lib.hid (fun W h => HC.out L[k].y (-L[k].x - L[k].y) W (pair_UU hp) h)
      rw [← ES] at HCs
      rw [← EU] at HCu
      rw [← EV] at HCv
      have HRA := Lib.hid (show relA L.length S (k + 1) = relA L.length S k ++ [rowR L.length [(k : Int), S.getD k 0]] from rfl)
      have HRB := Lib.hid (show relB L.length U (k + 1) = relB L.length U k ++ [rowR L.length [(k : Int), U.getD k 0, U.getD (U.getD k 0).toNat 0]] from rfl)
      clear ES EU EV hp
      generalize U.getD (U.getD k 0).toNat 0 = vv at *
      generalize U.getD k 0 = uu at *
      generalize S.getD k 0 = ss at *
      generalize L[k] = xy at *
      obtain ⟨x0, x1⟩ := xy
      simp only at h2 h3 i0 i1' i2' i3 HCs HCu HCv
      obtain ⟨ss, rfl⟩ := Int.eq_ofNat_of_zero_le sb0
      obtain ⟨uu, rfl⟩ := Int.eq_ofNat_of_zero_le ub0
      obtain ⟨vv, rfl⟩ := Int.eq_ofNat_of_zero_le vb0
      go_wp2_with fail
      go_quiet (fail)
      go_wp2_with fail
      go_region
      have OO : Hid ((((wr.drewN (nq + 1)).alloc (.cells (zs64 L.length) 2)).alloc (.cells (zs64 L.length) 2)).ownsRow w.heap.size 2 1 (.slice (some ⟨wr.heap.size, 0, none⟩) L.length L.length) L.length (zs64 L.length).toList) := Lib.hid ((World.ownsRow_lit (e := 2) (size := 1) (base := w.heap.size) (wr.drewN (nq + 1)) (zs64 L.length) L.length (by simpa using hsz) (by unfold maxLen; omega) (by rw [zs64_size, Nat.mul_one])).alloc (.cells (zs64 L.length) 2))
      have OM : Hid ((((wr.drewN (nq + 1)).alloc (.cells (zs64 L.length) 2)).alloc (.cells (zs64 L.length) 2)).ownsRow w.heap.size 2 1 (.slice (some ⟨wr.heap.size + 1, 0, none⟩) L.length L.length) L.length (zs64 L.length).toList) := Lib.hid (by simpa using World.ownsRow_lit (e := 2) (size := 1) (base := w.heap.size) ((wr.drewN (nq + 1)).alloc (.cells (zs64 L.length) 2)) (zs64 L.length) L.length (by simp; omega) (by unfold maxLen; omega) (by rw [zs64_size, Nat.mul_one]))
      have hbW : Below wr.heap.size wr (((wr.drewN (nq + 1)).alloc (.cells (zs64 L.length) 2)).alloc (.cells (zs64 L.length) 2)) := ((below_drewN (Below.refl _ _) (nq + 1)).alloc (by simp) _).alloc (by simp) _
      have hnn : wr.heap.size ≠ wr.heap.size + 1 := by omega
      have hgo : wr.heap.size ≤ wr.heap.size := by omega
      have hgm : wr.heap.size ≤ wr.heap.size + 1 := by omega
      generalize (((wr.drewN (nq + 1)).alloc (.cells (zs64 L.length) 2)).alloc (.cells (zs64 L.length) 2)) = W1 at *
      generalize hb1 : wr.heap.size + 1 = bm at OM hgm hnn ⊢
      generalize hb0 : wr.heap.size = bo at OO hnn ⊢
      have hne : bo ≠ bm := by omega
      have hgo2 : wr.heap.size ≤ bo := by omega
      have hgm2 : wr.heap.size ≤ bm := by omega
      clear hnn hb0 hb1 hgo hgm
      rotate_left
      have OM : Hid ((((wr.drewN (nq + 1)).alloc (.cells (zs64 L.length) 2)).alloc (.cells (zs64 L.length) 2)).ownsRow w.heap.size 2 1 (.slice (some ⟨wr.heap.size, 0, none⟩) L.length L.length) L.length (zs64 L.length).toList) := Lib.hid ((World.ownsRow_lit (e := 2) (size := 1) (base := w.heap.size) (wr.drewN (nq + 1)) (zs64 L.length) L.length (by simpa using hsz) (by unfold maxLen; omega) (by rw [zs64_size, Nat.mul_one])).alloc (.cells (zs64 L.length) 2))
      have OO : Hid ((((wr.drewN (nq + 1)).alloc (.cells (zs64 L.length) 2)).alloc (.cells (zs64 L.length) 2)).ownsRow w.heap.size 2 1 (.slice (some ⟨wr.heap.size + 1, 0, none⟩) L.length L.length) L.length (zs64 L.length).toList) := Lib.hid (by simpa using World.ownsRow_lit (e := 2) (size := 1) (base := w.heap.size) ((wr.drewN (nq + 1)).alloc (.cells (zs64 L.length) 2)) (zs64 L.length) L.length (by simp; omega) (by unfold maxLen; omega) (by rw [zs64_size, Nat.mul_one]))
      have hbW : Below wr.heap.size wr (((wr.drewN (nq + 1)).alloc (.cells (zs64 L.length) 2)).alloc (.cells (zs64 L.length) 2)) := ((below_drewN (Below.refl _ _) (nq + 1)).alloc (by simp) _).alloc (by simp) _
      have hnn : wr.heap.size ≠ wr.heap.size + 1 := by omega
      have hgo : wr.heap.size ≤ wr.heap.size + 1 := by omega
      have hgm : wr.heap.size ≤ wr.heap.size := by omega
      generalize (((wr.drewN (nq + 1)).alloc (.cells (zs64 L.length) 2)).alloc (.cells (zs64 L.length) 2)) = W1 at *
      generalize hb1 : wr.heap.size + 1 = bo at OO hgo hnn ⊢
      generalize hb0 : wr.heap.size = bm at OM hnn ⊢
      have hne : bo ≠ bm := by omega
      have hgo2 : wr.heap.size ≤ bo := by omega
      have hgm2 : wr.heap.size ≤ bm := by omega
      clear hnn hb0 hb1 hgo hgm
      rotate_left
      all_goals
        rw [HZ.out] at OO OM
        have hgo3 := Nat.le_trans hsz hgo2
        have hgm3 := Nat.le_trans hsz hgm2
        have HB1 := hb.trans (hbW.mono hsz)
        have F1 := Lib.hid (show rowR L.length [(k : Int)] = (rowR L.length []).set k ((rowR L.length []).getD k 0 + 1) from rfl)
        have F2 := Lib.hid (show rowR L.length [(k : Int), (ss : Int)] = (rowR L.length [(k : Int)]).set ss ((rowR L.length [(k : Int)]).getD ss 0 + 1) from rfl)
        have F3 := Lib.hid (show rowR L.length [(k : Int), (uu : Int)] = (rowR L.length [(k : Int)]).set uu ((rowR L.length [(k : Int)]).getD uu 0 + 1) from rfl)
        have F4 := Lib.hid (show rowR L.length [(k : Int), (uu : Int), (vv : Int)] = (rowR L.length [(k : Int), (uu : Int)]).set vv ((rowR L.length [(k : Int), (uu : Int)]).getD vv 0 + 1) from rfl)
        have l0 := rowR_len L.length []
        have l1 := rowR_len L.length [(k : Int)]
        have l2 := rowR_len L.length [(k : Int), (ss : Int)]
        have l3 := rowR_len L.length [(k : Int), (uu : Int)]
        have l4 := rowR_len L.length [(k : Int), (uu : Int), (vv : Int)]
        obtain ⟨y0, y1⟩ := rowR_bd L.length [] k
        obtain ⟨y2, y3⟩ := rowR_bd L.length [(k : Int)] ss
        obtain ⟨y4, y5⟩ := rowR_bd L.length [(k : Int)] uu
        obtain ⟨y6, y7⟩ := rowR_bd L.length [(k : Int), (uu : Int)] vv
        simp only [List.length_cons, List.length_nil] at y1 y3 y5 y7
        rw [show ints (List.replicate L.length 0) = ints (rowR L.length []) from rfl] at OO OM
        generalize rowR L.length [(k : Int), (uu : Int), (vv : Int)] = T3 at *
        generalize rowR L.length [(k : Int), (uu : Int)] = T2 at *
        generalize rowR L.length [(k : Int), (ss : Int)] = R2 at *
        generalize rowR L.length [(k : Int)] = R1 at *
        generalize rowR L.length [] = R0 at *
        obtain ⟨g1, f1⟩ := rowcell OO.out hlt l0
        obtain ⟨q1, hq1⟩ : ∃ q, q = R0.getD k 0 := ⟨_, rfl⟩
        rw [← hq1] at g1 y0 y1
        have HQ1 := Lib.hid hq1
        clear hq1
        have OO2 := Lib.hid (own_set (j := k) (u := (.int .i64 (q1 + 1))) OO.out)
        have OM2 := Lib.hid (own_other (b' := bo) (j := k) (u := (.int .i64 (q1 + 1))) OM.out (Ne.symm hne))
        have HB2 := Below.setCell HB1 (p := ⟨bo, k, none⟩) hgo3 (.int .i64 (q1 + 1))
        have HW2 := Below.setCell hbW (p := ⟨bo, k, none⟩) hgo2 (.int .i64 (q1 + 1))
        have HL2 := Lib.hid (H.out.below HB2)
        clear HB1 hbW OO OM
        go_wp2_with fail
        refine (HCs.out _ HL2.out).mono ?_; rintro e w3 ⟨rfl, hb3⟩
        have OO3 := Lib.hid (own_below OO2.out hb3)
        have OM3 := Lib.hid (own_below OM2.out hb3)
        have HB3 := HB2.trans (hb3.mono HB2.size)
        have HW3 := HW2.trans (hb3.mono HW2.size)
        rw [ints_set] at OO3
        rw [show R0.set k (q1 + 1) = R1 by rw [F1.out, HQ1.out]] at OO3
        clear OO2 OM2 HB2 HW2 HL2 hb3 g1 f1
        obtain ⟨g2, f2⟩ := rowcell (r := ss) OO3.out (by omega) l1
        obtain ⟨g3, f3⟩ := rowcell (r := k) OM3.out hlt l0
        rw [← HQ1.out] at g3
        obtain ⟨q2, hq2⟩ : ∃ q, q = R1.getD ss 0 := ⟨_, rfl⟩
        rw [← hq2] at g2 y2 y3
        have HQ2 := Lib.hid hq2
        clear hq2
        have OO4 := Lib.hid (own_other (b' := bm) (j := k) (u := (.int .i64 (q1 + 1))) (own_set (j := ss) (u := (.int .i64 (q2 + 1))) OO3.out) hne)
        have OM4 := Lib.hid (own_set (j := k) (u := (.int .i64 (q1 + 1))) (own_other (b' := bo) (j := ss) (u := (.int .i64 (q2 + 1))) OM3.out (Ne.symm hne)))
        have HB4 := Below.setCell (Below.setCell HB3 (p := ⟨bo, ss, none⟩) hgo3 (.int .i64 (q2 + 1))) (p := ⟨bm, k, none⟩) hgm3 (.int .i64 (q1 + 1))
        have HW4 := Below.setCell (Below.setCell HW3 (p := ⟨bo, ss, none⟩) hgo2 (.int .i64 (q2 + 1))) (p := ⟨bm, k, none⟩) hgm2 (.int .i64 (q1 + 1))
        have HL4 := Lib.hid (H.out.below HB4)
        clear HB3 HW3 OO3 OM3
        go_wp2_with fail
        refine (HCu.out _ HL4.out).mono ?_; rintro e w5 ⟨rfl, hb5⟩
        have OO5 := Lib.hid (own_below OO4.out hb5)
        have OM5 := Lib.hid (own_below OM4.out hb5)
        have HB5 := HB4.trans (hb5.mono HB4.size)
        have HW5 := HW4.trans (hb5.mono HW4.size)
        rw [ints_set] at OO5 OM5
        rw [show R1.set ss (q2 + 1) = R2 by rw [F2.out, HQ2.out]] at OO5
        rw [show R0.set k (q1 + 1) = R1 by rw [F1.out, HQ1.out]] at OM5
        clear OO4 OM4 HB4 HW4 HL4 hb5 g2 f2 g3 f3
        obtain ⟨g4, f4⟩ := rowcell (r := uu) OM5.out (by omega) l1
        obtain ⟨q3, hq3⟩ : ∃ q, q = R1.getD uu 0 := ⟨_, rfl⟩
        rw [← hq3] at g4 y4 y5
        have HQ3 := Lib.hid hq3
        clear hq3
        have OO6 := Lib.hid (own_other (b' := bm) (j := uu) (u := (.int .i64 (q3 + 1))) OO5.out hne)
        have OM6 := Lib.hid (own_set (j := uu) (u := (.int .i64 (q3 + 1))) OM5.out)
        have HB6 := Below.setCell HB5 (p := ⟨bm, uu, none⟩) hgm3 (.int .i64 (q3 + 1))
        have HW6 := Below.setCell HW5 (p := ⟨bm, uu, none⟩) hgm2 (.int .i64 (q3 + 1))
        have HL6 := Lib.hid (H.out.below HB6)
        clear HB5 HW5 OO5 OM5
        go_wp2_with fail
        refine (HCv.out _ HL6.out).mono ?_; rintro e w7 ⟨rfl, hb7⟩
        have OO7 := Lib.hid (own_below OO6.out hb7)
        have OM7 := Lib.hid (own_below OM6.out hb7)
        have HB7 := HB6.trans (hb7.mono HB6.size)
        have HW7 := HW6.trans (hb7.mono HW6.size)
        rw [ints_set] at OM7
        rw [show R1.set uu (q3 + 1) = T2 by rw [F3.out, HQ3.out]] at OM7
        clear OO6 OM6 HB6 HW6 HL6 hb7 g4 f4
        obtain ⟨g5, f5⟩ := rowcell (r := vv) OM7.out (by omega) l3
        obtain ⟨q4, hq4⟩ : ∃ q, q = T2.getD vv 0 := ⟨_, rfl⟩
        rw [← hq4] at g5 y6 y7
        have HQ4 := Lib.hid hq4
        clear hq4
        have OO8 := Lib.hid (own_other (b' := bm) (j := vv) (u := (.int .i64 (q4 + 1))) OO7.out hne)
        have OM8 := Lib.hid (own_set (j := vv) (u := (.int .i64 (q4 + 1))) OM7.out)
        rw [ints_set] at OM8
        rw [show T2.set vv (q4 + 1) = T3 by rw [F4.out, HQ4.out]] at OM8
        have HB8 := Below.setCell HB7 (p := ⟨bm, vv, none⟩) hgm3 (.int .i64 (q4 + 1))
        have HW8 := Below.setCell HW7 (p := ⟨bm, vv, none⟩) hgm2 (.int .i64 (q4 + 1))
        clear HB7 HW7 OO7 OM7
        have HX8 := Lib.hid (HX.out.below HW8)
        have HY8 := Lib.hid (HY.out.below HW8)
        have UX := Lib.hid (underB_of HX.out)
        have UY := Lib.hid (underB_of HY.out)
        have hs8 := HB8.size
        have apX := Lib.hid (fun (i : Nat) (u' : Value) (b : Nat) (h1 : i1[i]? = some u') (h2 : u'.ownBlock = some b) => show (Value.slice (some ⟨bo, 0, none⟩) L.length L.length).ownBlock ≠ some b from fun e => absurd (UX.out.i i u' b h1 h2) (by rw [show b = bo from (by simpa [Value.ownBlock] using e.symm)]; omega))
        have apY := Lib.hid (fun (i : Nat) (u' : Value) (b : Nat) (h1 : i2[i]? = some u') (h2 : u'.ownBlock = some b) => show (Value.slice (some ⟨bm, 0, none⟩) L.length L.length).ownBlock ≠ some b from fun e => absurd (UY.out.i i u' b h1 h2) (by rw [show b = bm from (by simpa [Value.ownBlock] using e.symm)]; omega))
        have hmoT := Lib.hid (fun b e => own_types HX8.out.out OM8.out ss_ne b e)
        go_wp2_with (at_builtin; first | (refine app_one elS rfl _ _ rfl rfl rfl (by simp) (HX8.out.out) (HB8) rfl (by intro u hu; simp at hu; subst hu; rfl) (hs8) (by omega) ?_; intro v' w9 hown9 hb9 hg9'; have hg9 := Lib.hid (show App _ w9 u5 v' from hg9'); clear hg9'; have HO9 := Lib.hid hown9; clear hown9; have HP9 := Lib.hid (SS.push2 (ys := R2) (HAl.out k) HX8.out (by rw [l2]; exact OO8.out) apX.out HO9.out hg9.out.grown); have HY9 := Lib.hid (HY8.out.kept2 HX8.out.out ss_ne HD.out hg9.out.grown); have OM9 := Lib.hid (OM8.out.kept hg9.out.grown (.inr (fun e => hmoT.out bm e.symm rfl))); have hs9 := hb9.size; have hd9 := Lib.hid (show ∀ b, u6.ownBlock = some b → v'.ownBlock ≠ some b from fun b e e2 => by rcases hg9.out.sit b e2 with h | h; exact HD.out b h e; have := UY.out.v b e; have := HW8.size; omega)) | (refine app_one elS rfl _ _ rfl rfl rfl (by simp) (HY9.out.out) (hb9) rfl (by intro u hu; simp at hu; subst hu; rfl) (hs9) (by omega) ?_; intro v'' w10 hown10 hb10 hg10'; have hg10 := Lib.hid (show App _ w10 u6 v'' from hg10'); clear hg10'; have HO10 := Lib.hid hown10; clear hown10))
        have HQ10 := Lib.hid (SS.push2 (ys := T3) (HBl.out k) HY9.out (by rw [l4]; exact OM9.out) apY.out HO10.out hg10.out.grown)
        have HP10 := Lib.hid (HP9.out.kept2 HY9.out.out ss_ne hd9.out hg10.out.grown)
        have HD10 := Lib.hid (show ∀ b, v'.ownBlock = some b → v''.ownBlock ≠ some b from fun b e e2 => by
          rcases hg10.out.sit b e2 with h | h
          · exact hd9.out b h e
          · have := own_lt HO9.out e; omega)
        have HDD10 := Lib.hid (rows_apart (u1 := .slice (some ⟨bo, 0, none⟩) L.length L.length) (u2 := .slice (some ⟨bm, 0, none⟩) L.length L.length) HDD.out (fun i u' b h1 h2 e => absurd (UX.out.i i u' b h1 h2) (by rw [show b = bm from (by simpa [Value.ownBlock] using e.symm)]; omega)) (fun i u' b h1 h2 e => absurd (UY.out.i i u' b h1 h2) (by rw [show b = bo from (by simpa [Value.ownBlock] using e.symm)]; omega)) (fun b e e2 => by simp [Value.ownBlock] at e e2; omega))
        go_wp2_with fail
        go_roundw
        case rel => exact ⟨k + 1, _, _, by go_num, by omega, Lib.hid (by rw [HRA.out]; exact HP10.out), Lib.hid (by rw [HRB.out]; exact HQ10.out), HD10, HDD10, hb10⟩
        case measure => simp [intOf]; omega
    · obtain rfl : k = L.length := by omega
      obtain ⟨A2, cap2, rfl, hcap2, hmax2, -⟩ := own_view HY.out.out
      unfold maxLen at hmax2
      obtain ⟨b2, rfl, -, -, hc2, -⟩ := (own_at HY.out.out) hpos
      have HCC := Lib.hid hc2
      have HOne := Lib.hid (show ∀ u ∈ i2, u.oneCell' = true from fun u hu => by
        obtain ⟨j, hj, e⟩ := List.getElem_of_mem hu
        have := HY.out.row j u (by rw [List.getElem?_eq_getElem hj, e])
        obtain ⟨A3, c3, rfl, -, -, -⟩ := own_view this
        rfl)
      have HLen := Lib.hid (show i2.length = L.length * 1 by rw [HY.out.lenE, Nat.mul_one])
      clear hc2
      go_wp2_with (at_builtin; refine app_all elS rfl _ _ rfl rfl rfl HX.out.out hb HLen.out HCC.out HOne.out hsz (by omega) ?_; intro v' w9 hown9 hb9 hg9'; have hg9 := Lib.hid (show App _ w9 u5 v' from hg9'); clear hg9'; have HO9 := Lib.hid hown9; clear hown9)
      have HJ := Lib.hid (SS.join HX.out HY.out (HAl.out _) HDD.out HO9.out hg9.out.grown)
      go_wp2_with fail
      go_ret
      exact ⟨_, _, rfl, HJ.out, hb9⟩
def rlsRes (n : Int) : SSRes := if lcode n = 0 then ⟨relL n, (lineL n).length + (lineL n).length, 0⟩ else ⟨[], 0, lcode n⟩
set_option maxHeartbeats 1000000 in
theorem sRelationsOf_any (n : Int) (w : World) :
    Calls Try.prog 42 #[(.int .i64 n)] w fun e w' => ∃ v inn, e = .returned (.tuple #[v, (.int .i64 ((rlsRes n).c))]) ∧ SS w' w.heap.size v (rlsRes n).n inn (lenX (rlsRes n).xss) (intX (rlsRes n).xss) ∧ Below w.heap.size w w' := by
  have H1 := Lib.hid (fun W => l08Code_any n W)
  by_cases hn : lcode n = 0
  · rw [show rlsRes n = ⟨relL n, (lineL n).length + (lineL n).length, 0⟩ by simp [rlsRes, hn]]
    obtain ⟨n0, n1, hl72⟩ := lcode_zero hn
    rw [hn] at H1
    clear hn
    obtain ⟨N, rfl⟩ := Int.eq_ofNat_of_zero_le (show 0 ≤ n by omega)
    have HL := Lib.hid (fun W => l06Line_any N W (by omega) (by omega))
    have HR := Lib.hid (fun v B inn W h => l08Relations_any N v B inn W (by omega) (by omega) h)
    generalize relL (N : Int) = X at *
    generalize lineL (N : Int) = L at *
    go_enter Try.func42, Try.ntmps42
    go_wp2_with fail
    refine (H1.out _).mono ?_; rintro e w1 ⟨rfl, hb1⟩
    go_wp2_with fail
    refine (HL.out _).mono ?_; rintro e w2 ⟨v, inn, rfl, hown, hb2⟩
    have HO := Lib.hid hown
    clear hown
    go_wp2_with fail
    refine (HR.out _ _ _ _ HO.out).mono ?_; rintro e w3 ⟨u, inu, rfl, hs, hb3⟩
    have HS := Lib.hid hs
    clear hs
    go_wp2_with fail
    go_ret2
    have hB2 : Below w.heap.size w w2 := hb1.trans (hb2.mono hb1.size)
    exact ⟨_, inu, rfl, OwnsSS.base HS.out hB2.size, hB2.trans (hb3.mono hB2.size)⟩
  · rw [show rlsRes n = ⟨[], 0, lcode n⟩ by simp [rlsRes, hn]]
    have hne : (lcode n != 0) = true := by simpa using hn
    clear hn
    generalize lcode n = K at *
    go_enter Try.func42, Try.ntmps42
    go_wp2_with fail
    refine (H1.out _).mono ?_; rintro e w1 ⟨rfl, hb1⟩
    go_wp2_with fail
    go_ret2
    exact ⟨_, [], rfl, OwnsSS.nil _ _ _ _ _ _, hb1⟩
set_option maxHeartbeats 1000000 in
theorem RelationsOf_any (n : Int) (w : World) :
    Calls Try.prog 43 #[(.int .i64 n)] w fun e w' => ∃ v inn, e = .returned (.tuple #[v, (.int .i64 ((rlsRes n).c))]) ∧ SS w' w.heap.size v (rlsRes n).n inn (lenX (rlsRes n).xss) (intX (rlsRes n).xss) ∧ Below w.heap.size w w' := by
  have H1 := Lib.hid (fun W => levelCode_any n W)
  by_cases hn : lcode n = 0
  · rw [show rlsRes n = ⟨relL n, (lineL n).length + (lineL n).length, 0⟩ by simp [rlsRes, hn]]
    obtain ⟨n0, n1, hl72⟩ := lcode_zero hn
    rw [hn] at H1
    clear hn
    obtain ⟨N, rfl⟩ := Int.eq_ofNat_of_zero_le (show 0 ≤ n by omega)
    have HR := Lib.hid (fun W => relations_any N W (by omega) (by omega))
    generalize relL (N : Int) = X at *
    generalize lineL (N : Int) = L at *
    go_enter Try.func43, Try.ntmps43
    go_wp2_with fail
    refine (H1.out _).mono ?_; rintro e w1 ⟨rfl, hb1⟩
    go_wp2_with fail
    refine (HR.out _).mono ?_; rintro e w3 ⟨u, inu, rfl, hs, hb3⟩
    have HS := Lib.hid hs
    clear hs
    go_wp2_with fail
    go_ret2
    exact ⟨_, inu, rfl, OwnsSS.base HS.out hb1.size, hb1.trans (hb3.mono hb1.size)⟩
  · rw [show rlsRes n = ⟨[], 0, lcode n⟩ by simp [rlsRes, hn]]
    have hne : (lcode n != 0) = true := by simpa using hn
    clear hn
    generalize lcode n = K at *
    go_enter Try.func43, Try.ntmps43
    go_wp2_with fail
    refine (H1.out _).mono ?_; rintro e w1 ⟨rfl, hb1⟩
    go_wp2_with fail
    go_ret2
    exact ⟨_, [], rfl, OwnsSS.nil _ _ _ _ _ _, hb1⟩
end Go.Proofs.Ytjgnhnbhcnfdbaa
