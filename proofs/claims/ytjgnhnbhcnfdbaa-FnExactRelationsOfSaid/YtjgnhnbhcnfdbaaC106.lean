/- Contracts: the relations of a level. -/
import Derived.Test.YtjgnhnbhcnfdbaaC105
namespace Go.Proofs.Ytjgnhnbhcnfdbaa
open Go.RowKit
def relA (len : Nat) (S : List Int) : Nat → List (List Int)
  | 0 => []
  | k + 1 => relA len S k ++ [rowR len [(k : Int), S.getD k 0]]
def relB (len : Nat) (U : List Int) : Nat → List (List Int)
  | 0 => []
  | k + 1 => relB len U k ++ [rowR len [(k : Int), U.getD k 0, U.getD (U.getD k 0).toNat 0]]
theorem relA_len (len : Nat) (S : List Int) : ∀ k, (relA len S k).length = k
  | 0 => rfl
  | k + 1 => by simp [relA, relA_len len S k]
theorem relB_len (len : Nat) (U : List Int) : ∀ k, (relB len U k).length = k
  | 0 => rfl
  | k + 1 => by simp [relB, relB_len len U k]
def movS (n : Int) : List Int := movedL n (lineL n) 0 (-1) 1 0
def movU (n : Int) : List Int := movedL n (lineL n) 1 (-1) 1 0
theorem movS_at {n : Int} {k : Nat} (h : k < (lineL n).length) : (movS n).getD k 0 = cosetI n (lineL n) (lineL n)[k].y (-(lineL n)[k].x) := by
  unfold movS
  rw [movedL_at h]
  congr 1 <;> omega
theorem movU_at {n : Int} {k : Nat} (h : k < (lineL n).length) : (movU n).getD k 0 = cosetI n (lineL n) ((lineL n)[k].x + (lineL n)[k].y) (-(lineL n)[k].x) := by
  unfold movU
  rw [movedL_at h]
  congr 1 <;> omega
theorem movS_bd {N k : Nat} (n0 : 0 < N) (h : k < (lineL (N : Int)).length) : 0 ≤ (movS N).getD k 0 ∧ (movS N).getD k 0 < (lineL (N : Int)).length := by
  rw [movS_at h]
  exact coset_in (by omega) (pair_S (line_bd n0 h).pair)
theorem movU_bd {N k : Nat} (n0 : 0 < N) (h : k < (lineL (N : Int)).length) : 0 ≤ (movU N).getD k 0 ∧ (movU N).getD k 0 < (lineL (N : Int)).length := by
  rw [movU_at h]
  exact coset_in (by omega) (pair_U (line_bd n0 h).pair)
def relL (n : Int) : List (List Int) := relA (lineL n).length (movS n) (lineL n).length ++ relB (lineL n).length (movU n) (lineL n).length
theorem lit_at {w : World} {B : Nat} {E : TypeId} {vs : Array Value} {m : Nat} (hB : B ≤ w.heap.size) (hm : m ≤ maxLen) (h : vs.size = m) : RowAt (w.alloc (.cells vs E)) B (some ⟨w.heap.size, 0, none⟩) m vs.toList :=
  own_at (World.ownsRow_lit (e := E) (size := 1) w vs m hB hm (by omega))
set_option maxRecDepth 100000 in
set_option maxHeartbeats 4000000 in
theorem relations_any (N : Nat) (w : World) (n0 : 0 < N) (n1 : N ≤ 60) :
    Calls Try.prog 91 #[(.int .i64 ((N : Int)))] w fun e w' => ∃ v inn, e = .returned v ∧ SS w' w.heap.size v ((lineL (N : Int)).length + (lineL (N : Int)).length) inn (lenX (relL N)) (intX (relL N)) ∧ Below w.heap.size w w' := by
  have hl := lineL_len (n := (N : Int)) (by omega)
  have HS := Lib.hid (fun W => moved_any N 0 (-1) 1 0 W n0 n1 ⟨by omega, by omega, by omega, by omega, by omega, by omega, by omega, by omega⟩)
  have HU := Lib.hid (fun W => moved_any N 1 (-1) 1 0 W n0 n1 ⟨by omega, by omega, by omega, by omega, by omega, by omega, by omega, by omega⟩)
  rw [show movedL (N : Int) (lineL N) 0 (-1) 1 0 = movS N from rfl, show (movS (N : Int)).length = (lineL (N : Int)).length from movedL_len _ _ _ _ _ _] at HS
  rw [show movedL (N : Int) (lineL N) 1 (-1) 1 0 = movU N from rfl, show (movU (N : Int)).length = (lineL (N : Int)).length from movedL_len _ _ _ _ _ _] at HU
  have HSl := Lib.hid (show (movS (N : Int)).length = (lineL (N : Int)).length from movedL_len _ _ _ _ _ _)
  have HUl := Lib.hid (show (movU (N : Int)).length = (lineL (N : Int)).length from movedL_len _ _ _ _ _ _)
  have HSb := Lib.hid (fun k h => movS_bd (k := k) n0 h)
  have HUb := Lib.hid (fun k h => movU_bd (k := k) n0 h)
  have HRel := Lib.hid (show relL N = relA (lineL (N : Int)).length (movS N) (lineL (N : Int)).length ++ relB (lineL (N : Int)).length (movU N) (lineL (N : Int)).length from rfl)
  rw [HRel.out]
  clear HRel
  generalize (lineL (N : Int)).length = L at *
  generalize movS (N : Int) = S at *
  generalize movU (N : Int) = U at *
  have HAl := Lib.hid (fun k => relA_len L S k)
  have HBl := Lib.hid (fun k => relB_len L U k)
  go_enter Try.func91, Try.ntmps91
  go_wp2_with fail
  refine (HS.out _).mono ?_; rintro e w1 ⟨vS, rfl, hoS, hb1⟩
  obtain ⟨AS, capS, rfl, hcS, hmS, -⟩ := own_view hoS
  have OS := Lib.hid hoS
  clear hoS
  go_wp2_with fail
  refine (HU.out _).mono ?_; rintro e w2 ⟨vU, rfl, hoU, hb2⟩
  obtain ⟨AU, capU, rfl, hcU, hmU, -⟩ := own_view hoU
  unfold maxLen at hmS hmU
  have RS := Lib.hid ((own_at (own_below OS.out hb2)).below (w' := w2.alloc (.cells #[.slice AS L capS] 38)) ((Below.refl _ _).alloc (Nat.le_refl _) _))
  have RU := Lib.hid ((own_at hoU).below (w' := w2.alloc (.cells #[.slice AS L capS] 38)) ((Below.refl _ _).alloc (Nat.le_refl _) _))
  have c3 : (w2.alloc (.cells #[.slice AS L capS] 38)).cell? ⟨w2.heap.size, 0, none⟩ = some (.slice AS L capS) := by simp
  have hB2 : Below w.heap.size w w2 := hb1.trans (hb2.mono hb1.size)
  have hs2 := hB2.size
  clear hb1 hb2 hoU OS
  go_wp2_with fail
  go_loopw [21] (fun i wr => ∃ (k : Nat) (v : Value) (inn : List Value), i = (.int .i64 ((k : Int))) ∧ k ≤ L ∧ Hid (SS wr (w2.alloc (.cells #[.slice AS L capS] 38)).heap.size v (k) inn (lenX (relA L S k)) (intX (relA L S k))) ∧ Hid (wr.heap[w2.heap.size + 1 + 1]? = some (.cells #[v] 49 (0, 0))) ∧ Below (w2.alloc (.cells #[.slice AS L capS] 38)).heap.size (w2.alloc (.cells #[.slice AS L capS] 38)) wr) (fun i _ => L - (intOf i).toNat)
  case atStart => exact ⟨0, .slice (some ⟨w2.heap.size + 1, 0, none⟩) 0 0, [], rfl, Nat.zero_le _, Lib.hid ((show SS ((w2.alloc (.cells #[.slice AS L capS] 38)).alloc (.cells #[] 38)) (w2.alloc (.cells #[.slice AS L capS] 38)).heap.size (.slice (some ⟨w2.heap.size + 1, 0, none⟩) 0 0) 0 [] (lenX (relA L S 0)) (intX (relA L S 0)) from by simpa using OwnsSS.lit0 (w2.alloc (.cells #[.slice AS L capS] 38)) (w2.alloc (.cells #[.slice AS L capS] 38)).heap.size 38 2 (lenX (relA L S 0)) (intX (relA L S 0)) (Nat.le_refl _)).below ((Below.refl _ _).alloc (Nat.le_refl _) _)), Lib.hid (heap_new' (by simp)), by go_grown⟩
  case round =>
    obtain ⟨k, v, inn, rfl, hk, HO, H5, hb⟩ := hrel
    have hsz := hb.size
    have hsz' := hsz
    rw [World.size_alloc] at hsz'
    have c3r := (hb.cell (p := ⟨w2.heap.size, 0, none⟩) (by simp)).trans c3
    by_cases hlt : k < L
    · obtain ⟨bS, rfl, -, hbl, hcc, -⟩ := (RS.out.below hb) (by omega)
      have g1 := hcc k _ (ints_at (l := S) (by rw [HSl.out]; exact hlt))
      obtain ⟨i0, i1⟩ := HSb.out k hlt
      have HRk := Lib.hid (show relA L S (k + 1) = relA L S k ++ [rowR L [(k : Int), S.getD k 0]] from rfl)
      have HAk := Lib.hid (HAl.out k)
      clear hcc
      generalize S.getD k 0 = x at *
      have hAdd := Lib.hid (addRel_any [(k : Int), x] (some ⟨wr.heap.size, 0, none⟩) 2 0 (w2.alloc (.cells #[.slice (some ⟨bS, 0, none⟩) L capS] 38)).heap.size w2.heap.size (w2.heap.size + 1 + 1) k L capS v (some ⟨bS, 0, none⟩) inn (relA L S k) (wr.alloc (.cells #[(.int .i64 ((k : Int))), (.int .i64 x)] 2)) (by simp; omega) (by rw [World.cell?_alloc_lt _ _ _ (by simp; omega)]; exact c3r) (heap_alloc H5.out) (by simp) (HO.out.below ((Below.refl _ _).alloc (Nat.le_refl _) _)) HAk.out (lit_at (by omega) (by simp [maxLen]) rfl) (by intro j hj; simp at hj; rcases (show j = 0 ∨ j = 1 by omega) with rfl | rfl <;> simp <;> omega) (by omega) (by simp) (by omega))
      go_wp2_with fail
      refine hAdd.out.mono ?_; rintro e w3 ⟨v', inn', rfl, hs', h5', hb3⟩
      have HS' := Lib.hid hs'
      have H5' := Lib.hid h5'
      clear hs' h5' hAdd
      have hbN := (hb.alloc hsz _).trans hb3
      clear hb3
      go_wp2_with fail
      go_roundw
      case rel => exact ⟨k + 1, v', inn', by go_num, by omega, Lib.hid (by rw [HRk.out]; exact HS'.out), H5', hbN⟩
      case measure => simp [intOf]; omega
    · obtain rfl : k = L := by omega
      have HQ := Lib.hid (show relA k S k ++ relB k U 0 = relA k S k from List.append_nil _)
      go_wp2_with fail
      go_loopw [34] (fun i wr => ∃ (j : Nat) (v : Value) (inn : List Value), i = (.int .i64 ((j : Int))) ∧ j ≤ k ∧ Hid (SS wr (w2.alloc (.cells #[.slice AS k capS] 38)).heap.size v (k + j) inn (lenX (relA k S k ++ relB k U j)) (intX (relA k S k ++ relB k U j))) ∧ Hid (wr.heap[w2.heap.size + 1 + 1]? = some (.cells #[v] 49 (0, 0))) ∧ Below (w2.alloc (.cells #[.slice AS k capS] 38)).heap.size (w2.alloc (.cells #[.slice AS k capS] 38)) wr) (fun i _ => k - (intOf i).toNat)
      case atStart => exact ⟨0, v, inn, rfl, Nat.zero_le _, Lib.hid (by rw [HQ.out]; exact HO.out), H5, hb⟩
      case round =>
        obtain ⟨j, v, inn, rfl, hj, HO, H5, hb⟩ := hrel
        have hsz := hb.size
        have hsz' := hsz
        rw [World.size_alloc] at hsz'
        have c3r := (hb.cell (p := ⟨w2.heap.size, 0, none⟩) (by simp)).trans c3
        have c5 := (cell_of_blk H5.out 0).trans (show (#[v] : Array Value)[0]? = some v from rfl)
        by_cases hlt : j < k
        · obtain ⟨bU, rfl, -, hbl, hcc, -⟩ := (RU.out.below hb) (by omega)
          have g1 := hcc j _ (ints_at (l := U) (by rw [HUl.out]; exact hlt))
          obtain ⟨i0, i1⟩ := HUb.out j hlt
          have HRj := Lib.hid (show relA k S k ++ relB k U (j + 1) = (relA k S k ++ relB k U j) ++ [rowR k [(j : Int), U.getD j 0, U.getD (U.getD j 0).toNat 0]] by rw [List.append_assoc]; rfl)
          have HAk := Lib.hid (show (relA k S k ++ relB k U j).length = k + j by rw [List.length_append, HAl.out, HBl.out])
          generalize U.getD j 0 = x at *
          obtain ⟨r, rfl⟩ := Int.eq_ofNat_of_zero_le i0
          have hr : r < k := by omega
          rw [Int.toNat_natCast] at HRj
          have g2 := hcc r _ (ints_at (l := U) (by rw [HUl.out]; exact hr))
          obtain ⟨y0, y1⟩ := HUb.out r hr
          clear hcc
          generalize U.getD r 0 = y at *
          have hAdd := Lib.hid (addRel_any [(j : Int), (r : Int), y] (some ⟨wr.heap.size, 0, none⟩) 3 0 (w2.alloc (.cells #[.slice AS k capS] 38)).heap.size w2.heap.size (w2.heap.size + 1 + 1) (k + j) k capS v AS inn (relA k S k ++ relB k U j) (wr.alloc (.cells #[(.int .i64 ((j : Int))), (.int .i64 ((r : Int))), (.int .i64 y)] 2)) (by simp; omega) (by rw [World.cell?_alloc_lt _ _ _ (by simp; omega)]; exact c3r) (heap_alloc H5.out) (by simp) (HO.out.below ((Below.refl _ _).alloc (Nat.le_refl _) _)) HAk.out (lit_at (by omega) (by simp [maxLen]) rfl) (by intro m hm; simp at hm; rcases (show m = 0 ∨ m = 1 ∨ m = 2 by omega) with rfl | rfl | rfl <;> simp <;> omega) (by omega) (by simp) (by omega))
          go_wp2_with fail
          refine hAdd.out.mono ?_; rintro e w3 ⟨v', inn', rfl, hs', h5', hb3⟩
          have HS' := Lib.hid hs'
          have H5' := Lib.hid h5'
          clear hs' h5' hAdd
          have hbN := (hb.alloc hsz _).trans hb3
          clear hb3
          go_wp2_with fail
          go_roundw
          case rel => exact ⟨j + 1, v', inn', by go_num, by omega, Lib.hid (by rw [HRj.out]; exact HS'.out), H5', hbN⟩
          case measure => simp [intOf]; omega
        · obtain rfl : j = k := by omega
          obtain ⟨A6, cap6, rfl, -, -, -⟩ := own_view HO.out.out
          go_wp2_with fail
          go_ret
          exact ⟨_, inn, rfl, OwnsSS.base HO.out (by simp; omega), (hB2.alloc hs2 _).trans (hb.mono (by simp; omega))⟩
end Go.Proofs.Ytjgnhnbhcnfdbaa
