/- Contracts: rows of Farey's. -/
import Derived.Test.YtjnkogkpdbgohaaGreatDoorM4
import Derived.Test.YtjnkogkpdbgohaaGreatDoorNa
import Derived.Test.YtjnkogkpdbgohaaGreatDoorRow3
namespace Go.Proofs.YtjnkogkpdbgohaaGreatDoor
open Go.RowKit
theorem elFrM : Elem Tryz.prog 25 34 (.agg #[.int .i64 0, .int .i64 0]) 2 16 := elem_of Tryz.underlying25 (by kernel_rfl) rfl (by omega) (by omega)
def lenV : Value → Nat
  | .slice _ n _ => n
  | _ => 0
theorem own_lenV {w : World} {B z n : Nat} {E : TypeId} {v : Value} {xs : List Value} (h : w.ownsRow B E z v n xs) : lenV v = n := by
  obtain ⟨A, cap, rfl, _⟩ := own_view h
  rfl
attribute [local go_sem] eqFracM
set_option maxRecDepth 100000 in
set_option maxHeartbeats 2000000 in
theorem FareyRow_any (n : Nat) (w : World) (h1 : 1 ≤ n) (h2 : n ≤ 20) :
    Calls Tryz.prog 6 #[(.int .i64 ((n : Int)))] w fun e w' => ∃ v, e = .returned (.tuple #[v, (.int .i64 0)]) ∧ w'.ownsRow w.heap.size 34 2 v (rowP n).length (ints (flat2 (rowP n))) ∧ Below w.heap.size w w' := by
  have HW := Lib.hid (fun W => within_any (n : Int) 1 20 W)
  rw [show inB (n : Int) 1 20 = true by simp [inB]; omega] at HW
  obtain ⟨hr, hl⟩ := rowN_ok h1 h2
  have HL := Lib.hid (show (rowP n).length ≤ 129 by simp [rowP]; omega)
  have HX := Lib.hid (fun p q r s W a b c d e => nextInRow_any (n : Int) p q r s W (by omega) a b c (by omega) d e)
  have HR := Lib.hid hr
  have HP := Lib.hid (show rowP n = ⟨0, 1⟩ :: (rowN n).map toP from rfl)
  clear hr hl
  generalize rowP n = L at *
  generalize (rowN n).map toP = l0 at *
  go_enter Tryz.func6, Tryz.ntmps6
  go_wp2_with fail
  refine (HW.out _).mono ?_; rintro e w' ⟨rfl, rfl⟩
  clear HW
  go_wp2_with fail
  have T0 := Lib.hid (show Below w.heap.size w ((w.alloc (Obj.cells #[(.int .i64 0), (.int .i64 1)] 34)).alloc (Obj.cells #[(.int .i64 0), (.int .i64 1)] 34)) by go_grown)
  have O0 := Lib.hid (show ((w.alloc (Obj.cells #[(.int .i64 0), (.int .i64 1)] 34)).alloc (Obj.cells #[(.int .i64 0), (.int .i64 1)] 34)).ownsRow w.heap.size 34 2 (.slice (some ⟨w.heap.size, 0, none⟩) 1 1) 1 (ints (flat2 [⟨0, 1⟩])) from (World.ownsRow_lit w #[(.int .i64 0), (.int .i64 1)] 1 (Nat.le_refl _) (by simp [maxLen]) rfl).alloc _)
  have B0 := Lib.hid (show Blk2 ((w.alloc (Obj.cells #[(.int .i64 0), (.int .i64 1)] 34)).alloc (Obj.cells #[(.int .i64 0), (.int .i64 1)] 34)) (w.heap.size + 1) 34 0 1 from heap_new' (by simp))
  generalize (w.alloc (Obj.cells #[(.int .i64 0), (.int .i64 1)] 34)).alloc (Obj.cells #[(.int .i64 0), (.int .i64 1)] 34) = W at *
  go_loopw [4, 5] (fun v u wr => ∃ (D l : List P2) (p q : Int) (g : Nat), u = .pointer (some ⟨g, 0, none⟩) ∧ w.heap.size ≤ g ∧ D.length ≤ 129 ∧ Hid (L = D ++ l) ∧ Hid (FR (n : Int) p q l) ∧ Hid (wr.ownsRow w.heap.size 34 2 v D.length (ints (flat2 D))) ∧ Hid (∀ k, v.ownBlock = some k → k < g) ∧ Hid (Blk2 wr g 34 p q) ∧ Hid (Below w.heap.size w wr)) (fun v _ _ => 200 - lenV v)
  case atStart => exact ⟨[⟨0, 1⟩], l0, 0, 1, w.heap.size + 1, rfl, by omega, by simp, HP, HR, O0, Lib.hid (fun k hk => by simp [Value.ownBlock] at hk; omega), B0, T0⟩
  case round =>
    clear T0 O0 B0 HR HP
    obtain ⟨D, l, p, q, g, rfl, hg, hD, HD, HF, HO, HK, HB, T⟩ := hrel
    cases l with
    | nil =>
      obtain ⟨rfl, rfl⟩ := HF.out.one
      have HE := Lib.hid (show L = D by rw [HD.out, List.append_nil])
      obtain ⟨⟨b0, b1⟩, -, hlb⟩ := HB.out.open_
      clear HF HX
      go_wp2_with fail
      go_ret2
      exact ⟨_, rfl, by rw [HE.out]; exact HO.out, T.out⟩
    | cons x l =>
      obtain ⟨p0, pq, qn, hgcd, ht, hF2⟩ := HF.out.inv
      have HF2 := Lib.hid hF2
      have hne : (p == 1 && q == 1) = false := by
        rw [Bool.eq_false_iff]; intro e
        rw [Bool.and_eq_true, beq_iff_eq, beq_iff_eq] at e
        omega
      have HC := Lib.hid (fun W => HX.out p q x.x x.y W p0 pq qn hgcd ht)
      have HD2 := Lib.hid (show L = (D ++ [x]) ++ l by rw [HD.out]; simp)
      have hD2 : D.length + 1 ≤ 129 := by have := HL.out; rw [HD.out] at this; simp at this; omega
      clear ht hF2 hgcd HF
      have HFL := Lib.hid (show flat2 (D ++ [x]) = flat2 D ++ [x.x, x.y] from flat2_snoc D x)
      have HLN := Lib.hid (show (D ++ [x]).length = D.length + 1 by simp)
      obtain ⟨D2, hD2e⟩ : ∃ D2, D2 = D ++ [x] := ⟨_, rfl⟩
      rw [← hD2e] at HFL HLN HD2
      clear hD2e
      generalize x.x = r at *
      generalize x.y = s at *
      obtain ⟨⟨b0, b1⟩, ⟨b2, b3⟩, hlb⟩ := HB.out.open_
      go_wp2_with fail
      refine (HC.out _).mono ?_; rintro e w2 ⟨rfl, hb⟩
      replace T := Lib.hid (bfin T.out hb)
      replace HB := Lib.hid (show Blk2 w2 g 34 p q from heap_below HB.out hb)
      replace HO := Lib.hid (own_below HO.out hb)
      clear hb b0 b1 b2 b3 hlb HC
      obtain ⟨⟨b0, b1⟩, ⟨b2, b3⟩, hlb⟩ := HB.out.open_
      have hneb : ∀ k, u4.ownBlock = some k → k ≠ g := fun k hk => by have := HK.out k hk; omega
      have HO3 := Lib.hid (show ((w2.setCell ⟨g, 0, none⟩ (.int .i64 r)).setCell ⟨g, 1, none⟩ (.int .i64 s)).ownsRow w.heap.size 34 2 _ D.length (ints (flat2 D)) from own_store (own_store HO.out hneb) hneb)
      have HB3 := Lib.hid (show Blk2 ((w2.setCell ⟨g, 0, none⟩ (.int .i64 r)).setCell ⟨g, 1, none⟩ (.int .i64 s)) g 34 r s from heap_set2 HB.out)
      have T3 := Lib.hid (show Below w.heap.size w ((w2.setCell ⟨g, 0, none⟩ (.int .i64 r)).setCell ⟨g, 1, none⟩ (.int .i64 s)) from (T.out.setCell (p := ⟨g, 0, none⟩) hg _).setCell (p := ⟨g, 1, none⟩) hg _)
      have hsW := T3.out.size
      have hlen1 := Lib.hid (own_lenV HO3.out)
      have hneb' := Lib.hid hneb
      clear hneb
      go_wp2_with (at_builtin; refine app_one elFrM rfl _ _ rfl rfl rfl (by simp) (HO3.out) (T3.out) rfl (by intro u hu; simp at hu; first | (subst hu; rfl) | (rcases hu with rfl | rfl <;> rfl) | (rcases hu with rfl | rfl | rfl <;> rfl) | (rcases hu with rfl | rfl | rfl | rfl <;> rfl)) (hsW) (by omega) ?_; intro v' w4 hown4 hb4 hg4; have HO4 := Lib.hid hown4; clear hown4; have HB4 := Lib.hid (heap_app HB3.out hg4 hneb'.out) ; obtain ⟨⟨c0, c1⟩, ⟨c2, c3⟩, hlc⟩ := Blk2.open_ HB4.out)
      go_roundw
      case rel =>
        refine ⟨D2, l, r, s, w4.heap.size, rfl, hb4.size, by rw [HLN.out]; omega, HD2, HF2, ?_, ?_, ?_, ?_⟩
        · exact Lib.hid (by rw [HLN.out, HFL.out]; exact (by simpa [ints] using HO4.out.alloc _))
        · refine Lib.hid (fun k hk => own_lt HO4.out hk)
        · exact Lib.hid (by exact heap_new)
        · exact Lib.hid (hb4.alloc hb4.size _)
      case measure =>
        show 200 - lenV v' < 200 - lenV u4
        rw [own_lenV HO4.out, hlen1.out]
        omega
set_option maxRecDepth 100000 in
set_option maxHeartbeats 2000000 in
theorem sFareyRow_any (n : Nat) (w : World) (h1 : 1 ≤ n) (h2 : n ≤ 20) :
    Calls Tryz.prog 7 #[(.int .i64 ((n : Int)))] w fun e w' => ∃ v, e = .returned (.tuple #[v, (.int .i64 0)]) ∧ w'.ownsRow w.heap.size 34 2 v (rowP n).length (ints (flat2 (rowP n))) ∧ Below w.heap.size w w' := by
  have HW := Lib.hid (fun W => l01In_any (n : Int) 1 20 W)
  rw [show inB (n : Int) 1 20 = true by simp [inB]; omega] at HW
  obtain ⟨hr, hl⟩ := rowN_ok h1 h2
  have HL := Lib.hid (show (rowP n).length ≤ 129 by simp [rowP]; omega)
  have HX := Lib.hid (fun p q r s W a b c (_ : Int.gcd p q = 1) e => l03Next_any (n : Int) p q r s W (by omega) a b c (by omega) e)
  have HR := Lib.hid hr
  have HP := Lib.hid (show rowP n = ⟨0, 1⟩ :: (rowN n).map toP from rfl)
  clear hr hl
  generalize rowP n = L at *
  generalize (rowN n).map toP = l0 at *
  go_enter Tryz.func7, Tryz.ntmps7
  go_wp2_with fail
  refine (HW.out _).mono ?_; rintro e w' ⟨rfl, rfl⟩
  clear HW
  go_wp2_with fail
  have T0 := Lib.hid (show Below w.heap.size w ((w.alloc (Obj.cells #[(.int .i64 0), (.int .i64 1)] 34)).alloc (Obj.cells #[(.int .i64 0), (.int .i64 1)] 34)) by go_grown)
  have O0 := Lib.hid (show ((w.alloc (Obj.cells #[(.int .i64 0), (.int .i64 1)] 34)).alloc (Obj.cells #[(.int .i64 0), (.int .i64 1)] 34)).ownsRow w.heap.size 34 2 (.slice (some ⟨w.heap.size, 0, none⟩) 1 1) 1 (ints (flat2 [⟨0, 1⟩])) from (World.ownsRow_lit w #[(.int .i64 0), (.int .i64 1)] 1 (Nat.le_refl _) (by simp [maxLen]) rfl).alloc _)
  have B0 := Lib.hid (show Blk2 ((w.alloc (Obj.cells #[(.int .i64 0), (.int .i64 1)] 34)).alloc (Obj.cells #[(.int .i64 0), (.int .i64 1)] 34)) (w.heap.size + 1) 34 0 1 from heap_new' (by simp))
  generalize (w.alloc (Obj.cells #[(.int .i64 0), (.int .i64 1)] 34)).alloc (Obj.cells #[(.int .i64 0), (.int .i64 1)] 34) = W at *
  go_loopw [4, 5] (fun v u wr => ∃ (D l : List P2) (p q : Int) (g : Nat), u = .pointer (some ⟨g, 0, none⟩) ∧ w.heap.size ≤ g ∧ D.length ≤ 129 ∧ Hid (L = D ++ l) ∧ Hid (FR (n : Int) p q l) ∧ Hid (wr.ownsRow w.heap.size 34 2 v D.length (ints (flat2 D))) ∧ Hid (∀ k, v.ownBlock = some k → k < g) ∧ Hid (Blk2 wr g 34 p q) ∧ Hid (Below w.heap.size w wr)) (fun v _ _ => 200 - lenV v)
  case atStart => exact ⟨[⟨0, 1⟩], l0, 0, 1, w.heap.size + 1, rfl, by omega, by simp, HP, HR, O0, Lib.hid (fun k hk => by simp [Value.ownBlock] at hk; omega), B0, T0⟩
  case round =>
    clear T0 O0 B0 HR HP
    obtain ⟨D, l, p, q, g, rfl, hg, hD, HD, HF, HO, HK, HB, T⟩ := hrel
    cases l with
    | nil =>
      obtain ⟨rfl, rfl⟩ := HF.out.one
      have HE := Lib.hid (show L = D by rw [HD.out, List.append_nil])
      obtain ⟨⟨b0, b1⟩, -, hlb⟩ := HB.out.open_
      clear HF HX
      go_wp2_with fail
      go_ret2
      exact ⟨_, rfl, by rw [HE.out]; exact HO.out, T.out⟩
    | cons x l =>
      obtain ⟨p0, pq, qn, hgcd, ht, hF2⟩ := HF.out.inv
      have HF2 := Lib.hid hF2
      have hne : (p == 1 && q == 1) = false := by
        rw [Bool.eq_false_iff]; intro e
        rw [Bool.and_eq_true, beq_iff_eq, beq_iff_eq] at e
        omega
      have HC := Lib.hid (fun W => HX.out p q x.x x.y W p0 pq qn hgcd ht)
      have HD2 := Lib.hid (show L = (D ++ [x]) ++ l by rw [HD.out]; simp)
      have hD2 : D.length + 1 ≤ 129 := by have := HL.out; rw [HD.out] at this; simp at this; omega
      clear ht hF2 hgcd HF
      have HFL := Lib.hid (show flat2 (D ++ [x]) = flat2 D ++ [x.x, x.y] from flat2_snoc D x)
      have HLN := Lib.hid (show (D ++ [x]).length = D.length + 1 by simp)
      obtain ⟨D2, hD2e⟩ : ∃ D2, D2 = D ++ [x] := ⟨_, rfl⟩
      rw [← hD2e] at HFL HLN HD2
      clear hD2e
      generalize x.x = r at *
      generalize x.y = s at *
      obtain ⟨⟨b0, b1⟩, ⟨b2, b3⟩, hlb⟩ := HB.out.open_
      go_wp2_with fail
      refine (HC.out _).mono ?_; rintro e w2 ⟨rfl, hb⟩
      replace T := Lib.hid (bfin T.out hb)
      replace HB := Lib.hid (show Blk2 w2 g 34 p q from heap_below HB.out hb)
      replace HO := Lib.hid (own_below HO.out hb)
      clear hb b0 b1 b2 b3 hlb HC
      obtain ⟨⟨b0, b1⟩, ⟨b2, b3⟩, hlb⟩ := HB.out.open_
      have hneb : ∀ k, u4.ownBlock = some k → k ≠ g := fun k hk => by have := HK.out k hk; omega
      have HO3 := Lib.hid (show ((w2.setCell ⟨g, 0, none⟩ (.int .i64 r)).setCell ⟨g, 1, none⟩ (.int .i64 s)).ownsRow w.heap.size 34 2 _ D.length (ints (flat2 D)) from own_store (own_store HO.out hneb) hneb)
      have HB3 := Lib.hid (show Blk2 ((w2.setCell ⟨g, 0, none⟩ (.int .i64 r)).setCell ⟨g, 1, none⟩ (.int .i64 s)) g 34 r s from heap_set2 HB.out)
      have T3 := Lib.hid (show Below w.heap.size w ((w2.setCell ⟨g, 0, none⟩ (.int .i64 r)).setCell ⟨g, 1, none⟩ (.int .i64 s)) from (T.out.setCell (p := ⟨g, 0, none⟩) hg _).setCell (p := ⟨g, 1, none⟩) hg _)
      have hsW := T3.out.size
      have hlen1 := Lib.hid (own_lenV HO3.out)
      have hneb' := Lib.hid hneb
      clear hneb
      go_wp2_with (at_builtin; refine app_one elFrM rfl _ _ rfl rfl rfl (by simp) (HO3.out) (T3.out) rfl (by intro u hu; simp at hu; first | (subst hu; rfl) | (rcases hu with rfl | rfl <;> rfl) | (rcases hu with rfl | rfl | rfl <;> rfl) | (rcases hu with rfl | rfl | rfl | rfl <;> rfl)) (hsW) (by omega) ?_; intro v' w4 hown4 hb4 hg4; have HO4 := Lib.hid hown4; clear hown4; have HB4 := Lib.hid (heap_app HB3.out hg4 hneb'.out) ; obtain ⟨⟨c0, c1⟩, ⟨c2, c3⟩, hlc⟩ := Blk2.open_ HB4.out)
      go_roundw
      case rel =>
        refine ⟨D2, l, r, s, w4.heap.size, rfl, hb4.size, by rw [HLN.out]; omega, HD2, HF2, ?_, ?_, ?_, ?_⟩
        · exact Lib.hid (by rw [HLN.out, HFL.out]; exact (by simpa [ints] using HO4.out.alloc _))
        · refine Lib.hid (fun k hk => own_lt HO4.out hk)
        · exact Lib.hid (by exact heap_new)
        · exact Lib.hid (hb4.alloc hb4.size _)
      case measure =>
        show 200 - lenV v' < 200 - lenV u4
        rw [own_lenV HO4.out, hlen1.out]
        omega
end Go.Proofs.YtjnkogkpdbgohaaGreatDoor
