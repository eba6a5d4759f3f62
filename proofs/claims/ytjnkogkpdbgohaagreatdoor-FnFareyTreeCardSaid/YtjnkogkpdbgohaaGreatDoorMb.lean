/- Contracts: what compares two fractions, with the world behind it told; rows of strings; slices.SortFunc at fractions. -/
import Derived.Test.YtjnkogkpdbgohaaGreatDoorM21
import Derived.Test.YtjnkogkpdbgohaaGreatDoorShS
namespace Go.Proofs.YtjnkogkpdbgohaaGreatDoor
open Go.Sort Go.RowKit Go.Lib
theorem compareG_any (a b c d : Int) (w : World) (h1 : -1000000000000000000 ≤ a * d ∧ a * d ≤ 1000000000000000000) (h2 : -1000000000000000000 ≤ c * b ∧ c * b ≤ 1000000000000000000) :
    Calls Tryz.prog 49 #[(.agg #[.int .i64 a, .int .i64 b]), (.agg #[.int .i64 c, .int .i64 d])] w fun e w' => e = .returned (.int .i64 (sg (a * d - c * b))) ∧ ∃ q os, w' = grow (w.drewN q) os := by
  have HS := Lib.hid (fun W => sign_any (a * d - c * b) W)
  generalize hX : a * d - c * b = X at *
  have hX2 := Lib.hid hX
  obtain ⟨x0, x1⟩ := h1
  obtain ⟨y0, y1⟩ := h2
  go_enter Tryz.func49, Tryz.ntmps49
  go_wp2_with fail
  refine (HS.out _).mono ?_; rintro e w' ⟨rfl, rfl⟩
  go_wp2_with fail
  go_ret
  exact ⟨rfl, 0, _, by rw [alloc_eq_grow, alloc_eq_grow, grow_grow]; rfl⟩
theorem closureT (a b c d : Int) (w : World) (h1 : -1000000000000000000 ≤ a * d ∧ a * d ≤ 1000000000000000000) (h2 : -1000000000000000000 ≤ c * b ∧ c * b ≤ 1000000000000000000) :
    Calls Tryz.prog 62 #[(.agg #[.int .i64 a, .int .i64 b]), (.agg #[.int .i64 c, .int .i64 d])] w fun e w' => e = .returned (.int .i64 (sg (a * d - c * b))) ∧ ∃ q os, w' = grow (w.drewN q) os := by
  have HC := Lib.hid (fun W => compareG_any a b c d W h1 h2)
  have hsg : -1 ≤ sg (a * d - c * b) ∧ sg (a * d - c * b) ≤ 1 := by unfold sg; split <;> (try split) <;> omega
  generalize sg (a * d - c * b) = X at *
  obtain ⟨s0, s1⟩ := hsg
  go_enter Tryz.func62, Tryz.ntmps62
  go_wp2_with fail
  refine (HC.out _).mono ?_; rintro e w' ⟨rfl, q, os, hw⟩
  have HW := Lib.hid hw
  clear hw
  go_wp2_with fail
  go_ret
  refine ⟨rfl, q, #[.cells #[(.int .i64 a), (.int .i64 b)] 34] ++ #[.cells #[(.int .i64 c), (.int .i64 d)] 34] ++ os, ?_⟩
  rw [HW.out, alloc_eq_grow, alloc_eq_grow, grow_grow, show (grow w (#[.cells #[(.int .i64 a), (.int .i64 b)] 34] ++ #[.cells #[(.int .i64 c), (.int .i64 d)] 34])).drewN q = grow (w.drewN q) (#[.cells #[(.int .i64 a), (.int .i64 b)] 34] ++ #[.cells #[(.int .i64 c), (.int .i64 d)] 34]) from rfl, grow_grow]
def encT (t : TF) : List Value := [(.int .i64 t.x), (.int .i64 t.y)]
theorem mulT (a b : TF) : -1000000000000000000 ≤ a.x * b.y ∧ a.x * b.y ≤ 1000000000000000000 := by
  have := a.x0; have := a.x1; have := b.y0; have := b.y1
  exact mul_bd (A := 1000000000) (B := 1000000000) (by omega) (by omega) (by omega) (by omega)
theorem cmpLaysT (blk off size : Nat) (w : World) : CmpLays Tryz.prog 62 #[] encT 2 cfT blk off size w :=
  fun _ _ _ _ x y => closureT x.x x.y y.x y.y _ (mulT x y) (mulT y x)
theorem flat_encT : ∀ {l : List P2}, (∀ q ∈ l, tfIn q) → ints (flat2 l) = (l.map toTF).flatMap encT
  | [], _ => rfl
  | q :: l, h => by
    have ih := flat_encT (l := l) fun x hx => h x (List.mem_cons_of_mem _ hx)
    have hq := of_toTF (h q (by simp))
    have e1 : (toTF q).x = q.x := congrArg P2.x hq
    have e2 : (toTF q).y = q.y := congrArg P2.y hq
    rw [List.map_cons, List.flatMap_cons, ← ih]
    simp [flat2, ints, encT, e1, e2]
theorem sortF_any (g cap : Nat) (d : Array TF) (w : World) (hn : 0 < d.size) (hl : d.size ≤ 1000000) {B : Nat} (h : w.ownsRow B 34 2 (.slice (some ⟨g, 0, none⟩) d.size cap) d.size (d.toList.flatMap encT)) :
    Calls Tryz.prog 61 #[.slice (some ⟨g, 0, none⟩) d.size cap, .func (.func 62) #[] #[]] w fun e w' =>
      e = .returned (.tuple #[]) ∧ w'.ownsRow B 34 2 (.slice (some ⟨g, 0, none⟩) d.size cap) d.size ((d.toList.mergeSort fun x y => !(ltOf cfT) y x).flatMap encT) ∧ w.grownBy w' (some g) := by
  have hk : ∀ x, (encT x).length = 2 := fun _ => rfl
  have eg : ∀ args w, (callFunc 62 args).run Tryz.prog w = .ok (.enter 62 args) w := enters_of Tryz.func62 (by kernel_rfl) rfl
  have hcon := AnyQ.slices_SortFunc_total sh_laysSF 2 Tryz.isAgg34 Tryz.sizeOf34 encT hk (fun x v hv => by simp [encT] at hv; rcases hv with rfl | rfl <;> rfl) cfT swoT 62 #[] g 0 cap d w eg (cmpLaysT g 0 d.size w) (own_holdsK hk (by omega) hn h) (own_lt h rfl) (by omega) partT
  refine hcon.mono ?_
  rintro e w' ⟨rfl, n, os, rfl⟩
  have hs : (d.toList.mergeSort fun x y => !(ltOf cfT) y x).toArray.size = d.size := by simp
  exact ⟨rfl, own_sortedK hk (by omega) hs h, grown_sortedK⟩
theorem sortF_rows (g cap n : Nat) (l S : List P2) (w : World) (hl : ∀ q ∈ l, tfIn q) (hS : ∀ q ∈ S, tfIn q) (hn : l.length = n) (n0 : 0 < n) (n1 : n ≤ 1000000) {B : Nat} (hs : ((l.map toTF).mergeSort fun x y => !(ltOf cfT) y x) = S.map toTF) (h : w.ownsRow B 34 2 (.slice (some ⟨g, 0, none⟩) n cap) n (ints (flat2 l))) :
    Calls Tryz.prog 61 #[.slice (some ⟨g, 0, none⟩) n cap, .func (.func 62) #[] #[]] w fun e w' =>
      e = .returned (.tuple #[]) ∧ w'.ownsRow B 34 2 (.slice (some ⟨g, 0, none⟩) n cap) n (ints (flat2 S)) ∧ w.grownBy w' (some g) := by
  have hd : (l.map toTF).toArray.size = n := by simp [hn]
  have := sortF_any g cap (l.map toTF).toArray w (by rw [hd]; exact n0) (by rw [hd]; exact n1) (B := B) (by rw [hd]; simpa [← flat_encT hl] using h)
  rw [hd] at this
  refine this.mono ?_
  rintro e w' ⟨rfl, ho, hg⟩
  refine ⟨rfl, ?_, hg⟩
  rw [flat_encT hS, ← hs]
  simpa using ho
end Go.Proofs.YtjnkogkpdbgohaaGreatDoor
/- Contracts: tiers, by the program. -/
namespace Go.Proofs.YtjnkogkpdbgohaaGreatDoor
open Go.RowKit
theorem elStr : Elem Tryz.prog 73 9 (.string ⟨#[]⟩) 1 16 := elem_of Tryz.underlying73 (by kernel_rfl) rfl (by omega) (by omega)
theorem letS_lr (p : List Bool) : letS (strOfNums (p.map lrI)) = p := by
  unfold letS
  rw [strOfNums_data, List.map_map, List.map_map]
  conv => rhs; rw [← List.map_id p]
  refine List.map_congr_left fun b _ => ?_
  cases b <;> rfl
theorem lrS_add (p : List Bool) (b : Bool) : strOfNums (p.map lrI) ++ (⟨#[UInt8.ofNat (lrI b).toNat]⟩ : ByteArray) = strOfNums ((p ++ [b]).map lrI) := by
  apply ByteArray.ext
  simp [strOfNums, ByteArray.data_append]
theorem pathsL_len : ∀ n, (pathsL n).length = 2 ^ n
  | 0 => rfl
  | n + 1 => by
    have : ∀ l : List (List Bool), (l.flatMap fun p => [p ++ [true], p ++ [false]]).length = l.length * 2 := by
      intro l
      induction l with
      | nil => rfl
      | cons a l ih => rw [List.flatMap_cons, List.length_append, ih, List.length_cons]; simp; omega
    rw [pathsL, this, pathsL_len n, Nat.pow_succ]
theorem pathsL_mem : ∀ {n : Nat} {p : List Bool}, p ∈ pathsL n → p.length = n
  | 0, p, h => by simp [pathsL] at h; subst h; rfl
  | n + 1, p, h => by
    simp only [pathsL, List.mem_flatMap] at h
    obtain ⟨q, hq, hp⟩ := h
    have := pathsL_mem hq
    simp at hp
    rcases hp with rfl | rfl <;> simp [this]
/-- The paths that come of the first j. -/
def nextL (l : List (List Bool)) (j : Nat) : List (List Bool) := (l.take j).flatMap fun p => [p ++ [true], p ++ [false]]
theorem nextL_succ {l : List (List Bool)} {j : Nat} {p : List Bool} (h : l[j]? = some p) : nextL l (j + 1) = nextL l j ++ [p ++ [true], p ++ [false]] := by
  unfold nextL
  rw [List.take_add_one, h]
  simp
theorem nextL_len (l : List (List Bool)) (j : Nat) (h : j ≤ l.length) : (nextL l j).length = 2 * j := by
  induction j with
  | zero => simp [nextL]
  | succ j ih =>
    have h2 : j < l.length := by omega
    rw [nextL_succ (List.getElem?_eq_getElem h2), List.length_append, ih (by omega)]
    simp; omega
def strV (l : List (List Bool)) : List Value := l.map lrS
set_option maxRecDepth 100000 in
set_option maxHeartbeats 4000000 in
theorem TierOf_any (N : Int) (w : World) :
    Calls Tryz.prog 26 #[(.int .i64 N)] w fun e w' => ∃ v, e = .returned (.tuple #[v, (.int .i64 ((tiRes N).2))]) ∧ w'.ownsRow w.heap.size 34 2 v (tiRes N).1.length (ints (flat2 (tiRes N).1)) ∧ Below w.heap.size w w' := by
  have HW := Lib.hid (fun W => within_any N 0 7 W)
  cases hN : inB N 0 7
  · rw [show tiRes N = ([], 2) by simp [tiRes, hN]]
    rw [hN] at HW
    go_enter Tryz.func26, Tryz.ntmps26
    go_wp2_with fail
    refine (HW.out _).mono ?_; rintro e w' ⟨rfl, rfl⟩
    go_wp2_with fail
    go_ret2
    exact ⟨_, rfl, World.ownsRow_nil _ _ _ _, Below.refl _ _⟩
  rw [hN] at HW
  obtain ⟨n, rfl⟩ : ∃ n : Nat, N = (n : Int) := ⟨N.toNat, by simp [inB] at hN; omega⟩
  have hn : n ≤ 7 := by simp [inB] at hN; omega
  rw [show tiRes (n : Int) = (tierL n ⟨0, 1, 1, 0⟩, 0) by simp [tiRes, hN]]
  clear hN
  go_enter Tryz.func26, Tryz.ntmps26
  go_wp2_with fail
  refine (HW.out _).mono ?_; rintro e w' ⟨rfl, rfl⟩
  clear HW
  go_wp2_with fail
  have T := Lib.hid (show Below w.heap.size w (w.alloc (Obj.cells #[.string { data := #[] }] 9)) by go_grown)
  have O := Lib.hid (show (w.alloc (Obj.cells #[.string { data := #[] }] 9)).ownsRow w.heap.size 9 1 (.slice (some ⟨w.heap.size, 0, none⟩) 1 1) (pathsL 0).length (strV (pathsL 0)) from World.ownsRow_lit w #[.string { data := #[] }] 1 (Nat.le_refl _) (by simp [maxLen]) rfl)
  generalize w.alloc (Obj.cells #[.string { data := #[] }] 9) = W at *
  go_loopw [4, 5, 7, 16] (fun v _ _ i wr => ∃ k : Nat, i = (.int .i64 ((k : Int))) ∧ k ≤ n ∧ Hid (wr.ownsRow w.heap.size 9 1 v (pathsL k).length (strV (pathsL k))) ∧ Hid (Below w.heap.size w wr)) (fun _ _ _ i _ => n - (intOf i).toNat)
  case atStart => exact ⟨0, rfl, Nat.zero_le _, O, T⟩
  case round =>
    clear O T
    obtain ⟨k, rfl, hk, O, T⟩ := hrel
    by_cases hlt : k < n
    · have hlt2 : (k : Int) < (n : Int) := by omega
      obtain ⟨A, cap, rfl, hcap, hcm, hat⟩ := own_view O.out
      have hu := Lib.hid (own_under O.out)
      have R := Lib.hid (hat.below (Below.refl _ _))
      have HL := Lib.hid (pathsL_len k)
      have hlen : (pathsL k).length ≤ 128 := by rw [HL.out]; have := Nat.pow_le_pow_right (show 0 < 2 by omega) (show k ≤ 7 by omega); omega
      have HN := Lib.hid (show pathsL (k + 1) = nextL (pathsL k) (pathsL k).length by simp [pathsL, nextL])
      have HM := Lib.hid (show ∀ p ∈ pathsL k, p.length ≤ 7 from fun p hp => by rw [pathsL_mem hp]; omega)
      have hpos : 0 < (pathsL k).length := by rw [HL.out]; exact Nat.pow_pos (by omega)
      clear hat HL
      generalize pathsL k = L at *
      have hsz := T.out.size
      unfold maxLen at hcm
      clear O
      go_wp2_with fail
      have T2 := Lib.hid (show Below w.heap.size w (wr.alloc (Obj.cells #[] 9)) from T.out.alloc hsz _)
      have R2 := Lib.hid (show RowAt (wr.alloc (Obj.cells #[] 9)) w.heap.size A L.length (strV L) from R.out.below ((Below.refl _ _).alloc (Nat.le_refl _) _))
      have O2 := Lib.hid (show (wr.alloc (Obj.cells #[] 9)).ownsRow wr.heap.size 9 1 (.slice (some ⟨wr.heap.size, 0, none⟩) 0 0) (2 * 0) (strV (nextL L 0)) from World.ownsRow_lit wr #[] 0 (Nat.le_refl _) (by simp [maxLen]) rfl)
      have hgl : wr.heap.size ≤ (wr.alloc (Obj.cells #[] 9)).heap.size := by simp
      generalize wr.alloc (Obj.cells #[] 9) = W2 at *
      clear T R
      generalize wr.heap.size = B5 at *
      go_loopw [5, 7, 21] (fun v _ i wq => ∃ j : Nat, i = (.int .i64 ((j : Int))) ∧ j ≤ L.length ∧ Hid (wq.ownsRow B5 9 1 v (2 * j) (strV (nextL L j))) ∧ Hid (RowAt wq w.heap.size A L.length (strV L)) ∧ Hid (Below w.heap.size w wq) ∧ B5 ≤ wq.heap.size) (fun _ _ i _ => L.length - (intOf i).toNat)
      case atStart => exact ⟨0, rfl, Nat.zero_le _, O2, R2, T2, hgl⟩
      case round =>
        clear O2 R2 T2 hgl
        obtain ⟨j, rfl, hj, O2, R2, T2, hgl⟩ := hrel
        by_cases hlt3 : j < L.length
        · obtain ⟨b, rfl, -, hbl, hc, hfz⟩ := R2.out hpos
          have hub := hu.out b rfl
          obtain ⟨p, hp⟩ : ∃ p, L[j]? = some p := ⟨L[j], List.getElem?_eq_getElem hlt3⟩
          have hcj := hc j (lrS p) (by simp [strV, hp])
          have HX := Lib.hid (nextL_succ hp)
          have hpl := HM.out p (List.mem_of_getElem? hp)
          obtain ⟨s, hs⟩ : ∃ s, strOfNums (p.map lrI) = s := ⟨_, rfl⟩
          have H1 := Lib.hid (show lrS (p ++ [true]) = .string (s ++ ⟨#[76]⟩) by rw [← hs]; exact congrArg Value.string (lrS_add p true).symm)
          have H2 := Lib.hid (show lrS (p ++ [false]) = .string (s ++ ⟨#[82]⟩) by rw [← hs]; exact congrArg Value.string (lrS_add p false).symm)
          have hs2 : lrS p = .string s := congrArg Value.string hs
          have hss : s.size ≤ 7 := by rw [← hs, strOfNums_size]; simpa using hpl
          rw [hs2] at hcj
          clear hs hs2 hp hc
          have hsz2 := T2.out.size
          have hO := Lib.hid (O2.out.alloc (.cells #[.string (s ++ ⟨#[76]⟩), .string (s ++ ⟨#[82]⟩)] 9))
          have hT := Lib.hid (T2.out.alloc hsz2 (.cells #[.string (s ++ ⟨#[76]⟩), .string (s ++ ⟨#[82]⟩)] 9))
          have hR := Lib.hid (show RowAt (wr.alloc (.cells #[.string (s ++ ⟨#[76]⟩), .string (s ++ ⟨#[82]⟩)] 9)) w.heap.size (some ⟨b, 0, none⟩) L.length (strV L) from R2.out.below ((Below.refl _ _).alloc (Nat.le_refl _) _))
          have hN2 := Lib.hid (show ∀ i u, [Value.string (s ++ ⟨#[76]⟩), Value.string (s ++ ⟨#[82]⟩)][i]? = some u → (wr.alloc (.cells #[.string (s ++ ⟨#[76]⟩), .string (s ++ ⟨#[82]⟩)] 9)).cell? ⟨wr.heap.size, i, none⟩ = some u from fun i u hu => by rw [cell_of_blk (heap_new (w := wr)) i]; simpa using hu)
          have hsz3 : B5 ≤ (wr.alloc (.cells #[.string (s ++ ⟨#[76]⟩), .string (s ++ ⟨#[82]⟩)] 9)).heap.size := by simp; omega
          have hsz4 : w.heap.size ≤ B5 := by omega
          clear O2 T2 R2 hfz
          go_wp2_with (at_builtin; refine app_all (w0 := wr.alloc (.cells #[.string (s ++ ⟨#[76]⟩), .string (s ++ ⟨#[82]⟩)] 9)) (B := B5) elStr rfl _ _ rfl rfl rfl hO.out (Below.refl _ _) rfl hN2.out (by intro u hu; simp at hu; rcases hu with rfl | rfl <;> rfl) hsz3 (by omega) ?_; intro v' w2 ho2 hb2 hg2)
          go_roundw
          case rel =>
            refine ⟨j + 1, by go_num, by omega, ?_, Lib.hid (hR.out.far hO.out hg2.grown (fun b' hb' => by injection hb' with hb'; injection hb' with hb'; omega)), Lib.hid (hT.out.grown hg2.grown hT.out.size (fun k hk => Nat.le_trans hsz4 (own_ge hO.out hk))), Nat.le_trans hsz3 hg2.grown.size⟩
            refine Lib.hid ?_
            rw [HX.out, show 2 * (j + 1) = 2 * j + 2 by omega]
            simpa [strV, H1.out, H2.out] using ho2
          case measure => simp [intOf]; omega
        · obtain rfl : j = L.length := by omega
          have hlt4 : ¬ ((L.length : Nat) : Int) < ((L.length : Nat) : Int) := by omega
          have HE := Lib.hid (show wr.ownsRow w.heap.size 9 1 u5 (pathsL (k + 1)).length (strV (pathsL (k + 1))) by
            have hl := nextL_len L L.length (Nat.le_refl _)
            rw [HN.out, hl]; exact own_base O2.out hsz)
          clear O2 R2 HN
          go_wp2_with fail
          go_roundw
          case rel => exact ⟨k + 1, by go_num, by omega, HE, T2⟩
          case measure => simp [intOf]; omega
    · obtain rfl : k = n := by omega
      have hlt2 : ¬ (k : Int) < (k : Int) := by omega
      obtain ⟨A, cap, rfl, hcap, hcm, hat⟩ := own_view O.out
      have hu := Lib.hid (own_under O.out)
      have R := Lib.hid (hat.below (Below.refl _ _))
      have HL := Lib.hid (pathsL_len k)
      have hlen : (pathsL k).length ≤ 128 := by rw [HL.out]; have := Nat.pow_le_pow_right (show 0 < 2 by omega) hn; omega
      have HM := Lib.hid (show ∀ p ∈ pathsL k, p.length ≤ 7 from fun p hp => by rw [pathsL_mem hp]; omega)
      have hpos : 0 < (pathsL k).length := by rw [HL.out]; exact Nat.pow_pos (by omega)
      have HI := Lib.hid (show ∀ q ∈ (pathsL k).map medP, tfIn q from fun q hq => by obtain ⟨p, hp, rfl⟩ := List.mem_map.1 hq; exact medP_in hn hp)
      have HTS := Lib.hid (tier_sorted hn)
      have HTI := Lib.hid (tier_ok hn).inn
      have HTL := Lib.hid (show (tierL k ⟨0, 1, 1, 0⟩).length = (pathsL k).length by rw [tierL_len, HL.out])
      clear hat HL
      generalize pathsL k = L at *
      obtain ⟨S, hS⟩ : ∃ S, tierL k ⟨0, 1, 1, 0⟩ = S := ⟨_, rfl⟩
      rw [hS] at HTS HTI HTL
      have HSE := Lib.hid hS
      clear hS
      have hsz := T.out.size
      unfold maxLen at hcm
      clear O
      go_wp2_with fail
      have T2 := Lib.hid (show Below w.heap.size w (wr.alloc (Obj.cells #[] 34)) from T.out.alloc hsz _)
      have R2 := Lib.hid (show RowAt (wr.alloc (Obj.cells #[] 34)) w.heap.size A L.length (strV L) from R.out.below ((Below.refl _ _).alloc (Nat.le_refl _) _))
      have O2 := Lib.hid (show (wr.alloc (Obj.cells #[] 34)).ownsRow wr.heap.size 34 2 (.slice (some ⟨wr.heap.size, 0, none⟩) 0 0) 0 (ints (flat2 ((L.take 0).map medP))) from World.ownsRow_lit wr #[] 0 (Nat.le_refl _) (by simp [maxLen]) rfl)
      have hgl : wr.heap.size ≤ (wr.alloc (Obj.cells #[] 34)).heap.size := by simp
      generalize wr.alloc (Obj.cells #[] 34) = W2 at *
      clear T R
      generalize wr.heap.size = B5 at *
      go_loopw [8, 10, 38] (fun v _ i wq => ∃ j : Nat, i = (.int .i64 ((j : Int))) ∧ j ≤ L.length ∧ Hid (wq.ownsRow B5 34 2 v j (ints (flat2 ((L.take j).map medP)))) ∧ Hid (RowAt wq w.heap.size A L.length (strV L)) ∧ Hid (Below w.heap.size w wq) ∧ B5 ≤ wq.heap.size) (fun _ _ i _ => L.length - (intOf i).toNat)
      case atStart => exact ⟨0, rfl, Nat.zero_le _, O2, R2, T2, hgl⟩
      case round =>
        clear O2 R2 T2 hgl
        obtain ⟨j, rfl, hj, O2, R2, T2, hgl⟩ := hrel
        by_cases hlt3 : j < L.length
        · obtain ⟨b, rfl, -, hbl, hc, hfz⟩ := R2.out hpos
          have hub := hu.out b rfl
          obtain ⟨p, hp⟩ : ∃ p, L[j]? = some p := ⟨L[j], List.getElem?_eq_getElem hlt3⟩
          have hcj := hc j (lrS p) (by simp [strV, hp])
          have hpl := HM.out p (List.mem_of_getElem? hp)
          have HX := Lib.hid (show (L.take (j + 1)).map medP = (L.take j).map medP ++ [medP p] by rw [List.take_add_one, hp]; simp)
          have hF0 := fun W => follow_any (strOfNums (p.map lrI)) _ W (by rw [strOfNums_size]; simp; omega) rfl
          rw [letS_lr] at hF0
          have HF := Lib.hid (show ∀ W, Calls Tryz.prog 51 #[lrS p] W fun e w' => e = .returned (.agg #[.int .i64 ((medP p).x), .int .i64 ((medP p).y)]) ∧ Below W.heap.size W w' from hF0)
          clear hF0
          obtain ⟨s, hs⟩ : ∃ s, strOfNums (p.map lrI) = s := ⟨_, rfl⟩
          have hs2 : lrS p = .string s := congrArg Value.string hs
          rw [hs2] at hcj HF
          clear hs hs2 hp hc hfz
          generalize medP p = q at *
          obtain ⟨qx, qy⟩ := q
          simp only at HF
          go_wp2_with fail
          refine (HF.out _).mono ?_; rintro e w2 ⟨rfl, hb⟩
          have O3 := Lib.hid (own_below O2.out hb)
          have T3 := Lib.hid (bfin T2.out hb)
          have R3 := Lib.hid (R2.out.below hb)
          have hg3 : B5 ≤ w2.heap.size := Nat.le_trans hgl hb.size
          have hsz4 : w.heap.size ≤ B5 := by omega
          clear O2 T2 R2 hb HF
          go_wp2_with (at_builtin; refine app_one (w0 := w2) (B := B5) elFrM rfl _ _ rfl rfl rfl (by simp) O3.out (Below.refl _ _) rfl (by intro u hu; simp at hu; rcases hu with rfl | rfl <;> rfl) hg3 (by omega) ?_; intro v' w3 ho3 hb3 hg3')
          go_roundw
          case rel =>
            refine ⟨j + 1, by go_num, by omega, ?_, Lib.hid (R3.out.far O3.out hg3'.grown (fun b' hb' => by injection hb' with hb'; injection hb' with hb'; omega)), Lib.hid (T3.out.grown hg3'.grown T3.out.size (fun k hk => Nat.le_trans hsz4 (own_ge O3.out hk))), Nat.le_trans hg3 hg3'.grown.size⟩
            refine Lib.hid ?_
            rw [HX.out, flat2_snoc]
            simpa [ints] using ho3
          case measure => simp [intOf]; omega
        · obtain rfl : j = L.length := by omega
          have hlt4 : ¬ ((L.length : Nat) : Int) < ((L.length : Nat) : Int) := by omega
          obtain ⟨g, cap2, rfl⟩ := own_ptr O2.out hpos
          have HSF := Lib.hid (sortF_rows g cap2 L.length (L.map medP) S wr HI.out HTI.out (by simp) hpos (by omega) (by rw [List.map_map]; exact HTS.out) (by simpa using O2.out))
          have HO2 := Lib.hid O2.out
          clear O2 R2 HI HTI HTS HM
          go_wp2_with fail
          refine HSF.out.mono ?_; rintro e w2 ⟨rfl, ho, hg⟩
          have O3 := Lib.hid ho
          have T3 := Lib.hid (show Below w.heap.size w w2 from T2.out.grown hg T2.out.size (fun k hk => by injection hk with hk; subst hk; exact Nat.le_trans (by omega) (own_ge HO2.out rfl)))
          clear ho hg
          go_wp2_with fail
          go_ret2
          exact ⟨_, rfl, by rw [HSE.out, HTL.out]; exact own_base O3.out hsz, T3.out⟩
end Go.Proofs.YtjnkogkpdbgohaaGreatDoor
