/- Plain: rows of aggregates of a call's own, sorted by Go's library: what they hold before and behind. -/
import Derived.Test.YtencfmipplgnkaaRow
import Derived.Shelf.SlSortCmp.NoneTotal
namespace Go.Proofs.Ytencfmipplgnkaa
open Go.Sort Go.RowKit
variable {α : Type} [Inhabited α]
theorem toL_get (d : Array α) (i : Nat) : d.toList[i]! = d[i]! := by
  by_cases h : i < d.size
  · rw [getElem!_pos d i h, getElem!_pos d.toList i (by simpa using h), Array.getElem_toList]
  · rw [getElem!_neg d i h, getElem!_neg d.toList i (by simpa using h)]
theorem flatMap_at {enc : α → List Value} {k : Nat} (hk : ∀ x, (enc x).length = k) (k0 : 0 < k) : ∀ (l : List α) (t : Nat), t < l.length * k → (l.flatMap enc)[t]? = some ((enc l[t / k]!)[t % k]!)
  | [], t, h => by simp at h
  | a :: l, t, h => by
    rw [List.flatMap_cons]
    by_cases ht : t < k
    · rw [List.getElem?_append_left (by rw [hk]; exact ht), Nat.div_eq_of_lt ht, Nat.mod_eq_of_lt ht]
      have h1 : t < (enc a).length := by rw [hk]; exact ht
      simp [h1]
    · have h2 : t - k < l.length * k := by
        rw [List.length_cons, Nat.succ_mul] at h; omega
      rw [List.getElem?_append_right (by rw [hk]; omega), hk, flatMap_at hk k0 l (t - k) h2]
      have e1 : t / k = (t - k) / k + 1 := by
        have : t = (t - k) + k := by omega
        rw [this, Nat.add_div_right _ k0, Nat.add_sub_cancel]
      have e2 : t % k = (t - k) % k := by
        have : t = (t - k) + k := by omega
        rw [this, Nat.add_mod_right, Nat.add_sub_cancel]
      rw [e1, e2]
      simp
omit [Inhabited α] in
theorem flatMap_len {enc : α → List Value} {k : Nat} (hk : ∀ x, (enc x).length = k) : ∀ l : List α, (l.flatMap enc).length = l.length * k
  | [] => by simp
  | a :: l => by rw [List.flatMap_cons, List.length_append, hk, flatMap_len hk l, List.length_cons, Nat.succ_mul]; omega
theorem flatK_list {enc : α → List Value} {k : Nat} (hk : ∀ x, (enc x).length = k) (k0 : 0 < k) (d : Array α) : (flatK enc k d).toList = d.toList.flatMap enc := by
  apply List.ext_getElem?
  intro t
  by_cases ht : t < d.size * k
  · rw [flatMap_at hk k0 d.toList t (by simpa using ht), Array.getElem?_toList]
    have h1 : t < (flatK enc k d).size := by rw [size_flatK]; exact ht
    rw [Array.getElem?_eq_getElem h1, ← getElem!_pos (flatK enc k d) t h1, get_flatK _ _ _ _ ht, toL_get d]
  · rw [List.getElem?_eq_none (by simp; omega), List.getElem?_eq_none (by rw [flatMap_len hk]; simp; omega)]
/-- A row of a call's own holds what it is said to hold, in the sort's words. -/
theorem own_holdsK {enc : α → List Value} {k : Nat} (hk : ∀ x, (enc x).length = k) (k0 : 0 < k) {w : World} {B g cap : Nat} {e : TypeId} {d : Array α} (hn : 0 < d.size) (h : w.ownsRow B e k (.slice (some ⟨g, 0, none⟩) d.size cap) d.size (d.toList.flatMap enc)) : HoldsK enc k w g 0 d := by
  obtain ⟨b, hb, -, -, hc, hf⟩ := own_at h hn
  injection hb with hb
  injection hb with hb
  subst hb
  intro j hj
  rw [size_flatK] at hj
  refine ⟨?_, by rw [Nat.zero_add]; exact hf j⟩
  rw [Nat.zero_add]
  refine hc j _ ?_
  rw [get_flatK _ _ _ _ hj]
  have := flatMap_at hk k0 d.toList j (by simpa using hj)
  rw [this, toL_get d]; rfl
theorem heap_sortedK {w : World} {g n : Nat} {os : Array Obj} {cur F : Array Value} {e : TypeId} {fr : Nat × Nat} (hb : w.heap[g]? = some (.cells cur e fr)) :
    (grow (putRow id (Sort.ahead w n) g 0 F) os).heap[g]? = some (.cells (putCells id 0 F cur) e fr) := by
  have hg : g < w.heap.size := (Array.getElem?_eq_some_iff.1 hb).1
  rw [heap_grow_old _ _ (by simpa using hg)]
  simp [putRow, mapBlock, Sort.ahead, Array.getElem?_modify, hb, onCells]
theorem grown_sortedK {w : World} {g n : Nat} {os : Array Obj} {F : Array Value} : w.grownBy (grow (putRow id (Sort.ahead w n) g 0 F) os) (some g) := by
  refine ⟨rfl, rfl, rfl, by simp, fun k hk hne => ?_⟩
  rw [heap_grow_old _ _ (by simpa using hk)]
  have : g ≠ k := fun e => hne (by rw [e])
  simp [putRow, mapBlock, Sort.ahead, Array.getElem?_modify, this]
theorem take_putCellsK (cur : Array Value) (F : Array Value) (h : F.size ≤ cur.size) : (putCells id 0 F cur).toList.take F.size = F.toList := by
  apply List.ext_getElem?
  intro j
  by_cases hj : j < F.size
  · rw [List.getElem?_take_of_lt hj, Array.getElem?_toList]
    simp [putCells, hj, show j < cur.size by omega]
  · rw [List.getElem?_take_eq_none (by omega), List.getElem?_eq_none (by simp; omega)]
/-- Behind the sort the same slice owns the sorted list. -/
theorem own_sortedK {enc : α → List Value} {k : Nat} (hk : ∀ x, (enc x).length = k) (k0 : 0 < k) {w : World} {B g cap n m : Nat} {e : TypeId} {xs : List Value} {os : Array Obj} {d : Array α} (hd : d.size = n)
    (h : w.ownsRow B e k (.slice (some ⟨g, 0, none⟩) n cap) n xs) : (sortWorldK enc k w g 0 m d os).ownsRow B e k (.slice (some ⟨g, 0, none⟩) n cap) n (d.toList.flatMap enc) := by
  obtain ⟨h1, h2⟩ := h
  rcases h2 with ⟨he, _⟩ | ⟨g', c, cur, he, hB, hh, hn, hm, hs, ht⟩
  · cases he
  · injection he with e1 e2 e3
    injection e1 with e1
    injection e1 with e1
    subst e1; subst e3
    have hF : (flatK enc k d).size = n * k := by rw [size_flatK, hd]
    refine ⟨by rw [flatMap_len hk]; simp [hd], .inr ⟨g, cap, _, rfl, hB, heap_sortedK hh, hn, hm, by simp [putCells, hs], ?_⟩⟩
    rw [← hF, take_putCellsK _ _ (by rw [hF, hs]; exact Nat.mul_le_mul_right _ hn), flatK_list hk k0]
end Go.Proofs.Ytencfmipplgnkaa
