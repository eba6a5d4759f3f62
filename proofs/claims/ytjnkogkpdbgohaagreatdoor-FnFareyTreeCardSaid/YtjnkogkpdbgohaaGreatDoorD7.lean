/- A code that comes in: its bytes. -/
import Derived.Test.YtjnkogkpdbgohaaGreatDoorDa
namespace Go.Proofs.YtjnkogkpdbgohaaGreatDoor
open Go.RowKit
theorem lt_of_cell {w : World} {b o : Nat} {v : Value} (h : w.cell? ⟨b, o, none⟩ = some v) : b < w.heap.size := by
  rcases Nat.lt_or_ge b w.heap.size with hb | hb
  · exact hb
  · have e : w.heap[b]? = none := Array.getElem?_eq_none hb
    simp [World.cell?, e] at h
theorem wf_byte {x : Int} (h : (Lit.int .u8 x).wf = true) : 0 ≤ x ∧ x ≤ 255 := by
  simp [Lit.wf, IntKind.min, IntKind.max, IntKind.bits, IntKind.signed] at h
  omega
theorem bytes_of {w : World} {x : Addr} {len : Nat} {zs : List Int} (hl : len ≤ zs.length) (hc : ∀ i, i < zs.length → w.cell? (x.add i) = some (.int .u8 (zs.getD i 0))) (hw : ∀ n ∈ zs, (Lit.int .u8 n).wf = true) : Bytes w w.heap.size (some x) len := fun h0 => by
  obtain ⟨b, o, spot⟩ := x
  have h1 := hc 0 (by omega)
  have hs : spot = none := by simpa [Addr.add] using World.cell?_spot h1
  subst hs
  have hb : b < w.heap.size := lt_of_cell (by simpa [Addr.add] using h1)
  refine ⟨b, o, rfl, hb, hb, fun i hi => ?_⟩
  have hi2 : i < zs.length := by omega
  have h2 := hc i hi2
  have h3 := wf_byte (hw _ (getD_in hi2))
  obtain ⟨v, hv⟩ := Int.eq_ofNat_of_zero_le h3.1
  have e : (⟨b, o, none⟩ : Addr).add i = ⟨b, o + i, none⟩ := by unfold Addr.add; split <;> simp_all
  rw [e] at h2
  exact ⟨v, by omega, by rw [← hv]; exact h2⟩
end Go.Proofs.YtjnkogkpdbgohaaGreatDoor
