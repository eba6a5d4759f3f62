/- Rows of a call's own: append of a whole row; another base. -/
import Derived.Test.YtencfmipplgnkaaRow
namespace Go.Proofs.Ytencfmipplgnkaa
open Go.RowKit
theorem app_all {P : Program} {ops : Array Oper} {rest : List Oper} {o : Oper} {a : Act} {Q : Exit → Act → World → Prop} {w0 wr : World} {B n m b cap size bytes : Nat} {t e : TypeId} {z v : Value} {xs news : List Value}
    (hE : Elem P t e z size bytes) (hgd : o.guard = none) (s x : Operand) (ho : o.op = .call { callee := .builtin .append, args := #[s, x], argTypes := #[t, t] })
    (hs : a.eval s = v) (hx : a.eval x = .slice (some ⟨b, 0, none⟩) m cap) (hown : wr.ownsRow B e size v n xs) (hb : Below B w0 wr) (hl : news.length = m * size)
    (hc : ∀ j u, news[j]? = some u → wr.cell? ⟨b, j, none⟩ = some u) (h1 : ∀ u ∈ news, u.oneCell' = true) (hB : B ≤ wr.heap.size) (hn : n + m ≤ 1000000000)
    (h : ∀ v' w', w'.ownsRow B e size v' (n + m) (xs ++ news) → Below B w0 w' → App wr w' v v' → wpList P ops Q rest (a.put o.dst v') w') : wpList P ops Q (o :: rest) a wr := by
  obtain ⟨hu, ⟨i, hi, hz, hsz, hby⟩, hzc, hpos, hsm⟩ := hE
  have hmul : (n + m) * bytes ≤ (n + m) * 100 := Nat.mul_le_mul_left _ hsm
  refine wpList_append_own_at (P := P) _ hgd s x t ho B e i z size bytes hu hi hz hsz hby hzc hpos v n xs hs hown ⟨b, 0, none⟩ m cap news hx hl ?_ h1 (by unfold maxLen; omega) (by omega) hB ?_
  · intro j u hu
    have e : (⟨b, 0, none⟩ : Addr).add j = ⟨b, j, none⟩ := by unfold Addr.add; split <;> simp_all
    rw [e]
    exact hc j u hu
  · intro v' w' h2 h3 _ h5
    refine h v' w' h2 (hb.grown h3 hB (fun k hk => (hown.lt k hk).1)) ⟨h3, fun k hk => ?_⟩
    rcases h5 with h5 | h5
    · exact .inl (by rw [← h5]; exact hk)
    · rw [h5] at hk; injection hk with hk; subst hk; right; exact Nat.le_refl _
theorem own_base {w : World} {B B' z n : Nat} {E : TypeId} {v : Value} {xs : List Value} (h : w.ownsRow B E z v n xs) (hB : B' ≤ B) : w.ownsRow B' E z v n xs := by
  obtain ⟨h1, h2⟩ := h
  refine ⟨h1, ?_⟩
  rcases h2 with h2 | ⟨g, c, cur, he, hb, hr⟩
  · exact .inl h2
  · exact .inr ⟨g, c, cur, he, Nat.le_trans hB hb, hr⟩
theorem heap_app {wr w' : World} {v v' : Value} {b : Nat} {o : Obj} (h : wr.heap[b]? = some o) (ha : App wr w' v v') (hne : ∀ k, v.ownBlock = some k → k ≠ b) : w'.heap[b]? = some o := by
  rw [← h]; exact ha.grown.block b (lt_of_blk h) (fun e => hne b e.symm rfl)
theorem own_store {w : World} {b o B z n : Nat} {E : TypeId} {v u : Value} {xs : List Value} (h : w.ownsRow B E z v n xs) (hne : ∀ k, v.ownBlock = some k → k ≠ b) : (w.setCell ⟨b, o, none⟩ u).ownsRow B E z v n xs := by
  refine h.kept (row := some b) grown_set ?_
  cases hv : v.ownBlock with
  | none => exact .inl rfl
  | some k => exact .inr fun e => hne k hv (by injection e)
end Go.Proofs.Ytencfmipplgnkaa
