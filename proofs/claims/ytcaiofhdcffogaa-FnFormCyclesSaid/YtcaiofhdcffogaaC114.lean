/- A call's own map[Form]bool: what a look-up and a store do. -/
import Derived.Test.YtcaiofhdcffogaaC113
import Derived.Test.YtcaiofhdcffogaaNa
import Derived.Maps.OwnSet
namespace Go.Proofs.Ytcaiofhdcffogaa
open Go.RowKit Go.Maps
/-- What a truth value reads as. -/
def RB : Value → Option (DataW Unit × List MemPlace)
  | .bool x => some (.lit (.bool x), [])
  | _ => none
abbrev OMap (w : World) (b n : Nat) (D : DataW Unit) : Prop := w.ownsMap Try.prog 34 RB b n D
def Wf3 (f : F3) : Prop := (Lit.int .i64 f.x).wf = true ∧ (Lit.int .i64 f.y).wf = true ∧ (Lit.int .i64 f.z).wf = true
/-- The map holds the forms of a list. -/
def Met (D : DataW Unit) (S : List F3) : Prop := ∀ f, Wf3 f → D.atKey (formLit f.x f.y f.z) (.lit (.bool false)) = .lit (.bool (decide (f ∈ S)))
theorem met_none : Met (.map []) [] := fun f _ => by simp [DataW.atKey]
theorem Met.put {D : DataW Unit} {S : List F3} {f : F3} (h : Met D S) (hD : IsMap D) (hf : Wf3 f) : Met (D.put (formLit f.x f.y f.z) (.lit (.bool true))) (S ++ [f]) := fun g hg => by
  by_cases e : g = f
  · subst e
    rw [atKey_put_same (k := formLit g.x g.y g.z) hD (by unfold formLit; trivial)]; simp
  · rw [atKey_put_other (fun e2 => e (by
      obtain ⟨h1, h2, h3⟩ := form_inj hg.1 hg.2.1 hg.2.2 hf.1 hf.2.1 hf.2.2 e2
      cases g; cases f; simp_all)), h g hg]
    simp [e]
theorem mapT_und : Try.prog.underlying 55 = some (.map 34 4) := by kernel_rfl
theorem wpList_lookup_met {ops : Array Oper} {rest : List Oper} {o : Oper} {a : Act} {Q : Exit → Act → World → Prop} {w : World} (hg : o.guard = none) (m x : Operand) (hop : o.op = Op.lookup 55 m x false) (b n : Nat) (D : DataW Unit) (S : List F3)
    (hm : a.eval m = .map (some b)) (hown : OMap w b n D) (hM : Met D S) (f : F3) (hf : Wf3 f) (hx : a.eval x = (.agg #[.int .i64 f.x, .int .i64 f.y, .int .i64 f.z]))
    (hK : wpList Try.prog ops Q rest (a.put o.dst (.bool (decide (f ∈ S)))) w) : wpList Try.prog ops Q (o :: rest) a w := by
  refine wpList_plain hg fun K' hK' => ?_
  obtain ⟨v, ps, hrun, hv⟩ := hown.lookup formT_keyed mapT_und (Try.zeroValue4 w) (zd := .lit (.bool false)) (zp := []) rfl (key_form hf.1 hf.2.1 hf.2.2)
  rw [hM f hf] at hv
  have e : v = .bool (decide (f ∈ S)) := by
    cases v <;> simp [RB] at hv
    rw [hv.1]
  subst e
  unfold Oper.wp
  simp [execOp, hop, hm, hx, hrun, Result.andThen]
  exact hK' _ _ hK
theorem wpList_update_met {ops : Array Oper} {rest : List Oper} {o : Oper} {a : Act} {Q : Exit → Act → World → Prop} {w : World} (hg : o.guard = none) (m x v : Operand) (hop : o.op = Op.mapUpdate 55 m x v) (b n : Nat) (D : DataW Unit) (S : List F3)
    (hm : a.eval m = .map (some b)) (hown : OMap w b n D) (hM : Met D S) (hn : n < maxLen) (f : F3) (hf : Wf3 f) (hx : a.eval x = (.agg #[.int .i64 f.x, .int .i64 f.y, .int .i64 f.z])) (hv : a.eval v = .bool true)
    (hK : ∀ w' D', OMap w' b (n + 1) D' → Met D' (S ++ [f]) → w.grownBy w' (some b) → wpList Try.prog ops Q rest (a.put o.dst undef) w') : wpList Try.prog ops Q (o :: rest) a w :=
  wpList_mapUpdate_own w hg m x v 55 hop 34 4 formT_keyed mapT_und RB b n D hm hown hn _ _ _ hx hv (key_form hf.1 hf.2.1 hf.2.2) (.lit (.bool true)) [] rfl fun w' h1 h2 => hK w' _ h1 (hM.put hown.isMap hf) h2
end Go.Proofs.Ytcaiofhdcffogaa
