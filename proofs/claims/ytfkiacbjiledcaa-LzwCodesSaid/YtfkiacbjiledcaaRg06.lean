/- A drawing region inside a round of a range over a function, operation by operation. -/
import Derived.Test.YtfkiacbjiledcaaE06
import Derived.Control
import Derived.ControlIn
import Derived.Laws.EntriesVeiled
import Derived.Shelf.RegionOpen
namespace Go.Proofs.Ytfkiacbjiledcaa.Rg06
open Go.RowKit
set_option linter.unusedVariables false
set_option maxRecDepth 100000
/-- What an append comes to, under a name that the walk does not open. -/
def appOut (P : Program) (t ty : TypeId) (v x : Value) (w : World) : Result Value := (Builtin.append_ #[t, t] ty #[v, x]).run P w
theorem app_wpIn (F : Fence) (n : Nat) (P : Program) (dst : Option Tmp) (s x : Operand) (t ty : TypeId) (pos : String) (after : Array Edge) (guard : Option (Nat × Bool)) (a : Act) (w : World) (next : Act → World → Prop) (Q : Exit → Act → World → Prop) :
    Oper.wpIn F n P { dst := dst, op := .call { callee := .builtin .append, args := #[s, x], argTypes := #[t, t] }, type := ty, pos := pos, after := after, guard := guard } a w next Q
      = Oper.uponIn F n P { dst := dst, op := .call { callee := .builtin .append, args := #[s, x], argTypes := #[t, t] }, type := ty, pos := pos, after := after, guard := guard } a next Q ((appOut P t ty (a.eval s) (a.eval x) w).andThen fun v w' => .ok (.value v) w') := by
  apply propext
  unfold Oper.wpIn
  rw [Oper.semAt_plain F _ _ (by intro c hc; cases hc)]
  have h1 : ∀ f, Oper.about P w a.eval { dst := dst, op := .call { callee := .builtin .append, args := #[s, x], argTypes := #[t, t] }, type := ty, pos := pos, after := after, guard := guard } ≠ some f := by
    intro f; simp [Oper.about, resolve, Target.leads, Sem.run_pure]
  have h2 : (execOp a.eval { dst := dst, op := .call { callee := .builtin .append, args := #[s, x], argTypes := #[t, t] }, type := ty, pos := pos, after := after, guard := guard }).run P w = (appOut P t ty (a.eval s) (a.eval x) w).andThen fun v w' => .ok (.value v) w' := by
    unfold appOut execOp
    simp only [resolve, invoke, builtin, Sem.run_bind, Sem.run_pure, Result.andThen_ok, List.map_toArray, List.map_cons, List.map_nil]
  rw [h2]
  exact ⟨fun h => h.2, fun h => ⟨fun f hf => absurd hf (h1 f), h⟩⟩
/-- An operation of a drawing region that comes up, the act and the world behind it being found by its step. -/
theorem rgCons {F : Fence} {n : Nat} {P : Program} {md : Region.Mode} {ops : Array Oper} {Q : Exit → Act → World → Prop} {fuel : Nat} {listed : Array Bool} {a : Act} {w : World} {i : Nat} {o : Oper} {rs : List Nat} (a' : Act) (w' : World) (l2 : Array Bool) (ho : ops[i]? = some o) (hl : listed.setIfInBounds i true = l2)
    (h : ∀ K : Act → World → Prop, K a' w' → if Region.wanted o (yielded ops a.tmps) = true then Oper.wpIn F n P o a w K Q else (∀ f, o.about P w a.eval = some f → F.fn f) ∧ K (a.put o.dst undef) w)
    (hs : AllReadyIn F n P md ops Q fuel listed a w rs) (hn : wpAnyIn F n P md ops Q fuel l2 a' w') : AllReadyIn F n P md ops Q fuel listed a w (i :: rs) :=
  AllReadyIn.cons ho (fun K hK => h K (hK _ _ (by rw [hl]; exact hn))) hs
theorem app_in {F : Fence} {n : Nat} {P : Program} {dst : Option Tmp} {s x : Operand} {t ty : TypeId} {pos : String} {after : Array Edge} {guard : Option (Nat × Bool)} {a : Act} {w w' : World} {v : Value} {next : Act → World → Prop} {Q : Exit → Act → World → Prop}
    (hr : appOut P t ty (a.eval s) (a.eval x) w = .ok v w') (h : next (a.put dst v) w') :
    Oper.wpIn F n P { dst := dst, op := .call { callee := .builtin .append, args := #[s, x], argTypes := #[t, t] }, type := ty, pos := pos, after := after, guard := guard } a w next Q := by
  rw [app_wpIn, hr]
  exact h
end Go.Proofs.Ytfkiacbjiledcaa.Rg06
