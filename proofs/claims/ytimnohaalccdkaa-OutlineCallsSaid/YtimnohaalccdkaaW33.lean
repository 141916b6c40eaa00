/- Words for the laws of chapter 33: glyphs stored and loaded; entries of a map literal. -/
import Derived.Test.YtimnohaalccdkaaG33p
import Derived.Laws.StructEq
import Derived.Laws.Tables
import Derived.Maps.RangeWalk
import Derived.Maps.Own
import Derived.Maps.Keyed
namespace Go.Proofs.Ytimnohaalccdkaa.W33
open Go.Proofs.Ytimnohaalccdkaa Go.Proofs.Ytimnohaalccdkaa.K33 Go.Proofs.Ytimnohaalccdkaa.M33 Go.Proofs.Ytimnohaalccdkaa.G33a Go.Proofs.Ytimnohaalccdkaa.G33b Go.Proofs.Ytimnohaalccdkaa.G33c Go.Proofs.Ytimnohaalccdkaa.G33o Go.Proofs.Ytimnohaalccdkaa.G33p
open Go.RowKit Go.Proofs.YtimnohaalccdkaaW.PrintWords Go.Proofs.YtimnohaalccdkaaW.PrintLast Go.Proofs.YtimnohaalccdkaaW.PrintMore
open Go.Maps (Keyed)
set_option linter.unusedVariables false
set_option linter.unusedSimpArgs false
set_option maxRecDepth 100000
theorem below_row {B : Nat} {u w : World} (h : Below B u w) {g : Nat} (hg : B ≤ g) (cs : Array Value) : Below B u (w.setRow g cs) :=
  ⟨h.os, h.tape, h.output, by have := h.size; simpa [World.setRow] using this, fun k hk => (setRow_other w g k cs (by omega)).trans (h.block k hk)⟩
/-- A fresh variable that was stored into. -/
def mkG (w : World) (o : Obj) (cs : Array Value) : World := (w.alloc o).setRow w.heap.size cs
theorem mkG_below (w : World) (o : Obj) (cs : Array Value) : Below w.heap.size w (mkG w o cs) := below_row (below_alloc (Below.refl _ _) _) (Nat.le_refl _) _
theorem mkG_new (w : World) (cs0 cs : Array Value) (t : TypeId) : (mkG w (.cells cs0 t (0, 0)) cs).heap[w.heap.size]? = some (.cells cs t (0, 0)) := setRow_heap _ _ _ _ _ _ (blk_new _ _)
theorem mkG_size (w : World) (o : Obj) (cs : Array Value) : (mkG w o cs).heap.size = w.heap.size + 1 := by simp [mkG, World.setRow]
section
variable {ops : Array Oper} {rest : List Oper} {o : Oper} {a : Act} {w : World} {Q : Exit → Act → World → Prop}
theorem want {P : Program} (hw : Region.wanted o (yielded ops a.tmps) = true)
    (h : ∀ K : Act → World → Prop, (∀ a w, wpList P ops Q rest a w → K a w) → o.wp P a w K Q) : wpList P ops Q (o :: rest) a w :=
  wpList_step fun K hK => by rw [if_pos hw]; exact h K hK
theorem store_gl (hgd : o.guard = none) (x y : Operand) (ho : o.op = .store 43 x y) (g : Nat) (hx : a.eval x = .pointer (some ⟨g, 0, none⟩)) (old cs : Array Value) (hy : a.eval y = .agg cs) (hold : w.heap[g]? = some (.cells old 43 (0, 0))) (ho2 : old.size = 4) (hl : cs.size = 4) (h1 : cs.all (·.oneCell') = true)
    (h : wpList Try.prog ops Q rest (a.put o.dst undef) (w.setRow g cs)) : wpList Try.prog ops Q (o :: rest) a w :=
  wpList_store_row hgd 43 x y ho g cs hx hy 43 old hold (info43.trans (by rw [hl])) (by rw [hl, ho2]) h1 h
theorem load_gl (hw : Region.wanted o (yielded ops a.tmps) = true) (x : Operand) (ho : o.op = .load 43 x)
    (g : Nat) (hx : a.eval x = .pointer (some ⟨g, 0, none⟩)) (cs : Array Value) (hb : cs.size = 4) (hg : w.heap[g]? = some (.cells cs 43 (0, 0)))
    (h : wpList Try.prog ops Q rest (a.put o.dst (.agg cs)) w) : wpList Try.prog ops Q (o :: rest) a w :=
  want hw fun _ hK => wp_load_row 43 x ho g hx 43 cs (0, 0) _ hg Try.underlying43 rfl (info43.trans (by rw [hb])) (hK _ _ h)
/-- An entry of a map literal. -/
theorem insert_own {H : Type} (hg : o.guard = none) (m x v : Operand) (t : TypeId) (hop : o.op = Op.insert t m x v)
    (k e : TypeId) (K : Keyed Try.prog k) (ht : Try.prog.underlying t = some (.map k e)) (R : Value → Option (DataW H × List MemPlace)) (b n : Nat) (D : DataW H)
    (hm : a.eval m = .map (some b)) (hown : w.ownsMap Try.prog k R b n D) (hn : n < maxLen) (key val : Value) (kl : Lit) (hx : a.eval x = key) (hv : a.eval v = val) (hkey : keyOf Try.prog k key = some kl)
    (d : DataW H) (ps : List MemPlace) (hval : R val = some (d, ps))
    (hK : ∀ w', w'.ownsMap Try.prog k R b (n + 1) (D.put kl d) → w.grownBy w' (some b) → wpList Try.prog ops Q rest (a.put o.dst undef) w') :
    wpList Try.prog ops Q (o :: rest) a w := by
  refine wpList_plain hg fun K' hK' => ?_
  obtain ⟨w', hrun, r1, r2⟩ := hown.update K ht hn hkey hval
  unfold Oper.wp
  simp [execOp, hop, hm, hx, hv, hrun, Result.andThen]
  exact hK' _ _ (hK w' r1 r2)
end
theorem rd_slice {w : World} {v : Value} {n : Nat} {xs : List Value} (h : Rd w v n xs) : v.oneCell' = true := by
  obtain ⟨A, c, rfl, _⟩ := h
  rfl
theorem glr_one {w : World} {cs : Array Value} {g : Gl} (h : GlR w (.agg cs) g) : cs.size = 4 ∧ cs.all (·.oneCell') = true := by
  obtain ⟨vs, vt, e, h1, h2⟩ := h
  injection e with e
  subst e
  obtain ⟨A1, c1, rfl, _⟩ := h1
  obtain ⟨A2, c2, rfl, _⟩ := h2
  exact ⟨rfl, by simp [Value.oneCell']⟩
end Go.Proofs.Ytimnohaalccdkaa.W33
