/- Memory words for the decoders of chapter 06. -/
import Derived.Test.YtfkiacbjiledcaaG06
import Derived.WalkSpells
import Derived.RangeFuncNested
import Derived.RangeFuncBound
import Derived.RangeFuncCalls
import Derived.RangeFuncLeaves
import Derived.WalkKit
import Derived.KernelRfl
import Derived.Deep.LoopGhost
import Derived.Deep.QuietTactic
import Derived.BigQuiet
import Derived.Deep.DeepCutAuto
namespace Go.Proofs.Ytfkiacbjiledcaa.M06
open Go.RowKit Go.Proofs.YtfkiacbjiledcaaW.PrintWords Go.Proofs.YtfkiacbjiledcaaW.PrintLast Go.Proofs.YtfkiacbjiledcaaW.PrintMore
open Go.Proofs.Ytfkiacbjiledcaa.K06 Go.Proofs.Ytfkiacbjiledcaa.G06
set_option linter.unusedVariables false
set_option maxRecDepth 100000
def Own8 (W : World) (base : Nat) (v : Value) (l : List Int) : Prop := W.ownsRow base 5 1 v l.length (nums .u8 l)
/-- From W to W' only the two blocks bs, bo and what lies from base on have turned; whatever is no cells lies as it lay. -/
structure Mv (base bs bo : Nat) (W W' : World) : Prop where
  os : W'.os = W.os
  tape : W'.tape = W.tape
  output : W'.output = W.output
  size : W.heap.size ≤ W'.heap.size
  block : ∀ i, i < base → i ≠ bs → i ≠ bo → W'.heap[i]? = W.heap[i]?
  others : KeepsOthers W W'
theorem Mv.refl (base bs bo : Nat) (W : World) : Mv base bs bo W W := ⟨rfl, rfl, rfl, Nat.le_refl _, fun _ _ _ _ => rfl, KeepsOthers.refl _⟩
theorem Mv.trans {base bs bo : Nat} {A B C : World} (h : Mv base bs bo A B) (k : Mv base bs bo B C) : Mv base bs bo A C :=
  ⟨k.os.trans h.os, k.tape.trans h.tape, k.output.trans h.output, Nat.le_trans h.size k.size, fun i h1 h2 h3 => (k.block i h1 h2 h3).trans (h.block i h1 h2 h3), h.others.trans k.others⟩
theorem Mv.weak {base bo : Nat} {W W' : World} (h : Mv base bo bo W W') (bs : Nat) : Mv base bs bo W W' := ⟨h.os, h.tape, h.output, h.size, fun i h1 _ h3 => h.block i h1 h3 h3, h.others⟩
theorem Mv.of_below {base bs bo : Nat} {W W' : World} (hb : Below W.heap.size W W') (hB : base ≤ W.heap.size) : Mv base bs bo W W' :=
  ⟨hb.os, hb.tape, hb.output, hb.size, fun i h1 _ _ => hb.block i (by omega), ⟨hb.size, fun k o hk _ => (hb.block k (Array.getElem?_eq_some_iff.1 hk).1).trans hk⟩⟩
theorem Mv.grown {base bs bo : Nat} {W W' : World} {row : Option Nat} (hg : W.grownBy W' row) (hr : ∀ k, row = some k → base ≤ k) (hc : ∀ (j : Nat) (o : Obj), row = some j → W.heap[j]? = some o → o.isCells = true) (hB : base ≤ W.heap.size) : Mv base bs bo W W' :=
  ⟨hg.os, hg.tape, hg.output, hg.size, fun i h1 _ _ => hg.block i (by omega) (fun e => by have := hr i e.symm; omega), KeepsOthers.of_grownBy hg hc⟩
theorem Mv.set {base bs bo : Nat} (W : World) (g j : Nat) (hg : g = bs ∨ g = bo) (v : Value) : Mv base bs bo W (W.setCell ⟨g, j, none⟩ v) :=
  ⟨rfl, rfl, rfl, by simp, fun i _ h2 h3 => Below.heap_setCell W ⟨g, j, none⟩ v i (by rcases hg with rfl | rfl <;> assumption), KeepsOthers.setCell W _ _⟩
theorem Mv.alloc {base bs bo : Nat} (W : World) (o : Obj) (hB : base ≤ W.heap.size) : Mv base bs bo W (W.alloc o) := Mv.of_below ((Below.refl _ _).alloc (Nat.le_refl _) o) hB
theorem own_cells {W : World} {base : Nat} {v : Value} {l : List Int} (h : Own8 W base v l) : ∀ (j : Nat) (o : Obj), v.ownBlock = some j → W.heap[j]? = some o → o.isCells = true := by
  intro j o hj ho
  obtain ⟨cs, hc⟩ := own_typed h j hj
  rw [hc] at ho
  cases ho
  rfl
theorem not_box {W : World} {base bo : Nat} {v v1 : Value} (hlo : bo < base) (hlb : base ≤ W.heap.size) (hv : ∀ k, v.ownBlock = some k → base ≤ k) (hat : v1.ownBlock = v.ownBlock ∨ ∃ b, v1.ownBlock = some b ∧ W.heap.size ≤ b) : some bo ≠ v1.ownBlock := by
  rcases hat with h | ⟨b, h, hb⟩
  · rw [h]; intro e; have := hv bo e.symm; omega
  · rw [h]; intro e; cases e; omega
theorem info5 : (Try.prog.info? 5).map (fun i => (i.zero, i.size, i.bytes)) = some (some (.int .u8 0), 1, 1) := by kernel_rfl
theorem far {W : World} {b g j : Nat} {o : Obj} (h : W.heap[b]? = some o) (hne : b ≠ g) (v : Value) : (W.setCell ⟨g, j, none⟩ v).heap[b]? = some o := (Below.heap_setCell W ⟨g, j, none⟩ v b hne).trans h
end Go.Proofs.Ytfkiacbjiledcaa.M06
