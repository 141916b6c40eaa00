/- Memory words for the decoders of chapter 02; what the closure that collects octets does. -/
import Derived.Test.YtkfhpajnlaomeaaB02
import Derived.WalkSpells
import Derived.RangeFuncNested
import Derived.RangeFuncBound
import Derived.RangeFuncCalls
import Derived.RangeFuncLeaves
import Derived.WalkKit
import Derived.KernelRfl
import Derived.Deep.LoopGhost
import Derived.Deep.QuietTactic
import Derived.BigQuiet
import Derived.Deep.DeepCutAuto
namespace Go.Proofs.Ytkfhpajnlaomeaa.M02
open Go.RowKit Go.Proofs.YtkfhpajnlaomeaaW.PrintWords Go.Proofs.YtkfhpajnlaomeaaW.PrintLast Go.Proofs.YtkfhpajnlaomeaaW.PrintMore
open Go.Proofs.Ytkfhpajnlaomeaa.K02 Go.Proofs.Ytkfhpajnlaomeaa.B02
set_option linter.unusedVariables false
set_option maxRecDepth 100000
def Own8 (W : World) (base : Nat) (v : Value) (l : List Int) : Prop := W.ownsRow base 5 1 v l.length (nums .u8 l)
/-- From W to W' only the two blocks bs, bo and what lies from base on have turned; whatever is no cells lies as it lay. -/
structure Mv (base bs bo : Nat) (W W' : World) : Prop where
  os : W'.os = W.os
  tape : W'.tape = W.tape
  output : W'.output = W.output
  size : W.heap.size ≤ W'.heap.size
  block : ∀ i, i < base → i ≠ bs → i ≠ bo → W'.heap[i]? = W.heap[i]?
  others : KeepsOthers W W'
theorem Mv.refl (base bs bo : Nat) (W : World) : Mv base bs bo W W := ⟨rfl, rfl, rfl, Nat.le_refl _, fun _ _ _ _ => rfl, KeepsOthers.refl _⟩
theorem Mv.trans {base bs bo : Nat} {A B C : World} (h : Mv base bs bo A B) (k : Mv base bs bo B C) : Mv base bs bo A C :=
  ⟨k.os.trans h.os, k.tape.trans h.tape, k.output.trans h.output, Nat.le_trans h.size k.size, fun i h1 h2 h3 => (k.block i h1 h2 h3).trans (h.block i h1 h2 h3), h.others.trans k.others⟩
theorem Mv.weak {base bo : Nat} {W W' : World} (h : Mv base bo bo W W') (bs : Nat) : Mv base bs bo W W' := ⟨h.os, h.tape, h.output, h.size, fun i h1 _ h3 => h.block i h1 h3 h3, h.others⟩
theorem Mv.of_below {base bs bo : Nat} {W W' : World} (hb : Below W.heap.size W W') (hB : base ≤ W.heap.size) : Mv base bs bo W W' :=
  ⟨hb.os, hb.tape, hb.output, hb.size, fun i h1 _ _ => hb.block i (by omega), ⟨hb.size, fun k o hk _ => (hb.block k (Array.getElem?_eq_some_iff.1 hk).1).trans hk⟩⟩
theorem Mv.grown {base bs bo : Nat} {W W' : World} {row : Option Nat} (hg : W.grownBy W' row) (hr : ∀ k, row = some k → base ≤ k) (hc : ∀ (j : Nat) (o : Obj), row = some j → W.heap[j]? = some o → o.isCells = true) (hB : base ≤ W.heap.size) : Mv base bs bo W W' :=
  ⟨hg.os, hg.tape, hg.output, hg.size, fun i h1 _ _ => hg.block i (by omega) (fun e => by have := hr i e.symm; omega), KeepsOthers.of_grownBy hg hc⟩
theorem Mv.set {base bs bo : Nat} (W : World) (g j : Nat) (hg : g = bs ∨ g = bo) (v : Value) : Mv base bs bo W (W.setCell ⟨g, j, none⟩ v) :=
  ⟨rfl, rfl, rfl, by simp, fun i _ h2 h3 => Below.heap_setCell W ⟨g, j, none⟩ v i (by rcases hg with rfl | rfl <;> assumption), KeepsOthers.setCell W _ _⟩
theorem Mv.alloc {base bs bo : Nat} (W : World) (o : Obj) (hB : base ≤ W.heap.size) : Mv base bs bo W (W.alloc o) := Mv.of_below ((Below.refl _ _).alloc (Nat.le_refl _) o) hB
theorem own_cells {W : World} {base : Nat} {v : Value} {l : List Int} (h : Own8 W base v l) : ∀ (j : Nat) (o : Obj), v.ownBlock = some j → W.heap[j]? = some o → o.isCells = true := by
  intro j o hj ho
  obtain ⟨cs, hc⟩ := own_typed h j hj
  rw [hc] at ho
  cases ho
  rfl
theorem not_box {W : World} {base bo : Nat} {v v1 : Value} (hlo : bo < base) (hlb : base ≤ W.heap.size) (hv : ∀ k, v.ownBlock = some k → base ≤ k) (hat : v1.ownBlock = v.ownBlock ∨ ∃ b, v1.ownBlock = some b ∧ W.heap.size ≤ b) : some bo ≠ v1.ownBlock := by
  rcases hat with h | ⟨b, h, hb⟩
  · rw [h]; intro e; have := hv bo e.symm; omega
  · rw [h]; intro e; cases e; omega
/-- A box that holds octets that the call has made. -/
structure Bx (W : World) (base bo : Nat) (L : List Int) : Prop where
  own : ∃ v, W.heap[bo]? = some (.cells #[v] 32 (0, 0)) ∧ Own8 W base v L
  lo : bo < base
  lb : base ≤ W.heap.size
theorem Bx.below {W W' : World} {base bo : Nat} {L : List Int} (h : Bx W base bo L) (hb : Below W.heap.size W W') : Bx W' base bo L := by
  obtain ⟨⟨v, h1, h2⟩, h3, h4⟩ := h
  exact ⟨⟨v, (hb.block bo (by omega)).trans h1, pw_own_below h2 hb⟩, h3, Nat.le_trans h4 hb.size⟩
theorem Bx.set {W : World} {base bo : Nat} {L : List Int} (h : Bx W base bo L) (d j : Nat) (hd : d ≠ bo) (hdb : d < base) (u : Value) : Bx (W.setCell ⟨d, j, none⟩ u) base bo L := by
  obtain ⟨⟨v, h1, h2⟩, h3, h4⟩ := h
  exact ⟨⟨v, (Below.heap_setCell W ⟨d, j, none⟩ u bo (fun e => hd e.symm)).trans h1, own_setCell h2 (by intro e; have := own_base h2 d e.symm; omega) u⟩, h3, by simpa using h4⟩
theorem reads_one (w : World) (x : Int) : ReadsInt (w.alloc (.cells #[.int .u8 x] 5)) .u8 (some ⟨w.heap.size, 0, none⟩) 1 [x] := by
  refine ⟨rfl, by decide, fun _ => ⟨_, rfl, fun j hj => ?_⟩⟩
  obtain rfl : j = 0 := by omega
  exact blk_cell (World.alloc_heap_new w _) 0
theorem emit (base bo : Nat) (L news : List Int) (A : Option Addr) (n c : Nat) (w : World) (h : Bx w base bo L) (hr : ReadsInt w .u8 A n news) (hl : L.length + n ≤ 10000000000) :
    Calls Try.prog 44 #[.slice A n c, .pointer (some ⟨bo, 0, none⟩)] w fun e w' => e = .returned (.tuple #[]) ∧ Mv base bo bo w w' ∧ Bx w' base bo (L ++ news) := by
  obtain ⟨⟨v, ho, hv⟩, hlo, hlb⟩ := h
  obtain ⟨Ao, co, rfl⟩ := own_slice hv
  have hco := blk_cell ho 0
  have HV := Aside0.mk hv
  have HR := Aside0.mk hr
  have HO := Aside0.mk ho
  clear hv hr ho
  have hco' : w.cell? ⟨bo, 0, none⟩ = some (.slice Ao L.length co) := hco
  clear hco
  go_enter Try.func44, Try.ntmps44
  go_wp2_with ((with_reducible refine gate_builtin (b := .append) (xs := #[.tmp 3, .tmp 4]) rfl ?_); at_builtin; refine print_append_row (w0 := w) base rfl (.tmp 3) (.tmp 4) 32 5 .u8 1 rfl Try.underlying32 info5 (by decide) (.slice Ao L.length co) L news A n c rfl rfl HV.out HR.out ?hB ?hb ?hl ?_; (case hB => exact Below.refl _ _); (case hb => exact hlb); (case hl => omega); intro v1 w1 ho1 hb1 hg1 hat1; have HO1 := Aside0.mk ho1; have HG1 := Aside0.mk hg1; have HAT1 := Aside0.mk hat1; clear ho1 hb1 hg1 hat1; obtain ⟨A1, c1, rfl⟩ := own_slice HO1.out; have hq := blk_grown HO.out HG1.out (fun e => by have := own_base HV.out bo e.symm; omega); have hq1 := blk_cell hq 0; have hq2 := blk_frozen hq 0)
  go_end0
  have hb1 := own_base HO1.out
  refine ⟨rfl, (Mv.grown HG1.out (own_base HV.out) (own_cells HV.out) hlb).trans (Mv.set w1 bo 0 (.inl rfl) _), ⟨_, blk_set hq 0 _, ?_⟩, hlo, by simp; exact Nat.le_trans hlb HG1.out.size⟩
  have := own_setCell (p := ⟨bo, 0, none⟩) HO1.out (by intro e; have := hb1 bo e.symm; omega) (.slice A1 (L ++ news).length c1)
  unfold Own8
  rw [List.length_append] at this ⊢
  exact this

theorem emitT (base bo : Nat) (L news : List Int) (A : Option Addr) (n c : Nat) (w : World) (h : Bx w base bo L) (hr : ReadsInt w .u8 A n news) (hl : L.length + n ≤ 10000000000) :
    Calls Try.prog 47 #[.slice A n c, .pointer (some ⟨bo, 0, none⟩)] w fun e w' => e = .returned (.tuple #[]) ∧ Mv base bo bo w w' ∧ Bx w' base bo (L ++ news) := by
  obtain ⟨⟨v, ho, hv⟩, hlo, hlb⟩ := h
  obtain ⟨Ao, co, rfl⟩ := own_slice hv
  have hco := blk_cell ho 0
  have HV := Aside0.mk hv
  have HR := Aside0.mk hr
  have HO := Aside0.mk ho
  clear hv hr ho
  have hco' : w.cell? ⟨bo, 0, none⟩ = some (.slice Ao L.length co) := hco
  clear hco
  go_enter Try.func47, Try.ntmps47
  go_wp2_with ((with_reducible refine gate_builtin (b := .append) (xs := #[.tmp 3, .tmp 4]) rfl ?_); at_builtin; refine print_append_row (w0 := w) base rfl (.tmp 3) (.tmp 4) 32 5 .u8 1 rfl Try.underlying32 info5 (by decide) (.slice Ao L.length co) L news A n c rfl rfl HV.out HR.out ?hB ?hb ?hl ?_; (case hB => exact Below.refl _ _); (case hb => exact hlb); (case hl => omega); intro v1 w1 ho1 hb1 hg1 hat1; have HO1 := Aside0.mk ho1; have HG1 := Aside0.mk hg1; have HAT1 := Aside0.mk hat1; clear ho1 hb1 hg1 hat1; obtain ⟨A1, c1, rfl⟩ := own_slice HO1.out; have hq := blk_grown HO.out HG1.out (fun e => by have := own_base HV.out bo e.symm; omega); have hq1 := blk_cell hq 0; have hq2 := blk_frozen hq 0)
  go_end0
  have hb1 := own_base HO1.out
  refine ⟨rfl, (Mv.grown HG1.out (own_base HV.out) (own_cells HV.out) hlb).trans (Mv.set w1 bo 0 (.inl rfl) _), ⟨_, blk_set hq 0 _, ?_⟩, hlo, by simp; exact Nat.le_trans hlb HG1.out.size⟩
  have := own_setCell (p := ⟨bo, 0, none⟩) HO1.out (by intro e; have := hb1 bo e.symm; omega) (.slice A1 (L ++ news).length c1)
  unfold Own8
  rw [List.length_append] at this ⊢
  exact this
end Go.Proofs.Ytkfhpajnlaomeaa.M02
