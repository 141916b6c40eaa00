/- From the rows' conditions to the walks' facts (chapter 08): the matrix lies in memory; an array argument's elements; a world for the witness. -/
import Derived.Test.YtmbdjajmiggiaaaDoorCards
import Derived.Test.YtmbdjajmiggiaaaDoorTie
import Derived.Test.YtmbdjajmiggiaaaDoorG08f
import Derived.WalkKit
import Derived.ProofKit
import Derived.OpenShut
import Derived.Deep.DeepHandedRow
import Derived.Lib.LaidTab
import Derived.Deep.Slices
namespace Go.Proofs.YtmbdjajmiggiaaaDoor.B08
open Go.ChangeShapes Go.WideShapes Go.ChangeAt Go.RowKit
open Go.Proofs.YtmbdjajmiggiaaaDoor.K08 Go.Proofs.YtmbdjajmiggiaaaDoor.G08
open Go.Proofs.YtmbdjajmiggiaaaDoorW.PrintWords
set_option linter.unusedVariables false
set_option maxRecDepth 100000
theorem own : ownKnob Tryd.prog.godebug = none := by kernel_rfl
theorem laidOut : laidOutB Tryd.prog = true := by kernel_rfl
theorem gMat : Tryd.prog.globalNamed "chase/cosine.matrix" = some 0 := by kernel_rfl
theorem gMatType : (Tryd.prog.globals[0]?).map (·.type) = some 65 := by kernel_rfl
theorem cells65 : Tryd.prog.cellsOf 65 = 64 := by kernel_rfl
theorem cells55 : Tryd.prog.cellsOf 55 = 8 := by kernel_rfl
theorem cells22 : Tryd.prog.cellsOf 22 = 64 := by kernel_rfl
theorem cells54 : Tryd.prog.cellsOf 54 = 64 := by kernel_rfl
theorem cells3 : Tryd.prog.cellsOf 3 = 1 := by kernel_rfl
theorem cells36 : Tryd.prog.cellsOf 36 = 1 := by kernel_rfl
abbrev laid1 : List (String × DataW Unit) := [("chase/cosine.matrix", Rows.laid_chase_cosine_matrix)]
theorem laid_rows {H : Type} : (Rows.laid_chase_cosine_matrix : DataW H) = .agg (mat.map fun r => Lib.tabData .i64 r) := rfl
theorem mat_of {W : World} (h : laidMetH Tryd.prog laid1 W) : Mat W := by
  obtain ⟨ps, ⟨g', t', cs, fuel, p, q, hg', ht', hvar, hd, _, _⟩, _⟩ := h
  obtain rfl := Option.some.inj (gMat.symm.trans hg')
  obtain rfl := Option.some.inj (gMatType.symm.trans ht')
  rw [laid_rows] at hd
  obtain ⟨xs, m, rfl, hx, hlen, hn, hel⟩ := DataW.trod_array Tryd.underlying65 hd
  simp only [Prod.mk.injEq, DataW.agg.injEq] at hx
  have hrow : ∀ i, i < 8 → (cs.toList.drop (i * 8)).take 8 = (mat.getD i []).map fun z => Value.int .i64 z := by
    intro i hi
    have h1 := hel i hi
    rw [cells55] at h1
    have hml : mat.length = 8 := rfl
    obtain ⟨y, hy⟩ : ∃ y, xs[i]? = some y := ⟨_, List.getElem?_eq_getElem (by omega)⟩
    have h2 : y.1 = Lib.tabData .i64 (mat.getD i []) := by
      have := congrArg (·[i]?) hx.1
      simp only [List.getElem?_map, hy, Option.map_some] at this
      rw [List.getElem?_eq_getElem (by omega)] at this
      simp only [Option.map_some, Option.some.injEq] at this
      rw [← this, List.getD_eq_getElem?_getD, List.getElem?_eq_getElem (by omega)]
      rfl
    obtain ⟨y1, y2⟩ := y
    simp only at h2
    subst h2
    rw [hy] at h1
    exact Lib.cells_of_tab Tryd.underlying55 Tryd.underlying3 cells3 cells55 h1
  have hat : ∀ i r, i < 8 → r < 8 → W.cell? ⟨0, i * 8 + r, none⟩ = some (.int .i64 (T i r)) := by
    intro i r hi hr
    have hc := World.var?_cell hg' hvar (i * 8 + r)
    rw [hc, ← Array.getElem?_toList]
    have h1 := congrArg (·[r]?) (hrow i hi)
    simp only [List.getElem?_take, List.getElem?_drop, if_pos hr, List.getElem?_map] at h1
    have hlr : (mat.getD i []).length = 8 := by
      have : ∀ i, i < 8 → (mat.getD i []).length = 8 := by decide
      exact this i hi
    rw [List.getElem?_eq_getElem (l := mat.getD i []) (by omega)] at h1
    simp only [Option.map_some] at h1
    have e : T i r = (mat.getD i [])[r]'(by omega) := by
      unfold T
      rw [List.getD_eq_getElem?_getD (l := mat.getD i []), List.getElem?_eq_getElem (by omega)]
      rfl
    rw [e]
    simpa using h1
  exact ⟨World.block_lt_of_cell? W _ (hat 0 0 (by omega) (by omega)), hat⟩
/-- An array of whole numbers, opened. -/
theorem open_nums {H : Type} {enc : TypeId × Value → H} {W : World} {base t e n : Nat} {k : IntKind} {v : Value} {d : DataW H} {p : List MemPlace} (ht : Tryd.prog.underlying t = some (.array n e)) (he : Tryd.prog.underlying e = some (.int k)) (hct : Tryd.prog.cellsOf t = n) (hce : Tryd.prog.cellsOf e = 1)
    (hv : Value.okWide Tryd.prog W .any base t v) (h : DataW.Trod enc Tryd.prog W 0 (fun _ => true) true t v d p) : ∃ b : List Int, v = .agg (nums k b).toArray ∧ b.length = n ∧ ∀ x ∈ b, (Lit.int k x).wf = true := by
  obtain ⟨cs, rfl, hsz, _⟩ : ∃ cs, v = .agg cs ∧ cs.size = Tryd.prog.cellsOf t ∧ Row.okWide Tryd.prog W .any base t cs := by
    simpa [Value.okWide, ht] using hv
  rw [hct] at hsz
  obtain ⟨fuel, hf⟩ := h
  obtain ⟨xs, m, rfl, hx, hlen, hn, hel⟩ := DataW.trod_array ht hf
  have each : ∀ i, i < n → ∃ x, cs.toList[i]? = some (.int k x) ∧ (Lit.int k x).wf = true := by
    intro i hi
    have h1 := hel i hi
    rw [hce] at h1
    obtain ⟨y, hy⟩ : ∃ y, xs[i]? = some y := ⟨_, List.getElem?_eq_getElem (by omega)⟩
    obtain ⟨y1, y2⟩ := y
    rw [hy] at h1
    obtain ⟨x, hc, _, hw⟩ := DataW.trod_int he h1
    have h2 := congrArg (·[0]?) hc
    simp only [Value.cells] at h2
    exact ⟨x, by simpa [List.getElem?_take, List.getElem?_drop] using h2, hw⟩
  obtain ⟨f, hf⟩ := Go.Deep.choose_lt each
  refine ⟨(List.range n).map f, ?_, by simp, ?_⟩
  · congr 1
    apply Array.ext'
    apply List.ext_getElem?
    intro i
    by_cases hi : i < n
    · rw [(hf i hi).1]
      simp [nums, hi]
    · rw [List.getElem?_eq_none (by simp; omega), List.getElem?_eq_none (by simp [nums]; omega)]
  · intro x hx
    obtain ⟨i, hi, rfl⟩ := List.mem_map.1 hx
    exact (hf i (List.mem_range.1 hi)).2
/-- A world for the witness: the settled one, the matrix holding what its initialiser lays. -/
noncomputable def laidWorld (os : Os) : World :=
  { World.holding Tryd.prog os ⟨#[], #[], []⟩ with heap := (World.holding Tryd.prog os ⟨#[], #[], []⟩).heap.modify 0 fun
      | .cells _ t frozen => .cells (mat.flatMap fun r => nums .i64 r).toArray t frozen
      | o => o }
theorem laid_met (os : Os) (args : Array Value) : laidMet Tryd.prog laid1 ((laidWorld os).forCall (fun _ _ => 0) ⟨#[], args, []⟩).memory :=
  laidMet_of_run' 8 (by kernel_rfl) (by kernel_rfl)
end Go.Proofs.YtmbdjajmiggiaaaDoor.B08
