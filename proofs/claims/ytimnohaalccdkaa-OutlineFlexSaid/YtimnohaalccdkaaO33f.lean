/- OutlineFlex for an array that comes in (chapter 33). -/
import Derived.Test.YtimnohaalccdkaaV33f
import Derived.OpenShut
import Derived.Deep.Slices
import Derived.ProofKit
namespace Go.Proofs.Ytimnohaalccdkaa.O33f
open Go.RowKit Go.ChangeShapes Go.WideShapes Go.ChangeAt Go.Proofs.YtimnohaalccdkaaW.PrintWords Go.Proofs.YtimnohaalccdkaaW.PrintLast Go.Proofs.YtimnohaalccdkaaW.PrintMore
set_option linter.unusedVariables false
set_option linter.unusedSimpArgs false
set_option maxRecDepth 100000
theorem open_nums {H : Type} {enc : TypeId × Value → H} {W : World} {base t e n : Nat} {k : IntKind} {v : Value} {d : DataW H} {p : List MemPlace} (ht : Try.prog.underlying t = some (.array n e)) (he : Try.prog.underlying e = some (.int k)) (hct : Try.prog.cellsOf t = n) (hce : Try.prog.cellsOf e = 1)
    (hv : Value.okWide Try.prog W .any base t v) (h : DataW.Trod enc Try.prog W 0 (fun _ => true) true t v d p) : ∃ b : List Int, v = .agg (nums k b).toArray ∧ b.length = n ∧ ∀ x ∈ b, (Lit.int k x).wf = true := by
  obtain ⟨cs, rfl, hsz, _⟩ : ∃ cs, v = .agg cs ∧ cs.size = Try.prog.cellsOf t ∧ Row.okWide Try.prog W .any base t cs := by
    simpa [Value.okWide, ht] using hv
  rw [hct] at hsz
  obtain ⟨fuel, hf⟩ := h
  obtain ⟨xs, m, rfl, hx, hlen, hn, hel⟩ := DataW.trod_array ht hf
  have each : ∀ i, i < n → ∃ x, cs.toList[i]? = some (.int k x) ∧ (Lit.int k x).wf = true := by
    intro i hi
    have h1 := hel i hi
    rw [hce] at h1
    obtain ⟨y, hy⟩ : ∃ y, xs[i]? = some y := ⟨_, List.getElem?_eq_getElem (by omega)⟩
    obtain ⟨y1, y2⟩ := y
    rw [hy] at h1
    obtain ⟨x, hc, _, hw⟩ := DataW.trod_int he h1
    have h2 := congrArg (·[0]?) hc
    simp only [Value.cells] at h2
    exact ⟨x, by simpa [List.getElem?_take, List.getElem?_drop] using h2, hw⟩
  obtain ⟨f, hf⟩ := Go.Deep.choose_lt each
  refine ⟨(List.range n).map f, ?_, by simp, ?_⟩
  · congr 1
    apply Array.ext'
    apply List.ext_getElem?
    intro i
    by_cases hi : i < n
    · rw [(hf i hi).1]
      simp [nums, hi]
    · rw [List.getElem?_eq_none (by simp; omega), List.getElem?_eq_none (by simp [nums]; omega)]
  · intro x hx
    obtain ⟨i, hi, rfl⟩ := List.mem_map.1 hx
    exact (hf i (List.mem_range.1 hi)).2
theorem cells53 : Try.prog.cellsOf 53 = 14 := by kernel_rfl
theorem cells32 : Try.prog.cellsOf 32 = 1 := by kernel_rfl
theorem open14 {H : Type} {enc : TypeId × Value → H} {W : World} {base : Nat} {v : Value} {d : DataW H} {p : List MemPlace}
    (hv : Value.okWide Try.prog W .any base 53 v) (h : DataW.Trod enc Try.prog W 0 (fun _ => true) true 53 v d p) : ∃ b : List Int, v = .agg (nums .i16 b).toArray ∧ b.length = 14 ∧ ∀ x ∈ b, (Lit.int .i16 x).wf = true :=
  open_nums Try.underlying53 Try.underlying32 cells53 cells32 hv h
theorem flex_row (side : Int) (l : List Int) (hl : l.length = 14) (xx yy : Int) (w : World) (hs : (Lit.int .i16 side).wf = true) (hf : ∀ x ∈ l, (Lit.int .i16 x).wf = true) (hx : (Lit.int .i16 xx).wf = true) (hy : (Lit.int .i16 yy).wf = true) :
    Calls Try.prog 6 #[.int .i16 side, .agg (nums .i16 l).toArray, .int .i16 xx, .int .i16 yy] w fun e w' => e = .returned (.bool true) ∧ Below w.heap.size w w' := by
  match l, hl with
  | [l0, l1, l2, l3, l4, l5, l6, l7, l8, l9, l10, l11, l12, l13], _ => exact V33f.flex_walk side l0 l1 l2 l3 l4 l5 l6 l7 l8 l9 l10 l11 l12 l13 xx yy w
end Go.Proofs.Ytimnohaalccdkaa.O33f
