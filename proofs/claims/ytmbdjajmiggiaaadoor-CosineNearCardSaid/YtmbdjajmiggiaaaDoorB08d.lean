/- A description as an argument (chapter 08). -/
import Derived.Test.YtmbdjajmiggiaaaDoorB08
import Derived.Test.YtmbdjajmiggiaaaDoorY08
namespace Go.Proofs.YtmbdjajmiggiaaaDoor.B08d
open Go.ChangeShapes Go.WideShapes Go.ChangeAt Go.RowKit
open Go.Proofs.YtmbdjajmiggiaaaDoor.K08 Go.Proofs.YtmbdjajmiggiaaaDoor.G08 Go.Proofs.YtmbdjajmiggiaaaDoor.Y08
open Go.Proofs.YtmbdjajmiggiaaaDoorW.PrintWords
set_option linter.unusedVariables false
set_option linter.unusedSimpArgs false
set_option maxRecDepth 100000
theorem u8wf {n : Int} (h : (Lit.int .u8 n).wf = true) : 0 ≤ n ∧ n ≤ 255 := by
  simp [Lit.wf, IntKind.min, IntKind.max, IntKind.signed, IntKind.bits] at h
  omega
theorem i8wf {n : Int} (h : (Lit.int .i8 n).wf = true) : -128 ≤ n ∧ n ≤ 127 := by
  simp [Lit.wf, IntKind.min, IntKind.max, IntKind.signed, IntKind.bits] at h
  omega
theorem cells40 : Tryd.prog.cellsOf 40 = 7 := by kernel_rfl
theorem cells5 : Tryd.prog.cellsOf 5 = 1 := by kernel_rfl
theorem cells37 : Tryd.prog.cellsOf 37 = 3 := by kernel_rfl
theorem cells38 : Tryd.prog.cellsOf 38 = 1 := by kernel_rfl
theorem cells36 : Tryd.prog.cellsOf 36 = 1 := by kernel_rfl
theorem open_draft {H : Type} {enc : TypeId × Value → H} {W : World} {base : Nat} {v : Value} {d : DataW H} {p : List MemPlace}
    (hv : Value.okWide Tryd.prog W .any base 40 v) (h : DataW.Trod enc Tryd.prog W 0 (fun _ => true) true 40 v d p) :
    ∃ x : Dr × Option Addr × Nat, v = .agg (x.1.cells x.2.1 x.2.2) ∧ x.1.Ok ∧ Noise W x.1 x.2.1 := by
  obtain ⟨cs, rfl, hsz, _⟩ : ∃ cs, v = .agg cs ∧ cs.size = Tryd.prog.cellsOf 40 ∧ Row.okWide Tryd.prog W .any base 40 cs := by
    simpa [Value.okWide, Tryd.underlying40] using hv
  rw [cells40] at hsz
  obtain ⟨fuel, hf⟩ := h
  obtain ⟨xs, n, _, _, hl, hlen, hff⟩ := DataW.trod_struct Tryd.underlying40 hf
  obtain ⟨l⟩ := cs
  have hsz2 : l.length = 7 := hsz
  match l, hsz2, xs, hlen with
  | [v0, v1, v2, v3, v4, v5, v6], _, [y0, y1, y2, y3, y4], _ =>
    have g0 : DataW.trod enc Tryd.prog W 0 (fun _ => true) true n 5 [v0] = some y0 := by
      have := hff 0 _ rfl
      simp only [List.getElem_toArray, List.getElem_cons_zero, List.getElem_cons_succ, cells5] at this
      exact this
    have g1 : DataW.trod enc Tryd.prog W 0 (fun _ => true) true n 5 [v1] = some y1 := by
      have := hff 1 _ rfl
      simp only [List.getElem_toArray, List.getElem_cons_zero, List.getElem_cons_succ, cells5] at this
      exact this
    have g2 : DataW.trod enc Tryd.prog W 0 (fun _ => true) true n 5 [v2] = some y2 := by
      have := hff 2 _ rfl
      simp only [List.getElem_toArray, List.getElem_cons_zero, List.getElem_cons_succ, cells5] at this
      exact this
    have g3 : DataW.trod enc Tryd.prog W 0 (fun _ => true) true n 37 [v3, v4, v5] = some y3 := by
      have := hff 3 _ rfl
      simp only [List.getElem_toArray, List.getElem_cons_zero, List.getElem_cons_succ, cells37] at this
      exact this
    have g4 : DataW.trod enc Tryd.prog W 0 (fun _ => true) true n 38 [v6] = some y4 := by
      have := hff 4 _ rfl
      simp only [List.getElem_toArray, List.getElem_cons_zero, List.getElem_cons_succ, cells38] at this
      exact this
    obtain ⟨n0, e0, _, w0⟩ := DataW.trod_int Tryd.underlying5 g0
    obtain ⟨n1, e1, _, w1⟩ := DataW.trod_int Tryd.underlying5 g1
    obtain ⟨n2, e2, _, w2⟩ := DataW.trod_int Tryd.underlying5 g2
    obtain ⟨zs, m, _, _, hzl, _, hel⟩ := DataW.trod_array Tryd.underlying37 g3
    have each : ∀ i, i < 3 → ∃ x : Int, ([v3, v4, v5].drop i).take 1 = [.int .i8 x] ∧ (Lit.int .i8 x).wf = true := by
      intro i hi
      have h1 := hel i hi
      rw [cells36, Nat.mul_one] at h1
      obtain ⟨y, hy⟩ : ∃ y, zs[i]? = some y := ⟨_, List.getElem?_eq_getElem (by omega)⟩
      obtain ⟨z1, z2⟩ := y
      rw [hy] at h1
      obtain ⟨x, hc, _, hw⟩ := DataW.trod_int Tryd.underlying36 h1
      exact ⟨x, hc, hw⟩
    obtain ⟨n3, e3, w3⟩ := each 0 (by omega)
    obtain ⟨n4, e4, w4⟩ := each 1 (by omega)
    obtain ⟨n5, e5, w5⟩ := each 2 (by omega)
    simp at e0 e1 e2 e3 e4 e5
    subst e0 e1 e2 e3 e4 e5
    rcases Go.Deep.open_slice1 Tryd.underlying38 cells5 g4 with ⟨e6, _⟩ | ⟨a, len, cap, m', n', V, D, Pl, e6, _, hl1, hm, hmm, _, hx⟩
    · simp at e6
      subst e6
      exact ⟨(⟨n0, n1, n2, n3, n4, n5, []⟩, none, 0), rfl, ⟨u8wf w0, u8wf w1, u8wf w2, i8wf w3, i8wf w4, i8wf w5, fun x hx => by cases hx⟩, fun j hj => absurd hj (Nat.not_lt_zero j)⟩
    · simp at e6
      subst e6
      have each : ∀ i, i < len → ∃ x : Int, W.cell? (a.add i) = some (.int .u8 x) ∧ (0 ≤ x ∧ x ≤ 255) := by
        intro i hi
        obtain ⟨h1, h2⟩ := hx i (by rw [hmm]; split <;> omega)
        obtain ⟨x, hc, _, hw⟩ := DataW.trod_int Tryd.underlying5 h2
        simp at hc
        exact ⟨x, by rw [h1, hc], u8wf hw⟩
      obtain ⟨f, hf'⟩ := Go.Deep.choose_lt each
      refine ⟨(⟨n0, n1, n2, n3, n4, n5, (List.range len).map f⟩, some a, cap), by simp [Dr.cells], ⟨u8wf w0, u8wf w1, u8wf w2, i8wf w3, i8wf w4, i8wf w5, fun x hx => ?_⟩, fun j hj => ?_⟩
      · obtain ⟨i, hi, rfl⟩ := List.mem_map.1 hx
        exact (hf' i (List.mem_range.1 hi)).2
      · have hj' : j < len := by simpa using hj
        have hc := (hf' j hj').1
        refine ⟨a, rfl, World.block_lt_of_cell? W _ hc, ?_⟩
        rw [hc]
        simp [List.getD, hj']
end Go.Proofs.YtmbdjajmiggiaaaDoor.B08d
