/- The reference's matrix, norms, floor (chapter 08): T 37, Norm 38, Floor 39. -/
import Derived.Test.YtmbdjajmiggiaaaDoorV08o
import Derived.Test.YtmbdjajmiggiaaaDoorV08l
namespace Go.Proofs.YtmbdjajmiggiaaaDoor.T08
open Go.Proofs.YtmbdjajmiggiaaaDoor.K08 Go.Proofs.YtmbdjajmiggiaaaDoor.G08 Go.Proofs.YtmbdjajmiggiaaaDoor.G08f Go.Proofs.YtmbdjajmiggiaaaDoor.W08 Go.Proofs.YtmbdjajmiggiaaaDoor.P08r Go.Proofs.YtmbdjajmiggiaaaDoor.V08
open Go.RowKit Go.Proofs.YtmbdjajmiggiaaaDoorW.PrintWords Go.Proofs.YtmbdjajmiggiaaaDoorW.PrintLast Go.Proofs.YtmbdjajmiggiaaaDoorW.PrintMore
set_option linter.unusedVariables false
set_option linter.unusedSimpArgs false
set_option maxRecDepth 100000
def matL : List Int := (List.range 64).map fun k => T (k / 8) (k % 8)
theorem matL_len : matL.length = 64 := by simp [matL]
theorem matL_get (k : Nat) (hk : k < 64) : matL.getD k 0 = T (k / 8) (k % 8) := by simp [matL, List.getD, hk]
theorem info65 : (Tryd.prog.info? 65).map (·.size) = some 64 := by kernel_rfl
theorem alloc65 (w : World) : (Instr.alloc 65 true (.tuple #[])).run Tryd.prog w = .ok (.pointer (some ⟨w.heap.size, 0, none⟩)) (w.alloc (.cells (nums .i64 z64).toArray 65)) := by kernel_rfl
section
variable {ops : Array Oper} {rest : List Oper} {o : Oper} {a : Act} {w : World} {Q : Exit → Act → World → Prop}
theorem alloc_m (hgd : o.guard = none) (ho : o.op = .alloc 65)
    (h : wpList Tryd.prog ops Q rest (a.put o.dst (.pointer (some ⟨w.heap.size, 0, none⟩))) (w.alloc (.cells (nums .i64 z64).toArray 65))) : wpList Tryd.prog ops Q (o :: rest) a w :=
  wpList_plain hgd fun K hK => by
    unfold Oper.wp execOp
    simp only [ho]
    simp only [Sem.run_bind, alloc65, Sem.run_pure, Result.andThen_ok]
    exact hK _ _ h
theorem store_m (hgd : o.guard = none) (x y : Operand) (ho : o.op = .store 65 x y)
    (g : Nat) (hx : a.eval x = .pointer (some ⟨g, 0, none⟩)) (hy : a.eval y = .agg (nums .i64 matL).toArray) (hold : w.heap[g]? = some (.cells (nums .i64 z64).toArray 65 (0, 0)))
    (h : wpList Tryd.prog ops Q rest (a.put o.dst undef) (w.setRow g (nums .i64 matL).toArray)) : wpList Tryd.prog ops Q (o :: rest) a w :=
  wpList_store_row hgd 65 x y ho g (nums .i64 matL).toArray hx hy 65 (nums .i64 z64).toArray hold (info65.trans (by simp [nums_length, matL_len])) (by simp [nums_length, matL_len, z64]) (nums_one matL) h
theorem build_m (hw : Region.wanted o (yielded ops a.tmps) = true) (parts : Array (Nat × Operand)) (ho : o.op = .build 65 parts) (hc : Tryd.prog.built 65 (parts.map fun (i, x) => (i, a.eval x)).toList = some (nums .i64 matL).toArray)
    (h : wpList Tryd.prog ops Q rest (a.put o.dst (.agg (nums .i64 matL).toArray)) w) : wpList Tryd.prog ops Q (o :: rest) a w :=
  W08.want hw fun _ hK => by
    refine wp_build 65 _ ho ?_ ?_
    · rw [hc]; rfl
    · rw [hc]; exact hK _ _ h
end
set_option maxHeartbeats 2000000 in
theorem t_call (i r : Nat) (hi : i < 8) (hr : r < 8) (w : World) : Calls Tryd.prog 37 #[.int .i64 i, .int .i64 r] w fun e w' => e = .returned (.int .i64 (T i r)) ∧ Below w.heap.size w w' := by
  have HI := Aside0.mk hi
  have HR := Aside0.mk hr
  have i1 : (0 : Int) ≤ (i : Int) := by omega
  have i2 : (i : Int) < 8 := by omega
  have j1 : (0 : Int) ≤ (r : Int) := by omega
  have j2 : (r : Int) < 8 := by omega
  have hc : ((w.alloc (Obj.cells (nums IntKind.i64 z64).toArray 65)).setRow w.heap.size (nums IntKind.i64 matL).toArray).cell? ⟨w.heap.size, i * 8 + r, none⟩ = some (.int .i64 (T i r)) := by
    rw [blk_cell (setRow_heap _ _ _ _ _ _ (blk_new w (Obj.cells (nums IntKind.i64 z64).toArray 65))) (i * 8 + r)]
    have e := matL_get (i * 8 + r) (by omega)
    rw [show (i * 8 + r) / 8 = i by omega, show (i * 8 + r) % 8 = r by omega] at e
    rw [← e]
    simp [nums, matL_len, show i * 8 + r < 64 by omega]
  clear hi hr
  go_enter Tryd.func37, Tryd.ntmps37
  go_wp2_with (first
    | (refine build_m rfl _ rfl (by kernel_rfl) ?_)
    | (refine alloc_m rfl rfl ?_)
    | (refine store_m rfl _ _ rfl w.heap.size rfl rfl (blk_new _ _) ?_))
  go_ret
  exact ⟨rfl, G08.below_setRow (below_alloc (Below.refl _ _) _) (Nat.le_refl _) _⟩
set_option maxHeartbeats 2000000 in
theorem norm_ref (i : Nat) (hi : i < 8) (w : World) : Calls Tryd.prog 38 #[.int .i64 i] w fun e w' => e = .returned (.int .i64 (nrm i)) ∧ w = w' := by
  have HI := Aside0.mk hi
  have i1 : (0 : Int) ≤ (i : Int) := by omega
  have i2 : (i : Int) < 8 := by omega
  have hix : ∀ W, (Instr.index 55 (.agg #[.int .i64 8, .int .i64 442, .int .i64 40, .int .i64 442, .int .i64 8, .int .i64 442, .int .i64 40, .int .i64 442]) (.int .i64 i)).run Tryd.prog W = .ok (.int .i64 (nrm i)) W := fun W => run_index_ar Tryd.underlying55 size3 agg3 [8, 442, 40, 442, 8, 442, 40, 442] rfl i hi W
  clear hi
  go_enter Tryd.func38, Tryd.ntmps38
  go_wp2_with fail
  go_ret
  exact ⟨rfl, rfl⟩
theorem floor_ref (a d : Int) (hd : 0 < d) (h1 : -4611686018427387904 ≤ a) (h2 : a ≤ 4611686018427387904) (w : World) :
    Calls Tryd.prog 39 #[.int .i64 a, .int .i64 d] w fun e w' => e = .returned (.int .i64 (a / d)) ∧ w = w' := by
  have HA := Aside0.mk (fl_eq a d hd)
  have hb := td_bd a d hd h1 h2
  have hd0 : (d == 0) = false := by simp; omega
  by_cases hn : a.tmod d < 0
  · have d1 : decide (a.tmod d < 0) = true := decide_eq_true hn
    go_enter Tryd.func39, Tryd.ntmps39
    go_wp2
    go_ret
    exact ⟨by rw [HA.out, if_pos hn]; rfl, rfl⟩
  · have d1 : decide (a.tmod d < 0) = false := decide_eq_false hn
    go_enter Tryd.func39, Tryd.ntmps39
    go_wp2
    go_ret
    exact ⟨by rw [HA.out, if_neg (by omega)]; rfl, rfl⟩
end Go.Proofs.YtmbdjajmiggiaaaDoor.T08
