/- Words for the laws of chapter 08: arrays loaded, built, compared under a guard; a map literal's entries. -/
import Derived.Test.YtmbdjajmiggiaaaDoorD08
import Derived.Laws.StructEq
import Derived.Maps.RangeWalk
import Derived.Maps.Own
import Derived.Maps.Keyed
namespace Go.Proofs.YtmbdjajmiggiaaaDoor.W08
open Go.Proofs.YtmbdjajmiggiaaaDoor.K08 Go.Proofs.YtmbdjajmiggiaaaDoor.G08 Go.Proofs.YtmbdjajmiggiaaaDoor.G08f Go.Proofs.YtmbdjajmiggiaaaDoor.Z08 Go.Proofs.YtmbdjajmiggiaaaDoor.O08 Go.Proofs.YtmbdjajmiggiaaaDoor.L08 Go.Proofs.YtmbdjajmiggiaaaDoor.E08
open Go.RowKit Go.Proofs.YtmbdjajmiggiaaaDoorW.PrintWords Go.Proofs.YtmbdjajmiggiaaaDoorW.PrintLast Go.Proofs.YtmbdjajmiggiaaaDoorW.PrintMore
set_option linter.unusedVariables false
set_option linter.unusedSimpArgs false
set_option maxRecDepth 100000
open Go.Maps (Keyed)
section
variable {ops : Array Oper} {rest : List Oper} {o : Oper} {a : Act} {w : World} {Q : Exit → Act → World → Prop}
theorem want {P : Program} (hw : Region.wanted o (yielded ops a.tmps) = true)
    (h : ∀ K : Act → World → Prop, (∀ a w, wpList P ops Q rest a w → K a w) → o.wp P a w K Q) : wpList P ops Q (o :: rest) a w :=
  wpList_step fun K hK => by rw [if_pos hw]; exact h K hK
theorem load_arG (hw : Region.wanted o (yielded ops a.tmps) = true) (x : Operand) (ho : o.op = .load 22 x)
    (g : Nat) (hx : a.eval x = .pointer (some ⟨g, 0, none⟩)) (b : List Int) (hb : b.length = 64) (hg : Blk w g b)
    (h : wpList Tryd.prog ops Q rest (a.put o.dst (ar b)) w) : wpList Tryd.prog ops Q (o :: rest) a w :=
  want hw fun _ hK => wp_load_row 22 x ho g hx 22 (nums .i64 b).toArray (0, 0) _ hg Tryd.underlying22 rfl (info22.trans (by simp [nums_length, hb])) (hK _ _ h)
/-- An array whose first element alone is told. -/
def dot (c : Int) : List Int := c :: List.replicate 63 0
theorem dot_len (c : Int) : (dot c).length = 64 := by simp [dot]
theorem build_dot (hw : Region.wanted o (yielded ops a.tmps) = true) (c : Int) (ho : o.op = .build 22 #[(0, .const (.int .i64 c))]) (hc : Tryd.prog.built 22 [(0, .int .i64 c)] = some (nums .i64 (dot c)).toArray)
    (h : wpList Tryd.prog ops Q rest (a.put o.dst (ar (dot c))) w) : wpList Tryd.prog ops Q (o :: rest) a w :=
  want hw fun _ hK => by
    have e0 : a.eval (.const (.int .i64 c)) = .int .i64 c := rfl
    have e : ((#[((0 : Nat), Operand.const (.int .i64 c))] : Array (Nat × Operand)).map fun (i, x) => (i, a.eval x)).toList = [(0, .int .i64 c)] := by simp [e0]
    refine wp_build 22 _ ho ?_ ?_
    · rw [e, hc]; rfl
    · rw [e, hc]; exact hK _ _ h
theorem build_zero (hw : Region.wanted o (yielded ops a.tmps) = true) (ho : o.op = .build 22 #[]) 
    (h : wpList Tryd.prog ops Q rest (a.put o.dst (ar z64)) w) : wpList Tryd.prog ops Q (o :: rest) a w :=
  want hw fun _ hK => wp_build 22 _ ho (by kernel_rfl) (by
    have e : Tryd.prog.built 22 (Array.map (fun x => (x.1, a.eval x.2)) (#[] : Array (Nat × Operand))).toList = some (nums .i64 z64).toArray := by kernel_rfl
    rw [e]
    exact hK _ _ h)
theorem built64 : Tryd.prog.built 22 [(0, .int .i64 64)] = some (nums .i64 (dot 64)).toArray := by kernel_rfl
theorem built31 : Tryd.prog.built 22 [(0, .int .i64 31)] = some (nums .i64 (dot 31)).toArray := by kernel_rfl
theorem all_range_eq : ∀ (xs ys : List Int), xs.length = ys.length → ((List.range xs.length).all fun i => xs.getD i 0 == ys.getD i 0) = (xs == ys)
  | [], [], _ => rfl
  | x :: xs, y :: ys, h => by
    have ih := all_range_eq xs ys (by simpa using h)
    rw [List.length_cons, List.range_succ_eq_map, List.all_cons, List.all_map]
    simp only [List.getD_cons_zero, Function.comp_def, List.getD_cons_succ, ih]
    simp [List.cons_beq_cons]
  | [], _ :: _, h => by simp at h
  | _ :: _, [], h => by simp at h
theorem run_equalIn_ints (d : Nat) (t e : TypeId) (n : Nat) (ht : Tryd.prog.underlying t = some (.array n e)) (he : Tryd.prog.underlying e = some (.int .i64)) (hsz : ∀ w, (sizeOf e).run Tryd.prog w = .ok 1 w)
    (xs ys : List Int) (hx : xs.length = n) (hy : ys.length = n) (w : World) :
    (Op.equalIn (d + 2) t (.agg (nums .i64 xs).toArray) (.agg (nums .i64 ys).toArray)).run Tryd.prog w = .ok (xs == ys) w := by
  unfold nums
  rw [← all_range_eq xs ys (hx.trans hy.symm), hx, List.range_eq_range', Op.equalIn]
  simp only [Sem.run_bind, run_underlying ht, Result.andThen_ok, hsz, Std.Legacy.Range.forIn_eq_forIn_range', Std.Legacy.Range.size, Nat.sub_zero, Nat.add_sub_cancel, Nat.div_one]
  have hl : ∀ i ∈ List.range' 0 n 1, i < n := fun i hi => by simpa using (List.mem_range'_1.1 hi).2
  generalize List.range' 0 n 1 = l at hl ⊢
  induction l with
  | nil => simp
  | cons i l ih =>
    have hi : i < n := hl i (by simp)
    have px : (part e (xs.map fun x => Value.int .i64 x).toArray (i * 1)).run Tryd.prog w = .ok (.int .i64 (xs.getD i 0)) w := by
      simp [part, isAgg, run_underlying he, List.getD, List.getElem?_eq_getElem (show i < xs.length by omega)]
    have py : (part e (ys.map fun x => Value.int .i64 x).toArray (i * 1)).run Tryd.prog w = .ok (.int .i64 (ys.getD i 0)) w := by
      simp [part, isAgg, run_underlying he, List.getD, List.getElem?_eq_getElem (show i < ys.length by omega)]
    have pe : (Op.equalIn (d + 1) e (.int .i64 (xs.getD i 0)) (.int .i64 (ys.getD i 0))).run Tryd.prog w = .ok (xs.getD i 0 == ys.getD i 0) w := run_equalIn_int w d e .i64 .i64 _ _ he
    simp only [List.forIn_cons, Sem.run_bind, px, py, pe, Result.andThen_ok, List.all_cons]
    cases hb : (xs.getD i 0 == ys.getD i 0)
    · simp
    · simp only [Bool.not_true, Bool.false_eq_true, if_false, Sem.run_pure, Result.andThen_ok, Bool.true_and]
      exact ih fun j hj => hl j (by simp [hj])
theorem size3' (w : World) : (sizeOf 3).run Tryd.prog w = .ok 1 w := by rw [size3]
theorem guard22 : Tryd.prog.eqGuardType Tryd.prog.depth 22 = false := by kernel_rfl
theorem ne_ar (hw : Region.wanted o (yielded ops a.tmps) = true) (x y : Operand) (ho : o.op = .binOp .neq 22 x y 22) (l1 l2 : List Int) (hx : a.eval x = ar l1) (hy : a.eval y = ar l2) (h1 : l1.length = 64) (h2 : l2.length = 64)
    (h : wpList Tryd.prog ops Q rest (a.put o.dst (.bool (!(l1 == l2)))) w) : wpList Tryd.prog ops Q (o :: rest) a w :=
  want hw fun K hK => by
    unfold Oper.wp execOp
    have e := run_equalIn_ints 9998 22 3 64 Tryd.underlying22 Tryd.underlying3 size3' l1 l2 h1 h2 w
    simp only [ho, hx, hy, ar, Sem.run_bind, run_eqGuard_agg (hm := guard22), Result.andThen_ok, run_neq_struct, e, Sem.run_pure]
    exact hK _ _ h
theorem eq_ar (hw : Region.wanted o (yielded ops a.tmps) = true) (x y : Operand) (ho : o.op = .binOp .eql 22 x y 22) (l1 l2 : List Int) (hx : a.eval x = ar l1) (hy : a.eval y = ar l2) (h1 : l1.length = 64) (h2 : l2.length = 64)
    (h : wpList Tryd.prog ops Q rest (a.put o.dst (.bool (l1 == l2))) w) : wpList Tryd.prog ops Q (o :: rest) a w :=
  want hw fun K hK => by
    unfold Oper.wp execOp
    have e := run_equalIn_ints 9998 22 3 64 Tryd.underlying22 Tryd.underlying3 size3' l1 l2 h1 h2 w
    simp only [ho, hx, hy, ar, Sem.run_bind, run_eqGuard_agg (hm := guard22), Result.andThen_ok, run_eql_struct, e, Sem.run_pure]
    exact hK _ _ h
/-- An entry of a map literal. -/
theorem insert_own {H : Type} (hg : o.guard = none) (m x v : Operand) (t : TypeId) (hop : o.op = Op.insert t m x v)
    (k e : TypeId) (K : Keyed Tryd.prog k) (ht : Tryd.prog.underlying t = some (.map k e)) (R : Value → Option (DataW H × List MemPlace)) (b n : Nat) (D : DataW H)
    (hm : a.eval m = .map (some b)) (hown : w.ownsMap Tryd.prog k R b n D) (hn : n < maxLen) (key val : Value) (kl : Lit) (hx : a.eval x = key) (hv : a.eval v = val) (hkey : keyOf Tryd.prog k key = some kl)
    (d : DataW H) (ps : List MemPlace) (hval : R val = some (d, ps))
    (hK : ∀ w', w'.ownsMap Tryd.prog k R b (n + 1) (D.put kl d) → w.grownBy w' (some b) → wpList Tryd.prog ops Q rest (a.put o.dst undef) w') :
    wpList Tryd.prog ops Q (o :: rest) a w := by
  refine wpList_plain hg fun K' hK' => ?_
  obtain ⟨w', hrun, r1, r2⟩ := hown.update K ht hn hkey hval
  unfold Oper.wp
  simp [execOp, hop, hm, hx, hv, hrun, Result.andThen]
  exact hK' _ _ (hK w' r1 r2)
end
end Go.Proofs.YtmbdjajmiggiaaaDoor.W08
