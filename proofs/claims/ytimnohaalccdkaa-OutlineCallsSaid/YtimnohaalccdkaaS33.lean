import Derived.Test.YtimnohaalccdkaaG33o
import Derived.Laws.StructEq
import Derived.ChangeKeysEq
namespace Go.Proofs.Ytimnohaalccdkaa.S33
open Go Go.Proofs.Ytimnohaalccdkaa Go.Proofs.Ytimnohaalccdkaa.K33 Go.Proofs.Ytimnohaalccdkaa.M33
open Go.RowKit Go.Proofs.YtimnohaalccdkaaW.PrintWords Go.Proofs.YtimnohaalccdkaaW.PrintLast Go.Proofs.YtimnohaalccdkaaW.PrintMore
set_option linter.unusedVariables false
set_option linter.unusedSimpArgs false
set_option maxRecDepth 100000
theorem neq69 (W : World) (a b : Stm) : (binOp .neq 69 (.agg (stm a).toArray) (.agg (stm b).toArray)).run Try.prog W = .ok (.bool (!(decide (a = b)))) W := by
  obtain ⟨a1, a2, a3⟩ := a
  obtain ⟨b1, b2, b3⟩ := b
  have hu : Try.prog.underlying 69 = some (.struct (Try.prog.fieldsOf 69)) := by kernel_rfl
  rw [run_neq_struct, run_equalIn_struct W 9999 69 _ _ hu (by kernel_rfl)]
  have hf : (Try.prog.fieldsOf 69).toList.map (fun f => (f.name == "_", f.type, f.offset)) = [(false, 4, 0), (false, 3, 1), (false, 3, 2)] := by kernel_rfl
  generalize (Try.prog.fieldsOf 69).toList = fl at hf ⊢
  obtain ⟨f1, f2, f3, rfl⟩ : ∃ f1 f2 f3, fl = [f1, f2, f3] := by
    have hl := congrArg List.length hf
    rcases fl with _ | ⟨x, _ | ⟨y, _ | ⟨z, _ | ⟨t, l⟩⟩⟩⟩
    all_goals first | exact ⟨_, _, _, rfl⟩ | (simp at hl; done)
  simp at hf
  obtain ⟨⟨n1, t1, o1⟩, ⟨n2, t2, o2⟩, ⟨n3, t3, o3⟩⟩ := hf
  have p0 : ∀ xs : Array Value, ∀ v, xs[0]? = some v → (part 4 xs 0).run Try.prog W = .ok v W := fun xs v h => run_part_plain W (by kernel_rfl) h
  have p1 : ∀ xs : Array Value, ∀ v, xs[1]? = some v → (part 3 xs 1).run Try.prog W = .ok v W := fun xs v h => run_part_plain W (by kernel_rfl) h
  have p2 : ∀ xs : Array Value, ∀ v, xs[2]? = some v → (part 3 xs 2).run Try.prog W = .ok v W := fun xs v h => run_part_plain W (by kernel_rfl) h
  unfold stm
  simp only [Op.eqFields, n1, t1, o1, n2, t2, o2, n3, t3, o3, ne_eq, not_false_eq_true, if_true, Sem.run_bind]
  have e0 : (Op.equalIn 9999 4 (.bool a1) (.bool b1)).run Try.prog W = .ok (a1 == b1) W := run_equalIn_bool' W 9998 4 a1 b1 Try.underlying4
  have e1 : (Op.equalIn 9999 3 (.int .i64 a2) (.int .i64 b2)).run Try.prog W = .ok (a2 == b2) W := run_equalIn_int W 9998 3 .i64 .i64 a2 b2 Try.underlying3
  have e2 : (Op.equalIn 9999 3 (.int .i64 a3) (.int .i64 b3)).run Try.prog W = .ok (a3 == b3) W := run_equalIn_int W 9998 3 .i64 .i64 a3 b3 Try.underlying3
  have pa0 := p0 #[.bool a1, .int .i64 a2, .int .i64 a3] _ rfl
  have pb0 := p0 #[.bool b1, .int .i64 b2, .int .i64 b3] _ rfl
  have pa1 := p1 #[.bool a1, .int .i64 a2, .int .i64 a3] _ rfl
  have pb1 := p1 #[.bool b1, .int .i64 b2, .int .i64 b3] _ rfl
  have pa2 := p2 #[.bool a1, .int .i64 a2, .int .i64 a3] _ rfl
  have pb2 := p2 #[.bool b1, .int .i64 b2, .int .i64 b3] _ rfl
  simp only [pa0, pb0, Result.andThen_ok]
  by_cases h1 : a1 = b1
  · by_cases h2 : a2 = b2
    · by_cases h3 : a3 = b3
      · subst h1 h2 h3
        simp only [beq_self_eq_true] at e0 e1 e2
        simp [pa1, pb1, pa2, pb2, e0, e1, e2, Sem.run_bind, Sem.run_pure]
      · subst h1 h2
        simp only [beq_self_eq_true] at e0 e1
        have q3 : (a3 == b3) = false := by simpa using h3
        simp [pa1, pb1, pa2, pb2, e0, e1, e2, q3, h3, Sem.run_bind, Sem.run_pure]
    · subst h1
      simp only [beq_self_eq_true] at e0
      have q2 : (a2 == b2) = false := by simpa using h2
      simp [pa1, pb1, e0, e1, q2, h2, Sem.run_bind, Sem.run_pure]
  · have q1 : (a1 == b1) = false := by simpa using h1
    simp [e0, q1, h1, Sem.run_pure]
theorem eq55 (W : World) (d : Nat) (x y u v : Int) : (Op.equalIn (d + 2) 55 (.agg #[.int .i64 x, .int .i64 y]) (.agg #[.int .i64 u, .int .i64 v])).run Try.prog W = .ok (x == u && y == v) W := by
  have hu : Try.prog.underlying 55 = some (.struct (Try.prog.fieldsOf 55)) := by kernel_rfl
  rw [run_equalIn_struct W (d + 1) 55 _ _ hu (by kernel_rfl)]
  have hf : (Try.prog.fieldsOf 55).toList.map (fun f => (f.name == "_", f.type, f.offset)) = [(false, 3, 0), (false, 3, 1)] := by kernel_rfl
  generalize (Try.prog.fieldsOf 55).toList = fl at hf ⊢
  obtain ⟨f1, f2, rfl⟩ : ∃ f1 f2, fl = [f1, f2] := by
    have hl := congrArg List.length hf
    rcases fl with _ | ⟨x, _ | ⟨y, _ | ⟨z, l⟩⟩⟩
    all_goals first | exact ⟨_, _, rfl⟩ | (simp at hl; done)
  simp at hf
  obtain ⟨⟨n1, t1, o1⟩, ⟨n2, t2, o2⟩⟩ := hf
  have p0 : ∀ xs : Array Value, ∀ v, xs[0]? = some v → (part 3 xs 0).run Try.prog W = .ok v W := fun xs v h => run_part_plain W (by kernel_rfl) h
  have p1 : ∀ xs : Array Value, ∀ v, xs[1]? = some v → (part 3 xs 1).run Try.prog W = .ok v W := fun xs v h => run_part_plain W (by kernel_rfl) h
  have e0 : (Op.equalIn (d + 1) 3 (.int .i64 x) (.int .i64 u)).run Try.prog W = .ok (x == u) W := run_equalIn_int W d 3 .i64 .i64 x u Try.underlying3
  have e1 : (Op.equalIn (d + 1) 3 (.int .i64 y) (.int .i64 v)).run Try.prog W = .ok (y == v) W := run_equalIn_int W d 3 .i64 .i64 y v Try.underlying3
  have pa0 := p0 #[.int .i64 x, .int .i64 y] (.int .i64 x) rfl
  have pb0 := p0 #[.int .i64 u, .int .i64 v] (.int .i64 u) rfl
  have pa1 := p1 #[.int .i64 x, .int .i64 y] (.int .i64 y) rfl
  have pb1 := p1 #[.int .i64 u, .int .i64 v] (.int .i64 v) rfl
  simp only [Op.eqFields, n1, t1, o1, n2, t2, o2, ne_eq, not_false_eq_true, if_true, Sem.run_bind]
  simp only [pa0, pb0, Result.andThen_ok]
  rw [e0]
  simp only [Result.andThen_ok]
  cases hb : (x == u)
  · simp [Sem.run_pure]
  · simp only [Bool.not_true, Bool.false_eq_true, if_false, Sem.run_bind, pa1, pb1, Result.andThen_ok, Bool.true_and]
    rw [e1]
    simp only [Result.andThen_ok]
    cases hc : (y == v) <;> simp [Sem.run_pure]
theorem size55 (w : World) : (sizeOf 55).run Try.prog w = .ok 2 w := by
  have hi : (Try.prog.info? 55).map (·.size) = some 2 := by kernel_rfl
  obtain ⟨i, h1, h2⟩ := Option.map_eq_some_iff.1 hi
  simp [sizeOf, typeInfo, h1, h2]
theorem eq58 (W : World) (d : Nat) (a b c x y z : Pt) : (Op.equalIn (d + 3) 58 (.agg (pnt a ++ pnt b ++ pnt c).toArray) (.agg (pnt x ++ pnt y ++ pnt z).toArray)).run Try.prog W = .ok (decide (a = x ∧ b = y ∧ c = z)) W := by
  have hu : Try.prog.underlying 58 = some (.array 3 55) := Try.underlying58
  have q : ∀ (k : Nat) (p0 p1 p2 : Pt), k < 3 → (part 55 (pnt p0 ++ pnt p1 ++ pnt p2).toArray (k * 2)).run Try.prog W = .ok (.agg (pnt ([p0, p1, p2].getD k (0, 0))).toArray) W := by
    intro k p0 p1 p2 hk
    have h55 := Try.underlying55
    rcases (show k = 0 ∨ k = 1 ∨ k = 2 by omega) with rfl | rfl | rfl <;> simp [part, isAgg, run_underlying h55, size55, pnt]
  have qa0 : (part 55 (pnt a ++ pnt b ++ pnt c).toArray (0 * 2)).run Try.prog W = .ok (.agg #[.int .i64 a.1, .int .i64 a.2]) W := q 0 a b c (by decide)
  have qa1 : (part 55 (pnt a ++ pnt b ++ pnt c).toArray ((0 + 1) * 2)).run Try.prog W = .ok (.agg #[.int .i64 b.1, .int .i64 b.2]) W := q 1 a b c (by decide)
  have qa2 : (part 55 (pnt a ++ pnt b ++ pnt c).toArray ((0 + 1 + 1) * 2)).run Try.prog W = .ok (.agg #[.int .i64 c.1, .int .i64 c.2]) W := q 2 a b c (by decide)
  have qx0 : (part 55 (pnt x ++ pnt y ++ pnt z).toArray (0 * 2)).run Try.prog W = .ok (.agg #[.int .i64 x.1, .int .i64 x.2]) W := q 0 x y z (by decide)
  have qx1 : (part 55 (pnt x ++ pnt y ++ pnt z).toArray ((0 + 1) * 2)).run Try.prog W = .ok (.agg #[.int .i64 y.1, .int .i64 y.2]) W := q 1 x y z (by decide)
  have qx2 : (part 55 (pnt x ++ pnt y ++ pnt z).toArray ((0 + 1 + 1) * 2)).run Try.prog W = .ok (.agg #[.int .i64 z.1, .int .i64 z.2]) W := q 2 x y z (by decide)
  have pe : ∀ p q : Pt, (p.1 == q.1 && p.2 == q.2) = decide (p = q) := fun p q => by
    obtain ⟨p1, p2⟩ := p
    obtain ⟨q1, q2⟩ := q
    by_cases h1 : p1 = q1 <;> by_cases h2 : p2 = q2 <;> simp [h1, h2]
  rw [Op.equalIn]
  simp only [Sem.run_bind, run_underlying hu, Result.andThen_ok, size55, Std.Legacy.Range.forIn_eq_forIn_range', Std.Legacy.Range.size, Nat.sub_zero, Nat.add_sub_cancel, Nat.div_one]
  simp only [List.range'_succ, List.range'_zero, List.forIn_cons, List.forIn_nil, Sem.run_bind]
  rw [qa0]
  simp only [Result.andThen_ok]
  rw [qx0]
  simp only [Result.andThen_ok]
  rw [eq55, pe]
  simp only [Result.andThen_ok]
  by_cases h1 : a = x
  · simp only [h1, decide_true, Bool.not_true, Bool.false_eq_true, if_false, Sem.run_pure, Result.andThen_ok, Sem.run_bind, true_and]
    rw [← h1, qa1]
    simp only [Result.andThen_ok]
    rw [h1, qx1]
    simp only [Result.andThen_ok]
    rw [eq55, pe]
    simp only [Result.andThen_ok]
    by_cases h2 : b = y
    · simp only [h2, decide_true, Bool.not_true, Bool.false_eq_true, if_false, Sem.run_pure, Result.andThen_ok, Sem.run_bind, true_and]
      rw [← h2, ← h1, qa2]
      simp only [Result.andThen_ok]
      rw [h1, h2, qx2]
      simp only [Result.andThen_ok]
      rw [eq55, pe]
      simp only [Result.andThen_ok]
      by_cases h3 : c = z <;> simp [h3]
    · simp [h2]
  · simp [h1]
theorem neq60 (W : World) (a b : Stp) : (binOp .neq 60 (.agg (stp a).toArray) (.agg (stp b).toArray)).run Try.prog W = .ok (.bool (!(decide (a = b)))) W := by
  obtain ⟨a0, a1, a2, a3⟩ := a
  obtain ⟨b0, b1, b2, b3⟩ := b
  have hu : Try.prog.underlying 60 = some (.struct (Try.prog.fieldsOf 60)) := by kernel_rfl
  rw [run_neq_struct, run_equalIn_struct W 9999 60 _ _ hu (by kernel_rfl)]
  have hf : (Try.prog.fieldsOf 60).toList.map (fun f => (f.name == "_", f.type, f.offset)) = [(false, 3, 0), (false, 58, 1)] := by kernel_rfl
  generalize (Try.prog.fieldsOf 60).toList = fl at hf ⊢
  obtain ⟨f1, f2, rfl⟩ : ∃ f1 f2, fl = [f1, f2] := by
    have hl := congrArg List.length hf
    rcases fl with _ | ⟨x, _ | ⟨y, _ | ⟨z, l⟩⟩⟩
    all_goals first | exact ⟨_, _, rfl⟩ | (simp at hl; done)
  simp at hf
  obtain ⟨⟨n1, t1, o1⟩, ⟨n2, t2, o2⟩⟩ := hf
  have p0 : ∀ xs : Array Value, ∀ v, xs[0]? = some v → (part 3 xs 0).run Try.prog W = .ok v W := fun xs v h => run_part_plain W (by kernel_rfl) h
  have hs58 : (sizeOf 58).run Try.prog W = .ok 6 W := by
    have hi : (Try.prog.info? 58).map (·.size) = some 6 := by kernel_rfl
    obtain ⟨i, h1, h2⟩ := Option.map_eq_some_iff.1 hi
    simp [sizeOf, typeInfo, h1, h2]
  have p1 : ∀ (k : Int) (p q r : Pt), (part 58 (stp (k, p, q, r)).toArray 1).run Try.prog W = .ok (.agg (pnt p ++ pnt q ++ pnt r).toArray) W := by
    intro k p q r
    have h58 := Try.underlying58
    simp [part, isAgg, run_underlying h58, hs58, stp, pnt]
  have e0 : (Op.equalIn 9999 3 (.int .i64 a0) (.int .i64 b0)).run Try.prog W = .ok (a0 == b0) W := run_equalIn_int W 9998 3 .i64 .i64 a0 b0 Try.underlying3
  have e1 : (Op.equalIn 9999 58 (.agg (pnt a1 ++ pnt a2 ++ pnt a3).toArray) (.agg (pnt b1 ++ pnt b2 ++ pnt b3).toArray)).run Try.prog W = .ok (decide (a1 = b1 ∧ a2 = b2 ∧ a3 = b3)) W := eq58 W 9996 a1 a2 a3 b1 b2 b3
  have pa0 := p0 (stp (a0, a1, a2, a3)).toArray (.int .i64 a0) rfl
  have pb0 := p0 (stp (b0, b1, b2, b3)).toArray (.int .i64 b0) rfl
  have pa1 := p1 a0 a1 a2 a3
  have pb1 := p1 b0 b1 b2 b3
  simp only [Op.eqFields, n1, t1, o1, n2, t2, o2, ne_eq, not_false_eq_true, if_true, Sem.run_bind]
  rw [pa0]
  simp only [Result.andThen_ok]
  rw [pb0]
  simp only [Result.andThen_ok]
  rw [e0]
  simp only [Result.andThen_ok]
  by_cases h0 : a0 = b0
  · have h0' : (a0 == b0) = true := by simpa using h0
    simp only [h0', Bool.not_true, Bool.false_eq_true, if_false, Sem.run_bind]
    rw [pa1]
    simp only [Result.andThen_ok]
    rw [pb1]
    simp only [Result.andThen_ok]
    rw [e1]
    simp only [Result.andThen_ok]
    by_cases h1 : a1 = b1 ∧ a2 = b2 ∧ a3 = b3
    · obtain ⟨rfl, rfl, rfl⟩ := h1
      simp [h0]
    · have h1' : ¬ ((a0, a1, a2, a3) = (b0, b1, b2, b3)) := fun e => h1 (by cases e; exact ⟨rfl, rfl, rfl⟩)
      simp only [h1, h1', decide_false, Bool.not_false, if_true, Sem.run_pure, Result.andThen_ok]
  · have h0' : (a0 == b0) = false := by simpa using h0
    have h1' : ¬ ((a0, a1, a2, a3) = (b0, b1, b2, b3)) := fun e => h0 (by cases e; rfl)
    simp only [h0', h1', decide_false, Bool.not_false, if_true, Sem.run_pure, Result.andThen_ok]
end Go.Proofs.Ytimnohaalccdkaa.S33
