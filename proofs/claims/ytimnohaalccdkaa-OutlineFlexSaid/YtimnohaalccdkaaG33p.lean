/- Several texts of this claim, one behind the other. -/
import Derived.Test.YtimnohaalccdkaaG33o
import Derived.Laws.StructEq
import Derived.ChangeKeysEq
namespace Go.Proofs.Ytimnohaalccdkaa.S33
open Go Go.Proofs.Ytimnohaalccdkaa Go.Proofs.Ytimnohaalccdkaa.K33 Go.Proofs.Ytimnohaalccdkaa.M33
open Go.RowKit Go.Proofs.YtimnohaalccdkaaW.PrintWords Go.Proofs.YtimnohaalccdkaaW.PrintLast Go.Proofs.YtimnohaalccdkaaW.PrintMore
set_option linter.unusedVariables false
set_option linter.unusedSimpArgs false
set_option maxRecDepth 100000
theorem neq69 (W : World) (a b : Stm) : (binOp .neq 69 (.agg (stm a).toArray) (.agg (stm b).toArray)).run Try.prog W = .ok (.bool (!(decide (a = b)))) W := by
  obtain ⟨a1, a2, a3⟩ := a
  obtain ⟨b1, b2, b3⟩ := b
  have hu : Try.prog.underlying 69 = some (.struct (Try.prog.fieldsOf 69)) := by kernel_rfl
  rw [run_neq_struct, run_equalIn_struct W 9999 69 _ _ hu (by kernel_rfl)]
  have hf : (Try.prog.fieldsOf 69).toList.map (fun f => (f.name == "_", f.type, f.offset)) = [(false, 4, 0), (false, 3, 1), (false, 3, 2)] := by kernel_rfl
  generalize (Try.prog.fieldsOf 69).toList = fl at hf ⊢
  obtain ⟨f1, f2, f3, rfl⟩ : ∃ f1 f2 f3, fl = [f1, f2, f3] := by
    have hl := congrArg List.length hf
    rcases fl with _ | ⟨x, _ | ⟨y, _ | ⟨z, _ | ⟨t, l⟩⟩⟩⟩
    all_goals first | exact ⟨_, _, _, rfl⟩ | (simp at hl; done)
  simp at hf
  obtain ⟨⟨n1, t1, o1⟩, ⟨n2, t2, o2⟩, ⟨n3, t3, o3⟩⟩ := hf
  have p0 : ∀ xs : Array Value, ∀ v, xs[0]? = some v → (part 4 xs 0).run Try.prog W = .ok v W := fun xs v h => run_part_plain W (by kernel_rfl) h
  have p1 : ∀ xs : Array Value, ∀ v, xs[1]? = some v → (part 3 xs 1).run Try.prog W = .ok v W := fun xs v h => run_part_plain W (by kernel_rfl) h
  have p2 : ∀ xs : Array Value, ∀ v, xs[2]? = some v → (part 3 xs 2).run Try.prog W = .ok v W := fun xs v h => run_part_plain W (by kernel_rfl) h
  unfold stm
  simp only [Op.eqFields, n1, t1, o1, n2, t2, o2, n3, t3, o3, ne_eq, not_false_eq_true, if_true, Sem.run_bind]
  have e0 : (Op.equalIn 9999 4 (.bool a1) (.bool b1)).run Try.prog W = .ok (a1 == b1) W := run_equalIn_bool' W 9998 4 a1 b1 Try.underlying4
  have e1 : (Op.equalIn 9999 3 (.int .i64 a2) (.int .i64 b2)).run Try.prog W = .ok (a2 == b2) W := run_equalIn_int W 9998 3 .i64 .i64 a2 b2 Try.underlying3
  have e2 : (Op.equalIn 9999 3 (.int .i64 a3) (.int .i64 b3)).run Try.prog W = .ok (a3 == b3) W := run_equalIn_int W 9998 3 .i64 .i64 a3 b3 Try.underlying3
  have pa0 := p0 #[.bool a1, .int .i64 a2, .int .i64 a3] _ rfl
  have pb0 := p0 #[.bool b1, .int .i64 b2, .int .i64 b3] _ rfl
  have pa1 := p1 #[.bool a1, .int .i64 a2, .int .i64 a3] _ rfl
  have pb1 := p1 #[.bool b1, .int .i64 b2, .int .i64 b3] _ rfl
  have pa2 := p2 #[.bool a1, .int .i64 a2, .int .i64 a3] _ rfl
  have pb2 := p2 #[.bool b1, .int .i64 b2, .int .i64 b3] _ rfl
  simp only [pa0, pb0, Result.andThen_ok]
  by_cases h1 : a1 = b1
  · by_cases h2 : a2 = b2
    · by_cases h3 : a3 = b3
      · subst h1 h2 h3
        simp only [beq_self_eq_true] at e0 e1 e2
        simp [pa1, pb1, pa2, pb2, e0, e1, e2, Sem.run_bind, Sem.run_pure]
      · subst h1 h2
        simp only [beq_self_eq_true] at e0 e1
        have q3 : (a3 == b3) = false := by simpa using h3
        simp [pa1, pb1, pa2, pb2, e0, e1, e2, q3, h3, Sem.run_bind, Sem.run_pure]
    · subst h1
      simp only [beq_self_eq_true] at e0
      have q2 : (a2 == b2) = false := by simpa using h2
      simp [pa1, pb1, e0, e1, q2, h2, Sem.run_bind, Sem.run_pure]
  · have q1 : (a1 == b1) = false := by simpa using h1
    simp [e0, q1, h1, Sem.run_pure]
theorem eq55 (W : World) (d : Nat) (x y u v : Int) : (Op.equalIn (d + 2) 55 (.agg #[.int .i64 x, .int .i64 y]) (.agg #[.int .i64 u, .int .i64 v])).run Try.prog W = .ok (x == u && y == v) W := by
  have hu : Try.prog.underlying 55 = some (.struct (Try.prog.fieldsOf 55)) := by kernel_rfl
  rw [run_equalIn_struct W (d + 1) 55 _ _ hu (by kernel_rfl)]
  have hf : (Try.prog.fieldsOf 55).toList.map (fun f => (f.name == "_", f.type, f.offset)) = [(false, 3, 0), (false, 3, 1)] := by kernel_rfl
  generalize (Try.prog.fieldsOf 55).toList = fl at hf ⊢
  obtain ⟨f1, f2, rfl⟩ : ∃ f1 f2, fl = [f1, f2] := by
    have hl := congrArg List.length hf
    rcases fl with _ | ⟨x, _ | ⟨y, _ | ⟨z, l⟩⟩⟩
    all_goals first | exact ⟨_, _, rfl⟩ | (simp at hl; done)
  simp at hf
  obtain ⟨⟨n1, t1, o1⟩, ⟨n2, t2, o2⟩⟩ := hf
  have p0 : ∀ xs : Array Value, ∀ v, xs[0]? = some v → (part 3 xs 0).run Try.prog W = .ok v W := fun xs v h => run_part_plain W (by kernel_rfl) h
  have p1 : ∀ xs : Array Value, ∀ v, xs[1]? = some v → (part 3 xs 1).run Try.prog W = .ok v W := fun xs v h => run_part_plain W (by kernel_rfl) h
  have e0 : (Op.equalIn (d + 1) 3 (.int .i64 x) (.int .i64 u)).run Try.prog W = .ok (x == u) W := run_equalIn_int W d 3 .i64 .i64 x u Try.underlying3
  have e1 : (Op.equalIn (d + 1) 3 (.int .i64 y) (.int .i64 v)).run Try.prog W = .ok (y == v) W := run_equalIn_int W d 3 .i64 .i64 y v Try.underlying3
  have pa0 := p0 #[.int .i64 x, .int .i64 y] (.int .i64 x) rfl
  have pb0 := p0 #[.int .i64 u, .int .i64 v] (.int .i64 u) rfl
  have pa1 := p1 #[.int .i64 x, .int .i64 y] (.int .i64 y) rfl
  have pb1 := p1 #[.int .i64 u, .int .i64 v] (.int .i64 v) rfl
  simp only [Op.eqFields, n1, t1, o1, n2, t2, o2, ne_eq, not_false_eq_true, if_true, Sem.run_bind]
  simp only [pa0, pb0, Result.andThen_ok]
  rw [e0]
  simp only [Result.andThen_ok]
  cases hb : (x == u)
  · simp [Sem.run_pure]
  · simp only [Bool.not_true, Bool.false_eq_true, if_false, Sem.run_bind, pa1, pb1, Result.andThen_ok, Bool.true_and]
    rw [e1]
    simp only [Result.andThen_ok]
    cases hc : (y == v) <;> simp [Sem.run_pure]
theorem size55 (w : World) : (sizeOf 55).run Try.prog w = .ok 2 w := by
  have hi : (Try.prog.info? 55).map (·.size) = some 2 := by kernel_rfl
  obtain ⟨i, h1, h2⟩ := Option.map_eq_some_iff.1 hi
  simp [sizeOf, typeInfo, h1, h2]
theorem eq58 (W : World) (d : Nat) (a b c x y z : Pt) : (Op.equalIn (d + 3) 58 (.agg (pnt a ++ pnt b ++ pnt c).toArray) (.agg (pnt x ++ pnt y ++ pnt z).toArray)).run Try.prog W = .ok (decide (a = x ∧ b = y ∧ c = z)) W := by
  have hu : Try.prog.underlying 58 = some (.array 3 55) := Try.underlying58
  have q : ∀ (k : Nat) (p0 p1 p2 : Pt), k < 3 → (part 55 (pnt p0 ++ pnt p1 ++ pnt p2).toArray (k * 2)).run Try.prog W = .ok (.agg (pnt ([p0, p1, p2].getD k (0, 0))).toArray) W := by
    intro k p0 p1 p2 hk
    have h55 := Try.underlying55
    rcases (show k = 0 ∨ k = 1 ∨ k = 2 by omega) with rfl | rfl | rfl <;> simp [part, isAgg, run_underlying h55, size55, pnt]
  have qa0 : (part 55 (pnt a ++ pnt b ++ pnt c).toArray (0 * 2)).run Try.prog W = .ok (.agg #[.int .i64 a.1, .int .i64 a.2]) W := q 0 a b c (by decide)
  have qa1 : (part 55 (pnt a ++ pnt b ++ pnt c).toArray ((0 + 1) * 2)).run Try.prog W = .ok (.agg #[.int .i64 b.1, .int .i64 b.2]) W := q 1 a b c (by decide)
  have qa2 : (part 55 (pnt a ++ pnt b ++ pnt c).toArray ((0 + 1 + 1) * 2)).run Try.prog W = .ok (.agg #[.int .i64 c.1, .int .i64 c.2]) W := q 2 a b c (by decide)
  have qx0 : (part 55 (pnt x ++ pnt y ++ pnt z).toArray (0 * 2)).run Try.prog W = .ok (.agg #[.int .i64 x.1, .int .i64 x.2]) W := q 0 x y z (by decide)
  have qx1 : (part 55 (pnt x ++ pnt y ++ pnt z).toArray ((0 + 1) * 2)).run Try.prog W = .ok (.agg #[.int .i64 y.1, .int .i64 y.2]) W := q 1 x y z (by decide)
  have qx2 : (part 55 (pnt x ++ pnt y ++ pnt z).toArray ((0 + 1 + 1) * 2)).run Try.prog W = .ok (.agg #[.int .i64 z.1, .int .i64 z.2]) W := q 2 x y z (by decide)
  have pe : ∀ p q : Pt, (p.1 == q.1 && p.2 == q.2) = decide (p = q) := fun p q => by
    obtain ⟨p1, p2⟩ := p
    obtain ⟨q1, q2⟩ := q
    by_cases h1 : p1 = q1 <;> by_cases h2 : p2 = q2 <;> simp [h1, h2]
  rw [Op.equalIn]
  simp only [Sem.run_bind, run_underlying hu, Result.andThen_ok, size55, Std.Legacy.Range.forIn_eq_forIn_range', Std.Legacy.Range.size, Nat.sub_zero, Nat.add_sub_cancel, Nat.div_one]
  simp only [List.range'_succ, List.range'_zero, List.forIn_cons, List.forIn_nil, Sem.run_bind]
  rw [qa0]
  simp only [Result.andThen_ok]
  rw [qx0]
  simp only [Result.andThen_ok]
  rw [eq55, pe]
  simp only [Result.andThen_ok]
  by_cases h1 : a = x
  · simp only [h1, decide_true, Bool.not_true, Bool.false_eq_true, if_false, Sem.run_pure, Result.andThen_ok, Sem.run_bind, true_and]
    rw [← h1, qa1]
    simp only [Result.andThen_ok]
    rw [h1, qx1]
    simp only [Result.andThen_ok]
    rw [eq55, pe]
    simp only [Result.andThen_ok]
    by_cases h2 : b = y
    · simp only [h2, decide_true, Bool.not_true, Bool.false_eq_true, if_false, Sem.run_pure, Result.andThen_ok, Sem.run_bind, true_and]
      rw [← h2, ← h1, qa2]
      simp only [Result.andThen_ok]
      rw [h1, h2, qx2]
      simp only [Result.andThen_ok]
      rw [eq55, pe]
      simp only [Result.andThen_ok]
      by_cases h3 : c = z <;> simp [h3]
    · simp [h2]
  · simp [h1]
theorem neq60 (W : World) (a b : Stp) : (binOp .neq 60 (.agg (stp a).toArray) (.agg (stp b).toArray)).run Try.prog W = .ok (.bool (!(decide (a = b)))) W := by
  obtain ⟨a0, a1, a2, a3⟩ := a
  obtain ⟨b0, b1, b2, b3⟩ := b
  have hu : Try.prog.underlying 60 = some (.struct (Try.prog.fieldsOf 60)) := by kernel_rfl
  rw [run_neq_struct, run_equalIn_struct W 9999 60 _ _ hu (by kernel_rfl)]
  have hf : (Try.prog.fieldsOf 60).toList.map (fun f => (f.name == "_", f.type, f.offset)) = [(false, 3, 0), (false, 58, 1)] := by kernel_rfl
  generalize (Try.prog.fieldsOf 60).toList = fl at hf ⊢
  obtain ⟨f1, f2, rfl⟩ : ∃ f1 f2, fl = [f1, f2] := by
    have hl := congrArg List.length hf
    rcases fl with _ | ⟨x, _ | ⟨y, _ | ⟨z, l⟩⟩⟩
    all_goals first | exact ⟨_, _, rfl⟩ | (simp at hl; done)
  simp at hf
  obtain ⟨⟨n1, t1, o1⟩, ⟨n2, t2, o2⟩⟩ := hf
  have p0 : ∀ xs : Array Value, ∀ v, xs[0]? = some v → (part 3 xs 0).run Try.prog W = .ok v W := fun xs v h => run_part_plain W (by kernel_rfl) h
  have hs58 : (sizeOf 58).run Try.prog W = .ok 6 W := by
    have hi : (Try.prog.info? 58).map (·.size) = some 6 := by kernel_rfl
    obtain ⟨i, h1, h2⟩ := Option.map_eq_some_iff.1 hi
    simp [sizeOf, typeInfo, h1, h2]
  have p1 : ∀ (k : Int) (p q r : Pt), (part 58 (stp (k, p, q, r)).toArray 1).run Try.prog W = .ok (.agg (pnt p ++ pnt q ++ pnt r).toArray) W := by
    intro k p q r
    have h58 := Try.underlying58
    simp [part, isAgg, run_underlying h58, hs58, stp, pnt]
  have e0 : (Op.equalIn 9999 3 (.int .i64 a0) (.int .i64 b0)).run Try.prog W = .ok (a0 == b0) W := run_equalIn_int W 9998 3 .i64 .i64 a0 b0 Try.underlying3
  have e1 : (Op.equalIn 9999 58 (.agg (pnt a1 ++ pnt a2 ++ pnt a3).toArray) (.agg (pnt b1 ++ pnt b2 ++ pnt b3).toArray)).run Try.prog W = .ok (decide (a1 = b1 ∧ a2 = b2 ∧ a3 = b3)) W := eq58 W 9996 a1 a2 a3 b1 b2 b3
  have pa0 := p0 (stp (a0, a1, a2, a3)).toArray (.int .i64 a0) rfl
  have pb0 := p0 (stp (b0, b1, b2, b3)).toArray (.int .i64 b0) rfl
  have pa1 := p1 a0 a1 a2 a3
  have pb1 := p1 b0 b1 b2 b3
  simp only [Op.eqFields, n1, t1, o1, n2, t2, o2, ne_eq, not_false_eq_true, if_true, Sem.run_bind]
  rw [pa0]
  simp only [Result.andThen_ok]
  rw [pb0]
  simp only [Result.andThen_ok]
  rw [e0]
  simp only [Result.andThen_ok]
  by_cases h0 : a0 = b0
  · have h0' : (a0 == b0) = true := by simpa using h0
    simp only [h0', Bool.not_true, Bool.false_eq_true, if_false, Sem.run_bind]
    rw [pa1]
    simp only [Result.andThen_ok]
    rw [pb1]
    simp only [Result.andThen_ok]
    rw [e1]
    simp only [Result.andThen_ok]
    by_cases h1 : a1 = b1 ∧ a2 = b2 ∧ a3 = b3
    · obtain ⟨rfl, rfl, rfl⟩ := h1
      simp [h0]
    · have h1' : ¬ ((a0, a1, a2, a3) = (b0, b1, b2, b3)) := fun e => h1 (by cases e; exact ⟨rfl, rfl, rfl⟩)
      simp only [h1, h1', decide_false, Bool.not_false, if_true, Sem.run_pure, Result.andThen_ok]
  · have h0' : (a0 == b0) = false := by simpa using h0
    have h1' : ¬ ((a0, a1, a2, a3) = (b0, b1, b2, b3)) := fun e => h0 (by cases e; rfl)
    simp only [h0', h1', decide_false, Bool.not_false, if_true, Sem.run_pure, Result.andThen_ok]
end Go.Proofs.Ytimnohaalccdkaa.S33
/- Same of the reference (chapter 33): function 20. -/
namespace Go.Proofs.Ytimnohaalccdkaa.G33p
open Go.Proofs.Ytimnohaalccdkaa Go.Proofs.Ytimnohaalccdkaa.K33 Go.Proofs.Ytimnohaalccdkaa.M33 Go.Proofs.Ytimnohaalccdkaa.G33a Go.Proofs.Ytimnohaalccdkaa.G33b Go.Proofs.Ytimnohaalccdkaa.G33c Go.Proofs.Ytimnohaalccdkaa.G33o Go.Proofs.Ytimnohaalccdkaa.S33
open Go.RowKit Go.Proofs.YtimnohaalccdkaaW.PrintWords Go.Proofs.YtimnohaalccdkaaW.PrintLast Go.Proofs.YtimnohaalccdkaaW.PrintMore
set_option linter.unusedVariables false
set_option linter.unusedSimpArgs false
set_option maxRecDepth 100000
/-- A slice whose cells read so, at every later world. -/
def Rd (w : World) (v : Value) (n : Nat) (xs : List Value) : Prop :=
  ∃ A c, v = .slice A n c ∧ ∀ W, Below w.heap.size w W → ∀ (i : Nat) (x : Value), xs[i]? = some x → ∃ g off, A = some ⟨g, off, none⟩ ∧ W.cell? ⟨g, off + i, none⟩ = some x
/-- A glyph that can be read. -/
def GlR (w : World) (v : Value) (g : Gl) : Prop := ∃ vs vt, v = .agg #[.int .i64 g.1, .int .i64 g.2.1, vs, vt] ∧ Rd w vs g.2.2.1.length (g.2.2.1.flatMap stp) ∧ Rd w vt g.2.2.2.length (g.2.2.2.flatMap stm)
theorem Rd.below {w w' : World} {v : Value} {n : Nat} {xs : List Value} (h : Rd w v n xs) (hb : Below w.heap.size w w') : Rd w' v n xs := by
  obtain ⟨A, c, rfl, h⟩ := h
  exact ⟨A, c, rfl, fun W hW => h W (below_then hb hb.size hW)⟩
theorem rd_own {w : World} {B n size : Nat} {e : TypeId} {v : Value} {xs : List Value} (h : w.ownsRow B e size v n xs) : Rd w v n xs := by
  obtain ⟨A, c, rfl⟩ := own_slice h
  refine ⟨A, c, rfl, fun W hW i x hx => ?_⟩
  rcases h.2 with ⟨e1, h0⟩ | ⟨g, cap, cur, e1, h1, h2, h3, h4, h5, h6⟩
  · have hl := h.1
    rw [h0] at hl
    have : xs = [] := List.eq_nil_of_length_eq_zero (by simpa using hl)
    subst this
    cases hx
  · cases e1
    refine ⟨g, 0, rfl, ?_⟩
    rw [blk_cell (blk_below h2 hW)]
    have hlt : i < xs.length := (List.getElem?_eq_some_iff.1 hx).1
    have h6' := congrArg (fun l => l[i]?) h6
    simp only [hx] at h6'
    rw [Nat.zero_add]
    rw [← h6', List.getElem?_take_of_lt (by rw [← h.1]; exact hlt), Array.getElem?_toList]
theorem GlR.of {B : Nat} {w : World} {v : Value} {g : Gl} (h : GlV B w v g) : GlR w v g := by
  obtain ⟨vs, vt, rfl, h1, h2⟩ := h
  exact ⟨vs, vt, rfl, rd_own h1, rd_own h2⟩
theorem GlR.below {w w' : World} {v : Value} {g : Gl} (h : GlR w v g) (hb : Below w.heap.size w w') : GlR w' v g := by
  obtain ⟨vs, vt, rfl, h1, h2⟩ := h
  exact ⟨vs, vt, rfl, h1.below hb, h2.below hb⟩
theorem stp_len (s : Stp) : (stp s).length = 7 := rfl
theorem stm_len (s : Stm) : (stm s).length = 3 := rfl
structure Boxes (w : World) (r : Nat) (ga gb : Gl) (vs vt us ut : Value) (W : World) : Prop where
  a : W.heap[r]? = some (.cells #[.int .i64 ga.1, .int .i64 ga.2.1, vs, vt] 43 (0, 0))
  b : W.heap[r + 1]? = some (.cells #[.int .i64 gb.1, .int .i64 gb.2.1, us, ut] 43 (0, 0))
  bel : Below w.heap.size w W
set_option maxHeartbeats 8000000 in
theorem same_call {w : World} {va vb : Value} {ga gb : Gl} (ha : GlR w va ga) (hb : GlR w vb gb) (l1 : ga.2.2.1.length ≤ 100000) (l2 : ga.2.2.2.length ≤ 100000) (l3 : gb.2.2.1.length ≤ 100000) (l4 : gb.2.2.2.length ≤ 100000) :
    Calls Try.prog 20 #[va, vb] w fun e w' => e = .returned (.bool (decide (ga = gb))) ∧ Below w.heap.size w w' := by
  obtain ⟨vs, vt, rfl, ⟨A1, c1, rfl, r1⟩, ⟨A2, c2, rfl, r2⟩⟩ := ha
  obtain ⟨us, ut, rfl, ⟨A3, c3, rfl, r3⟩, ⟨A4, c4, rfl, r4⟩⟩ := hb
  have R1 := Aside0.mk r1
  have R2 := Aside0.mk r2
  have R3 := Aside0.mk r3
  have R4 := Aside0.mk r4
  clear r1 r2 r3 r4
  by_cases h1 : ga.1 = gb.1
  · have t1 : (ga.1 != gb.1) = false := by simp [h1]
    by_cases h2 : ga.2.1 = gb.2.1
    · have t2 : (ga.2.1 != gb.2.1) = false := by simp [h2]
      by_cases h3 : ga.2.2.1.length = gb.2.2.1.length
      · have t3 : ((ga.2.2.1.length : Int) != (gb.2.2.1.length : Int)) = false := by simp [h3]
        by_cases h4 : ga.2.2.2.length = gb.2.2.2.length
        · have t4 : ((ga.2.2.2.length : Int) != (gb.2.2.2.length : Int)) = false := by simp [h4]
          have H := Aside0.mk (And.intro (And.intro h1 h2) (And.intro h3 h4))
          clear h1 h2 h3 h4
          go_enter Try.func20, Try.ntmps20
          go_wp2_with fail
          obtain ⟨r, hr⟩ : ∃ r, w.heap.size = r := ⟨_, rfl⟩
          have HBX : Aside0 (Boxes w r ga gb (.slice A1 ga.2.2.1.length c1) (.slice A2 ga.2.2.2.length c2) (.slice A3 gb.2.2.1.length c3) (.slice A4 gb.2.2.2.length c4) ((w.alloc (.cells #[.int .i64 ga.1, .int .i64 ga.2.1, .slice A1 ga.2.2.1.length c1, .slice A2 ga.2.2.2.length c2] 43)).alloc (.cells #[.int .i64 gb.1, .int .i64 gb.2.1, .slice A3 gb.2.2.1.length c3, .slice A4 gb.2.2.2.length c4] 43))) := ⟨by
            rw [← hr]
            refine ⟨blk_alloc (blk_new _ _) _, ?_, below_alloc (below_alloc (Below.refl _ _) _) _⟩
            have := blk_new (w.alloc (.cells #[.int .i64 ga.1, .int .i64 ga.2.1, .slice A1 ga.2.2.1.length c1, .slice A2 ga.2.2.2.length c2] 43)) (.cells #[.int .i64 gb.1, .int .i64 gb.2.1, .slice A3 gb.2.2.1.length c3, .slice A4 gb.2.2.2.length c4] 43)
            simpa using this⟩
          rw [hr]
          clear t1 t2 t3 t4
          go_loopw [5] (fun v5 wr => ∃ j : Nat, v5 = .int .i64 (j : Int) ∧ j ≤ ga.2.2.1.length ∧ Aside0 (ga.2.2.1.take j = gb.2.2.1.take j) ∧ Aside0 (Boxes w r ga gb (.slice A1 ga.2.2.1.length c1) (.slice A2 ga.2.2.2.length c2) (.slice A3 gb.2.2.1.length c3) (.slice A4 gb.2.2.2.length c4) wr)) (fun v5 _ => ga.2.2.1.length - (intOf v5).toNat)
          case atStart => exact ⟨0, rfl, by omega, ⟨rfl⟩, HBX⟩
          case round =>
            clear HBX 
            obtain ⟨j, rfl, hj, HT, HBX⟩ := hrel
            have k2 : wr.cell? ⟨r, 2, none⟩ = some (.slice A1 ga.2.2.1.length c1) := (blk_cell HBX.out.a 2).trans rfl
            have k3 : wr.cell? ⟨r + 1, 2, none⟩ = some (.slice A3 gb.2.2.1.length c3) := (blk_cell HBX.out.b 2).trans rfl
            by_cases hjl : j < ga.2.2.1.length
            · have t1 : decide ((j : Int) < (ga.2.2.1.length : Int)) = true := decide_eq_true (by omega)
              have t1n : decide (j < ga.2.2.1.length) = true := decide_eq_true hjl
              have hjl2 : j < gb.2.2.1.length := by have := H.out.2.1; omega
              have hq1 : (j < ga.2.2.1.length) = True := eq_true hjl
              have hq2 : (j < gb.2.2.1.length) = True := eq_true hjl2
              have fx := flatMap_get stp_len ga.2.2.1 j
              obtain ⟨pa, hppa⟩ : ∃ p, ga.2.2.1[j]'hjl = p := ⟨_, rfl⟩
              obtain ⟨g1, o1, ex, _⟩ := R1.out wr HBX.out.bel (j * 7 + 0) _ (fx 0 hjl (by decide))
              subst ex
              have x0 : wr.cell? ⟨g1, o1 + j * 7, none⟩ = some (.int .i64 pa.1) := by
                obtain ⟨_, _, ee, hc⟩ := R1.out wr HBX.out.bel (j * 7 + 0) (.int .i64 pa.1) ((fx 0 hjl (by decide)).trans (by rw [hppa]; rfl))
                cases ee
                rw [Nat.add_zero] at hc
                exact hc
              have x1 : wr.cell? ⟨g1, o1 + j * 7 + 1, none⟩ = some (.int .i64 pa.2.1.1) := by
                obtain ⟨_, _, ee, hc⟩ := R1.out wr HBX.out.bel (j * 7 + 1) (.int .i64 pa.2.1.1) ((fx 1 hjl (by decide)).trans (by rw [hppa]; rfl))
                cases ee
                rw [← Nat.add_assoc] at hc
                exact hc
              have x2 : wr.cell? ⟨g1, o1 + j * 7 + 2, none⟩ = some (.int .i64 pa.2.1.2) := by
                obtain ⟨_, _, ee, hc⟩ := R1.out wr HBX.out.bel (j * 7 + 2) (.int .i64 pa.2.1.2) ((fx 2 hjl (by decide)).trans (by rw [hppa]; rfl))
                cases ee
                rw [← Nat.add_assoc] at hc
                exact hc
              have x3 : wr.cell? ⟨g1, o1 + j * 7 + 3, none⟩ = some (.int .i64 pa.2.2.1.1) := by
                obtain ⟨_, _, ee, hc⟩ := R1.out wr HBX.out.bel (j * 7 + 3) (.int .i64 pa.2.2.1.1) ((fx 3 hjl (by decide)).trans (by rw [hppa]; rfl))
                cases ee
                rw [← Nat.add_assoc] at hc
                exact hc
              have x4 : wr.cell? ⟨g1, o1 + j * 7 + 4, none⟩ = some (.int .i64 pa.2.2.1.2) := by
                obtain ⟨_, _, ee, hc⟩ := R1.out wr HBX.out.bel (j * 7 + 4) (.int .i64 pa.2.2.1.2) ((fx 4 hjl (by decide)).trans (by rw [hppa]; rfl))
                cases ee
                rw [← Nat.add_assoc] at hc
                exact hc
              have x5 : wr.cell? ⟨g1, o1 + j * 7 + 5, none⟩ = some (.int .i64 pa.2.2.2.1) := by
                obtain ⟨_, _, ee, hc⟩ := R1.out wr HBX.out.bel (j * 7 + 5) (.int .i64 pa.2.2.2.1) ((fx 5 hjl (by decide)).trans (by rw [hppa]; rfl))
                cases ee
                rw [← Nat.add_assoc] at hc
                exact hc
              have x6 : wr.cell? ⟨g1, o1 + j * 7 + 6, none⟩ = some (.int .i64 pa.2.2.2.2) := by
                obtain ⟨_, _, ee, hc⟩ := R1.out wr HBX.out.bel (j * 7 + 6) (.int .i64 pa.2.2.2.2) ((fx 6 hjl (by decide)).trans (by rw [hppa]; rfl))
                cases ee
                rw [← Nat.add_assoc] at hc
                exact hc
              clear fx
              have fy := flatMap_get stp_len gb.2.2.1 j
              obtain ⟨pb, hppb⟩ : ∃ p, gb.2.2.1[j]'hjl2 = p := ⟨_, rfl⟩
              obtain ⟨g3, o3, ey, _⟩ := R3.out wr HBX.out.bel (j * 7 + 0) _ (fy 0 hjl2 (by decide))
              subst ey
              have y0 : wr.cell? ⟨g3, o3 + j * 7, none⟩ = some (.int .i64 pb.1) := by
                obtain ⟨_, _, ee, hc⟩ := R3.out wr HBX.out.bel (j * 7 + 0) (.int .i64 pb.1) ((fy 0 hjl2 (by decide)).trans (by rw [hppb]; rfl))
                cases ee
                rw [Nat.add_zero] at hc
                exact hc
              have y1 : wr.cell? ⟨g3, o3 + j * 7 + 1, none⟩ = some (.int .i64 pb.2.1.1) := by
                obtain ⟨_, _, ee, hc⟩ := R3.out wr HBX.out.bel (j * 7 + 1) (.int .i64 pb.2.1.1) ((fy 1 hjl2 (by decide)).trans (by rw [hppb]; rfl))
                cases ee
                rw [← Nat.add_assoc] at hc
                exact hc
              have y2 : wr.cell? ⟨g3, o3 + j * 7 + 2, none⟩ = some (.int .i64 pb.2.1.2) := by
                obtain ⟨_, _, ee, hc⟩ := R3.out wr HBX.out.bel (j * 7 + 2) (.int .i64 pb.2.1.2) ((fy 2 hjl2 (by decide)).trans (by rw [hppb]; rfl))
                cases ee
                rw [← Nat.add_assoc] at hc
                exact hc
              have y3 : wr.cell? ⟨g3, o3 + j * 7 + 3, none⟩ = some (.int .i64 pb.2.2.1.1) := by
                obtain ⟨_, _, ee, hc⟩ := R3.out wr HBX.out.bel (j * 7 + 3) (.int .i64 pb.2.2.1.1) ((fy 3 hjl2 (by decide)).trans (by rw [hppb]; rfl))
                cases ee
                rw [← Nat.add_assoc] at hc
                exact hc
              have y4 : wr.cell? ⟨g3, o3 + j * 7 + 4, none⟩ = some (.int .i64 pb.2.2.1.2) := by
                obtain ⟨_, _, ee, hc⟩ := R3.out wr HBX.out.bel (j * 7 + 4) (.int .i64 pb.2.2.1.2) ((fy 4 hjl2 (by decide)).trans (by rw [hppb]; rfl))
                cases ee
                rw [← Nat.add_assoc] at hc
                exact hc
              have y5 : wr.cell? ⟨g3, o3 + j * 7 + 5, none⟩ = some (.int .i64 pb.2.2.2.1) := by
                obtain ⟨_, _, ee, hc⟩ := R3.out wr HBX.out.bel (j * 7 + 5) (.int .i64 pb.2.2.2.1) ((fy 5 hjl2 (by decide)).trans (by rw [hppb]; rfl))
                cases ee
                rw [← Nat.add_assoc] at hc
                exact hc
              have y6 : wr.cell? ⟨g3, o3 + j * 7 + 6, none⟩ = some (.int .i64 pb.2.2.2.2) := by
                obtain ⟨_, _, ee, hc⟩ := R3.out wr HBX.out.bel (j * 7 + 6) (.int .i64 pb.2.2.2.2) ((fy 6 hjl2 (by decide)).trans (by rw [hppb]; rfl))
                cases ee
                rw [← Nat.add_assoc] at hc
                exact hc
              clear fy
              have HPA := Aside0.mk hppa
              have HPB := Aside0.mk hppb
              have hne : ∀ W : World, (binOp .neq 60 (.agg #[.int .i64 pa.1, .int .i64 pa.2.1.1, .int .i64 pa.2.1.2, .int .i64 pa.2.2.1.1, .int .i64 pa.2.2.1.2, .int .i64 pa.2.2.2.1, .int .i64 pa.2.2.2.2]) (.agg #[.int .i64 pb.1, .int .i64 pb.2.1.1, .int .i64 pb.2.1.2, .int .i64 pb.2.2.1.1, .int .i64 pb.2.2.1.2, .int .i64 pb.2.2.2.1, .int .i64 pb.2.2.2.2])).run Try.prog W = .ok (.bool (!(decide (pa = pb)))) W := fun W => neq60 W pa pb
              have HJ := Aside0.mk (And.intro hjl hjl2)
              by_cases hpp : pa = pb
              · rw [decide_eq_true hpp] at hne
                have HT2 : Aside0 (ga.2.2.1.take (j + 1) = gb.2.2.1.take (j + 1)) := ⟨by rw [List.take_add_one, List.take_add_one, HT.out, List.getElem?_eq_getElem hjl, List.getElem?_eq_getElem hjl2, hppa, hppb, hpp]⟩
                clear hppa hppb hpp
                go_wp2_with fail
                go_quiet (fail)
                have HB2 : Aside0 (Boxes w r ga gb _ _ _ _ (wr.drewN nq)) := ⟨⟨HBX.out.a, HBX.out.b, below_then HBX.out.bel HBX.out.bel.size (pw_below_drewN (Below.refl _ _) _)⟩⟩
                go_wp2_with fail
                exact ⟨⟨j + 1, by simp, HJ.out.1, HT2, HB2⟩, by have := HJ.out.1; simp [intOf]; omega⟩
              · rw [decide_eq_false hpp] at hne
                have HE : Aside0 (decide (ga = gb) = false) := ⟨decide_eq_false (fun e => hpp (by rw [← HPA.out, ← HPB.out]; subst e; rfl))⟩
                clear hppa hppb hpp
                go_wp2_with fail
                go_quiet (fail)
                go_wp2_with fail
                go_ret
                rw [HE.out]
                exact ⟨rfl, below_then HBX.out.bel HBX.out.bel.size (pw_below_drewN (Below.refl _ _) _)⟩
            · have t1 : decide ((j : Int) < (ga.2.2.1.length : Int)) = false := decide_eq_false (by omega)
              have t1n : decide (j < ga.2.2.1.length) = false := decide_eq_false hjl
              have HQ : Aside0 (ga.2.2.1 = gb.2.2.1) := ⟨by
                have := HT.out
                rw [List.take_of_length_le (by omega), List.take_of_length_le (by have := H.out.2.1; omega)] at this
                exact this⟩
              clear HT hj
              go_wp2_with fail
              have HQ1 := HQ
              clear HQ hjl t1 t1n k2 k3
              go_loopw [6] (fun v5 wr => ∃ j : Nat, v5 = .int .i64 (j : Int) ∧ j ≤ ga.2.2.2.length ∧ Aside0 (ga.2.2.2.take j = gb.2.2.2.take j) ∧ Aside0 (Boxes w r ga gb (.slice A1 ga.2.2.1.length c1) (.slice A2 ga.2.2.2.length c2) (.slice A3 gb.2.2.1.length c3) (.slice A4 gb.2.2.2.length c4) wr)) (fun v5 _ => ga.2.2.2.length - (intOf v5).toNat)
              case atStart => exact ⟨0, rfl, by omega, ⟨rfl⟩, HBX⟩
              case round =>
                clear HBX 
                obtain ⟨j, rfl, hj, HT, HBX⟩ := hrel
                have k2 : wr.cell? ⟨r, 3, none⟩ = some (.slice A2 ga.2.2.2.length c2) := (blk_cell HBX.out.a 3).trans rfl
                have k3 : wr.cell? ⟨r + 1, 3, none⟩ = some (.slice A4 gb.2.2.2.length c4) := (blk_cell HBX.out.b 3).trans rfl
                by_cases hjl : j < ga.2.2.2.length
                · have t1 : decide ((j : Int) < (ga.2.2.2.length : Int)) = true := decide_eq_true (by omega)
                  have t1n : decide (j < ga.2.2.2.length) = true := decide_eq_true hjl
                  have hjl2 : j < gb.2.2.2.length := by have := H.out.2.2; omega
                  have hq1 : (j < ga.2.2.2.length) = True := eq_true hjl
                  have hq2 : (j < gb.2.2.2.length) = True := eq_true hjl2
                  have fx := flatMap_get stm_len ga.2.2.2 j
                  obtain ⟨pa, hppa⟩ : ∃ p, ga.2.2.2[j]'hjl = p := ⟨_, rfl⟩
                  obtain ⟨g1, o1, ex, _⟩ := R2.out wr HBX.out.bel (j * 3 + 0) _ (fx 0 hjl (by decide))
                  subst ex
                  have x0 : wr.cell? ⟨g1, o1 + j * 3, none⟩ = some (.bool pa.1) := by
                    obtain ⟨_, _, ee, hc⟩ := R2.out wr HBX.out.bel (j * 3 + 0) (.bool pa.1) ((fx 0 hjl (by decide)).trans (by rw [hppa]; rfl))
                    cases ee
                    rw [Nat.add_zero] at hc
                    exact hc
                  have x1 : wr.cell? ⟨g1, o1 + j * 3 + 1, none⟩ = some (.int .i64 pa.2.1) := by
                    obtain ⟨_, _, ee, hc⟩ := R2.out wr HBX.out.bel (j * 3 + 1) (.int .i64 pa.2.1) ((fx 1 hjl (by decide)).trans (by rw [hppa]; rfl))
                    cases ee
                    rw [← Nat.add_assoc] at hc
                    exact hc
                  have x2 : wr.cell? ⟨g1, o1 + j * 3 + 2, none⟩ = some (.int .i64 pa.2.2) := by
                    obtain ⟨_, _, ee, hc⟩ := R2.out wr HBX.out.bel (j * 3 + 2) (.int .i64 pa.2.2) ((fx 2 hjl (by decide)).trans (by rw [hppa]; rfl))
                    cases ee
                    rw [← Nat.add_assoc] at hc
                    exact hc
                  clear fx
                  have fy := flatMap_get stm_len gb.2.2.2 j
                  obtain ⟨pb, hppb⟩ : ∃ p, gb.2.2.2[j]'hjl2 = p := ⟨_, rfl⟩
                  obtain ⟨g3, o3, ey, _⟩ := R4.out wr HBX.out.bel (j * 3 + 0) _ (fy 0 hjl2 (by decide))
                  subst ey
                  have y0 : wr.cell? ⟨g3, o3 + j * 3, none⟩ = some (.bool pb.1) := by
                    obtain ⟨_, _, ee, hc⟩ := R4.out wr HBX.out.bel (j * 3 + 0) (.bool pb.1) ((fy 0 hjl2 (by decide)).trans (by rw [hppb]; rfl))
                    cases ee
                    rw [Nat.add_zero] at hc
                    exact hc
                  have y1 : wr.cell? ⟨g3, o3 + j * 3 + 1, none⟩ = some (.int .i64 pb.2.1) := by
                    obtain ⟨_, _, ee, hc⟩ := R4.out wr HBX.out.bel (j * 3 + 1) (.int .i64 pb.2.1) ((fy 1 hjl2 (by decide)).trans (by rw [hppb]; rfl))
                    cases ee
                    rw [← Nat.add_assoc] at hc
                    exact hc
                  have y2 : wr.cell? ⟨g3, o3 + j * 3 + 2, none⟩ = some (.int .i64 pb.2.2) := by
                    obtain ⟨_, _, ee, hc⟩ := R4.out wr HBX.out.bel (j * 3 + 2) (.int .i64 pb.2.2) ((fy 2 hjl2 (by decide)).trans (by rw [hppb]; rfl))
                    cases ee
                    rw [← Nat.add_assoc] at hc
                    exact hc
                  clear fy
                  have HPA := Aside0.mk hppa
                  have HPB := Aside0.mk hppb
                  have hne : ∀ W : World, (binOp .neq 69 (.agg #[.bool pa.1, .int .i64 pa.2.1, .int .i64 pa.2.2]) (.agg #[.bool pb.1, .int .i64 pb.2.1, .int .i64 pb.2.2])).run Try.prog W = .ok (.bool (!(decide (pa = pb)))) W := fun W => neq69 W pa pb
                  have HJ := Aside0.mk (And.intro hjl hjl2)
                  by_cases hpp : pa = pb
                  · rw [decide_eq_true hpp] at hne
                    have HT2 : Aside0 (ga.2.2.2.take (j + 1) = gb.2.2.2.take (j + 1)) := ⟨by rw [List.take_add_one, List.take_add_one, HT.out, List.getElem?_eq_getElem hjl, List.getElem?_eq_getElem hjl2, hppa, hppb, hpp]⟩
                    clear hppa hppb hpp
                    go_wp2_with fail
                    go_quiet (fail)
                    have HB2 : Aside0 (Boxes w r ga gb _ _ _ _ (wr.drewN nq)) := ⟨⟨HBX.out.a, HBX.out.b, below_then HBX.out.bel HBX.out.bel.size (pw_below_drewN (Below.refl _ _) _)⟩⟩
                    go_wp2_with fail
                    exact ⟨⟨j + 1, by simp, HJ.out.1, HT2, HB2⟩, by have := HJ.out.1; simp [intOf]; omega⟩
                  · rw [decide_eq_false hpp] at hne
                    have HE : Aside0 (decide (ga = gb) = false) := ⟨decide_eq_false (fun e => hpp (by rw [← HPA.out, ← HPB.out]; subst e; rfl))⟩
                    clear hppa hppb hpp
                    go_wp2_with fail
                    go_quiet (fail)
                    go_wp2_with fail
                    go_ret
                    rw [HE.out]
                    exact ⟨rfl, below_then HBX.out.bel HBX.out.bel.size (pw_below_drewN (Below.refl _ _) _)⟩
                · have t1 : decide ((j : Int) < (ga.2.2.2.length : Int)) = false := decide_eq_false (by omega)
                  have t1n : decide (j < ga.2.2.2.length) = false := decide_eq_false hjl
                  have HQ : Aside0 (ga.2.2.2 = gb.2.2.2) := ⟨by
                    have := HT.out
                    rw [List.take_of_length_le (by omega), List.take_of_length_le (by have := H.out.2.2; omega)] at this
                    exact this⟩
                  clear HT hj
                  go_wp2_with fail
                  go_ret
                  have HE : Aside0 (decide (ga = gb) = true) := ⟨decide_eq_true (by
                    obtain ⟨a1, a2, a3, a4⟩ := ga
                    obtain ⟨b1, b2, b3, b4⟩ := gb
                    have h1 := H.out.1.1
                    have h2 := H.out.1.2
                    have h3 := HQ1.out
                    have h4 := HQ.out
                    simp only at h1 h2 h3 h4
                    rw [h1, h2, h3, h4])⟩
                  rw [HE.out]
                  exact ⟨rfl, HBX.out.bel⟩
        · have t4 : ((ga.2.2.2.length : Int) != (gb.2.2.2.length : Int)) = true := by simp; omega
          have HE : Aside0 (decide (ga = gb) = false) := ⟨decide_eq_false (fun e => h4 (by rw [e]))⟩
          rw [HE.out]
          clear h1 h2 h3 h4
          go_enter Try.func20, Try.ntmps20
          go_wp2_with fail
          go_ret
          exact ⟨rfl, below_alloc (below_alloc (Below.refl _ _) _) _⟩
      · have t3 : ((ga.2.2.1.length : Int) != (gb.2.2.1.length : Int)) = true := by simp; omega
        have HE : Aside0 (decide (ga = gb) = false) := ⟨decide_eq_false (fun e => h3 (by rw [e]))⟩
        rw [HE.out]
        clear h1 h2 h3
        go_enter Try.func20, Try.ntmps20
        go_wp2_with fail
        go_ret
        exact ⟨rfl, below_alloc (below_alloc (Below.refl _ _) _) _⟩
    · have t2 : (ga.2.1 != gb.2.1) = true := by simp [h2]
      have HE : Aside0 (decide (ga = gb) = false) := ⟨decide_eq_false (fun e => h2 (by rw [e]))⟩
      rw [HE.out]
      clear h1 h2
      go_enter Try.func20, Try.ntmps20
      go_wp2_with fail
      go_ret
      exact ⟨rfl, below_alloc (below_alloc (Below.refl _ _) _) _⟩
  · have t1 : (ga.1 != gb.1) = true := by simp [h1]
    have HE : Aside0 (decide (ga = gb) = false) := ⟨decide_eq_false (fun e => h1 (by rw [e]))⟩
    rw [HE.out]
    clear h1
    go_enter Try.func20, Try.ntmps20
    go_wp2_with fail
    go_ret
    exact ⟨rfl, below_alloc (below_alloc (Below.refl _ _) _) _⟩
end Go.Proofs.Ytimnohaalccdkaa.G33p
