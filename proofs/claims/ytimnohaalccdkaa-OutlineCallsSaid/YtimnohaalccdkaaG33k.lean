/- path of the machine (chapter 33): function 73. -/
import Derived.Test.YtimnohaalccdkaaG33j
import Derived.Deep.QuietTactic
import Derived.BigQuiet
namespace Go.Proofs.Ytimnohaalccdkaa.G33k
open Go.Proofs.Ytimnohaalccdkaa Go.Proofs.Ytimnohaalccdkaa.K33 Go.Proofs.Ytimnohaalccdkaa.M33 Go.Proofs.Ytimnohaalccdkaa.G33a Go.Proofs.Ytimnohaalccdkaa.G33b Go.Proofs.Ytimnohaalccdkaa.G33c Go.Proofs.Ytimnohaalccdkaa.G33d Go.Proofs.Ytimnohaalccdkaa.G33r Go.Proofs.Ytimnohaalccdkaa.G33h Go.Proofs.Ytimnohaalccdkaa.O33 Go.Proofs.Ytimnohaalccdkaa.N33 Go.Proofs.Ytimnohaalccdkaa.G33i Go.Proofs.Ytimnohaalccdkaa.G33j Go.Proofs.Ytimnohaalccdkaa.P33a
open Go.RowKit Go.Proofs.YtimnohaalccdkaaW.PrintWords Go.Proofs.YtimnohaalccdkaaW.PrintLast Go.Proofs.YtimnohaalccdkaaW.PrintMore
set_option linter.unusedVariables false
set_option linter.unusedSimpArgs false
set_option maxRecDepth 100000
theorem op_func {op : Int} {n : Nat} (hn : need op = some n) : ∃ fn, Try.prog.funcs[opFn op]? = some fn ∧ (fn.name == "runtime.NumGoroutine") = false ∧ fn.body.isSome = true := by
  have hk : op = 1 ∨ op = 3 ∨ op = 4 ∨ op = 5 ∨ op = 6 ∨ op = 7 ∨ op = 8 ∨ op = 9 ∨ op = 13 ∨ op = 14 ∨ op = 21 ∨ op = 22 ∨ op = 30 ∨ op = 31 ∨ op = 256 ∨ op = 257 ∨ op = 258 ∨ op = 289 := by
    unfold need at hn
    repeat' split at hn
    all_goals first | omega | cases hn
  rcases hk with rfl | rfl | rfl | rfl | rfl | rfl | rfl | rfl | rfl | rfl | rfl | rfl | rfl | rfl | rfl | rfl | rfl | rfl
  · exact ⟨_, Try.func80, rfl, rfl⟩
  · exact ⟨_, Try.func81, rfl, rfl⟩
  · exact ⟨_, Try.func82, rfl, rfl⟩
  · exact ⟨_, Try.func83, rfl, rfl⟩
  · exact ⟨_, Try.func84, rfl, rfl⟩
  · exact ⟨_, Try.func85, rfl, rfl⟩
  · exact ⟨_, Try.func86, rfl, rfl⟩
  · exact ⟨_, Try.func87, rfl, rfl⟩
  · exact ⟨_, Try.func88, rfl, rfl⟩
  · exact ⟨_, Try.func89, rfl, rfl⟩
  · exact ⟨_, Try.func90, rfl, rfl⟩
  · exact ⟨_, Try.func91, rfl, rfl⟩
  · exact ⟨_, Try.func92, rfl, rfl⟩
  · exact ⟨_, Try.func93, rfl, rfl⟩
  · exact ⟨_, Try.func94, rfl, rfl⟩
  · exact ⟨_, Try.func81, rfl, rfl⟩
  · exact ⟨_, Try.func80, rfl, rfl⟩
  · exact ⟨_, Try.func95, rfl, rfl⟩
set_option maxHeartbeats 4000000 in
theorem path_call {W0 w : World} {b : Nat} {sb : Value} {m : M} (h : Mach W0 w b sb m) {op : Int} (h0 : 0 ≤ op) (h1 : op ≤ 511) {n : Nat} (hn : need op = some n) :
    Calls Try.prog 73 #[.pointer (some ⟨b, 0, none⟩), .int .i64 op] w (Did W0 b sb (pathM m op)) := by
  have HM := Aside0.mk h
  have HN := Aside0.mk hn
  have HR := Aside0.mk (And.intro h0 h1)
  clear h hn h0 h1
  go_enter Try.func73, Try.ntmps73
  go_wp2_with fail
  refine (operators_call _).mono ?_
  rintro e w1 ⟨g, rfl, hb1, hg, hmap⟩
  have hlk := look_some hmap (by have := HR.out.1; omega) (by have := HR.out.2; omega) HN.out false
  simp only [Bool.false_eq_true, if_false, opV] at hlk
  have hA : (w1.alloc (.cells #[.int .i64 (n : Int), .nilFunc] 146)).heap[w1.heap.size]? = some (.cells #[.int .i64 (n : Int), .nilFunc] 146 (0, 0)) := blk_new _ _
  have k1 : (w1.alloc (.cells #[.int .i64 (n : Int), .nilFunc] 146)).cell? ⟨w1.heap.size, 1, none⟩ = some .nilFunc := (blk_cell hA 1).trans rfl
  have f1 : (w1.alloc (.cells #[.int .i64 (n : Int), .nilFunc] 146)).frozen? ⟨w1.heap.size, 1, none⟩ = false := blk_frozen hA 1
  have HB1 := Aside0.mk hb1
  clear hmap hb1 hg hA
  go_wp2_with fail
  have hM2 := HM.out.below (below_then HB1.out HB1.out.size (Below.alloc (Below.refl _ w1) (Nat.le_refl _) (.cells #[.int .i64 (n : Int), .func (.func (opFn op)) #[] #[]] 146)))
  have hL : (w1.alloc (.cells #[.int .i64 (n : Int), .func (.func (opFn op)) #[] #[]] 146)).heap[w1.heap.size]? = some (.cells #[.int .i64 (n : Int), .func (.func (opFn op)) #[] #[]] 146 (0, 0)) := blk_new _ _
  clear hlk k1 f1 HB1
  obtain ⟨q, hq⟩ : ∃ q, w1.heap.size = q := ⟨_, rfl⟩
  obtain ⟨w2, hw2⟩ : ∃ w2, w1.alloc (.cells #[.int .i64 (n : Int), .func (.func (opFn op)) #[] #[]] 146) = w2 := ⟨_, rfl⟩
  rw [hw2] at hM2 hL ⊢
  rw [hq] at hL ⊢
  clear hq hw2 HM
  have HM := Aside0.mk hM2
  have HLL := Aside0.mk (Mach.left hM2)
  have HLB := Aside0.mk hL
  have d0 : w2.cell? ⟨q, 0, none⟩ = some (.int .i64 (n : Int)) := (blk_cell hL 0).trans rfl
  obtain ⟨hB, hb, vs, vt, vk, Ar, cr, vp, hv⟩ := hM2
  have hqb : q ≠ b := blk_ne hL hv.blk (by decide)
  obtain ⟨Ak, ck, rfl⟩ := own_slice hv.stack
  have c8 : w2.cell? ⟨b, 8, none⟩ = some (.slice Ak m.stack.length ck) := hv.cell 8
  have c10 : w2.cell? ⟨b, 10, none⟩ = some (.bool m.begun) := hv.cell 10
  have c11 : w2.cell? ⟨b, 11, none⟩ = some (.bool m.flex) := hv.cell 11
  have hok := hv.ok
  have HOK := Aside0.mk hok
  have HQB := Aside0.mk hqb
  clear hB hb hv hL hqb hok
  by_cases hs : m.stack.length = n
  · have t1 : ((m.stack.length : Int) != (n : Int)) = false := by rw [hs]; simp
    have HS := Aside0.mk hs
    obtain ⟨bg, hbg⟩ : ∃ bg, m.begun = bg := ⟨_, rfl⟩
    obtain ⟨b13, h13⟩ : ∃ b13, (op == 13) = b13 := ⟨_, rfl⟩
    rw [hbg] at c10
    by_cases hbb : bg = b13
    · have HE : Aside0 (pathM m op = .error 39) := ⟨by unfold pathM; rw [if_pos (.inr (.inl (by rw [hbg, hbb, ← h13]; by_cases h : op = 13 <;> simp [h])))]⟩
      have t2 : (bg == b13) = true := by rw [hbb]; simp
      clear hs hbg
      subst hbb
      go_quiet (fail)
      go_wp2_with fail
      go_ret
      rw [HE.out]
      exact ⟨rfl, .inr rfl, HLL.out.below (pw_below_drewN (Below.refl _ _) _)⟩
    · have t2 : (bg == b13) = false := by simpa using hbb
      cases hf : m.flex with
      | true =>
        rw [hf] at c11
        obtain ⟨mv, hmv⟩ : ∃ mv, isMove op = mv := ⟨_, rfl⟩
        have HC : Aside0 (∀ W : World, Calls Try.prog 100 #[.int .i64 op] W fun e w' => e = .returned (.bool mv) ∧ w' = W) := ⟨fun W => by rw [← hmv]; exact moves_call op W⟩
        cases mv with
        | false =>
          have HE : Aside0 (pathM m op = .error 39) := ⟨by unfold pathM; rw [if_pos (.inr (.inr ⟨hf, hmv⟩))]⟩
          clear hs hbg hbb hf hmv
          go_quiet ((go_at_call 100; exact Calls.quiet_of_same (HC.out _)))
          go_wp2_with fail
          go_ret
          rw [HE.out]
          exact ⟨rfl, .inr rfl, HLL.out.below (pw_below_drewN (Below.refl _ _) _)⟩
        | true =>
          have HE : Aside0 (pathM m op = doOp op { m with stack := [] } m.stack) := ⟨by unfold pathM; rw [if_neg (by rintro (h | h | ⟨h, h'⟩); exact h (by rw [HN.out, hs]); (have : (op == 13) = decide (op = 13) := rfl); rw [hbg, ← this, h13] at h; exact hbb h; rw [hmv] at h'; cases h')]⟩
          clear hs hbb hbg hf hmv
          go_quiet ((go_at_call 100; exact Calls.quiet_of_same (HC.out _)))
          clear HC
          have HM3 := Aside0.mk (HM.out.below (pw_below_drewN (Below.refl _ _) nq))
          have hL3 : (w2.drewN nq).heap[q]? = some (.cells #[.int .i64 (n : Int), .func (.func (opFn op)) #[] #[]] 146 (0, 0)) := HLB.out
          obtain ⟨w3, hw3⟩ : ∃ w3, w2.drewN nq = w3 := ⟨_, rfl⟩
          rw [hw3] at HM3 hL3 ⊢
          have e0 : w3.cell? ⟨q, 0, none⟩ = some (.int .i64 (n : Int)) := (blk_cell hL3 0).trans rfl
          have h24 := HOK.out.stack
          have HT := Aside0.mk (take_but HM3.out n (by have := HS.out; omega))
          have HL3 := Aside0.mk hL3
          clear hL3 h24 hw3 d0 c8 c10 c11 t1 t2 h13
          go_wp2_with fail
          refine HT.out.mono ?_
          rintro e w4 ⟨ht, hbt⟩
          unfold Took at ht
          have hS := HS.out
          rw [if_neg (by omega), show m.stack.length - n = 0 by omega] at ht
          obtain ⟨A, c, rfl, hc, hA, hml, _, _⟩ := ht
          have hml : MachL W0 w4 b sb { m with stack := [] } A m.stack := hml
          have l1 : w4.cell? ⟨q, 1, none⟩ = some (.func (.func (opFn op)) #[] #[]) := (blk_cell ((hbt.2.2.2.2 q (blk_lt HL3.out) HQB.out).trans HL3.out) 1).trans rfl
          have HC := Aside0.mk (do_call HN.out HS.out hml c hc HOK.out.small)
          obtain ⟨fn, hf1, hf2, hf3⟩ := op_func HN.out
          have he := enters_ hf1 hf2 hf3 #[.pointer (some ⟨b, 0, none⟩), .slice A n c] w4
          clear hml hS hc hA hbt e0 HT HM3 hf1 hf2 hf3
          go_wp2_with fail
          refine HC.out.mono ?_
          intro e w5 hd
          obtain ⟨rfl, hfin⟩ := did_split hd
          have HF := Aside0.mk hfin
          clear hd hfin he
          go_wp2_with fail
          go_ret
          rw [HE.out]
          exact did_join HF.out
      | false =>
        rw [hf] at c11
        have HE : Aside0 (pathM m op = doOp op { m with stack := [] } m.stack) := ⟨by unfold pathM; rw [if_neg (by rintro (h | h | ⟨h, h'⟩); exact h (by rw [HN.out, hs]); (have : (op == 13) = decide (op = 13) := rfl); rw [hbg, ← this, h13] at h; exact hbb h; rw [hf] at h; cases h)]⟩
        clear hs hbb hbg hf
        go_quiet (fail)
        have HM3 := Aside0.mk (HM.out.below (pw_below_drewN (Below.refl _ _) nq))
        have hL3 : (w2.drewN nq).heap[q]? = some (.cells #[.int .i64 (n : Int), .func (.func (opFn op)) #[] #[]] 146 (0, 0)) := HLB.out
        obtain ⟨w3, hw3⟩ : ∃ w3, w2.drewN nq = w3 := ⟨_, rfl⟩
        rw [hw3] at HM3 hL3 ⊢
        have e0 : w3.cell? ⟨q, 0, none⟩ = some (.int .i64 (n : Int)) := (blk_cell hL3 0).trans rfl
        have h24 := HOK.out.stack
        have HT := Aside0.mk (take_but HM3.out n (by have := HS.out; omega))
        have HL3 := Aside0.mk hL3
        clear hL3 h24 hw3 d0 c8 c10 c11 t1 t2 h13
        go_wp2_with fail
        refine HT.out.mono ?_
        rintro e w4 ⟨ht, hbt⟩
        unfold Took at ht
        have hS := HS.out
        rw [if_neg (by omega), show m.stack.length - n = 0 by omega] at ht
        obtain ⟨A, c, rfl, hc, hA, hml, _, _⟩ := ht
        have hml : MachL W0 w4 b sb { m with stack := [] } A m.stack := hml
        have l1 : w4.cell? ⟨q, 1, none⟩ = some (.func (.func (opFn op)) #[] #[]) := (blk_cell ((hbt.2.2.2.2 q (blk_lt HL3.out) HQB.out).trans HL3.out) 1).trans rfl
        have HC := Aside0.mk (do_call HN.out HS.out hml c hc HOK.out.small)
        obtain ⟨fn, hf1, hf2, hf3⟩ := op_func HN.out
        have he := enters_ hf1 hf2 hf3 #[.pointer (some ⟨b, 0, none⟩), .slice A n c] w4
        clear hml hS hc hA hbt e0 HT HM3 hf1 hf2 hf3
        go_wp2_with fail
        refine HC.out.mono ?_
        intro e w5 hd
        obtain ⟨rfl, hfin⟩ := did_split hd
        have HF := Aside0.mk hfin
        clear hd hfin he
        go_wp2_with fail
        go_ret
        rw [HE.out]
        exact did_join HF.out
  · have t1 : ((m.stack.length : Int) != (n : Int)) = true := by simp; omega
    have HE : Aside0 (pathM m op = .error 39) := ⟨by unfold pathM; rw [if_pos (.inl (by rw [HN.out]; intro e; injection e with e; exact hs e))]⟩
    clear hs
    go_quiet (fail)
    go_wp2_with fail
    go_ret
    rw [HE.out]
    exact ⟨rfl, .inr rfl, HLL.out.below (pw_below_drewN (Below.refl _ _) _)⟩
end Go.Proofs.Ytimnohaalccdkaa.G33k
