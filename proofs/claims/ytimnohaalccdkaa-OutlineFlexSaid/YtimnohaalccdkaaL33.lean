/- Numbers as octets (chapter 33): Number of the program and of the reference, and what is read of them. -/
import Derived.Test.YtimnohaalccdkaaN33
namespace Go.Proofs.Ytimnohaalccdkaa.L33
open Go.Proofs.Ytimnohaalccdkaa Go.Proofs.Ytimnohaalccdkaa.K33 Go.Proofs.Ytimnohaalccdkaa.N33 Go.Proofs.Ytimnohaalccdkaa.P33a
open Go.RowKit Go.Proofs.YtimnohaalccdkaaW.PrintWords Go.Proofs.YtimnohaalccdkaaW.PrintLast Go.Proofs.YtimnohaalccdkaaW.PrintMore
set_option linter.unusedVariables false
set_option linter.unusedSimpArgs false
set_option maxRecDepth 100000
/-- The octets of a number. -/
def numB (n : Int) : List Int :=
  if -107 ≤ n ∧ n ≤ 107 then [n + 139]
  else if 108 ≤ n ∧ n ≤ 1131 then [247 + (n - 108) / 256, (n - 108) % 256]
  else if -1131 ≤ n ∧ n ≤ -108 then [251 + (-n - 108) / 256, (-n - 108) % 256]
  else [255, n / 16777216 % 256, n / 65536 % 256, n / 256 % 256, n % 256]
theorem numB_oct (n : Int) : Oct (numB n) := by
  unfold numB
  split
  · intro b hb; simp at hb; omega
  · split
    · intro b hb; simp at hb; omega
    · split
      · intro b hb; simp at hb; omega
      · intro b hb; simp at hb; omega
theorem numB_len (n : Int) : 0 < (numB n).length ∧ (numB n).length ≤ 5 := by
  unfold numB
  split
  · simp
  · split
    · simp
    · split <;> simp
theorem readN_numB {n : Int} (h : -2147483648 ≤ n ∧ n ≤ 2147483647) (r : List Int) : readN (numB n ++ r) = some (n, r) := by
  unfold numB
  split
  · rw [List.singleton_append]; unfold readN; simp only []; rw [ if_neg (by omega), if_pos (by omega)]
    congr 2; omega
  · split
    · rw [List.cons_append]; unfold readN; simp only []; rw [ if_neg (by omega), if_neg (by omega), if_pos (by omega)]
      simp only [List.cons_append, List.nil_append]
      congr 2; omega
    · split
      · rw [List.cons_append]; unfold readN; simp only []; rw [ if_neg (by omega), if_neg (by omega), if_neg (by omega), if_pos (by omega)]
        simp only [List.cons_append, List.nil_append]
        congr 2; omega
      · rw [List.cons_append]; unfold readN; simp only []; rw [ if_neg (by omega), if_neg (by omega), if_neg (by omega), if_neg (by omega)]
        simp only [List.cons_append, List.nil_append]
        congr 2
        unfold sgn32
        split <;> omega
theorem num_out {n : Int} (h : n < -2147483648 ∨ 2147483647 < n) : outline_Number.f 4 n = some (⟨#[]⟩, 2) := by
  unfold outline_Number.f
  by_cases h1 : n < -2147483648
  · rw [if_pos h1]; simp only [outline_Number.j0, if_true]
  · rw [if_neg h1]; simp only [outline_Number.j0, gt_iff_lt, show 2147483647 < n by omega, decide_true, if_true]
theorem num_eq {n : Int} (h : -2147483648 ≤ n ∧ n ≤ 2147483647) : outline_Number.f 4 n = some (strOfNums (numB n), 0) := by
  unfold outline_Number.f numB
  rw [if_neg (by omega)]
  simp only [outline_Number.j0, gt_iff_lt, show ¬ 2147483647 < n by omega, decide_false, Bool.false_eq_true, if_false]
  by_cases c1 : -107 ≤ n ∧ n ≤ 107
  · rw [if_pos c1, if_pos (by omega)]
    simp only [outline_Number.j1, c1.2, decide_true, if_true]
    rw [wid (by omega) (by omega), Int.emod_eq_of_lt (by omega) (by omega)]
  · rw [if_neg c1]
    have e1 : (if n ≥ -107 then outline_Number.j1 3 n (decide (n ≤ 107)) else outline_Number.j1 3 n false) = outline_Number.j1 3 n false := by
      by_cases h2 : n ≥ -107
      · rw [if_pos h2, decide_eq_false (by omega)]
      · rw [if_neg h2]
    rw [e1]
    simp only [outline_Number.j1, Bool.false_eq_true, if_false]
    by_cases c2 : 108 ≤ n ∧ n ≤ 1131
    · rw [if_pos c2, if_pos (by omega)]
      simp only [outline_Number.j2, c2.2, decide_true, if_true]
      rw [wid (x := n - 108) (by omega) (by omega), wid (by omega) (by omega), Int.emod_eq_of_lt (a := 247 + (n - 108) / 256) (by omega) (by omega)]
    · rw [if_neg c2]
      have e2 : (if n ≥ 108 then outline_Number.j2 2 n (decide (n ≤ 1131)) else outline_Number.j2 2 n false) = outline_Number.j2 2 n false := by
        by_cases h2 : n ≥ 108
        · rw [if_pos h2, decide_eq_false (by omega)]
        · rw [if_neg h2]
      rw [e2]
      simp only [outline_Number.j2, Bool.false_eq_true, if_false]
      by_cases c3 : -1131 ≤ n ∧ n ≤ -108
      · rw [if_pos c3, if_pos (by omega), if_pos (by omega)]
        rw [wid (x := -n) (by omega) (by omega), wid (x := -n - 108) (by omega) (by omega), wid (by omega) (by omega), Int.emod_eq_of_lt (a := 251 + (-n - 108) / 256) (by omega) (by omega)]
      · rw [if_neg c3]
        by_cases h3 : n ≥ -1131
        · rw [if_pos h3, if_neg (by omega)]
        · rw [if_neg h3]
theorem ref_num_eq {n : Int} (h : -2147483648 ≤ n ∧ n ≤ 2147483647) : chaseref33_Number.f 4 n = some (strOfNums (numB n)) := by
  unfold chaseref33_Number.f numB
  by_cases c1 : -107 ≤ n ∧ n ≤ 107
  · rw [if_pos c1, if_pos (by omega)]
    simp only [chaseref33_Number.j0, c1.2, decide_true, if_true]
    rw [wid (by omega) (by omega), Int.emod_eq_of_lt (by omega) (by omega)]
  · rw [if_neg c1]
    have e1 : (if n ≥ -107 then chaseref33_Number.j0 4 n (decide (n ≤ 107)) else chaseref33_Number.j0 4 n false) = chaseref33_Number.j0 4 n false := by
      by_cases h2 : n ≥ -107
      · rw [if_pos h2, decide_eq_false (by omega)]
      · rw [if_neg h2]
    rw [e1]
    simp only [chaseref33_Number.j0, Bool.false_eq_true, if_false]
    by_cases c2 : 108 ≤ n ∧ n ≤ 1131
    · rw [if_pos c2, if_pos (by omega)]
      simp only [chaseref33_Number.j1, c2.2, decide_true, if_true]
      have t1 : Int.tdiv (n - 108) 256 = (n - 108) / 256 := Int.tdiv_eq_ediv_of_nonneg (by omega)
      have t2 : Int.tmod (n - 108) 256 = (n - 108) % 256 := Int.tmod_eq_emod_of_nonneg (by omega)
      rw [wid (x := n - 108) (by omega) (by omega), t1, t2, wid (x := (n - 108) / 256) (by omega) (by omega), wid (by omega) (by omega), Int.emod_eq_of_lt (a := 247 + (n - 108) / 256) (by omega) (by omega), Int.emod_emod]
    · rw [if_neg c2]
      have e2 : (if n ≥ 108 then chaseref33_Number.j1 3 n (decide (n ≤ 1131)) else chaseref33_Number.j1 3 n false) = chaseref33_Number.j1 3 n false := by
        by_cases h2 : n ≥ 108
        · rw [if_pos h2, decide_eq_false (by omega)]
        · rw [if_neg h2]
      rw [e2]
      simp only [chaseref33_Number.j1, Bool.false_eq_true, if_false]
      by_cases c3 : -1131 ≤ n ∧ n ≤ -108
      · rw [if_pos c3, if_pos (by omega)]
        simp only [chaseref33_Number.j2, c3.2, decide_true, if_true]
        have t1 : Int.tdiv (-n - 108) 256 = (-n - 108) / 256 := Int.tdiv_eq_ediv_of_nonneg (by omega)
        have t2 : Int.tmod (-n - 108) 256 = (-n - 108) % 256 := Int.tmod_eq_emod_of_nonneg (by omega)
        rw [wid (x := -n) (by omega) (by omega), wid (x := -n - 108) (by omega) (by omega), t1, t2, wid (x := (-n - 108) / 256) (by omega) (by omega), wid (by omega) (by omega), Int.emod_eq_of_lt (a := 251 + (-n - 108) / 256) (by omega) (by omega), Int.emod_emod]
      · rw [if_neg c3]
        have e3 : (if n ≥ -1131 then chaseref33_Number.j2 2 n (decide (n ≤ -108)) else chaseref33_Number.j2 2 n false) = chaseref33_Number.j2 2 n false := by
          by_cases h2 : n ≥ -1131
          · rw [if_pos h2, decide_eq_false (by omega)]
          · rw [if_neg h2]
        rw [e3]
        simp only [chaseref33_Number.j2, Bool.false_eq_true, if_false]
        by_cases h4 : n < 0
        · rw [if_pos h4, wid (x := n + 4294967296) (by omega) (by omega)]
          have t1 : ∀ d : Int, Int.tdiv (n + 4294967296) d = (n + 4294967296) / d := fun d => Int.tdiv_eq_ediv_of_nonneg (by omega)
          have u : ∀ d : Int, (0 < d ∧ d ≤ 16777216) → 0 ≤ (n + 4294967296) / d ∧ (n + 4294967296) / d ≤ 4294967296 := fun d hd => ⟨Int.ediv_nonneg (by omega) (by omega), Int.le_trans (Int.ediv_le_self _ (by omega)) (by omega)⟩
          rw [t1, t1, t1]
          have u1 := u 16777216 (by omega)
          have u2 := u 65536 (by omega)
          have u3 := u 256 (by omega)
          rw [wid (x := (n + 4294967296) / 16777216) (by omega) (by omega), wid (x := (n + 4294967296) / 65536) (by omega) (by omega), wid (x := (n + 4294967296) / 256) (by omega) (by omega)]
          rw [Int.tmod_eq_emod_of_nonneg u2.1, Int.tmod_eq_emod_of_nonneg u3.1, Int.tmod_eq_emod_of_nonneg (by omega), Int.emod_emod, Int.emod_emod, Int.emod_emod]
          congr 2
          simp only [List.cons.injEq, and_true, true_and]
          refine ⟨?_, ?_, ?_, ?_⟩ <;> omega
        · rw [if_neg h4]
          have t1 : ∀ d : Int, Int.tdiv n d = n / d := fun d => Int.tdiv_eq_ediv_of_nonneg (by omega)
          have u : ∀ d : Int, (0 < d ∧ d ≤ 16777216) → 0 ≤ n / d ∧ n / d ≤ 4294967296 := fun d hd => ⟨Int.ediv_nonneg (by omega) (by omega), Int.le_trans (Int.ediv_le_self _ (by omega)) (by omega)⟩
          rw [t1, t1, t1]
          have u1 := u 16777216 (by omega)
          have u2 := u 65536 (by omega)
          have u3 := u 256 (by omega)
          rw [wid (x := n / 16777216) (by omega) (by omega), wid (x := n / 65536) (by omega) (by omega), wid (x := n / 256) (by omega) (by omega)]
          rw [Int.tmod_eq_emod_of_nonneg u2.1, Int.tmod_eq_emod_of_nonneg u3.1, Int.tmod_eq_emod_of_nonneg (by omega), Int.emod_emod, Int.emod_emod, Int.emod_emod]
/-- Number of the program. -/
theorem num_call {n : Int} (h : -2147483648 ≤ n ∧ n ≤ 2147483647) (w : World) : Calls Try.prog 13 #[.int .i64 n] w fun e w' => e = .returned (.tuple #[.string (strOfNums (numB n)), .int .i64 0]) ∧ Below w.heap.size w w' :=
  outline_Number.calls 4 n _ _ w (num_eq h)
theorem num_call_out {n : Int} (h : n < -2147483648 ∨ 2147483647 < n) (w : World) : Calls Try.prog 13 #[.int .i64 n] w fun e w' => e = .returned (.tuple #[.string ⟨#[]⟩, .int .i64 2]) ∧ Below w.heap.size w w' :=
  outline_Number.calls 4 n _ _ w (num_out h)
theorem ref_num_call {n : Int} (h : -2147483648 ≤ n ∧ n ≤ 2147483647) (w : World) : Calls Try.prog 15 #[.int .i64 n] w fun e w' => e = .returned (.string (strOfNums (numB n))) ∧ Below w.heap.size w w' :=
  chaseref33_Number.calls 4 n _ w (ref_num_eq h)
end Go.Proofs.Ytimnohaalccdkaa.L33
