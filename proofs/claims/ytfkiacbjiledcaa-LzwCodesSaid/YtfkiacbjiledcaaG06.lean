/- The counter of codes and the reader of codes (chapter 06). -/
import Derived.Test.YtfkiacbjiledcaaProg
import Derived.Test.YtfkiacbjiledcaaK06
import Derived.WalkSpells
import Derived.RangeFuncNested
import Derived.RangeFuncBound
import Derived.RangeFuncCalls
import Derived.RangeFuncLeaves
import Derived.WalkKit
import Derived.KernelRfl
import Derived.Deep.LoopGhost
import Derived.Deep.QuietTactic
import Derived.BigQuiet
import Derived.BigRegion
import Derived.Deep.DeepCutAuto
import Derived.Test.YtfkiacbjiledcaaWWords
import Derived.Test.YtfkiacbjiledcaaWLast
import Derived.Test.YtfkiacbjiledcaaWMore
namespace Go.Proofs.Ytfkiacbjiledcaa.G06
open Go.Proofs.Ytfkiacbjiledcaa.K06
open Go.RowKit Go.Proofs.YtfkiacbjiledcaaW.PrintWords Go.Proofs.YtfkiacbjiledcaaW.PrintLast Go.Proofs.YtfkiacbjiledcaaW.PrintMore
set_option linter.unusedVariables false
set_option maxRecDepth 100000
theorem grown_of_below {W W' : World} (h : Below W.heap.size W W') (row : Option Nat) : W.grownBy W' row := ⟨h.os, h.tape, h.output, h.size, fun k hk _ => h.block k hk⟩
theorem grown_set (W : World) (b i : Nat) (u : Value) : W.grownBy (W.setCell ⟨b, i, none⟩ u) (some b) :=
  ⟨rfl, rfl, rfl, by simp, fun k _ hk => Below.heap_setCell W ⟨b, i, none⟩ u k (fun e => hk (by rw [e]))⟩
theorem grown_drewN (W : World) (n : Nat) (row : Option Nat) : W.grownBy (W.drewN n) row := ⟨rfl, rfl, rfl, Nat.le_refl _, fun _ _ _ => rfl⟩
set_option maxHeartbeats 1000000 in
theorem width_call (j : Nat) (hj : j ≤ 1000000000) (w : World) :
    Calls Try.prog 31 #[.agg #[.int .i64 j]] w fun e w' => e = .returned (.int .i64 (wd j)) ∧ Below w.heap.size w w' := by
  go_enter Try.func31, Try.ntmps31
  go_wp2
  go_loopw [3] (fun v wr => (v = .int .i64 9 ∨ (v = .int .i64 10 ∧ 512 < 258 + j) ∨ (v = .int .i64 11 ∧ 1024 < 258 + j) ∨ (v = .int .i64 12 ∧ 2048 < 258 + j) ∨ (v = .int .i64 13 ∧ 4096 < 258 + j)) ∧ Aside0 (Below w.heap.size w wr) ∧ wr.cell? ⟨w.heap.size, 0, none⟩ = some (.int .i64 j)) (fun v _ => 13 - (intOf v).toNat)
  case atStart => exact ⟨.inl rfl, ⟨below_alloc (Below.refl _ _) _⟩, blk_cell (blk_new _ _) 0⟩
  case round =>
    obtain ⟨hk, HB, hc⟩ := hrel
    rcases hk with rfl | ⟨rfl, h1⟩ | ⟨rfl, h1⟩ | ⟨rfl, h1⟩ | ⟨rfl, h1⟩
    · by_cases hq : 258 + j ≤ 512
      · have d : decide (258 + (j : Int) ≤ 512) = true := decide_eq_true (by omega)
        go_wp2
        go_quiet (fail)
        go_wp2
        go_ret
        refine ⟨?_, pw_below_drewN HB.out _⟩
        unfold wd
        rw [if_pos hq]; rfl
      · have d : decide (258 + (j : Int) ≤ 512) = false := decide_eq_false (by omega)
        go_wp2
        go_quiet (fail)
        go_wp2
        go_roundw
        case measure => decide
        case rel => exact ⟨.inr (.inl ⟨rfl, by omega⟩), ⟨pw_below_drewN HB.out _⟩, hc⟩
    · by_cases hq : 258 + j ≤ 1024
      · have d : decide (258 + (j : Int) ≤ 1024) = true := decide_eq_true (by omega)
        go_wp2
        go_quiet (fail)
        go_wp2
        go_ret
        refine ⟨?_, pw_below_drewN HB.out _⟩
        unfold wd
        rw [if_neg (show ¬ 258 + j ≤ 512 by omega)]; rw [if_pos hq]; rfl
      · have d : decide (258 + (j : Int) ≤ 1024) = false := decide_eq_false (by omega)
        go_wp2
        go_quiet (fail)
        go_wp2
        go_roundw
        case measure => decide
        case rel => exact ⟨.inr (.inr (.inl ⟨rfl, by omega⟩)), ⟨pw_below_drewN HB.out _⟩, hc⟩
    · by_cases hq : 258 + j ≤ 2048
      · have d : decide (258 + (j : Int) ≤ 2048) = true := decide_eq_true (by omega)
        go_wp2
        go_quiet (fail)
        go_wp2
        go_ret
        refine ⟨?_, pw_below_drewN HB.out _⟩
        unfold wd
        rw [if_neg (show ¬ 258 + j ≤ 512 by omega), if_neg (show ¬ 258 + j ≤ 1024 by omega)]; rw [if_pos hq]; rfl
      · have d : decide (258 + (j : Int) ≤ 2048) = false := decide_eq_false (by omega)
        go_wp2
        go_quiet (fail)
        go_wp2
        go_roundw
        case measure => decide
        case rel => exact ⟨.inr (.inr (.inr (.inl ⟨rfl, by omega⟩))), ⟨pw_below_drewN HB.out _⟩, hc⟩
    · by_cases hq : 258 + j ≤ 4096
      · have d : decide (258 + (j : Int) ≤ 4096) = true := decide_eq_true (by omega)
        go_wp2
        go_quiet (fail)
        go_wp2
        go_ret
        refine ⟨?_, pw_below_drewN HB.out _⟩
        unfold wd
        rw [if_neg (show ¬ 258 + j ≤ 512 by omega), if_neg (show ¬ 258 + j ≤ 1024 by omega), if_neg (show ¬ 258 + j ≤ 2048 by omega)]; rw [if_pos hq]; rfl
      · have d : decide (258 + (j : Int) ≤ 4096) = false := decide_eq_false (by omega)
        go_wp2
        go_quiet (fail)
        go_wp2
        go_roundw
        case measure => decide
        case rel => exact ⟨.inr (.inr (.inr (.inr ⟨rfl, by omega⟩))), ⟨pw_below_drewN HB.out _⟩, hc⟩
    · go_wp2
      go_ret
      refine ⟨?_, HB.out⟩
      unfold wd
      rw [if_neg (show ¬ 258 + j ≤ 512 by omega), if_neg (show ¬ 258 + j ≤ 1024 by omega), if_neg (show ¬ 258 + j ≤ 2048 by omega), if_neg (show ¬ 258 + j ≤ 4096 by omega)]
      rfl
set_option maxHeartbeats 1000000 in
theorem count_call (b : Nat) (j c : Nat) (w : World) (hj : j ≤ 1000000000) {t : TypeId} {l : List Value} (hb : w.heap[b]? = some (.cells (.int .i64 j :: l).toArray t (0, 0))) :
    Calls Try.prog 32 #[.pointer (some ⟨b, 0, none⟩), .int .i64 c] w fun e w' => e = .returned (.tuple #[]) ∧ w'.heap[b]? = some (.cells (.int .i64 (if c = 256 then 0 else j + 1 : Nat) :: l).toArray t (0, 0)) ∧ w.grownBy w' (some b) := by
  have h0 : w.cell? ⟨b, 0, none⟩ = some (.int .i64 j) := (blk_cell hb 0).trans (by simp)
  have hf := blk_frozen hb 0
  have hb1 := blk_set hb 0 (.int .i64 ((j : Int) + 1))
  have hb2 := blk_set hb1 0 (.int .i64 0)
  have hg1 := grown_set w b 0 (.int .i64 ((j : Int) + 1))
  have hg2 := hg1.trans (grown_set _ b 0 (.int .i64 0))
  have hf1 := blk_frozen hb1 0
  have h1 : (w.setCell ⟨b, 0, none⟩ (.int .i64 ((j : Int) + 1))).cell? ⟨b, 0, none⟩ = some (.int .i64 ((j : Int) + 1)) := (blk_cell hb1 0).trans (by simp)
  go_enter Try.func32, Try.ntmps32
  by_cases hc : c = 256
  · subst hc
    go_wp2
    go_end0
    refine ⟨rfl, hb2.trans ?_, hg2⟩
    simp
  · have hc1 : ((c : Int) == 256) = false := by simp; omega
    go_wp2
    go_end0
    refine ⟨rfl, hb1.trans ?_, hg1⟩
    simp
end Go.Proofs.Ytfkiacbjiledcaa.G06
