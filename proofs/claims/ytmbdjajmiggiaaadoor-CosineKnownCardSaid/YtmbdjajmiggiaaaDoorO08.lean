/- Several texts of this claim, one behind the other. -/
import Derived.ControlIn
import Derived.Scope
import Derived.Test.YtmbdjajmiggiaaaDoorG08f
import Derived.RangeFuncNested
import Derived.RangeFuncBound
import Derived.RangeFuncCalls
import Derived.RangeFuncLeaves
import Derived.Shelf.Abstract
import Derived.Sort.QuietIn
import Derived.OwnWalkIn
import Derived.TacticsInMore
import Derived.LoopNIn
import Derived.LoopIn
import Derived.WalkMore
import Derived.Laws.EntriesVeiled
import Derived.Maps.OwnIn
import Derived.Shelf.RegionOpen
/- A scope through which the run goes without a goto, under a fence. -/
namespace Go.Proofs.YtmbdjajmiggiaaaDoor.S08
open Go
variable {F : Fence} {n : Nat} {P : Program} {Q : Exit → Act → World → Prop} {a : Act} {w : World}
theorem stepR_scope {b : Frame} {k : List Item} {cs : List Frame} {c : Code} :
    step P (lone (b.atR a (.code (.scope c) :: k)) cs w) = .next (lone (b.atR a (.code c :: .inScope c :: k)) cs w) :=
  step_lone_go (by simp [stepG, stepG.exec, Frame.atR])
theorem stepR_inScope {b : Frame} {k : List Item} {cs : List Frame} {c : Code} :
    step P (lone (b.atR a (.inScope c :: k)) cs w) = .next (lone (b.atR a k) cs w) :=
  step_lone_go (by simp [stepG, stepG.exec, Frame.atR])
theorem wpIn_scope {c : Code} (h : c.wpIn F n P (Exit.noGoto Q) a w) : (Code.scope c).wpIn F n P Q a w := by
  intro b k cs hro hb hr
  have h0 : (lone (b.atR a (.code (.scope c) :: k)) cs w).fenced P F := fenced_calm hb hr rfl
  obtain ⟨e, a₁, w₁, hq, harr⟩ := h b (.inScope c :: k) cs hro hb hr
  cases e with
  | normal => exact ⟨.normal, a₁, w₁, hq, .head h0 stepR_scope (StepsIn.trans harr (.one (fenced_calm hb hr rfl) stepR_inScope))⟩
  | exit id =>
    have hx : exitTo id (.inScope c :: k) = exitTo id k := by simp [exitTo]
    exact ⟨.exit id, a₁, w₁, hq, fun k' hk => .head h0 stepR_scope (harr.1 k' (by rw [hx]; exact hk)),
      fun hr' hk => let ⟨k₁, h1, h2⟩ := harr.2 hr' (by rw [hx]; exact hk); ⟨k₁, h1, .head h0 stepR_scope h2⟩⟩
  | goto l => exact hq.elim
  | ret => exact ⟨_, a₁, w₁, hq, .of_steps (.one h0 stepR_scope) harr⟩
  | panic ch => exact ⟨_, a₁, w₁, hq, .of_steps (.one h0 stepR_scope) harr⟩
  | outgrown => exact ⟨_, a₁, w₁, hq, .of_steps (.one h0 stepR_scope) harr⟩
end Go.Proofs.YtmbdjajmiggiaaaDoor.S08
/- The zigzag order (chapter 08): the iterator cosine.zigzag, the table of places, Zigzag, Bound. -/
namespace Go.Proofs.YtmbdjajmiggiaaaDoor.Z08
open Go.Proofs.YtmbdjajmiggiaaaDoor.K08 Go.Proofs.YtmbdjajmiggiaaaDoor.G08 Go.Proofs.YtmbdjajmiggiaaaDoor.G08f
open Go.RowKit Go.Proofs.YtmbdjajmiggiaaaDoorW.PrintWords Go.Proofs.YtmbdjajmiggiaaaDoorW.PrintLast Go.Proofs.YtmbdjajmiggiaaaDoorW.PrintMore
set_option linter.unusedVariables false
set_option maxRecDepth 100000
/-- The row of the t-th element of diagonal s. -/
def pr (s t : Nat) : Nat := if s % 2 = 0 then s - t else t
def rowz (s k : Nat) : List (Nat × Nat) := (List.range k).filterMap fun t => if pr s t < 8 ∧ s - pr s t < 8 then some (pr s t, s - pr s t) else none
/-- The elements of the diagonals below s. -/
def zz (s : Nat) : List (Nat × Nat) := (List.range s).flatMap fun t => rowz t (t + 1)
theorem rowz_succ (s k : Nat) : rowz s (k + 1) = rowz s k ++ if pr s k < 8 ∧ s - pr s k < 8 then [(pr s k, s - pr s k)] else [] := by
  unfold rowz
  rw [List.range_succ, List.filterMap_append]
  congr 1
  simp only [List.filterMap_cons, List.filterMap_nil]
  split <;> rename_i h <;> split at h <;> simp_all
theorem zz_succ (s : Nat) : zz (s + 1) = zz s ++ rowz s (s + 1) := by
  unfold zz
  rw [List.range_succ, List.flatMap_append]
  simp
theorem zz_len : ∀ s, s < 15 → ∀ k, k ≤ s → pr s k < 8 ∧ s - pr s k < 8 → (zz s ++ rowz s k).length < 64 := by decide +kernel
theorem zz_more (s k : Nat) (hs : s < 15) (hk : k ≤ s) : ∃ rest, zz s ++ rowz s (k + 1) ++ rest = zz 15 := by
  have h1 : ∀ d, s + 1 + d ≤ 15 → ∃ rest, zz (s + 1) ++ rest = zz (s + 1 + d) := by
    intro d
    induction d with
    | zero => intro _; exact ⟨[], by simp⟩
    | succ d ih => intro h; obtain ⟨r, hr⟩ := ih (by omega); exact ⟨r ++ rowz (s + 1 + d) (s + 1 + d + 1), by rw [← List.append_assoc, hr, ← Nat.add_assoc, zz_succ]⟩
  have h2 : ∀ d, k + 1 + d ≤ s + 1 → ∃ rest, rowz s (k + 1) ++ rest = rowz s (k + 1 + d) := by
    intro d
    induction d with
    | zero => intro _; exact ⟨[], by simp⟩
    | succ d ih => intro h; obtain ⟨r, hr⟩ := ih (by omega); exact ⟨_, by rw [← Nat.add_assoc, rowz_succ s (k + 1 + d), ← hr, List.append_assoc]⟩
  obtain ⟨r1, e1⟩ := h1 (15 - (s + 1)) (by omega)
  obtain ⟨r2, e2⟩ := h2 (s - k) (by omega)
  rw [show s + 1 + (15 - (s + 1)) = 15 by omega, zz_succ] at e1
  rw [show k + 1 + (s - k) = s + 1 by omega] at e2
  exact ⟨r2 ++ r1, by rw [← e1, ← e2]; simp⟩
abbrev Pz := { x : Nat × Nat // x.1 < 8 ∧ x.2 < 8 }
def encZ (x : Pz) : Array Value := #[.int .i64 x.1.1, .int .i64 x.1.2]
def vals (l : List Pz) : List (Nat × Nat) := l.map Subtype.val
theorem vals_snoc (l : List Pz) (x : Pz) : vals (l ++ [x]) = vals l ++ [x.1] := by unfold vals; rw [List.map_append]; rfl
theorem vals_len (l : List Pz) : (vals l).length = l.length := List.length_map _
theorem fun40 (w : World) : Calls Tryd.prog 40 #[] w fun e w' => e = .returned (.func (.func 54) #[] #[]) ∧ w' = w := by
  go_enter Tryd.func40, Tryd.ntmps40
  go_wp2
  go_ret
  exact ⟨rfl, rfl⟩
set_option maxHeartbeats 4000000 in
theorem zig_stops (n : Nat) (hn : 1 ≤ n) (w : World) :
    SeqStopsK Fence.wide n Tryd.prog 54 #[] encZ (fun _ _ => True) (fun xs => vals xs = zz 15) (fun pre => ∃ rest, vals pre ++ rest = zz 15) 64 w := by
  intro lr J Jx W hW hJ hJx hY h0
  refine callsIn_of_wp Tryd.func54 rfl trivial ?_ rfl
  simp only [Tryd.ntmps54, List.size_toArray, List.length_cons, List.length_nil, Nat.reduceAdd, Nat.reduceSub, Array.replicate_succ, Array.replicate_zero, List.push_toArray, List.append_toArray, List.nil_append, List.cons_append]
  have HY := Aside0.mk hY
  have HJX := Aside0.mk hJx
  have H0 := Aside0.mk h0
  clear hW hY hJx h0 hJ
  gi_wp2
  gi_loopw [5] (fun vo wr => ∃ (s : Nat) (pre : List Pz), vo = .int .i64 s ∧ s ≤ 15 ∧ Aside0 (vals pre = zz s) ∧ Aside0 (J pre wr)) (fun vo _ => 15 - (intOf vo).toNat)
  case atStart => exact ⟨0, [], rfl, by omega, ⟨rfl⟩, H0⟩
  case round =>
    clear H0
    obtain ⟨s, p0, rfl, hs, HV0, HJ0⟩ := hrel
    by_cases hlt : s < 15
    · have d0 : decide ((s : Int) < 15) = true := decide_eq_true (by omega)
      obtain ⟨wo, rfl⟩ : ∃ wo, wo = wr := ⟨_, rfl⟩
      gi_wp2
      gi_loopw [10] (fun vi w2 => ∃ (k : Nat) (pre : List Pz), vi = .int .i64 k ∧ k ≤ s + 1 ∧ Aside0 (vals pre = zz s ++ rowz s k) ∧ Aside0 (J pre w2)) (fun vi _ => s + 1 - (intOf vi).toNat)
      case atStart => exact ⟨0, p0, rfl, by omega, ⟨by simpa [rowz] using HV0.out⟩, HJ0⟩
      case round =>
        obtain ⟨k, pre, rfl, hk, HV2, HJ2⟩ := hrel
        by_cases hlt2 : k < s + 1
        · have d2 : decide ((k : Int) < (s : Int) + 1) = true := decide_eq_true (by omega)
          have HSU := Aside0.mk (rowz_succ s k)
          by_cases hp : s % 2 = 0
          ·
            obtain ⟨i, hi⟩ : ∃ i : Nat, pr s k = i := ⟨_, rfl⟩
            have hii : s - k = i := by rw [← hi]; unfold pr; rw [if_pos hp]
            have t0 : ((s : Int) % 2 == 0) = true := by simp; omega
            have ei : (s : Int) - (k : Int) = (i : Int) := by omega
            rw [hi] at HSU
            have HI := Aside0.mk hi
            clear hi
            by_cases h1 : i < 8
            · have t1 : decide ((i : Int) < 8) = true := decide_eq_true (by omega)
              obtain ⟨j, hj⟩ : ∃ j : Nat, s - i = j := ⟨_, rfl⟩
              have ej : (s : Int) - (i : Int) = (j : Int) := by omega
              rw [hj] at HSU
              have HJJ := Aside0.mk hj
              clear hj
              by_cases h2 : j < 8
              · have t2 : decide ((j : Int) < 8) = true := decide_eq_true (by omega)
                have hsu := HSU.out
                rw [if_pos ⟨h1, h2⟩] at hsu
                have HSU2 := Aside0.mk hsu
                clear hsu HSU
                obtain ⟨fn, tmps, assign, body, hy, hR⟩ := HY.out pre ⟨(i, j), h1, h2⟩ _ HJ2.out (by have := zz_len s hlt k (by omega) (by rw [HI.out, HJJ.out]; exact ⟨h1, h2⟩); rw [← HV2.out, vals_len] at this; exact this)
                dsimp only [encZ] at hy
                gi_wp2_with fail
                refine hR.mono ?_
                rintro e W' (⟨rfl, hJ', hkk⟩ | ⟨rfl, hJx'⟩)
                · have HJ3 := Aside0.mk hJ'
                  have HV3 : Aside0 (vals (pre ++ [⟨(i, j), h1, h2⟩]) = zz s ++ rowz s (k + 1)) := ⟨by rw [HSU2.out, ← List.append_assoc, vals_snoc, HV2.out]⟩
                  clear hJ' hkk hy hR
                  gi_wp2_with fail
                  go_roundw
                  case measure => simp [intOf]; omega
                  case rel => exact ⟨k + 1, _, by go_num, by omega, HV3, HJ3⟩
                · have HJ3 := Aside0.mk hJx'
                  have HV3 : Aside0 (vals (pre ++ [⟨(i, j), h1, h2⟩]) = zz s ++ rowz s (k + 1)) := ⟨by rw [HSU2.out, ← List.append_assoc, vals_snoc, HV2.out]⟩
                  clear hJx' hy hR
                  gi_wp2_with fail
                  refine bodyPost_ret (results_none rfl _ _ _) rfl ?_
                  exact ⟨⟨_, rfl⟩, .inr ⟨_, by rw [HV3.out]; exact zz_more s k hlt (by omega), HJ3.out⟩⟩
              · have t2 : decide ((j : Int) < 8) = false := decide_eq_false (by omega)
                have hsu := HSU.out
                rw [if_neg (by omega), List.append_nil] at hsu
                have HV3 : Aside0 (vals pre = zz s ++ rowz s (k + 1)) := ⟨by rw [hsu]; exact HV2.out⟩
                clear hsu HSU
                gi_wp2_with fail
                refine ⟨(fun _ h => by cases h), ?_⟩
                gi_wp2_with fail
                go_roundw
                case measure => simp [intOf]; omega
                case rel => exact ⟨k + 1, pre, by go_num, by omega, HV3, HJ2⟩
            · have t1 : decide ((i : Int) < 8) = false := decide_eq_false (by omega)
              have hsu := HSU.out
              rw [if_neg (by omega), List.append_nil] at hsu
              have HV3 : Aside0 (vals pre = zz s ++ rowz s (k + 1)) := ⟨by rw [hsu]; exact HV2.out⟩
              clear hsu HSU
              gi_wp2_with fail
              refine ⟨(fun _ h => by cases h), ?_⟩
              gi_wp2_with fail
              go_roundw
              case measure => simp [intOf]; omega
              case rel => exact ⟨k + 1, pre, by go_num, by omega, HV3, HJ2⟩
          ·
            obtain ⟨i, hi⟩ : ∃ i : Nat, pr s k = i := ⟨_, rfl⟩
            have hii : k = i := by rw [← hi]; unfold pr; rw [if_neg hp]
            have t0 : ((s : Int) % 2 == 0) = false := by simp; omega
            subst hii
            rw [hi] at HSU
            have HI := Aside0.mk hi
            clear hi
            by_cases h1 : k < 8
            · have t1 : decide ((k : Int) < 8) = true := decide_eq_true (by omega)
              obtain ⟨j, hj⟩ : ∃ j : Nat, s - k = j := ⟨_, rfl⟩
              have ej : (s : Int) - (k : Int) = (j : Int) := by omega
              rw [hj] at HSU
              have HJJ := Aside0.mk hj
              clear hj
              by_cases h2 : j < 8
              · have t2 : decide ((j : Int) < 8) = true := decide_eq_true (by omega)
                have hsu := HSU.out
                rw [if_pos ⟨h1, h2⟩] at hsu
                have HSU2 := Aside0.mk hsu
                clear hsu HSU
                obtain ⟨fn, tmps, assign, body, hy, hR⟩ := HY.out pre ⟨(k, j), h1, h2⟩ _ HJ2.out (by have := zz_len s hlt k (by omega) (by rw [HI.out, HJJ.out]; exact ⟨h1, h2⟩); rw [← HV2.out, vals_len] at this; exact this)
                dsimp only [encZ] at hy
                gi_wp2_with fail
                refine hR.mono ?_
                rintro e W' (⟨rfl, hJ', hkk⟩ | ⟨rfl, hJx'⟩)
                · have HJ3 := Aside0.mk hJ'
                  have HV3 : Aside0 (vals (pre ++ [⟨(k, j), h1, h2⟩]) = zz s ++ rowz s (k + 1)) := ⟨by rw [HSU2.out, ← List.append_assoc, vals_snoc, HV2.out]⟩
                  clear hJ' hkk hy hR
                  gi_wp2_with fail
                  go_roundw
                  case measure => simp [intOf]; omega
                  case rel => exact ⟨k + 1, _, by go_num, by omega, HV3, HJ3⟩
                · have HJ3 := Aside0.mk hJx'
                  have HV3 : Aside0 (vals (pre ++ [⟨(k, j), h1, h2⟩]) = zz s ++ rowz s (k + 1)) := ⟨by rw [HSU2.out, ← List.append_assoc, vals_snoc, HV2.out]⟩
                  clear hJx' hy hR
                  gi_wp2_with fail
                  refine bodyPost_ret (results_none rfl _ _ _) rfl ?_
                  exact ⟨⟨_, rfl⟩, .inr ⟨_, by rw [HV3.out]; exact zz_more s k hlt (by omega), HJ3.out⟩⟩
              · have t2 : decide ((j : Int) < 8) = false := decide_eq_false (by omega)
                have hsu := HSU.out
                rw [if_neg (by omega), List.append_nil] at hsu
                have HV3 : Aside0 (vals pre = zz s ++ rowz s (k + 1)) := ⟨by rw [hsu]; exact HV2.out⟩
                clear hsu HSU
                gi_wp2_with fail
                refine ⟨(fun _ h => by cases h), ?_⟩
                gi_wp2_with fail
                go_roundw
                case measure => simp [intOf]; omega
                case rel => exact ⟨k + 1, pre, by go_num, by omega, HV3, HJ2⟩
            · have t1 : decide ((k : Int) < 8) = false := decide_eq_false (by omega)
              have hsu := HSU.out
              rw [if_neg (by omega), List.append_nil] at hsu
              have HV3 : Aside0 (vals pre = zz s ++ rowz s (k + 1)) := ⟨by rw [hsu]; exact HV2.out⟩
              clear hsu HSU
              gi_wp2_with fail
              refine ⟨(fun _ h => by cases h), ?_⟩
              gi_wp2_with fail
              go_roundw
              case measure => simp [intOf]; omega
              case rel => exact ⟨k + 1, pre, by go_num, by omega, HV3, HJ2⟩
        · obtain rfl : k = s + 1 := by omega
          have d2 : decide (((s + 1 : Nat) : Int) < (s : Int) + 1) = false := decide_eq_false (by omega)
          have HV3 : Aside0 (vals pre = zz (s + 1)) := ⟨by rw [zz_succ]; exact HV2.out⟩
          gi_wp2_with fail
          go_roundw
          case measure => simp [intOf]; omega
          case rel => exact ⟨s + 1, pre, by go_num, by omega, HV3, HJ2⟩
    · obtain rfl : s = 15 := by omega
      gi_wp2_with fail
      go_end0
      exact ⟨⟨_, rfl⟩, .inl ⟨_, HV0.out, HJ0.out⟩⟩
end Go.Proofs.YtmbdjajmiggiaaaDoor.Z08

/- The table of places, Zigzag and Bound (chapter 08). -/
namespace Go.Proofs.YtmbdjajmiggiaaaDoor.O08
open Go.Proofs.YtmbdjajmiggiaaaDoor.K08 Go.Proofs.YtmbdjajmiggiaaaDoor.G08 Go.Proofs.YtmbdjajmiggiaaaDoor.G08f Go.Proofs.YtmbdjajmiggiaaaDoor.Z08
open Go.RowKit Go.Proofs.YtmbdjajmiggiaaaDoorW.PrintWords Go.Proofs.YtmbdjajmiggiaaaDoorW.PrintLast Go.Proofs.YtmbdjajmiggiaaaDoorW.PrintMore
set_option linter.unusedVariables false
set_option linter.unusedSimpArgs false
set_option maxRecDepth 100000
attribute [local go_sem] Oper.semAt_some
section
variable {F : Fence} {n : Nat} {ops : Array Oper} {rest : List Oper} {o : Oper} {a : Act} {w : World} {Q : Exit → Act → World → Prop}
theorem alloc_arIn (hgd : o.guard = none) (ho : o.op = .alloc 22)
    (h : wpListIn F n Tryd.prog ops Q rest (a.put o.dst (.pointer (some ⟨w.heap.size, 0, none⟩))) (w.alloc (.cells (nums .i64 z64).toArray 22))) : wpListIn F n Tryd.prog ops Q (o :: rest) a w := by
  refine wpListIn_plain hgd fun K' hK' => ?_
  unfold Oper.wpIn
  refine ⟨by simp [Oper.about, ho], ?_⟩
  rw [Oper.semAt_plain F _ _ (by rw [ho]; intro c hc'; cases hc')]
  unfold execOp
  simp only [ho, Sem.run_bind, alloc22, Sem.run_pure, Result.andThen_ok]
  exact hK' _ _ h
theorem load_arIn (hgd : o.guard = none) (x : Operand) (ho : o.op = .load 22 x)
    (g : Nat) (hx : a.eval x = .pointer (some ⟨g, 0, none⟩)) (b : List Int) (hb : b.length = 64) (hg : Blk w g b)
    (h : wpListIn F n Tryd.prog ops Q rest (a.put o.dst (ar b)) w) : wpListIn F n Tryd.prog ops Q (o :: rest) a w := by
  refine wpListIn_plain hgd fun K' hK' => ?_
  unfold Oper.wpIn
  refine ⟨by simp [Oper.about, ho], ?_⟩
  rw [Oper.semAt_plain F _ _ (by rw [ho]; intro c hc'; cases hc')]
  unfold execOp
  simp only [ho, hx, Instr.loadAt, Instr.sureAddr, Sem.run_bind, Sem.run_pure, Result.andThen_ok, load_var_ar w g b hg hb]
  exact hK' _ _ h
theorem store_arIn (hgd : o.guard = none) (x y : Operand) (ho : o.op = .store 22 x y)
    (g : Nat) (hx : a.eval x = .pointer (some ⟨g, 0, none⟩)) (old l : List Int) (hy : a.eval y = ar l) (hold : Blk w g old) (ho2 : old.length = 64) (hl : l.length = 64)
    (h : wpListIn F n Tryd.prog ops Q rest (a.put o.dst undef) (w.setRow g (nums .i64 l).toArray)) : wpListIn F n Tryd.prog ops Q (o :: rest) a w := by
  refine wpListIn_plain hgd fun K' hK' => ?_
  unfold Oper.wpIn
  refine ⟨by simp [Oper.about, ho], ?_⟩
  rw [Oper.semAt_plain F _ _ (by rw [ho]; intro c hc'; cases hc')]
  unfold execOp
  have e := run_storeVar_row (P := Tryd.prog) w g 22 22 (nums .i64 old).toArray (nums .i64 l).toArray hold (info22.trans (by simp [nums_length, hl])) (by simp [nums_length, hl, ho2]) (nums_one l)
  simp only [ho, hx, hy, ar, Instr.storeAt, Instr.sureAddr, Sem.run_bind, Sem.run_pure, Result.andThen_ok, e]
  exact hK' _ _ h
end
/-- The places that are known. -/
def plc (l : List (Nat × Nat)) : List Int := (l.map fun p => ((8 * p.1 + p.2 : Nat) : Int)) ++ List.replicate (64 - l.length) 0
def orderL : List Int := plc (zz 15)
theorem zz15_len : (zz 15).length = 64 := by decide +kernel
theorem plc_len (l : List (Nat × Nat)) (h : l.length ≤ 64) : (plc l).length = 64 := by unfold plc; simp; omega
theorem plc_nil : plc [] = z64 := rfl
theorem plc_set (l : List (Nat × Nat)) (p : Nat × Nat) (h : l.length < 64) : (plc l).set l.length ((8 * p.1 + p.2 : Nat) : Int) = plc (l ++ [p]) := by
  unfold plc
  obtain ⟨d, hd⟩ : ∃ d, 64 - l.length = d + 1 := ⟨63 - l.length, by omega⟩
  rw [List.set_append_right _ _ (by simp), hd]
  simp [List.replicate_succ, show 64 - (l.length + 1) = d by omega]
theorem Cel.set {w : World} {g i : Nat} (h : Cel w g i) (k : Nat) : Cel (w.setCell ⟨g, 0, none⟩ (.int .i64 k)) g k := (blk_set h 0 _).trans (by simp)
theorem below_put {B : Nat} {w W : World} (h : Below B w W) (E : Nat) (o o' : Obj) (hE : B ≤ E) (hk : W.heap[E]? = some o) : Below B w (W.putObj E o') :=
  h.grown (grownBy_putObj' W E o') (by have := h.size; have := (Array.getElem?_eq_some_iff.1 hk).1; omega) (fun k e => by cases e; exact hE)
/-- What the loop of the table keeps. -/
structure OI (D : Nat) (w : World) (pre : List Pz) (W : World) : Prop where
  out : Blk W (D + 1) (plc (vals pre))
  res : Blk W D z64
  k : Cel W (D + 2) pre.length
  below : Below D w W
theorem OI_own (D : Nat) (w : World) (hD : D + 3 ≤ w.heap.size) (w0 : World) (hw : w0.heap.size = D) : OwnFrom w.heap.size (OI D w0) := by
  intro pre W W' row h hg hr
  have hne : ∀ k, k < w.heap.size → some k ≠ row := fun k hk e => by have := (hr k e.symm).1; omega
  have hb := h.below.size
  exact ⟨blk_grown h.out hg (hne _ (by omega)), blk_grown h.res hg (hne _ (by omega)), blk_grown h.k hg (hne _ (by omega)),
    h.below.grown hg (by omega) (fun k e => by have := (hr k e).1; omega)⟩
set_option maxHeartbeats 4000000 in
theorem order_call (w : World) : Calls Tryd.prog 55 #[] w fun e w' => e = .returned (ar orderL) ∧ Below w.heap.size w w' := by
  refine (callsIn_wide (n := 9)).1 ?_
  refine callsIn_of_wp_marks Tryd.func55 rfl trivial ?_ rfl
  simp only [Tryd.ntmps55, List.size_toArray, List.length_cons, List.length_nil, Nat.reduceAdd, Nat.reduceSub, Array.replicate_succ, Array.replicate_zero, List.push_toArray, List.append_toArray, List.nil_append, List.cons_append]
  gi_wp2_with (refine alloc_arIn rfl rfl ?_)
  refine ⟨trivial, callsIn_wide.2 ((fun40 _).mono ?_)⟩
  rintro e w1 ⟨rfl, rfl⟩
  gi_wp2_with fail
  obtain ⟨D, hD⟩ : ∃ D, w.heap.size = D := ⟨_, rfl⟩
  obtain ⟨W0, hW0⟩ : ∃ W0, ((w.alloc (.cells (nums .i64 z64).toArray 22)).alloc (.cells (nums .i64 z64).toArray 22)).alloc (.cells #[.int .i64 0] 3) = W0 := ⟨_, rfl⟩
  have hz : W0.heap.size = D + 3 := by rw [← hW0]; simp [hD]
  have b0 : Blk W0 D z64 := by rw [← hW0, ← hD]; exact blk_alloc (blk_alloc (blk_new _ _) _) _
  have b1 : Blk W0 (D + 1) z64 := by
    rw [← hW0, ← hD]
    have := blk_alloc (blk_new (w.alloc (.cells (nums .i64 z64).toArray 22)) (.cells (nums .i64 z64).toArray 22)) (.cells #[.int .i64 0] 3)
    simpa [Blk] using this
  have b2 : Cel W0 (D + 2) 0 := by
    rw [← hW0, ← hD]
    have := blk_new ((w.alloc (.cells (nums .i64 z64).toArray 22)).alloc (.cells (nums .i64 z64).toArray 22)) (.cells #[.int .i64 0] 3)
    simpa [Cel] using this
  have hbel : Below D w W0 := by rw [← hW0, ← hD]; exact below_alloc (below_alloc (below_alloc (Below.refl _ _) _) _) _
  simp only [hD, hW0, Nat.add_assoc, Nat.reduceAdd]
  clear hW0
  have hstops := zig_stops 8 (by decide) W0
  refine wpIn_rangeFunc_ownF (n := 9) rfl (by decide) (gf := 54) (lb := #[]) rfl trivial (enters_of Tryd.func54 (by kernel_rfl) rfl) hstops (fun _ _ => trivial) (fun _ _ _ _ _ _ _ _ => trivial) (Below.refl _ _) (fun _ => rfl) (OI D w) (fun _ _ _ => False) (OI_own D W0 (by omega) w hD) (fun c _ _ _ _ h _ _ => h) ⟨b1, b0, b2, hbel⟩
    ?a1 ?assign ?body ?done ?stop
  case assign =>
    intro l x W K hK
    unfold encZ
    gi_wp2
    exact hK
  case body =>
    rintro l pre ⟨⟨i, j⟩, hi, hj⟩ W ⟨h1, h2, h3, h4⟩ hN
    simp only at hi hj
    have hpl : (vals pre).length = pre.length := vals_len pre
    have c3 : W.cell? ⟨D + 2, 0, none⟩ = some (.int .i64 pre.length) := h3.cell
    have f3 : W.frozen? ⟨D + 2, 0, none⟩ = false := blk_frozen h3 _
    have c1 : W.cell? ⟨D + 1, pre.length, none⟩ = some (.int .i64 ((plc (vals pre)).getD pre.length 0)) := h1.cell _ (by rw [plc_len _ (by omega)]; exact hN)
    have f1 : W.frozen? ⟨D + 1, pre.length, none⟩ = false := blk_frozen h1 _
    have ce : (W.setCell ⟨D + 1, pre.length, none⟩ (.int .i64 (8 * (i : Int) + (j : Int)))).cell? ⟨D + 2, 0, none⟩ = some (.int .i64 pre.length) := (G08f.cell_far (by simp) _).trans c3
    have fe : (W.setCell ⟨D + 1, pre.length, none⟩ (.int .i64 (8 * (i : Int) + (j : Int)))).frozen? ⟨D + 2, 0, none⟩ = false := blk_frozen (Cel.far h3 (by omega) _ _) _
    have H1 := Aside0.mk h1
    have H2 := Aside0.mk h2
    have H3 := Aside0.mk h3
    have H4 := Aside0.mk h4
    have HPL := Aside0.mk hpl
    clear h1 h2 h3 h4 hstops b0 b1 b2 hbel hpl
    gi_wp2_with fail
    refine ⟨(KeepsOthers.setCell _ _ _).trans (KeepsOthers.setCell _ _ _), trivial, ⟨?_, ?_, ?_, ?_⟩⟩
    · have h := Blk.far (H1.out.set pre.length ((8 * i + j : Nat) : Int)) (b := D + 2) (by omega) 0 (.int .i64 ((pre.length : Int) + 1))
      rw [vals_snoc, ← plc_set _ _ (by rw [HPL.out]; exact hN), HPL.out]
      simpa using h
    · exact Blk.far (Blk.far H2.out (by omega) _ _) (by omega) _ _
    · have h := O08.Cel.set (Cel.far H3.out (b := D + 1) (by omega) pre.length (.int .i64 (8 * (i : Int) + (j : Int)))) (pre.length + 1)
      simpa using h
    · exact (H4.out.setCell (p := ⟨D + 1, pre.length, none⟩) (by simp) _).setCell (p := ⟨D + 2, 0, none⟩) (by simp) _
  case done =>
    rintro E xs W hE hS ⟨h1, h2, h3, h4⟩ hK
    have hpl := plc_len (vals xs) (by rw [hS]; exact Nat.le_of_eq zz15_len)
    rw [hS] at h1 hpl
    have H1 := Aside0.mk h1
    have H2 := Aside0.mk h2
    have H4 := Aside0.mk h4
    have HK := Aside0.mk hK
    have HPL := Aside0.mk hpl
    clear h1 h2 h3 h4 hstops b0 b1 b2 hbel hpl hK hS
    gi_wp2_with (first | (refine load_arIn rfl _ rfl _ rfl (plc (zz 15)) HPL.out H1.out ?_) | (refine store_arIn rfl _ _ rfl _ rfl z64 (plc (zz 15)) rfl H2.out rfl HPL.out ?_))
    have hE2 : E ≠ D := by omega
    have hK' := (heap_setRow_far W D E (nums .i64 (plc (zz 15))).toArray hE2).trans HK.out
    have hR : Blk ((W.setRow D (nums .i64 (plc (zz 15))).toArray).putObj E (.deferred none)) D (plc (zz 15)) := (World.putObj_heap_other hE2.symm).trans (H2.out.setRow _)
    refine ⟨by simp, .inl ⟨_, _, rfl, run_takeDeferred hK', ?_⟩⟩
    refine ⟨_, results_cell_row rfl _ _ D 22 (nums .i64 (plc (zz 15))).toArray (0, 0) _ rfl hR Tryd.underlying22 rfl (info22.trans (by simp [nums_length, HPL.out])), rfl, ?_⟩
    rw [hD]
    exact below_put (G08.below_setRow H4.out (Nat.le_refl _) _) E _ _ (by omega) hK'
  case stop => 
    intro D' c pre W _ _ h
    exact h.elim
theorem farO {W : World} {b g j : Nat} {o : Obj} (h : W.heap[b]? = some o) (hne : b ≠ g) (v : Value) : (W.setCell ⟨g, j, none⟩ v).heap[b]? = some o := (Below.heap_setCell W ⟨g, j, none⟩ v b hne).trans h
theorem put_cell {W : World} {b E : Nat} {v : Value} {ty : TypeId} (h : W.heap[b]? = some (.cells #[v] ty (0, 0))) (hne : b ≠ E) (o : Obj) : (W.putObj E o).cell? ⟨b, 0, none⟩ = some v :=
  (World.cell?_of_block (World.putObj_heap_other hne)).trans (blk_cell h 0)
theorem put_drew (W : World) (E : Nat) (o : Obj) : W.drew.putObj E o = (W.putObj E o).drew := rfl

theorem cels4 (w : World) (a b c d : Nat) : let W := (((w.alloc (.cells #[.int .i64 a] 3)).alloc (.cells #[.int .i64 b] 3)).alloc (.cells #[.int .i64 c] 3)).alloc (.cells #[.int .i64 d] 3)
    Below w.heap.size w W ∧ Cel W w.heap.size a ∧ Cel W (w.heap.size + 1) b ∧ Cel W (w.heap.size + 2) c ∧ Cel W (w.heap.size + 3) d ∧ W.heap.size = w.heap.size + 4 := by
  refine ⟨below_alloc (below_alloc (below_alloc (below_alloc (Below.refl _ _) _) _) _) _, blk_alloc (blk_alloc (blk_alloc (blk_new _ _) _) _) _, ?_, ?_, ?_, by simp⟩
  · have := blk_alloc (blk_alloc (blk_new (w.alloc (.cells #[.int .i64 a] 3)) (.cells #[.int .i64 b] 3)) (.cells #[.int .i64 c] 3)) (.cells #[.int .i64 d] 3)
    simpa [Cel] using this
  · have := blk_alloc (blk_new ((w.alloc (.cells #[.int .i64 a] 3)).alloc (.cells #[.int .i64 b] 3)) (.cells #[.int .i64 c] 3)) (.cells #[.int .i64 d] 3)
    simpa [Cel] using this
  · have := blk_new (((w.alloc (.cells #[.int .i64 a] 3)).alloc (.cells #[.int .i64 b] 3)).alloc (.cells #[.int .i64 c] 3)) (.cells #[.int .i64 d] 3)
    simpa [Cel] using this
set_option maxHeartbeats 1000000 in
theorem zigzag_bad (k : Int) (hk : k < 0 ∨ 63 < k) (w : World) : Calls Tryd.prog 18 #[.int .i64 k] w fun e w' => e = .returned (.tuple #[.int .i64 0, .int .i64 0, .int .i64 2]) ∧ Below w.heap.size w w' := by
  by_cases h : k < 0
  · have t0 : decide (k < 0) = true := decide_eq_true h
    go_enter Tryd.func18, Tryd.ntmps18
    go_wp2
    go_step3
    go_wp2
    rw [Exit.noGoto_ret]
    refine bodyPost_ret (v := .tuple #[.int .i64 0, .int .i64 0, .int .i64 2]) (by simp [results, Tryd.results18, go_sem]) rfl ⟨rfl, ?_⟩
    repeat' first | exact Below.refl _ _ | refine Below.setCell ?_ (by simp) _ | refine Below.alloc ?_ (by simp; omega) _ | refine Below.alloc ?_ (by simp) _
  · have t0 : decide (k < 0) = false := decide_eq_false h
    have t1 : decide (64 ≤ k) = true := decide_eq_true (by omega)
    go_enter Tryd.func18, Tryd.ntmps18
    go_wp2
    go_step3
    go_wp2
    rw [Exit.noGoto_ret]
    refine bodyPost_ret (v := .tuple #[.int .i64 0, .int .i64 0, .int .i64 2]) (by simp [results, Tryd.results18, go_sem]) rfl ⟨rfl, ?_⟩
    repeat' first | exact Below.refl _ _ | refine Below.setCell ?_ (by simp) _ | refine Below.alloc ?_ (by simp; omega) _ | refine Below.alloc ?_ (by simp) _
/-- What the search keeps. -/
structure ZI (D k : Nat) (w : World) (pre : List Pz) (W : World) : Prop where
  box : Cel W D k
  n : Cel W (D + 3) pre.length
  i : ∃ i, Cel W (D + 1) i
  j : ∃ j, Cel W (D + 2) j
  le : pre.length ≤ k
  below : Below D w W
structure ZX (D k : Nat) (w : World) (c : Code) (pre : List Pz) (W : World) : Prop where
  c : c = .exit 0
  x : ∃ (p0 : List Pz) (x : Pz), pre = p0 ++ [x] ∧ p0.length = k ∧ Cel W (D + 1) x.1.1 ∧ Cel W (D + 2) x.1.2
  below : Below D w W
theorem ZI_own (D k : Nat) (w0 w : World) (hD : w.heap.size = D + 4) : OwnFrom w.heap.size (ZI D k w0) := by
  intro pre W W' row h hg hr
  have hne : ∀ k, k < w.heap.size → some k ≠ row := fun k hk e => by have := (hr k e.symm).1; omega
  have hb := blk_lt h.n
  obtain ⟨i, hi⟩ := h.i
  obtain ⟨j, hj⟩ := h.j
  exact ⟨blk_grown h.box hg (hne _ (by omega)), blk_grown h.n hg (hne _ (by omega)), ⟨i, blk_grown hi hg (hne _ (by omega))⟩, ⟨j, blk_grown hj hg (hne _ (by omega))⟩, h.le,
    h.below.grown hg (by omega) (fun k e => by have := (hr k e).1; omega)⟩
theorem ZX_own (D k : Nat) (w0 w : World) (hD : w.heap.size = D + 4) (c : Code) : OwnFrom w.heap.size (ZX D k w0 c) := by
  intro pre W W' row h hg hr
  have hne : ∀ k, k < w.heap.size → some k ≠ row := fun k hk e => by have := (hr k e.symm).1; omega
  obtain ⟨p0, x, h1, h2, h3, h4⟩ := h.x
  have hb := blk_lt h3
  exact ⟨h.c, ⟨p0, x, h1, h2, blk_grown h3 hg (hne _ (by omega)), blk_grown h4 hg (hne _ (by omega))⟩, h.below.grown hg (by omega) (fun k e => by have := (hr k e).1; omega)⟩
def zAt (k : Nat) : Nat × Nat := (zz 15).getD k (0, 0)
set_option maxHeartbeats 4000000 in
theorem zigzag_call (k : Nat) (hk : k < 64) (w : World) : Calls Tryd.prog 18 #[.int .i64 k] w fun e w' => e = .returned (.tuple #[.int .i64 (zAt k).1, .int .i64 (zAt k).2, .int .i64 0]) ∧ Below w.heap.size w w' := by
  refine (callsIn_wide (n := 9)).1 ?_
  refine callsIn_of_wp_marks Tryd.func18 rfl trivial ?_ rfl
  simp only [Tryd.ntmps18, List.size_toArray, List.length_cons, List.length_nil, Nat.reduceAdd, Nat.reduceSub, Array.replicate_succ, Array.replicate_zero, List.push_toArray, List.append_toArray, List.nil_append, List.cons_append]
  have t0 : decide ((k : Int) < 0) = false := decide_eq_false (by omega)
  have t1 : decide ((64 : Int) ≤ (k : Int)) = false := decide_eq_false (by omega)
  gi_wp2_with fail
  apply S08.wpIn_scope
  gi_wp2_with fail
  apply wpIn_label
  gi_wp2_with fail
  refine ⟨trivial, callsIn_wide.2 ((fun40 _).mono ?_)⟩
  rintro e w1 ⟨rfl, rfl⟩
  gi_wp2_with fail
  obtain ⟨hbel, b0, b1, b2, b3, hz⟩ := cels4 w k 0 0 0
  have e0 : ((0 : Nat) : Int) = 0 := rfl
  simp only [e0] at hbel b0 b1 b2 b3 hz
  obtain ⟨D, hD⟩ : ∃ D, w.heap.size = D := ⟨_, rfl⟩
  obtain ⟨W0, hW0⟩ : ∃ W0, (((w.alloc (.cells #[.int .i64 k] 3)).alloc (.cells #[.int .i64 0] 3)).alloc (.cells #[.int .i64 0] 3)).alloc (.cells #[.int .i64 0] 3) = W0 := ⟨_, rfl⟩
  simp only [hD, hW0, Nat.add_assoc, Nat.reduceAdd] at hbel b0 b1 b2 b3 hz ⊢
  clear hW0 t0 t1
  have hstops := zig_stops 8 (by decide) W0
  refine wpIn_rangeFunc_ownH (n := 9) rfl (by decide) (gf := 54) (lb := #[]) rfl trivial (enters_of Tryd.func54 (by kernel_rfl) rfl) hstops (fun _ _ => trivial) (fun _ _ _ _ _ _ _ _ => trivial) (Below.refl _ _) (fun _ => rfl) (ZI D k w) (ZX D k w) (ZI_own D k w W0 hz) (ZX_own D k w W0 hz) ⟨b0, b3, ⟨0, b1⟩, ⟨0, b2⟩, Nat.zero_le _, hbel⟩
    (fun x a' W => a' = { tmps := #[.int .i64 k, .pointer (some ⟨D, 0, none⟩), .pointer (some ⟨D + 1, 0, none⟩), .pointer (some ⟨D + 2, 0, none⟩), .int .i64 0, .pointer (some ⟨D + 3, 0, none⟩), .int .i64 k, .bool false, .bool false, .int .i64 k, .bool false, .bool false, .func (.func 54) #[] #[], .int .i64 x.1.1, .int .i64 x.1.2, undef, undef, undef, undef, undef, undef, undef], defers := [] } ∧ Cel W (D + 1) x.1.1 ∧ Cel W (D + 2) x.1.2) ?own ?assign ?body ?done ?stop
  case own =>
    intro x a' u W W' row h hg hr
    have hne : ∀ k, k < W0.heap.size → some k ≠ row := fun k hk e => by have := (hr k e.symm).1; omega
    exact ⟨h.1, blk_grown h.2.1 hg (hne _ (by omega)), blk_grown h.2.2 hg (hne _ (by omega))⟩
  case assign =>
    intro l pre x W K h hK
    obtain ⟨i, hi⟩ := h.i
    obtain ⟨j, hj⟩ := h.j
    have c1 := hi.cell
    have f1 : W.frozen? ⟨D + 1, 0, none⟩ = false := blk_frozen hi _
    have hj2 := Cel.far hj (b := D + 1) (by omega) 0 (.int .i64 x.1.1)
    have c2 := hj2.cell
    have f2 : (W.setCell ⟨D + 1, 0, none⟩ (.int .i64 x.1.1)).frozen? ⟨D + 2, 0, none⟩ = false := blk_frozen hj2 _
    have e1 := Cel.far (O08.Cel.set hi x.1.1) (b := D + 2) (by omega) 0 (.int .i64 x.1.2)
    have e2 := O08.Cel.set hj2 x.1.2
    have k1 : ZI D k w pre ((W.setCell ⟨D + 1, 0, none⟩ (.int .i64 x.1.1)).setCell ⟨D + 2, 0, none⟩ (.int .i64 x.1.2)) :=
      ⟨Cel.far (Cel.far h.box (by omega) _ _) (by omega) _ _, Cel.far (Cel.far h.n (by omega) _ _) (by omega) _ _, ⟨_, e1⟩, ⟨_, e2⟩, h.le, (h.below.setCell (p := ⟨D + 1, 0, none⟩) (by simp) _).setCell (p := ⟨D + 2, 0, none⟩) (by simp) _⟩
    have HK := Aside0.mk hK
    have K1 := Aside0.mk k1
    have E1 := Aside0.mk e1
    have E2 := Aside0.mk e2
    clear hK k1 e1 e2 h hi hj hj2 hstops b0 b1 b2 b3 hbel
    unfold encZ
    gi_wp2_with fail
    exact HK.out _ _ (((KeepsOthers.setCell _ _ _).trans (KeepsOthers.setCell _ _ _)).from _) trivial K1.out ⟨rfl, E1.out, E2.out⟩
  case body =>
    rintro l pre x a' W hl hlp h ⟨rfl, hi, hj⟩ hN
    have c0 := h.box.cell
    have c3 := h.n.cell
    have f3 : W.frozen? ⟨D + 3, 0, none⟩ = false := blk_frozen h.n _
    have H := Aside0.mk h
    have HI := Aside0.mk hi
    have HJ := Aside0.mk hj
    have hle := h.le
    clear h hi hj hlp hstops b0 b1 b2 b3 hbel
    by_cases he : pre.length = k
    · have t : ((pre.length : Int) == (k : Int)) = true := by simp; omega
      gi_wp2_with fail
      exact ⟨KeepsFrom.refl _ _, rfl, ⟨pre, x, rfl, he, HI.out, HJ.out⟩, H.out.below⟩
    · have t : ((pre.length : Int) == (k : Int)) = false := by simp; omega
      gi_wp2_with fail
      refine ⟨(KeepsOthers.setCell _ _ _).from _, trivial, ⟨Cel.far H.out.box (by omega) _ _, ?_, ⟨_, Cel.far HI.out (by omega) _ _⟩, ⟨_, Cel.far HJ.out (by omega) _ _⟩, by rw [List.length_append]; simp; omega, H.out.below.setCell (p := ⟨D + 3, 0, none⟩) (by simp) _⟩⟩
      have := O08.Cel.set H.out.n (pre.length + 1)
      simpa using this
  case done =>
    intro E xs W hE hS h hK
    have := h.le
    have h2 := vals_len xs
    rw [hS, zz15_len] at h2
    omega
  case stop =>
    rintro E c pre W hE ⟨rest, hrest⟩ ⟨rfl, ⟨p0, x, rfl, hp0, hi, hj⟩, hbl⟩ hK
    have hz1 : zAt k = x.1 := by
      unfold zAt
      rw [← hrest, vals_snoc, List.append_assoc, List.getD_eq_getElem?_getD, List.getElem?_append_right (by rw [vals_len]; omega), vals_len, hp0]
      simp
    have c1 := hi.cell
    have c2 := hj.cell
    have f1 : W.frozen? ⟨D + 1, 0, none⟩ = false := blk_frozen hi _
    have f2 : W.frozen? ⟨D + 2, 0, none⟩ = false := blk_frozen hj _
    have HI := Aside0.mk hi
    have HJ := Aside0.mk hj
    have HK := Aside0.mk hK
    have HB := Aside0.mk hbl
    have HZ := Aside0.mk hz1
    clear hi hj hK hbl hz1 hrest hstops b0 b1 b2 b3 hbel hp0
    gi_wp2_with fail
    gi_region
    all_goals gi_wp2_with fail
    all_goals
      have hK' := farO (j := 0) (farO (j := 0) HK.out (g := D + 1) (by omega) (.int .i64 x.1.1)) (g := D + 2) (by omega) (.int .i64 x.1.2)
      have y1 := Cel.far (O08.Cel.set HI.out x.1.1) (b := D + 2) (by omega) 0 (.int .i64 x.1.2)
      have y2 := O08.Cel.set (Cel.far HJ.out (b := D + 1) (by omega) 0 (.int .i64 x.1.1)) x.1.2
      have x1 := put_cell y1 (E := E) (by omega) (.deferred none)
      have x2 := put_cell y2 (E := E) (by omega) (.deferred none)
      refine ⟨by simp, .inl ⟨_, _, rfl, run_takeDeferred (w := World.drew _) hK', ?_⟩⟩
      refine ⟨_, by simp [results, Tryd.f18, go_sem, put_drew, x1, x2, HZ.out], rfl, ?_⟩
      rw [hD]
      exact below_put (((HB.out.setCell (p := ⟨D + 1, 0, none⟩) (by simp) _).setCell (p := ⟨D + 2, 0, none⟩) (by simp) _).drew) E _ _ (by omega) hK'
set_option maxHeartbeats 1000000 in
theorem bound_call (q : Int) (h1 : 1 ≤ q) (h2 : q ≤ 255) (w : World) : Calls Tryd.prog 20 #[.int .i64 q] w fun e w' => e = .returned (.tuple #[.int .i64 ((17 * q + 100) / 200), .int .i64 0]) ∧ w = w' := by
  have t0 : decide (q < 1) = false := decide_eq_false (by omega)
  have t1 : decide (255 < q) = false := decide_eq_false (by omega)
  go_enter Tryd.func20, Tryd.ntmps20
  go_wp2
  go_ret2
  exact ⟨rfl, rfl⟩
set_option maxHeartbeats 1000000 in
theorem bound_bad (q : Int) (hq : q < 1 ∨ 255 < q) (w : World) : Calls Tryd.prog 20 #[.int .i64 q] w fun e w' => e = .returned (.tuple #[.int .i64 0, .int .i64 2]) ∧ w = w' := by
  by_cases h : q < 1
  · have t0 : decide (q < 1) = true := decide_eq_true h
    go_enter Tryd.func20, Tryd.ntmps20
    go_wp2
    go_ret2
    exact ⟨rfl, rfl⟩
  · have t0 : decide (q < 1) = false := decide_eq_false h
    have t1 : decide (255 < q) = true := decide_eq_true (by omega)
    go_enter Tryd.func20, Tryd.ntmps20
    go_wp2
    go_ret2
    exact ⟨rfl, rfl⟩
end Go.Proofs.YtmbdjajmiggiaaaDoor.O08
