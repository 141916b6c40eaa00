/- The zigzag order (chapter 08): the iterator cosine.zigzag, the table of places, Zigzag, Bound. -/
import Derived.Test.YtmbdjajmiggiaaaDoorG08f
import Derived.RangeFuncNested
import Derived.RangeFuncBound
import Derived.RangeFuncCalls
import Derived.RangeFuncLeaves
import Derived.Shelf.Abstract
import Derived.Sort.QuietIn
import Derived.OwnWalkIn
import Derived.TacticsInMore
import Derived.LoopNIn
import Derived.LoopIn
namespace Go.Proofs.YtmbdjajmiggiaaaDoor.Z08
open Go.Proofs.YtmbdjajmiggiaaaDoor.K08 Go.Proofs.YtmbdjajmiggiaaaDoor.G08 Go.Proofs.YtmbdjajmiggiaaaDoor.G08f
open Go.RowKit Go.Proofs.YtmbdjajmiggiaaaDoorW.PrintWords Go.Proofs.YtmbdjajmiggiaaaDoorW.PrintLast Go.Proofs.YtmbdjajmiggiaaaDoorW.PrintMore
set_option linter.unusedVariables false
set_option maxRecDepth 100000
/-- The row of the t-th element of diagonal s. -/
def pr (s t : Nat) : Nat := if s % 2 = 0 then s - t else t
def rowz (s k : Nat) : List (Nat × Nat) := (List.range k).filterMap fun t => if pr s t < 8 ∧ s - pr s t < 8 then some (pr s t, s - pr s t) else none
/-- The elements of the diagonals below s. -/
def zz (s : Nat) : List (Nat × Nat) := (List.range s).flatMap fun t => rowz t (t + 1)
theorem rowz_succ (s k : Nat) : rowz s (k + 1) = rowz s k ++ if pr s k < 8 ∧ s - pr s k < 8 then [(pr s k, s - pr s k)] else [] := by
  unfold rowz
  rw [List.range_succ, List.filterMap_append]
  congr 1
  simp only [List.filterMap_cons, List.filterMap_nil]
  split <;> rename_i h <;> split at h <;> simp_all
theorem zz_succ (s : Nat) : zz (s + 1) = zz s ++ rowz s (s + 1) := by
  unfold zz
  rw [List.range_succ, List.flatMap_append]
  simp
theorem zz_len : ∀ s, s < 15 → ∀ k, k ≤ s → pr s k < 8 ∧ s - pr s k < 8 → (zz s ++ rowz s k).length < 64 := by decide +kernel
theorem zz_more (s k : Nat) (hs : s < 15) (hk : k ≤ s) : ∃ rest, zz s ++ rowz s (k + 1) ++ rest = zz 15 := by
  have h1 : ∀ d, s + 1 + d ≤ 15 → ∃ rest, zz (s + 1) ++ rest = zz (s + 1 + d) := by
    intro d
    induction d with
    | zero => intro _; exact ⟨[], by simp⟩
    | succ d ih => intro h; obtain ⟨r, hr⟩ := ih (by omega); exact ⟨r ++ rowz (s + 1 + d) (s + 1 + d + 1), by rw [← List.append_assoc, hr, ← Nat.add_assoc, zz_succ]⟩
  have h2 : ∀ d, k + 1 + d ≤ s + 1 → ∃ rest, rowz s (k + 1) ++ rest = rowz s (k + 1 + d) := by
    intro d
    induction d with
    | zero => intro _; exact ⟨[], by simp⟩
    | succ d ih => intro h; obtain ⟨r, hr⟩ := ih (by omega); exact ⟨_, by rw [← Nat.add_assoc, rowz_succ s (k + 1 + d), ← hr, List.append_assoc]⟩
  obtain ⟨r1, e1⟩ := h1 (15 - (s + 1)) (by omega)
  obtain ⟨r2, e2⟩ := h2 (s - k) (by omega)
  rw [show s + 1 + (15 - (s + 1)) = 15 by omega, zz_succ] at e1
  rw [show k + 1 + (s - k) = s + 1 by omega] at e2
  exact ⟨r2 ++ r1, by rw [← e1, ← e2]; simp⟩
abbrev Pz := { x : Nat × Nat // x.1 < 8 ∧ x.2 < 8 }
def encZ (x : Pz) : Array Value := #[.int .i64 x.1.1, .int .i64 x.1.2]
def vals (l : List Pz) : List (Nat × Nat) := l.map Subtype.val
theorem vals_snoc (l : List Pz) (x : Pz) : vals (l ++ [x]) = vals l ++ [x.1] := by unfold vals; rw [List.map_append]; rfl
theorem vals_len (l : List Pz) : (vals l).length = l.length := List.length_map _
theorem fun40 (w : World) : Calls Tryd.prog 40 #[] w fun e w' => e = .returned (.func (.func 54) #[] #[]) ∧ w' = w := by
  go_enter Tryd.func40, Tryd.ntmps40
  go_wp2
  go_ret
  exact ⟨rfl, rfl⟩
set_option maxHeartbeats 4000000 in
theorem zig_stops (n : Nat) (hn : 1 ≤ n) (w : World) :
    SeqStopsK Fence.wide n Tryd.prog 54 #[] encZ (fun _ _ => True) (fun xs => vals xs = zz 15) (fun pre => ∃ rest, vals pre ++ rest = zz 15) 64 w := by
  intro lr J Jx W hW hJ hJx hY h0
  refine callsIn_of_wp Tryd.func54 rfl trivial ?_ rfl
  simp only [Tryd.ntmps54, List.size_toArray, List.length_cons, List.length_nil, Nat.reduceAdd, Nat.reduceSub, Array.replicate_succ, Array.replicate_zero, List.push_toArray, List.append_toArray, List.nil_append, List.cons_append]
  have HY := Aside0.mk hY
  have HJX := Aside0.mk hJx
  have H0 := Aside0.mk h0
  clear hW hY hJx h0 hJ
  gi_wp2
  gi_loopw [5] (fun vo wr => ∃ (s : Nat) (pre : List Pz), vo = .int .i64 s ∧ s ≤ 15 ∧ Aside0 (vals pre = zz s) ∧ Aside0 (J pre wr)) (fun vo _ => 15 - (intOf vo).toNat)
  case atStart => exact ⟨0, [], rfl, by omega, ⟨rfl⟩, H0⟩
  case round =>
    clear H0
    obtain ⟨s, p0, rfl, hs, HV0, HJ0⟩ := hrel
    by_cases hlt : s < 15
    · have d0 : decide ((s : Int) < 15) = true := decide_eq_true (by omega)
      obtain ⟨wo, rfl⟩ : ∃ wo, wo = wr := ⟨_, rfl⟩
      gi_wp2
      gi_loopw [10] (fun vi w2 => ∃ (k : Nat) (pre : List Pz), vi = .int .i64 k ∧ k ≤ s + 1 ∧ Aside0 (vals pre = zz s ++ rowz s k) ∧ Aside0 (J pre w2)) (fun vi _ => s + 1 - (intOf vi).toNat)
      case atStart => exact ⟨0, p0, rfl, by omega, ⟨by simpa [rowz] using HV0.out⟩, HJ0⟩
      case round =>
        obtain ⟨k, pre, rfl, hk, HV2, HJ2⟩ := hrel
        by_cases hlt2 : k < s + 1
        · have d2 : decide ((k : Int) < (s : Int) + 1) = true := decide_eq_true (by omega)
          have HSU := Aside0.mk (rowz_succ s k)
          by_cases hp : s % 2 = 0
          ·
            obtain ⟨i, hi⟩ : ∃ i : Nat, pr s k = i := ⟨_, rfl⟩
            have hii : s - k = i := by rw [← hi]; unfold pr; rw [if_pos hp]
            have t0 : ((s : Int) % 2 == 0) = true := by simp; omega
            have ei : (s : Int) - (k : Int) = (i : Int) := by omega
            rw [hi] at HSU
            have HI := Aside0.mk hi
            clear hi
            by_cases h1 : i < 8
            · have t1 : decide ((i : Int) < 8) = true := decide_eq_true (by omega)
              obtain ⟨j, hj⟩ : ∃ j : Nat, s - i = j := ⟨_, rfl⟩
              have ej : (s : Int) - (i : Int) = (j : Int) := by omega
              rw [hj] at HSU
              have HJJ := Aside0.mk hj
              clear hj
              by_cases h2 : j < 8
              · have t2 : decide ((j : Int) < 8) = true := decide_eq_true (by omega)
                have hsu := HSU.out
                rw [if_pos ⟨h1, h2⟩] at hsu
                have HSU2 := Aside0.mk hsu
                clear hsu HSU
                obtain ⟨fn, tmps, assign, body, hy, hR⟩ := HY.out pre ⟨(i, j), h1, h2⟩ _ HJ2.out (by have := zz_len s hlt k (by omega) (by rw [HI.out, HJJ.out]; exact ⟨h1, h2⟩); rw [← HV2.out, vals_len] at this; exact this)
                dsimp only [encZ] at hy
                gi_wp2_with fail
                refine hR.mono ?_
                rintro e W' (⟨rfl, hJ', hkk⟩ | ⟨rfl, hJx'⟩)
                · have HJ3 := Aside0.mk hJ'
                  have HV3 : Aside0 (vals (pre ++ [⟨(i, j), h1, h2⟩]) = zz s ++ rowz s (k + 1)) := ⟨by rw [HSU2.out, ← List.append_assoc, vals_snoc, HV2.out]⟩
                  clear hJ' hkk hy hR
                  gi_wp2_with fail
                  go_roundw
                  case measure => simp [intOf]; omega
                  case rel => exact ⟨k + 1, _, by go_num, by omega, HV3, HJ3⟩
                · have HJ3 := Aside0.mk hJx'
                  have HV3 : Aside0 (vals (pre ++ [⟨(i, j), h1, h2⟩]) = zz s ++ rowz s (k + 1)) := ⟨by rw [HSU2.out, ← List.append_assoc, vals_snoc, HV2.out]⟩
                  clear hJx' hy hR
                  gi_wp2_with fail
                  refine bodyPost_ret (results_none rfl _ _ _) rfl ?_
                  exact ⟨⟨_, rfl⟩, .inr ⟨_, by rw [HV3.out]; exact zz_more s k hlt (by omega), HJ3.out⟩⟩
              · have t2 : decide ((j : Int) < 8) = false := decide_eq_false (by omega)
                have hsu := HSU.out
                rw [if_neg (by omega), List.append_nil] at hsu
                have HV3 : Aside0 (vals pre = zz s ++ rowz s (k + 1)) := ⟨by rw [hsu]; exact HV2.out⟩
                clear hsu HSU
                gi_wp2_with fail
                refine ⟨(fun _ h => by cases h), ?_⟩
                gi_wp2_with fail
                go_roundw
                case measure => simp [intOf]; omega
                case rel => exact ⟨k + 1, pre, by go_num, by omega, HV3, HJ2⟩
            · have t1 : decide ((i : Int) < 8) = false := decide_eq_false (by omega)
              have hsu := HSU.out
              rw [if_neg (by omega), List.append_nil] at hsu
              have HV3 : Aside0 (vals pre = zz s ++ rowz s (k + 1)) := ⟨by rw [hsu]; exact HV2.out⟩
              clear hsu HSU
              gi_wp2_with fail
              refine ⟨(fun _ h => by cases h), ?_⟩
              gi_wp2_with fail
              go_roundw
              case measure => simp [intOf]; omega
              case rel => exact ⟨k + 1, pre, by go_num, by omega, HV3, HJ2⟩
          ·
            obtain ⟨i, hi⟩ : ∃ i : Nat, pr s k = i := ⟨_, rfl⟩
            have hii : k = i := by rw [← hi]; unfold pr; rw [if_neg hp]
            have t0 : ((s : Int) % 2 == 0) = false := by simp; omega
            subst hii
            rw [hi] at HSU
            have HI := Aside0.mk hi
            clear hi
            by_cases h1 : k < 8
            · have t1 : decide ((k : Int) < 8) = true := decide_eq_true (by omega)
              obtain ⟨j, hj⟩ : ∃ j : Nat, s - k = j := ⟨_, rfl⟩
              have ej : (s : Int) - (k : Int) = (j : Int) := by omega
              rw [hj] at HSU
              have HJJ := Aside0.mk hj
              clear hj
              by_cases h2 : j < 8
              · have t2 : decide ((j : Int) < 8) = true := decide_eq_true (by omega)
                have hsu := HSU.out
                rw [if_pos ⟨h1, h2⟩] at hsu
                have HSU2 := Aside0.mk hsu
                clear hsu HSU
                obtain ⟨fn, tmps, assign, body, hy, hR⟩ := HY.out pre ⟨(k, j), h1, h2⟩ _ HJ2.out (by have := zz_len s hlt k (by omega) (by rw [HI.out, HJJ.out]; exact ⟨h1, h2⟩); rw [← HV2.out, vals_len] at this; exact this)
                dsimp only [encZ] at hy
                gi_wp2_with fail
                refine hR.mono ?_
                rintro e W' (⟨rfl, hJ', hkk⟩ | ⟨rfl, hJx'⟩)
                · have HJ3 := Aside0.mk hJ'
                  have HV3 : Aside0 (vals (pre ++ [⟨(k, j), h1, h2⟩]) = zz s ++ rowz s (k + 1)) := ⟨by rw [HSU2.out, ← List.append_assoc, vals_snoc, HV2.out]⟩
                  clear hJ' hkk hy hR
                  gi_wp2_with fail
                  go_roundw
                  case measure => simp [intOf]; omega
                  case rel => exact ⟨k + 1, _, by go_num, by omega, HV3, HJ3⟩
                · have HJ3 := Aside0.mk hJx'
                  have HV3 : Aside0 (vals (pre ++ [⟨(k, j), h1, h2⟩]) = zz s ++ rowz s (k + 1)) := ⟨by rw [HSU2.out, ← List.append_assoc, vals_snoc, HV2.out]⟩
                  clear hJx' hy hR
                  gi_wp2_with fail
                  refine bodyPost_ret (results_none rfl _ _ _) rfl ?_
                  exact ⟨⟨_, rfl⟩, .inr ⟨_, by rw [HV3.out]; exact zz_more s k hlt (by omega), HJ3.out⟩⟩
              · have t2 : decide ((j : Int) < 8) = false := decide_eq_false (by omega)
                have hsu := HSU.out
                rw [if_neg (by omega), List.append_nil] at hsu
                have HV3 : Aside0 (vals pre = zz s ++ rowz s (k + 1)) := ⟨by rw [hsu]; exact HV2.out⟩
                clear hsu HSU
                gi_wp2_with fail
                refine ⟨(fun _ h => by cases h), ?_⟩
                gi_wp2_with fail
                go_roundw
                case measure => simp [intOf]; omega
                case rel => exact ⟨k + 1, pre, by go_num, by omega, HV3, HJ2⟩
            · have t1 : decide ((k : Int) < 8) = false := decide_eq_false (by omega)
              have hsu := HSU.out
              rw [if_neg (by omega), List.append_nil] at hsu
              have HV3 : Aside0 (vals pre = zz s ++ rowz s (k + 1)) := ⟨by rw [hsu]; exact HV2.out⟩
              clear hsu HSU
              gi_wp2_with fail
              refine ⟨(fun _ h => by cases h), ?_⟩
              gi_wp2_with fail
              go_roundw
              case measure => simp [intOf]; omega
              case rel => exact ⟨k + 1, pre, by go_num, by omega, HV3, HJ2⟩
        · obtain rfl : k = s + 1 := by omega
          have d2 : decide (((s + 1 : Nat) : Int) < (s : Int) + 1) = false := decide_eq_false (by omega)
          have HV3 : Aside0 (vals pre = zz (s + 1)) := ⟨by rw [zz_succ]; exact HV2.out⟩
          gi_wp2_with fail
          go_roundw
          case measure => simp [intOf]; omega
          case rel => exact ⟨s + 1, pre, by go_num, by omega, HV3, HJ2⟩
    · obtain rfl : s = 15 := by omega
      gi_wp2_with fail
      go_end0
      exact ⟨⟨_, rfl⟩, .inl ⟨_, HV0.out, HJ0.out⟩⟩
end Go.Proofs.YtmbdjajmiggiaaaDoor.Z08

