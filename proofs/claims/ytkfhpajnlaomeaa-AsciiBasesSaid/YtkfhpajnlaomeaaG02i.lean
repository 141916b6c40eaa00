/- What is left of a string without white space: the iterator ascii.solid. -/
import Derived.Test.YtkfhpajnlaomeaaM02
import Derived.WalkSpells
import Derived.RangeFuncNested
import Derived.RangeFuncBound
import Derived.RangeFuncCalls
import Derived.RangeFuncLeaves
import Derived.Shelf.Abstract
import Derived.Sort.QuietIn
import Derived.WalkKit
import Derived.OwnWalkIn
import Derived.TacticsInMore
import Derived.LoopNIn
import Derived.LoopIn
import Derived.KernelRfl
import Derived.Deep.LoopGhost
import Derived.Deep.QuietTactic
import Derived.BigQuiet
import Derived.Deep.DeepCutAuto
namespace Go.Proofs.Ytkfhpajnlaomeaa.G02i
open Go.RowKit Go.Proofs.YtkfhpajnlaomeaaW.PrintWords Go.Proofs.YtkfhpajnlaomeaaW.PrintLast Go.Proofs.YtkfhpajnlaomeaaW.PrintMore
open Go.Proofs.Ytkfhpajnlaomeaa.K02 Go.Proofs.Ytkfhpajnlaomeaa.B02 Go.Proofs.Ytkfhpajnlaomeaa.M02
set_option linter.unusedVariables false
set_option maxRecDepth 100000
theorem blank_call (c : Int) (w : World) : Calls Try.prog 56 #[.int .u8 c] w fun e w' => e = .returned (.bool (blankC c)) ∧ w' = w := by
  obtain ⟨r, hr⟩ : ∃ r, blankC c = r := ⟨_, rfl⟩
  rw [hr]
  unfold blankC at hr
  cases h1 : (c == 0) with
  | true => 
    rw [h1] at hr; simp only [Bool.true_or] at hr; subst hr
    go_enter Try.func56, Try.ntmps56
    go_wp2
    go_ret
    exact ⟨rfl, rfl⟩
  | false =>
  cases h2 : (c == 9) with
  | true => 
    rw [h1, h2] at hr; simp only [Bool.true_or, Bool.false_or] at hr; subst hr
    go_enter Try.func56, Try.ntmps56
    go_wp2
    go_ret
    exact ⟨rfl, rfl⟩
  | false =>
  cases h3 : (c == 10) with
  | true => 
    rw [h1, h2, h3] at hr; simp only [Bool.true_or, Bool.false_or] at hr; subst hr
    go_enter Try.func56, Try.ntmps56
    go_wp2
    go_ret
    exact ⟨rfl, rfl⟩
  | false =>
  cases h4 : (c == 12) with
  | true => 
    rw [h1, h2, h3, h4] at hr; simp only [Bool.true_or, Bool.false_or] at hr; subst hr
    go_enter Try.func56, Try.ntmps56
    go_wp2
    go_ret
    exact ⟨rfl, rfl⟩
  | false =>
  cases h5 : (c == 13) with
  | true => 
    rw [h1, h2, h3, h4, h5] at hr; simp only [Bool.true_or, Bool.false_or] at hr; subst hr
    go_enter Try.func56, Try.ntmps56
    go_wp2
    go_ret
    exact ⟨rfl, rfl⟩
  | false =>
    rw [h1, h2, h3, h4, h5] at hr; simp only [Bool.false_or] at hr; subst hr
    go_enter Try.func56, Try.ntmps56
    go_wp2
    go_ret
    exact ⟨rfl, rfl⟩
def Kp (bx : Nat) (W W' : World) : Prop := W'.heap[bx]? = W.heap[bx]?
theorem Kp_t {bx : Nat} {A B C : World} (h : Kp bx A B) (k : Kp bx B C) : Kp bx A C := k.trans h
theorem Kp_b {bx : Nat} {w : World} (hbx : bx < w.heap.size) (W : World) (l : Nat) (o o' : Obj) (hl : w.heap.size ≤ l) (_ : W.heap[l]? = some o) (_ : o.isCells = false) (_ : o.isWalk = false) : Kp bx W (W.putObj l o') :=
  World.putObj_heap_other (by omega)
/-- An octet with its index. -/
abbrev Ch := { x : Nat × Int // 0 ≤ x.2 ∧ x.2 < 256 ∧ x.1 < 65536 }
def enc (x : Ch) : Array Value := #[.int .i64 x.1.1, .int .u8 x.1.2]
def vals (l : List Ch) : List (Nat × Int) := l.map Subtype.val
theorem vals_snoc (l : List Ch) (x : Ch) : vals (l ++ [x]) = vals l ++ [x.1] := by unfold vals; rw [List.map_append]; rfl
theorem sol_cons (l : List Int) (i : Nat) (h : i < l.length) : sol (l.drop i) i = if blankC (l.getD i 0) then sol (l.drop (i + 1)) (i + 1) else (i, l.getD i 0) :: sol (l.drop (i + 1)) (i + 1) := by
  rw [List.drop_eq_getElem_cons h, List.getD_eq_getElem?_getD, List.getElem?_eq_getElem h]
  rfl
theorem solid_stops (n : Nat) (hn : 1 ≤ n) (bx : Nat) (s : ByteArray) (w : World) (hx : w.heap[bx]? = some (.cells #[.string s] 9 (0, 0))) (hl2 : s.size ≤ 65536) :
    SeqStopsK Fence.wide n Try.prog 55 #[.pointer (some ⟨bx, 0, none⟩)] enc (Kp bx) (fun xs => vals xs = sol (bytesOf s) 0) (fun pre => ∃ rest, vals pre ++ rest = sol (bytesOf s) 0) (s.size + 1) w := by
  intro lr J Jx W hW hJ hJx hY h0
  refine callsIn_of_wp Try.func55 rfl trivial ?_ rfl
  simp only [Try.ntmps55, List.size_toArray, List.length_cons, List.length_nil, Nat.reduceAdd, Nat.reduceSub, Array.replicate_succ, Array.replicate_zero, List.push_toArray, List.append_toArray, List.nil_append, List.cons_append]
  have hx' : W.heap[bx]? = some (.cells #[.string s] 9 (0, 0)) := (hW.block bx (blk_lt hx)).trans hx
  have hcx : W.cell? ⟨bx, 0, none⟩ = some (.string s) := blk_cell hx' 0
  have HX := Aside0.mk hx'
  have HY := Aside0.mk hY
  have HJ := Aside0.mk hJ
  have HJX := Aside0.mk hJx
  have H0 := Aside0.mk h0
  clear hx hx' hW hY hJ hJx h0
  gi_wp2
  clear hcx
  gi_loopw [6] (fun v6 wr => ∃ (i : Nat) (pre : List Ch), v6 = .int .i64 i ∧ i ≤ s.size ∧ Aside0 (pre.length ≤ i) ∧ Aside0 (vals pre ++ sol ((bytesOf s).drop i) i = sol (bytesOf s) 0) ∧ Aside0 (J pre wr) ∧ Aside0 (wr.heap[bx]? = some (.cells #[.string s] 9 (0, 0)))) (fun v6 _ => s.size - (intOf v6).toNat)
  case atStart => exact ⟨0, [], rfl, Nat.zero_le _, ⟨Nat.zero_le _⟩, ⟨by simp [vals]⟩, H0, HX⟩
  case round =>
    obtain ⟨i, pre, rfl, hi, HK, HR, HJ0, HX⟩ := hrel
    have hcx : wr.cell? ⟨bx, 0, none⟩ = some (.string s) := blk_cell HX.out 0
    by_cases hlt : i < s.size
    · obtain ⟨x, hx⟩ : ∃ x, (bytesOf s).getD i 0 = x := ⟨_, rfl⟩
      have q0 : ∀ h, ((s[i]'h).toNat : Int) = x := fun h => by
        rw [← hx]
        unfold bytesOf
        have hml : i < s.data.toList.length := by rw [data_len]; exact hlt
        simp [List.getD_eq_getElem?_getD, List.getElem?_eq_getElem hml]
        rfl
      have hxr : 0 ≤ x ∧ x < 256 := by
        rw [← hx, List.getD_eq_getElem?_getD, List.getElem?_eq_getElem (by rw [bytesOf_len]; exact hlt)]
        exact bytesOf_range s _ (List.getElem_mem _)
      have HPF : Aside0 (0 ≤ ((i, x) : Nat × Int).2 ∧ ((i, x) : Nat × Int).2 < 256 ∧ ((i, x) : Nat × Int).1 < 65536) := ⟨hxr.1, hxr.2, by simp only; omega⟩
      clear hxr
      have q1 : (i : Int) < (s.size : Int) := by omega
      have HR2 := HR.out
      rw [sol_cons _ i (by rw [bytesOf_len]; exact hlt), hx] at HR2
      cases hb : blankC x with
      | true =>
        rw [hb, if_pos rfl] at HR2
        have HR3 := Aside0.mk HR2
        clear HR2 HR hx
        gi_wp2_with fail
        refine ⟨trivial, callsIn_wide.2 ((blank_call _ _).mono ?_)⟩
        rintro e w1 ⟨rfl, rfl⟩
        rw [hb]
        gi_wp2_with fail
        refine ⟨(fun _ h => by cases h), ?_⟩
        gi_wp2_with fail
        go_roundw
        case measure => simp [intOf]; omega
        case rel => exact ⟨i + 1, pre, by go_num, by omega, ⟨by have := HK.out; omega⟩, HR3, HJ0, HX⟩
      | false =>
        rw [hb] at HR2
        simp only [Bool.false_eq_true, if_false] at HR2
        have HR3 := Aside0.mk HR2
        clear HR2 HR hx
        gi_wp2_with fail
        refine ⟨trivial, callsIn_wide.2 ((blank_call _ _).mono ?_)⟩
        rintro e w1 ⟨rfl, rfl⟩
        rw [hb]
        obtain ⟨fn, tmps, assign, body, hy, hR⟩ := HY.out pre ⟨(i, x), HPF.out⟩ _ HJ0.out (by have := HK.out; omega)
        dsimp only [enc] at hy
        gi_wp2_with fail
        refine hR.mono ?_
        rintro e W' (⟨rfl, hJ', hk⟩ | ⟨rfl, hJx'⟩)
        · gi_wp2_with fail
          go_roundw
          case measure => simp [intOf]; omega
          case rel =>
            exact ⟨i + 1, pre ++ [⟨(i, x), HPF.out⟩], by go_num, by omega, ⟨by rw [List.length_append]; simp; exact HK.out⟩, ⟨by rw [vals_snoc, List.append_assoc]; exact HR3.out⟩, ⟨hJ'⟩, ⟨Eq.trans hk HX.out⟩⟩
        · gi_wp2_with fail
          refine bodyPost_ret (results_none rfl _ _ _) rfl ?_
          exact ⟨⟨_, rfl⟩, .inr ⟨_, ⟨_, by rw [vals_snoc, List.append_assoc]; exact HR3.out⟩, hJx'⟩⟩
    · obtain rfl : i = s.size := by omega
      have q1 : decide ((s.size : Int) < (s.size : Int)) = false := by simp
      gi_wp2_with fail
      go_end0
      have HR2 := HR.out
      rw [List.drop_of_length_le (by rw [bytesOf_len]; exact Nat.le_refl _)] at HR2
      simp only [sol, List.append_nil] at HR2
      exact ⟨⟨_, rfl⟩, .inl ⟨pre, HR2, HJ0.out⟩⟩
end Go.Proofs.Ytkfhpajnlaomeaa.G02i
