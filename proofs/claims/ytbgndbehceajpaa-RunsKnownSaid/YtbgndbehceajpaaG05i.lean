/- The iterator over the runs of equal octets (runs.runs): for every loop body that keeps the octets. -/
import Derived.Test.YtbgndbehceajpaaProg
import Derived.WalkSpells
import Derived.RangeFuncNested
import Derived.RangeFuncBound
import Derived.RangeFuncCalls
import Derived.RangeFuncLeaves
import Derived.Shelf.Abstract
import Derived.Sort.QuietIn
import Derived.WalkKit
import Derived.OwnWalkIn
import Derived.TacticsInMore
import Derived.LoopNIn
import Derived.LoopIn
import Derived.KernelRfl
import Derived.Deep.LoopGhost
import Derived.Deep.QuietTactic
import Derived.BigQuiet
import Derived.Deep.DeepCutAuto
import Derived.Test.YtbgndbehceajpaaWWords
import Derived.Test.YtbgndbehceajpaaWLast
import Derived.Test.YtbgndbehceajpaaWMore
namespace Go.Proofs.Ytbgndbehceajpaa.G05i
open Go.RowKit Go.Proofs.YtbgndbehceajpaaW.PrintWords Go.Proofs.YtbgndbehceajpaaW.PrintLast Go.Proofs.YtbgndbehceajpaaW.PrintMore
set_option linter.unusedVariables false
set_option maxRecDepth 100000
attribute [local go_sem] Oper.semAt_some
/-- The runs of equal octets of a list, from an index on: where each begins and ends. -/
def same (l : List Int) (i : Nat) : Nat := ((l.drop i).takeWhile (· == l.getD i 0)).length
/-- Where a run begins and ends. -/
abbrev Rn (l : List Int) := { p : Nat × Nat // p.1 < p.2 ∧ p.2 ≤ l.length }
def Kp (bx bb : Nat) (W W' : World) : Prop := W'.heap[bx]? = W.heap[bx]? ∧ W'.heap[bb]? = W.heap[bb]?
def enc {l : List Int} (bb C : Nat) (p : Rn l) : Array Value := #[.slice (some ⟨bb, p.1.1, none⟩) (p.1.2 - p.1.1) (C - p.1.1)]
def Octets (W : World) (bb : Nat) (l : List Int) : Prop := ∀ j, j < l.length → W.cell? ⟨bb, j, none⟩ = some (.int .u8 (l.getD j 0))
theorem same_le (l : List Int) (i : Nat) (h : i < l.length) : i + same l i ≤ l.length := by
  unfold same
  have := (List.takeWhile_sublist (fun x => x == l.getD i 0) (l := l.drop i)).length_le
  rw [List.length_drop] at this
  omega
/-- The run goes on as long as the octets are equal, and no further. -/
theorem same_more (l : List Int) (i m : Nat) (him : i ≤ m) (hm : m ≤ i + same l i) (hl : m < l.length) (he : l.getD m 0 = l.getD i 0) : m + 1 ≤ i + same l i := by
  rcases Nat.lt_or_ge m (i + same l i) with h | h
  · exact h
  · exfalso
    have hme : m = i + same l i := by omega
    obtain ⟨p, hp⟩ : ∃ p : Int → Bool, (fun x => x == l.getD i 0) = p := ⟨_, rfl⟩
    have hs : same l i = ((l.drop i).takeWhile p).length := by rw [← hp]; rfl
    have hpm : p (l.getD m 0) = true := by rw [← hp]; simpa using he
    have hsplit := List.takeWhile_append_dropWhile (p := p) (l := l.drop i)
    have hne : (l.drop i).dropWhile p ≠ [] := by
      intro h0
      have := congrArg List.length hsplit
      rw [h0, List.append_nil, ← hs, List.length_drop] at this
      omega
    have hhead := List.head_dropWhile_not p hne
    have hg : (l.drop i).getD (m - i) 0 = ((l.drop i).dropWhile p).head hne := by
      conv => lhs; rw [← hsplit]
      rw [List.getD_eq_getElem?_getD, List.getElem?_append_right (by rw [← hs]; omega), ← hs, show m - i - same l i = 0 from by omega, ← List.head?_eq_getElem?, List.head?_eq_some_head hne]
      rfl
    have hd : (l.drop i).getD (m - i) 0 = l.getD m 0 := by
      rw [List.getD_eq_getElem?_getD, List.getElem?_drop, show i + (m - i) = m from by omega, ← List.getD_eq_getElem?_getD]
    rw [← hg, hd, hpm] at hhead
    cases hhead
theorem same_in (l : List Int) (i m : Nat) (him : i ≤ m) (hm : m < i + same l i) : l.getD m 0 = l.getD i 0 := by
  obtain ⟨p, hp⟩ : ∃ p : Int → Bool, (fun x => x == l.getD i 0) = p := ⟨_, rfl⟩
  have hs : same l i = ((l.drop i).takeWhile p).length := by rw [← hp]; rfl
  have hsplit := List.takeWhile_append_dropWhile (p := p) (l := l.drop i)
  have hd : (l.drop i).getD (m - i) 0 = l.getD m 0 := by
    rw [List.getD_eq_getElem?_getD, List.getElem?_drop, show i + (m - i) = m from by omega, ← List.getD_eq_getElem?_getD]
  have hlt : m - i < ((l.drop i).takeWhile p).length := by rw [← hs]; omega
  rw [← hd]
  conv => lhs; rw [← hsplit]
  rw [List.getD_eq_getElem?_getD, List.getElem?_append_left hlt, List.getElem?_eq_getElem hlt]
  have := List.all_takeWhile (p := p) (l := l.drop i)
  rw [List.all_eq_true] at this
  have h := this _ (List.getElem_mem hlt)
  generalize (List.takeWhile p (List.drop i l))[m - i] = z at h ⊢
  rw [← hp] at h
  simpa using h
theorem same_pos (l : List Int) (i : Nat) (h : i < l.length) : 1 ≤ same l i := by
  have := same_more l i i (Nat.le_refl _) (Nat.le_add_right _ _) h rfl
  omega
def runs (l : List Int) : Nat → Nat → List (Rn l)
  | 0, _ => []
  | k + 1, i => if h : i < l.length then ⟨(i, i + same l i), by have := same_pos l i h; have := same_le l i h; constructor <;> simp only <;> omega⟩ :: runs l k (i + same l i) else []
theorem runs_at (l : List Int) (k i m : Nat) (h : i < l.length) (hm : m = i + same l i) (pf : (i, m).1 < (i, m).2 ∧ (i, m).2 ≤ l.length) : runs l (k + 1) i = ⟨(i, m), pf⟩ :: runs l k m := by
  subst hm
  rw [runs, dif_pos h]
theorem runs_end (l : List Int) (k i : Nat) (h : ¬ i < l.length) : runs l (k + 1) i = [] := by rw [runs, dif_neg h]
theorem runs_stops (n : Nat) (hn : 1 ≤ n) (bx bb C : Nat) (l : List Int) (w : World) (hx : w.heap[bx]? = some (.cells #[.slice (some ⟨bb, 0, none⟩) l.length C] 32 (0, 0))) (ho : Octets w bb l) (hbb : bb < w.heap.size) (hC : l.length ≤ C) (hl2 : l.length ≤ 65536) :
    SeqStopsK Fence.wide n Try.prog 28 #[.pointer (some ⟨bx, 0, none⟩)] (enc bb C) (Kp bx bb) (fun xs => xs = runs l (l.length + 1) 0) (fun _ => True) (l.length + 1) w := by
  intro lr J Jx W hW hJ hJx hY h0
  refine callsIn_of_wp Try.func28 rfl trivial ?_ rfl
  simp only [Try.ntmps28, List.size_toArray, List.length_cons, List.length_nil, Nat.reduceAdd, Nat.reduceSub, Array.replicate_succ, Array.replicate_zero, List.push_toArray, List.append_toArray, List.nil_append, List.cons_append]
  have hx' : W.heap[bx]? = some (.cells #[.slice (some ⟨bb, 0, none⟩) l.length C] 32 (0, 0)) := (hW.block bx (blk_lt hx)).trans hx
  have HX := Aside0.mk hx'
  have HO : Aside0 (Octets W bb l) := ⟨fun j hj => (hW.cell (p := ⟨bb, j, none⟩) hbb).trans (ho j hj)⟩
  have HY := Aside0.mk hY
  have HJ := Aside0.mk hJ
  have HJX := Aside0.mk hJx
  have H0 := Aside0.mk h0
  clear hx hx' ho hW hY hJ hJx h0
  gi_wp2
  gi_loopw [3] (fun v3 wr => ∃ (k i : Nat) (pre : List (Rn l)), v3 = .int .i64 i ∧ i ≤ l.length ∧ Aside0 (l.length < k + i ∧ pre.length ≤ i) ∧ Aside0 (pre ++ runs l k i = runs l (l.length + 1) 0) ∧ Aside0 (J pre wr) ∧ Aside0 (wr.heap[bx]? = some (.cells #[.slice (some ⟨bb, 0, none⟩) l.length C] 32 (0, 0))) ∧ Aside0 (Octets wr bb l)) (fun v3 _ => l.length - (intOf v3).toNat)
  case atStart => exact ⟨l.length + 1, 0, [], rfl, Nat.zero_le _, ⟨by omega, by simp⟩, ⟨by simp⟩, H0, HX, HO⟩
  case round =>
    obtain ⟨k, i, pre, rfl, hi, HK, HR, HJ0, HX, HO⟩ := hrel
    have hcx : wr.cell? ⟨bx, 0, none⟩ = some (.slice (some ⟨bb, 0, none⟩) l.length C) := blk_cell HX.out 0
    obtain ⟨k, rfl⟩ : ∃ m, k = m + 1 := ⟨k - 1, by have := HK.out.1; omega⟩
    by_cases hlt : i < l.length
    · have hg1 : (i : Int) < (l.length : Int) := by omega
      obtain ⟨wo, rfl⟩ : ∃ wo, wo = wr := ⟨_, rfl⟩
      gi_wp2
      gi_loopw [4] (fun v4 w2 => ∃ m : Nat, v4 = .int .i64 m ∧ i ≤ m ∧ m ≤ l.length ∧ Aside0 (m ≤ i + same l i) ∧ Aside0 (∃ q, w2 = wo.drewN q)) (fun v4 _ => l.length - (intOf v4).toNat)
      case atStart => exact ⟨i, rfl, Nat.le_refl _, hi, ⟨Nat.le_add_right _ _⟩, ⟨0, rfl⟩⟩
      case round =>
        obtain ⟨m, rfl, him, hml, HM, ⟨q, rfl⟩⟩ := hrel
        by_cases hmt : m < l.length
        · have c1 := HO.out i hlt
          have c2 := HO.out m hmt
          obtain ⟨x, hx⟩ : ∃ x, l.getD i 0 = x := ⟨_, rfl⟩
          obtain ⟨y, hy⟩ : ∃ y, l.getD m 0 = y := ⟨_, rfl⟩
          rw [hx] at c1
          rw [hy] at c2
          have q1 : decide ((m : Int) < (l.length : Int)) = true := decide_eq_true (by omega)
          have q2 : (m : Int) < (l.length : Int) := by omega
          by_cases he : y = x
          · have q3 : (y == x) = true := by simpa using he
            have HM2 : Aside0 (m + 1 ≤ i + same l i) := ⟨same_more l i m him HM.out hmt (by rw [hy, hx, he])⟩
            clear he hx hy
            gi_wp2_with fail
            gi_quiet (fail)
            gi_wp2
            exact ⟨⟨m + 1, by go_num, by omega, by omega, HM2, ⟨⟨_, rfl⟩⟩⟩, by simp [intOf]; omega⟩
          · have q3 : (y == x) = false := by simpa using he
            have HM2 : Aside0 (m = i + same l i) := ⟨by
              rcases Nat.lt_or_ge m (i + same l i) with h | h
              · exact absurd ((same_in l i m him h)) (by rw [hx, hy]; exact he)
              · have := HM.out; omega⟩
            clear he hx hy
            gi_wp2_with fail
            gi_quiet (fail)
            gi_wp2
            have hpf : (i, m).1 < (i, m).2 ∧ (i, m).2 ≤ l.length := by have := HM2.out; have := same_pos l i hlt; constructor <;> simp only <;> omega
            have hj0 : J pre (wo.drewN (q + nq)) := HJ.out pre wo _ none HJ0.out ⟨rfl, rfl, rfl, Nat.le_refl _, fun _ _ _ => rfl⟩ (fun r e => by cases e)
            obtain ⟨fn, tmps, assign, body, hy, hR⟩ := HY.out pre ⟨(i, m), hpf⟩ _ hj0 (by have := HK.out.2; omega)
            dsimp only [enc] at hy
            rw [hy]
            gi_wp2
            refine hR.mono ?_
            rintro e W' (⟨rfl, hJ', hk⟩ | ⟨rfl, hJx'⟩)
            · gi_wp2
              go_roundw
              case measure => have := same_pos l i hlt; have := HM2.out; simp [intOf]; omega
              case rel =>
                have hHM := HM2.out
                have HR2 := HR.out
                have hk0 := HK.out
                have hp := same_pos l i hlt
                have hk1 : W'.heap[bx]? = wo.heap[bx]? := hk.1
                have hk2 : W'.heap[bb]? = wo.heap[bb]? := hk.2
                rw [runs_at l k i m hlt hHM hpf] at HR2
                exact ⟨k, m, pre ++ [⟨(i, m), hpf⟩], rfl, by omega, ⟨by omega, by simp; omega⟩, ⟨by rw [List.append_assoc]; exact HR2⟩, ⟨hJ'⟩, ⟨hk1.trans HX.out⟩, ⟨fun j hj => (World.cell?_of_block hk2).trans (HO.out j hj)⟩⟩
            · gi_wp2
              refine bodyPost_ret (results_none rfl _ _ _) rfl ?_
              exact ⟨⟨_, rfl⟩, .inr ⟨_, trivial, hJx'⟩⟩
        · obtain rfl : m = l.length := by omega
          have q1 : decide ((l.length : Int) < (l.length : Int)) = false := by simp
          have HM2 : Aside0 (l.length = i + same l i) := ⟨by have := same_le l i hlt; have := HM.out; omega⟩
          gi_wp2_with fail
          gi_quiet (fail)
          gi_wp2
          have hpf : (i, l.length).1 < (i, l.length).2 ∧ (i, l.length).2 ≤ l.length := ⟨hlt, Nat.le_refl _⟩
          have hj0 : J pre (wo.drewN (q + nq)) := HJ.out pre wo _ none HJ0.out ⟨rfl, rfl, rfl, Nat.le_refl _, fun _ _ _ => rfl⟩ (fun r e => by cases e)
          obtain ⟨fn, tmps, assign, body, hy, hR⟩ := HY.out pre ⟨(i, l.length), hpf⟩ _ hj0 (by have := HK.out.2; omega)
          dsimp only [enc] at hy
          rw [hy]
          gi_wp2
          refine hR.mono ?_
          rintro e W' (⟨rfl, hJ', hk⟩ | ⟨rfl, hJx'⟩)
          · gi_wp2
            go_roundw
            case measure => have := same_pos l i hlt; have := HM2.out; simp [intOf]; omega
            case rel =>
              have hHM := HM2.out
              have HR2 := HR.out
              have hk0 := HK.out
              have hp := same_pos l i hlt
              have hk1 : W'.heap[bx]? = wo.heap[bx]? := hk.1
              have hk2 : W'.heap[bb]? = wo.heap[bb]? := hk.2
              rw [runs_at l k i l.length hlt hHM hpf] at HR2
              exact ⟨k, l.length, pre ++ [⟨(i, l.length), hpf⟩], rfl, by omega, ⟨by omega, by simp; omega⟩, ⟨by rw [List.append_assoc]; exact HR2⟩, ⟨hJ'⟩, ⟨hk1.trans HX.out⟩, ⟨fun j hj => (World.cell?_of_block hk2).trans (HO.out j hj)⟩⟩
          · gi_wp2
            refine bodyPost_ret (results_none rfl _ _ _) rfl ?_
            exact ⟨⟨_, rfl⟩, .inr ⟨_, trivial, hJx'⟩⟩
    · have hil : i = l.length := by omega
      have hg1 : decide ((i : Int) < (l.length : Int)) = false := decide_eq_false (by omega)
      have HIL := Aside0.mk hil
      clear hil
      gi_wp2
      go_end0
      have HR2 := HR.out
      rw [runs_end l k i hlt, List.append_nil] at HR2
      exact ⟨⟨_, rfl⟩, .inl ⟨pre, HR2, HJ0.out⟩⟩
end Go.Proofs.Ytbgndbehceajpaa.G05i
