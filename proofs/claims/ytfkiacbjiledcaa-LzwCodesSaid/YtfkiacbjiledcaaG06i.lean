/- The iterator of codes (chapter 06): it writes the reader between two yields. -/
import Derived.Test.YtfkiacbjiledcaaQ06
import Derived.Test.YtfkiacbjiledcaaG06r
import Derived.WalkSpells
import Derived.RangeFuncNested
import Derived.RangeFuncBound
import Derived.RangeFuncCalls
import Derived.RangeFuncLeaves
import Derived.Shelf.Abstract
import Derived.Sort.QuietIn
import Derived.WalkKit
import Derived.OwnWalkIn
import Derived.TacticsInMore
import Derived.LoopNIn
import Derived.LoopIn
import Derived.KernelRfl
namespace Go.Proofs.Ytfkiacbjiledcaa.G06i
open Go.RowKit Go.Proofs.YtfkiacbjiledcaaW.PrintWords Go.Proofs.YtfkiacbjiledcaaW.PrintLast Go.Proofs.YtfkiacbjiledcaaW.PrintMore
open Go.Proofs.Ytfkiacbjiledcaa.K06 Go.Proofs.Ytfkiacbjiledcaa.G06 Go.Proofs.Ytfkiacbjiledcaa.M06 Go.Proofs.Ytfkiacbjiledcaa.G06r Go.Proofs.Ytfkiacbjiledcaa.Q06
set_option linter.unusedVariables false
set_option maxRecDepth 100000
def Kp (bx b : Nat) (W W' : World) : Prop := W'.heap[bx]? = W.heap[bx]? ∧ W'.heap[b]? = W.heap[b]?
theorem Kp_t {bx b : Nat} {A B C : World} (h : Kp bx b A B) (k : Kp bx b B C) : Kp bx b A C := ⟨k.1.trans h.1, k.2.trans h.2⟩
theorem Kp_b {bx b : Nat} {w : World} (h1 : bx < w.heap.size) (h2 : b < w.heap.size) (W : World) (l : Nat) (o o' : Obj) (hl : w.heap.size ≤ l) (_ : W.heap[l]? = some o) (_ : o.isCells = false) (_ : o.isWalk = false) : Kp bx b W (W.putObj l o') :=
  ⟨World.putObj_heap_other (by omega), World.putObj_heap_other (by omega)⟩
/-- All items of a coded string. -/
def allIt (l : List Int) : List It := items (l.length + 1) l 0 ⟨0, 0, 0⟩
def At (s : ByteArray) (b : Nat) (xs : List It) (W : World) : Prop := (∃ rest, xs ++ rest = allIt (bytesOf s)) ∧ ∃ pre x, xs = pre ++ [x] ∧ W.heap[b]? = some (rdO s x.j x.rs) ∧ x.j ≤ pre.length
theorem At_put {s : ByteArray} {b : Nat} {w : World} (h : b < w.heap.size) (xs : List It) (W : World) (l : Nat) (o o' : Obj) (hl : w.heap.size ≤ l) (_ : W.heap[l]? = some o) (_ : o.isCells = false) (k : At s b xs W) : At s b xs (W.putObj l o') := by
  obtain ⟨h1, pre, x, h2, h3, h4⟩ := k
  exact ⟨h1, pre, x, h2, (World.putObj_heap_other (by omega)).trans h3, h4⟩
def encI (x : It) : Array Value := #[.int .i64 x.j, .int .i64 x.code]
/-- How many bits are left. -/
def msr (b n : Nat) (W : World) : Nat := match W.heap[b]? with
  | some (.cells cs _ _) => 8 * (n - (intOf (cs.getD 2 undef)).toNat) + (intOf (cs.getD 4 undef)).toNat
  | _ => 0
theorem msr_rd {b : Nat} {W : World} {s : ByteArray} {j : Nat} {r : Rs} (h : W.heap[b]? = some (rdO s j r)) (n : Nat) : msr b n W = 8 * (n - r.at_) + r.held := by
  unfold msr rdO at *
  rw [h]
  simp [intOf]
theorem seq_codes (n : Nat) (hn : 1 ≤ n) (bx b : Nat) (s : ByteArray) (w : World) (hx : w.heap[bx]? = some (.cells #[.pointer (some ⟨b, 0, none⟩)] 60 (0, 0))) (hb : w.heap[b]? = some (rdO s 0 ⟨0, 0, 0⟩)) (hne : bx ≠ b) (hs : s.size ≤ 65536) :
    SeqR Fence.wide n Try.prog 41 #[.pointer (some ⟨bx, 0, none⟩)] encI (· = b) (At s b) (Kp bx b) (fun xs => xs = allIt (bytesOf s)) (fun pre => ∃ rest, pre ++ rest = allIt (bytesOf s)) (s.size + 1) w := by
  intro lr J Jx W hW hJ hJx hY h0
  refine callsIn_of_wp Try.func41 rfl trivial ?_ rfl
  simp only [Try.ntmps41, List.size_toArray, List.length_cons, List.length_nil, Nat.reduceAdd, Nat.reduceSub, Array.replicate_succ, Array.replicate_zero, List.push_toArray, List.append_toArray, List.nil_append, List.cons_append]
  have hx' := (hW.block bx (blk_lt hx)).trans hx
  have hb' := (hW.block b (blk_lt hb)).trans hb
  have hlt := blk_lt hb'
  have HX := Aside0.mk hx'
  have HB := Aside0.mk hb'
  have HY := Aside0.mk hY
  have HJ := Aside0.mk hJ
  have HJX := Aside0.mk hJx
  have H0 := Aside0.mk h0
  clear hx hb hx' hb' hW hY hJ hJx h0
  gi_wp2
  gi_loopw [3, 4] (fun v3 v4 wr => ∃ (f j : Nat) (r : Rs) (pre : List It), Aside0 (j ≤ pre.length ∧ pre.length + f = s.size + 1) ∧ Aside0 (8 * (s.size - r.at_) + r.held < 9 * f) ∧ Aside0 (pre ++ items f (bytesOf s) j r = allIt (bytesOf s)) ∧ Aside0 (L06.Rok (bytesOf s) r) ∧ Aside0 (J pre wr) ∧ Aside0 (wr.heap[bx]? = some (.cells #[.pointer (some ⟨b, 0, none⟩)] 60 (0, 0))) ∧ Aside0 (wr.heap[b]? = some (rdO s j r))) (fun v3 v4 wr => msr b s.size wr)
  case atStart => exact ⟨s.size + 1, 0, ⟨0, 0, 0⟩, [], ⟨by simp, by simp⟩, ⟨by simp; omega⟩, ⟨by unfold allIt; rw [bytesOf_len]; rfl⟩, ⟨⟨by decide, by decide, Nat.zero_le _⟩⟩, H0, HX, HB⟩
  case round =>
    obtain ⟨f, j, r, pre, HL, HM, HI, HR, HJ0, HX, HB⟩ := hrel
    have hcx : wr.cell? ⟨bx, 0, none⟩ = some (.pointer (some ⟨b, 0, none⟩)) := blk_cell HX.out 0
    obtain ⟨f, rfl⟩ : ∃ g, f = g + 1 := ⟨f - 1, by have := HM.out; omega⟩
    gi_wp2_with fail
    refine ⟨trivial, callsIn_wide.2 ((read_call b s j r _ HB.out (by have := HL.out; omega) HR.out hs).mono ?_)⟩
    rintro e w1 hpost
    have HI2 := HI.out
    unfold items at HI2
    cases hrd : readR (bytesOf s) j r with
    | none =>
      rw [hrd] at hpost HI2
      obtain ⟨rfl, hg, q, hq⟩ := hpost
      have HG := Aside0.mk hg
      have HI3 := Aside0.mk HI2
      clear hg hq hrd HI2 HI
      gi_wp2_with fail
      refine ⟨(fun _ h => by cases h), ?_⟩
      gi_wp2_with fail
      refine bodyPost_ret (results_none rfl _ _ _) rfl ?_
      refine ⟨⟨_, rfl⟩, .inl ⟨pre, ?_, HJ.out pre wr w1 (some b) HJ0.out HG.out (fun r e => by cases e; exact .inl rfl)⟩⟩
      rw [← HI3.out]
      simp
    | some p =>
      obtain ⟨c, q⟩ := p
      rw [hrd] at hpost HI2
      obtain ⟨rfl, hg, hq⟩ := hpost
      have hro := L06.read_ok (bytesOf_range s) HR.out hrd
      have hx1 := (hg.block bx (blk_lt HX.out) (fun e => hne (by cases e; rfl))).trans HX.out
      have hj1 := HJ.out pre wr w1 (some b) HJ0.out hg (fun r e => by cases e; exact .inl rfl)
      have hm : 8 * (s.size - q.at_) + q.held + 9 ≤ 8 * (s.size - r.at_) + r.held := by
        have h1 := congrArg List.length hro.1
        rw [List.length_append, L06.bw_len, L06.rem_len, L06.rem_len, bytesOf_len] at h1
        have h2 := hro.2.2.2
        omega
      have hat : At s b (pre ++ [⟨j, c, q⟩]) w1 := ⟨⟨_, by rw [List.append_assoc]; exact HI2⟩, pre, _, rfl, hq, HL.out.1⟩
      obtain ⟨fn, tmps, assign, body, hy, hR⟩ := HY.out pre ⟨j, c, q⟩ _ hj1 hat (by have := HL.out; omega)
      have HX1 := Aside0.mk hx1
      have HG := Aside0.mk hg
      have HQ := Aside0.mk hq
      have HI3 := Aside0.mk HI2
      have HRD := Aside0.mk hro
      have HMM := Aside0.mk hm
      have HJ1 := Aside0.mk hj1
      have hcx : w1.cell? ⟨bx, 0, none⟩ = some (.pointer (some ⟨b, 0, none⟩)) := blk_cell HX1.out 0
      have hc0 : w1.cell? ⟨b, 0, none⟩ = some (.int .i64 j) := blk_cell HQ.out 0
      dsimp only [encI] at hy
      clear hg hq hrd HI2 HI hro hx1 hm hj1 hat
      gi_wp2_with fail
      refine hR.mono ?_
      rintro e W' (⟨rfl, hJ', hk⟩ | ⟨rfl, hJx'⟩)
      · have hbx2 := hk.1.trans HX1.out
        have hbb2 := hk.2.trans HQ.out
        have HJ2 := Aside0.mk hJ'
        have HX2 := Aside0.mk hbx2
        have HB2 := Aside0.mk hbb2
        have hcx : W'.cell? ⟨bx, 0, none⟩ = some (.pointer (some ⟨b, 0, none⟩)) := blk_cell HX2.out 0
        clear hJ' hk hbx2 hbb2 hy hR
        by_cases hc : c = 257
        · have hcb : ((c : Int) == 257) = true := by simp; omega
          gi_wp2_with fail
          refine bodyPost_ret (results_none rfl _ _ _) rfl ?_
          refine ⟨⟨_, rfl⟩, .inl ⟨_, ?_, HJ2.out⟩⟩
          rw [← HI3.out, if_pos hc]
        · have hcb : ((c : Int) == 257) = false := by simp; omega
          gi_wp2_with fail
          refine ⟨trivial, callsIn_wide.2 ((count_call b j c _ (by have := HL.out; omega) HB2.out).mono ?_)⟩
          rintro e w2 ⟨rfl, hb2, hg2⟩
          have HX3 := Aside0.mk ((hg2.block bx (blk_lt HX2.out) (fun e => hne (by cases e; rfl))).trans HX2.out)
          have HJ3 := Aside0.mk (HJ.out _ W' w2 (some b) HJ2.out hg2 (fun r e => by cases e; exact .inl rfl))
          have HB3 : Aside0 (w2.heap[b]? = some (rdO s (nextJ j c) q)) := ⟨hb2⟩
          clear hb2 hg2
          gi_wp2_with fail
          go_roundw
          case measure =>
            rw [msr_rd HB3.out, msr_rd HB.out]
            have := HMM.out
            omega
          case rel =>
            refine ⟨f, nextJ j c, q, pre ++ [⟨j, c, q⟩], ⟨?_, ?_⟩, ⟨?_⟩, ⟨?_⟩, ⟨HRD.out.2.2.1⟩, HJ3, HX3, HB3⟩
            · have := HL.out; unfold nextJ; rw [List.length_append, List.length_singleton]; split <;> omega
            · have := HL.out; rw [List.length_append, List.length_singleton]; omega
            · have := HM.out; have := HMM.out; omega
            · rw [List.append_assoc, ← HI3.out, if_neg hc]
              rfl
      · gi_wp2_with fail
        refine bodyPost_ret (results_none rfl _ _ _) rfl ?_
        exact ⟨⟨_, rfl⟩, .inr ⟨_, ⟨_, by rw [List.append_assoc]; exact HI3.out⟩, hJx'⟩⟩
end Go.Proofs.Ytfkiacbjiledcaa.G06i
