/- path of the machine (chapter 33): function 73. -/
import Derived.Test.YtimnohaalccdkaaG33i
namespace Go.Proofs.Ytimnohaalccdkaa.G33j
open Go.Proofs.Ytimnohaalccdkaa Go.Proofs.Ytimnohaalccdkaa.K33 Go.Proofs.Ytimnohaalccdkaa.M33 Go.Proofs.Ytimnohaalccdkaa.G33a Go.Proofs.Ytimnohaalccdkaa.G33b Go.Proofs.Ytimnohaalccdkaa.G33c Go.Proofs.Ytimnohaalccdkaa.G33d Go.Proofs.Ytimnohaalccdkaa.G33e Go.Proofs.Ytimnohaalccdkaa.G33f Go.Proofs.Ytimnohaalccdkaa.G33g Go.Proofs.Ytimnohaalccdkaa.G33r Go.Proofs.Ytimnohaalccdkaa.G33h Go.Proofs.Ytimnohaalccdkaa.O33 Go.Proofs.Ytimnohaalccdkaa.N33 Go.Proofs.Ytimnohaalccdkaa.G33i Go.Proofs.Ytimnohaalccdkaa.P33a
open Go.RowKit Go.Proofs.YtimnohaalccdkaaW.PrintWords Go.Proofs.YtimnohaalccdkaaW.PrintLast Go.Proofs.YtimnohaalccdkaaW.PrintMore
set_option linter.unusedVariables false
set_option linter.unusedSimpArgs false
set_option maxRecDepth 100000
theorem but_below {g : Nat} {w w' : World} (h : Below w.heap.size w w') : But g w w' := ⟨h.os, h.tape, h.output, h.size, fun i hi _ => h.block i hi⟩
theorem moves_call (op : Int) (w : World) : Calls Try.prog 100 #[.int .i64 op] w fun e w' => e = .returned (.bool (isMove op)) ∧ w' = w := by
  by_cases h1 : op = 4
  · subst h1
    go_enter Try.func100, Try.ntmps100
    go_wp2_with fail
    go_ret
    exact ⟨rfl, rfl⟩
  by_cases h2 : op = 21
  · subst h2
    go_enter Try.func100, Try.ntmps100
    go_wp2_with fail
    go_ret
    exact ⟨rfl, rfl⟩
  have t1 : (op == 4) = false := by simpa using h1
  have t2 : (op == 21) = false := by simpa using h2
  have HE : Aside0 (isMove op = (op == 22)) := ⟨by unfold isMove; rw [t1, t2]; rfl⟩
  rw [HE.out]
  clear h1 h2
  go_enter Try.func100, Try.ntmps100
  go_wp2_with fail
  go_ret
  exact ⟨rfl, rfl⟩
set_option maxHeartbeats 1000000 in
theorem take_but {W0 w : World} {b : Nat} {sb : Value} {m : M} (h : Mach W0 w b sb m) (n : Nat) (hn : n ≤ 2147483648) :
    Calls Try.prog 96 #[.pointer (some ⟨b, 0, none⟩), .int .i64 n] w (fun e w' => Took W0 w b sb m n e w' ∧ But b w w') := by
  have H0 := Aside0.mk h
  obtain ⟨hB, hb, vs, vt, vk, A, c, vp, h⟩ := h
  have hok := h.ok
  have HV := Aside0.mk h
  have HB := Aside0.mk hB
  have HB8 := Aside0.mk hb
  obtain ⟨Ak, ck, rfl⟩ := own_slice h.stack
  obtain ⟨_, hk1, hk2⟩ := own_len h.stack
  have c8 : w.cell? ⟨b, 8, none⟩ = some (.slice Ak m.stack.length ck) := h.cell 8
  have h24 := hok.stack
  by_cases hf : m.stack.length < n
  · have HF := Aside0.mk hf
    have t : decide ((m.stack.length : Int) - (n : Int) < 0) = true := decide_eq_true (by omega)
    clear h hB
    go_enter Try.func96, Try.ntmps96
    go_wp2_with fail
    go_ret2
    refine ⟨?_, But.refl _ _⟩
    unfold Took
    rw [if_pos HF.out]
    exact ⟨rfl, rfl⟩
  · have HF := Aside0.mk hf
    obtain ⟨k, hk⟩ : ∃ k : Nat, m.stack.length - n = k := ⟨_, rfl⟩
    have e : (m.stack.length : Int) - (n : Int) = (k : Int) := by omega
    have t : decide ((k : Int) < 0) = false := decide_eq_false (by omega)
    obtain ⟨A', hcut, hA', hints, hoff⟩ := cutL Ak m.stack.length ck k (by omega) hk2
    have hcut2 := cutH Ak m.stack.length ck k (by omega)
    have hl : (m.stack.drop k).length = n := by rw [List.length_drop]; omega
    have hn2 : m.stack.length - k = n := by omega
    rw [hn2] at hcut
    have hr := ints_reads (hints w m.stack rfl hk1 (own_ints h.stack)) (by omega)
    rw [hl] at hr
    have HCL : Aside0 (Calls Try.prog 105 #[.slice A' n (ck - k)] w fun e w' => ∃ v, e = .returned v ∧ w'.ownsRow w.heap.size 3 1 v n (nums .i64 (m.stack.drop k)) ∧ Below w.heap.size w w') := ⟨by
      have := clone_call (w := w) (A := A') (c := ck - k) (xs := m.stack.drop k) (by rw [hl]; exact hr) (by omega) hA' (by omega)
      rw [hl] at this
      exact this⟩
    have HOK : Aside0 (Ok { m with stack := m.stack.take k }) := ⟨⟨by rw [List.length_take]; omega, hok.small.take k, hok.res, hok.rsmall, hok.steps, hok.stems, hok.points, hok.x, hok.y, hok.side, hok.width, hok.count⟩⟩
    have HTK : Aside0 (w.ownsRow W0.heap.size 3 1 (.slice Ak k ck) (m.stack.take k).length (nums .i64 (m.stack.take k))) := ⟨by
      by_cases h0 : m.stack.length = 0
      · obtain rfl : k = 0 := by omega
        have := h.stack
        rw [h0] at this
        simp only [List.take_zero, List.length_nil]
        have h00 : m.stack = [] := List.eq_nil_of_length_eq_zero h0
        rw [h00] at this
        exact this
      · have := own_take h.stack k (by omega) (by omega)
        rw [List.length_take, Nat.min_eq_left (by omega)]
        rw [Nat.mul_one] at this
        unfold nums at this ⊢
        rw [List.map_take]
        exact this⟩
    have HSZ := Aside0.mk (show m.stack.length ≤ 24 ∧ n ≤ m.stack.length ∧ k ≤ ck ∧ n ≤ ck - k from ⟨h24, by omega, by omega, by omega⟩)
    have HL := Aside0.mk hl
    clear h hB hr hints hoff hok hA' hk1 hk2 hn2
    have HK := Aside0.mk hk
    clear hk
    go_enter Try.func96, Try.ntmps96
    go_wp2_with fail
    refine (HCL.out).mono ?_
    rintro e w1 ⟨v, rfl, ho, hb1⟩
    obtain ⟨A2, c2, rfl⟩ := own_slice ho
    have HO := Aside0.mk ho
    have HB1 := Aside0.mk hb1
    have HV1 := Aside0.mk (HV.out.below hb1)
    have c8' : w1.cell? ⟨b, 8, none⟩ = some (.slice Ak m.stack.length ck) := HV1.out.cell 8
    have f8 : w1.frozen? ⟨b, 8, none⟩ = false := HV1.out.frz 8
    clear ho hb1 c8
    go_wp2_with fail
    go_ret2
    obtain ⟨q1, q2, q3⟩ := own_len HO.out
    refine ⟨?_, But.set (but_below HB1.out) 8 _⟩
    unfold Took
    rw [if_neg HF.out, HK.out]
    refine ⟨A2, c2, rfl, q2, q3, ⟨below_set (below_then HB.out HB.out.size HB1.out) HB8.out, HB8.out, vs, vt, _, A, c, vp, HV1.out.put_stack (pw_own_below HTK.out HB1.out) (World.grownBy.refl _ _) (.inl (by cases Ak <;> rfl)) HOK.out, ?_, ?_⟩, (keeps_below HB1.out).trans (keeps_set HV1.out.blk (by decide) 8 _), ?_⟩
    · refine ints_set (own_ints (B := w.heap.size) (n := n) (c := c2) (by rw [HL.out]; exact HO.out)) HV1.out.blk (by decide) 8 _
    · have := own_off (w := w) (w' := w1) (n := n) (c := c2) (xs := m.stack.drop k) (by rw [HL.out]; exact HO.out) HV.out.stack
      rcases this with h | h
      · exact .inl h
      · exact .inr fun a ha hk => h a ha (by rw [← hk]; cases Ak <;> rfl)
    · rcases HO.out.2 with ⟨e, h0⟩ | ⟨g, cap, cur, e, h1, _⟩
      · exact .inl h0
      · refine .inr fun a ha => ?_
        cases e
        injection ha with ha
        subst ha
        exact Nat.le_trans HB.out.size h1
/-- A path operator runs. -/
theorem do_call {W0 w : World} {b : Nat} {sb : Value} {m : M} {A : Option Addr} {l : List Int} {op : Int} {n : Nat} (hn : need op = some n) (hl : l.length = n) (h : MachL W0 w b sb m A l) (c : Nat) (hc : n ≤ c) (hs : Small l) :
    Calls Try.prog (opFn op) #[.pointer (some ⟨b, 0, none⟩), .slice A n c] w (Did W0 b sb (doOp op m l)) := by
  have hk : op = 1 ∨ op = 3 ∨ op = 4 ∨ op = 5 ∨ op = 6 ∨ op = 7 ∨ op = 8 ∨ op = 9 ∨ op = 13 ∨ op = 14 ∨ op = 21 ∨ op = 22 ∨ op = 30 ∨ op = 31 ∨ op = 256 ∨ op = 257 ∨ op = 258 ∨ op = 289 := by
    unfold need at hn
    repeat' split at hn
    all_goals first | omega | cases hn
  rcases hk with rfl | rfl | rfl | rfl | rfl | rfl | rfl | rfl | rfl | rfl | rfl | rfl | rfl | rfl | rfl | rfl | rfl | rfl
  · obtain rfl : n = 2 := by simp [need] at hn; omega
    have := hstem_call h c (by omega) (by omega) (by omega) hs
    rw [hl] at this
    exact this
  · obtain rfl : n = 2 := by simp [need] at hn; omega
    have := vstem_call h c (by omega) (by omega) (by omega) hs
    rw [hl] at this
    exact this
  · obtain rfl : n = 1 := by simp [need] at hn; omega
    obtain ⟨x0, rfl⟩ : ∃ x0, l = [x0] := by
      rcases l with _ | ⟨x0, _ | ⟨x, l⟩⟩
      all_goals first | (simp at hl; done) | (simp at hl; omega) | exact ⟨_, rfl⟩
    exact vmove_call h c hc hs
  · obtain rfl : n = 2 := by simp [need] at hn; omega
    obtain ⟨x0, x1, rfl⟩ : ∃ x0 x1, l = [x0, x1] := by
      rcases l with _ | ⟨x0, _ | ⟨x1, _ | ⟨x, l⟩⟩⟩
      all_goals first | (simp at hl; done) | (simp at hl; omega) | exact ⟨_, _, rfl⟩
    exact line_call h c hc hs
  · obtain rfl : n = 1 := by simp [need] at hn; omega
    obtain ⟨x0, rfl⟩ : ∃ x0, l = [x0] := by
      rcases l with _ | ⟨x0, _ | ⟨x, l⟩⟩
      all_goals first | (simp at hl; done) | (simp at hl; omega) | exact ⟨_, rfl⟩
    exact hline_call h c hc hs
  · obtain rfl : n = 1 := by simp [need] at hn; omega
    obtain ⟨x0, rfl⟩ : ∃ x0, l = [x0] := by
      rcases l with _ | ⟨x0, _ | ⟨x, l⟩⟩
      all_goals first | (simp at hl; done) | (simp at hl; omega) | exact ⟨_, rfl⟩
    exact vline_call h c hc hs
  · obtain rfl : n = 6 := by simp [need] at hn; omega
    obtain ⟨x0, x1, x2, x3, x4, x5, rfl⟩ : ∃ x0 x1 x2 x3 x4 x5, l = [x0, x1, x2, x3, x4, x5] := by
      rcases l with _ | ⟨x0, _ | ⟨x1, _ | ⟨x2, _ | ⟨x3, _ | ⟨x4, _ | ⟨x5, _ | ⟨x, l⟩⟩⟩⟩⟩⟩⟩
      all_goals first | (simp at hl; done) | (simp at hl; omega) | exact ⟨_, _, _, _, _, _, rfl⟩
    exact curve_call h c hc hs
  · obtain rfl : n = 0 := by simp [need] at hn; omega
    exact closing_call h.mach _
  · obtain rfl : n = 2 := by simp [need] at hn; omega
    obtain ⟨x0, x1, rfl⟩ : ∃ x0 x1, l = [x0, x1] := by
      rcases l with _ | ⟨x0, _ | ⟨x1, _ | ⟨x, l⟩⟩⟩
      all_goals first | (simp at hl; done) | (simp at hl; omega) | exact ⟨_, _, rfl⟩
    exact begin_call h c hc hs
  · obtain rfl : n = 0 := by simp [need] at hn; omega
    exact end_call h.mach _
  · obtain rfl : n = 2 := by simp [need] at hn; omega
    obtain ⟨x0, x1, rfl⟩ : ∃ x0 x1, l = [x0, x1] := by
      rcases l with _ | ⟨x0, _ | ⟨x1, _ | ⟨x, l⟩⟩⟩
      all_goals first | (simp at hl; done) | (simp at hl; omega) | exact ⟨_, _, rfl⟩
    exact move_call h c hc hs
  · obtain rfl : n = 1 := by simp [need] at hn; omega
    obtain ⟨x0, rfl⟩ : ∃ x0, l = [x0] := by
      rcases l with _ | ⟨x0, _ | ⟨x, l⟩⟩
      all_goals first | (simp at hl; done) | (simp at hl; omega) | exact ⟨_, rfl⟩
    exact hmove_call h c hc hs
  · obtain rfl : n = 4 := by simp [need] at hn; omega
    obtain ⟨x0, x1, x2, x3, rfl⟩ : ∃ x0 x1 x2 x3, l = [x0, x1, x2, x3] := by
      rcases l with _ | ⟨x0, _ | ⟨x1, _ | ⟨x2, _ | ⟨x3, _ | ⟨x, l⟩⟩⟩⟩⟩
      all_goals first | (simp at hl; done) | (simp at hl; omega) | exact ⟨_, _, _, _, rfl⟩
    exact vhcurve_call h c hc hs
  · obtain rfl : n = 4 := by simp [need] at hn; omega
    obtain ⟨x0, x1, x2, x3, rfl⟩ : ∃ x0 x1 x2 x3, l = [x0, x1, x2, x3] := by
      rcases l with _ | ⟨x0, _ | ⟨x1, _ | ⟨x2, _ | ⟨x3, _ | ⟨x, l⟩⟩⟩⟩⟩
      all_goals first | (simp at hl; done) | (simp at hl; omega) | exact ⟨_, _, _, _, rfl⟩
    exact hvcurve_call h c hc hs
  · obtain rfl : n = 0 := by simp [need] at hn; omega
    exact nothing_call h.mach _
  · obtain rfl : n = 6 := by simp [need] at hn; omega
    have := vstem_call h c (by omega) (by omega) (by omega) hs
    rw [hl] at this
    exact this
  · obtain rfl : n = 6 := by simp [need] at hn; omega
    have := hstem_call h c (by omega) (by omega) (by omega) hs
    rw [hl] at this
    exact this
  · obtain rfl : n = 2 := by simp [need] at hn; omega
    obtain ⟨x0, x1, rfl⟩ : ∃ x0 x1, l = [x0, x1] := by
      rcases l with _ | ⟨x0, _ | ⟨x1, _ | ⟨x, l⟩⟩⟩
      all_goals first | (simp at hl; done) | (simp at hl; omega) | exact ⟨_, _, rfl⟩
    exact confirm_call h c hc
end Go.Proofs.Ytimnohaalccdkaa.G33j
