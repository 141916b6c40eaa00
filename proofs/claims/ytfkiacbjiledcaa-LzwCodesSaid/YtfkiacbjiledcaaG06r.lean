/- The reader of codes (chapter 06). -/
import Derived.Test.YtfkiacbjiledcaaG06w
import Derived.Test.YtfkiacbjiledcaaL06
namespace Go.Proofs.Ytfkiacbjiledcaa.G06r
open Go.RowKit Go.Proofs.YtfkiacbjiledcaaW.PrintWords Go.Proofs.YtfkiacbjiledcaaW.PrintLast Go.Proofs.YtfkiacbjiledcaaW.PrintMore
open Go.Proofs.Ytfkiacbjiledcaa.K06 Go.Proofs.Ytfkiacbjiledcaa.G06 Go.Proofs.Ytfkiacbjiledcaa.M06 Go.Proofs.Ytfkiacbjiledcaa.G06w
set_option linter.unusedVariables false
set_option maxRecDepth 100000
attribute [local go_sem ↓] Go.wp_at_zero Go.wp_at_succ
/-- A reader in memory. -/
def rdO (s : ByteArray) (j : Nat) (r : Rs) : Obj := .cells #[.int .i64 j, .string s, .int .i64 r.at_, .int .u64 r.bits, .int .i64 r.held] 62 (0, 0)
def ReadPost (s : ByteArray) (j : Nat) (b : Nat) (w : World) : Option (Nat × Rs) → Ending → World → Prop
  | none, e, w' => e = .returned (.tuple #[.int .i64 0, .bool false]) ∧ w.grownBy w' (some b) ∧ ∃ q, w'.heap[b]? = some (rdO s j q)
  | some (c, q), e, w' => e = .returned (.tuple #[.int .i64 c, .bool true]) ∧ w.grownBy w' (some b) ∧ w'.heap[b]? = some (rdO s j q)
/-- The code that a filled reader hands out. -/
def outOf (n : Nat) : Option Rs → Option (Nat × Rs)
  | none => none
  | some q => some (q.bits / 2 ^ (q.held - n), ⟨q.at_, q.bits % 2 ^ (q.held - n), q.held - n⟩)
theorem readR_eq (l : List Int) (j : Nat) (r : Rs) : readR l j r = if wd j = 0 then none else outOf (wd j) (fillN 2 l (wd j) r) := by
  unfold readR outOf
  rfl
set_option maxHeartbeats 4000000 in
theorem read_call (b : Nat) (s : ByteArray) (j : Nat) (r : Rs) (w : World) (h : w.heap[b]? = some (rdO s j r)) (hj : j ≤ 1000000000) (hr : L06.Rok (bytesOf s) r) (hs : s.size ≤ 65536) :
    Calls Try.prog 42 #[.pointer (some ⟨b, 0, none⟩)] w (ReadPost s j b w (readR (bytesOf s) j r)) := by
  obtain ⟨at_, bits, held⟩ := r
  obtain ⟨hh, hb, ha⟩ := hr
  rw [bytesOf_len] at ha
  simp only at hh hb ha
  unfold rdO at h
  simp only at h
  have d0 : w.cell? ⟨b, 0, none⟩ = some (.int .i64 j) := (blk_cell h 0).trans (by simp)
  have hlt := blk_lt h
  obtain ⟨n, hn⟩ : ∃ n, wd j = n := ⟨_, rfl⟩
  have hn12 := wd_le j
  have hng : n ≠ 0 → 9 ≤ n := fun e => by rw [← hn] at e ⊢; exact wd_ge e
  have hw := width_call j hj w
  rw [hn] at hn12 hw
  rw [readR_eq, hn]
  have HD := Aside0.mk h
  have HW := Aside0.mk hw
  have HB := Aside0.mk hb
  clear h hw hn hb
  by_cases hn0 : n = 0
  · subst hn0
    rw [if_pos rfl]
    go_enter Try.func42, Try.ntmps42
    go_wp2_with fail
    refine HW.out.mono ?_
    rintro e w1 ⟨rfl, hb1⟩
    go_wp2_with fail
    go_ret2
    exact ⟨rfl, G06.grown_of_below hb1 _, ⟨at_, bits, held⟩, (hb1.block b hlt).trans HD.out⟩
  · rw [if_neg hn0]
    have hn9 := hng hn0
    have hne : ((n : Int) == 0) = false := by simp; omega
    clear hng
    obtain ⟨T, hT⟩ : ∃ T, fillN 2 (bytesOf s) n ⟨at_, bits, held⟩ = T := ⟨_, rfl⟩
    rw [hT]
    have HT := Aside0.mk hT
    clear hT
    go_enter Try.func42, Try.ntmps42
    go_wp2_with fail
    refine HW.out.mono ?_
    rintro e w1 ⟨rfl, hb1⟩
    have HG1 := Aside0.mk (G06.grown_of_below hb1 (some b))
    have E1 := Aside0.mk ((hb1.block b hlt).trans HD.out)
    clear hb1
    go_wp2_with fail
    go_loopg [] 2 (fun k wr => ∃ (a2 b2 h2 : Nat), h2 ≤ 19 ∧ a2 ≤ s.size ∧ n ≤ h2 + 8 * k ∧ Aside0 (b2 < 2 ^ h2) ∧ Aside0 (fillN k (bytesOf s) n ⟨a2, b2, h2⟩ = T) ∧ Aside0 (wr.heap[b]? = some (.cells #[.int .i64 j, .string s, .int .i64 a2, .int .u64 b2, .int .i64 h2] 62 (0, 0))) ∧ Aside0 (w.grownBy wr (some b)))
    case atStart => exact ⟨at_, bits, held, by omega, ha, by omega, HB, HT, E1, HG1⟩
    case round =>
      obtain ⟨a2, b2, h2, hh2, ha2, hk, HB2, HF, HE, HG⟩ := hrel
      have g1 : wr.cell? ⟨b, 1, none⟩ = some (.string s) := (blk_cell HE.out 1).trans (by simp)
      have g2 : wr.cell? ⟨b, 2, none⟩ = some (.int .i64 a2) := (blk_cell HE.out 2).trans (by simp)
      have g3 : wr.cell? ⟨b, 3, none⟩ = some (.int .u64 b2) := (blk_cell HE.out 3).trans (by simp)
      have g4 : wr.cell? ⟨b, 4, none⟩ = some (.int .i64 h2) := (blk_cell HE.out 4).trans (by simp)
      have f2 := blk_frozen HE.out 2
      have f3 := blk_frozen HE.out 3
      have f4 := blk_frozen HE.out 4
      by_cases hlt2 : h2 < n
      · have t1 : decide ((h2 : Int) < (n : Int)) = true := decide_eq_true (by omega)
        by_cases hend : a2 = s.size
        · have t2 : ((a2 : Int) == (s.size : Int)) = true := by simp; omega
          go_wp2_with fail
          go_quiet (fail)
          go_wp2_with fail
          go_ret2
          have hT : T = none := by
            rw [← HF.out]
            cases gk with
            | zero => omega
            | succ k =>
              unfold fillN
              rw [if_neg (by simp only; omega), hend, List.getElem?_eq_none (by rw [bytesOf_len]; exact Nat.le_refl _)]
          rw [hT]
          exact ⟨rfl, HG.out.trans (grown_drewN _ _ _), ⟨a2, b2, h2⟩, HE.out⟩
        · have t2 : ((a2 : Int) == (s.size : Int)) = false := by simp; omega
          obtain ⟨x, hx⟩ : ∃ x : Nat, (bytesOf s)[a2]? = some (x : Int) ∧ x < 256 := by
            have h1 : a2 < (bytesOf s).length := by rw [bytesOf_len]; omega
            have h2 := bytesOf_range s _ (List.getElem_mem h1)
            exact ⟨((bytesOf s)[a2]).toNat, by rw [List.getElem?_eq_getElem h1]; congr 1; omega, by omega⟩
          obtain ⟨hx, hx256⟩ := hx
          have hxs : ∀ h, ((s[a2]'h).toNat : Int) = x := fun h => by
            unfold bytesOf at hx
            have hml : a2 < s.data.toList.length := by rw [data_len]; omega
            simp [List.getElem?_eq_getElem hml] at hx
            have h3 : ((s[a2]'h).toNat : Int) = ((s.data[a2]).toNat : Int) := rfl
            rw [h3]; omega
          have a2i : (a2 : Int) < (s.size : Int) := by omega
          have hb64 : b2 * 2 ^ 8 + x < 18446744073709551616 := by
            have h1 := HB2.out
            have : 2 ^ h2 ≤ 2 ^ 19 := Nat.pow_le_pow_right (by decide) hh2
            omega
          have hor := or_eq b2 x 8 (by omega) hb64
          rw [show IntKind.u64.wrap (x : Int) = (x : Int) by rw [IntKind.wrap_u64]; omega] at hor
          simp only [Int.reducePow] at hor
          obtain ⟨B, hB⟩ : ∃ B, b2 * 2 ^ 8 + x = B := ⟨_, rfl⟩
          rw [hB] at hor
          have HX := Aside0.mk hx
          have HBB := Aside0.mk hB
          clear hx hB hb64
          go_wp2_with fail
          go_quiet (fail)
          go_wp2_with fail
          obtain ⟨wq, hwq⟩ : ∃ wq, wr.drewN nq = wq := ⟨_, rfl⟩
          have E2 : Aside0 (wq.heap[b]? = some (.cells #[.int .i64 j, .string s, .int .i64 a2, .int .u64 b2, .int .i64 h2] 62 (0, 0))) := ⟨by rw [← hwq]; exact HE.out⟩
          have G2 : Aside0 (w.grownBy wq (some b)) := ⟨by rw [← hwq]; exact HG.out.trans (grown_drewN _ _ _)⟩
          rw [hwq]
          clear hwq g1 g2 g3 g4 f2 f3 f4
          have g1 : wq.cell? ⟨b, 1, none⟩ = some (.string s) := (blk_cell E2.out 1).trans (by simp)
          have g2 : wq.cell? ⟨b, 2, none⟩ = some (.int .i64 a2) := (blk_cell E2.out 2).trans (by simp)
          have g3 : wq.cell? ⟨b, 3, none⟩ = some (.int .u64 b2) := (blk_cell E2.out 3).trans (by simp)
          have g4 : wq.cell? ⟨b, 4, none⟩ = some (.int .i64 h2) := (blk_cell E2.out 4).trans (by simp)
          have f2 := blk_frozen E2.out 2
          have f3 := blk_frozen E2.out 3
          have f4 := blk_frozen E2.out 4
          go_region
          all_goals
            go_wp2_with fail
            cases gk with
            | zero => omega
            | succ k1 =>
              go_roundg k1
              case rel =>
                refine ⟨a2 + 1, B, h2 + 8, by omega, by omega, by omega, ⟨?_⟩, ⟨?_⟩, ⟨?_⟩, ⟨?_⟩⟩
                · rw [← HBB.out, Nat.pow_add]; have := HB2.out; omega
                · rw [← HF.out]
                  conv => rhs; unfold fillN
                  rw [if_neg (by simp only; omega)]
                  simp only [HX.out, Int.toNat_natCast]
                  rw [← HBB.out]
                · exact (blk_set (blk_set (blk_set E2.out 3 (.int .u64 B)) 4 (.int .i64 ((h2 : Int) + 8))) 2 (.int .i64 ((a2 : Int) + 1))).trans (by simp)
                · exact (((G2.out.trans (G06.grown_set wq b 3 (.int .u64 B))).trans (G06.grown_set _ b 4 (.int .i64 ((h2 : Int) + 8)))).trans (G06.grown_set _ b 2 (.int .i64 ((a2 : Int) + 1)))).trans (grown_drewN _ 1 _)
              case measure => omega
      · obtain ⟨h3, rfl⟩ : ∃ h3, h2 = h3 + n := ⟨h2 - n, by omega⟩
        have t1 : decide ((h3 : Int) + (n : Int) < (n : Int)) = false := decide_eq_false (by omega)
        have g4 : wr.cell? ⟨b, 4, none⟩ = some (.int .i64 ((h3 : Int) + (n : Int))) := (blk_cell HE.out 4).trans (by simp)
        have hT : T = some ⟨a2, b2, h3 + n⟩ := by
          rw [← HF.out]
          cases gk with
          | zero => unfold fillN; rw [if_pos (by simp only; omega)]
          | succ k => unfold fillN; rw [if_pos (by simp only; omega)]
        have hb64 : b2 < 18446744073709551616 := by
          have h1 := HB2.out
          have : 2 ^ (h3 + n) ≤ 2 ^ 19 := Nat.pow_le_pow_right (by decide) hh2
          omega
        have hp : 0 < 2 ^ h3 := Nat.pow_pos (by decide)
        obtain ⟨y, hy⟩ : ∃ y : Nat, b2 / 2 ^ h3 = y := ⟨_, rfl⟩
        have hyb : y < 2 ^ 12 := by
          rw [← hy, Nat.div_lt_iff_lt_mul hp]
          have h1 := HB2.out
          rw [Nat.add_comm, Nat.pow_add] at h1
          exact Nat.lt_of_lt_of_le h1 (Nat.mul_le_mul_right _ (Nat.pow_le_pow_right (by decide) hn12))
        have hyc : IntKind.i64.wrap ((b2 : Int) / 2 ^ h3) = (y : Int) := by
          rw [← hy, show (b2 : Int) / 2 ^ h3 = ((b2 / 2 ^ h3 : Nat) : Int) by simp]
          exact IntWalk.i64_in _ (by omega)
        have hys : (b2 : Int) / 2 ^ h3 = (y : Int) := by rw [← hy]; simp
        have hzz := and_eq b2 h3 (by omega) hb64
        obtain ⟨z, hz⟩ : ∃ z : Nat, b2 % 2 ^ h3 = z := ⟨_, rfl⟩
        rw [hz] at hzz
        have hyi : (y : Int) < 4096 := by omega
        have HTT : Aside0 (outOf n T = some (y, ⟨a2, z, h3⟩)) := ⟨by rw [hT]; unfold outOf; simp only [Nat.add_sub_cancel, hy, hz]⟩
        have E2 := Aside0.mk (blk_set HE.out 4 (.int .i64 (h3 : Int)))
        have G2 := Aside0.mk (HG.out.trans (G06.grown_set wr b 4 (.int .i64 (h3 : Int))))
        clear hT hy hz hyb hb64 hp
        go_wp2_with fail
        obtain ⟨wq, hwq⟩ : ∃ wq, wr.setCell ⟨b, 4, none⟩ (.int .i64 h3) = wq := ⟨_, rfl⟩
        rw [hwq] at E2 G2 ⊢
        clear hwq g1 g2 g3 g4 f2 f3 f4
        have e2 : wq.heap[b]? = some (.cells #[.int .i64 j, .string s, .int .i64 a2, .int .u64 b2, .int .i64 h3] 62 (0, 0)) := E2.out.trans (by simp)
        have g3 : wq.cell? ⟨b, 3, none⟩ = some (.int .u64 b2) := (blk_cell e2 3).trans (by simp)
        have g4 : wq.cell? ⟨b, 4, none⟩ = some (.int .i64 h3) := (blk_cell e2 4).trans (by simp)
        have f3 := blk_frozen e2 3
        have E3 := Aside0.mk ((blk_set e2 3 (.int .u64 z)).trans (by simp; rfl))
        have G3 := Aside0.mk (G2.out.trans (G06.grown_set wq b 3 (.int .u64 z)))
        clear e2
        go_quiet (fail)
        go_wp2_with fail
        go_region
        all_goals
          go_wp2_with fail
          go_ret2
          rw [HTT.out]
          refine ⟨rfl, ?_, ?_⟩
          · exact G2.out.trans ((G06.grown_set wq b 3 (.int .u64 z)).trans (grown_drewN _ _ _))
          · exact E3.out
end Go.Proofs.Ytfkiacbjiledcaa.G06r
