/- The writer of codes (chapter 06). -/
import Derived.Test.YtfkiacbjiledcaaM06
import Derived.Deep.RegionHeld3
import Derived.Deep.RegionLaw
import Derived.Deep.AppendLies
import Derived.Deep.DrawnRows
import Derived.StillTactics
import Derived.RowKit3
namespace Go.Proofs.Ytfkiacbjiledcaa.G06w
open Go.RowKit Go.Proofs.YtfkiacbjiledcaaW.PrintWords Go.Proofs.YtfkiacbjiledcaaW.PrintLast Go.Proofs.YtfkiacbjiledcaaW.PrintMore
open Go.Proofs.Ytfkiacbjiledcaa.K06 Go.Proofs.Ytfkiacbjiledcaa.G06 Go.Proofs.Ytfkiacbjiledcaa.M06
set_option linter.unusedVariables false
set_option maxRecDepth 100000
attribute [local go_sem ↓] Go.wp_at_zero Go.wp_at_succ
/-- A writer in memory. -/
structure WS (W : World) (base b : Nat) (x : Wr) : Prop where
  own : ∃ v, W.heap[b]? = some (.cells #[.int .i64 x.j, v, .int .u64 x.bits, .int .i64 x.held] 53 (0, 0)) ∧ Own8 W base v x.out
  lo : b < base
  lb : base ≤ W.heap.size
theorem or_eq (a b n : Nat) (hb : b < 2 ^ n) (h : a * 2 ^ n + b < 18446744073709551616) : Go.bits .or .u64 (IntKind.u64.wrap ((a : Int) * 2 ^ n)) (IntKind.u64.wrap (b : Int)) = ((a * 2 ^ n + b : Nat) : Int) := by
  have e1 : IntKind.u64.wrap ((a : Int) * 2 ^ n) = ((a * 2 ^ n : Nat) : Int) := by
    have : (a : Int) * 2 ^ n = ((a * 2 ^ n : Nat) : Int) := by simp
    rw [this, IntKind.wrap_u64]
    omega
  have e2 : IntKind.u64.wrap (b : Int) = (b : Int) := by
    rw [IntKind.wrap_u64]; omega
  rw [e1, e2, bits_or_u64_nat _ _ (by omega) (by omega)]
  congr 1
  rw [Nat.mul_comm, Nat.two_pow_add_eq_or_of_lt hb]
theorem and_eq (a n : Nat) (hn : n < 64) (ha : a < 18446744073709551616) : Go.bits .and .u64 (a : Int) (IntKind.u64.wrap (IntKind.u64.wrap (2 ^ n) - 1)) = ((a % 2 ^ n : Nat) : Int) := by
  have hp : 2 ^ n < 18446744073709551616 := by
    have : 2 ^ n ≤ 2 ^ 63 := Nat.pow_le_pow_right (by decide) (by omega)
    omega
  have hp1 : 0 < 2 ^ n := Nat.pow_pos (by decide)
  have e1 : IntKind.u64.wrap (IntKind.u64.wrap (2 ^ n) - 1) = ((2 ^ n - 1 : Nat) : Int) := by
    have : (2 : Int) ^ n = ((2 ^ n : Nat) : Int) := by simp
    rw [this, IntKind.wrap_u64, IntKind.wrap_u64]
    omega
  rw [e1, bits_and_u64_nat _ _ ha (by omega), Nat.and_two_pow_sub_one_eq_mod]
/-- Behind an append of one octet to the row in a writer's second cell. -/
theorem appended {base b j b2 h3 : Nat} {y : Nat} {v2 : Value} {o2 : List Int} {w wv w4 : World} {gg cap : Nat} (hlo : b < base) (ho : Own8 wv base v2 o2) (hm : Mv base b b w wv)
    (he : w4.heap[b]? = some (.cells #[.int .i64 j, v2, .int .u64 b2, .int .i64 h3] 53 (0, 0)))
    (ho4 : w4.ownsRow base 5 1 (.slice (some ⟨gg, 0, none⟩) (o2.length + 1) cap) (o2.length + 1) (nums .u8 o2 ++ [.int .u8 y]))
    (hg : ((wv.alloc (.cells #[.int .u8 y] 5)).drew).grownBy w4 v2.ownBlock) (hat : v2.ownBlock = some gg ∨ gg = wv.heap.size + 1) (hb : base ≤ w.heap.size) :
    ∃ v3, Aside0 ((w4.setCell ⟨b, 1, none⟩ (.slice (some ⟨gg, 0, none⟩) (o2.length + 1) cap)).heap[b]? = some (.cells #[.int .i64 j, v3, .int .u64 b2, .int .i64 h3] 53 (0, 0))) ∧ Aside0 (Own8 (w4.setCell ⟨b, 1, none⟩ (.slice (some ⟨gg, 0, none⟩) (o2.length + 1) cap)) base v3 (o2 ++ [(y : Int)])) ∧ Aside0 (Mv base b b w (w4.setCell ⟨b, 1, none⟩ (.slice (some ⟨gg, 0, none⟩) (o2.length + 1) cap))) := by
  have hsz := hm.size
  have hown : Own8 w4 base (.slice (some ⟨gg, 0, none⟩) (o2.length + 1) cap) (o2 ++ [(y : Int)]) := by
    unfold Own8
    rw [List.length_append, List.length_singleton]
    simpa [nums] using ho4
  refine ⟨_, ⟨(blk_set he 1 _).trans (by simp)⟩, ⟨own_setCell (p := ⟨b, 1, none⟩) hown (by intro e; have := own_base hown b e.symm; omega) _⟩, ⟨?_⟩⟩
  have h1 : Mv base b b wv ((wv.alloc (.cells #[.int .u8 y] 5)).drew) := Mv.of_below (((Below.refl _ _).alloc (Nat.le_refl _) _).drew) (by omega)
  have h2 : Mv base b b ((wv.alloc (.cells #[.int .u8 y] 5)).drew) w4 := Mv.grown hg (own_base ho) (fun k o hk ho2 => by
    obtain ⟨cs, hc⟩ := own_typed ho k hk
    have : ((wv.alloc (.cells #[.int .u8 y] 5)).drew).heap[k]? = wv.heap[k]? := Below.heap_alloc _ _ _ (blk_lt hc)
    rw [this, hc] at ho2
    cases ho2
    rfl) (by simp; omega)
  exact ((hm.trans h1).trans h2).trans (Mv.set w4 b 1 (.inl rfl) _)
set_option maxHeartbeats 4000000 in
theorem put_call (base b : Nat) (x : Wr) (c : Nat) (w : World) (h : WS w base b x) (hj : x.j ≤ 3838) (hc : c < 2 ^ wd x.j) (hh : x.held < 8) (hb : x.bits < 2 ^ x.held) (hl : x.out.length ≤ 1000000000) :
    Calls Try.prog 18 #[.pointer (some ⟨b, 0, none⟩), .int .i64 c] w fun e w' => e = .returned (.tuple #[]) ∧ Mv base b b w w' ∧ WS w' base b (putW x c) := by
  obtain ⟨j, out, bits, held⟩ := x
  obtain ⟨⟨v, hd, hv⟩, hlo, hlb⟩ := h
  simp only at hd hv hj hc hh hb hl
  obtain ⟨n, hn⟩ : ∃ n, wd j = n := ⟨_, rfl⟩
  have hn12 := wd_le j
  have hn9 := wd_pos hj
  have hw := width_call j (by omega) w
  rw [hn] at hc hn12 hn9 hw
  have hbb : bits * 2 ^ n + c < 2 ^ (held + n) := by
    rw [Nat.pow_add]
    have : (bits + 1) * 2 ^ n ≤ 2 ^ held * 2 ^ n := Nat.mul_le_mul_right _ hb
    rw [Nat.add_mul] at this
    omega
  have hb20 : bits * 2 ^ n + c < 18446744073709551616 := by
    have : 2 ^ (held + n) ≤ 2 ^ 20 := Nat.pow_le_pow_right (by decide) (by omega)
    omega
  have hor := or_eq bits c n hc hb20
  obtain ⟨B, hB⟩ : ∃ B, bits * 2 ^ n + c = B := ⟨_, rfl⟩
  rw [hB] at hor hbb
  have d0 : w.cell? ⟨b, 0, none⟩ = some (.int .i64 j) := (blk_cell hd 0).trans (by simp)
  have HD := Aside0.mk hd
  have HV := Aside0.mk hv
  have HW := Aside0.mk hw
  have HN := Aside0.mk hn
  have HC := Aside0.mk hc
  have HBT := Aside0.mk hb
  have HBB := Aside0.mk hbb
  have HBE := Aside0.mk hB
  clear hd hv hw hn hc hb hbb hB hb20
  go_enter Try.func18, Try.ntmps18
  go_wp2_with fail
  refine HW.out.mono ?_
  rintro e w1 ⟨rfl, hb1⟩
  have e1 := (hb1.block b (by omega)).trans HD.out
  have d2 : w1.cell? ⟨b, 2, none⟩ = some (.int .u64 bits) := (blk_cell e1 2).trans (by simp)
  have d3 : w1.cell? ⟨b, 3, none⟩ = some (.int .i64 held) := (blk_cell e1 3).trans (by simp)
  have f2 := blk_frozen e1 2
  have f3 := blk_frozen e1 3
  have E1 : Aside0 (((w1.setCell ⟨b, 2, none⟩ (.int .u64 B)).setCell ⟨b, 3, none⟩ (.int .i64 (held + n))).heap[b]? = some (.cells #[.int .i64 j, v, .int .u64 B, .int .i64 ((held + n : Nat) : Int)] 53 (0, 0))) := ⟨(blk_set (blk_set e1 2 (.int .u64 B)) 3 (.int .i64 (held + n))).trans (by simp)⟩
  have HM := Aside0.mk (((Mv.of_below (bs := b) (bo := b) hb1 hlb).trans (Mv.set w1 b 2 (.inl rfl) (.int .u64 B))).trans (Mv.set _ b 3 (.inl rfl) (.int .i64 (held + n))))
  have HV1 := Aside0.mk (own_setCell (p := ⟨b, 3, none⟩) (own_setCell (p := ⟨b, 2, none⟩) (pw_own_below HV.out hb1) (by intro e; have := own_base HV.out b e.symm; omega) (.int .u64 B)) (by intro e; have := own_base HV.out b e.symm; omega) (.int .i64 (held + n)))
  clear e1 hb1 d0
  go_wp2_with fail
  obtain ⟨ww, hww⟩ : ∃ ww, (w1.setCell ⟨b, 2, none⟩ (.int .u64 B)).setCell ⟨b, 3, none⟩ (.int .i64 (held + n)) = ww := ⟨_, rfl⟩
  simp only [hww] at E1 HM HV1 ⊢
  clear hww d2 d3 f2 f3 hor
  go_loopg [] 3 (fun k wr => ∃ (o2 : List Int) (b2 h2 : Nat) (v2 : Value), h2 < 8 * k + 8 ∧ h2 ≤ 20 ∧ o2.length + k ≤ 1000000003 ∧ Aside0 (b2 < 2 ^ h2) ∧ Aside0 (flushN k o2 b2 h2 = flushN 3 out B (held + n)) ∧ Aside0 (wr.heap[b]? = some (.cells #[.int .i64 j, v2, .int .u64 b2, .int .i64 h2] 53 (0, 0))) ∧ Aside0 (Own8 wr base v2 o2) ∧ Aside0 (Mv base b b w wr))
  case atStart => exact ⟨out, B, held + n, v, by omega, by omega, by omega, HBB, ⟨rfl⟩, E1, HV1, HM⟩
  case round =>
    obtain ⟨o2, b2, h2, v2, hk, hk20, hol, HB2, HF, HH, HO, HMV⟩ := hrel
    have g3 : wr.cell? ⟨b, 3, none⟩ = some (.int .i64 h2) := (blk_cell HH.out 3).trans (by simp)
    have g2 : wr.cell? ⟨b, 2, none⟩ = some (.int .u64 b2) := (blk_cell HH.out 2).trans (by simp)
    have g1 : wr.cell? ⟨b, 1, none⟩ = some v2 := (blk_cell HH.out 1).trans (by simp)
    have f1 := blk_frozen HH.out 1
    have f2 := blk_frozen HH.out 2
    have f3 := blk_frozen HH.out 3
    by_cases h8 : h2 < 8
    · have t8 : decide ((8 : Int) ≤ (h2 : Int)) = false := decide_eq_false (by omega)
      go_wp2_with fail
      refine (count_call b j c _ (by omega) HH.out).mono ?_
      rintro e w3 ⟨rfl, hh3, hg3⟩
      go_wp2_with fail
      go_end0
      have hfl : (o2, b2, h2) = flushN 3 out B (held + n) := by
        rw [← HF.out]
        cases gk with
        | zero => rfl
        | succ k => unfold flushN; rw [if_pos h8]
      have hx : putW ⟨j, out, bits, held⟩ c = ⟨nextJ j c, o2, b2, h2⟩ := by
        unfold putW
        simp only [HN.out, HBE.out, ← hfl]
      rw [hx]
      refine ⟨rfl, HMV.out.trans ?_, ⟨⟨v2, hh3, own_other HO.out hg3 ?_⟩, hlo, Nat.le_trans hlb (Nat.le_trans HMV.out.size hg3.size)⟩⟩
      · exact ⟨hg3.os, hg3.tape, hg3.output, hg3.size, fun i h1 h2 h3 => hg3.block i (by have := HMV.out.size; omega) (fun e => h3 (by cases e; rfl)), KeepsOthers.of_grownBy hg3 (fun k o e ho => by cases e; rw [HH.out] at ho; cases ho; rfl)⟩
      · cases hv : v2.ownBlock with
        | none => exact .inl rfl
        | some k => exact .inr fun e => by have := own_base HO.out k hv; cases e; omega
    · obtain ⟨h3, rfl⟩ : ∃ h3, h2 = h3 + 8 := ⟨h2 - 8, by omega⟩
      have t8 : decide ((8 : Int) ≤ (h3 : Int) + 8) = true := decide_eq_true (by omega)
      have g3 : wr.cell? ⟨b, 3, none⟩ = some (.int .i64 ((h3 : Int) + 8)) := (blk_cell HH.out 3).trans (by simp)
      obtain ⟨i0, hi0, hz0, hz1, hz2⟩ := info_parts info5
      obtain ⟨y, hy⟩ : ∃ y : Nat, b2 / 2 ^ h3 % 256 = y := ⟨_, rfl⟩
      have hy8 : IntKind.u8.wrap ((b2 : Int) / 2 ^ h3) = (y : Int) := by
        rw [← hy, show (b2 : Int) / 2 ^ h3 = ((b2 / 2 ^ h3 : Nat) : Int) by simp, IntKind.wrap_u8]; omega
      obtain ⟨z, hz⟩ : ∃ z : Nat, b2 % 2 ^ h3 = z := ⟨_, rfl⟩
      have hb64 : b2 < 18446744073709551616 := by
        have := HB2.out
        have : 2 ^ (h3 + 8) ≤ 2 ^ 64 := Nat.pow_le_pow_right (by decide) (by omega)
        omega
      have hzz := and_eq b2 h3 (by omega) hb64
      rw [hz] at hzz
      have HY := Aside0.mk hy
      have HZ := Aside0.mk hz
      have HZZ := Aside0.mk hzz
      have HE := Aside0.mk (blk_set HH.out 3 (.int .i64 h3))
      have HO2 := Aside0.mk (own_setCell (p := ⟨b, 3, none⟩) HO.out (by intro e; have := own_base HO.out b e.symm; omega) (.int .i64 h3))
      have HM2 := Aside0.mk (HMV.out.trans (Mv.set wr b 3 (.inl rfl) (.int .i64 h3)))
      clear hy hz hb64 hzz
      go_wp2_with fail
      obtain ⟨wv, hwv⟩ : ∃ wv, wr.setCell ⟨b, 3, none⟩ (.int .i64 h3) = wv := ⟨_, rfl⟩
      simp only [hwv] at HE HO2 HM2 ⊢
      clear hwv g1 g2 g3 f1 f2 f3
      have e1 := HE.out
      have g1 : wv.cell? ⟨b, 1, none⟩ = some v2 := (blk_cell e1 1).trans (by simp)
      have g2 : wv.cell? ⟨b, 2, none⟩ = some (.int .u64 b2) := (blk_cell e1 2).trans (by simp)
      have g3 : wv.cell? ⟨b, 3, none⟩ = some (.int .i64 h3) := (blk_cell e1 3).trans (by simp)
      have f1 := blk_frozen e1 1
      clear e1
      have hbv := HM2.out.size
      have nb := own_base HO2.out b
      have nbv : v2.ownBlock ≠ some b := fun e => by have := nb e; omega
      clear nb
      have ho8 := HO2.out
      unfold Own8 at ho8
      have hA : Aside0 ((wv.alloc (.cells #[.int .u8 y] 5)).drew.heap[b]? = some (.cells #[.int .i64 j, v2, .int .u64 b2, .int .i64 h3] 53 (0, 0))) := ⟨(Below.heap_alloc _ _ _ (by omega)).trans (HE.out.trans (by simp))⟩
      have cA : (wv.alloc (.cells #[.int .u8 y] 5)).cell? ⟨b, 1, none⟩ = some v2 := (blk_cell (w := (wv.alloc (.cells #[.int .u8 y] 5)).drew) hA.out 1).trans (by simp)
      go_cut [] (fun wc => ∃ v3, Aside0 (wc.heap[b]? = some (.cells #[.int .i64 j, v3, .int .u64 b2, .int .i64 h3] 53 (0, 0))) ∧ Aside0 (Own8 wc base v3 (o2 ++ [(y : Int)])) ∧ Aside0 (Mv base b b w wc))
      case first =>
        go_region_law ((refine step_append_lies _ (by rfl) _ _ _ (by rfl) base 5 i0 _ 1 1 Try.underlying32 hi0 hz0 hz1 hz2 rfl (by omega) v2 o2.length (nums .u8 o2) (by rfl) ((ho8.alloc _).drew) ⟨wv.heap.size, 0, none⟩ 1 1 [.int .u8 y] (by rfl) (by rfl) (World.news_of_block (cs := #[.int .u8 y]) (t := 5) (fr := (0, 0)) (heap_alloc_new wv _)) (by simp [Value.oneCell']) (by omega) (by unfold maxLen; omega) (by omega) (by simp; omega) (wv.heap.size + 1) (by simp) ?_; intro gg cap w4 hown4 hgrow hat hlt; have E4 := Aside0.mk (blk_grown hA.out hgrow (fun e => nbv e.symm)); have f4 := blk_frozen E4.out 1; have c4 : w4.cell? ⟨b, 1, none⟩ = some v2 := (blk_cell E4.out 1).trans (by simp); have HO4 := Aside0.mk hown4; have HG4 := Aside0.mk hgrow; have HAT4 := Aside0.mk hat; clear hown4 hgrow hat))
        all_goals
          go_wp2_with fail
          go_meet
          exact appended hlo HO2.out HM2.out E4.out HO4.out HG4.out HAT4.out hlb
      case rest =>
        obtain ⟨v3, HE3, HO3, HM3⟩ := hcut
        clear g1 g2 g3 f1 hbv nbv ho8 hA cA
        have g2 : wc.cell? ⟨b, 2, none⟩ = some (.int .u64 b2) := (blk_cell HE3.out 2).trans (by simp)
        have g3 : wc.cell? ⟨b, 3, none⟩ = some (.int .i64 h3) := (blk_cell HE3.out 3).trans (by simp)
        have f2 := blk_frozen HE3.out 2
        have hzz := HZZ.out
        go_wp2_with fail
        go_region
        all_goals
          go_wp2_with fail
          cases gk with
          | zero => omega
          | succ k1 =>
            go_roundg k1
            case rel =>
              refine ⟨o2 ++ [(y : Int)], z, h3, v3, by omega, by omega, by rw [List.length_append, List.length_singleton]; omega, ⟨?_⟩, ⟨?_⟩, ⟨?_⟩, ⟨?_⟩, ⟨?_⟩⟩
              · rw [← HZ.out]; exact Nat.mod_lt _ (Nat.pow_pos (by decide))
              · rw [← HF.out]
                conv => rhs; unfold flushN
                rw [if_neg (by omega), Nat.add_sub_cancel, HY.out, HZ.out]
              · exact (blk_set HE3.out 2 _).trans (by simp)
              · exact own_setCell (p := ⟨b, 2, none⟩) HO3.out (by intro e; have := own_base HO3.out b e.symm; omega) _
              · exact (HM3.out.trans (Mv.set wc b 2 (.inl rfl) (.int .u64 z))).trans (Mv.of_below ((Below.refl _ _).drew) (by have := HM3.out.size; simp; omega))
            case measure => omega
end Go.Proofs.Ytfkiacbjiledcaa.G06w
