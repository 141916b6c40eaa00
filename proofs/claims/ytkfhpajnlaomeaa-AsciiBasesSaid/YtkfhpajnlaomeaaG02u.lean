/- The decoder of hexadecimal digits, character by character. -/
import Derived.Test.YtkfhpajnlaomeaaM02
namespace Go.Proofs.Ytkfhpajnlaomeaa.G02u
open Go.RowKit Go.Proofs.YtkfhpajnlaomeaaW.PrintWords Go.Proofs.YtkfhpajnlaomeaaW.PrintLast Go.Proofs.YtkfhpajnlaomeaaW.PrintMore
open Go.Proofs.Ytkfhpajnlaomeaa.K02 Go.Proofs.Ytkfhpajnlaomeaa.B02 Go.Proofs.Ytkfhpajnlaomeaa.M02
set_option linter.unusedVariables false
set_option maxRecDepth 100000
theorem nib_all : ∀ c : Fin 256, Lib.indexByte [48, 49, 50, 51, 52, 53, 54, 55, 56, 57, 65, 66, 67, 68, 69, 70] (if 97 ≤ c.val ∧ c.val ≤ 102 then (UInt8.ofNat (c.val - 32)) else UInt8.ofNat c.val) = nib (c.val : Int) := by decide +kernel
theorem nib_low (c : Int) (h0 : 0 ≤ c) (h1 : c < 256) (hl : 97 ≤ c ∧ c ≤ 102) : Lib.indexByte [48, 49, 50, 51, 52, 53, 54, 55, 56, 57, 65, 66, 67, 68, 69, 70] (c - 32).toNat.toUInt8 = nib c := by
  have := nib_all ⟨c.toNat, by omega⟩
  simp only at this
  rw [if_pos (by omega), show ((c.toNat : Nat) : Int) = c by omega] at this
  rw [← this, show (c - 32).toNat = c.toNat - 32 by omega]
theorem nib_high (c : Int) (h0 : 0 ≤ c) (h1 : c < 256) (hl : ¬ (97 ≤ c ∧ c ≤ 102)) : Lib.indexByte [48, 49, 50, 51, 52, 53, 54, 55, 56, 57, 65, 66, 67, 68, 69, 70] c.toNat.toUInt8 = nib c := by
  have := nib_all ⟨c.toNat, by omega⟩
  simp only at this
  rw [if_neg (by omega), show ((c.toNat : Nat) : Int) = c by omega] at this
  rw [← this]
theorem nib_range (c : Int) : -1 ≤ nib c ∧ nib c < 16 := by unfold nib; repeat' split
                                                            all_goals omega
theorem nibble_call (c : Int) (h0 : 0 ≤ c) (h1 : c < 256) (w : World) : Calls Try.prog 46 #[.int .u8 c] w fun e w' => e = .returned (.int .i64 (nib c)) ∧ w' = w := by
  by_cases ha : 97 ≤ c
  · by_cases hb : c ≤ 102
    · have hn := nib_low c h0 h1 ⟨ha, hb⟩
      obtain ⟨r, hr⟩ : ∃ r, nib c = r := ⟨_, rfl⟩
      rw [hr] at hn ⊢
      clear hr
      go_enter Try.func46, Try.ntmps46
      go_wp2_with fail
      refine (Try.strings_IndexByte _ _ _).mono ?_
      rintro e w1 ⟨rfl, rfl⟩
      go_wp2_with fail
      go_ret
      exact ⟨by simp, rfl⟩
    · have hn := nib_high c h0 h1 (by omega)
      obtain ⟨r, hr⟩ : ∃ r, nib c = r := ⟨_, rfl⟩
      rw [hr] at hn ⊢
      clear hr
      go_enter Try.func46, Try.ntmps46
      go_wp2_with fail
      refine (Try.strings_IndexByte _ _ _).mono ?_
      rintro e w1 ⟨rfl, rfl⟩
      go_wp2_with fail
      go_ret
      exact ⟨by simp, rfl⟩
  · have hn := nib_high c h0 h1 (by omega)
    obtain ⟨r, hr⟩ : ∃ r, nib c = r := ⟨_, rfl⟩
    rw [hr] at hn ⊢
    clear hr
    go_enter Try.func46, Try.ntmps46
    go_wp2_with fail
    refine (Try.strings_IndexByte _ _ _).mono ?_
    rintro e w1 ⟨rfl, rfl⟩
    go_wp2_with fail
    go_ret
    exact ⟨by simp, rfl⟩
/-- What the decoder's two variables hold. -/
structure HS (W : World) (base D bo : Nat) (h : Half) : Prop where
  hd : W.heap[D]? = some (.cells #[.int .i64 h.high, .bool h.odd] 48 (0, 0))
  hb : Bx W base bo h.out
  ne : D ≠ bo
  ld : D < base
  r0 : 0 ≤ h.high
  r1 : h.high < 16
theorem or_all : ∀ a b : Fin 16, bits .or .i64 ((a.val : Int) * 16) (b.val : Int) = (a.val : Int) * 16 + b.val := by decide +kernel
theorem or_sum (a b : Int) (h0 : 0 ≤ a) (h1 : a < 16) (h2 : 0 ≤ b) (h3 : b < 16) : bits .or .i64 (a * 16) b = a * 16 + b := by
  have := or_all ⟨a.toNat, by omega⟩ ⟨b.toNat, by omega⟩
  simp only at this
  rw [show ((a.toNat : Nat) : Int) = a by omega, show ((b.toNat : Nat) : Int) = b by omega] at this
  exact this
def EM (bo : Nat) : Value := .func (.func 44) #[] #[.pointer (some ⟨bo, 0, none⟩)]
/-- One character. -/
def AfterH (base D bo : Nat) (h : Half) (c : Int) (w : World) (e : Ending) (w' : World) : Prop :=
  Mv base D bo w w' ∧ match takeH h c with
    | none => e = .returned (.int .i64 2)
    | some (h', true) => e = .returned (.int .i64 1) ∧ HS w' base D bo h'
    | some (h', false) => e = .returned (.int .i64 0) ∧ HS w' base D bo h'
theorem take_half (base D bo : Nat) (h : Half) (c : Int) (w : World) (hh : HS w base D bo h) (h0 : 0 ≤ c) (h1 : c < 256) (hl : h.out.length ≤ 1000000000) :
    Calls Try.prog 25 #[.pointer (some ⟨D, 0, none⟩), .int .u8 c, EM bo] w (AfterH base D bo h c w) := by
  obtain ⟨hi, od, out⟩ := h
  obtain ⟨hd, hb, hne, hld, r0, r1⟩ := hh
  simp only at hd hb r0 r1 hl
  have hD0 : w.cell? ⟨D, 0, none⟩ = some (.int .i64 hi) := blk_cell hd 0
  have hD1 : w.cell? ⟨D, 1, none⟩ = some (.bool od) := blk_cell hd 1
  have HB := Aside0.mk hb
  have HD := Aside0.mk hd
  obtain ⟨n, hn⟩ : ∃ n, nib c = n := ⟨_, rfl⟩
  have hnr := nib_range c
  rw [hn] at hnr
  have HN := Aside0.mk hn
  unfold EM
  clear hb hd hn
  by_cases c62 : c = 62
  · subst c62
    cases od with
    | true =>
      go_enter Try.func25, Try.ntmps25
      go_wp2_with fail
      refine (nibble_call _ h0 h1 _).mono ?_
      rintro e w1 ⟨rfl, rfl⟩
      rw [HN.out]
      go_wp2_with fail
      refine (emit base bo out [hi * 16] _ 1 1 _ (HB.out.below ((Below.refl _ _).alloc (Nat.le_refl _) _)) (reads_one _ _) (by omega)).mono ?_
      rintro e w2 ⟨rfl, hmv, hb2⟩
      have HM := Aside0.mk hmv
      have HB2 := Aside0.mk hb2
      clear hmv hb2
      go_wp2_with fail
      go_ret
      refine ⟨(Mv.alloc w1 _ HB.out.lb).trans (HM.out.weak D), ?_⟩
      unfold takeH
      rw [if_pos rfl]
      exact ⟨rfl, (HM.out.block D hld hne hne).trans ((((Below.refl _ w1).alloc (Nat.le_refl _) _).block D (by have := HB.out.lb; omega)).trans HD.out), HB2.out, hne, hld, r0, r1⟩
    | false =>
      go_enter Try.func25, Try.ntmps25
      go_wp2_with fail
      refine (nibble_call _ h0 h1 _).mono ?_
      rintro e w1 ⟨rfl, rfl⟩
      rw [HN.out]
      go_wp2_with fail
      go_ret
      refine ⟨Mv.refl _ _ _ _, ?_⟩
      unfold takeH
      rw [if_pos rfl]
      exact ⟨rfl, HD.out, HB.out, hne, hld, r0, r1⟩
  · have q1 : (c == 62) = false := by simpa using c62
    by_cases hn0 : n < 0
    · have q2 : decide (n < 0) = true := decide_eq_true hn0
      go_enter Try.func25, Try.ntmps25
      go_wp2_with fail
      refine (nibble_call _ h0 h1 _).mono ?_
      rintro e w1 ⟨rfl, rfl⟩
      rw [HN.out]
      go_wp2_with fail
      go_ret
      refine ⟨Mv.refl _ _ _ _, ?_⟩
      unfold takeH
      rw [if_neg c62, if_pos (by rw [HN.out]; exact hn0)]
      exact rfl
    · have q2 : decide (n < 0) = false := decide_eq_false hn0
      have hf0 := blk_frozen HD.out 0
      have hf1 := blk_frozen HD.out 1
      have hor := or_sum hi n r0 r1 (by omega) (by omega)
      cases od with
      | true =>
        go_enter Try.func25, Try.ntmps25
        go_wp2_with fail
        refine (nibble_call _ h0 h1 _).mono ?_
        rintro e w1 ⟨rfl, rfl⟩
        rw [HN.out]
        go_wp2_with fail
        refine (emit base bo out [hi * 16 + n] _ 1 1 _ (HB.out.below ((Below.refl _ _).alloc (Nat.le_refl _) _)) (reads_one _ _) (by omega)).mono ?_
        rintro e w2 ⟨rfl, hmv, hb2⟩
        have hd2 := (hmv.block D hld hne hne).trans ((((Below.refl _ w1).alloc (Nat.le_refl _) _).block D (by have := HB.out.lb; omega)).trans HD.out)
        have hD0' : w2.cell? ⟨D, 0, none⟩ = some (.int .i64 hi) := blk_cell hd2 0
        have hD1' : w2.cell? ⟨D, 1, none⟩ = some (.bool true) := blk_cell hd2 1
        have hf0' := blk_frozen hd2 0
        have hf1' := blk_frozen hd2 1
        have HM := Aside0.mk hmv
        have HB2 := Aside0.mk hb2
        have HD2 := Aside0.mk hd2
        clear hmv hb2 hd2 hD0 hD1 hf0 hf1
        go_wp2_with fail
        go_ret
        refine ⟨(Mv.alloc w1 _ HB.out.lb).trans ((HM.out.weak D).trans ((Mv.set w2 D 0 (.inl rfl) _).trans (Mv.set _ D 1 (.inl rfl) _))), ?_⟩
        unfold takeH
        rw [if_neg c62, if_neg (by rw [HN.out]; omega)]
        simp only [if_true, HN.out]
        exact ⟨rfl, blk_set (blk_set HD2.out 0 _) 1 _, (HB2.out.set D 0 hne hld _).set D 1 hne hld _, hne, hld, by simp only; omega, by simp only; omega⟩
      | false =>
        go_enter Try.func25, Try.ntmps25
        go_wp2_with fail
        refine (nibble_call _ h0 h1 _).mono ?_
        rintro e w1 ⟨rfl, rfl⟩
        rw [HN.out]
        go_wp2_with fail
        go_ret
        refine ⟨(Mv.set w1 D 0 (.inl rfl) _).trans (Mv.set _ D 1 (.inl rfl) _), ?_⟩
        unfold takeH
        rw [if_neg c62, if_neg (by rw [HN.out]; omega)]
        simp only [Bool.false_eq_true, if_false, HN.out]
        exact ⟨rfl, blk_set (blk_set HD.out 0 _) 1 _, (HB.out.set D 0 hne hld _).set D 1 hne hld _, hne, hld, by simp only; omega, by simp only; omega⟩
end Go.Proofs.Ytkfhpajnlaomeaa.G02u
