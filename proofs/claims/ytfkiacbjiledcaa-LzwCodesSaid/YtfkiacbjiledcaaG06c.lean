/- The writer's close (chapter 06). -/
import Derived.Test.YtfkiacbjiledcaaG06w
namespace Go.Proofs.Ytfkiacbjiledcaa.G06c
open Go.RowKit Go.Proofs.YtfkiacbjiledcaaW.PrintWords Go.Proofs.YtfkiacbjiledcaaW.PrintLast Go.Proofs.YtfkiacbjiledcaaW.PrintMore
open Go.Proofs.Ytfkiacbjiledcaa.K06 Go.Proofs.Ytfkiacbjiledcaa.G06 Go.Proofs.Ytfkiacbjiledcaa.M06 Go.Proofs.Ytfkiacbjiledcaa.G06w
set_option linter.unusedVariables false
set_option maxRecDepth 100000
attribute [local go_sem ↓] Go.wp_at_zero Go.wp_at_succ
set_option maxHeartbeats 4000000 in
theorem close_call (base b : Nat) (x : Wr) (w : World) (h : WS w base b x) (hh : x.held < 8) (hb : x.bits < 2 ^ x.held) (hl : x.out.length ≤ 1000000000) :
    Calls Try.prog 19 #[.pointer (some ⟨b, 0, none⟩)] w fun e w' => e = .returned (.tuple #[]) ∧ Mv base b b w w' ∧ ∃ v, w'.heap[b]? = some (.cells #[.int .i64 x.j, v, .int .u64 x.bits, .int .i64 x.held] 53 (0, 0)) ∧ Own8 w' base v (closeW x) := by
  obtain ⟨j, out, bits, held⟩ := x
  obtain ⟨⟨v, hd, hv⟩, hlo, hlb⟩ := h
  simp only at hd hv hh hb hl
  have g1 : w.cell? ⟨b, 1, none⟩ = some v := (blk_cell hd 1).trans (by simp)
  have g2 : w.cell? ⟨b, 2, none⟩ = some (.int .u64 bits) := (blk_cell hd 2).trans (by simp)
  have g3 : w.cell? ⟨b, 3, none⟩ = some (.int .i64 held) := (blk_cell hd 3).trans (by simp)
  have f1 := blk_frozen hd 1
  by_cases h0 : 0 < held
  · have t8 : decide ((0 : Int) < (held : Int)) = true := decide_eq_true (by omega)
    obtain ⟨i0, hi0, hz0, hz1, hz2⟩ := info_parts info5
    obtain ⟨s8, hs8⟩ : ∃ s8 : Nat, 8 - held = s8 := ⟨_, rfl⟩
    have hs8i : (8 : Int) - (held : Int) = (s8 : Int) := by omega
    have hws : IntKind.i64.wrap (s8 : Int) = (s8 : Int) := IntWalk.i64_in _ (by omega)
    have hsb : (s8 : Int) ≤ 64 := by omega
    obtain ⟨y, hy⟩ : ∃ y : Nat, bits * 2 ^ s8 % 256 = y := ⟨_, rfl⟩
    have hb64 : bits * 2 ^ s8 < 18446744073709551616 := by
      have h1 : bits * 2 ^ s8 < 2 ^ held * 2 ^ s8 := Nat.mul_lt_mul_of_pos_right hb (Nat.pow_pos (by decide))
      rw [← Nat.pow_add] at h1
      have : 2 ^ (held + s8) ≤ 2 ^ 16 := Nat.pow_le_pow_right (by decide) (by omega)
      omega
    have hy8 : IntKind.u8.wrap (IntKind.u64.wrap ((bits : Int) * 2 ^ s8)) = (y : Int) := by
      rw [← hy, show (bits : Int) * 2 ^ s8 = ((bits * 2 ^ s8 : Nat) : Int) by simp, IntKind.wrap_u64, IntKind.wrap_u8]; omega
    have hbv : base ≤ w.heap.size := hlb
    have nb := own_base hv b
    have nbv : v.ownBlock ≠ some b := fun e => by have := nb e; omega
    have hA : Aside0 ((w.alloc (.cells #[.int .u8 y] 5)).drew.heap[b]? = some (.cells #[.int .i64 j, v, .int .u64 bits, .int .i64 held] 53 (0, 0))) := ⟨(Below.heap_alloc _ _ _ (by omega)).trans hd⟩
    have cA : (w.alloc (.cells #[.int .u8 y] 5)).cell? ⟨b, 1, none⟩ = some v := (blk_cell (w := (w.alloc (.cells #[.int .u8 y] 5)).drew) hA.out 1).trans (by simp)
    have HD := Aside0.mk hd
    have HV := Aside0.mk hv
    have ho8 := hv
    unfold Own8 at ho8
    have HS := Aside0.mk hs8
    have HY := Aside0.mk hy
    have HB := Aside0.mk hb
    clear nb hd hv hs8 hy hb64 hb
    go_enter Try.func19, Try.ntmps19
    go_wp2_with fail
    go_region_law ((refine step_append_lies _ (by rfl) _ _ _ (by rfl) base 5 i0 _ 1 1 Try.underlying32 hi0 hz0 hz1 hz2 rfl (by omega) v out.length (nums .u8 out) (by rfl) ((ho8.alloc _).drew) ⟨w.heap.size, 0, none⟩ 1 1 [.int .u8 y] (by rfl) (by rfl) (World.news_of_block (cs := #[.int .u8 y]) (t := 5) (fr := (0, 0)) (heap_alloc_new w _)) (by simp [Value.oneCell']) (by omega) (by unfold maxLen; omega) (by omega) (by simp; omega) (w.heap.size + 1) (by simp) ?_; intro gg cap w4 hown4 hgrow hat hlt; have E4 := Aside0.mk (blk_grown hA.out hgrow (fun e => nbv e.symm)); have f4 := blk_frozen E4.out 1; have c4 : w4.cell? ⟨b, 1, none⟩ = some v := (blk_cell E4.out 1).trans (by simp); have HO4 := Aside0.mk hown4; have HG4 := Aside0.mk hgrow; have HAT4 := Aside0.mk hat; clear hown4 hgrow hat))
    all_goals
      go_wp2_with fail
      go_end0
      obtain ⟨v3, HE3, HO3, HM3⟩ := appended hlo HV.out (Mv.refl base b b w) E4.out HO4.out HG4.out HAT4.out hlb
      refine ⟨rfl, HM3.out, v3, HE3.out, ?_⟩
      unfold closeW
      simp only
      rw [if_pos h0, HS.out, HY.out]
      exact HO3.out
  · have t8 : decide ((0 : Int) < (held : Int)) = false := decide_eq_false (by omega)
    have HD := Aside0.mk hd
    have HV := Aside0.mk hv
    clear hd hv hb
    go_enter Try.func19, Try.ntmps19
    go_wp2_with fail
    go_end0
    refine ⟨rfl, Mv.refl base b b w, v, HD.out, ?_⟩
    unfold closeW
    simp only
    rw [if_neg h0]
    exact HV.out
end Go.Proofs.Ytfkiacbjiledcaa.G06c
