/- The chapter's examples hold: works, walked (chapter 06). -/
import Derived.Test.YtfkiacbjiledcaaG06x
import Derived.Test.YtfkiacbjiledcaaG06d
import Derived.Test.YtfkiacbjiledcaaP06x
namespace Go.Proofs.Ytfkiacbjiledcaa.V06
open Go.RowKit Go.Proofs.YtfkiacbjiledcaaW.PrintWords Go.Proofs.YtfkiacbjiledcaaW.PrintLast Go.Proofs.YtfkiacbjiledcaaW.PrintMore
open Go.Proofs.Ytfkiacbjiledcaa.K06 Go.Proofs.Ytfkiacbjiledcaa.P06
open Go.Proofs.Ytfkiacbjiledcaa.G06x (enc_call)
open Go.Proofs.Ytfkiacbjiledcaa.G06d (dec_call)
set_option linter.unusedVariables false
set_option maxRecDepth 100000
theorem lit_C (w : World) (xs : List Int) (h : xs.length ≤ 1000) : (Kd.int .i64).C (w.alloc (.cells (nums .i64 xs).toArray 3)) (some ⟨w.heap.size, 0, none⟩) xs.length xs := by
  refine Kd.C_of_reads (enc := Value.int .i64) (d := (0 : Int)) (h1 := fun _ => rfl) ⟨rfl, by omega, fun _ => ⟨_, rfl, fun j hj => ?_⟩⟩
  rw [E06.addp]
  refine (blk_cell (World.alloc_heap_new w _) j).trans ?_
  unfold nums
  simp [List.getD_eq_getElem?_getD, List.getElem?_eq_getElem hj]
theorem write_call (k : Nat) (xs : List Int) (r : ByteArray) (w : World) (hl : xs.length ≤ 1000) (h : chaseref06_Write.f k xs = some r) :
    Calls Try.prog 16 #[.slice (some ⟨w.heap.size, 0, none⟩) xs.length xs.length] (w.alloc (.cells (nums .i64 xs).toArray 3)) fun e w' => e = .returned (.string r) ∧ Below w.heap.size w w' :=
  (chaseref06_Write.calls k _ _ xs r _ (lit_C w xs hl) (Nat.le_refl _) h).mono fun e w' ⟨h1, h2⟩ => ⟨h1, ((Below.refl _ w).alloc (Nat.le_refl _) _).trans (h2.mono (by simp))⟩
theorem e1 : encRes ⟨#[]⟩ = (⟨#[128, 64, 64]⟩, 0) := by kernel_rfl
theorem e2 : encRes ⟨#[97, 97, 97, 97]⟩ = (⟨#[128, 24, 96, 70, 24, 8]⟩, 0) := by kernel_rfl
theorem e3 : encRes ⟨#[97, 98, 97, 98]⟩ = (⟨#[128, 24, 76, 80, 40, 8]⟩, 0) := by kernel_rfl
theorem d1 : decRes ⟨#[128, 64, 64, 7]⟩ = (⟨#[]⟩, 3, 0) := by kernel_rfl
theorem d2 : decRes ⟨#[128, 24, 96, 70, 24, 8]⟩ = (⟨#[97, 97, 97, 97]⟩, 6, 0) := by kernel_rfl
theorem d3 : decRes ⟨#[48, 192, 64]⟩ = (⟨#[97]⟩, 3, 0) := by kernel_rfl
theorem d4 : decRes ⟨#[129, 64, 64]⟩ = (⟨#[]⟩, 0, 5) := by kernel_rfl
theorem d5 : decRes ⟨#[128, 0]⟩ = (⟨#[]⟩, 0, 5) := by kernel_rfl
theorem d6 : decRes ⟨#[128, 64, 65]⟩ = (⟨#[]⟩, 0, 5) := by kernel_rfl
theorem d7 : decRes ⟨#[]⟩ = (⟨#[]⟩, 0, 5) := by kernel_rfl
theorem w1 : chaseref06_Write.f 200 [97, 257] = some ⟨#[48, 192, 64]⟩ := by kernel_rfl
theorem w2 : chaseref06_Write.f 200 [258, 257] = some ⟨#[129, 64, 64]⟩ := by kernel_rfl
theorem w3 : chaseref06_Write.f 200 [256] = some ⟨#[128, 0]⟩ := by kernel_rfl
theorem w4 : chaseref06_Write.f 200 [256, 97, 98, 258, 257] = some ⟨#[128, 24, 76, 80, 40, 8]⟩ := by kernel_rfl
set_option maxHeartbeats 2000000 in
theorem works_call (w : World) : Calls Try.prog 10 #[] w fun e w' => e = .returned (.bool true) ∧ Below w.heap.size w w' := by
  go_enter Try.func10, Try.ntmps10
  go_wp2_with fail
  refine (enc_call _ _ _ _ e1).mono ?_
  rintro e u1 ⟨rfl, hb1⟩
  have hc1 := hb1
  go_wp2_with fail
  refine (enc_call _ _ _ _ e2).mono ?_
  rintro e u2 ⟨rfl, hb2⟩
  have hc2 := below_step hc1 hb2
  clear hc1 hb1 hb2
  go_wp2_with fail
  refine (enc_call _ _ _ _ e3).mono ?_
  rintro e u3 ⟨rfl, hb3⟩
  have hc3 := below_step hc2 hb3
  clear hc2 hb3
  go_wp2_with fail
  refine (dec_call _ _ _ _ _ d1).mono ?_
  rintro e u4 ⟨rfl, hb4⟩
  have hc4 := below_step hc3 hb4
  clear hc3 hb4
  go_wp2_with fail
  refine (dec_call _ _ _ _ _ d2).mono ?_
  rintro e u5 ⟨rfl, hb5⟩
  have hc5 := below_step hc4 hb5
  clear hc4 hb5
  go_wp2_with fail
  refine (write_call 200 [97, 257] _ _ (by decide) w1).mono ?_
  rintro e u6 ⟨rfl, hb6⟩
  have hc6 := below_step hc5 hb6
  clear hc5 hb6
  go_wp2_with fail
  refine (dec_call _ _ _ _ _ d3).mono ?_
  rintro e u7 ⟨rfl, hb7⟩
  have hc7 := below_step hc6 hb7
  clear hc6 hb7
  go_wp2_with fail
  refine (write_call 200 [258, 257] _ _ (by decide) w2).mono ?_
  rintro e u8 ⟨rfl, hb8⟩
  have hc8 := below_step hc7 hb8
  clear hc7 hb8
  go_wp2_with fail
  refine (write_call 200 [256] _ _ (by decide) w3).mono ?_
  rintro e u9 ⟨rfl, hb9⟩
  have hc9 := below_step hc8 hb9
  clear hc8 hb9
  have i0 : ∀ w, (Instr.index 47 (.agg #[.string ⟨#[129, 64, 64]⟩, .string ⟨#[128, 0]⟩, .string ⟨#[128, 64, 65]⟩, .string ⟨#[]⟩]) (.int .i64 0)).run Try.prog w = .ok (.string ⟨#[129, 64, 64]⟩) w := fun _ => by kernel_rfl
  have i1 : ∀ w, (Instr.index 47 (.agg #[.string ⟨#[129, 64, 64]⟩, .string ⟨#[128, 0]⟩, .string ⟨#[128, 64, 65]⟩, .string ⟨#[]⟩]) (.int .i64 1)).run Try.prog w = .ok (.string ⟨#[128, 0]⟩) w := fun _ => by kernel_rfl
  have i2 : ∀ w, (Instr.index 47 (.agg #[.string ⟨#[129, 64, 64]⟩, .string ⟨#[128, 0]⟩, .string ⟨#[128, 64, 65]⟩, .string ⟨#[]⟩]) (.int .i64 2)).run Try.prog w = .ok (.string ⟨#[128, 64, 65]⟩) w := fun _ => by kernel_rfl
  have i3 : ∀ w, (Instr.index 47 (.agg #[.string ⟨#[129, 64, 64]⟩, .string ⟨#[128, 0]⟩, .string ⟨#[128, 64, 65]⟩, .string ⟨#[]⟩]) (.int .i64 3)).run Try.prog w = .ok (.string ⟨#[]⟩) w := fun _ => by kernel_rfl
  have HB9 := Aside0.mk hc9
  clear hc9
  go_wp2_with fail
  go_loopw [56] (fun v wr => (v = .int .i64 0 ∨ v = .int .i64 1 ∨ v = .int .i64 2 ∨ v = .int .i64 3 ∨ v = .int .i64 4) ∧ Aside0 (Below w.heap.size w wr)) (fun v _ => 4 - (intOf v).toNat)
  case atStart => exact ⟨.inl rfl, HB9⟩
  case round =>
    obtain ⟨hk, HB⟩ := hrel
    rcases hk with rfl | rfl | rfl | rfl | rfl
    · go_wp2_with fail
      refine (dec_call _ _ _ _ _ d4).mono ?_
      rintro e' v9 ⟨rfl, hb9⟩
      go_wp2_with fail
      exact ⟨⟨by simp, ⟨below_step HB.out hb9⟩⟩, by decide⟩
    · go_wp2_with fail
      refine (dec_call _ _ _ _ _ d5).mono ?_
      rintro e' v9 ⟨rfl, hb9⟩
      go_wp2_with fail
      exact ⟨⟨by simp, ⟨below_step HB.out hb9⟩⟩, by decide⟩
    · go_wp2_with fail
      refine (dec_call _ _ _ _ _ d6).mono ?_
      rintro e' v9 ⟨rfl, hb9⟩
      go_wp2_with fail
      exact ⟨⟨by simp, ⟨below_step HB.out hb9⟩⟩, by decide⟩
    · go_wp2_with fail
      refine (dec_call _ _ _ _ _ d7).mono ?_
      rintro e' v9 ⟨rfl, hb9⟩
      go_wp2_with fail
      exact ⟨⟨by simp, ⟨below_step HB.out hb9⟩⟩, by decide⟩
    · go_wp2_with fail
      refine (write_call 200 [256, 97, 98, 258, 257] _ _ (by decide) w4).mono ?_
      rintro e' v9 ⟨rfl, hb9⟩
      have hc := below_step HB.out hb9
      go_wp2_with fail
      go_ret
      exact ⟨rfl, hc⟩
end Go.Proofs.Ytfkiacbjiledcaa.V06
