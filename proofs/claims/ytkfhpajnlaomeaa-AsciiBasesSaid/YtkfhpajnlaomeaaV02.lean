/- The chapter's examples hold: works, walked. -/
import Derived.Test.YtkfhpajnlaomeaaG02w
import Derived.Test.YtkfhpajnlaomeaaG02b
namespace Go.Proofs.Ytkfhpajnlaomeaa.V02
open Go.RowKit Go.Proofs.YtkfhpajnlaomeaaW.PrintWords Go.Proofs.YtkfhpajnlaomeaaW.PrintLast Go.Proofs.YtkfhpajnlaomeaaW.PrintMore
open Go.Proofs.Ytkfhpajnlaomeaa.K02 Go.Proofs.Ytkfhpajnlaomeaa.G02h
open Go.Proofs.Ytkfhpajnlaomeaa.G02r (unhex_call)
open Go.Proofs.Ytkfhpajnlaomeaa.G02w (unb85_call)
open Go.Proofs.Ytkfhpajnlaomeaa.G02b (b85_walk)
set_option linter.unusedVariables false
set_option maxRecDepth 100000
theorem hex_call (s r : ByteArray) (e : Int) (w : World) (h : hexRes s = (r, e)) : Calls Try.prog 11 #[.string s] w fun x w' => x = .returned (.tuple #[.string r, .int .i64 e]) ∧ Below w.heap.size w w' := hex_walk s r e w h
theorem b85_call (s r : ByteArray) (e : Int) (w : World) (h : b85Res s = (r, e)) : Calls Try.prog 15 #[.string s] w fun x w' => x = .returned (.tuple #[.string r, .int .i64 e]) ∧ Below w.heap.size w w' := b85_walk s r e w h
theorem e0 : hexRes ⟨#[0, 255, 16]⟩ = (⟨#[48, 48, 70, 70, 49, 48, 62]⟩, 0) := by kernel_rfl
theorem e1 : unhexRes ⟨#[52, 97, 32, 52, 66, 53, 62, 120]⟩ = (⟨#[74, 75, 80]⟩, 7, 0) := by kernel_rfl
theorem e2 : unhexRes ⟨#[52, 103, 62]⟩ = (⟨#[]⟩, 0, 5) := by kernel_rfl
theorem e3 : unhexRes ⟨#[52, 49]⟩ = (⟨#[]⟩, 0, 5) := by kernel_rfl
theorem e4 : b85Res ⟨#[77, 97, 110, 32]⟩ = (⟨#[57, 106, 113, 111, 94, 126, 62]⟩, 0) := by kernel_rfl
theorem e5 : b85Res ⟨#[0, 0, 0, 0, 0]⟩ = (⟨#[122, 33, 33, 126, 62]⟩, 0) := by kernel_rfl
theorem e6 : unb85Res ⟨#[57, 106, 113, 111, 94, 32, 122, 126, 32, 62, 46]⟩ = (⟨#[77, 97, 110, 32, 0, 0, 0, 0]⟩, 10, 0) := by kernel_rfl
theorem e7 : unb85Res ⟨#[33, 33, 126, 62]⟩ = (⟨#[0]⟩, 4, 0) := by kernel_rfl
theorem e8 : unb85Res ⟨#[33, 126, 62]⟩ = (⟨#[]⟩, 0, 5) := by kernel_rfl
theorem e9 : unb85Res ⟨#[33, 122, 33, 33, 33, 126, 62]⟩ = (⟨#[]⟩, 0, 5) := by kernel_rfl
theorem e10 : unb85Res ⟨#[115, 56, 87, 45, 35, 126, 62]⟩ = (⟨#[]⟩, 0, 5) := by kernel_rfl
theorem e11 : unb85Res ⟨#[33, 33, 33, 33, 33, 126]⟩ = (⟨#[]⟩, 0, 5) := by kernel_rfl
set_option maxHeartbeats 1000000 in
theorem works_call (w : World) : Calls Try.prog 9 #[] w fun e w' => e = .returned (.bool true) ∧ Below w.heap.size w w' := by
  go_enter Try.func9, Try.ntmps9
  go_wp2_with fail
  refine (hex_call _ _ _ _ e0).mono ?_
  rintro e w0 ⟨rfl, hb0⟩
  have hc0 := hb0
  go_wp2_with fail
  refine (unhex_call _ _ _ _ _ e1).mono ?_
  rintro e w1 ⟨rfl, hb1⟩
  have hc1 := below_step hc0 hb1
  clear hc0 hb1
  go_wp2_with fail
  refine (unhex_call _ _ _ _ _ e2).mono ?_
  rintro e w2 ⟨rfl, hb2⟩
  have hc2 := below_step hc1 hb2
  clear hc1 hb2
  go_wp2_with fail
  refine (unhex_call _ _ _ _ _ e3).mono ?_
  rintro e w3 ⟨rfl, hb3⟩
  have hc3 := below_step hc2 hb3
  clear hc2 hb3
  go_wp2_with fail
  refine (b85_call _ _ _ _ e4).mono ?_
  rintro e w4 ⟨rfl, hb4⟩
  have hc4 := below_step hc3 hb4
  clear hc3 hb4
  go_wp2_with fail
  refine (b85_call _ _ _ _ e5).mono ?_
  rintro e w5 ⟨rfl, hb5⟩
  have hc5 := below_step hc4 hb5
  clear hc4 hb5
  go_wp2_with fail
  refine (unb85_call _ _ _ _ _ e6).mono ?_
  rintro e w6 ⟨rfl, hb6⟩
  have hc6 := below_step hc5 hb6
  clear hc5 hb6
  go_wp2_with fail
  refine (unb85_call _ _ _ _ _ e7).mono ?_
  rintro e w7 ⟨rfl, hb7⟩
  have hc7 := below_step hc6 hb7
  clear hc6 hb7
  have i0 : ∀ w, (Instr.index 36 (.agg #[.string ⟨#[33, 126, 62]⟩, .string ⟨#[33, 122, 33, 33, 33, 126, 62]⟩, .string ⟨#[115, 56, 87, 45, 35, 126, 62]⟩, .string ⟨#[33, 33, 33, 33, 33, 126]⟩]) (.int .i64 0)).run Try.prog w = .ok (.string ⟨#[33, 126, 62]⟩) w := fun _ => by kernel_rfl
  have i1 : ∀ w, (Instr.index 36 (.agg #[.string ⟨#[33, 126, 62]⟩, .string ⟨#[33, 122, 33, 33, 33, 126, 62]⟩, .string ⟨#[115, 56, 87, 45, 35, 126, 62]⟩, .string ⟨#[33, 33, 33, 33, 33, 126]⟩]) (.int .i64 1)).run Try.prog w = .ok (.string ⟨#[33, 122, 33, 33, 33, 126, 62]⟩) w := fun _ => by kernel_rfl
  have i2 : ∀ w, (Instr.index 36 (.agg #[.string ⟨#[33, 126, 62]⟩, .string ⟨#[33, 122, 33, 33, 33, 126, 62]⟩, .string ⟨#[115, 56, 87, 45, 35, 126, 62]⟩, .string ⟨#[33, 33, 33, 33, 33, 126]⟩]) (.int .i64 2)).run Try.prog w = .ok (.string ⟨#[115, 56, 87, 45, 35, 126, 62]⟩) w := fun _ => by kernel_rfl
  have i3 : ∀ w, (Instr.index 36 (.agg #[.string ⟨#[33, 126, 62]⟩, .string ⟨#[33, 122, 33, 33, 33, 126, 62]⟩, .string ⟨#[115, 56, 87, 45, 35, 126, 62]⟩, .string ⟨#[33, 33, 33, 33, 33, 126]⟩]) (.int .i64 3)).run Try.prog w = .ok (.string ⟨#[33, 33, 33, 33, 33, 126]⟩) w := fun _ => by kernel_rfl
  have HB7 := Aside0.mk hc7
  clear hc7 hb0
  go_wp2_with fail
  go_loopw [96] (fun v wr => (v = .int .i64 0 ∨ v = .int .i64 1 ∨ v = .int .i64 2 ∨ v = .int .i64 3 ∨ v = .int .i64 4) ∧ Aside0 (Below w.heap.size w wr)) (fun v _ => 4 - (intOf v).toNat)
  case atStart => exact ⟨.inl rfl, HB7⟩
  case round =>
    obtain ⟨hk, HB⟩ := hrel
    rcases hk with rfl | rfl | rfl | rfl | rfl
    · go_wp2_with fail
      refine (unb85_call _ _ _ _ _ e8).mono ?_
      rintro e' w9 ⟨rfl, hb9⟩
      go_wp2_with fail
      exact ⟨⟨by simp, ⟨below_step HB.out hb9⟩⟩, by decide⟩
    · go_wp2_with fail
      refine (unb85_call _ _ _ _ _ e9).mono ?_
      rintro e' w9 ⟨rfl, hb9⟩
      go_wp2_with fail
      exact ⟨⟨by simp, ⟨below_step HB.out hb9⟩⟩, by decide⟩
    · go_wp2_with fail
      refine (unb85_call _ _ _ _ _ e10).mono ?_
      rintro e' w9 ⟨rfl, hb9⟩
      go_wp2_with fail
      exact ⟨⟨by simp, ⟨below_step HB.out hb9⟩⟩, by decide⟩
    · go_wp2_with fail
      refine (unb85_call _ _ _ _ _ e11).mono ?_
      rintro e' w9 ⟨rfl, hb9⟩
      go_wp2_with fail
      exact ⟨⟨by simp, ⟨below_step HB.out hb9⟩⟩, by decide⟩
    · go_wp2_with fail
      go_ret
      exact ⟨rfl, HB.out⟩
end Go.Proofs.Ytkfhpajnlaomeaa.V02
