import Derived.Test.YtbgndbehceajpaaG05d
import Derived.Test.YtbgndbehceajpaaG05x
import Derived.Test.YtbgndbehceajpaaG05
namespace Go.Proofs.Ytbgndbehceajpaa.K05
open Go.RowKit Go.Proofs.YtbgndbehceajpaaW.PrintWords Go.Proofs.YtbgndbehceajpaaW.PrintLast Go.Proofs.YtbgndbehceajpaaW.PrintMore
open Go.Proofs.Ytbgndbehceajpaa.G05d
set_option linter.unusedVariables false
set_option maxRecDepth 100000
theorem enc_call (s : ByteArray) (r1 : ByteArray) (r2 : Int) (w : World) (h : G05x.res s = (r1, r2)) :
    Calls Try.prog 11 #[.string s] w fun e w' => e = .returned (.tuple #[.string r1, .int .i64 r2]) ∧ Below w.heap.size w w' := G05x.runs_Encode.calls s r1 r2 w (congrArg some h)
theorem dec_call (s : ByteArray) (r1 : ByteArray) (r2 r3 : Int) (w : World) (h : G05.res s = (r1, r2, r3)) :
    Calls Try.prog 13 #[.string s] w fun e w' => e = .returned (.tuple #[.string r1, .int .i64 r2, .int .i64 r3]) ∧ Below w.heap.size w w' := G05.runs_Decode.calls s r1 r2 r3 w (congrArg some h)
theorem codes_call (s want : ByteArray) (w : World) (h : G05x.res s = (want, 0)) :
    Calls Try.prog 16 #[.string s, .string want] w fun e w' => e = .returned (.bool true) ∧ Below w.heap.size w w' := by
  go_enter Try.func16, Try.ntmps16
  go_wp2_with fail
  refine (enc_call s want 0 _ h).mono ?_
  rintro e w1 ⟨rfl, hb⟩
  go_wp2
  go_ret
  exact ⟨rfl, hb⟩
theorem e1 : G05x.res ⟨#[97, 97, 97, 98]⟩ = (⟨#[254, 97, 0, 98, 128]⟩, 0) := by kernel_rfl
theorem e2 : G05x.res ⟨#[97, 97, 98]⟩ = (⟨#[2, 97, 97, 98, 128]⟩, 0) := by kernel_rfl
theorem e3 : G05x.res ⟨#[]⟩ = (⟨#[128]⟩, 0) := by kernel_rfl
theorem e4 : G05x.res (strOfNums (draftL [(120, 128)])) = (⟨#[129, 120, 0, 120, 128]⟩, 0) := by kernel_rfl
theorem e5 : G05x.res (strOfNums (draftL [(120, 128)]) ++ ⟨#[120]⟩) = (⟨#[129, 120, 255, 120, 128]⟩, 0) := by kernel_rfl
theorem e6 : G05x.res ⟨#[97, 98, 99, 99, 99, 99, 100]⟩ = (⟨#[1, 97, 98, 253, 99, 0, 100, 128]⟩, 0) := by kernel_rfl
theorem d1 : G05.res ⟨#[255, 97, 0, 98, 128, 120]⟩ = (⟨#[97, 97, 98]⟩, 5, 0) := by kernel_rfl
theorem d2 : G05.res ⟨#[128]⟩ = (⟨#[]⟩, 1, 0) := by kernel_rfl
theorem d3 : G05.res ⟨#[2, 97, 98]⟩ = (⟨#[]⟩, 0, 5) := by kernel_rfl
theorem d4 : G05.res ⟨#[129]⟩ = (⟨#[]⟩, 0, 5) := by kernel_rfl
theorem d5 : G05.res ⟨#[]⟩ = (⟨#[]⟩, 0, 5) := by kernel_rfl
theorem works_call (w : World) : Calls Try.prog 9 #[] w fun e w' => e = .returned (.bool true) ∧ Below w.heap.size w w' := by
  go_enter Try.func9, Try.ntmps9
  go_wp2_with fail
  refine (draft_walk _ 1 1 [(120, 128)] _ ⟨rfl, fun j h => ?_⟩ (by omega)).mono ?_
  · obtain rfl : j = 0 := by simp at h; omega
    refine ⟨_, rfl, ?_, ?_, by simp, by simp⟩
    · exact blk_cell (World.alloc_heap_new w _) 0
    · exact blk_cell (World.alloc_heap_new w _) 1
  rintro e w0 ⟨rfl, hb0⟩
  go_wp2_with fail
  refine (codes_call _ _ _ e1).mono ?_
  rintro e w1 ⟨rfl, hb1⟩
  go_wp2_with fail
  refine (codes_call _ _ _ e2).mono ?_
  rintro e w2 ⟨rfl, hb2⟩
  go_wp2_with fail
  refine (codes_call _ _ _ e3).mono ?_
  rintro e w3 ⟨rfl, hb3⟩
  go_wp2_with fail
  refine (codes_call _ _ _ e4).mono ?_
  rintro e w4 ⟨rfl, hb4⟩
  go_wp2_with fail
  refine (codes_call _ _ _ e5).mono ?_
  rintro e w5 ⟨rfl, hb5⟩
  go_wp2_with fail
  refine (codes_call _ _ _ e6).mono ?_
  rintro e w6 ⟨rfl, hb6⟩
  go_wp2_with fail
  refine (dec_call _ _ _ _ _ d1).mono ?_
  rintro e w7 ⟨rfl, hb7⟩
  go_wp2_with fail
  refine (dec_call _ _ _ _ _ d2).mono ?_
  rintro e w8 ⟨rfl, hb8⟩
  have hbs : Below w.heap.size w w8 := by
    have c0 : Below w.heap.size w w0 := below_step ((Below.refl _ w).alloc (Nat.le_refl _) _) hb0
    exact below_step (below_step (below_step (below_step (below_step (below_step (below_step (below_step c0 hb1) hb2) hb3) hb4) hb5) hb6) hb7) hb8
  have HB8 := Aside0.mk hbs
  clear hb0 hb1 hb2 hb3 hb4 hb5 hb6 hb7 hb8 hbs
  have i0 : ∀ w, (Instr.index 33 (.agg #[.string ⟨#[2, 97, 98]⟩, .string ⟨#[129]⟩, .string ⟨#[]⟩]) (.int .i64 0)).run Try.prog w = .ok (.string ⟨#[2, 97, 98]⟩) w := fun _ => by kernel_rfl
  have i1 : ∀ w, (Instr.index 33 (.agg #[.string ⟨#[2, 97, 98]⟩, .string ⟨#[129]⟩, .string ⟨#[]⟩]) (.int .i64 1)).run Try.prog w = .ok (.string ⟨#[129]⟩) w := fun _ => by kernel_rfl
  have i2 : ∀ w, (Instr.index 33 (.agg #[.string ⟨#[2, 97, 98]⟩, .string ⟨#[129]⟩, .string ⟨#[]⟩]) (.int .i64 2)).run Try.prog w = .ok (.string ⟨#[]⟩) w := fun _ => by kernel_rfl
  go_wp2_with fail
  go_loopw [47] (fun v wr => (v = .int .i64 0 ∨ v = .int .i64 1 ∨ v = .int .i64 2 ∨ v = .int .i64 3) ∧ Aside0 (Below w.heap.size w wr)) (fun v _ => 3 - (intOf v).toNat)
  case atStart => exact ⟨.inl rfl, HB8⟩
  case round =>
    obtain ⟨hk, HB⟩ := hrel
    rcases hk with rfl | rfl | rfl | rfl
    · go_wp2_with fail
      refine (dec_call _ _ _ _ _ d3).mono ?_
      rintro e' w9 ⟨rfl, hb9⟩
      go_wp2_with fail
      exact ⟨⟨by simp, ⟨below_step HB.out hb9⟩⟩, by decide⟩
    · go_wp2_with fail
      refine (dec_call _ _ _ _ _ d4).mono ?_
      rintro e' w9 ⟨rfl, hb9⟩
      go_wp2_with fail
      exact ⟨⟨by simp, ⟨below_step HB.out hb9⟩⟩, by decide⟩
    · go_wp2_with fail
      refine (dec_call _ _ _ _ _ d5).mono ?_
      rintro e' w9 ⟨rfl, hb9⟩
      go_wp2_with fail
      exact ⟨⟨by simp, ⟨below_step HB.out hb9⟩⟩, by decide⟩
    · go_wp2_with fail
      go_ret
      exact ⟨rfl, HB.out⟩
end Go.Proofs.Ytbgndbehceajpaa.K05
