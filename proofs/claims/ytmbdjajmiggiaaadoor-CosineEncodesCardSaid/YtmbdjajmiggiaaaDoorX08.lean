/- Closed facts of the chapter's examples (chapter 08). -/
import Derived.Test.YtmbdjajmiggiaaaDoorW08
namespace Go.Proofs.YtmbdjajmiggiaaaDoor.X08
open Go.Proofs.YtmbdjajmiggiaaaDoor.K08 Go.Proofs.YtmbdjajmiggiaaaDoor.G08 Go.Proofs.YtmbdjajmiggiaaaDoor.G08f Go.Proofs.YtmbdjajmiggiaaaDoor.Z08 Go.Proofs.YtmbdjajmiggiaaaDoor.O08 Go.Proofs.YtmbdjajmiggiaaaDoor.L08 Go.Proofs.YtmbdjajmiggiaaaDoor.E08 Go.Proofs.YtmbdjajmiggiaaaDoor.R08 Go.Proofs.YtmbdjajmiggiaaaDoor.R08b Go.Proofs.YtmbdjajmiggiaaaDoor.D08 Go.Proofs.YtmbdjajmiggiaaaDoor.W08
open Go.RowKit Go.Proofs.YtmbdjajmiggiaaaDoorW.PrintWords Go.Proofs.YtmbdjajmiggiaaaDoorW.PrintLast Go.Proofs.YtmbdjajmiggiaaaDoorW.PrintMore
set_option linter.unusedVariables false
set_option maxRecDepth 100000
def ones : List Int := List.replicate 64 1
theorem fwd_ones : fwdL ones = dot 64 := by kernel_rfl
theorem fwd_dot : (fwdL (dot 1)).getD 0 0 = 1 ∧ (fwdL (dot 1)).getD 1 0 = 10 ∧ (fwdL (dot 1)).getD 8 0 = 10 ∧ (fwdL (dot 1)).getD 9 0 = 100 := by decide +kernel
theorem inv_64 : invL (dot 64) = ones := by kernel_rfl
theorem inv_31 : invL (dot 31) = z64 := by kernel_rfl
theorem w_ones : wthn 1048576 ones = true := by kernel_rfl
theorem w_dot : wthn 1048576 (dot 1) = true := by kernel_rfl
theorem w_64 : wthn 4294967296 (dot 64) = true := by kernel_rfl
theorem w_31 : wthn 4294967296 (dot 31) = true := by kernel_rfl
theorem enc_81 : encRes ⟨#[129]⟩ 1 1 1 = (⟨#[0, 128, 1, 64]⟩, 0) := by kernel_rfl
theorem enc_80 : encRes ⟨#[128]⟩ 1 1 1 = (⟨#[64]⟩, 0) := by kernel_rfl
theorem dec_40 : decRes ⟨#[64]⟩ 1 1 1 = (⟨#[128]⟩, 1, 0) := by kernel_rfl
theorem dec_a : decRes ⟨#[0, 0, 64]⟩ 1 1 1 = (⟨#[]⟩, 0, 5) := by kernel_rfl
theorem dec_b : decRes ⟨#[0, 128, 1]⟩ 1 1 1 = (⟨#[]⟩, 0, 5) := by kernel_rfl
theorem dec_c : decRes ⟨#[0, 2]⟩ 1 1 1 = (⟨#[]⟩, 0, 5) := by kernel_rfl
theorem zAt1 : zAt 1 = (0, 1) ∧ zAt 2 = (1, 0) ∧ zAt 3 = (2, 0) ∧ zAt 63 = (7, 7) := by decide +kernel
end Go.Proofs.YtmbdjajmiggiaaaDoor.X08
