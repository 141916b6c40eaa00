/-
  DERIVED. GIVEN WITH THE SEED: THE CARDS: each row of YtmbdjajmiggiaaaDoorRows.lean that lists a variable, with what it lists TIED to the program's text (the seventh form; the later family's looks); each row that meets fmt, with fmt's text TOLD by the authors' own Lean function (tested against real Go, not proved from fmt's source: count such statements apart). THE CARD IS WHAT COUNTS. Prove the row's statement (the work); the ties are given (YtmbdjajmiggiaaaDoorTie.lean); close each card by the builder's one call (the guide's Derived/Test/ToyasCard.lean, 'card_holds'). Laid BY PROGRAM, IN A SANDBOX (cutbox-door.mjs). By AI agents, Wed Nov 11 2026. No macro, syntax, notation, axiom, sorry.
-/
import Derived.Test.YtmbdjajmiggiaaaDoorRows
import GoSem.ClaimSeven
namespace Go.Proofs.YtmbdjajmiggiaaaDoor
namespace Rows

/-- THE TIED CARD OF 'chaselaw08.CosineBlocks'. -/
def cosineBlocksCard : Claim7 := { stood := { row := cosineBlocksRow, standIns := [], harness := (true, "0e1b4814fc00b2c9302c2832eb42697c25fbe1856308f2c8488262b5020dda13"), looks := false }, kinds := [], alts := [], laidByText := true, laidKinds := [.data], laidTests := true, laidLooks := .later }
def CosineBlocksCardSaid : Prop := Claim7.holds Tryd.pinned (.plain (OpenSpec.ofChange cosineBlocksSpec)) cosineBlocksCard

/-- THE TIED CARD OF 'chaselaw08.CosineOrders'. -/
def cosineOrdersCard : Claim7 := { stood := { row := cosineOrdersRow, standIns := [], harness := (true, "0e1b4814fc00b2c9302c2832eb42697c25fbe1856308f2c8488262b5020dda13"), looks := false }, kinds := [], alts := [], laidByText := true, laidKinds := [.data], laidTests := true, laidLooks := .later }
def CosineOrdersCardSaid : Prop := Claim7.holds Tryd.pinned (.plain (OpenSpec.ofChange cosineOrdersSpec)) cosineOrdersCard

/-- THE TIED CARD OF 'chaselaw08.CosineEncodes'. -/
def cosineEncodesCard : Claim7 := { stood := { row := cosineEncodesRow, standIns := [], harness := (true, "0e1b4814fc00b2c9302c2832eb42697c25fbe1856308f2c8488262b5020dda13"), looks := false }, kinds := [], alts := [], laidByText := true, laidKinds := [.data], laidTests := true, laidLooks := .later }
def CosineEncodesCardSaid : Prop := Claim7.holds Tryd.pinned (.plain (OpenSpec.ofChange cosineEncodesSpec)) cosineEncodesCard

/-- THE TIED CARD OF 'chaselaw08.CosineDecodes'. -/
def cosineDecodesCard : Claim7 := { stood := { row := cosineDecodesRow, standIns := [], harness := (true, "0e1b4814fc00b2c9302c2832eb42697c25fbe1856308f2c8488262b5020dda13"), looks := false }, kinds := [], alts := [], laidByText := true, laidKinds := [.data], laidTests := true, laidLooks := .later }
def CosineDecodesCardSaid : Prop := Claim7.holds Tryd.pinned (.plain (OpenSpec.ofChange cosineDecodesSpec)) cosineDecodesCard

/-- THE TIED CARD OF 'chaselaw08.CosineExact'. -/
def cosineExactCard : Claim7 := { stood := { row := cosineExactRow, standIns := [], harness := (true, "0e1b4814fc00b2c9302c2832eb42697c25fbe1856308f2c8488262b5020dda13"), looks := false }, kinds := [], alts := [], laidByText := true, laidKinds := [.data], laidTests := true, laidLooks := .later }
def CosineExactCardSaid : Prop := Claim7.holds Tryd.pinned (.plain (OpenSpec.ofChange cosineExactSpec)) cosineExactCard

/-- THE TIED CARD OF 'chaselaw08.CosineKeeps'. -/
def cosineKeepsCard : Claim7 := { stood := { row := cosineKeepsRow, standIns := [], harness := (true, "0e1b4814fc00b2c9302c2832eb42697c25fbe1856308f2c8488262b5020dda13"), looks := false }, kinds := [], alts := [], laidByText := true, laidKinds := [.data], laidTests := true, laidLooks := .later }
def CosineKeepsCardSaid : Prop := Claim7.holds Tryd.pinned (.plain (OpenSpec.ofChange cosineKeepsSpec)) cosineKeepsCard

/-- THE TIED CARD OF 'chaselaw08.CosineNear'. -/
def cosineNearCard : Claim7 := { stood := { row := cosineNearRow, standIns := [], harness := (true, "0e1b4814fc00b2c9302c2832eb42697c25fbe1856308f2c8488262b5020dda13"), looks := false }, kinds := [], alts := [], laidByText := true, laidKinds := [.data], laidTests := true, laidLooks := .later }
def CosineNearCardSaid : Prop := Claim7.holds Tryd.pinned (.plain (OpenSpec.ofChange cosineNearSpec)) cosineNearCard

/-- THE TIED CARD OF 'chaselaw08.CosineLinear'. -/
def cosineLinearCard : Claim7 := { stood := { row := cosineLinearRow, standIns := [], harness := (true, "0e1b4814fc00b2c9302c2832eb42697c25fbe1856308f2c8488262b5020dda13"), looks := false }, kinds := [], alts := [], laidByText := true, laidKinds := [.data], laidTests := true, laidLooks := .later }
def CosineLinearCardSaid : Prop := Claim7.holds Tryd.pinned (.plain (OpenSpec.ofChange cosineLinearSpec)) cosineLinearCard

/-- THE TIED CARD OF 'chaselaw08.CosineKnown'. -/
def cosineKnownCard : Claim7 := { stood := { row := cosineKnownRow, standIns := [], harness := (true, "0e1b4814fc00b2c9302c2832eb42697c25fbe1856308f2c8488262b5020dda13"), looks := false }, kinds := [], alts := [], laidByText := true, laidKinds := [.data], laidTests := true, laidLooks := .later }
def CosineKnownCardSaid : Prop := Claim7.holds Tryd.pinned (.plain (OpenSpec.ofChange cosineKnownSpec)) cosineKnownCard

/-- THE SECOND FORM's CARD OF 'chaselaw08.CosineBlocks'. -/
def cosineBlocksUptoCard : Claim7 := { stood := { row := cosineBlocksUptoRow, standIns := [], harness := (true, "0e1b4814fc00b2c9302c2832eb42697c25fbe1856308f2c8488262b5020dda13"), looks := false }, kinds := [], alts := [], laidByText := true, laidKinds := [.data], laidTests := true, laidLooks := .later }
def CosineBlocksUptoCardSaid : Prop := Claim7.holds Tryd.pinned (.plain (OpenSpec.upto cosineBlocksSpec)) cosineBlocksUptoCard

/-- THE SECOND FORM's CARD OF 'chaselaw08.CosineOrders'. -/
def cosineOrdersUptoCard : Claim7 := { stood := { row := cosineOrdersUptoRow, standIns := [], harness := (true, "0e1b4814fc00b2c9302c2832eb42697c25fbe1856308f2c8488262b5020dda13"), looks := false }, kinds := [], alts := [], laidByText := true, laidKinds := [.data], laidTests := true, laidLooks := .later }
def CosineOrdersUptoCardSaid : Prop := Claim7.holds Tryd.pinned (.plain (OpenSpec.upto cosineOrdersSpec)) cosineOrdersUptoCard

/-- THE SECOND FORM's CARD OF 'chaselaw08.CosineEncodes'. -/
def cosineEncodesUptoCard : Claim7 := { stood := { row := cosineEncodesUptoRow, standIns := [], harness := (true, "0e1b4814fc00b2c9302c2832eb42697c25fbe1856308f2c8488262b5020dda13"), looks := false }, kinds := [], alts := [], laidByText := true, laidKinds := [.data], laidTests := true, laidLooks := .later }
def CosineEncodesUptoCardSaid : Prop := Claim7.holds Tryd.pinned (.plain (OpenSpec.upto cosineEncodesSpec)) cosineEncodesUptoCard

/-- THE SECOND FORM's CARD OF 'chaselaw08.CosineDecodes'. -/
def cosineDecodesUptoCard : Claim7 := { stood := { row := cosineDecodesUptoRow, standIns := [], harness := (true, "0e1b4814fc00b2c9302c2832eb42697c25fbe1856308f2c8488262b5020dda13"), looks := false }, kinds := [], alts := [], laidByText := true, laidKinds := [.data], laidTests := true, laidLooks := .later }
def CosineDecodesUptoCardSaid : Prop := Claim7.holds Tryd.pinned (.plain (OpenSpec.upto cosineDecodesSpec)) cosineDecodesUptoCard

/-- THE SECOND FORM's CARD OF 'chaselaw08.CosineExact'. -/
def cosineExactUptoCard : Claim7 := { stood := { row := cosineExactUptoRow, standIns := [], harness := (true, "0e1b4814fc00b2c9302c2832eb42697c25fbe1856308f2c8488262b5020dda13"), looks := false }, kinds := [], alts := [], laidByText := true, laidKinds := [.data], laidTests := true, laidLooks := .later }
def CosineExactUptoCardSaid : Prop := Claim7.holds Tryd.pinned (.plain (OpenSpec.upto cosineExactSpec)) cosineExactUptoCard

/-- THE SECOND FORM's CARD OF 'chaselaw08.CosineKeeps'. -/
def cosineKeepsUptoCard : Claim7 := { stood := { row := cosineKeepsUptoRow, standIns := [], harness := (true, "0e1b4814fc00b2c9302c2832eb42697c25fbe1856308f2c8488262b5020dda13"), looks := false }, kinds := [], alts := [], laidByText := true, laidKinds := [.data], laidTests := true, laidLooks := .later }
def CosineKeepsUptoCardSaid : Prop := Claim7.holds Tryd.pinned (.plain (OpenSpec.upto cosineKeepsSpec)) cosineKeepsUptoCard

/-- THE SECOND FORM's CARD OF 'chaselaw08.CosineNear'. -/
def cosineNearUptoCard : Claim7 := { stood := { row := cosineNearUptoRow, standIns := [], harness := (true, "0e1b4814fc00b2c9302c2832eb42697c25fbe1856308f2c8488262b5020dda13"), looks := false }, kinds := [], alts := [], laidByText := true, laidKinds := [.data], laidTests := true, laidLooks := .later }
def CosineNearUptoCardSaid : Prop := Claim7.holds Tryd.pinned (.plain (OpenSpec.upto cosineNearSpec)) cosineNearUptoCard

/-- THE SECOND FORM's CARD OF 'chaselaw08.CosineLinear'. -/
def cosineLinearUptoCard : Claim7 := { stood := { row := cosineLinearUptoRow, standIns := [], harness := (true, "0e1b4814fc00b2c9302c2832eb42697c25fbe1856308f2c8488262b5020dda13"), looks := false }, kinds := [], alts := [], laidByText := true, laidKinds := [.data], laidTests := true, laidLooks := .later }
def CosineLinearUptoCardSaid : Prop := Claim7.holds Tryd.pinned (.plain (OpenSpec.upto cosineLinearSpec)) cosineLinearUptoCard

/-- THE SECOND FORM's CARD OF 'chaselaw08.CosineKnown'. -/
def cosineKnownUptoCard : Claim7 := { stood := { row := cosineKnownUptoRow, standIns := [], harness := (true, "0e1b4814fc00b2c9302c2832eb42697c25fbe1856308f2c8488262b5020dda13"), looks := false }, kinds := [], alts := [], laidByText := true, laidKinds := [.data], laidTests := true, laidLooks := .later }
def CosineKnownUptoCardSaid : Prop := Claim7.holds Tryd.pinned (.plain (OpenSpec.upto cosineKnownSpec)) cosineKnownUptoCard
end Rows
end Go.Proofs.YtmbdjajmiggiaaaDoor
