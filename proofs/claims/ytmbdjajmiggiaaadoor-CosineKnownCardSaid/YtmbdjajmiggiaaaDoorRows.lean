/-
  NARROWER THAN 'FOR EVERY INPUT', by the rows' own cells (each row's printed sentence says how): CosineBlocks: laid · CosineOrders: laid · CosineEncodes: laid · CosineDecodes: laid · CosineExact: laid · CosineKeeps: laid · CosineNear: laid · CosineLinear: laid · CosineKnown: laid.
  DERIVED. THE GIVEN ROWS OF THIS SEAT. 9 by the template 'for every input the law returns true; each argument reads behind the call as it read before'; 0 by the template 'total and deterministic' (their statements: YtmbdjajmiggiaaaDoorTotals.lean).
  GIVEN WITH THE SEED: the statements are not yours to turn. If you find one false, say at which input.
  Laid BY PROGRAM, IN A SANDBOX (cutbox-rows.mjs): the forced cells as the released guide's own fill.sh prints them over the translation b87670a1aa89093e… (all of the seat's roots in one cut). By AI agents, Wed Nov 11 2026. No macro, syntax, notation, axiom, sorry.
-/
import Derived.Test.YtmbdjajmiggiaaaDoorChecked
import GoSem.Claim
import GoSem.ClaimJoined
import GoSem.ClaimMapViews
import Derived.JoinedTies
import Derived.KernelRfl
namespace Go.Proofs.YtmbdjajmiggiaaaDoor
/- THE CELL 'sum', in the pinned program and in every row, IS THE sha256 OF THE DUMP (.gsa) THAT YtmbdjajmiggiaaaDoorProg.lean LOADS. Nothing in Lean hashes anything: it is a label: what it is worth is what the hold of that sum in a sandbox is worth. -/
noncomputable def Tryd.pinned : Pinned := { name := "ytmbdjajmiggiaaadoor", sum := "b87670a1aa89093e44bb0dad5b5798d674c53046ebf09c62341af79dfb1578c2", checked := Tryd.checked }
namespace Rows
def none {H : Type} : Left H := { results := [], args := [] }

/- WHAT THE LISTED PACKAGE-LEVEL VARIABLES READ AS WHEN THE CALL BEGINS. Each datum BY PROGRAM (the guide's laid-datum.mjs) off the statement by which the dump's own 'gosem.cut.vars' lays the variable. In a bare row this is a premise. The card (YtmbdjajmiggiaaaDoorCards.lean) ties it to the program's text. -/
def laid_chase_cosine_matrix {H : Type} : DataW H := .agg [.agg [.lit (.int .i64 1), .lit (.int .i64 1), .lit (.int .i64 1), .lit (.int .i64 1), .lit (.int .i64 1), .lit (.int .i64 1), .lit (.int .i64 1), .lit (.int .i64 1)], .agg [.lit (.int .i64 10), .lit (.int .i64 9), .lit (.int .i64 6), .lit (.int .i64 2), .lit (.int .i64 (-2)), .lit (.int .i64 (-6)), .lit (.int .i64 (-9)), .lit (.int .i64 (-10))], .agg [.lit (.int .i64 3), .lit (.int .i64 1), .lit (.int .i64 (-1)), .lit (.int .i64 (-3)), .lit (.int .i64 (-3)), .lit (.int .i64 (-1)), .lit (.int .i64 1), .lit (.int .i64 3)], .agg [.lit (.int .i64 9), .lit (.int .i64 (-2)), .lit (.int .i64 (-10)), .lit (.int .i64 (-6)), .lit (.int .i64 6), .lit (.int .i64 10), .lit (.int .i64 2), .lit (.int .i64 (-9))], .agg [.lit (.int .i64 1), .lit (.int .i64 (-1)), .lit (.int .i64 (-1)), .lit (.int .i64 1), .lit (.int .i64 1), .lit (.int .i64 (-1)), .lit (.int .i64 (-1)), .lit (.int .i64 1)], .agg [.lit (.int .i64 6), .lit (.int .i64 (-10)), .lit (.int .i64 2), .lit (.int .i64 9), .lit (.int .i64 (-9)), .lit (.int .i64 (-2)), .lit (.int .i64 10), .lit (.int .i64 (-6))], .agg [.lit (.int .i64 1), .lit (.int .i64 (-3)), .lit (.int .i64 3), .lit (.int .i64 (-1)), .lit (.int .i64 (-1)), .lit (.int .i64 3), .lit (.int .i64 (-3)), .lit (.int .i64 1)], .agg [.lit (.int .i64 2), .lit (.int .i64 (-6)), .lit (.int .i64 9), .lit (.int .i64 (-10)), .lit (.int .i64 10), .lit (.int .i64 (-9)), .lit (.int .i64 6), .lit (.int .i64 (-2))]]

/-- 'chaselaw08.CosineBlocks': WHATEVER THE INPUT: true; the input reads as it did. -/
def cosineBlocksSpec : ChangeSpec := { name := "cosineBlocks", fn := fun _ => fun
  | [d1, d2] => { results := [.lit (.bool true)], args := [d1, d2] }
  | _ => none }
def cosineBlocksRow : OpenClaim := { program := "ytmbdjajmiggiaaadoor", sum := "b87670a1aa89093e44bb0dad5b5798d674c53046ebf09c62341af79dfb1578c2", func := "chase/chaselaw08.CosineBlocks", spec := "cosineBlocks", unfollowed := true, recurses := true, named := ["chase/cosine.matrix"], apart := false, laid := [("chase/cosine.matrix", laid_chase_cosine_matrix)] }
def CosineBlocksSaid : Prop := cosineBlocksRow.holds Tryd.pinned (OpenSpec.ofChange cosineBlocksSpec)

/-- ITS FALSE NEIGHBOUR: 'it returns false'. Refute it at one input. -/
def cosineBlocksWrong : ChangeSpec := { name := "cosineBlocks", fn := fun _ => fun
  | [d1, d2] => { results := [.lit (.bool false)], args := [d1, d2] }
  | _ => none }
def CosineBlocksWrongFalsely : Prop := cosineBlocksRow.holds Tryd.pinned (OpenSpec.ofChange cosineBlocksWrong)

/-- 'chaselaw08.CosineOrders': WHATEVER THE INPUT: true; the input reads as it did. -/
def cosineOrdersSpec : ChangeSpec := { name := "cosineOrders", fn := fun _ => fun
  | [d] => { results := [.lit (.bool true)], args := [d] }
  | _ => none }
def cosineOrdersRow : OpenClaim := { program := "ytmbdjajmiggiaaadoor", sum := "b87670a1aa89093e44bb0dad5b5798d674c53046ebf09c62341af79dfb1578c2", func := "chase/chaselaw08.CosineOrders", spec := "cosineOrders", unfollowed := true, recurses := true, named := ["chase/cosine.matrix"], apart := false, laid := [("chase/cosine.matrix", laid_chase_cosine_matrix)] }
def CosineOrdersSaid : Prop := cosineOrdersRow.holds Tryd.pinned (OpenSpec.ofChange cosineOrdersSpec)

/-- ITS FALSE NEIGHBOUR: 'it returns false'. Refute it at one input. -/
def cosineOrdersWrong : ChangeSpec := { name := "cosineOrders", fn := fun _ => fun
  | [d] => { results := [.lit (.bool false)], args := [d] }
  | _ => none }
def CosineOrdersWrongFalsely : Prop := cosineOrdersRow.holds Tryd.pinned (OpenSpec.ofChange cosineOrdersWrong)

/-- 'chaselaw08.CosineEncodes': WHATEVER THE INPUT: true; the input reads as it did. -/
def cosineEncodesSpec : ChangeSpec := { name := "cosineEncodes", fn := fun _ => fun
  | [d1, d2, d3, d4, d5] => { results := [.lit (.bool true)], args := [d1, d2, d3, d4, d5] }
  | _ => none }
def cosineEncodesRow : OpenClaim := { program := "ytmbdjajmiggiaaadoor", sum := "b87670a1aa89093e44bb0dad5b5798d674c53046ebf09c62341af79dfb1578c2", func := "chase/chaselaw08.CosineEncodes", spec := "cosineEncodes", unfollowed := true, recurses := true, named := ["chase/cosine.matrix"], apart := false, laid := [("chase/cosine.matrix", laid_chase_cosine_matrix)] }
def CosineEncodesSaid : Prop := cosineEncodesRow.holds Tryd.pinned (OpenSpec.ofChange cosineEncodesSpec)

/-- ITS FALSE NEIGHBOUR: 'it returns false'. Refute it at one input. -/
def cosineEncodesWrong : ChangeSpec := { name := "cosineEncodes", fn := fun _ => fun
  | [d1, d2, d3, d4, d5] => { results := [.lit (.bool false)], args := [d1, d2, d3, d4, d5] }
  | _ => none }
def CosineEncodesWrongFalsely : Prop := cosineEncodesRow.holds Tryd.pinned (OpenSpec.ofChange cosineEncodesWrong)

/-- 'chaselaw08.CosineDecodes': WHATEVER THE INPUT: true; the input reads as it did. -/
def cosineDecodesSpec : ChangeSpec := { name := "cosineDecodes", fn := fun _ => fun
  | [d1, d2, d3, d4, d5, d6, d7] => { results := [.lit (.bool true)], args := [d1, d2, d3, d4, d5, d6, d7] }
  | _ => none }
def cosineDecodesRow : OpenClaim := { program := "ytmbdjajmiggiaaadoor", sum := "b87670a1aa89093e44bb0dad5b5798d674c53046ebf09c62341af79dfb1578c2", func := "chase/chaselaw08.CosineDecodes", spec := "cosineDecodes", unfollowed := true, recurses := true, named := ["chase/cosine.matrix"], apart := false, laid := [("chase/cosine.matrix", laid_chase_cosine_matrix)] }
def CosineDecodesSaid : Prop := cosineDecodesRow.holds Tryd.pinned (OpenSpec.ofChange cosineDecodesSpec)

/-- ITS FALSE NEIGHBOUR: 'it returns false'. Refute it at one input. -/
def cosineDecodesWrong : ChangeSpec := { name := "cosineDecodes", fn := fun _ => fun
  | [d1, d2, d3, d4, d5, d6, d7] => { results := [.lit (.bool false)], args := [d1, d2, d3, d4, d5, d6, d7] }
  | _ => none }
def CosineDecodesWrongFalsely : Prop := cosineDecodesRow.holds Tryd.pinned (OpenSpec.ofChange cosineDecodesWrong)

/-- 'chaselaw08.CosineExact': WHATEVER THE INPUT: true; the input reads as it did. -/
def cosineExactSpec : ChangeSpec := { name := "cosineExact", fn := fun _ => fun
  | [d] => { results := [.lit (.bool true)], args := [d] }
  | _ => none }
def cosineExactRow : OpenClaim := { program := "ytmbdjajmiggiaaadoor", sum := "b87670a1aa89093e44bb0dad5b5798d674c53046ebf09c62341af79dfb1578c2", func := "chase/chaselaw08.CosineExact", spec := "cosineExact", unfollowed := true, recurses := true, named := ["chase/cosine.matrix"], apart := false, laid := [("chase/cosine.matrix", laid_chase_cosine_matrix)] }
def CosineExactSaid : Prop := cosineExactRow.holds Tryd.pinned (OpenSpec.ofChange cosineExactSpec)

/-- ITS FALSE NEIGHBOUR: 'it returns false'. Refute it at one input. -/
def cosineExactWrong : ChangeSpec := { name := "cosineExact", fn := fun _ => fun
  | [d] => { results := [.lit (.bool false)], args := [d] }
  | _ => none }
def CosineExactWrongFalsely : Prop := cosineExactRow.holds Tryd.pinned (OpenSpec.ofChange cosineExactWrong)

/-- 'chaselaw08.CosineKeeps': WHATEVER THE INPUT: true; the input reads as it did. -/
def cosineKeepsSpec : ChangeSpec := { name := "cosineKeeps", fn := fun _ => fun
  | [d] => { results := [.lit (.bool true)], args := [d] }
  | _ => none }
def cosineKeepsRow : OpenClaim := { program := "ytmbdjajmiggiaaadoor", sum := "b87670a1aa89093e44bb0dad5b5798d674c53046ebf09c62341af79dfb1578c2", func := "chase/chaselaw08.CosineKeeps", spec := "cosineKeeps", unfollowed := true, recurses := true, named := ["chase/cosine.matrix"], apart := false, laid := [("chase/cosine.matrix", laid_chase_cosine_matrix)] }
def CosineKeepsSaid : Prop := cosineKeepsRow.holds Tryd.pinned (OpenSpec.ofChange cosineKeepsSpec)

/-- ITS FALSE NEIGHBOUR: 'it returns false'. Refute it at one input. -/
def cosineKeepsWrong : ChangeSpec := { name := "cosineKeeps", fn := fun _ => fun
  | [d] => { results := [.lit (.bool false)], args := [d] }
  | _ => none }
def CosineKeepsWrongFalsely : Prop := cosineKeepsRow.holds Tryd.pinned (OpenSpec.ofChange cosineKeepsWrong)

/-- 'chaselaw08.CosineNear': WHATEVER THE INPUT: true; the input reads as it did. -/
def cosineNearSpec : ChangeSpec := { name := "cosineNear", fn := fun _ => fun
  | [d1, d2] => { results := [.lit (.bool true)], args := [d1, d2] }
  | _ => none }
def cosineNearRow : OpenClaim := { program := "ytmbdjajmiggiaaadoor", sum := "b87670a1aa89093e44bb0dad5b5798d674c53046ebf09c62341af79dfb1578c2", func := "chase/chaselaw08.CosineNear", spec := "cosineNear", unfollowed := true, recurses := true, named := ["chase/cosine.matrix"], apart := false, laid := [("chase/cosine.matrix", laid_chase_cosine_matrix)] }
def CosineNearSaid : Prop := cosineNearRow.holds Tryd.pinned (OpenSpec.ofChange cosineNearSpec)

/-- ITS FALSE NEIGHBOUR: 'it returns false'. Refute it at one input. -/
def cosineNearWrong : ChangeSpec := { name := "cosineNear", fn := fun _ => fun
  | [d1, d2] => { results := [.lit (.bool false)], args := [d1, d2] }
  | _ => none }
def CosineNearWrongFalsely : Prop := cosineNearRow.holds Tryd.pinned (OpenSpec.ofChange cosineNearWrong)

/-- 'chaselaw08.CosineLinear': WHATEVER THE INPUT: true; the input reads as it did. -/
def cosineLinearSpec : ChangeSpec := { name := "cosineLinear", fn := fun _ => fun
  | [d1, d2] => { results := [.lit (.bool true)], args := [d1, d2] }
  | _ => none }
def cosineLinearRow : OpenClaim := { program := "ytmbdjajmiggiaaadoor", sum := "b87670a1aa89093e44bb0dad5b5798d674c53046ebf09c62341af79dfb1578c2", func := "chase/chaselaw08.CosineLinear", spec := "cosineLinear", unfollowed := true, recurses := true, named := ["chase/cosine.matrix"], apart := false, laid := [("chase/cosine.matrix", laid_chase_cosine_matrix)] }
def CosineLinearSaid : Prop := cosineLinearRow.holds Tryd.pinned (OpenSpec.ofChange cosineLinearSpec)

/-- ITS FALSE NEIGHBOUR: 'it returns false'. Refute it at one input. -/
def cosineLinearWrong : ChangeSpec := { name := "cosineLinear", fn := fun _ => fun
  | [d1, d2] => { results := [.lit (.bool false)], args := [d1, d2] }
  | _ => none }
def CosineLinearWrongFalsely : Prop := cosineLinearRow.holds Tryd.pinned (OpenSpec.ofChange cosineLinearWrong)

/-- 'chaselaw08.CosineKnown': WHATEVER THE INPUT: true; the input reads as it did. -/
def cosineKnownSpec : ChangeSpec := { name := "cosineKnown", fn := fun _ => fun
  | [] => { results := [.lit (.bool true)], args := [] }
  | _ => none }
def cosineKnownRow : OpenClaim := { program := "ytmbdjajmiggiaaadoor", sum := "b87670a1aa89093e44bb0dad5b5798d674c53046ebf09c62341af79dfb1578c2", func := "chase/chaselaw08.CosineKnown", spec := "cosineKnown", inPlace := ["internal/abi.NoEscape", "internal/bytealg.MakeNoZero"], unfollowed := true, recurses := true, named := ["chase/cosine.matrix"], apart := false, laid := [("chase/cosine.matrix", laid_chase_cosine_matrix)] }
def CosineKnownSaid : Prop := cosineKnownRow.holds Tryd.pinned (OpenSpec.ofChange cosineKnownSpec)

/-- ITS FALSE NEIGHBOUR: 'it returns false'. Refute it at one input. -/
def cosineKnownWrong : ChangeSpec := { name := "cosineKnown", fn := fun _ => fun
  | [] => { results := [.lit (.bool false)], args := [] }
  | _ => none }
def CosineKnownWrongFalsely : Prop := cosineKnownRow.holds Tryd.pinned (OpenSpec.ofChange cosineKnownWrong)

/- THE SECOND FORM. 'bulk': how many values and letters a reading holds, each counted each time it is reached (what is shared counts as often as it is met; a slice's spare places count too). A statement '..UptoSaid' is the law's where the arguments, and the package variables that the reading takes, are together of bulk at most 1048576: NARROWER than '..Said'. Prove '..Said' where nothing that the law and all that it calls make is longer than what came in: it says more and counts as full. Else prove '..UptoSaid'. A law counts once. -/
mutual
def uptoBulk {H : Type} : DataW H → Nat
  | .lit (.string bytes) => bytes.length + 1
  | .lit _ => 1
  | .nil => 1
  | .ptr d => uptoBulk d + 1
  | .slice elems spare => uptoBulkAll elems + uptoBulkAll spare + 1
  | .agg parts => uptoBulkAll parts + 1
  | .iface _ d => uptoBulk d + 1
  | .map entries => uptoBulkEntries entries + 1
  | .held _ => 1
def uptoBulkAll {H : Type} : List (DataW H) → Nat
  | [] => 0
  | d :: r => uptoBulk d + uptoBulkAll r
def uptoBulkEntries {H : Type} : List (Lit × DataW H) → Nat
  | [] => 0
  | x :: r => uptoBulkEntry x + uptoBulkEntries r
def uptoBulkEntry {H : Type} : Lit × DataW H → Nat
  | (.string bytes, d) => bytes.length + uptoBulk d + 1
  | (_, d) => uptoBulk d + 1
 end
def uptoSmall : (H : Type) → List (DataW H) → Bool := fun _ ds => decide (uptoBulkAll ds ≤ 1048576)
def OpenSpec.upto (s : _root_.Go.ChangeSpec) : _root_.Go.OpenSpec := { _root_.Go.OpenSpec.ofChange s with cond := some uptoSmall }

/-- 'chaselaw08.CosineBlocks', WHERE WHAT IT READS IS OF BULK AT MOST 1048576: true; the input reads as it did. -/
def cosineBlocksUptoRow : OpenClaim := { program := "ytmbdjajmiggiaaadoor", sum := "b87670a1aa89093e44bb0dad5b5798d674c53046ebf09c62341af79dfb1578c2", func := "chase/chaselaw08.CosineBlocks", spec := "cosineBlocks", unfollowed := true, recurses := true, named := ["chase/cosine.matrix"], apart := false, laid := [("chase/cosine.matrix", laid_chase_cosine_matrix)], narrowed := true }
def CosineBlocksUptoSaid : Prop := cosineBlocksUptoRow.holds Tryd.pinned (OpenSpec.upto cosineBlocksSpec)

/-- 'chaselaw08.CosineOrders', WHERE WHAT IT READS IS OF BULK AT MOST 1048576: true; the input reads as it did. -/
def cosineOrdersUptoRow : OpenClaim := { program := "ytmbdjajmiggiaaadoor", sum := "b87670a1aa89093e44bb0dad5b5798d674c53046ebf09c62341af79dfb1578c2", func := "chase/chaselaw08.CosineOrders", spec := "cosineOrders", unfollowed := true, recurses := true, named := ["chase/cosine.matrix"], apart := false, laid := [("chase/cosine.matrix", laid_chase_cosine_matrix)], narrowed := true }
def CosineOrdersUptoSaid : Prop := cosineOrdersUptoRow.holds Tryd.pinned (OpenSpec.upto cosineOrdersSpec)

/-- 'chaselaw08.CosineEncodes', WHERE WHAT IT READS IS OF BULK AT MOST 1048576: true; the input reads as it did. -/
def cosineEncodesUptoRow : OpenClaim := { program := "ytmbdjajmiggiaaadoor", sum := "b87670a1aa89093e44bb0dad5b5798d674c53046ebf09c62341af79dfb1578c2", func := "chase/chaselaw08.CosineEncodes", spec := "cosineEncodes", unfollowed := true, recurses := true, named := ["chase/cosine.matrix"], apart := false, laid := [("chase/cosine.matrix", laid_chase_cosine_matrix)], narrowed := true }
def CosineEncodesUptoSaid : Prop := cosineEncodesUptoRow.holds Tryd.pinned (OpenSpec.upto cosineEncodesSpec)

/-- 'chaselaw08.CosineDecodes', WHERE WHAT IT READS IS OF BULK AT MOST 1048576: true; the input reads as it did. -/
def cosineDecodesUptoRow : OpenClaim := { program := "ytmbdjajmiggiaaadoor", sum := "b87670a1aa89093e44bb0dad5b5798d674c53046ebf09c62341af79dfb1578c2", func := "chase/chaselaw08.CosineDecodes", spec := "cosineDecodes", unfollowed := true, recurses := true, named := ["chase/cosine.matrix"], apart := false, laid := [("chase/cosine.matrix", laid_chase_cosine_matrix)], narrowed := true }
def CosineDecodesUptoSaid : Prop := cosineDecodesUptoRow.holds Tryd.pinned (OpenSpec.upto cosineDecodesSpec)

/-- 'chaselaw08.CosineExact', WHERE WHAT IT READS IS OF BULK AT MOST 1048576: true; the input reads as it did. -/
def cosineExactUptoRow : OpenClaim := { program := "ytmbdjajmiggiaaadoor", sum := "b87670a1aa89093e44bb0dad5b5798d674c53046ebf09c62341af79dfb1578c2", func := "chase/chaselaw08.CosineExact", spec := "cosineExact", unfollowed := true, recurses := true, named := ["chase/cosine.matrix"], apart := false, laid := [("chase/cosine.matrix", laid_chase_cosine_matrix)], narrowed := true }
def CosineExactUptoSaid : Prop := cosineExactUptoRow.holds Tryd.pinned (OpenSpec.upto cosineExactSpec)

/-- 'chaselaw08.CosineKeeps', WHERE WHAT IT READS IS OF BULK AT MOST 1048576: true; the input reads as it did. -/
def cosineKeepsUptoRow : OpenClaim := { program := "ytmbdjajmiggiaaadoor", sum := "b87670a1aa89093e44bb0dad5b5798d674c53046ebf09c62341af79dfb1578c2", func := "chase/chaselaw08.CosineKeeps", spec := "cosineKeeps", unfollowed := true, recurses := true, named := ["chase/cosine.matrix"], apart := false, laid := [("chase/cosine.matrix", laid_chase_cosine_matrix)], narrowed := true }
def CosineKeepsUptoSaid : Prop := cosineKeepsUptoRow.holds Tryd.pinned (OpenSpec.upto cosineKeepsSpec)

/-- 'chaselaw08.CosineNear', WHERE WHAT IT READS IS OF BULK AT MOST 1048576: true; the input reads as it did. -/
def cosineNearUptoRow : OpenClaim := { program := "ytmbdjajmiggiaaadoor", sum := "b87670a1aa89093e44bb0dad5b5798d674c53046ebf09c62341af79dfb1578c2", func := "chase/chaselaw08.CosineNear", spec := "cosineNear", unfollowed := true, recurses := true, named := ["chase/cosine.matrix"], apart := false, laid := [("chase/cosine.matrix", laid_chase_cosine_matrix)], narrowed := true }
def CosineNearUptoSaid : Prop := cosineNearUptoRow.holds Tryd.pinned (OpenSpec.upto cosineNearSpec)

/-- 'chaselaw08.CosineLinear', WHERE WHAT IT READS IS OF BULK AT MOST 1048576: true; the input reads as it did. -/
def cosineLinearUptoRow : OpenClaim := { program := "ytmbdjajmiggiaaadoor", sum := "b87670a1aa89093e44bb0dad5b5798d674c53046ebf09c62341af79dfb1578c2", func := "chase/chaselaw08.CosineLinear", spec := "cosineLinear", unfollowed := true, recurses := true, named := ["chase/cosine.matrix"], apart := false, laid := [("chase/cosine.matrix", laid_chase_cosine_matrix)], narrowed := true }
def CosineLinearUptoSaid : Prop := cosineLinearUptoRow.holds Tryd.pinned (OpenSpec.upto cosineLinearSpec)

/-- 'chaselaw08.CosineKnown', WHERE WHAT IT READS IS OF BULK AT MOST 1048576: true; the input reads as it did. -/
def cosineKnownUptoRow : OpenClaim := { program := "ytmbdjajmiggiaaadoor", sum := "b87670a1aa89093e44bb0dad5b5798d674c53046ebf09c62341af79dfb1578c2", func := "chase/chaselaw08.CosineKnown", spec := "cosineKnown", inPlace := ["internal/abi.NoEscape", "internal/bytealg.MakeNoZero"], unfollowed := true, recurses := true, named := ["chase/cosine.matrix"], apart := false, laid := [("chase/cosine.matrix", laid_chase_cosine_matrix)], narrowed := true }
def CosineKnownUptoSaid : Prop := cosineKnownUptoRow.holds Tryd.pinned (OpenSpec.upto cosineKnownSpec)

end Rows
end Go.Proofs.YtmbdjajmiggiaaaDoor
