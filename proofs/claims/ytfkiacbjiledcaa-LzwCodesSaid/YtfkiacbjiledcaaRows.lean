/-
  No cell of these rows narrows 'for every input' (looked for: loops, veiled, ifaces, maps, wideKeys, modest, calm, conditions, laid).
  DERIVED. THE GIVEN ROWS OF THIS SEAT. 7 by the template 'for every input the law returns true; each argument reads behind the call as it read before'; 0 by the template 'total and deterministic' (their statements: YtfkiacbjiledcaaTotals.lean).
  GIVEN WITH THE SEED: the statements are not yours to turn. If you find one false, say at which input.
  Laid BY PROGRAM, IN A SANDBOX (cutbox-rows.mjs): the forced cells as the released guide's own fill.sh prints them over the translation 5f7188d8b61a2204… (all of the seat's roots in one cut). By AI agents, Wed Nov 11 2026. No macro, syntax, notation, axiom, sorry.
-/
import Derived.Test.YtfkiacbjiledcaaChecked
import GoSem.Claim
import GoSem.ClaimJoined
import GoSem.ClaimMapViews
import Derived.JoinedTies
import Derived.KernelRfl
namespace Go.Proofs.Ytfkiacbjiledcaa
/- THE CELL 'sum', in the pinned program and in every row, IS THE sha256 OF THE DUMP (.gsa) THAT YtfkiacbjiledcaaProg.lean LOADS. Nothing in Lean hashes anything: it is a label: what it is worth is what the hold of that sum in a sandbox is worth. -/
noncomputable def Try.pinned : Pinned := { name := "ytfkiacbjiledcaa", sum := "5f7188d8b61a2204c42cb4fd12b016c67deef5c931edd7b5e60f35d65d6f267f", checked := Try.checked }
namespace Rows
def none {H : Type} : Left H := { results := [], args := [] }

/-- 'chaselaw06.LzwEncodes': WHATEVER THE INPUT: true; the input reads as it did. -/
def lzwEncodesSpec : ChangeSpec := { name := "lzwEncodes", fn := fun _ => fun
  | [d1, d2] => { results := [.lit (.bool true)], args := [d1, d2] }
  | _ => none }
def lzwEncodesRow : OpenClaim := { program := "ytfkiacbjiledcaa", sum := "5f7188d8b61a2204c42cb4fd12b016c67deef5c931edd7b5e60f35d65d6f267f", func := "chase/chaselaw06.LzwEncodes", spec := "lzwEncodes", unfollowed := true, recurses := true, plainKeys := false, apart := false }
def LzwEncodesSaid : Prop := lzwEncodesRow.holds Try.pinned (OpenSpec.ofChange lzwEncodesSpec)

/-- ITS FALSE NEIGHBOUR: 'it returns false'. Refute it at one input. -/
def lzwEncodesWrong : ChangeSpec := { name := "lzwEncodes", fn := fun _ => fun
  | [d1, d2] => { results := [.lit (.bool false)], args := [d1, d2] }
  | _ => none }
def LzwEncodesWrongFalsely : Prop := lzwEncodesRow.holds Try.pinned (OpenSpec.ofChange lzwEncodesWrong)

/-- 'chaselaw06.LzwDecodes': WHATEVER THE INPUT: true; the input reads as it did. -/
def lzwDecodesSpec : ChangeSpec := { name := "lzwDecodes", fn := fun _ => fun
  | [d1, d2, d3, d4] => { results := [.lit (.bool true)], args := [d1, d2, d3, d4] }
  | _ => none }
def lzwDecodesRow : OpenClaim := { program := "ytfkiacbjiledcaa", sum := "5f7188d8b61a2204c42cb4fd12b016c67deef5c931edd7b5e60f35d65d6f267f", func := "chase/chaselaw06.LzwDecodes", spec := "lzwDecodes", unfollowed := true, recurses := true, plainKeys := false, apart := false }
def LzwDecodesSaid : Prop := lzwDecodesRow.holds Try.pinned (OpenSpec.ofChange lzwDecodesSpec)

/-- ITS FALSE NEIGHBOUR: 'it returns false'. Refute it at one input. -/
def lzwDecodesWrong : ChangeSpec := { name := "lzwDecodes", fn := fun _ => fun
  | [d1, d2, d3, d4] => { results := [.lit (.bool false)], args := [d1, d2, d3, d4] }
  | _ => none }
def LzwDecodesWrongFalsely : Prop := lzwDecodesRow.holds Try.pinned (OpenSpec.ofChange lzwDecodesWrong)

/-- 'chaselaw06.LzwCodes': WHATEVER THE INPUT: true; the input reads as it did. -/
def lzwCodesSpec : ChangeSpec := { name := "lzwCodes", fn := fun _ => fun
  | [d1, d2] => { results := [.lit (.bool true)], args := [d1, d2] }
  | _ => none }
def lzwCodesRow : OpenClaim := { program := "ytfkiacbjiledcaa", sum := "5f7188d8b61a2204c42cb4fd12b016c67deef5c931edd7b5e60f35d65d6f267f", func := "chase/chaselaw06.LzwCodes", spec := "lzwCodes", unfollowed := true, recurses := true, plainKeys := false, apart := false }
def LzwCodesSaid : Prop := lzwCodesRow.holds Try.pinned (OpenSpec.ofChange lzwCodesSpec)

/-- ITS FALSE NEIGHBOUR: 'it returns false'. Refute it at one input. -/
def lzwCodesWrong : ChangeSpec := { name := "lzwCodes", fn := fun _ => fun
  | [d1, d2] => { results := [.lit (.bool false)], args := [d1, d2] }
  | _ => none }
def LzwCodesWrongFalsely : Prop := lzwCodesRow.holds Try.pinned (OpenSpec.ofChange lzwCodesWrong)

/-- 'chaselaw06.LzwBack': WHATEVER THE INPUT: true; the input reads as it did. -/
def lzwBackSpec : ChangeSpec := { name := "lzwBack", fn := fun _ => fun
  | [d1, d2] => { results := [.lit (.bool true)], args := [d1, d2] }
  | _ => none }
def lzwBackRow : OpenClaim := { program := "ytfkiacbjiledcaa", sum := "5f7188d8b61a2204c42cb4fd12b016c67deef5c931edd7b5e60f35d65d6f267f", func := "chase/chaselaw06.LzwBack", spec := "lzwBack", unfollowed := true, recurses := true, plainKeys := false, apart := false }
def LzwBackSaid : Prop := lzwBackRow.holds Try.pinned (OpenSpec.ofChange lzwBackSpec)

/-- ITS FALSE NEIGHBOUR: 'it returns false'. Refute it at one input. -/
def lzwBackWrong : ChangeSpec := { name := "lzwBack", fn := fun _ => fun
  | [d1, d2] => { results := [.lit (.bool false)], args := [d1, d2] }
  | _ => none }
def LzwBackWrongFalsely : Prop := lzwBackRow.holds Try.pinned (OpenSpec.ofChange lzwBackWrong)

/-- 'chaselaw06.LzwLong': WHATEVER THE INPUT: true; the input reads as it did. -/
def lzwLongSpec : ChangeSpec := { name := "lzwLong", fn := fun _ => fun
  | [d1, d2, d3] => { results := [.lit (.bool true)], args := [d1, d2, d3] }
  | _ => none }
def lzwLongRow : OpenClaim := { program := "ytfkiacbjiledcaa", sum := "5f7188d8b61a2204c42cb4fd12b016c67deef5c931edd7b5e60f35d65d6f267f", func := "chase/chaselaw06.LzwLong", spec := "lzwLong", unfollowed := true, recurses := true, plainKeys := false, apart := false }
def LzwLongSaid : Prop := lzwLongRow.holds Try.pinned (OpenSpec.ofChange lzwLongSpec)

/-- ITS FALSE NEIGHBOUR: 'it returns false'. Refute it at one input. -/
def lzwLongWrong : ChangeSpec := { name := "lzwLong", fn := fun _ => fun
  | [d1, d2, d3] => { results := [.lit (.bool false)], args := [d1, d2, d3] }
  | _ => none }
def LzwLongWrongFalsely : Prop := lzwLongRow.holds Try.pinned (OpenSpec.ofChange lzwLongWrong)

/-- 'chaselaw06.LzwShrinks': WHATEVER THE INPUT: true; the input reads as it did. -/
def lzwShrinksSpec : ChangeSpec := { name := "lzwShrinks", fn := fun _ => fun
  | [d1, d2] => { results := [.lit (.bool true)], args := [d1, d2] }
  | _ => none }
def lzwShrinksRow : OpenClaim := { program := "ytfkiacbjiledcaa", sum := "5f7188d8b61a2204c42cb4fd12b016c67deef5c931edd7b5e60f35d65d6f267f", func := "chase/chaselaw06.LzwShrinks", spec := "lzwShrinks", inPlace := ["internal/abi.NoEscape", "internal/bytealg.MakeNoZero"], unfollowed := true, recurses := true, plainKeys := false, apart := false }
def LzwShrinksSaid : Prop := lzwShrinksRow.holds Try.pinned (OpenSpec.ofChange lzwShrinksSpec)

/-- ITS FALSE NEIGHBOUR: 'it returns false'. Refute it at one input. -/
def lzwShrinksWrong : ChangeSpec := { name := "lzwShrinks", fn := fun _ => fun
  | [d1, d2] => { results := [.lit (.bool false)], args := [d1, d2] }
  | _ => none }
def LzwShrinksWrongFalsely : Prop := lzwShrinksRow.holds Try.pinned (OpenSpec.ofChange lzwShrinksWrong)

/-- 'chaselaw06.LzwKnown': WHATEVER THE INPUT: true; the input reads as it did. -/
def lzwKnownSpec : ChangeSpec := { name := "lzwKnown", fn := fun _ => fun
  | [] => { results := [.lit (.bool true)], args := [] }
  | _ => none }
def lzwKnownRow : OpenClaim := { program := "ytfkiacbjiledcaa", sum := "5f7188d8b61a2204c42cb4fd12b016c67deef5c931edd7b5e60f35d65d6f267f", func := "chase/chaselaw06.LzwKnown", spec := "lzwKnown", inPlace := ["internal/abi.NoEscape", "internal/bytealg.MakeNoZero"], unfollowed := true, recurses := true, plainKeys := false, apart := false }
def LzwKnownSaid : Prop := lzwKnownRow.holds Try.pinned (OpenSpec.ofChange lzwKnownSpec)

/-- ITS FALSE NEIGHBOUR: 'it returns false'. Refute it at one input. -/
def lzwKnownWrong : ChangeSpec := { name := "lzwKnown", fn := fun _ => fun
  | [] => { results := [.lit (.bool false)], args := [] }
  | _ => none }
def LzwKnownWrongFalsely : Prop := lzwKnownRow.holds Try.pinned (OpenSpec.ofChange lzwKnownWrong)

/- THE SECOND FORM. 'bulk': how many values and letters a reading holds, each counted each time it is reached (what is shared counts as often as it is met; a slice's spare places count too). A statement '..UptoSaid' is the law's where the arguments, and the package variables that the reading takes, are together of bulk at most 1048576: NARROWER than '..Said'. Prove '..Said' where nothing that the law and all that it calls make is longer than what came in: it says more and counts as full. Else prove '..UptoSaid'. A law counts once. -/
mutual
def uptoBulk {H : Type} : DataW H → Nat
  | .lit (.string bytes) => bytes.length + 1
  | .lit _ => 1
  | .nil => 1
  | .ptr d => uptoBulk d + 1
  | .slice elems spare => uptoBulkAll elems + uptoBulkAll spare + 1
  | .agg parts => uptoBulkAll parts + 1
  | .iface _ d => uptoBulk d + 1
  | .map entries => uptoBulkEntries entries + 1
  | .held _ => 1
def uptoBulkAll {H : Type} : List (DataW H) → Nat
  | [] => 0
  | d :: r => uptoBulk d + uptoBulkAll r
def uptoBulkEntries {H : Type} : List (Lit × DataW H) → Nat
  | [] => 0
  | x :: r => uptoBulkEntry x + uptoBulkEntries r
def uptoBulkEntry {H : Type} : Lit × DataW H → Nat
  | (.string bytes, d) => bytes.length + uptoBulk d + 1
  | (_, d) => uptoBulk d + 1
 end
def uptoSmall : (H : Type) → List (DataW H) → Bool := fun _ ds => decide (uptoBulkAll ds ≤ 1048576)
def OpenSpec.upto (s : _root_.Go.ChangeSpec) : _root_.Go.OpenSpec := { _root_.Go.OpenSpec.ofChange s with cond := some uptoSmall }

/-- 'chaselaw06.LzwEncodes', WHERE WHAT IT READS IS OF BULK AT MOST 1048576: true; the input reads as it did. -/
def lzwEncodesUptoRow : OpenClaim := { program := "ytfkiacbjiledcaa", sum := "5f7188d8b61a2204c42cb4fd12b016c67deef5c931edd7b5e60f35d65d6f267f", func := "chase/chaselaw06.LzwEncodes", spec := "lzwEncodes", unfollowed := true, recurses := true, plainKeys := false, apart := false, narrowed := true }
def LzwEncodesUptoSaid : Prop := lzwEncodesUptoRow.holds Try.pinned (OpenSpec.upto lzwEncodesSpec)

/-- 'chaselaw06.LzwDecodes', WHERE WHAT IT READS IS OF BULK AT MOST 1048576: true; the input reads as it did. -/
def lzwDecodesUptoRow : OpenClaim := { program := "ytfkiacbjiledcaa", sum := "5f7188d8b61a2204c42cb4fd12b016c67deef5c931edd7b5e60f35d65d6f267f", func := "chase/chaselaw06.LzwDecodes", spec := "lzwDecodes", unfollowed := true, recurses := true, plainKeys := false, apart := false, narrowed := true }
def LzwDecodesUptoSaid : Prop := lzwDecodesUptoRow.holds Try.pinned (OpenSpec.upto lzwDecodesSpec)

/-- 'chaselaw06.LzwCodes', WHERE WHAT IT READS IS OF BULK AT MOST 1048576: true; the input reads as it did. -/
def lzwCodesUptoRow : OpenClaim := { program := "ytfkiacbjiledcaa", sum := "5f7188d8b61a2204c42cb4fd12b016c67deef5c931edd7b5e60f35d65d6f267f", func := "chase/chaselaw06.LzwCodes", spec := "lzwCodes", unfollowed := true, recurses := true, plainKeys := false, apart := false, narrowed := true }
def LzwCodesUptoSaid : Prop := lzwCodesUptoRow.holds Try.pinned (OpenSpec.upto lzwCodesSpec)

/-- 'chaselaw06.LzwBack', WHERE WHAT IT READS IS OF BULK AT MOST 1048576: true; the input reads as it did. -/
def lzwBackUptoRow : OpenClaim := { program := "ytfkiacbjiledcaa", sum := "5f7188d8b61a2204c42cb4fd12b016c67deef5c931edd7b5e60f35d65d6f267f", func := "chase/chaselaw06.LzwBack", spec := "lzwBack", unfollowed := true, recurses := true, plainKeys := false, apart := false, narrowed := true }
def LzwBackUptoSaid : Prop := lzwBackUptoRow.holds Try.pinned (OpenSpec.upto lzwBackSpec)

/-- 'chaselaw06.LzwLong', WHERE WHAT IT READS IS OF BULK AT MOST 1048576: true; the input reads as it did. -/
def lzwLongUptoRow : OpenClaim := { program := "ytfkiacbjiledcaa", sum := "5f7188d8b61a2204c42cb4fd12b016c67deef5c931edd7b5e60f35d65d6f267f", func := "chase/chaselaw06.LzwLong", spec := "lzwLong", unfollowed := true, recurses := true, plainKeys := false, apart := false, narrowed := true }
def LzwLongUptoSaid : Prop := lzwLongUptoRow.holds Try.pinned (OpenSpec.upto lzwLongSpec)

/-- 'chaselaw06.LzwShrinks', WHERE WHAT IT READS IS OF BULK AT MOST 1048576: true; the input reads as it did. -/
def lzwShrinksUptoRow : OpenClaim := { program := "ytfkiacbjiledcaa", sum := "5f7188d8b61a2204c42cb4fd12b016c67deef5c931edd7b5e60f35d65d6f267f", func := "chase/chaselaw06.LzwShrinks", spec := "lzwShrinks", inPlace := ["internal/abi.NoEscape", "internal/bytealg.MakeNoZero"], unfollowed := true, recurses := true, plainKeys := false, apart := false, narrowed := true }
def LzwShrinksUptoSaid : Prop := lzwShrinksUptoRow.holds Try.pinned (OpenSpec.upto lzwShrinksSpec)

/-- 'chaselaw06.LzwKnown', WHERE WHAT IT READS IS OF BULK AT MOST 1048576: true; the input reads as it did. -/
def lzwKnownUptoRow : OpenClaim := { program := "ytfkiacbjiledcaa", sum := "5f7188d8b61a2204c42cb4fd12b016c67deef5c931edd7b5e60f35d65d6f267f", func := "chase/chaselaw06.LzwKnown", spec := "lzwKnown", inPlace := ["internal/abi.NoEscape", "internal/bytealg.MakeNoZero"], unfollowed := true, recurses := true, plainKeys := false, apart := false, narrowed := true }
def LzwKnownUptoSaid : Prop := lzwKnownUptoRow.holds Try.pinned (OpenSpec.upto lzwKnownSpec)

end Rows
end Go.Proofs.Ytfkiacbjiledcaa
