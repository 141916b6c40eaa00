/-
  No cell of these rows narrows 'for every input' (looked for: loops, veiled, ifaces, maps, wideKeys, modest, calm, conditions, laid).
  DERIVED. THE GIVEN ROWS OF THIS SEAT. 9 by the template 'for every input the law returns true; each argument reads behind the call as it read before'; 0 by the template 'total and deterministic' (their statements: YtimnohaalccdkaaTotals.lean).
  GIVEN WITH THE SEED: the statements are not yours to turn. If you find one false, say at which input.
  Laid BY PROGRAM, IN A SANDBOX (cutbox-rows.mjs): the forced cells as the released guide's own fill.sh prints them over the translation c1a182e3bc9bfabf… (all of the seat's roots in one cut). By AI agents, Wed Nov 11 2026. No macro, syntax, notation, axiom, sorry.
-/
import Derived.Test.YtimnohaalccdkaaChecked
import GoSem.Claim
import GoSem.ClaimJoined
import GoSem.ClaimMapViews
import Derived.JoinedTies
import Derived.KernelRfl
namespace Go.Proofs.Ytimnohaalccdkaa
/- THE CELL 'sum', in the pinned program and in every row, IS THE sha256 OF THE DUMP (.gsa) THAT YtimnohaalccdkaaProg.lean LOADS. Nothing in Lean hashes anything: it is a label: what it is worth is what the hold of that sum in a sandbox is worth. -/
noncomputable def Try.pinned : Pinned := { name := "ytimnohaalccdkaa", sum := "c1a182e3bc9bfabf0c420f526b7f96ca1d9530997c91dfcea771b5af86e40a50", checked := Try.checked }
namespace Rows
def none {H : Type} : Left H := { results := [], args := [] }

/-- 'chaselaw33.OutlineNumbers': WHATEVER THE INPUT: true; the input reads as it did. -/
def outlineNumbersSpec : ChangeSpec := { name := "outlineNumbers", fn := fun _ => fun
  | [d1, d2] => { results := [.lit (.bool true)], args := [d1, d2] }
  | _ => none }
def outlineNumbersRow : OpenClaim := { program := "ytimnohaalccdkaa", sum := "c1a182e3bc9bfabf0c420f526b7f96ca1d9530997c91dfcea771b5af86e40a50", func := "chase/chaselaw33.OutlineNumbers", spec := "outlineNumbers", unfollowed := true, recurses := true, apart := false }
def OutlineNumbersSaid : Prop := outlineNumbersRow.holds Try.pinned (OpenSpec.ofChange outlineNumbersSpec)

/-- ITS FALSE NEIGHBOUR: 'it returns false'. Refute it at one input. -/
def outlineNumbersWrong : ChangeSpec := { name := "outlineNumbers", fn := fun _ => fun
  | [d1, d2] => { results := [.lit (.bool false)], args := [d1, d2] }
  | _ => none }
def OutlineNumbersWrongFalsely : Prop := outlineNumbersRow.holds Try.pinned (OpenSpec.ofChange outlineNumbersWrong)

/-- 'chaselaw33.OutlineRuns': WHATEVER THE INPUT: true; the input reads as it did. -/
def outlineRunsSpec : ChangeSpec := { name := "outlineRuns", fn := fun _ => fun
  | [d1, d2, d3, d4, d5, d6] => { results := [.lit (.bool true)], args := [d1, d2, d3, d4, d5, d6] }
  | _ => none }
def outlineRunsRow : OpenClaim := { program := "ytimnohaalccdkaa", sum := "c1a182e3bc9bfabf0c420f526b7f96ca1d9530997c91dfcea771b5af86e40a50", func := "chase/chaselaw33.OutlineRuns", spec := "outlineRuns", unfollowed := true, recurses := true, apart := false }
def OutlineRunsSaid : Prop := outlineRunsRow.holds Try.pinned (OpenSpec.ofChange outlineRunsSpec)

/-- ITS FALSE NEIGHBOUR: 'it returns false'. Refute it at one input. -/
def outlineRunsWrong : ChangeSpec := { name := "outlineRuns", fn := fun _ => fun
  | [d1, d2, d3, d4, d5, d6] => { results := [.lit (.bool false)], args := [d1, d2, d3, d4, d5, d6] }
  | _ => none }
def OutlineRunsWrongFalsely : Prop := outlineRunsRow.holds Try.pinned (OpenSpec.ofChange outlineRunsWrong)

/-- 'chaselaw33.OutlineShorts': WHATEVER THE INPUT: true; the input reads as it did. -/
def outlineShortsSpec : ChangeSpec := { name := "outlineShorts", fn := fun _ => fun
  | [d1, d2] => { results := [.lit (.bool true)], args := [d1, d2] }
  | _ => none }
def outlineShortsRow : OpenClaim := { program := "ytimnohaalccdkaa", sum := "c1a182e3bc9bfabf0c420f526b7f96ca1d9530997c91dfcea771b5af86e40a50", func := "chase/chaselaw33.OutlineShorts", spec := "outlineShorts", inPlace := ["internal/abi.NoEscape"], unfollowed := true, recurses := true, apart := false }
def OutlineShortsSaid : Prop := outlineShortsRow.holds Try.pinned (OpenSpec.ofChange outlineShortsSpec)

/-- ITS FALSE NEIGHBOUR: 'it returns false'. Refute it at one input. -/
def outlineShortsWrong : ChangeSpec := { name := "outlineShorts", fn := fun _ => fun
  | [d1, d2] => { results := [.lit (.bool false)], args := [d1, d2] }
  | _ => none }
def OutlineShortsWrongFalsely : Prop := outlineShortsRow.holds Try.pinned (OpenSpec.ofChange outlineShortsWrong)

/-- 'chaselaw33.OutlineFlex': WHATEVER THE INPUT: true; the input reads as it did. -/
def outlineFlexSpec : ChangeSpec := { name := "outlineFlex", fn := fun _ => fun
  | [d1, d2, d3, d4] => { results := [.lit (.bool true)], args := [d1, d2, d3, d4] }
  | _ => none }
def outlineFlexRow : OpenClaim := { program := "ytimnohaalccdkaa", sum := "c1a182e3bc9bfabf0c420f526b7f96ca1d9530997c91dfcea771b5af86e40a50", func := "chase/chaselaw33.OutlineFlex", spec := "outlineFlex", inPlace := ["internal/abi.NoEscape"], unfollowed := true, recurses := true, apart := false }
def OutlineFlexSaid : Prop := outlineFlexRow.holds Try.pinned (OpenSpec.ofChange outlineFlexSpec)

/-- ITS FALSE NEIGHBOUR: 'it returns false'. Refute it at one input. -/
def outlineFlexWrong : ChangeSpec := { name := "outlineFlex", fn := fun _ => fun
  | [d1, d2, d3, d4] => { results := [.lit (.bool false)], args := [d1, d2, d3, d4] }
  | _ => none }
def OutlineFlexWrongFalsely : Prop := outlineFlexRow.holds Try.pinned (OpenSpec.ofChange outlineFlexWrong)

/-- 'chaselaw33.OutlineCalls': WHATEVER THE INPUT: true; the input reads as it did. -/
def outlineCallsSpec : ChangeSpec := { name := "outlineCalls", fn := fun _ => fun
  | [d1, d2, d3, d4] => { results := [.lit (.bool true)], args := [d1, d2, d3, d4] }
  | _ => none }
def outlineCallsRow : OpenClaim := { program := "ytimnohaalccdkaa", sum := "c1a182e3bc9bfabf0c420f526b7f96ca1d9530997c91dfcea771b5af86e40a50", func := "chase/chaselaw33.OutlineCalls", spec := "outlineCalls", inPlace := ["internal/abi.NoEscape"], unfollowed := true, recurses := true, apart := false }
def OutlineCallsSaid : Prop := outlineCallsRow.holds Try.pinned (OpenSpec.ofChange outlineCallsSpec)

/-- ITS FALSE NEIGHBOUR: 'it returns false'. Refute it at one input. -/
def outlineCallsWrong : ChangeSpec := { name := "outlineCalls", fn := fun _ => fun
  | [d1, d2, d3, d4] => { results := [.lit (.bool false)], args := [d1, d2, d3, d4] }
  | _ => none }
def OutlineCallsWrongFalsely : Prop := outlineCallsRow.holds Try.pinned (OpenSpec.ofChange outlineCallsWrong)

/-- 'chaselaw33.OutlineBuilds': WHATEVER THE INPUT: true; the input reads as it did. -/
def outlineBuildsSpec : ChangeSpec := { name := "outlineBuilds", fn := fun _ => fun
  | [d1, d2, d3, d4, d5] => { results := [.lit (.bool true)], args := [d1, d2, d3, d4, d5] }
  | _ => none }
def outlineBuildsRow : OpenClaim := { program := "ytimnohaalccdkaa", sum := "c1a182e3bc9bfabf0c420f526b7f96ca1d9530997c91dfcea771b5af86e40a50", func := "chase/chaselaw33.OutlineBuilds", spec := "outlineBuilds", inPlace := ["internal/abi.NoEscape"], unfollowed := true, recurses := true, apart := false }
def OutlineBuildsSaid : Prop := outlineBuildsRow.holds Try.pinned (OpenSpec.ofChange outlineBuildsSpec)

/-- ITS FALSE NEIGHBOUR: 'it returns false'. Refute it at one input. -/
def outlineBuildsWrong : ChangeSpec := { name := "outlineBuilds", fn := fun _ => fun
  | [d1, d2, d3, d4, d5] => { results := [.lit (.bool false)], args := [d1, d2, d3, d4, d5] }
  | _ => none }
def OutlineBuildsWrongFalsely : Prop := outlineBuildsRow.holds Try.pinned (OpenSpec.ofChange outlineBuildsWrong)

/-- 'chaselaw33.OutlineBack': WHATEVER THE INPUT: true; the input reads as it did. -/
def outlineBackSpec : ChangeSpec := { name := "outlineBack", fn := fun _ => fun
  | [d] => { results := [.lit (.bool true)], args := [d] }
  | _ => none }
def outlineBackRow : OpenClaim := { program := "ytimnohaalccdkaa", sum := "c1a182e3bc9bfabf0c420f526b7f96ca1d9530997c91dfcea771b5af86e40a50", func := "chase/chaselaw33.OutlineBack", spec := "outlineBack", inPlace := ["internal/abi.NoEscape"], unfollowed := true, recurses := true, apart := false }
def OutlineBackSaid : Prop := outlineBackRow.holds Try.pinned (OpenSpec.ofChange outlineBackSpec)

/-- ITS FALSE NEIGHBOUR: 'it returns false'. Refute it at one input. -/
def outlineBackWrong : ChangeSpec := { name := "outlineBack", fn := fun _ => fun
  | [d] => { results := [.lit (.bool false)], args := [d] }
  | _ => none }
def OutlineBackWrongFalsely : Prop := outlineBackRow.holds Try.pinned (OpenSpec.ofChange outlineBackWrong)

/-- 'chaselaw33.OutlineValid': WHATEVER THE INPUT: true; the input reads as it did. -/
def outlineValidSpec : ChangeSpec := { name := "outlineValid", fn := fun _ => fun
  | [d1, d2, d3, d4] => { results := [.lit (.bool true)], args := [d1, d2, d3, d4] }
  | _ => none }
def outlineValidRow : OpenClaim := { program := "ytimnohaalccdkaa", sum := "c1a182e3bc9bfabf0c420f526b7f96ca1d9530997c91dfcea771b5af86e40a50", func := "chase/chaselaw33.OutlineValid", spec := "outlineValid", inPlace := ["internal/abi.NoEscape"], unfollowed := true, recurses := true, apart := false }
def OutlineValidSaid : Prop := outlineValidRow.holds Try.pinned (OpenSpec.ofChange outlineValidSpec)

/-- ITS FALSE NEIGHBOUR: 'it returns false'. Refute it at one input. -/
def outlineValidWrong : ChangeSpec := { name := "outlineValid", fn := fun _ => fun
  | [d1, d2, d3, d4] => { results := [.lit (.bool false)], args := [d1, d2, d3, d4] }
  | _ => none }
def OutlineValidWrongFalsely : Prop := outlineValidRow.holds Try.pinned (OpenSpec.ofChange outlineValidWrong)

/-- 'chaselaw33.OutlineKnown': WHATEVER THE INPUT: true; the input reads as it did. -/
def outlineKnownSpec : ChangeSpec := { name := "outlineKnown", fn := fun _ => fun
  | [] => { results := [.lit (.bool true)], args := [] }
  | _ => none }
def outlineKnownRow : OpenClaim := { program := "ytimnohaalccdkaa", sum := "c1a182e3bc9bfabf0c420f526b7f96ca1d9530997c91dfcea771b5af86e40a50", func := "chase/chaselaw33.OutlineKnown", spec := "outlineKnown", inPlace := ["internal/abi.NoEscape", "internal/bytealg.MakeNoZero"], unfollowed := true, recurses := true, apart := false }
def OutlineKnownSaid : Prop := outlineKnownRow.holds Try.pinned (OpenSpec.ofChange outlineKnownSpec)

/-- ITS FALSE NEIGHBOUR: 'it returns false'. Refute it at one input. -/
def outlineKnownWrong : ChangeSpec := { name := "outlineKnown", fn := fun _ => fun
  | [] => { results := [.lit (.bool false)], args := [] }
  | _ => none }
def OutlineKnownWrongFalsely : Prop := outlineKnownRow.holds Try.pinned (OpenSpec.ofChange outlineKnownWrong)

/- THE SECOND FORM. 'bulk': how many values and letters a reading holds, each counted each time it is reached (what is shared counts as often as it is met; a slice's spare places count too). A statement '..UptoSaid' is the law's where the arguments, and the package variables that the reading takes, are together of bulk at most 1048576: NARROWER than '..Said'. Prove '..Said' where nothing that the law and all that it calls make is longer than what came in: it says more and counts as full. Else prove '..UptoSaid'. A law counts once. -/
mutual
def uptoBulk {H : Type} : DataW H → Nat
  | .lit (.string bytes) => bytes.length + 1
  | .lit _ => 1
  | .nil => 1
  | .ptr d => uptoBulk d + 1
  | .slice elems spare => uptoBulkAll elems + uptoBulkAll spare + 1
  | .agg parts => uptoBulkAll parts + 1
  | .iface _ d => uptoBulk d + 1
  | .map entries => uptoBulkEntries entries + 1
  | .held _ => 1
def uptoBulkAll {H : Type} : List (DataW H) → Nat
  | [] => 0
  | d :: r => uptoBulk d + uptoBulkAll r
def uptoBulkEntries {H : Type} : List (Lit × DataW H) → Nat
  | [] => 0
  | x :: r => uptoBulkEntry x + uptoBulkEntries r
def uptoBulkEntry {H : Type} : Lit × DataW H → Nat
  | (.string bytes, d) => bytes.length + uptoBulk d + 1
  | (_, d) => uptoBulk d + 1
 end
def uptoSmall : (H : Type) → List (DataW H) → Bool := fun _ ds => decide (uptoBulkAll ds ≤ 1048576)
def OpenSpec.upto (s : _root_.Go.ChangeSpec) : _root_.Go.OpenSpec := { _root_.Go.OpenSpec.ofChange s with cond := some uptoSmall }

/-- 'chaselaw33.OutlineNumbers', WHERE WHAT IT READS IS OF BULK AT MOST 1048576: true; the input reads as it did. -/
def outlineNumbersUptoRow : OpenClaim := { program := "ytimnohaalccdkaa", sum := "c1a182e3bc9bfabf0c420f526b7f96ca1d9530997c91dfcea771b5af86e40a50", func := "chase/chaselaw33.OutlineNumbers", spec := "outlineNumbers", unfollowed := true, recurses := true, apart := false, narrowed := true }
def OutlineNumbersUptoSaid : Prop := outlineNumbersUptoRow.holds Try.pinned (OpenSpec.upto outlineNumbersSpec)

/-- 'chaselaw33.OutlineRuns', WHERE WHAT IT READS IS OF BULK AT MOST 1048576: true; the input reads as it did. -/
def outlineRunsUptoRow : OpenClaim := { program := "ytimnohaalccdkaa", sum := "c1a182e3bc9bfabf0c420f526b7f96ca1d9530997c91dfcea771b5af86e40a50", func := "chase/chaselaw33.OutlineRuns", spec := "outlineRuns", unfollowed := true, recurses := true, apart := false, narrowed := true }
def OutlineRunsUptoSaid : Prop := outlineRunsUptoRow.holds Try.pinned (OpenSpec.upto outlineRunsSpec)

/-- 'chaselaw33.OutlineShorts', WHERE WHAT IT READS IS OF BULK AT MOST 1048576: true; the input reads as it did. -/
def outlineShortsUptoRow : OpenClaim := { program := "ytimnohaalccdkaa", sum := "c1a182e3bc9bfabf0c420f526b7f96ca1d9530997c91dfcea771b5af86e40a50", func := "chase/chaselaw33.OutlineShorts", spec := "outlineShorts", inPlace := ["internal/abi.NoEscape"], unfollowed := true, recurses := true, apart := false, narrowed := true }
def OutlineShortsUptoSaid : Prop := outlineShortsUptoRow.holds Try.pinned (OpenSpec.upto outlineShortsSpec)

/-- 'chaselaw33.OutlineFlex', WHERE WHAT IT READS IS OF BULK AT MOST 1048576: true; the input reads as it did. -/
def outlineFlexUptoRow : OpenClaim := { program := "ytimnohaalccdkaa", sum := "c1a182e3bc9bfabf0c420f526b7f96ca1d9530997c91dfcea771b5af86e40a50", func := "chase/chaselaw33.OutlineFlex", spec := "outlineFlex", inPlace := ["internal/abi.NoEscape"], unfollowed := true, recurses := true, apart := false, narrowed := true }
def OutlineFlexUptoSaid : Prop := outlineFlexUptoRow.holds Try.pinned (OpenSpec.upto outlineFlexSpec)

/-- 'chaselaw33.OutlineCalls', WHERE WHAT IT READS IS OF BULK AT MOST 1048576: true; the input reads as it did. -/
def outlineCallsUptoRow : OpenClaim := { program := "ytimnohaalccdkaa", sum := "c1a182e3bc9bfabf0c420f526b7f96ca1d9530997c91dfcea771b5af86e40a50", func := "chase/chaselaw33.OutlineCalls", spec := "outlineCalls", inPlace := ["internal/abi.NoEscape"], unfollowed := true, recurses := true, apart := false, narrowed := true }
def OutlineCallsUptoSaid : Prop := outlineCallsUptoRow.holds Try.pinned (OpenSpec.upto outlineCallsSpec)

/-- 'chaselaw33.OutlineBuilds', WHERE WHAT IT READS IS OF BULK AT MOST 1048576: true; the input reads as it did. -/
def outlineBuildsUptoRow : OpenClaim := { program := "ytimnohaalccdkaa", sum := "c1a182e3bc9bfabf0c420f526b7f96ca1d9530997c91dfcea771b5af86e40a50", func := "chase/chaselaw33.OutlineBuilds", spec := "outlineBuilds", inPlace := ["internal/abi.NoEscape"], unfollowed := true, recurses := true, apart := false, narrowed := true }
def OutlineBuildsUptoSaid : Prop := outlineBuildsUptoRow.holds Try.pinned (OpenSpec.upto outlineBuildsSpec)

/-- 'chaselaw33.OutlineBack', WHERE WHAT IT READS IS OF BULK AT MOST 1048576: true; the input reads as it did. -/
def outlineBackUptoRow : OpenClaim := { program := "ytimnohaalccdkaa", sum := "c1a182e3bc9bfabf0c420f526b7f96ca1d9530997c91dfcea771b5af86e40a50", func := "chase/chaselaw33.OutlineBack", spec := "outlineBack", inPlace := ["internal/abi.NoEscape"], unfollowed := true, recurses := true, apart := false, narrowed := true }
def OutlineBackUptoSaid : Prop := outlineBackUptoRow.holds Try.pinned (OpenSpec.upto outlineBackSpec)

/-- 'chaselaw33.OutlineValid', WHERE WHAT IT READS IS OF BULK AT MOST 1048576: true; the input reads as it did. -/
def outlineValidUptoRow : OpenClaim := { program := "ytimnohaalccdkaa", sum := "c1a182e3bc9bfabf0c420f526b7f96ca1d9530997c91dfcea771b5af86e40a50", func := "chase/chaselaw33.OutlineValid", spec := "outlineValid", inPlace := ["internal/abi.NoEscape"], unfollowed := true, recurses := true, apart := false, narrowed := true }
def OutlineValidUptoSaid : Prop := outlineValidUptoRow.holds Try.pinned (OpenSpec.upto outlineValidSpec)

/-- 'chaselaw33.OutlineKnown', WHERE WHAT IT READS IS OF BULK AT MOST 1048576: true; the input reads as it did. -/
def outlineKnownUptoRow : OpenClaim := { program := "ytimnohaalccdkaa", sum := "c1a182e3bc9bfabf0c420f526b7f96ca1d9530997c91dfcea771b5af86e40a50", func := "chase/chaselaw33.OutlineKnown", spec := "outlineKnown", inPlace := ["internal/abi.NoEscape", "internal/bytealg.MakeNoZero"], unfollowed := true, recurses := true, apart := false, narrowed := true }
def OutlineKnownUptoSaid : Prop := outlineKnownUptoRow.holds Try.pinned (OpenSpec.upto outlineKnownSpec)

end Rows
end Go.Proofs.Ytimnohaalccdkaa
