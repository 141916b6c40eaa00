/- The examples of OutlineKnown (chapter 33), run as plain functions. -/
import Derived.Test.YtimnohaalccdkaaL33
namespace Go.Proofs.Ytimnohaalccdkaa.K33k
open Go.Proofs.Ytimnohaalccdkaa Go.Proofs.Ytimnohaalccdkaa.K33 Go.Proofs.Ytimnohaalccdkaa.L33
set_option linter.unusedVariables false
set_option maxRecDepth 100000
def repL (c : Nat) (l : List Int) : List Int := (List.replicate c l).flatten
theorem k0 : runG [] ([]) = (g0, 39) := by decide +kernel
theorem k1 : runG [] ([139, 139, 13]) = (g0, 39) := by decide +kernel
theorem k2 : runG [] ([139, 139, 13] ++ [11]) = (g0, 39) := by decide +kernel
theorem k3 : runG [] ([139, 139, 13] ++ [139, 139, 13] ++ [14]) = (g0, 39) := by decide +kernel
theorem k4 : runG [] ([139, 139, 13] ++ [139, 14]) = (g0, 39) := by decide +kernel
theorem k5 : runG [] ([139, 139, 13] ++ [2, 14]) = (g0, 39) := by decide +kernel
theorem k6 : runG [] ([139, 139, 13] ++ [12]) = (g0, 39) := by decide +kernel
theorem k7 : runG [] ([139, 139, 13] ++ [247]) = (g0, 39) := by decide +kernel
theorem k8 : runG [] ([139, 139, 13] ++ [255, 0, 0, 0]) = (g0, 39) := by decide +kernel
theorem k9 : runG [] ([139, 139, 13] ++ [9, 14]) = (g0, 39) := by decide +kernel
theorem k10 : runG [] ([139, 139, 13] ++ [139, 6, 14]) = (g0, 39) := by decide +kernel
theorem k11 : runG [] ([139, 139, 13] ++ [139, 139, 1, 14]) = (g0, 39) := by decide +kernel
theorem k12 : runG [] ([139, 139, 13] ++ [140, 139, 12, 12, 14]) = (g0, 39) := by decide +kernel
theorem k13 : runG [] ([139, 139, 13] ++ [12, 17, 14]) = (g0, 39) := by decide +kernel
theorem k14 : runG [] ([139, 139, 13] ++ [139, 140, 12, 16, 14]) = (g0, 39) := by decide +kernel
theorem k15 : runG [] ([139, 139, 13] ++ [140, 139, 12, 33, 14]) = (g0, 39) := by decide +kernel
theorem k16 : runG [] ([139, 139, 13] ++ [139, 10, 14]) = (g0, 39) := by decide +kernel
theorem k17 : runG [] (repL 25 [139]) = (g0, 26) := by decide +kernel
theorem k18 : runG [] (([32001, 0].flatMap numB) ++ [13, 14]) = (g0, 26) := by decide +kernel
theorem k19 : runG [] ([139, 139, 13] ++ ([-32001].flatMap numB) ++ [4, 14]) = (g0, 26) := by decide +kernel
theorem k20 : runG [] ([139, 139, 13] ++ ([32000, 1].flatMap numB) ++ [3, 14]) = (g0, 26) := by decide +kernel
theorem k21 : runG [] ([139, 139, 13] ++ [139, 4] ++ repL 300 [139, 6] ++ [14]) = (g0, 26) := by decide +kernel
theorem k22 : runG [] ([139, 139, 13] ++ repL 301 [140, 4] ++ [14]) = ((0, 0, [(1, (0, 301), (0, 0), (0, 0))], []), 0) := by decide +kernel
theorem k23 : runG [] ([139, 139, 13] ++ repL 41 [139, 140, 1] ++ [14]) = (g0, 26) := by decide +kernel
theorem k24 : runG (List.replicate 201 []) ([]) = (g0, 3) := by decide +kernel
theorem k25 : runG [] (repL 4001 [97]) = (g0, 3) := by decide +kernel
theorem k26 : runG [repL 4001 [97]] ([]) = (g0, 3) := by decide +kernel
theorem k27 : runG (List.replicate 200 []) ([]) = (g0, 39) := by decide +kernel
theorem k28 : runG [] ([139, 139, 13] ++ ([20, -20].flatMap numB) ++ [1, 14]) = ((0, 0, [], [(false, 0, 20)]), 0) := by decide +kernel
theorem k29 : runG [] (([5, 0].flatMap numB) ++ [13] ++ ([1, 2, 3, 4, 5, 6].flatMap numB) ++ [12, 1, 14]) = ((5, 0, [], [(true, 6, 2), (true, 8, 4), (true, 10, 6)]), 0) := by decide +kernel
theorem k30 : runG [[], [], [], [11]] ([139, 139, 13] ++ ([0, 1, 3].flatMap numB) ++ [12, 16, 12, 17, 10, 14]) = (g0, 0) := by decide +kernel
theorem k31 : runG [] ([139, 139, 13] ++ ([4, 9, 2, 7].flatMap numB) ++ [12, 16, 12, 17, 12, 17, 21, 14]) = ((0, 0, [(1, (9, 4), (0, 0), (0, 0))], []), 0) := by decide +kernel
theorem k32 : runG [repL 77 [12, 0] ++ [11]] ([139, 139, 13] ++ repL 50 [139, 10] ++ repL 48 [12, 0] ++ [14]) = (g0, 0) := by decide +kernel
theorem k33 : runG [repL 77 [12, 0] ++ [11]] ([139, 139, 13] ++ repL 50 [139, 10] ++ repL 49 [12, 0] ++ [14]) = (g0, 26) := by decide +kernel
end Go.Proofs.Ytimnohaalccdkaa.K33k
