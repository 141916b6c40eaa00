/- The map of the chapter's examples; Check of no glyph (chapter 33). -/
import Derived.Test.YtimnohaalccdkaaD33
import Derived.Test.YtimnohaalccdkaaL33
namespace Go.Proofs.Ytimnohaalccdkaa.E33
open Go.Proofs.Ytimnohaalccdkaa Go.Proofs.Ytimnohaalccdkaa.K33 Go.Proofs.Ytimnohaalccdkaa.L33 Go.Proofs.Ytimnohaalccdkaa.M33 Go.Proofs.Ytimnohaalccdkaa.G33a Go.Proofs.Ytimnohaalccdkaa.G33b Go.Proofs.Ytimnohaalccdkaa.G33c Go.Proofs.Ytimnohaalccdkaa.G33o Go.Proofs.Ytimnohaalccdkaa.G33p Go.Proofs.Ytimnohaalccdkaa.W33 Go.Proofs.Ytimnohaalccdkaa.D33 Go.Proofs.Ytimnohaalccdkaa.P33a
open Go.RowKit Go.Proofs.YtimnohaalccdkaaW.PrintWords Go.Proofs.YtimnohaalccdkaaW.PrintLast Go.Proofs.YtimnohaalccdkaaW.PrintMore
open Go.Maps (Keyed)
set_option linter.unusedVariables false
set_option linter.unusedSimpArgs false
set_option maxRecDepth 100000
theorem keyed3 : Keyed Try.prog 3 := Go.Maps.int_keyed Try.underlying3
/-- How a string reads. -/
def RE : Value → Option (DataW Unit × List MemPlace)
  | .string s => some (.lit (.string s.data.toList), [])
  | _ => none
theorem RE_mk (s : ByteArray) : RE (.string s) = some (.lit (.string s.data.toList), []) := rfl
theorem RE_inv (v : Value) (y : DataW Unit × List MemPlace) (h : RE v = some y) : ∃ s : ByteArray, v = .string s := by
  cases v with
  | string s => exact ⟨s, rfl⟩
  | _ => cases h
def dd (l : List UInt8) : DataW Unit := .lit (.string l)
def D4 : DataW Unit := (((DataW.put (.map []) (.int .i64 0) (dd [139])).put (.int .i64 108) (dd [247, 0])).put (.int .i64 (-1131)) (dd [254, 255])).put (.int .i64 1132) (dd [255, 0, 0, 4, 108])
theorem D4_eq : D4 = .map [(.int .i64 (-1131), dd [254, 255]), (.int .i64 0, dd [139]), (.int .i64 108, dd [247, 0]), (.int .i64 1132, dd [255, 0, 0, 4, 108])] := by
  unfold D4 dd
  simp [DataW.put, DataW.insert, Lit.sameKey, Lit.before]
theorem D4_has (x : Int) (h : Maps.has D4 (.int .i64 x) = true) : x = 0 ∨ x = 108 ∨ x = -1131 ∨ x = 1132 := by
  rw [D4_eq, Maps.has_eq] at h
  simp [Lit.sameKey] at h
  omega
theorem D4_at : D4.atKey (.int .i64 0) .nil = dd [139] ∧ D4.atKey (.int .i64 108) .nil = dd [247, 0] ∧ D4.atKey (.int .i64 (-1131)) .nil = dd [254, 255] ∧ D4.atKey (.int .i64 1132) .nil = dd [255, 0, 0, 4, 108] := by
  rw [D4_eq]
  simp [DataW.atKey, Lit.sameKey, dd]
theorem dd_inj {s : ByteArray} {l : List UInt8} {t : ByteArray} (h : DataW.lit (Lit.string s.data.toList) = dd l) (e : (⟨l.toArray⟩ : ByteArray) = t) : s = t := by
  unfold dd at h
  injection h with h
  injection h with h
  rw [← e, ← h]
/-- What an entry of the map holds. -/
theorem entry (x : Int) (s : ByteArray) (y : DataW Unit × List MemPlace) (h : Maps.has D4 (.int .i64 x) = true) (hy : RE (.string s) = some y) (hat : ∀ zd, D4.atKey (.int .i64 x) zd = y.1) :
    (-2147483648 ≤ x ∧ x ≤ 2147483647) ∧ s = strOfNums (numB x) := by
  have e := hat .nil
  have hy2 : y = (.lit (.string s.data.toList), []) := by rw [RE_mk] at hy; exact (Option.some.inj hy).symm
  rw [hy2] at e
  rcases D4_has x h with rfl | rfl | rfl | rfl
  · rw [D4_at.1] at e
    exact ⟨by omega, dd_inj e.symm (by decide +kernel)⟩
  · rw [D4_at.2.1] at e
    exact ⟨by omega, dd_inj e.symm (by decide +kernel)⟩
  · rw [D4_at.2.2.1] at e
    exact ⟨by omega, dd_inj e.symm (by decide +kernel)⟩
  · rw [D4_at.2.2.2] at e
    exact ⟨by omega, dd_inj e.symm (by decide +kernel)⟩
set_option maxHeartbeats 4000000 in
theorem drawn0 (w : World) : Calls Try.prog 47 #[.slice none 0 0] w fun e w' => e = .returned (.bool true) ∧ w' = w := by
  go_enter Try.func47, Try.ntmps47
  go_wp2_with fail
  go_loopw [3, 12] (fun v3 v12 wr => v3 = .bool false ∧ v12 = .int .i64 0 ∧ wr = w) (fun _ _ _ => 0)
  case atStart => exact ⟨rfl, rfl, rfl⟩
  case round =>
    obtain ⟨rfl, rfl, rfl⟩ := hrel
    go_wp2_with fail
    go_ret
    exact ⟨rfl, rfl⟩

set_option maxHeartbeats 1000000 in
theorem check0' (w : World) (a b : Int) (vs vt : Value) (hvs : Aside0 (vs = .slice none 0 0)) (hvt : Aside0 (vt = .slice none 0 0)) (hab : (if inn a && inn b then (0 : Int) else 26) = 0) : Calls Try.prog 29 #[.agg #[.int .i64 a, .int .i64 b, vs, vt]] w fun e w' => e = .returned (.int .i64 0) ∧ Below w.heap.size w w' := by
  go_enter Try.func29, Try.ntmps29
  go_wp2_with fail
  have hsz : (w.alloc (.cells #[.int .i64 a, .int .i64 b, vs, vt] 43)).heap.size = w.heap.size + 1 := by simp
  have hbw := below_alloc (Below.refl w.heap.size w) (.cells #[.int .i64 a, .int .i64 b, vs, vt] 43)
  have hbk := blk_new w (.cells #[.int .i64 a, .int .i64 b, vs, vt] 43)
  rw [← hsz]
  generalize w.alloc (.cells #[.int .i64 a, .int .i64 b, vs, vt] 43) = w0 at hsz hbw hbk ⊢
  refine (within_two a b w0).mono ?_
  rintro e w1 ⟨rfl, hd1⟩
  rw [hab]
  have HB1 := Aside0.mk (below_step hbw (below_step (below_alloc (Below.refl _ _) (.cells #[.int .i64 a, .int .i64 b] 3)) hd1.below))
  have hblk := blk_below (blk_below hbk (below_alloc (Below.refl _ _) (.cells #[.int .i64 a, .int .i64 b] 3))) hd1.below
  have c2 : w1.cell? ⟨w.heap.size, 2, none⟩ = some (.slice none 0 0) := (blk_cell hblk 2).trans (by rw [hvs.out]; rfl)
  have c3 : w1.cell? ⟨w.heap.size, 3, none⟩ = some (.slice none 0 0) := (blk_cell hblk 3).trans (by rw [hvt.out]; rfl)
  clear hblk hd1 hab hsz hbw hbk
  dsimp only
  have t0 : decide ((0 : Int) = 0) = true := by decide
  go_wp2_with fail
  refine (drawn0 _).mono ?_
  rintro e w2 ⟨rfl, rfl⟩
  go_wp2_with fail
  go_loopw [3, 27] (fun v3 v12 wr => v3 = .bool true ∧ v12 = .int .i64 0 ∧ wr = w2) (fun _ _ _ => 0)
  case atStart => exact ⟨rfl, rfl, rfl⟩
  case round =>
    obtain ⟨rfl, rfl, rfl⟩ := hrel
    go_wp2_with fail
    go_ret
    exact ⟨rfl, HB1.out⟩
theorem check0 (w : World) : Calls Try.prog 29 #[.agg #[.int .i64 0, .int .i64 0, .slice none 0 0, .slice none 0 0]] w fun e w' => e = .returned (.int .i64 0) ∧ Below w.heap.size w w' :=
  check0' w 0 0 _ _ ⟨rfl⟩ ⟨rfl⟩ rfl
end Go.Proofs.Ytimnohaalccdkaa.E33
