/- The map of the chapter's examples (chapter 08). -/
import Derived.Test.YtmbdjajmiggiaaaDoorX08
namespace Go.Proofs.YtmbdjajmiggiaaaDoor.M08
open Go.Proofs.YtmbdjajmiggiaaaDoor.O08
open Go.RowKit
open Go.Maps (Keyed)
set_option maxRecDepth 100000
theorem keyed3 : Keyed Tryd.prog 3 := Go.Maps.int_keyed Tryd.underlying3
def RL : List Value → Option (DataW Unit × List MemPlace)
  | [.int .i64 a, .int .i64 b] => some (.agg [.lit (.int .i64 a), .lit (.int .i64 b)], [])
  | _ => none
/-- How two numbers read. -/
def RE : Value → Option (DataW Unit × List MemPlace)
  | .agg cs => RL cs.toList
  | _ => none
theorem RE_mk (a b : Int) : RE (.agg #[.int .i64 a, .int .i64 b]) = some (.agg [.lit (.int .i64 a), .lit (.int .i64 b)], []) := rfl
theorem RE_inv (v : Value) (y : DataW Unit × List MemPlace) (h : RE v = some y) : ∃ p : Int × Int, v = .agg #[.int .i64 p.1, .int .i64 p.2] := by
  cases v with
  | agg cs =>
    obtain ⟨l⟩ := cs
    have h2 : RL l = some y := h
    unfold RL at h2
    split at h2
    · exact ⟨(_, _), rfl⟩
    · cases h2
  | _ => cases h
def dd (a b : Int) : DataW Unit := .agg [.lit (.int .i64 a), .lit (.int .i64 b)]
def D4 : DataW Unit := (((DataW.put (.map []) (.int .i64 1) (dd 0 1)).put (.int .i64 2) (dd 1 0)).put (.int .i64 3) (dd 2 0)).put (.int .i64 63) (dd 7 7)
theorem D4_eq : D4 = .map [(.int .i64 1, dd 0 1), (.int .i64 2, dd 1 0), (.int .i64 3, dd 2 0), (.int .i64 63, dd 7 7)] := by
  unfold D4 dd
  simp [DataW.put, DataW.insert, Lit.sameKey, Lit.before]
theorem D4_has (x : Int) (h : Maps.has D4 (.int .i64 x) = true) : x = 1 ∨ x = 2 ∨ x = 3 ∨ x = 63 := by
  rw [D4_eq, Maps.has_eq] at h
  simp [Lit.sameKey] at h
  omega
theorem D4_at : D4.atKey (.int .i64 1) .nil = dd 0 1 ∧ D4.atKey (.int .i64 2) .nil = dd 1 0 ∧ D4.atKey (.int .i64 3) .nil = dd 2 0 ∧ D4.atKey (.int .i64 63) .nil = dd 7 7 := by
  rw [D4_eq]
  simp [DataW.atKey, Lit.sameKey, dd]
/-- What an entry of the map holds. -/
theorem entry (x : Int) (p : Int × Int) (y : DataW Unit × List MemPlace) (h : Maps.has D4 (.int .i64 x) = true) (hy : RE (.agg #[.int .i64 p.1, .int .i64 p.2]) = some y) (hat : ∀ zd, D4.atKey (.int .i64 x) zd = y.1) :
    ∃ k : Nat, k < 64 ∧ x = (k : Int) ∧ p.1 = (zAt k).1 ∧ p.2 = (zAt k).2 := by
  have e := hat .nil
  have hy2 : y = (dd p.1 p.2, []) := by rw [RE_mk] at hy; exact (Option.some.inj hy).symm
  rw [hy2] at e
  have z1 := X08.zAt1
  rcases D4_has x h with rfl | rfl | rfl | rfl
  · rw [D4_at.1] at e
    refine ⟨1, by omega, rfl, ?_⟩
    rw [z1.1]
    simp [dd] at e
    exact ⟨e.1.symm, e.2.symm⟩
  · rw [D4_at.2.1] at e
    refine ⟨2, by omega, rfl, ?_⟩
    rw [z1.2.1]
    simp [dd] at e
    exact ⟨e.1.symm, e.2.symm⟩
  · rw [D4_at.2.2.1] at e
    refine ⟨3, by omega, rfl, ?_⟩
    rw [z1.2.2.1]
    simp [dd] at e
    exact ⟨e.1.symm, e.2.symm⟩
  · rw [D4_at.2.2.2] at e
    refine ⟨63, by omega, rfl, ?_⟩
    rw [z1.2.2.2]
    simp [dd] at e
    exact ⟨e.1.symm, e.2.symm⟩
end Go.Proofs.YtmbdjajmiggiaaaDoor.M08
