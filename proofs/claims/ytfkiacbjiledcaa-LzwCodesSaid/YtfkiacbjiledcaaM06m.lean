/- The coder's dictionary, a map from pairs to codes (chapter 06). -/
import Derived.Test.YtfkiacbjiledcaaL06b
import Derived.Test.YtfkiacbjiledcaaM06
import Derived.Test.YtfkiacbjiledcaaProg
import Derived.Maps.OwnSet
import Derived.DeepKeys5
import Derived.KernelRfl
namespace Go.Proofs.Ytfkiacbjiledcaa.M06m
open Go Go.Proofs Go.Maps
open Go.Proofs.Ytfkiacbjiledcaa.K06 Go.Proofs.Ytfkiacbjiledcaa.L06b
set_option linter.unusedVariables false
theorem kt : Try.prog.keyType 58 = true := by kernel_rfl
theorem lo : laidOutB Try.prog = true := by kernel_rfl
theorem law58 : WideMaps.KeyLaw Try.prog 58 := deep_law_gate lo (by decide +kernel) (by decide +kernel) kt (by kernel_rfl)
theorem keyed58 : Keyed Try.prog 58 := Keyed.of_law law58
theorem c58 : Try.prog.cellsOf 58 = 2 := by kernel_rfl
theorem c3 : Try.prog.cellsOf 3 = 1 := by kernel_rfl
theorem c5 : Try.prog.cellsOf 5 = 1 := by kernel_rfl
theorem sz : Try.prog.types.size = 114 := by kernel_rfl
def pv (p : Nat × Int) : Value := .agg #[.int .i64 p.1, .int .u8 p.2]
theorem keyP (c x : Int) (hc : (Lit.int .i64 c).wf = true) (hx : (Lit.int .u8 x).wf = true) : keyOf Try.prog 58 (.agg #[.int .i64 c, .int .u8 x]) = some (.string (keyBytes [.int .i64 c, .int .u8 x])) := by
  unfold keyOf
  rw [Try.underlying58]
  simp only [kt, Value.formed, Try.underlying58, c58]
  rw [sz]
  unfold Program.keyLits
  rw [Try.underlying58]
  simp [c58, c3, c5, Value.cells]
  unfold Program.keyLits
  simp [Try.underlying3, Try.underlying5, hc, hx]
def keyLit (p : Nat × Int) : Lit := .string (keyBytes [.int .i64 p.1, .int .u8 p.2])
structure Wfp (p : Nat × Int) : Prop where
  code : p.1 ≤ 1000000000
  lo : 0 ≤ p.2
  hi : p.2 < 256
theorem wf64 (n : Int) (h0 : -1000000000000 ≤ n) (h1 : n ≤ 1000000000000) : (Lit.int .i64 n).wf = true := by
  simp [Lit.wf, IntKind.min, IntKind.max, IntKind.signed, IntKind.bits]; omega
theorem wf8 (n : Int) (h0 : 0 ≤ n) (h1 : n < 256) : (Lit.int .u8 n).wf = true := by
  simp [Lit.wf, IntKind.min, IntKind.max, IntKind.signed, IntKind.bits]; omega
theorem key_ok {p : Nat × Int} (h : Wfp p) : keyOf Try.prog 58 (pv p) = some (keyLit p) := by
  exact keyP p.1 p.2 (wf64 _ (by omega) (by have := h.code; omega)) (wf8 _ h.lo h.hi)
theorem key_ne {p q : Nat × Int} (hp : Wfp p) (hq : Wfp q) (h : p ≠ q) : keyLit p ≠ keyLit q := by
  intro e
  have h1 := key_ok hp
  have h2 := key_ok hq
  rw [e] at h1
  have := keyed58.inj h1 h2
  unfold pv at this
  injection this with this
  have h3 := congrArg Array.toList this
  simp at h3
  exact h (Prod.ext (by omega) h3.2)
/-- The map reads as the pairs. -/
structure MRep (K : List (Nat × Int)) (D : DataW Nat) : Prop where
  isMap : IsMap D
  none_ : ∀ p, Wfp p → lookK K p = none → has D (keyLit p) = false
  some_ : ∀ p d, Wfp p → lookK K p = some d → has D (keyLit p) = true ∧ ∀ z, D.atKey (keyLit p) z = .lit (.int .i64 d)
theorem MRep.nil : MRep [] (.map []) := ⟨isMap_empty, fun p _ _ => rfl, fun p d _ h => by simp [lookK] at h⟩
theorem lookK_snoc (K : List (Nat × Int)) (p q : Nat × Int) (hp : lookK K p = none) : lookK (K ++ [p]) q = if q = p then some (258 + K.length) else lookK K q := by
  unfold lookK at *
  rw [List.findIdx?_append]
  by_cases h : q = p
  · subst h
    rw [Option.map_eq_none_iff] at hp
    rw [hp, if_pos rfl]
    simp
  · rw [if_neg h]
    have : List.findIdx? (fun x => x == q) [p] = none := by simp [List.findIdx?_cons]; exact fun e => h e.symm
    rw [this]
    simp
theorem MRep.put {K : List (Nat × Int)} {D : DataW Nat} (h : MRep K D) {p : Nat × Int} (hp : Wfp p) (hn : lookK K p = none) : MRep (K ++ [p]) (D.put (keyLit p) (.lit (.int .i64 ((258 + K.length : Nat) : Int)))) := by
  have hkey := keyed58.key (key_ok hp)
  refine ⟨h.isMap.put _ _, fun q hq hl => ?_, fun q d hq hl => ?_⟩
  · rw [lookK_snoc K p q hn] at hl
    by_cases e : q = p
    · rw [if_pos e] at hl; cases hl
    · rw [if_neg e] at hl
      rw [has_put_other (key_ne hq hp e)]
      exact h.none_ q hq hl
  · rw [lookK_snoc K p q hn] at hl
    by_cases e : q = p
    · subst e
      rw [if_pos rfl] at hl
      cases hl
      exact ⟨has_put_same h.isMap hkey _, fun z => atKey_put_same h.isMap hkey _ z⟩
    · rw [if_neg e] at hl
      obtain ⟨h1, h2⟩ := h.some_ q d hq hl
      exact ⟨by rw [has_put_other (key_ne hq hp e)]; exact h1, fun z => by rw [atKey_put_other (key_ne hq hp e)]; exact h2 z⟩
/-- The codes of the coder's chase. -/
theorem ext_held (K : List (Nat × Int)) : ∀ (r : List Int) (c : Nat), Held K c → Held K (ext K c r).1
  | [], c, h => h
  | y :: r, c, h => by
    unfold ext
    cases hl : lookK K (c, y) with
    | none => exact h
    | some d =>
      obtain ⟨h1, h2⟩ := lookK_some hl
      exact ext_held K r d (.inr ⟨h1, (List.getElem?_eq_some_iff.1 h2).1⟩)
theorem ext_stop (K : List (Nat × Int)) : ∀ (r : List Int) (c : Nat) (x : Int) (r' : List Int), (ext K c r).2 = x :: r' → lookK K ((ext K c r).1, x) = none
  | [], c, x, r', h => by simp [ext] at h
  | y :: r, c, x, r', h => by
    unfold ext at h ⊢
    cases hl : lookK K (c, y) with
    | none =>
      rw [hl] at h
      simp only [List.cons.injEq] at h
      obtain ⟨rfl, _⟩ := h
      exact hl
    | some d =>
      rw [hl] at h
      exact ext_stop K r d x r' h
theorem flushN_len : ∀ (f : Nat) (out : List Int) (bits held : Nat), (flushN f out bits held).1.length ≤ out.length + f
  | 0, out, bits, held => Nat.le_refl _
  | f + 1, out, bits, held => by
    unfold flushN
    split
    · simp only; omega
    · have := flushN_len f (out ++ [((bits / 2 ^ (held - 8) % 256 : Nat) : Int)]) (bits % 2 ^ (held - 8)) (held - 8)
      rw [List.length_append, List.length_singleton] at this
      omega
theorem putW_len (w : Wr) (c : Nat) : (putW w c).out.length ≤ w.out.length + 3 := flushN_len 3 _ _ _
theorem own_same {w w' : World} {b n : Nat} {D : DataW Nat} (h : w.ownsMap Try.prog 58 (plainElem Try.prog 3) b n D) (he : w'.heap[b]? = w.heap[b]?) : w'.ownsMap Try.prog 58 (plainElem Try.prog 3) b n D := by
  obtain ⟨es, clock, h1, h2⟩ := h
  exact ⟨es, clock, he.trans h1, h2⟩
theorem own_obj {w : World} {b n : Nat} {D : DataW Nat} (h : w.ownsMap Try.prog 58 (plainElem Try.prog 3) b n D) : ∃ o : Obj, w.heap[b]? = some o ∧ o.isCells = false := by
  obtain ⟨es, clock, h1, _⟩ := h
  exact ⟨_, h1, rfl⟩
end Go.Proofs.Ytfkiacbjiledcaa.M06m
