/- The table of operators of the machine (chapter 33): operators 68, lookups in it. -/
import Derived.Test.YtimnohaalccdkaaG33h
import Derived.Maps.Own
import Derived.Maps.Keyed
import Derived.Maps.RangeWalk
namespace Go.Proofs.Ytimnohaalccdkaa.O33
open Go.Proofs.Ytimnohaalccdkaa Go.Proofs.Ytimnohaalccdkaa.K33 Go.Proofs.Ytimnohaalccdkaa.M33 Go.Proofs.Ytimnohaalccdkaa.G33a Go.Proofs.Ytimnohaalccdkaa.G33b Go.Proofs.Ytimnohaalccdkaa.G33c Go.Proofs.Ytimnohaalccdkaa.G33d Go.Proofs.Ytimnohaalccdkaa.P33a
open Go.RowKit Go.Proofs.YtimnohaalccdkaaW.PrintWords Go.Proofs.YtimnohaalccdkaaW.PrintLast Go.Proofs.YtimnohaalccdkaaW.PrintMore
open Go.Maps (Keyed)
set_option linter.unusedVariables false
set_option linter.unusedSimpArgs false
set_option maxRecDepth 100000
theorem keyed3 : Keyed Try.prog 3 := Go.Maps.int_keyed Try.underlying3
def RL : List Value → Option (DataW Unit × List MemPlace)
  | [.int .i64 a, .func (.func f) ⟨[]⟩ ⟨[]⟩] => some (.agg [.lit (.int .i64 a), .lit (.int .i64 f)], [])
  | [.int .i64 a, .nilFunc] => some (.agg [.lit (.int .i64 a), .lit (.int .i64 (-1))], [])
  | _ => none
def RE : Value → Option (DataW Unit × List MemPlace)
  | .agg cs => RL cs.toList
  | _ => none
def opV (a : Int) (f : Nat) : Value := .agg #[.int .i64 a, .func (.func f) #[] #[]]
theorem RE_mk (a : Int) (f : Nat) : RE (.agg #[.int .i64 a, .func (.func f) #[] #[]]) = some (.agg [.lit (.int .i64 a), .lit (.int .i64 f)], []) := rfl
def dd (a : Int) (f : Nat) : DataW Unit := .agg [.lit (.int .i64 a), .lit (.int .i64 f)]
theorem RE_inv {v : Value} {y : DataW Unit × List MemPlace} {a : Int} {f : Nat} (h : RE v = some y) (hy : y.1 = dd a f) : v = opV a f := by
  cases v with
  | agg cs =>
    obtain ⟨l⟩ := cs
    have h2 : RL l = some y := h
    unfold RL at h2
    split at h2
    · injection h2 with h2
      rw [← h2] at hy
      simp [dd] at hy
      obtain ⟨rfl, h3⟩ := hy
      first | (subst h3; rfl) | (have h3 := Int.ofNat.inj h3; subst h3; rfl)
    · injection h2 with h2
      rw [← h2] at hy
      simp [dd] at hy
    · cases h2
  | _ => cases h
def D18 : DataW Unit := ((((((((((((((((((DataW.map []).put (.int .i64 1) (dd 2 80)).put (.int .i64 3) (dd 2 81)).put (.int .i64 4) (dd 1 82)).put (.int .i64 5) (dd 2 83)).put (.int .i64 6) (dd 1 84)).put (.int .i64 7) (dd 1 85)).put (.int .i64 8) (dd 6 86)).put (.int .i64 9) (dd 0 87)).put (.int .i64 13) (dd 2 88)).put (.int .i64 14) (dd 0 89)).put (.int .i64 21) (dd 2 90)).put (.int .i64 22) (dd 1 91)).put (.int .i64 30) (dd 4 92)).put (.int .i64 31) (dd 4 93)).put (.int .i64 256) (dd 0 94)).put (.int .i64 257) (dd 6 81)).put (.int .i64 258) (dd 6 80)).put (.int .i64 289) (dd 2 95)
theorem D18_eq : D18 = .map [(.int .i64 1, dd 2 80), (.int .i64 3, dd 2 81), (.int .i64 4, dd 1 82), (.int .i64 5, dd 2 83), (.int .i64 6, dd 1 84), (.int .i64 7, dd 1 85), (.int .i64 8, dd 6 86), (.int .i64 9, dd 0 87), (.int .i64 13, dd 2 88), (.int .i64 14, dd 0 89), (.int .i64 21, dd 2 90), (.int .i64 22, dd 1 91), (.int .i64 30, dd 4 92), (.int .i64 31, dd 4 93), (.int .i64 256, dd 0 94), (.int .i64 257, dd 6 81), (.int .i64 258, dd 6 80), (.int .i64 289, dd 2 95)] := by
  unfold D18 dd
  simp [DataW.put, DataW.insert, Lit.sameKey, Lit.before]
/-- The function of an operator. -/
def opFn (op : Int) : Nat := if op = 1 then 80 else if op = 3 then 81 else if op = 4 then 82 else if op = 5 then 83 else if op = 6 then 84 else if op = 7 then 85 else if op = 8 then 86 else if op = 9 then 87 else if op = 13 then 88 else if op = 14 then 89 else if op = 21 then 90 else if op = 22 then 91 else if op = 30 then 92 else if op = 31 then 93 else if op = 256 then 94 else if op = 257 then 81 else if op = 258 then 80 else if op = 289 then 95 else 0
theorem D18_some {op : Int} {n : Nat} (h : need op = some n) : ∀ zd, D18.atKey (.int .i64 op) zd = dd n (opFn op) := by
  have hk : op = 1 ∨ op = 3 ∨ op = 4 ∨ op = 5 ∨ op = 6 ∨ op = 7 ∨ op = 8 ∨ op = 9 ∨ op = 13 ∨ op = 14 ∨ op = 21 ∨ op = 22 ∨ op = 30 ∨ op = 31 ∨ op = 256 ∨ op = 257 ∨ op = 258 ∨ op = 289 := by
    unfold need at h
    repeat' split at h
    all_goals first | omega | cases h
  intro zd
  rw [D18_eq]
  rcases hk with rfl | rfl | rfl | rfl | rfl | rfl | rfl | rfl | rfl | rfl | rfl | rfl | rfl | rfl | rfl | rfl | rfl | rfl
  all_goals (simp [need] at h; subst h; simp [DataW.atKey, Lit.sameKey, dd, opFn])
theorem D18_none {op : Int} (h : need op = none) : ∀ zd, D18.atKey (.int .i64 op) zd = zd := by
  intro zd
  rw [D18_eq]
  unfold need at h
  repeat' split at h
  all_goals first | cases h | skip
  have hne : ¬ ((1 : Int) = op) ∧ ¬ ((3 : Int) = op) ∧ ¬ ((4 : Int) = op) ∧ ¬ ((5 : Int) = op) ∧ ¬ ((6 : Int) = op) ∧ ¬ ((7 : Int) = op) ∧ ¬ ((8 : Int) = op) ∧ ¬ ((9 : Int) = op) ∧ ¬ ((13 : Int) = op) ∧ ¬ ((14 : Int) = op) ∧ ¬ ((21 : Int) = op) ∧ ¬ ((22 : Int) = op) ∧ ¬ ((30 : Int) = op) ∧ ¬ ((31 : Int) = op) ∧ ¬ ((256 : Int) = op) ∧ ¬ ((257 : Int) = op) ∧ ¬ ((258 : Int) = op) ∧ ¬ ((289 : Int) = op) := by omega
  obtain ⟨n0, n1, n2, n3, n4, n5, n6, n7, n8, n9, n10, n11, n12, n13, n14, n15, n16, n17⟩ := hne
  simp [DataW.atKey, Lit.sameKey, List.find?, *]
/-- The table in memory. -/
def OpMap (w : World) (b : Nat) : Prop := w.ownsMap Try.prog 3 RE b 18 D18
theorem zero146 (w : World) : (zeroValue 146).run Try.prog w = .ok (.agg #[.int .i64 0, .nilFunc]) w := by kernel_rfl
theorem wfop {op : Int} (h0 : -9223372036854775808 ≤ op) (h1 : op ≤ 9223372036854775807) : (Lit.int .i64 op).wf = true := by
  simp [Lit.wf, IntKind.min, IntKind.max, IntKind.signed, IntKind.bits]; omega
theorem look_some {w : World} {b : Nat} (h : OpMap w b) {op : Int} (h0 : -9223372036854775808 ≤ op) (h1 : op ≤ 9223372036854775807) {n : Nat} (hn : need op = some n) (c : Bool) :
    (Instr.lookup 148 (.map (some b)) (.int .i64 op) c).run Try.prog w = .ok (if c then .tuple #[opV n (opFn op), .bool true] else opV n (opFn op)) w := by
  obtain ⟨es, clock, hb, F, _, hD⟩ := h
  have hat := D18_some hn
  rcases Maps.fit_look c keyed3 Try.underlying148 (zero146 w) hb F (Go.Maps.keyOf_int_mk Try.underlying3 (wfop h0 h1)) with ⟨_, _, hat'⟩ | ⟨e0, y, _, _, hrun, hRv, hat', _⟩
  · have e1 := hat' (.lit (.bool true))
    have e2 := hat (.lit (.bool true))
    rw [hD] at e2
    rw [e1] at e2
    simp [dd] at e2
  · rw [hrun]
    have e1 := hat' (.lit (.bool true))
    have e2 := hat (.lit (.bool true))
    rw [hD, e1] at e2
    rw [RE_inv hRv e2]
theorem look_none {w : World} {b : Nat} (h : OpMap w b) {op : Int} (h0 : -9223372036854775808 ≤ op) (h1 : op ≤ 9223372036854775807) (hn : need op = none) (c : Bool) :
    (Instr.lookup 148 (.map (some b)) (.int .i64 op) c).run Try.prog w = .ok (if c then .tuple #[.agg #[.int .i64 0, .nilFunc], .bool false] else .agg #[.int .i64 0, .nilFunc]) w := by
  obtain ⟨es, clock, hb, F, _, hD⟩ := h
  have hat := D18_none hn
  rcases Maps.fit_look c keyed3 Try.underlying148 (zero146 w) hb F (Go.Maps.keyOf_int_mk Try.underlying3 (wfop h0 h1)) with ⟨hrun, _, _⟩ | ⟨e0, y, _, _, hrun, hRv, hat', _⟩
  · exact hrun
  · have e1 := hat' (.lit (.bool true))
    have e2 := hat (.lit (.bool true))
    have e3 := hat' (.lit (.bool false))
    have e4 := hat (.lit (.bool false))
    rw [hD] at e2 e4
    rw [e1] at e2
    rw [e3] at e4
    rw [e2] at e4
    cases e4
section
variable {ops : Array Oper} {rest : List Oper} {o : Oper} {a : Act} {w : World} {Q : Exit → Act → World → Prop}
/-- An entry of a map literal. -/
theorem insert_own {H : Type} (hg : o.guard = none) (m x v : Operand) (t : TypeId) (hop : o.op = Op.insert t m x v)
    (k e : TypeId) (K : Keyed Try.prog k) (ht : Try.prog.underlying t = some (.map k e)) (R : Value → Option (DataW H × List MemPlace)) (b n : Nat) (D : DataW H)
    (hm : a.eval m = .map (some b)) (hown : w.ownsMap Try.prog k R b n D) (hn : n < maxLen) (key val : Value) (kl : Lit) (hx : a.eval x = key) (hv : a.eval v = val) (hkey : keyOf Try.prog k key = some kl)
    (d : DataW H) (ps : List MemPlace) (hval : R val = some (d, ps))
    (hK : ∀ w', w'.ownsMap Try.prog k R b (n + 1) (D.put kl d) → w.grownBy w' (some b) → wpList Try.prog ops Q rest (a.put o.dst undef) w') :
    wpList Try.prog ops Q (o :: rest) a w := by
  refine wpList_plain hg fun K' hK' => ?_
  obtain ⟨w', hrun, r1, r2⟩ := hown.update K ht hn hkey hval
  unfold Oper.wp
  simp [execOp, hop, hm, hx, hv, hrun, Result.andThen]
  exact hK' _ _ (hK w' r1 r2)
end
set_option maxHeartbeats 8000000 in
theorem operators_call (w : World) : Calls Try.prog 68 #[] w fun e w' => ∃ b, e = .returned (.map (some b)) ∧ Below w.heap.size w w' ∧ w.heap.size ≤ b ∧ OpMap w' b := by
  have hmm := @run_makeMap Try.prog
  go_enter Try.func68, Try.ntmps68
  go_wp2_with (first
    | (refine insert_own (H := Unit) rfl (.tmp 1) (.const (.int .i64 1)) (.tmp 2) 148 rfl 3 146 keyed3 Try.underlying148 RE w.heap.size 0 (.map []) rfl (World.ownsMap_made w _ _ _) (by unfold maxLen; omega) _ _ (.int .i64 1) rfl rfl (Go.Maps.keyOf_int_mk Try.underlying3 (by decide)) _ _ (RE_mk 2 80) ?_; intro w1 ho1 hg1)
    | (refine insert_own (H := Unit) rfl (.tmp 1) (.const (.int .i64 3)) (.tmp 3) 148 rfl 3 146 keyed3 Try.underlying148 RE w.heap.size 1 _ rfl ho1 (by unfold maxLen; omega) _ _ (.int .i64 3) rfl rfl (Go.Maps.keyOf_int_mk Try.underlying3 (by decide)) _ _ (RE_mk 2 81) ?_; intro w2 ho2 hg2)
    | (refine insert_own (H := Unit) rfl (.tmp 1) (.const (.int .i64 4)) (.tmp 4) 148 rfl 3 146 keyed3 Try.underlying148 RE w.heap.size 2 _ rfl ho2 (by unfold maxLen; omega) _ _ (.int .i64 4) rfl rfl (Go.Maps.keyOf_int_mk Try.underlying3 (by decide)) _ _ (RE_mk 1 82) ?_; intro w3 ho3 hg3)
    | (refine insert_own (H := Unit) rfl (.tmp 1) (.const (.int .i64 5)) (.tmp 5) 148 rfl 3 146 keyed3 Try.underlying148 RE w.heap.size 3 _ rfl ho3 (by unfold maxLen; omega) _ _ (.int .i64 5) rfl rfl (Go.Maps.keyOf_int_mk Try.underlying3 (by decide)) _ _ (RE_mk 2 83) ?_; intro w4 ho4 hg4)
    | (refine insert_own (H := Unit) rfl (.tmp 1) (.const (.int .i64 6)) (.tmp 6) 148 rfl 3 146 keyed3 Try.underlying148 RE w.heap.size 4 _ rfl ho4 (by unfold maxLen; omega) _ _ (.int .i64 6) rfl rfl (Go.Maps.keyOf_int_mk Try.underlying3 (by decide)) _ _ (RE_mk 1 84) ?_; intro w5 ho5 hg5)
    | (refine insert_own (H := Unit) rfl (.tmp 1) (.const (.int .i64 7)) (.tmp 7) 148 rfl 3 146 keyed3 Try.underlying148 RE w.heap.size 5 _ rfl ho5 (by unfold maxLen; omega) _ _ (.int .i64 7) rfl rfl (Go.Maps.keyOf_int_mk Try.underlying3 (by decide)) _ _ (RE_mk 1 85) ?_; intro w6 ho6 hg6)
    | (refine insert_own (H := Unit) rfl (.tmp 1) (.const (.int .i64 8)) (.tmp 8) 148 rfl 3 146 keyed3 Try.underlying148 RE w.heap.size 6 _ rfl ho6 (by unfold maxLen; omega) _ _ (.int .i64 8) rfl rfl (Go.Maps.keyOf_int_mk Try.underlying3 (by decide)) _ _ (RE_mk 6 86) ?_; intro w7 ho7 hg7)
    | (refine insert_own (H := Unit) rfl (.tmp 1) (.const (.int .i64 9)) (.tmp 9) 148 rfl 3 146 keyed3 Try.underlying148 RE w.heap.size 7 _ rfl ho7 (by unfold maxLen; omega) _ _ (.int .i64 9) rfl rfl (Go.Maps.keyOf_int_mk Try.underlying3 (by decide)) _ _ (RE_mk 0 87) ?_; intro w8 ho8 hg8)
    | (refine insert_own (H := Unit) rfl (.tmp 1) (.const (.int .i64 13)) (.tmp 10) 148 rfl 3 146 keyed3 Try.underlying148 RE w.heap.size 8 _ rfl ho8 (by unfold maxLen; omega) _ _ (.int .i64 13) rfl rfl (Go.Maps.keyOf_int_mk Try.underlying3 (by decide)) _ _ (RE_mk 2 88) ?_; intro w9 ho9 hg9)
    | (refine insert_own (H := Unit) rfl (.tmp 1) (.const (.int .i64 14)) (.tmp 11) 148 rfl 3 146 keyed3 Try.underlying148 RE w.heap.size 9 _ rfl ho9 (by unfold maxLen; omega) _ _ (.int .i64 14) rfl rfl (Go.Maps.keyOf_int_mk Try.underlying3 (by decide)) _ _ (RE_mk 0 89) ?_; intro w10 ho10 hg10)
    | (refine insert_own (H := Unit) rfl (.tmp 1) (.const (.int .i64 21)) (.tmp 12) 148 rfl 3 146 keyed3 Try.underlying148 RE w.heap.size 10 _ rfl ho10 (by unfold maxLen; omega) _ _ (.int .i64 21) rfl rfl (Go.Maps.keyOf_int_mk Try.underlying3 (by decide)) _ _ (RE_mk 2 90) ?_; intro w11 ho11 hg11)
    | (refine insert_own (H := Unit) rfl (.tmp 1) (.const (.int .i64 22)) (.tmp 13) 148 rfl 3 146 keyed3 Try.underlying148 RE w.heap.size 11 _ rfl ho11 (by unfold maxLen; omega) _ _ (.int .i64 22) rfl rfl (Go.Maps.keyOf_int_mk Try.underlying3 (by decide)) _ _ (RE_mk 1 91) ?_; intro w12 ho12 hg12)
    | (refine insert_own (H := Unit) rfl (.tmp 1) (.const (.int .i64 30)) (.tmp 14) 148 rfl 3 146 keyed3 Try.underlying148 RE w.heap.size 12 _ rfl ho12 (by unfold maxLen; omega) _ _ (.int .i64 30) rfl rfl (Go.Maps.keyOf_int_mk Try.underlying3 (by decide)) _ _ (RE_mk 4 92) ?_; intro w13 ho13 hg13)
    | (refine insert_own (H := Unit) rfl (.tmp 1) (.const (.int .i64 31)) (.tmp 15) 148 rfl 3 146 keyed3 Try.underlying148 RE w.heap.size 13 _ rfl ho13 (by unfold maxLen; omega) _ _ (.int .i64 31) rfl rfl (Go.Maps.keyOf_int_mk Try.underlying3 (by decide)) _ _ (RE_mk 4 93) ?_; intro w14 ho14 hg14)
    | (refine insert_own (H := Unit) rfl (.tmp 1) (.const (.int .i64 256)) (.tmp 16) 148 rfl 3 146 keyed3 Try.underlying148 RE w.heap.size 14 _ rfl ho14 (by unfold maxLen; omega) _ _ (.int .i64 256) rfl rfl (Go.Maps.keyOf_int_mk Try.underlying3 (by decide)) _ _ (RE_mk 0 94) ?_; intro w15 ho15 hg15)
    | (refine insert_own (H := Unit) rfl (.tmp 1) (.const (.int .i64 257)) (.tmp 17) 148 rfl 3 146 keyed3 Try.underlying148 RE w.heap.size 15 _ rfl ho15 (by unfold maxLen; omega) _ _ (.int .i64 257) rfl rfl (Go.Maps.keyOf_int_mk Try.underlying3 (by decide)) _ _ (RE_mk 6 81) ?_; intro w16 ho16 hg16)
    | (refine insert_own (H := Unit) rfl (.tmp 1) (.const (.int .i64 258)) (.tmp 18) 148 rfl 3 146 keyed3 Try.underlying148 RE w.heap.size 16 _ rfl ho16 (by unfold maxLen; omega) _ _ (.int .i64 258) rfl rfl (Go.Maps.keyOf_int_mk Try.underlying3 (by decide)) _ _ (RE_mk 6 80) ?_; intro w17 ho17 hg17)
    | (refine insert_own (H := Unit) rfl (.tmp 1) (.const (.int .i64 289)) (.tmp 19) 148 rfl 3 146 keyed3 Try.underlying148 RE w.heap.size 17 _ rfl ho17 (by unfold maxLen; omega) _ _ (.int .i64 289) rfl rfl (Go.Maps.keyOf_int_mk Try.underlying3 (by decide)) _ _ (RE_mk 2 95) ?_; intro w18 ho18 hg18))
  go_ret
  have hg : w.grownBy w18 (some w.heap.size) := (((((((((((((((((((World.grownBy_alloc w (.map #[] 0) (some w.heap.size)).trans hg1).trans hg2).trans hg3).trans hg4).trans hg5).trans hg6).trans hg7).trans hg8).trans hg9).trans hg10).trans hg11).trans hg12).trans hg13).trans hg14).trans hg15).trans hg16).trans hg17).trans hg18)
  exact ⟨w.heap.size, rfl, ⟨hg.os, hg.tape, hg.output, hg.size, fun k hk => hg.block k hk (by simp; omega)⟩, Nat.le_refl _, ho18⟩
end Go.Proofs.Ytimnohaalccdkaa.O33
