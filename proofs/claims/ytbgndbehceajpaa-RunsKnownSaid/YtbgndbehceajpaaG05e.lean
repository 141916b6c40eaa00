/- The parts of a row and the records of octets as they are (runs.pieces, the function flush of runs.Encode). -/
import Derived.Test.YtbgndbehceajpaaProg
import Derived.WalkSpells
import Derived.RangeFuncNested
import Derived.RangeFuncBound
import Derived.RangeFuncCalls
import Derived.RangeFuncLeaves
import Derived.WalkKit
import Derived.KernelRfl
import Derived.Deep.LoopGhost
import Derived.Deep.QuietTactic
import Derived.BigQuiet
import Derived.Deep.DeepCutAuto
import Derived.Test.YtbgndbehceajpaaWWords
import Derived.Test.YtbgndbehceajpaaWLast
import Derived.Test.YtbgndbehceajpaaWMore
namespace Go.Proofs.Ytbgndbehceajpaa.G05e
open Go.RowKit Go.Proofs.YtbgndbehceajpaaW.PrintWords Go.Proofs.YtbgndbehceajpaaW.PrintLast Go.Proofs.YtbgndbehceajpaaW.PrintMore
set_option linter.unusedVariables false
set_option maxRecDepth 100000
theorem info5 : (Try.prog.info? 5).map (fun i => (i.zero, i.size, i.bytes)) = some (some (.int .u8 0), 1, 1) := by kernel_rfl
def Own8 (W : World) (base : Nat) (v : Value) (l : List Int) : Prop := W.ownsRow base 5 1 v l.length (nums .u8 l)
theorem info32 : (Try.prog.info? 32).map (fun i => (i.zero, i.size, i.bytes)) = some (some (.slice none 0 0), 1, 24) := by kernel_rfl
/-- Where the parts of a row of n octets from off on begin, and their lengths. -/
def parts : Nat → Nat → Nat → List (Nat × Nat)
  | 0, _, _ => []
  | k + 1, off, n => if n > 128 then (off, 128) :: parts k (off + 128) (n - 128) else [(off, n)]
theorem parts_big (k off n : Nat) (h : 128 < n) : parts (k + 1) off n = (off, 128) :: parts k (off + 128) (n - 128) := by rw [parts]; exact if_pos h
theorem parts_small (k off n : Nat) (h : ¬ 128 < n) : parts (k + 1) off n = [(off, n)] := by rw [parts]; exact if_neg h
/-- The cell of a part: a slice of the row in block b. -/
def Part (b : Nat) (p : Nat × Nat) (cs : List Value) : Prop := ∃ A c, cs = [.slice A p.2 c] ∧ p.2 ≤ c ∧ (0 < p.2 → A = some ⟨b, p.1, none⟩)
theorem pieces (b off n c : Nat) (A : Option Addr) (w : World) (hA : 0 < n → A = some ⟨b, off, none⟩) (hn : n ≤ 10000000000) (hc : n ≤ c) :
    Calls Try.prog 18 #[.slice A n c, .int .i64 128] w fun e w' => ∃ v, e = .returned v ∧ OwnRow (Part b) 32 1 w' w.heap.size v (parts (n + 1) off n) ∧ Below w.heap.size w w' := by
  go_enter Try.func18, Try.ntmps18
  go_wp2
  go_loopw [0, 5] (fun v0 v5 wr => ∃ (k off' m c' : Nat) (A' : Option Addr) (ps : List (Nat × Nat)), v0 = .slice A' m c' ∧ m ≤ n ∧ m ≤ c' ∧ Aside0 (0 < m → A' = some ⟨b, off', none⟩) ∧ Aside0 (m < k ∧ k + ps.length ≤ n + 1) ∧ Aside0 (ps ++ parts k off' m = parts (n + 1) off n) ∧ Aside0 (OwnRow (Part b) 32 1 wr w.heap.size v5 ps) ∧ Aside0 (Below w.heap.size w wr))
    (fun v0 _ _ => match v0 with | .slice _ m _ => m | _ => 0)
  case atStart => exact ⟨n + 1, off, n, c, A, [], rfl, Nat.le_refl _, hc, ⟨hA⟩, ⟨by omega, by simp⟩, ⟨by simp⟩, ⟨OwnRow.none_ _ _ _ _ _⟩, ⟨Below.refl _ _⟩⟩
  case round =>
    obtain ⟨k, off', m, c', A', ps, rfl, hm, hc', HA, HK, HP, HO, HB⟩ := hrel
    obtain ⟨k, rfl⟩ : ∃ q, k = q + 1 := ⟨k - 1, by have := HK.out; omega⟩
    by_cases hlt : 128 < m
    · have hp := HP.out
      rw [parts_big k off' m hlt] at hp
      have hA' := HA.out (by omega)
      subst hA'
      have HP' := Aside0.mk hp
      have hk := HK.out
      have HLn : Aside0 ((ps.length + 1) * 24 ≤ 140737488355328) := ⟨by omega⟩
      clear hp HA hk
      go_wp2_with (at_builtin; refine OwnRow.append (R := Part b) (w0 := w) w.heap.size rfl (.tmp 10) (.tmp 15) 43 32 (.slice none 0 0) 1 24 rfl Try.underlying43 info32 rfl (by decide) (by decide) u5 ps (off', 128) [.slice (some ⟨b, off', none⟩) 128 128] rfl ?hx ?hp rfl ?h1 HO.out HB.out ?hb HLn.out ?_; (case hx => rfl); (case hp => exact ⟨_, _, rfl, Nat.le_refl _, fun _ => rfl⟩); (case h1 => intro u hu; rw [List.mem_singleton.1 hu]; rfl); (case hb => exact HB.out.size); intro v1 w1 ho hb hg hat; have HO2 := Aside0.mk ho; have HB2 := Aside0.mk hb; clear ho hb hg hat HO HB)
      go_roundw
      case measure => show m - 128 < m; omega
      case rel =>
        have hk := HK.out
        refine ⟨k, off' + 128, m - 128, c' - 128, _, ps ++ [(off', 128)], rfl, by omega, by omega, ⟨?_⟩, ⟨by omega, by simp; omega⟩, ⟨?_⟩, HO2, HB2⟩
        · exact fun _ => rfl
        · rw [List.append_assoc]; exact HP'.out
    · have hp := HP.out
      rw [parts_small k off' m hlt] at hp
      have HP' := Aside0.mk hp
      have hk := HK.out
      have HLn : Aside0 ((ps.length + 1) * 24 ≤ 140737488355328) := ⟨by omega⟩
      clear hp hk HK HP
      go_wp2_with (at_builtin; refine OwnRow.append (R := Part b) (w0 := w) w.heap.size rfl (.tmp 20) (.tmp 22) 43 32 (.slice none 0 0) 1 24 rfl Try.underlying43 info32 rfl (by decide) (by decide) u5 ps (off', m) [.slice A' m c'] rfl ?hx ?hp rfl ?h1 HO.out HB.out ?hb HLn.out ?_; (case hx => rfl); (case hp => exact ⟨_, _, rfl, hc', HA.out⟩); (case h1 => intro u hu; rw [List.mem_singleton.1 hu]; rfl); (case hb => exact HB.out.size); intro v1 w1 ho hb hg hat; have HO2 := Aside0.mk ho; have HB2 := Aside0.mk hb; clear ho hb hg hat HO HB)
      go_ret
      refine ⟨v1, rfl, ?_, HB2.out⟩
      rw [← HP'.out]
      exact HO2.out
/-- From W to W' only the two boxes bs, bo and what lies from base on have turned; whatever is no cells lies as it lay. -/
structure Mv (base bs bo : Nat) (W W' : World) : Prop where
  os : W'.os = W.os
  tape : W'.tape = W.tape
  output : W'.output = W.output
  size : W.heap.size ≤ W'.heap.size
  block : ∀ i, i < base → i ≠ bs → i ≠ bo → W'.heap[i]? = W.heap[i]?
  others : KeepsOthers W W'
theorem Mv.refl (base bs bo : Nat) (W : World) : Mv base bs bo W W := ⟨rfl, rfl, rfl, Nat.le_refl _, fun _ _ _ _ => rfl, KeepsOthers.refl _⟩
theorem Mv.trans {base bs bo : Nat} {A B C : World} (h : Mv base bs bo A B) (k : Mv base bs bo B C) : Mv base bs bo A C :=
  ⟨k.os.trans h.os, k.tape.trans h.tape, k.output.trans h.output, Nat.le_trans h.size k.size, fun i h1 h2 h3 => (k.block i h1 h2 h3).trans (h.block i h1 h2 h3), h.others.trans k.others⟩
theorem Mv.of_below {base bs bo : Nat} {W W' : World} (hb : Below W.heap.size W W') (hB : base ≤ W.heap.size) : Mv base bs bo W W' :=
  ⟨hb.os, hb.tape, hb.output, hb.size, fun i h1 _ _ => hb.block i (by omega), ⟨hb.size, fun k o hk _ => (hb.block k (Array.getElem?_eq_some_iff.1 hk).1).trans hk⟩⟩
theorem Mv.grown {base bs bo : Nat} {W W' : World} {row : Option Nat} (hg : W.grownBy W' row) (hr : ∀ k, row = some k → base ≤ k) (hc : ∀ (j : Nat) (o : Obj), row = some j → W.heap[j]? = some o → o.isCells = true) (hB : base ≤ W.heap.size) : Mv base bs bo W W' :=
  ⟨hg.os, hg.tape, hg.output, hg.size, fun i h1 _ _ => hg.block i (by omega) (fun e => by have := hr i e.symm; omega), KeepsOthers.of_grownBy hg hc⟩
theorem Mv.set {base bs bo : Nat} (W : World) (g : Nat) (hg : g = bs ∨ g = bo) (v : Value) : Mv base bs bo W (W.setCell ⟨g, 0, none⟩ v) :=
  ⟨rfl, rfl, rfl, by simp, fun i _ h2 h3 => Below.heap_setCell W ⟨g, 0, none⟩ v i (by rcases hg with rfl | rfl <;> assumption), KeepsOthers.setCell W _ _⟩
theorem Mv.alloc {base bs bo : Nat} (W : World) (o : Obj) (hB : base ≤ W.heap.size) : Mv base bs bo W (W.alloc o) := Mv.of_below ((Below.refl _ _).alloc (Nat.le_refl _) o) hB
theorem own_cells {W : World} {base : Nat} {v : Value} {l : List Int} (h : Own8 W base v l) : ∀ (j : Nat) (o : Obj), v.ownBlock = some j → W.heap[j]? = some o → o.isCells = true := by
  intro j o hj ho
  obtain ⟨cs, hc⟩ := own_typed h j hj
  rw [hc] at ho
  cases ho
  rfl
/-- What the two variables hold: octets that the call has made. -/
structure St (W : World) (base bs bo : Nat) (vs vo : Value) (short out : List Int) : Prop where
  hs : W.heap[bs]? = some (.cells #[vs] 32 (0, 0))
  ho : W.heap[bo]? = some (.cells #[vo] 32 (0, 0))
  ne : bs ≠ bo
  ls : bs < base
  lo : bo < base
  lb : base ≤ W.heap.size
  s : Own8 W base vs short
  o : Own8 W base vo out
  apart : vs.ownBlock = none ∨ vs.ownBlock ≠ vo.ownBlock
theorem St.below {W W' : World} {base bs bo : Nat} {vs vo : Value} {short out : List Int} (h : St W base bs bo vs vo short out) (hb : Below W.heap.size W W') : St W' base bs bo vs vo short out :=
  ⟨(hb.block bs (by have := h.ls; have := h.lb; omega)).trans h.hs, (hb.block bo (by have := h.lo; have := h.lb; omega)).trans h.ho, h.ne, h.ls, h.lo, Nat.le_trans h.lb hb.size, pw_own_below h.s hb, pw_own_below h.o hb, h.apart⟩
/-- The records of octets as they are. -/
def rec1 (l : List Int) (p : Nat × Nat) : List Int := if p.2 > 0 then ((p.2 : Int) - 1) :: ((l.drop p.1).take p.2) else []
def plainL (l : List Int) : List Int := (parts (l.length + 1) 0 l.length).flatMap (rec1 l)
theorem own8_at {W : World} {base n c : Nat} {A : Option Addr} {l : List Int} (h : Own8 W base (.slice A n c) l) : ∃ b, 0 < l.length → A = some ⟨b, 0, none⟩ := by
  rcases Nat.eq_zero_or_pos l.length with h0 | h0
  · exact ⟨0, fun h => absurd h (by omega)⟩
  · obtain ⟨g, cap, he, _, _⟩ := h.form h0
    cases he
    exact ⟨g, fun _ => rfl⟩
theorem readsInt_sub {W : World} {n b o m : Nat} {A : Option Addr} {l : List Int} (h : ReadsInt W .u8 A n l) (hA : A = some ⟨b, 0, none⟩) (hm : o + m ≤ n) : ReadsInt W .u8 (some ⟨b, o, none⟩) m ((l.drop o).take m) := by
  obtain ⟨h1, h2, h3⟩ := h
  refine ⟨by rw [List.length_take, List.length_drop]; omega, by omega, fun hp => ⟨_, rfl, fun j hj => ?_⟩⟩
  obtain ⟨ad, he, hc⟩ := h3 (by omega)
  subst hA
  cases he
  have := hc (o + j) (by omega)
  rw [add_plain] at this
  rw [show (⟨b, o, none⟩ : Addr).add j = ⟨b, o + j, none⟩ from by unfold Addr.add; split <;> simp_all, this]
  simp [List.getD_eq_getElem?_getD, List.getElem?_drop, hj]
/-- The parts lie in the row. -/
theorem parts_in (k : Nat) : ∀ off n p, n < k → p ∈ parts k off n → off ≤ p.1 ∧ p.1 + p.2 ≤ off + n ∧ p.2 ≤ 128 := by
  induction k with
  | zero => intro off n p h; omega
  | succ k ih =>
    intro off n p hk hp
    by_cases h : 128 < n
    · rw [parts_big k off n h, List.mem_cons] at hp
      rcases hp with rfl | hp
      · exact ⟨Nat.le_refl _, by omega, Nat.le_refl _⟩
      · have := ih _ _ p (by omega) hp
        omega
    · rw [parts_small k off n h, List.mem_singleton] at hp
      subst hp
      exact ⟨Nat.le_refl _, Nat.le_refl _, by omega⟩
theorem rec1_len (l : List Int) (p : Nat × Nat) : (rec1 l p).length ≤ p.2 + 1 := by
  unfold rec1
  split
  · simp; omega
  · simp
theorem parts_len (k : Nat) : ∀ off n, n < k → (parts k off n).length ≤ n / 128 + 1 := by
  induction k with
  | zero => intro off n h; omega
  | succ k ih =>
    intro off n hk
    by_cases h : 128 < n
    · rw [parts_big k off n h, List.length_cons]
      have := ih (off + 128) (n - 128) (by omega)
      omega
    · rw [parts_small k off n h]; simp
/-- How long the records of the first parts can be. -/
theorem flat_len (l : List Int) (ps : List (Nat × Nat)) (h : ∀ p ∈ ps, p.2 ≤ 128) : (ps.flatMap (rec1 l)).length ≤ 129 * ps.length := by
  induction ps with
  | nil => simp
  | cons p ps ih =>
    have h1 := rec1_len l p
    have h2 := h p (by simp)
    have h3 := ih (fun q hq => h q (by simp [hq]))
    rw [List.flatMap_cons, List.length_append, List.length_cons]
    omega
theorem part_at {W : World} {b base cp : Nat} {Ap : Option Addr} {ps : List (Nat × Nat)} (h : OwnRow (Part b) 32 1 W base (.slice Ap ps.length cp) ps) (j : Nat) (hj : j < ps.length) :
    ∃ g A' c', Ap = some ⟨g, 0, none⟩ ∧ W.cell? ⟨g, j, none⟩ = some (.slice A' (ps[j]).2 c') ∧ (ps[j]).2 ≤ c' ∧ (0 < (ps[j]).2 → A' = some ⟨b, (ps[j]).1, none⟩) := by
  obtain ⟨inner, ho, hr⟩ := h
  obtain ⟨g, cap, he, _, _⟩ := ho.form (by omega)
  cases he
  obtain ⟨A', c', e1, e2, e3⟩ := hr.2 j _ (List.getElem?_eq_getElem hj)
  refine ⟨g, A', c', rfl, ?_, e2, e3⟩
  have hl : inner.length = ps.length := by simpa using hr.1
  have hc := ho.cells (g := g) rfl j (inner[j]'(by omega)) (List.getElem?_eq_getElem (by omega))
  rw [add_plain] at hc
  rw [hc]
  rw [Nat.mul_one, List.drop_eq_getElem_cons (by omega)] at e1
  simp only [List.take_succ_cons, List.take_zero, List.cons.injEq, and_true] at e1
  rw [e1]
theorem flush_read {wr w1 : World} {base bs bo c Lo co b o m : Nat} {A Ao : Option Addr} {short cur : List Int} (hst : St wr base bs bo (.slice A short.length c) (.slice Ao Lo co) short cur)
    (hg : wr.grownBy w1 (Value.slice Ao Lo co).ownBlock) (hb : 0 < short.length → A = some ⟨b, 0, none⟩) (hin : 0 ≤ o ∧ o + m ≤ 0 + short.length ∧ m ≤ 128) (hm : 0 < m) :
    ReadsInt w1 .u8 (some ⟨b, o, none⟩) m ((short.drop o).take m) := by
  have hs1 := own_other hst.s hg hst.apart
  obtain ⟨Ax, cx, he, hr⟩ := own_reads hs1
  cases he
  exact readsInt_sub hr (hb (by omega)) (by omega)
theorem not_box {W : World} {base bo : Nat} {v v1 : Value} (hlo : bo < base) (hlb : base ≤ W.heap.size) (hv : ∀ k, v.ownBlock = some k → base ≤ k) (hat : v1.ownBlock = v.ownBlock ∨ ∃ b, v1.ownBlock = some b ∧ W.heap.size ≤ b) : some bo ≠ v1.ownBlock := by
  rcases hat with h | ⟨b, h, hb⟩
  · rw [h]; intro e; have := hv bo e.symm; omega
  · rw [h]; intro e; cases e; omega
theorem flush_box {wr w1 w2 : World} {base bs bo : Nat} {vs vo v1 : Value} {short cur : List Int} (hst : St wr base bs bo vs vo short cur)
    (hg : wr.grownBy w1 vo.ownBlock) (hat : v1.ownBlock = vo.ownBlock ∨ ∃ b, v1.ownBlock = some b ∧ wr.heap.size ≤ b) (hg2 : w1.grownBy w2 v1.ownBlock) :
    w2.cell? ⟨bo, 0, none⟩ = some vo ∧ w2.frozen? ⟨bo, 0, none⟩ = false := by
  have h1 := blk_grown hst.ho hg (fun e => by have := own_base hst.o bo e.symm; have := hst.lo; omega)
  have h2 := blk_grown h1 hg2 (not_box hst.lo hst.lb (own_base hst.o) hat)
  exact ⟨blk_cell h2 0, blk_frozen h2 0⟩
/-- One record more. -/
theorem flush_step {wr w1 w2 w : World} {base bs bo B0 b : Nat} {vs vo v1 v2 vp : Value} {short cur l1 l2 : List Int} {ps : List (Nat × Nat)} (hst : St wr base bs bo vs vo short cur)
    (ho1 : Own8 w1 base v1 l1) (hg : wr.grownBy w1 vo.ownBlock) (hat : v1.ownBlock = vo.ownBlock ∨ ∃ b, v1.ownBlock = some b ∧ wr.heap.size ≤ b)
    (ho2 : Own8 w2 base v2 l2) (hg2 : w1.grownBy w2 v1.ownBlock) (hat2 : v2.ownBlock = v1.ownBlock ∨ ∃ b, v2.ownBlock = some b ∧ w1.heap.size ≤ b)
    (hop : OwnRow (Part b) 32 1 wr B0 vp ps) (hB0 : base ≤ B0) (hmv : Mv base bs bo w wr) :
    St (w2.setCell ⟨bo, 0, none⟩ v2) base bs bo vs v2 short l2 ∧ OwnRow (Part b) 32 1 (w2.setCell ⟨bo, 0, none⟩ v2) B0 vp ps ∧ Mv base bs bo w (w2.setCell ⟨bo, 0, none⟩ v2) := by
  have nb1 : some bo ≠ vo.ownBlock := fun e => by have := own_base hst.o bo e.symm; have := hst.lo; omega
  have nb2 : some bo ≠ v1.ownBlock := not_box hst.lo hst.lb (own_base hst.o) hat
  have ns1 : some bs ≠ vo.ownBlock := fun e => by have := own_base hst.o bs e.symm; have := hst.ls; omega
  have ns2 : some bs ≠ v1.ownBlock := not_box hst.ls hst.lb (own_base hst.o) hat
  have o1 := blk_grown (blk_grown hst.ho hg nb1) hg2 nb2
  have s1 := blk_grown (blk_grown hst.hs hg ns1) hg2 ns2
  have ap1 : vs.ownBlock = none ∨ vs.ownBlock ≠ v1.ownBlock := by
    rcases hst.apart with h | h
    · exact .inl h
    · refine .inr fun e => ?_
      rcases hat with h1 | ⟨q, h1, h2⟩
      · exact h (e.trans h1)
      · have := own_lt hst.s q (e.trans h1); omega
  have ap2 : vs.ownBlock = none ∨ vs.ownBlock ≠ v2.ownBlock := by
    rcases ap1 with h | h
    · exact .inl h
    · refine .inr fun e => ?_
      rcases hat2 with h1 | ⟨q, h1, h2⟩
      · exact h (e.trans h1)
      · have := own_lt hst.s q (e.trans h1); have := hg.size; omega
  have sz : wr.heap.size ≤ w2.heap.size := Nat.le_trans hg.size hg2.size
  have b1 : ∀ k, vo.ownBlock = some k → base ≤ k := own_base hst.o
  have b2 : ∀ k, v1.ownBlock = some k → base ≤ k := own_base ho1
  have b3 : ∀ k, v2.ownBlock = some k → base ≤ k := own_base ho2
  have nbp : some bo ≠ vp.ownBlock := fun e => by
    obtain ⟨inner, h, _⟩ := hop
    have := own_base h bo e.symm
    have := hst.lo
    omega
  have p1 : OwnRow (Part b) 32 1 w1 B0 vp ps := hop.other hg (by obtain ⟨inner, h, _⟩ := hop; exact own_type_ne h hst.o (by decide))
  have p2 : OwnRow (Part b) 32 1 w2 B0 vp ps := p1.other hg2 (by obtain ⟨inner, h, _⟩ := p1; exact own_type_ne h ho1 (by decide))
  refine ⟨⟨?_, blk_set o1 0 v2, hst.ne, hst.ls, hst.lo, by simp; exact Nat.le_trans hst.lb sz, ?_, ?_, ap2⟩, ?_, ?_⟩
  · exact blk_far s1 (by simpa using hst.ne) v2
  · exact own_setCell (own_other (own_other hst.s hg hst.apart) hg2 ap1) (by intro e; have := own_base hst.s bo e.symm; have := hst.lo; omega) v2
  · exact own_setCell ho2 (by intro e; have := b3 bo e.symm; have := hst.lo; omega) v2
  · obtain ⟨inner, h, hr⟩ := p2
    exact ⟨inner, own_setCell h nbp v2, hr⟩
  · refine hmv.trans ((Mv.grown hg b1 (own_cells hst.o) hst.lb).trans ((Mv.grown hg2 b2 (own_cells ho1) (Nat.le_trans hst.lb hg.size)).trans (Mv.set w2 bo (.inr rfl) v2)))
theorem St.clear {W : World} {base bs bo : Nat} {vs vo : Value} {short out : List Int} (h : St W base bs bo vs vo short out) : St (W.setCell ⟨bs, 0, none⟩ (.slice none 0 0)) base bs bo (.slice none 0 0) vo [] out :=
  ⟨blk_set h.hs 0 _, blk_far h.ho (by simpa using h.ne.symm) _, h.ne, h.ls, h.lo, by simpa using h.lb, own_nil _ _ _ _, own_setCell h.o (by intro e; have := own_base h.o bs e.symm; have := h.ls; omega) _, .inl rfl⟩
theorem flush (base bs bo : Nat) (vs vo : Value) (short out : List Int) (w : World) (h : St w base bs bo vs vo short out) (hl : short.length ≤ 10000000000) (hlo : out.length ≤ 10000000000) :
    Calls Try.prog 17 #[.pointer (some ⟨bs, 0, none⟩), .pointer (some ⟨bo, 0, none⟩)] w fun e w' => e = .returned (.tuple #[]) ∧ Mv base bs bo w w' ∧ ∃ vo', St w' base bs bo (.slice none 0 0) vo' [] (out ++ plainL short) := by
  have hcs := blk_cell h.hs 0
  have hfs := blk_frozen h.hs 0
  obtain ⟨A, c, rfl⟩ := own_slice h.s
  obtain ⟨b, hb⟩ := own8_at h.s
  have hle := own_le h.s
  have HST := Aside0.mk h
  clear h
  have hcs' : w.cell? ⟨bs, 0, none⟩ = some (.slice A short.length c) := hcs
  clear hcs
  go_enter Try.func17, Try.ntmps17
  go_wp2_with fail
  refine (pieces b 0 short.length c A w hb (by omega) hle).mono ?_
  rintro e w1 ⟨vp, rfl, hop, hbp⟩
  obtain ⟨Ap, cp, rfl, hlp⟩ := hop.slice_
  have hst1 := HST.out.below hbp
  have hmv1 : Mv base bs bo w w1 := Mv.of_below hbp HST.out.lb
  have HB0 := Aside0.mk HST.out.lb
  clear hbp HST hcs' hfs
  obtain ⟨ps, hps⟩ : ∃ ps, parts (short.length + 1) 0 short.length = ps := ⟨_, rfl⟩
  rw [hps] at hop hlp ⊢
  have HPS := Aside0.mk hps
  have HB := Aside0.mk hb
  have HOP := Aside0.mk hop
  have HST := Aside0.mk hst1
  have HMV := Aside0.mk hmv1
  clear hps hb hop hst1 hmv1
  go_wp2_with fail
  go_loopw [7] (fun v7 wr => ∃ (j : Nat) (vo' : Value), v7 = .int .i64 j ∧ j ≤ ps.length ∧ Aside0 (St wr base bs bo (.slice A short.length c) vo' short (out ++ (ps.take j).flatMap (rec1 short))) ∧ Aside0 (OwnRow (Part b) 32 1 wr w.heap.size (.slice Ap ps.length cp) ps) ∧ Aside0 (Mv base bs bo w wr)) (fun v7 _ => ps.length - (intOf v7).toNat)
  case atStart => exact ⟨0, vo, rfl, Nat.zero_le _, ⟨by simpa using HST.out⟩, HOP, HMV⟩
  case round =>
    obtain ⟨j, vo', rfl, hj, HST, HOP, HMV⟩ := hrel
    by_cases hlt : j < ps.length
    · obtain ⟨g, A', c', rfl, hcell, hcc, hAA⟩ := part_at HOP.out j hlt
      obtain ⟨⟨o, m⟩, hom⟩ : ∃ q, ps[j] = q := ⟨_, rfl⟩
      rw [hom] at hcell hcc hAA
      simp only at hcell hcc hAA
      have hmem : (o, m) ∈ parts (short.length + 1) 0 short.length := by rw [HPS.out, ← hom]; exact List.getElem_mem hlt
      have hin := parts_in _ _ _ _ (Nat.lt_succ_self _) hmem
      simp only at hin
      have HOM := Aside0.mk hom
      have HIN := Aside0.mk hin
      have HAA := Aside0.mk hAA
      clear hmem hin hom hAA
      by_cases hm : 0 < m
      · have q1 : decide ((0 : Int) < (m : Int)) = true := decide_eq_true (by omega)
        have hco : wr.cell? ⟨bo, 0, none⟩ = some vo' := blk_cell HST.out.ho 0
        have hfo := blk_frozen HST.out.ho 0
        have hST := HST.out
        clear HST
        obtain ⟨cur, hcur⟩ : ∃ cur, out ++ (ps.take j).flatMap (rec1 short) = cur := ⟨_, rfl⟩
        rw [hcur] at hST
        have HCUR := Aside0.mk hcur
        clear hcur
        have HLC : Aside0 (cur.length ≤ 30000000000) := ⟨by
          have h1 := HCUR.out
          have h2 : (ps.take j).length ≤ 80000000 := by
            have := parts_len (short.length + 1) 0 short.length (by omega)
            rw [HPS.out] at this
            rw [List.length_take]; omega
          have h3 := flat_len short (ps.take j) (fun p hp => (parts_in (short.length + 1) 0 short.length p (by omega) (by rw [HPS.out]; exact List.mem_of_mem_take hp)).2.2)
          rw [← h1, List.length_append]; omega⟩
        have hm1 : (1 : Int) ≤ (m : Int) := by omega
        have hm2 : (m : Int) ≤ 128 := by have := HIN.out; omega
        obtain ⟨Ao, co, rfl⟩ := own_slice hST.o
        have HST := Aside0.mk hST
        clear hST
        obtain rfl := HAA.out hm
        obtain ⟨l2, hl2⟩ : ∃ l2, cur ++ [(m : Int) - 1] ++ (short.drop o).take m = l2 := ⟨_, rfl⟩
        have HL2 := Aside0.mk hl2
        clear hl2
        have hpl : (ps.length : Int) ≤ 80000000 := by
          have := parts_len (short.length + 1) 0 short.length (by omega)
          rw [HPS.out] at this
          omega
        go_wp2_with (first | ((with_reducible refine gate_builtin (b := .append) (xs := #[.tmp 14, .tmp 19]) rfl ?_); at_builtin; refine print_append_num (w0 := wr) base rfl (.tmp 14) (.tmp 19) 32 5 .u8 1 rfl Try.underlying32 info5 (by decide) (.slice Ao cur.length co) cur ((m : Int) - 1) rfl ?hx HST.out.o ?hB ?hb ?hl ?_; (case hx => rfl); (case hB => exact Below.refl _ _); (case hb => exact HST.out.lb); (case hl => have := HLC.out; omega); intro v1 w1 ho hb hg hat; have HO1 := Aside0.mk ho; have HG1 := Aside0.mk hg; have HAT1 := Aside0.mk hat; clear ho hb hg hat; have HRD := Aside0.mk (flush_read HST.out HG1.out HB.out HIN.out hm)) | ((with_reducible refine gate_builtin (b := .append) (xs := #[.tmp 20, .tmp 21]) rfl ?_); at_builtin; refine print_append_row (w0 := w1) base rfl (.tmp 20) (.tmp 21) 32 5 .u8 1 rfl Try.underlying32 info5 (by decide) v1 (cur ++ [(m : Int) - 1]) ((short.drop o).take m) (some ⟨b, o, none⟩) m c' rfl rfl HO1.out HRD.out ?hB ?hb ?hl ?_; (case hB => exact Below.refl _ _); (case hb => exact Nat.le_trans HST.out.lb HG1.out.size); (case hl => have := HLC.out; have := HIN.out; rw [List.length_append, List.length_singleton]; omega); intro v2 w2 ho hb hg hat; rw [HL2.out] at ho; have HO2 := Aside0.mk ho; have HG2 := Aside0.mk hg; have HAT2 := Aside0.mk hat; clear ho hb hg hat; obtain ⟨A2, c2, rfl⟩ := own_slice HO2.out; obtain ⟨hco2, hfo2⟩ := flush_box HST.out HG1.out HAT1.out HG2.out))
        go_roundw
        case measure => simp [intOf]; omega
        case rel =>
          obtain ⟨k1, k2, k3⟩ := flush_step HST.out HO1.out HG1.out HAT1.out HO2.out HG2.out HAT2.out HOP.out HB0.out HMV.out
          have e : out ++ (ps.take (j + 1)).flatMap (rec1 short) = l2 := by
            rw [List.take_succ_eq_append_getElem hlt, List.flatMap_append, ← List.append_assoc, HCUR.out, HOM.out, ← HL2.out]
            simp [rec1, hm]
          exact ⟨j + 1, .slice A2 l2.length c2, by go_num, by omega, ⟨by rw [e]; exact k1⟩, ⟨k2⟩, ⟨k3⟩⟩
      · have hm0 : m = 0 := by omega
        subst hm0
        have q1 : decide ((0 : Int) < ((0 : Nat) : Int)) = false := by decide
        have hpl : (ps.length : Int) ≤ 80000000 := by
          have := parts_len (short.length + 1) 0 short.length (by omega)
          rw [HPS.out] at this
          omega
        go_wp2
        go_roundw
        case measure => simp [intOf]; omega
        case rel =>
          have e : out ++ (ps.take (j + 1)).flatMap (rec1 short) = out ++ (ps.take j).flatMap (rec1 short) := by
            rw [List.take_succ_eq_append_getElem hlt, List.flatMap_append, HOM.out]
            simp [rec1]
          exact ⟨j + 1, vo', by go_num, by omega, ⟨by rw [e]; exact HST.out⟩, HOP, HMV⟩
    · obtain rfl : j = ps.length := by omega
      have hcs := blk_cell HST.out.hs 0
      have hfs := blk_frozen HST.out.hs 0
      have hcs' : wr.cell? ⟨bs, 0, none⟩ = some (.slice A short.length c) := hcs
      clear hcs
      go_wp2
      go_end0
      have h := HST.out.clear
      rw [List.take_length] at h
      refine ⟨rfl, HMV.out.trans (Mv.set wr bs (.inl rfl) _), vo', ?_⟩
      unfold plainL
      rw [HPS.out]
      exact h
end Go.Proofs.Ytbgndbehceajpaa.G05e
