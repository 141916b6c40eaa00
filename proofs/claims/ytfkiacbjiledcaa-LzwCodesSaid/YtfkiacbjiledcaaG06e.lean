/- (*reader).expand, walked (chapter 06). -/
import Derived.Test.YtfkiacbjiledcaaE06
import Derived.Test.YtfkiacbjiledcaaRg06
import Derived.Control
import Derived.ControlIn
import Derived.Scope
import Derived.Test.YtfkiacbjiledcaaS06
import Derived.WalkMore
import Derived.Laws.EntriesVeiled
import Derived.Shelf.RegionOpen
namespace Go.Proofs.Ytfkiacbjiledcaa.G06e
open Go.RowKit Go.Proofs.YtfkiacbjiledcaaW.PrintWords Go.Proofs.YtfkiacbjiledcaaW.PrintLast Go.Proofs.YtfkiacbjiledcaaW.PrintMore
open Go.Proofs.Ytfkiacbjiledcaa.K06 Go.Proofs.Ytfkiacbjiledcaa.G06 Go.Proofs.Ytfkiacbjiledcaa.M06 Go.Proofs.Ytfkiacbjiledcaa.G06r Go.Proofs.Ytfkiacbjiledcaa.Q06 Go.Proofs.Ytfkiacbjiledcaa.G06i Go.Proofs.Ytfkiacbjiledcaa.L06d Go.Proofs.Ytfkiacbjiledcaa.E06 Go.Proofs.Ytfkiacbjiledcaa.Rg06
set_option linter.unusedVariables false
set_option maxRecDepth 100000
attribute [local go_sem] Oper.semAt_some
theorem codes_call (b : Nat) (w : World) : Calls Try.prog 34 #[.pointer (some ⟨b, 0, none⟩)] w fun e w' => e = .returned (.func (.func 41) #[] #[.pointer (some ⟨w.heap.size, 0, none⟩)]) ∧ w' = w.alloc (.cells #[.pointer (some ⟨b, 0, none⟩)] 60) := by
  have hmf : ∀ (fn : Fn) (first cap : Array Value) (w : World), (Instr.makeFunc fn first cap).run Try.prog w = .ok (.func fn first cap) w := fun _ _ _ _ => rfl
  go_enter Try.func34, Try.ntmps34
  go_wp2
  go_ret
  exact ⟨rfl, rfl⟩
/-- Below base all but the blocks of p are as they were. -/
structure Fq (p : Nat → Prop) (base : Nat) (W0 W : World) : Prop where
  os : W.os = W0.os
  tape : W.tape = W0.tape
  output : W.output = W0.output
  size : W0.heap.size ≤ W.heap.size
  block : ∀ i, i < base → ¬ p i → W.heap[i]? = W0.heap[i]?
theorem Fq.refl (p : Nat → Prop) (base : Nat) (W : World) : Fq p base W W := ⟨rfl, rfl, rfl, Nat.le_refl _, fun _ _ _ => rfl⟩
theorem Fq.mp {p q : Nat → Prop} {base : Nat} {W0 A B : World} (h : Fq p base W0 A) (k : Mp q base A B) (hpq : ∀ i, q i → p i) : Fq p base W0 B :=
  ⟨k.os.trans h.os, k.tape.trans h.tape, k.output.trans h.output, Nat.le_trans h.size k.size, fun i h1 h2 => (k.block i h1 (fun e => h2 (hpq i e))).trans (h.block i h1 h2)⟩
theorem Fq.weak {p q : Nat → Prop} {base : Nat} {W0 A : World} (h : Fq p base W0 A) (hpq : ∀ i, p i → q i) : Fq q base W0 A :=
  ⟨h.os, h.tape, h.output, h.size, fun i h1 h2 => h.block i h1 (fun e => h2 (hpq i e))⟩
theorem Fq.grown {p : Nat → Prop} {base : Nat} {W0 W W' : World} {row : Option Nat} (h : Fq p base W0 W) (hb : base ≤ W0.heap.size) (hg : W.grownBy W' row) (hr : ∀ r, row = some r → p r ∨ base ≤ r) : Fq p base W0 W' :=
  ⟨hg.os.trans h.os, hg.tape.trans h.tape, hg.output.trans h.output, Nat.le_trans h.size hg.size, fun i h1 h2 => (hg.block i (by have := h.size; omega) (fun e => by rcases hr i e.symm with h | h; exact h2 h; omega)).trans (h.block i h1 h2)⟩
def pE (D : Nat) (i : Nat) : Prop := i = D + 1 ∨ i = D + 2 ∨ i = D + 4 ∨ i = D + 5
def pB (D b : Nat) (i : Nat) : Prop := i = D + 1 ∨ i = D + 2 ∨ i = D + 4 ∨ i = D + 5 ∨ i = b
def pX (D b : Nat) (i : Nat) : Prop := i = D + 1 ∨ i = D + 2 ∨ i = D + 3 ∨ i = D + 4 ∨ i = D + 5 ∨ i = b
/-- The world in which the loop begins. -/
structure Start (s : ByteArray) (D b : Nat) (w W0 : World) : Prop where
  size : W0.heap.size = D + 7
  below : Below D w W0
  r : W0.heap[D]? = some (.cells #[.pointer (some ⟨b, 0, none⟩)] 60 (0, 0))
  ok : W0.heap[D + 3]? = some (.cells #[.bool false] 4 (0, 0))
  es : ES W0 D D0
  bx : W0.heap[D + 6]? = some (.cells #[.pointer (some ⟨b, 0, none⟩)] 60 (0, 0))
theorem heap_alloc (w : World) (o : Obj) : (w.alloc o).heap = w.heap.push o := rfl
theorem start (s : ByteArray) (D b : Nat) (w : World) (hD : w.heap.size = D) : Start s D b w (((((((w.alloc (.cells #[.pointer (some ⟨b, 0, none⟩)] 60)).alloc (.cells #[.slice none 0 0] 32)).alloc (.cells #[.int .i64 0] 3)).alloc (.cells #[.bool false] 4)).alloc (.cells #[.slice none 0 0] 83)).alloc (.cells #[.int .i64 0, .int .i64 0] 85)).alloc (.cells #[.pointer (some ⟨b, 0, none⟩)] 60)) := by
  have all : ∀ (i : Nat) (o : Obj), (((((((w.heap.push (.cells #[.pointer (some ⟨b, 0, none⟩)] 60)).push (.cells #[.slice none 0 0] 32)).push (.cells #[.int .i64 0] 3)).push (.cells #[.bool false] 4)).push (.cells #[.slice none 0 0] 83)).push (.cells #[.int .i64 0, .int .i64 0] 85)).push (.cells #[.pointer (some ⟨b, 0, none⟩)] 60))[i]? = some o →
      (((((((w.alloc (.cells #[.pointer (some ⟨b, 0, none⟩)] 60)).alloc (.cells #[.slice none 0 0] 32)).alloc (.cells #[.int .i64 0] 3)).alloc (.cells #[.bool false] 4)).alloc (.cells #[.slice none 0 0] 83)).alloc (.cells #[.int .i64 0, .int .i64 0] 85)).alloc (.cells #[.pointer (some ⟨b, 0, none⟩)] 60)).heap[i]? = some o := fun i o h => h
  refine ⟨by simp [hD], ?_, all _ _ ?_, all _ _ ?_, ⟨⟨_, all _ _ ?_, own_nil _ _ _ _⟩, all _ _ ?_, ⟨_, all _ _ ?_, own_nil _ _ _ _⟩, all _ _ ?_, by simp [hD]⟩, all _ _ ?_⟩
  · repeat' first | exact Below.refl _ _ | refine Below.alloc ?_ (by first | (simp [hD]; done) | (simp [hD]; omega)) _
  all_goals simp only [Array.getElem?_push, Array.size_push, hD, Nat.add_assoc, Nat.reduceAdd, Nat.add_left_cancel_iff, Nat.reduceEqDiff, if_true, if_false, D0]
  all_goals simp
def II (s : ByteArray) (D b : Nat) (W0 : World) (pre : List It) (W : World) : Prop :=
  ∃ d, goD pre D0 = some d ∧ ES W D d ∧ Fq (pB D b) (D + 7) W0 W
def IX (s : ByteArray) (D b : Nat) (W0 : World) (c : Code) (pre : List It) (W : World) : Prop :=
  ∃ (p0 : List It) (x : It) (d : Ds), pre = p0 ++ [x] ∧ goD p0 D0 = some d ∧ stepD d x.j x.code = none ∧ c = .exit 0 ∧ ES W D d ∧
    W.heap[D + 3]? = some (.cells #[.bool (x.code == 257 && x.rs.bits == 0)] 4 (0, 0)) ∧ W.heap[b]? = some (rdO s x.j x.rs) ∧ Fq (pX D b) (D + 7) W0 W
theorem II_own (s : ByteArray) (D b : Nat) (W0 : World) (h7 : W0.heap.size = D + 7) (hb : b < D) : OwnR W0.heap.size (· = b) (II s D b W0) := by
  intro pre W W' row ⟨d, h1, h2, h3⟩ hg hr
  refine ⟨d, h1, h2.grown hg (fun r e => ?_), h3.grown (by omega) hg (fun r e => ?_)⟩
  · rcases hr r e with h | ⟨h, o, ho, hc⟩
    · exact ⟨by omega, fun hx => by omega⟩
    · exact ⟨by omega, fun _ => ⟨o, ho, hc⟩⟩
  · rcases hr r e with h | ⟨h, _⟩
    · exact .inl (by unfold pB; omega)
    · exact .inr (by omega)
theorem IX_own (s : ByteArray) (D b : Nat) (W0 : World) (h7 : W0.heap.size = D + 7) (hb : b < D) (c : Code) : OwnR W0.heap.size (fun _ => False) (IX s D b W0 c) := by
  intro pre W W' row ⟨p0, x, d, k1, k2, k3, k4, h2, k5, k6, h3⟩ hg hr
  have ne : ∀ k, k < D + 7 → some k ≠ row := fun k hk e => by
    rcases hr k e.symm with h | ⟨h, _⟩
    · exact h
    · omega
  refine ⟨p0, x, d, k1, k2, k3, k4, h2.grown hg (fun r e => ?_), blk_grown k5 hg (ne _ (by omega)), blk_grown k6 hg (ne _ (by omega)), h3.grown (by omega) hg (fun r e => ?_)⟩
  · rcases hr r e with h | ⟨h, o, ho, hc⟩
    · exact h.elim
    · exact ⟨by omega, fun _ => ⟨o, ho, hc⟩⟩
  · rcases hr r e with h | ⟨h, _⟩
    · exact h.elim
    · exact .inr (by omega)
theorem store_in {F : Fence} {nF : Nat} {P : Program} {W : World} {ops : Array Oper} {rest : List Oper} {dst : Option Tmp} {type : TypeId} {pos : String} {after : Array Edge} {a : Act} {Q : Exit → Act → World → Prop} (p v : Operand) (ty : TypeId) (hsz : ∀ w, (sizeOf ty).run P w = .ok 1 w) (g j : Nat) (hp : a.eval p = .pointer (some ⟨g, j, none⟩)) (A : Option Addr) (n c : Nat) (hv : a.eval v = .slice A n c) (old : Value)
    (hc : W.cell? ⟨g, j, none⟩ = some old) (hf : W.frozen? ⟨g, j, none⟩ = false) (h : wpListIn F nF P ops Q rest (a.put dst undef) (W.setCell ⟨g, j, none⟩ (.slice A n c))) :
    wpListIn F nF P ops Q ({ dst := dst, op := .store ty p v, type := type, pos := pos, after := after, guard := none } :: rest) a W := by
  refine wpListIn_plain rfl fun K hK => ?_
  have hk := hK _ _ h
  clear h hK
  unfold Oper.wpIn
  rw [Oper.semAt_plain F _ _ (by intro c hc; cases hc)]
  refine ⟨fun f hf' => ?_, ?_⟩
  · exact absurd hf' (by simp [Oper.about])
  · unfold execOp
    simp only [hp, hv]
    go_simp
    cases dst <;> exact hk
theorem gateIn {F : Fence} {nF : Nat} {P : Program} {W : World} {ops : Array Oper} {rest : List Oper} {o : Oper} {a : Act} {Q : Exit → Act → World → Prop} {b : Builtin} {xs : Array Operand} {ts : Array TypeId} (_ho : o.op = .call { callee := .builtin b, args := xs, argTypes := ts }) (h : wpListIn F nF P ops Q (o :: rest) a W) : wpListIn F nF P ops Q (o :: rest) a W := h
/-- A place where the walk stands still. -/
structure Brk (p : Prop) : Prop where
  out : p
theorem brkB {F : Fence} {nF : Nat} {P : Program} {W : World} {ops : Array Oper} {rest : List Oper} {o : Oper} {a : Act} {Q : Exit → Act → World → Prop} {b : Builtin} {xs : Array Operand} {ts : Array TypeId} (_ho : o.op = .call { callee := .builtin b, args := xs, argTypes := ts }) (h : Brk (wpListIn F nF P ops Q (o :: rest) a W)) : wpListIn F nF P ops Q (o :: rest) a W := h.out
theorem append_part_in {F : Fence} {nF : Nat} {W : World} {ops : Array Oper} {rest : List Oper} {o : Oper} {a : Act} {Q : Exit → Act → World → Prop} (base : Nat) (hgd : o.guard = none) (s x : Operand)
    (ho : o.op = .call { callee := .builtin .append, args := #[s, x], argTypes := #[83, 83] }) (v : Value) (P : List (Nat × Nat)) (q : Nat × Nat) (g c : Nat) (hs : a.eval s = v) (hx : a.eval x = .slice (some ⟨g, 0, none⟩) 1 c)
    (HO : W.ownsRow base 85 2 v P.length (pcells P)) (hg : W.heap[g]? = some (.cells #[.int .i64 q.1, .int .i64 q.2] 85 (0, 0))) (hbase : base ≤ W.heap.size) (hl : P.length ≤ 1000000000)
    (h : ∀ v1 w1, w1.ownsRow base 85 2 v1 (P.length + 1) (pcells P ++ [.int .i64 q.1, .int .i64 q.2]) → W.grownBy w1 v.ownBlock → (v1.ownBlock = v.ownBlock ∨ v1.ownBlock = some W.heap.size) → wpListIn F nF Try.prog ops Q rest (a.put o.dst v1) w1) :
    wpListIn F nF Try.prog ops Q (o :: rest) a W := by
  obtain ⟨i0, hi, hz0, hz1, hz2⟩ := info_parts info85
  refine wpListIn_append_own_at W hgd s x 83 ho base 85 i0 _ 2 16 Try.underlying83 hi hz0 hz1 hz2 rfl (by decide) v P.length (pcells P) hs HO ⟨g, 0, none⟩ 1 c [.int .i64 q.1, .int .i64 q.2] hx rfl ?_ (by intro u hu; simp at hu; rcases hu with rfl | rfl <;> rfl) (by simp only [maxLen]; omega) (by omega) hbase ?_
  · intro j u hu
    rw [addp]
    refine (blk_cell hg j).trans ?_
    simpa using hu
  · intro v1 w1 h2 h3 _ h5
    exact h v1 w1 h2 h3 h5
theorem append_octet_in {F : Fence} {nF : Nat} {W : World} {ops : Array Oper} {rest : List Oper} {o : Oper} {a : Act} {Q : Exit → Act → World → Prop} (base : Nat) (hgd : o.guard = none) (s x : Operand)
    (ho : o.op = .call { callee := .builtin .append, args := #[s, x], argTypes := #[32, 32] }) (v : Value) (l : List Int) (y : Int) (g c : Nat) (hs : a.eval s = v) (hx : a.eval x = .slice (some ⟨g, 0, none⟩) 1 c)
    (HO : W.ownsRow base 5 1 v l.length (nums .u8 l)) (hg : W.heap[g]? = some (.cells #[.int .u8 y] 5 (0, 0))) (hbase : base ≤ W.heap.size) (hl : l.length ≤ 1000000000)
    (h : ∀ v1 w1, w1.ownsRow base 5 1 v1 (l.length + 1) (nums .u8 l ++ [.int .u8 y]) → W.grownBy w1 v.ownBlock → wpListIn F nF Try.prog ops Q rest (a.put o.dst v1) w1) :
    wpListIn F nF Try.prog ops Q (o :: rest) a W := by
  obtain ⟨i0, hi, hz0, hz1, hz2⟩ := info_parts info5
  refine wpListIn_append_own_at W hgd s x 32 ho base 5 i0 _ 1 1 Try.underlying32 hi hz0 hz1 hz2 rfl (by decide) v l.length (nums .u8 l) hs HO ⟨g, 0, none⟩ 1 c [.int .u8 y] hx rfl ?_ (by intro u hu; simp at hu; subst hu; rfl) (by simp only [maxLen]; omega) (by omega) hbase ?_
  · intro j u hu
    rw [addp]
    refine (blk_cell hg j).trans ?_
    simpa using hu
  · intro v1 w1 h2 h3 _ h5
    exact h v1 w1 h2 h3
theorem close_normal {s : ByteArray} {D b : Nat} {W0 W W' : World} {pre : List It} {j c : Nat} {rs : Rs} {d d' : Ds} (hlt : b < D) (hgo : goD pre D0 = some d) (hst : stepD d j c = some d') (hes : ES W' D d') (hfq : Fq (pB D b) (D + 7) W0 W) (hm : Mp (pE D) (D + 7) W W') (a : Act) :
    ownPostG W0.heap.size (Kp (D + 6) b) (II s D b W0) (IX s D b W0) (pre ++ [⟨j, c, rs⟩]) W .normal a W' :=
  ⟨hm.others.from _, ⟨hm.block _ (by omega) (by unfold pE; omega), hm.block _ (by omega) (by unfold pE; omega)⟩, d', (goD_snoc _ _ _ _ hgo).trans hst, hes, hfq.mp hm (fun i h => by unfold pE at h; unfold pB; omega)⟩
theorem close_exit {s : ByteArray} {D b : Nat} {W0 W W' : World} {pre : List It} {j c : Nat} {rs : Rs} {d : Ds} (hlt : b < D) (hgo : goD pre D0 = some d) (hst : stepD d j c = none) (hes : ES W' D d) (hfq : Fq (pB D b) (D + 7) W0 W) (hm : Mp (· = D + 3) (D + 7) W W')
    (hok : W'.heap[D + 3]? = some (.cells #[.bool (c == 257 && rs.bits == 0)] 4 (0, 0))) (hb : W'.heap[b]? = some (rdO s j rs)) (a : Act) :
    ownPostG W0.heap.size (Kp (D + 6) b) (II s D b W0) (IX s D b W0) (pre ++ [⟨j, c, rs⟩]) W (.exit 0) a W' :=
  ⟨hm.others.from _, pre, ⟨j, c, rs⟩, d, rfl, hgo, hst, rfl, hes, hok, hb, (hfq.weak (q := pX D b) (fun i h => by unfold pB at h; unfold pX; omega)).mp hm (fun i h => by unfold pX; omega)⟩
theorem bx_inj {u v : Value} {t : TypeId} (h : some (Obj.cells #[u] t (0, 0)) = some (Obj.cells #[v] t (0, 0))) : u = v := by
  cases h
  rfl
theorem al2 {W : World} {D : Nat} {v : Value} {ty : TypeId} (h : W.heap[D + 2]? = some (.cells #[v] ty (0, 0))) (hl : D + 7 ≤ W.heap.size) : ∀ o, (W.alloc o).cell? ⟨D + 2, 0, none⟩ = some v ∧ (W.alloc o).frozen? ⟨D + 2, 0, none⟩ = false := fun o => by
  have e := (Below.heap_alloc W o (D + 2) (by omega)).trans h
  exact ⟨blk_cell e 0, blk_frozen e 0⟩
theorem al4 {W : World} {D : Nat} {v : Value} {ty : TypeId} (h : W.heap[D + 4]? = some (.cells #[v] ty (0, 0))) (hl : D + 7 ≤ W.heap.size) : ∀ o, (W.alloc o).cell? ⟨D + 4, 0, none⟩ = some v ∧ (W.alloc o).frozen? ⟨D + 4, 0, none⟩ = false := fun o => by
  have e := (Below.heap_alloc W o (D + 4) (by omega)).trans h
  exact ⟨blk_cell e 0, blk_frozen e 0⟩
theorem alc {W : World} {g j : Nat} {v : Value} (h : W.cell? ⟨g, j, none⟩ = some v) : ∀ o, (W.alloc o).cell? ⟨g, j, none⟩ = some v := fun o => by
  have hlt := World.block_lt_of_cell? W _ h
  exact (World.cell?_of_block (Below.heap_alloc W o g hlt)).trans h
theorem al5 {W : World} {D : Nat} {u v : Value} {ty : TypeId} (h : W.heap[D + 5]? = some (.cells #[u, v] ty (0, 0))) (hl : D + 7 ≤ W.heap.size) : ∀ o, (W.alloc o).cell? ⟨D + 5, 0, none⟩ = some u ∧ (W.alloc o).frozen? ⟨D + 5, 0, none⟩ = false ∧ (W.alloc o).cell? ⟨D + 5, 1, none⟩ = some v ∧ (W.alloc o).frozen? ⟨D + 5, 1, none⟩ = false := fun o => by
  have e := (Below.heap_alloc W o (D + 5) (by omega)).trans h
  exact ⟨blk_cell e 0, blk_frozen e 0, (blk_cell e 1).trans (by simp), blk_frozen e 1⟩
theorem al1 {W : World} {D : Nat} {v : Value} {ty : TypeId} (h : W.heap[D + 1]? = some (.cells #[v] ty (0, 0))) (hl : D + 7 ≤ W.heap.size) : ∀ o, (W.alloc o).cell? ⟨D + 1, 0, none⟩ = some v ∧ (W.alloc o).frozen? ⟨D + 1, 0, none⟩ = false := fun o => by
  have e := (Below.heap_alloc W o (D + 1) (by omega)).trans h
  exact ⟨blk_cell e 0, blk_frozen e 0⟩
/-- The number of octets and the last part are set anew. -/
theorem fin {W W2 : World} {D : Nat} {known : List (Nat × Nat)} {last : Nat × Nat} {total : Nat} {out : List Int} (h : ES W2 D ⟨known, last, total, out⟩) (hm : Mp (pE D) (D + 7) W W2) (L : Nat) (Li : Int) (hL : Li = (L : Int)) (t : Int) (ht : t = ((total + L : Nat) : Int)) :
    ES ((((W2.alloc (.cells #[.int .i64 total, .int .i64 Li] 85)).setCell ⟨D + 2, 0, none⟩ (.int .i64 t)).setCell ⟨D + 5, 0, none⟩ (.int .i64 total)).setCell ⟨D + 5, 1, none⟩ (.int .i64 Li)) D ⟨known, (total, L), total + L, out⟩ ∧
    Mp (pE D) (D + 7) W ((((W2.alloc (.cells #[.int .i64 total, .int .i64 Li] 85)).setCell ⟨D + 2, 0, none⟩ (.int .i64 t)).setCell ⟨D + 5, 0, none⟩ (.int .i64 total)).setCell ⟨D + 5, 1, none⟩ (.int .i64 Li)) ∧
    ∀ k, k < D + 5 → k ≠ D + 2 → ((((W2.alloc (.cells #[.int .i64 total, .int .i64 Li] 85)).setCell ⟨D + 2, 0, none⟩ (.int .i64 t)).setCell ⟨D + 5, 0, none⟩ (.int .i64 total)).setCell ⟨D + 5, 1, none⟩ (.int .i64 Li)).heap[k]? = W2.heap[k]? := by
  subst hL ht
  have h1 := h.below ((Below.refl _ _).alloc (Nat.le_refl _) (.cells #[.int .i64 total, .int .i64 L] 85))
  have hlb := h.lb
  refine ⟨(h1.setTotal (total + L)).setLast total L, ?_, fun k h1 h2 => ?_⟩
  · exact (((hm.trans (Mp.new W2 _ h.lb)).trans (Mp.set _ (D + 2) 0 (by unfold pE; omega) _)).trans (Mp.set _ (D + 5) 0 (by unfold pE; omega) _)).trans (Mp.set _ (D + 5) 1 (by unfold pE; omega) _)
  · rw [Below.heap_setCell _ ⟨D + 5, 1, none⟩ _ k (by show k ≠ D + 5; omega), Below.heap_setCell _ ⟨D + 5, 0, none⟩ _ k (by show k ≠ D + 5; omega), Below.heap_setCell _ ⟨D + 2, 0, none⟩ _ k (by show k ≠ D + 2; omega)]
    exact Below.heap_alloc _ _ _ (by omega)
theorem step_big {d : Ds} {j c L : Nat} {P : List (Nat × Nat)} (h7 : ¬ c = 257) (h6 : ¬ c = 256) (hbig : ¬ 257 + j < c) (hk : kn d j = P) (hL : longOf P c = L) (hb : 65536 < d.total + L) : stepD d j c = some ⟨P, (d.total, L), d.total + L, d.out⟩ := by
  unfold stepD
  rw [if_neg h7, if_neg h6, if_neg hbig, hk, hL, if_pos hb]
theorem step_small {d : Ds} {j c L : Nat} {P : List (Nat × Nat)} (h7 : ¬ c = 257) (h6 : ¬ c = 256) (hbig : ¬ 257 + j < c) (hk : kn d j = P) (hL : longOf P c = L) (hb : ¬ 65536 < d.total + L) (hc : c < 256) : stepD d j c = some ⟨P, (d.total, L), d.total + L, d.out ++ [(c : Int)]⟩ := by
  unfold stepD
  rw [if_neg h7, if_neg h6, if_neg hbig, hk, hL, if_neg hb, if_pos hc]
theorem step_large {d : Ds} {j c L a : Nat} {P : List (Nat × Nat)} (h7 : ¬ c = 257) (h6 : ¬ c = 256) (hbig : ¬ 257 + j < c) (hk : kn d j = P) (hL : longOf P c = L) (hb : ¬ 65536 < d.total + L) (hc : ¬ c < 256) (hp : P[c - 258]? = some (a, L)) : stepD d j c = some ⟨P, (d.total, L), d.total + L, copyN L a d.out⟩ := by
  unfold stepD
  rw [if_neg h7, if_neg h6, if_neg hbig, hk, hL, if_neg hb, if_neg hc, List.getD_eq_getElem?_getD, hp]
  rfl
theorem grown_undrew {W W' : World} {row : Option Nat} (h : W.drew.grownBy W' row) : W.grownBy W' row := ⟨h.os, h.tape, h.output, h.size, h.block⟩
/-- An append of one octet just made, inside a drawing region. -/
theorem appended {W : World} {D : Nat} {known : List (Nat × Nat)} {last : Nat × Nat} {total : Nat} {o0 : List Int} {v : Value} (h : ES W D ⟨known, last, total, o0⟩) (hv : W.heap[D + 1]? = some (.cells #[v] 32 (0, 0))) (x : Int) {L : List Int} (hL : o0 = L) (hl : o0.length ≤ 1000000000) :
    ∃ w3 A6 c6, appOut Try.prog 32 32 v (.slice (some ⟨W.heap.size, 0, none⟩) 1 1) ((W.alloc (.cells #[.int .u8 x] 5)).drew) = .ok (.slice A6 (L.length + 1) c6) w3 ∧
      Aside0 (ES (w3.setCell ⟨D + 1, 0, none⟩ (.slice A6 (L.length + 1) c6)) D ⟨known, last, total, o0 ++ [x]⟩) ∧ Aside0 (Mp (pE D) (D + 7) W (w3.setCell ⟨D + 1, 0, none⟩ (.slice A6 (L.length + 1) c6))) ∧
      w3.cell? ⟨D + 1, 0, none⟩ = some v ∧ w3.frozen? ⟨D + 1, 0, none⟩ = false := by
  subst hL
  obtain ⟨i0, hi, hz0, hz1, hz2⟩ := info_parts info5
  obtain ⟨v', hv', ho⟩ := h.out
  obtain rfl := bx_inj (hv.symm.trans hv')
  have hb : Below W.heap.size W (W.alloc (.cells #[.int .u8 x] 5)).drew := ((Below.refl _ _).alloc (Nat.le_refl _) _).drew
  obtain ⟨v1, w3, hr, h2, h3, _, h5⟩ := run_append_own_at (P := Try.prog) ((W.alloc (.cells #[.int .u8 x] 5)).drew) (D + 7) 32 32 5 i0 (.int .u8 0) 1 1 Try.underlying32 hi hz0 hz1 hz2 rfl (by decide) v o0.length (nums .u8 o0) (pw_own_below ho hb) ⟨W.heap.size, 0, none⟩ 1 1 [.int .u8 x] rfl
    (by intro j u hu; rw [addp]; exact (blk_cell (w := (W.alloc (.cells #[.int .u8 x] 5)).drew) (World.alloc_heap_new W _) j).trans (by simpa using hu)) (by intro u hu; simp at hu; subst hu; rfl) (by simp only [maxLen]; omega) (by omega) (by have := hb.size; have := h.lb; omega)
  obtain ⟨A6, c6, rfl⟩ := own_slice h2
  obtain ⟨e1, e2, e3⟩ := h.addOut hv x _ h2 (grown_undrew h3)
  exact ⟨w3, A6, c6, hr, ⟨e1⟩, ⟨e2⟩, blk_cell e3 0, blk_frozen e3 0⟩
/-- Behind expand. -/
def ExpPost (s : ByteArray) (b : Nat) (w : World) (q : List Int × Nat × Bool × Nat) (e : Ending) (w' : World) : Prop :=
  ∃ v, e = .returned (.tuple #[v, .int .i64 q.2.1, .bool q.2.2.1]) ∧ Own8 w' w.heap.size v q.1 ∧ (q.2.2.1 = true → ∃ j r, w'.heap[b]? = some (rdO s j r) ∧ r.at_ = q.2.2.2) ∧
    w'.os = w.os ∧ w'.tape = w.tape ∧ w'.output = w.output ∧ w.heap.size ≤ w'.heap.size ∧ ∀ i, i < w.heap.size → i ≠ b → w'.heap[i]? = w.heap[i]?
theorem grown_drew (W : World) (row : Option Nat) : W.grownBy W.drew row := G06.grown_drewN W 1 row
theorem sameOut {W : World} {D : Nat} {d : Ds} {v : Value} (h : ES W D d) (hv : W.heap[D + 1]? = some (.cells #[v] 32 (0, 0))) : ES (W.setCell ⟨D + 1, 0, none⟩ v) D d := by
  obtain ⟨⟨u, k1, k2⟩, k3, ⟨x, k4, k5⟩, k6, k7⟩ := h
  obtain rfl := bx_inj (hv.symm.trans k1)
  have q : ∀ k (o : Obj), W.heap[k]? = some o → D + 1 ≠ k → (W.setCell ⟨D + 1, 0, none⟩ v).heap[k]? = some o := fun k o hk hne => (Below.heap_setCell W ⟨D + 1, 0, none⟩ v k (fun e => hne e.symm)).trans hk
  exact ⟨⟨v, (blk_set k1 0 _).trans (by simp), own_setCell (p := ⟨D + 1, 0, none⟩) k2 (by intro e; have := own_base k2 (D + 1) e.symm; omega) v⟩, q _ _ k3 (by omega), ⟨x, q _ _ k4 (by omega), own_setCell (p := ⟨D + 1, 0, none⟩) k5 (by intro e; have := own_base k5 (D + 1) e.symm; omega) v⟩, q _ _ k6 (by omega), by simpa using k7⟩
/-- The way out. -/
theorem finish {s : ByteArray} {D b E : Nat} {w W0 W Z : World} {d : Ds} {v : Value} {okb : Bool} {at_ : Nat} (hD : w.heap.size = D) (hlt : b < D) (hst : Start s D b w W0) (hes : ES W D d) (hv : W.heap[D + 1]? = some (.cells #[v] 32 (0, 0)))
    (hok : W.heap[D + 3]? = some (.cells #[.bool okb] 4 (0, 0))) (hfq : Fq (pX D b) (D + 7) W0 W) (hE : D + 7 ≤ E) (hK : W.heap[E]? = some (.deferred (some []))) (hb : okb = true → ∃ j r, W.heap[b]? = some (rdO s j r) ∧ r.at_ = at_)
    (hZ : Z = (((W.setCell ⟨D + 1, 0, none⟩ v).setCell ⟨D + 2, 0, none⟩ (.int .i64 d.total)).setCell ⟨D + 3, 0, none⟩ (.bool okb)).drew) :
    Z.heap[E]? = some (.deferred (some [])) ∧ (Z.putObj E (.deferred none)).cell? ⟨D + 1, 0, none⟩ = some v ∧ (Z.putObj E (.deferred none)).cell? ⟨D + 2, 0, none⟩ = some (.int .i64 d.total) ∧ (Z.putObj E (.deferred none)).cell? ⟨D + 3, 0, none⟩ = some (.bool okb) ∧
      ExpPost s b w (d.out, d.total, okb, at_) (.returned (.tuple #[v, .int .i64 d.total, .bool okb])) (Z.putObj E (.deferred none)) := by
  have far : ∀ k (o : Obj), W.heap[k]? = some o → k ≠ D + 1 → k ≠ D + 2 → k ≠ D + 3 → Z.heap[k]? = some o := fun k o hk h1 h2 h3 => by
    rw [hZ]
    exact (Below.heap_setCell _ ⟨D + 3, 0, none⟩ _ k h3).trans ((Below.heap_setCell _ ⟨D + 2, 0, none⟩ _ k h2).trans ((Below.heap_setCell _ ⟨D + 1, 0, none⟩ _ k h1).trans hk))
  have zK := far E _ hK (by omega) (by omega) (by omega)
  have zes : ES Z D d := by
    rw [hZ]
    exact (((sameOut hes hv).setTotal d.total).far (D + 3) 0 (by omega) (by omega) (by omega) (by omega) (by omega) (.bool okb)).grown (W' := _) (grown_drew _ none) (fun r e => absurd e (by simp))
  have z3 : Z.heap[D + 3]? = some (.cells #[.bool okb] 4 (0, 0)) := by
    rw [hZ]
    exact (blk_set ((Below.heap_setCell _ ⟨D + 2, 0, none⟩ _ (D + 3) (by show D + 3 ≠ D + 2; omega)).trans ((Below.heap_setCell _ ⟨D + 1, 0, none⟩ _ (D + 3) (by show D + 3 ≠ D + 1; omega)).trans hok)) 0 (.bool okb)).trans (by simp)
  have z1 : Z.heap[D + 1]? = some (.cells #[v] 32 (0, 0)) := by
    obtain ⟨v', k1, k2⟩ := hes.out
    rw [hZ]
    exact (Below.heap_setCell _ ⟨D + 3, 0, none⟩ _ (D + 1) (by show D + 1 ≠ D + 3; omega)).trans ((Below.heap_setCell _ ⟨D + 2, 0, none⟩ _ (D + 1) (by show D + 1 ≠ D + 2; omega)).trans ((blk_set hv 0 v).trans (by simp)))
  have fz : Fq (pX D b) (D + 7) W0 Z := by
    rw [hZ]
    refine (((hfq.mp (Mp.set (p := pX D b) W (D + 1) 0 (by unfold pX; omega) v) (fun _ h => h)).mp (Mp.set (p := pX D b) _ (D + 2) 0 (by unfold pX; omega) (.int .i64 d.total)) (fun _ h => h)).mp (Mp.set (p := pX D b) _ (D + 3) 0 (by unfold pX; omega) (.bool okb)) (fun _ h => h)).grown (by have := hst.size; omega) (grown_drew _ none) (fun r e => absurd e (by simp))
  have put : ∀ k (o : Obj), Z.heap[k]? = some o → k ≠ E → (Z.putObj E (.deferred none)).heap[k]? = some o := fun k o hk hne => (World.putObj_heap_other hne).trans hk
  have pes : ES (Z.putObj E (.deferred none)) D d := zes.grown (grownBy_putObj' Z E _) (fun r e => by cases e; exact ⟨by omega, fun _ => ⟨_, zK, rfl⟩⟩)
  have pf : Fq (pX D b) (D + 7) W0 (Z.putObj E (.deferred none)) := fz.grown (by have := hst.size; omega) (grownBy_putObj' Z E _) (fun r e => by cases e; exact .inr (by omega))
  refine ⟨zK, blk_cell (put _ _ z1 (by omega)) 0, blk_cell (put _ _ zes.total (by omega)) 0, blk_cell (put _ _ z3 (by omega)) 0, v, rfl, ?_, ?_, pf.os.trans hst.below.os, pf.tape.trans hst.below.tape, pf.output.trans hst.below.output, ?_, ?_⟩
  · obtain ⟨v', k1, k2⟩ := pes.out
    obtain rfl := bx_inj ((put _ _ z1 (by omega)).symm.trans k1)
    exact own_weaken k2 (by omega)
  · intro h
    obtain ⟨j, r, h1, h2⟩ := hb h
    exact ⟨j, r, put _ _ (far _ _ h1 (by omega) (by omega) (by omega)) (by omega), h2⟩
  · have := pf.size; have := hst.size; omega
  · intro i hi hne
    exact (pf.block i (by omega) (by unfold pX; omega)).trans (hst.below.block i (by omega))
set_option maxHeartbeats 4000000 in
theorem expand_call (b : Nat) (s : ByteArray) (w : World) (hb : w.heap[b]? = some (rdO s 0 ⟨0, 0, 0⟩)) (hs : s.size ≤ 65536) :
    Calls Try.prog 21 #[.pointer (some ⟨b, 0, none⟩)] w (ExpPost s b w (expandL (bytesOf s))) := by
  have hlt := blk_lt hb
  obtain ⟨D, hD⟩ : ∃ D, w.heap.size = D := ⟨_, rfl⟩
  have HD := Aside0.mk hD
  have HB := Aside0.mk hb
  obtain ⟨R, hR⟩ : ∃ R, expandL (bytesOf s) = R := ⟨_, rfl⟩
  rw [hR]
  have HR := Aside0.mk hR
  rw [hD] at hlt
  clear hD hb hR
  have hmf : ∀ (fn : Fn) (first cap : Array Value) (w : World), (Instr.makeFunc fn first cap).run Try.prog w = .ok (.func fn first cap) w := fun _ _ _ _ => rfl
  refine (callsIn_wide (n := 9)).1 ?_
  refine callsIn_of_wp_marks Try.func21 rfl trivial ?_ rfl
  simp only [Try.ntmps21, List.size_toArray, List.length_cons, List.length_nil, Nat.reduceAdd, Nat.reduceSub, Array.replicate_succ, Array.replicate_zero, List.push_toArray, List.append_toArray, List.nil_append, List.cons_append]
  gi_wp2_with fail
  apply S06.wpIn_scope
  gi_wp2_with fail
  apply wpIn_label
  gi_wp2_with fail
  refine ⟨trivial, callsIn_wide.2 ((codes_call _ _).mono ?_)⟩
  rintro e w1 ⟨rfl, rfl⟩
  gi_wp2_with fail
  have hst := start s D b w HD.out
  simp only [HD.out, Nat.add_assoc, Nat.reduceAdd]
  obtain ⟨W0, hW0⟩ : ∃ W0, (((((((w.alloc (.cells #[.pointer (some ⟨b, 0, none⟩)] 60)).alloc (.cells #[.slice none 0 0] 32)).alloc (.cells #[.int .i64 0] 3)).alloc (.cells #[.bool false] 4)).alloc (.cells #[.slice none 0 0] 83)).alloc (.cells #[.int .i64 0, .int .i64 0] 85)).alloc (.cells #[.pointer (some ⟨b, 0, none⟩)] 60)) = W0 := ⟨_, rfl⟩
  rw [hW0] at hst ⊢
  clear hW0
  have hseq := seq_codes 8 (by decide) (D + 6) b s W0 hst.bx ((hst.below.block b hlt).trans HB.out) (by omega) hs
  refine wpIn_rangeFunc_ownR (n := 9) rfl (by decide) (gf := 41) (lb := #[.pointer (some ⟨D + 6, 0, none⟩)]) rfl trivial (enters_of Try.func41 (by kernel_rfl) rfl) hseq (fun r e => by rw [hst.size, e]; omega) (At_put (by rw [hst.size]; omega)) Kp_t (Kp_b (by rw [hst.size]; omega) (by rw [hst.size]; omega)) (fun _ => rfl) (II s D b W0) (IX s D b W0) (II_own s D b W0 hst.size hlt) (IX_own s D b W0 hst.size hlt) ⟨D0, rfl, hst.es, Fq.refl _ _ _⟩
    ?a1 ?assign ?body ?done ?stop
  case assign =>
    intro l x W K hK
    unfold encI
    gi_wp2
    exact hK
  case body =>
    rintro l pre ⟨j, c, rs⟩ W ⟨d, hgo, hes, hfq⟩ hat hN
    obtain ⟨⟨rest, hrest⟩, p1, x1, hp1, hbx, hj1⟩ := hat
    obtain ⟨rfl, hx1⟩ := List.append_inj' hp1 rfl
    simp only [List.cons.injEq, and_true] at hx1
    subst hx1
    simp only at hbx hj1
    have hdi : DI pre.length d j := by
      have := items_DI _ (bytesOf s) 0 0 ⟨0, 0, 0⟩ D0 d pre rest ⟨j, c, rs⟩ (by rw [List.append_assoc] at hrest; exact hrest) DI_start (by omega) hgo
      rwa [Nat.zero_add] at this
    have hcb : c < 4096 ∧ rs.at_ ≤ (bytesOf s).length ∧ rs.bits < 256 := items_code _ (bytesOf s) 0 ⟨0, 0, 0⟩ (bytesOf_range s) ⟨by decide, by decide, Nat.zero_le _⟩ ⟨j, c, rs⟩ (by have : allIt (bytesOf s) = items ((bytesOf s).length + 1) (bytesOf s) 0 ⟨0, 0, 0⟩ := rfl; rw [← this, ← hrest]; simp)
    obtain ⟨hc12, _, hbits⟩ := hcb
    have hj2 : j ≤ 65540 := by omega
    have hcr : W.cell? ⟨D, 0, none⟩ = some (.pointer (some ⟨b, 0, none⟩)) := blk_cell ((hfq.block D (by omega) (by unfold pB; omega)).trans hst.r) 0
    have HST := Aside0.mk hst
    have HFQ := Aside0.mk hfq
    have HGO := Aside0.mk hgo
    have HES := Aside0.mk hes
    have HDI := Aside0.mk hdi
    have HBX := Aside0.mk hbx
    have HN := Aside0.mk hN
    have HJ := Aside0.mk hj1
    clear hst hfq hgo hes hdi hbx hseq hrest hp1 hN hj1
    by_cases h7 : c = 257
    · subst h7
      have hb3 : W.cell? ⟨b, 3, none⟩ = some (.int .u64 rs.bits) := (blk_cell HBX.out 3).trans (by simp)
      have ho3 := (HFQ.out.block (D + 3) (by omega) (by unfold pB; omega)).trans HST.out.ok
      have c3 : W.cell? ⟨D + 3, 0, none⟩ = some (.bool false) := blk_cell ho3 0
      have f3 := blk_frozen ho3 0
      have HO3 := Aside0.mk ho3
      clear ho3
      gi_wp2_with fail
      refine close_exit hlt HGO.out (by simp [stepD]) (HES.out.far (D + 3) 0 (by omega) (by omega) (by omega) (by omega) (by omega) _) HFQ.out (Mp.set (p := (· = D + 3)) W (D + 3) 0 rfl _) ?_ ((Below.heap_setCell W ⟨D + 3, 0, none⟩ _ b (by show b ≠ D + 3; omega)).trans HBX.out) _
      refine (blk_set HO3.out 0 _).trans ?_
      have : ((rs.bits : Int) == 0) = (rs.bits == 0) := by rw [Bool.eq_iff_iff]; simp
      simp [this]
    · have t7 : ((c : Int) == 257) = false := by simp; omega
      by_cases h6 : c = 256
      · subst h6
        obtain ⟨v4, hk4, _⟩ := HES.out.known
        have c4 : W.cell? ⟨D + 4, 0, none⟩ = some v4 := blk_cell hk4 0
        have f4 := blk_frozen hk4 0
        clear hk4
        gi_wp2_with fail
        exact close_normal hlt HGO.out (by simp [stepD]) HES.out.noKnown HFQ.out (Mp.set W (D + 4) 0 (by unfold pE; omega) _) _
      · have t6 : ((c : Int) == 256) = false := by simp; omega
        by_cases hbig : 257 + j < c
        · have tb : decide (257 + (j : Int) < (c : Int)) = true := decide_eq_true (by omega)
          have ho3 := (HFQ.out.block (D + 3) (by omega) (by unfold pB; omega)).trans HST.out.ok
          gi_wp2_with fail
          refine close_exit hlt HGO.out (by unfold stepD; rw [if_neg h7, if_neg h6, if_pos hbig]) HES.out HFQ.out (Mp.refl _ _ _) (ho3.trans ?_) HBX.out _
          simp [h7]
        · have tb : decide (257 + (j : Int) < (c : Int)) = false := decide_eq_false (by omega)
          obtain ⟨v4, hk4, ho4⟩ := HES.out.known
          obtain ⟨A4, c4', rfl⟩ := own_slice ho4
          have c4 : W.cell? ⟨D + 4, 0, none⟩ = some (.slice A4 d.known.length c4') := blk_cell hk4 0
          have f4 := blk_frozen hk4 0
          have c50 : W.cell? ⟨D + 5, 0, none⟩ = some (.int .i64 d.last.1) := (blk_cell HES.out.last 0).trans (by simp)
          have c51 : W.cell? ⟨D + 5, 1, none⟩ = some (.int .i64 d.last.2) := (blk_cell HES.out.last 1).trans (by simp)
          have hl2 : (d.last.2 : Int) ≤ 70000 := by have := HDI.out.last; have := HN.out; omega
          have htot : (d.total : Int) ≤ 9000000000 := by have := HDI.out.tot; have := HN.out; omega
          have HK4 := Aside0.mk hk4
          have HO4 := Aside0.mk ho4
          clear hk4 ho4
          by_cases hj0 : 0 < j
          · have tj : decide ((0 : Int) < (j : Int)) = true := decide_eq_true (by omega)
            have HKL : Aside0 (d.known.length + 1 = j) := ⟨by have := HDI.out.len; unfold kn at this; rw [if_pos hj0, List.length_append] at this; exact this⟩
            obtain ⟨P, hP⟩ : ∃ P, d.known ++ [(d.last.1, d.last.2 + 1)] = P := ⟨_, rfl⟩
            have HP := Aside0.mk hP
            clear hP
            have HKN : Aside0 (kn d j = P) := ⟨by unfold kn; rw [if_pos hj0]; exact HP.out⟩
            by_cases h256 : c < 256
            · have HLG : Aside0 (longOf P c = 1) := ⟨by unfold longOf; rw [if_neg (by omega)]⟩
              by_cases hbt : 65536 < d.total + 1
              · skip
                have t256 : decide ((256 : Int) < (c : Int)) = false := decide_eq_false (by omega)
                have tl : decide ((c : Int) < 256) = true := decide_eq_true (by omega)
                have tt : decide ((65536 : Int) < (d.total : Int) + 1) = true := decide_eq_true (by omega)
                gi_wp2_with (with_reducible refine brkB (b := .append) (xs := #[.tmp 34, .tmp 41]) rfl ?_)
                refine ⟨?_⟩
                refine append_part_in (D + 7) rfl (.tmp 34) (.tmp 41) rfl (.slice A4 d.known.length c4') d.known (d.last.1, d.last.2 + 1) W.heap.size 1 rfl rfl (HO4.out.alloc _) ?hg ?hb ?hl ?_
                case hg => simpa using World.alloc_heap_new W (.cells #[.int .i64 d.last.1, .int .i64 ((d.last.2 : Int) + 1)] 85)
                case hb => simp; have := HES.out.lb; omega
                case hl => have := HKL.out; omega
                intro v1 w1 ho1 hg1 hat1
                obtain ⟨A1, c1, rfl⟩ := own_slice ho1
                obtain ⟨hes1, hmp1, he4⟩ := HES.out.addKnown HK4.out (d.last.1, d.last.2 + 1) _ ho1 hg1 hat1
                rw [HP.out] at hes1
                have HES1 := Aside0.mk hes1
                have HMP1 := Aside0.mk hmp1
                have c4 := blk_cell he4 0
                have f4 := blk_frozen he4 0
                clear ho1 hg1 hat1 hes1 hmp1 he4
                refine store_in (.tmp 5) (.tmp 42) 83 (fun _ => by kernel_rfl) (D + 4) 0 rfl A1 _ c1 rfl _ c4 f4 ?_
                obtain ⟨W2, hW2⟩ : ∃ W2, w1.setCell ⟨D + 4, 0, none⟩ (.slice A1 (d.known.length + 1) c1) = W2 := ⟨_, rfl⟩
                rw [hW2] at HES1 HMP1 ⊢
                clear hW2 c4 f4 c50 c51
                have c2 := blk_cell HES1.out.total 0
                have n2 : D + 2 ≠ W2.heap.size := (by have := HES1.out.lb; omega)
                have n5 : D + 5 ≠ W2.heap.size := (by have := HES1.out.lb; omega)
                have n2' := n2.symm
                have n5' := n5.symm
                have g2 := al2 HES1.out.total HES1.out.lb
                have g50 := al5 HES1.out.last HES1.out.lb
                gi_wp2_with fail
                obtain ⟨hes5, hmp5, _⟩ := fin HES1.out HMP1.out 1 1 rfl ((d.total : Int) + 1) rfl
                exact close_normal hlt HGO.out (step_big h7 h6 hbig HKN.out HLG.out hbt) hes5 HFQ.out hmp5 _
              · skip
                have t256 : decide ((256 : Int) < (c : Int)) = false := decide_eq_false (by omega)
                have tl : decide ((c : Int) < 256) = true := decide_eq_true (by omega)
                have tt : decide ((65536 : Int) < (d.total : Int) + 1) = false := decide_eq_false (by omega)
                gi_wp2_with (with_reducible refine brkB (b := .append) (xs := #[.tmp 34, .tmp 41]) rfl ?_)
                refine ⟨?_⟩
                refine append_part_in (D + 7) rfl (.tmp 34) (.tmp 41) rfl (.slice A4 d.known.length c4') d.known (d.last.1, d.last.2 + 1) W.heap.size 1 rfl rfl (HO4.out.alloc _) ?hg ?hb ?hl ?_
                case hg => simpa using World.alloc_heap_new W (.cells #[.int .i64 d.last.1, .int .i64 ((d.last.2 : Int) + 1)] 85)
                case hb => simp; have := HES.out.lb; omega
                case hl => have := HKL.out; omega
                intro v1 w1 ho1 hg1 hat1
                obtain ⟨A1, c1, rfl⟩ := own_slice ho1
                obtain ⟨hes1, hmp1, he4⟩ := HES.out.addKnown HK4.out (d.last.1, d.last.2 + 1) _ ho1 hg1 hat1
                rw [HP.out] at hes1
                have HES1 := Aside0.mk hes1
                have HMP1 := Aside0.mk hmp1
                have c4 := blk_cell he4 0
                have f4 := blk_frozen he4 0
                clear ho1 hg1 hat1 hes1 hmp1 he4
                refine store_in (.tmp 5) (.tmp 42) 83 (fun _ => by kernel_rfl) (D + 4) 0 rfl A1 _ c1 rfl _ c4 f4 ?_
                obtain ⟨W2, hW2⟩ : ∃ W2, w1.setCell ⟨D + 4, 0, none⟩ (.slice A1 (d.known.length + 1) c1) = W2 := ⟨_, rfl⟩
                rw [hW2] at HES1 HMP1 ⊢
                clear hW2 c4 f4 c50 c51
                have c2 := blk_cell HES1.out.total 0
                have n2 : D + 2 ≠ W2.heap.size := (by have := HES1.out.lb; omega)
                have n5 : D + 5 ≠ W2.heap.size := (by have := HES1.out.lb; omega)
                have n2' := n2.symm
                have n5' := n5.symm
                have g2 := al2 HES1.out.total HES1.out.lb
                have g50 := al5 HES1.out.last HES1.out.lb
                obtain ⟨vo, hvo, ho8⟩ := HES1.out.out
                obtain ⟨Ao, co, rfl⟩ := own_slice ho8
                have g1 := al1 hvo HES1.out.lb
                have HVO := Aside0.mk hvo
                have HO8 := Aside0.mk ho8
                clear hvo ho8
                gi_wp2_with (with_reducible refine brkB (b := .append) (xs := #[.tmp 63, .tmp 66]) rfl ?_)
                refine ⟨?_⟩
                obtain ⟨hes5, hmp5, hk5⟩ := fin HES1.out HMP1.out 1 1 rfl ((d.total : Int) + 1) rfl
                obtain ⟨W5, hW5⟩ : ∃ W5, (((W2.alloc (.cells #[.int .i64 d.total, .int .i64 1] 85)).setCell ⟨D + 2, 0, none⟩ (.int .i64 ((d.total : Int) + 1))).setCell ⟨D + 5, 0, none⟩ (.int .i64 d.total)).setCell ⟨D + 5, 1, none⟩ (.int .i64 1) = W5 := ⟨_, rfl⟩
                have hz5 : W5.heap.size = W2.heap.size + 1 := by rw [← hW5]; simp
                rw [hW5] at hes5 hmp5 hk5 ⊢
                clear hW5
                obtain ⟨v5, hv5, ho5⟩ := hes5.out
                have hv5' := (hk5 (D + 1) (by omega) (by omega)).trans HVO.out
                have he5 := hv5.symm.trans hv5'
                obtain rfl := bx_inj he5
                refine append_octet_in (D + 7) rfl (.tmp 63) (.tmp 66) rfl (.slice Ao d.out.length co) d.out c (W2.heap.size + 1) 1 rfl rfl (ho5.alloc _) (by rw [← hz5]; exact World.alloc_heap_new W5 _) ?hb2 ?hl2 ?_
                case hb2 => simp; have := hes5.lb; omega
                case hl2 => have := HDI.out.outle; omega
                intro v6 w6 ho6 hg6
                obtain ⟨A6, c6, rfl⟩ := own_slice ho6
                obtain ⟨hes6, hmp6, he6⟩ := hes5.addOut hv5 (c : Int) _ ho6 hg6
                have HES6 := Aside0.mk hes6
                have HMP6 := Aside0.mk (hmp5.trans hmp6)
                have c6x := blk_cell he6 0
                have f6x := blk_frozen he6 0
                clear ho6 hg6 hes6 hmp6 he6 hes5 hmp5 hk5 hv5 ho5 hv5' he5
                gi_wp2_with fail
                exact close_normal hlt HGO.out (step_small h7 h6 hbig HKN.out HLG.out hbt h256) HES6.out HFQ.out HMP6.out _
            · obtain ⟨k, rfl⟩ : ∃ k, c = k + 258 := ⟨c - 258, by omega⟩
              have hPl : P.length = j := by rw [← HKN.out]; exact HDI.out.len
              obtain ⟨⟨a, n⟩, hPk⟩ : ∃ q, P[k]? = some q := ⟨_, List.getElem?_eq_getElem (by omega)⟩
              have hpb := HDI.out.parts (a, n) (by rw [HKN.out]; exact List.mem_of_getElem? hPk)
              simp only at hpb
              have HLG : Aside0 (longOf P (k + 258) = n) := ⟨by unfold longOf; rw [if_pos (by omega), Nat.add_sub_cancel, List.getD_eq_getElem?_getD, hPk]; rfl⟩
              have hk0 : (0 : Int) ≤ (k : Int) := Int.natCast_nonneg _
              have hk1 : (k : Int) < (P.length : Int) := by omega
              have hnb : (n : Int) ≤ 70000 := by have := HN.out; omega
              have HPK := Aside0.mk hPk
              have HPL := Aside0.mk hPl
              clear hPk hPl
              by_cases hbt : 65536 < d.total + n
              · skip
                have t256 : decide ((256 : Int) < (k : Int) + 258) = true := decide_eq_true (by omega)
                have tl : decide ((k : Int) + 258 < 256) = false := decide_eq_false (by omega)
                have tt : decide ((65536 : Int) < (d.total : Int) + (n : Int)) = true := decide_eq_true (by omega)
                gi_wp2_with (with_reducible refine brkB (b := .append) (xs := #[.tmp 34, .tmp 41]) rfl ?_)
                refine ⟨?_⟩
                refine append_part_in (D + 7) rfl (.tmp 34) (.tmp 41) rfl (.slice A4 d.known.length c4') d.known (d.last.1, d.last.2 + 1) W.heap.size 1 rfl rfl (HO4.out.alloc _) ?hg ?hb ?hl ?_
                case hg => simpa using World.alloc_heap_new W (.cells #[.int .i64 d.last.1, .int .i64 ((d.last.2 : Int) + 1)] 85)
                case hb => simp; have := HES.out.lb; omega
                case hl => have := HKL.out; omega
                intro v1 w1 ho1 hg1 hat1
                obtain ⟨A1, c1, rfl⟩ := own_slice ho1
                obtain ⟨hes1, hmp1, he4⟩ := HES.out.addKnown HK4.out (d.last.1, d.last.2 + 1) _ ho1 hg1 hat1
                rw [HP.out] at hes1
                have HES1 := Aside0.mk hes1
                have HMP1 := Aside0.mk hmp1
                have c4 := blk_cell he4 0
                have f4 := blk_frozen he4 0
                clear ho1 hg1 hat1 hes1 hmp1 he4
                refine store_in (.tmp 5) (.tmp 42) 83 (fun _ => by kernel_rfl) (D + 4) 0 rfl A1 _ c1 rfl _ c4 f4 ?_
                obtain ⟨W2, hW2⟩ : ∃ W2, w1.setCell ⟨D + 4, 0, none⟩ (.slice A1 (d.known.length + 1) c1) = W2 := ⟨_, rfl⟩
                rw [hW2] at HES1 HMP1 ⊢
                clear hW2 c4 f4 c50 c51
                have c2 := blk_cell HES1.out.total 0
                have n2 : D + 2 ≠ W2.heap.size := (by have := HES1.out.lb; omega)
                have n5 : D + 5 ≠ W2.heap.size := (by have := HES1.out.lb; omega)
                have n2' := n2.symm
                have n5' := n5.symm
                have g2 := al2 HES1.out.total HES1.out.lb
                have g50 := al5 HES1.out.last HES1.out.lb
                obtain ⟨v4n, hk4n, ho4n⟩ := HES1.out.known
                obtain ⟨gb, cp, rfl, hgb, hca, hcn⟩ := part_cells ho4n HPK.out
                have g4 := al4 hk4n HES1.out.lb
                have gn := alc hcn
                have HCA := Aside0.mk hca
                clear hca hcn hgb ho4n hk4n
                gi_wp2_with fail
                obtain ⟨hes5, hmp5, _⟩ := fin HES1.out HMP1.out n (n : Int) rfl ((d.total : Int) + (n : Int)) rfl
                exact close_normal hlt HGO.out (step_big h7 h6 hbig HKN.out HLG.out hbt) hes5 HFQ.out hmp5 _
              · skip
                have t256 : decide ((256 : Int) < (k : Int) + 258) = true := decide_eq_true (by omega)
                have tl : decide ((k : Int) + 258 < 256) = false := decide_eq_false (by omega)
                have tt : decide ((65536 : Int) < (d.total : Int) + (n : Int)) = false := decide_eq_false (by omega)
                gi_wp2_with (with_reducible refine brkB (b := .append) (xs := #[.tmp 34, .tmp 41]) rfl ?_)
                refine ⟨?_⟩
                refine append_part_in (D + 7) rfl (.tmp 34) (.tmp 41) rfl (.slice A4 d.known.length c4') d.known (d.last.1, d.last.2 + 1) W.heap.size 1 rfl rfl (HO4.out.alloc _) ?hg ?hb ?hl ?_
                case hg => simpa using World.alloc_heap_new W (.cells #[.int .i64 d.last.1, .int .i64 ((d.last.2 : Int) + 1)] 85)
                case hb => simp; have := HES.out.lb; omega
                case hl => have := HKL.out; omega
                intro v1 w1 ho1 hg1 hat1
                obtain ⟨A1, c1, rfl⟩ := own_slice ho1
                obtain ⟨hes1, hmp1, he4⟩ := HES.out.addKnown HK4.out (d.last.1, d.last.2 + 1) _ ho1 hg1 hat1
                rw [HP.out] at hes1
                have HES1 := Aside0.mk hes1
                have HMP1 := Aside0.mk hmp1
                have c4 := blk_cell he4 0
                have f4 := blk_frozen he4 0
                clear ho1 hg1 hat1 hes1 hmp1 he4
                refine store_in (.tmp 5) (.tmp 42) 83 (fun _ => by kernel_rfl) (D + 4) 0 rfl A1 _ c1 rfl _ c4 f4 ?_
                obtain ⟨W2, hW2⟩ : ∃ W2, w1.setCell ⟨D + 4, 0, none⟩ (.slice A1 (d.known.length + 1) c1) = W2 := ⟨_, rfl⟩
                rw [hW2] at HES1 HMP1 ⊢
                clear hW2 c4 f4 c50 c51
                have c2 := blk_cell HES1.out.total 0
                have n2 : D + 2 ≠ W2.heap.size := (by have := HES1.out.lb; omega)
                have n5 : D + 5 ≠ W2.heap.size := (by have := HES1.out.lb; omega)
                have n2' := n2.symm
                have n5' := n5.symm
                have g2 := al2 HES1.out.total HES1.out.lb
                have g50 := al5 HES1.out.last HES1.out.lb
                obtain ⟨v4n, hk4n, ho4n⟩ := HES1.out.known
                obtain ⟨gb, cp, rfl, hgb, hca, hcn⟩ := part_cells ho4n HPK.out
                have g4 := al4 hk4n HES1.out.lb
                have gn := alc hcn
                have HCA := Aside0.mk hca
                clear hca hcn hgb ho4n hk4n
                gi_wp2_with fail
                obtain ⟨hes5, hmp5, hk5⟩ := fin HES1.out HMP1.out n (n : Int) rfl ((d.total : Int) + (n : Int)) (by simp)
                obtain ⟨W5, hW5⟩ : ∃ W5, (((W2.alloc (.cells #[.int .i64 d.total, .int .i64 n] 85)).setCell ⟨D + 2, 0, none⟩ (.int .i64 ((d.total : Int) + (n : Int)))).setCell ⟨D + 5, 0, none⟩ (.int .i64 d.total)).setCell ⟨D + 5, 1, none⟩ (.int .i64 n) = W5 := ⟨_, rfl⟩
                rw [hW5] at hes5 hmp5 hk5 ⊢
                have HES5 := Aside0.mk hes5
                have HMP5 := Aside0.mk hmp5
                have hol : d.out.length = d.total := HDI.out.out (by omega)
                have HPB := Aside0.mk hpb
                clear hW5 hes5 hmp5 hk5 c2 g2 g50 g4 gn n2 n2' n5 n5' HCA hpb
                gi_loopw [10, 70] (fun v10 v70 wr => ∃ m : Nat, v70 = .int .i64 m ∧ m ≤ n ∧ Aside0 (ES wr D ⟨P, (d.total, n), d.total + n, copyN m a d.out⟩) ∧ Aside0 (Mp (pE D) (D + 7) W wr)) (fun v10 v70 _ => n - (intOf v70).toNat)
                case atStart => exact ⟨0, rfl, Nat.zero_le _, HES5, HMP5⟩
                case round =>
                  obtain ⟨m, rfl, hm, HE, HM⟩ := hrel
                  by_cases hmn : m < n
                  · have tm : decide ((m : Int) < (n : Int)) = true := decide_eq_true (by omega)
                    obtain ⟨vo, hvo, ho8⟩ := HE.out.out
                    obtain ⟨L, hL⟩ : ∃ L, copyN m a d.out = L := ⟨_, rfl⟩
                    simp only [hL] at ho8
                    have hLl : L.length = d.total + m := by rw [← hL, copyN_len, hol]
                    obtain ⟨go, co, rfl, hgo, hoc⟩ := own8_cells ho8 (k := a + m) (by have := HPB.out; omega)
                    obtain ⟨v4, hv4, ho4⟩ := HE.out.known
                    obtain ⟨gb, cp, rfl, hgb, hca, hcn⟩ := part_cells ho4 HPK.out
                    obtain ⟨x, hx⟩ : ∃ x, L.getD (a + m) 0 = x := ⟨_, rfl⟩
                    rw [hx] at hoc
                    have q1 : wr.cell? ⟨D + 1, 0, none⟩ = some (.slice (some ⟨go, 0, none⟩) L.length co) := blk_cell hvo 0
                    have q4 : wr.cell? ⟨D + 4, 0, none⟩ = some (.slice (some ⟨gb, 0, none⟩) P.length cp) := blk_cell hv4 0
                    have qa := (al1 hvo HE.out.lb (.cells #[.int .u8 x] 5)).1
                    have hwk : IntKind.i64.wrap (k : Int) = (k : Int) := IntWalk.i64_in _ (by have := HPL.out; omega)
                    have hwm : IntKind.i64.wrap ((a : Int) + (m : Int)) = (a : Int) + (m : Int) := IntWalk.i64_in _ (by have := HPB.out; omega)
                    have hwn : ((a : Int) + (m : Int)).toNat = a + m := by omega
                    have hb0 : (0 : Int) ≤ (a : Int) + (m : Int) := by omega
                    have hb1 : (a : Int) + (m : Int) < (L.length : Int) := by have := HPB.out; omega
                    have hmix : Try.prog.follows .mixedOrders = true := by kernel_rfl
                    obtain ⟨w3, A6, c6, hrun', HES6, HMP6, qs, qf⟩ := appended HE.out hvo x hL (by rw [hL]; omega)
                    have HX := Aside0.mk hx
                    have HL := Aside0.mk hL
                    have HLL := Aside0.mk hLl
                    clear hvo ho8 hv4 ho4 hcn hgo hgb hx hL hLl
                    gi_wp2_with fail
                    refine wpIn_region_any (by assumption) ?_
                    try (change wpAnyIn _ _ _ _ _ _ _ _ _ (World.drew _))
                    refine wpAnyIn_ready (rs := [0, 1, 2, 3, 8]) (by kernel_rfl) (by simp) ?rgh1
                    refine rgCons ?arg100000000000000 ?wrg100000000000000 #[true, false, false, false, false, false, false, false, false, false, false, false, false, false, false] rfl (by kernel_rfl) (fun K hK => ?rgs2) ?rgh3 ?rg100000000000000
                    case rgs2 => (go_simp; exact hK)
                    refine rgCons ?arg010000000000000 ?wrg010000000000000 #[false, true, false, false, false, false, false, false, false, false, false, false, false, false, false] rfl (by kernel_rfl) (fun K hK => ?rgs4) ?rgh5 ?rg010000000000000
                    case rgs4 => (go_simp; exact hK)
                    refine rgCons ?arg001000000000000 ?wrg001000000000000 #[false, false, true, false, false, false, false, false, false, false, false, false, false, false, false] rfl (by kernel_rfl) (fun K hK => ?rgs6) ?rgh7 ?rg001000000000000
                    case rgs6 => (go_simp; exact hK)
                    refine rgCons ?arg000100000000000 ?wrg000100000000000 #[false, false, false, true, false, false, false, false, false, false, false, false, false, false, false] rfl (by kernel_rfl) (fun K hK => ?rgs8) ?rgh9 ?rg000100000000000
                    case rgs8 => (go_simp; exact hK)
                    refine rgCons ?arg000000001000000 ?wrg000000001000000 #[false, false, false, false, false, false, false, false, true, false, false, false, false, false, false] rfl (by kernel_rfl) (fun K hK => ?rgs10) ?rgh11 ?rg000000001000000
                    case rgs10 => (go_simp; exact hK)
                    exact AllReadyIn.nil
                    refine wpAnyIn_ready (rs := [0, 1, 2, 3]) (by kernel_rfl) (by simp) ?rgh12
                    refine rgCons ?arg100000001000000 ?wrg100000001000000 #[true, false, false, false, false, false, false, false, true, false, false, false, false, false, false] rfl (by kernel_rfl) (fun K hK => ?rgs13) ?rgh14 ?rg100000001000000
                    case rgs13 => (go_simp; exact hK)
                    refine rgCons ?arg010000001000000 ?wrg010000001000000 #[false, true, false, false, false, false, false, false, true, false, false, false, false, false, false] rfl (by kernel_rfl) (fun K hK => ?rgs15) ?rgh16 ?rg010000001000000
                    case rgs15 => (go_simp; exact hK)
                    refine rgCons ?arg001000001000000 ?wrg001000001000000 #[false, false, true, false, false, false, false, false, true, false, false, false, false, false, false] rfl (by kernel_rfl) (fun K hK => ?rgs17) ?rgh18 ?rg001000001000000
                    case rgs17 => (go_simp; exact hK)
                    refine rgCons ?arg000100001000000 ?wrg000100001000000 #[false, false, false, true, false, false, false, false, true, false, false, false, false, false, false] rfl (by kernel_rfl) (fun K hK => ?rgs19) ?rgh20 ?rg000100001000000
                    case rgs19 => (go_simp; exact hK)
                    exact AllReadyIn.nil
                    refine wpAnyIn_ready (rs := [0, 1, 2, 4]) (by kernel_rfl) (by simp) ?rgh21
                    refine rgCons ?arg100100001000000 ?wrg100100001000000 #[true, false, false, true, false, false, false, false, true, false, false, false, false, false, false] rfl (by kernel_rfl) (fun K hK => ?rgs22) ?rgh23 ?rg100100001000000
                    case rgs22 => (go_simp; exact hK)
                    refine rgCons ?arg010100001000000 ?wrg010100001000000 #[false, true, false, true, false, false, false, false, true, false, false, false, false, false, false] rfl (by kernel_rfl) (fun K hK => ?rgs24) ?rgh25 ?rg010100001000000
                    case rgs24 => (go_simp; exact hK)
                    refine rgCons ?arg001100001000000 ?wrg001100001000000 #[false, false, true, true, false, false, false, false, true, false, false, false, false, false, false] rfl (by kernel_rfl) (fun K hK => ?rgs26) ?rgh27 ?rg001100001000000
                    case rgs26 => (go_simp; exact hK)
                    refine rgCons ?arg000110001000000 ?wrg000110001000000 #[false, false, false, true, true, false, false, false, true, false, false, false, false, false, false] rfl (by kernel_rfl) (fun K hK => ?rgs28) ?rgh29 ?rg000110001000000
                    case rgs28 => (go_simp; exact hK)
                    exact AllReadyIn.nil
                    refine wpAnyIn_ready (rs := [0, 1, 2]) (by kernel_rfl) (by simp) ?rgh30
                    refine rgCons ?arg100110001000000 ?wrg100110001000000 #[true, false, false, true, true, false, false, false, true, false, false, false, false, false, false] rfl (by kernel_rfl) (fun K hK => ?rgs31) ?rgh32 ?rg100110001000000
                    case rgs31 => (go_simp; exact hK)
                    refine rgCons ?arg010110001000000 ?wrg010110001000000 #[false, true, false, true, true, false, false, false, true, false, false, false, false, false, false] rfl (by kernel_rfl) (fun K hK => ?rgs33) ?rgh34 ?rg010110001000000
                    case rgs33 => (go_simp; exact hK)
                    refine rgCons ?arg001110001000000 ?wrg001110001000000 #[false, false, true, true, true, false, false, false, true, false, false, false, false, false, false] rfl (by kernel_rfl) (fun K hK => ?rgs35) ?rgh36 ?rg001110001000000
                    case rgs35 => (go_simp; exact hK)
                    exact AllReadyIn.nil
                    refine wpAnyIn_ready (rs := [0, 1, 5]) (by kernel_rfl) (by simp) ?rgh37
                    refine rgCons ?arg101110001000000 ?wrg101110001000000 #[true, false, true, true, true, false, false, false, true, false, false, false, false, false, false] rfl (by kernel_rfl) (fun K hK => ?rgs38) ?rgh39 ?rg101110001000000
                    case rgs38 => (go_simp; exact hK)
                    refine rgCons ?arg011110001000000 ?wrg011110001000000 #[false, true, true, true, true, false, false, false, true, false, false, false, false, false, false] rfl (by kernel_rfl) (fun K hK => ?rgs40) ?rgh41 ?rg011110001000000
                    case rgs40 => (go_simp; exact hK)
                    refine rgCons ?arg001111001000000 ?wrg001111001000000 #[false, false, true, true, true, true, false, false, true, false, false, false, false, false, false] rfl (by kernel_rfl) (fun K hK => ?rgs42) ?rgh43 ?rg001111001000000
                    case rgs42 => (go_simp; exact hK)
                    exact AllReadyIn.nil
                    refine wpAnyIn_ready (rs := [0, 1, 6]) (by kernel_rfl) (by simp) ?rgh44
                    refine rgCons ?arg101111001000000 ?wrg101111001000000 #[true, false, true, true, true, true, false, false, true, false, false, false, false, false, false] rfl (by kernel_rfl) (fun K hK => ?rgs45) ?rgh46 ?rg101111001000000
                    case rgs45 => (go_simp; exact hK)
                    refine rgCons ?arg011111001000000 ?wrg011111001000000 #[false, true, true, true, true, true, false, false, true, false, false, false, false, false, false] rfl (by kernel_rfl) (fun K hK => ?rgs47) ?rgh48 ?rg011111001000000
                    case rgs47 => (go_simp; exact hK)
                    refine rgCons ?arg001111101000000 ?wrg001111101000000 #[false, false, true, true, true, true, true, false, true, false, false, false, false, false, false] rfl (by kernel_rfl) (fun K hK => ?rgs49) ?rgh50 ?rg001111101000000
                    case rgs49 => (go_simp; exact hK)
                    exact AllReadyIn.nil
                    refine wpAnyIn_ready (rs := [0, 1, 7]) (by kernel_rfl) (by simp) ?rgh51
                    refine rgCons ?arg101111101000000 ?wrg101111101000000 #[true, false, true, true, true, true, true, false, true, false, false, false, false, false, false] rfl (by kernel_rfl) (fun K hK => ?rgs52) ?rgh53 ?rg101111101000000
                    case rgs52 => (go_simp; exact hK)
                    refine rgCons ?arg011111101000000 ?wrg011111101000000 #[false, true, true, true, true, true, true, false, true, false, false, false, false, false, false] rfl (by kernel_rfl) (fun K hK => ?rgs54) ?rgh55 ?rg011111101000000
                    case rgs54 => (go_simp; exact hK)
                    refine rgCons ?arg001111111000000 ?wrg001111111000000 #[false, false, true, true, true, true, true, true, true, false, false, false, false, false, false] rfl (by kernel_rfl) (fun K hK => ?rgs56) ?rgh57 ?rg001111111000000
                    case rgs56 => (go_simp; exact hK)
                    exact AllReadyIn.nil
                    refine wpAnyIn_ready (rs := [0, 1, 9]) (by kernel_rfl) (by simp) ?rgh58
                    refine rgCons ?arg101111111000000 ?wrg101111111000000 #[true, false, true, true, true, true, true, true, true, false, false, false, false, false, false] rfl (by kernel_rfl) (fun K hK => ?rgs59) ?rgh60 ?rg101111111000000
                    case rgs59 => (go_simp; exact hK)
                    refine rgCons ?arg011111111000000 ?wrg011111111000000 #[false, true, true, true, true, true, true, true, true, false, false, false, false, false, false] rfl (by kernel_rfl) (fun K hK => ?rgs61) ?rgh62 ?rg011111111000000
                    case rgs61 => (go_simp; exact hK)
                    refine rgCons ?arg001111111100000 ?wrg001111111100000 #[false, false, true, true, true, true, true, true, true, true, false, false, false, false, false] rfl (by kernel_rfl) (fun K hK => ?rgs63) ?rgh64 ?rg001111111100000
                    case rgs63 => (go_simp; exact hK)
                    exact AllReadyIn.nil
                    refine wpAnyIn_ready (rs := [0, 1]) (by kernel_rfl) (by simp) ?rgh65
                    refine rgCons ?arg101111111100000 ?wrg101111111100000 #[true, false, true, true, true, true, true, true, true, true, false, false, false, false, false] rfl (by kernel_rfl) (fun K hK => ?rgs66) ?rgh67 ?rg101111111100000
                    case rgs66 => (go_simp; exact hK)
                    refine rgCons ?arg011111111100000 ?wrg011111111100000 #[false, true, true, true, true, true, true, true, true, true, false, false, false, false, false] rfl (by kernel_rfl) (fun K hK => ?rgs68) ?rgh69 ?rg011111111100000
                    case rgs68 => (go_simp; exact hK)
                    exact AllReadyIn.nil
                    refine wpAnyIn_ready (rs := [0, 10]) (by kernel_rfl) (by simp) ?rgh70
                    refine rgCons ?arg111111111100000 ?wrg111111111100000 #[true, true, true, true, true, true, true, true, true, true, false, false, false, false, false] rfl (by kernel_rfl) (fun K hK => ?rgs71) ?rgh72 ?rg111111111100000
                    case rgs71 => (go_simp; exact hK)
                    refine rgCons ?arg011111111110000 ?wrg011111111110000 #[false, true, true, true, true, true, true, true, true, true, true, false, false, false, false] rfl (by kernel_rfl) (fun K hK => ?rgs73) ?rgh74 ?rg011111111110000
                    case rgs73 => (go_simp; exact hK)
                    exact AllReadyIn.nil
                    refine wpAnyIn_ready (rs := [0, 11]) (by kernel_rfl) (by simp) ?rgh75
                    refine rgCons ?arg111111111110000 ?wrg111111111110000 #[true, true, true, true, true, true, true, true, true, true, true, false, false, false, false] rfl (by kernel_rfl) (fun K hK => ?rgs76) ?rgh77 ?rg111111111110000
                    case rgs76 => (go_simp; exact hK)
                    refine rgCons ?arg011111111111000 ?wrg011111111111000 #[false, true, true, true, true, true, true, true, true, true, true, true, false, false, false] rfl (by kernel_rfl) (fun K hK => ?rgs78) ?rgh79 ?rg011111111111000
                    case rgs78 => (go_simp; exact hK)
                    exact AllReadyIn.nil
                    refine wpAnyIn_ready (rs := [0, 12]) (by kernel_rfl) (by simp) ?rgh80
                    refine rgCons ?arg111111111111000 ?wrg111111111111000 #[true, true, true, true, true, true, true, true, true, true, true, true, false, false, false] rfl (by kernel_rfl) (fun K hK => ?rgs81) ?rgh82 ?rg111111111111000
                    case rgs81 => (go_simp; exact hK)
                    refine rgCons ?arg011111111111100 ?wrg011111111111100 #[false, true, true, true, true, true, true, true, true, true, true, true, true, false, false] rfl (by kernel_rfl) (fun K hK => ?rgs83) ?rgh84 ?rg011111111111100
                    case rgs83 => (go_simp; exact hK)
                    exact AllReadyIn.nil
                    refine wpAnyIn_ready (rs := [0]) (by kernel_rfl) (by simp) ?rgh85
                    refine rgCons ?arg111111111111100 ?wrg111111111111100 #[true, true, true, true, true, true, true, true, true, true, true, true, true, false, false] rfl (by kernel_rfl) (fun K hK => ?rgs86) ?rgh87 ?rg111111111111100
                    case rgs86 => (go_simp; exact hK)
                    exact AllReadyIn.nil
                    refine wpAnyIn_ready (rs := [13]) (by kernel_rfl) (by simp) ?rgh88
                    refine rgCons ?arg111111111111110 ?wrg111111111111110 #[true, true, true, true, true, true, true, true, true, true, true, true, true, true, false] rfl (by kernel_rfl) (fun K hK => ?rgs89) ?rgh90 ?rg111111111111110
                    case rgs89 => ((rw [if_pos (by kernel_rfl)]; refine app_in (v := .slice A6 (L.length + 1) c6) (w' := w3) hrun' ?_); exact hK)
                    exact AllReadyIn.nil
                    refine wpAnyIn_ready (rs := [14]) (by kernel_rfl) (by simp) ?rgh91
                    refine rgCons ?argEnd ?wrgEnd #[true, true, true, true, true, true, true, true, true, true, true, true, true, true, true] rfl (by kernel_rfl) (fun K hK => ?rgs92) ?rgh93 ?rgEnd
                    case rgs92 => (go_simp; exact hK)
                    exact AllReadyIn.nil
                    rotate_left
                    refine wpAnyIn_ready (rs := [12]) (by kernel_rfl) (by simp) ?rgh94
                    refine rgCons ?arg111111111111100 ?wrg111111111111100 #[true, true, true, true, true, true, true, true, true, true, true, true, true, false, false] rfl (by kernel_rfl) (fun K hK => ?rgs95) ?rgh96 ?rg111111111111100
                    case rgs95 => (go_simp; exact hK)
                    exact AllReadyIn.nil
                    refine wpAnyIn_ready (rs := [11]) (by kernel_rfl) (by simp) ?rgh97
                    refine rgCons ?arg111111111111000 ?wrg111111111111000 #[true, true, true, true, true, true, true, true, true, true, true, true, false, false, false] rfl (by kernel_rfl) (fun K hK => ?rgs98) ?rgh99 ?rg111111111111000
                    case rgs98 => (go_simp; exact hK)
                    exact AllReadyIn.nil
                    refine wpAnyIn_ready (rs := [10]) (by kernel_rfl) (by simp) ?rgh100
                    refine rgCons ?arg111111111110000 ?wrg111111111110000 #[true, true, true, true, true, true, true, true, true, true, true, false, false, false, false] rfl (by kernel_rfl) (fun K hK => ?rgs101) ?rgh102 ?rg111111111110000
                    case rgs101 => (go_simp; exact hK)
                    exact AllReadyIn.nil
                    refine wpAnyIn_ready (rs := [1]) (by kernel_rfl) (by simp) ?rgh103
                    refine rgCons ?arg111111111100000 ?wrg111111111100000 #[true, true, true, true, true, true, true, true, true, true, false, false, false, false, false] rfl (by kernel_rfl) (fun K hK => ?rgs104) ?rgh105 ?rg111111111100000
                    case rgs104 => (go_simp; exact hK)
                    exact AllReadyIn.nil
                    refine wpAnyIn_ready (rs := [0, 9]) (by kernel_rfl) (by simp) ?rgh106
                    refine rgCons ?arg111111111000000 ?wrg111111111000000 #[true, true, true, true, true, true, true, true, true, false, false, false, false, false, false] rfl (by kernel_rfl) (fun K hK => ?rgs107) ?rgh108 ?rg111111111000000
                    case rgs107 => (go_simp; exact hK)
                    refine rgCons ?arg011111111100000 ?wrg011111111100000 #[false, true, true, true, true, true, true, true, true, true, false, false, false, false, false] rfl (by kernel_rfl) (fun K hK => ?rgs109) ?rgh110 ?rg011111111100000
                    case rgs109 => (go_simp; exact hK)
                    exact AllReadyIn.nil
                    refine wpAnyIn_ready (rs := [9]) (by kernel_rfl) (by simp) ?rgh111
                    refine rgCons ?arg111111111100000 ?wrg111111111100000 #[true, true, true, true, true, true, true, true, true, true, false, false, false, false, false] rfl (by kernel_rfl) (fun K hK => ?rgs112) ?rgh113 ?rg111111111100000
                    case rgs112 => (go_simp; exact hK)
                    exact AllReadyIn.nil
                    refine wpAnyIn_ready (rs := [1, 9]) (by kernel_rfl) (by simp) ?rgh114
                    refine rgCons ?arg111111111000000 ?wrg111111111000000 #[true, true, true, true, true, true, true, true, true, false, false, false, false, false, false] rfl (by kernel_rfl) (fun K hK => ?rgs115) ?rgh116 ?rg111111111000000
                    case rgs115 => (go_simp; exact hK)
                    refine rgCons ?arg101111111100000 ?wrg101111111100000 #[true, false, true, true, true, true, true, true, true, true, false, false, false, false, false] rfl (by kernel_rfl) (fun K hK => ?rgs117) ?rgh118 ?rg101111111100000
                    case rgs117 => (go_simp; exact hK)
                    exact AllReadyIn.nil
                    refine wpAnyIn_ready (rs := [0, 7]) (by kernel_rfl) (by simp) ?rgh119
                    refine rgCons ?arg111111101000000 ?wrg111111101000000 #[true, true, true, true, true, true, true, false, true, false, false, false, false, false, false] rfl (by kernel_rfl) (fun K hK => ?rgs120) ?rgh121 ?rg111111101000000
                    case rgs120 => (go_simp; exact hK)
                    refine rgCons ?arg011111111000000 ?wrg011111111000000 #[false, true, true, true, true, true, true, true, true, false, false, false, false, false, false] rfl (by kernel_rfl) (fun K hK => ?rgs122) ?rgh123 ?rg011111111000000
                    case rgs122 => (go_simp; exact hK)
                    exact AllReadyIn.nil
                    refine wpAnyIn_ready (rs := [7]) (by kernel_rfl) (by simp) ?rgh124
                    refine rgCons ?arg111111111000000 ?wrg111111111000000 #[true, true, true, true, true, true, true, true, true, false, false, false, false, false, false] rfl (by kernel_rfl) (fun K hK => ?rgs125) ?rgh126 ?rg111111111000000
                    case rgs125 => (go_simp; exact hK)
                    exact AllReadyIn.nil
                    refine wpAnyIn_ready (rs := [1, 7]) (by kernel_rfl) (by simp) ?rgh127
                    refine rgCons ?arg111111101000000 ?wrg111111101000000 #[true, true, true, true, true, true, true, false, true, false, false, false, false, false, false] rfl (by kernel_rfl) (fun K hK => ?rgs128) ?rgh129 ?rg111111101000000
                    case rgs128 => (go_simp; exact hK)
                    refine rgCons ?arg101111111000000 ?wrg101111111000000 #[true, false, true, true, true, true, true, true, true, false, false, false, false, false, false] rfl (by kernel_rfl) (fun K hK => ?rgs130) ?rgh131 ?rg101111111000000
                    case rgs130 => (go_simp; exact hK)
                    exact AllReadyIn.nil
                    refine wpAnyIn_ready (rs := [0, 6]) (by kernel_rfl) (by simp) ?rgh132
                    refine rgCons ?arg111111001000000 ?wrg111111001000000 #[true, true, true, true, true, true, false, false, true, false, false, false, false, false, false] rfl (by kernel_rfl) (fun K hK => ?rgs133) ?rgh134 ?rg111111001000000
                    case rgs133 => (go_simp; exact hK)
                    refine rgCons ?arg011111101000000 ?wrg011111101000000 #[false, true, true, true, true, true, true, false, true, false, false, false, false, false, false] rfl (by kernel_rfl) (fun K hK => ?rgs135) ?rgh136 ?rg011111101000000
                    case rgs135 => (go_simp; exact hK)
                    exact AllReadyIn.nil
                    refine wpAnyIn_ready (rs := [6]) (by kernel_rfl) (by simp) ?rgh137
                    refine rgCons ?arg111111101000000 ?wrg111111101000000 #[true, true, true, true, true, true, true, false, true, false, false, false, false, false, false] rfl (by kernel_rfl) (fun K hK => ?rgs138) ?rgh139 ?rg111111101000000
                    case rgs138 => (go_simp; exact hK)
                    exact AllReadyIn.nil
                    refine wpAnyIn_ready (rs := [1, 6]) (by kernel_rfl) (by simp) ?rgh140
                    refine rgCons ?arg111111001000000 ?wrg111111001000000 #[true, true, true, true, true, true, false, false, true, false, false, false, false, false, false] rfl (by kernel_rfl) (fun K hK => ?rgs141) ?rgh142 ?rg111111001000000
                    case rgs141 => (go_simp; exact hK)
                    refine rgCons ?arg101111101000000 ?wrg101111101000000 #[true, false, true, true, true, true, true, false, true, false, false, false, false, false, false] rfl (by kernel_rfl) (fun K hK => ?rgs143) ?rgh144 ?rg101111101000000
                    case rgs143 => (go_simp; exact hK)
                    exact AllReadyIn.nil
                    refine wpAnyIn_ready (rs := [0, 5]) (by kernel_rfl) (by simp) ?rgh145
                    refine rgCons ?arg111110001000000 ?wrg111110001000000 #[true, true, true, true, true, false, false, false, true, false, false, false, false, false, false] rfl (by kernel_rfl) (fun K hK => ?rgs146) ?rgh147 ?rg111110001000000
                    case rgs146 => (go_simp; exact hK)
                    refine rgCons ?arg011111001000000 ?wrg011111001000000 #[false, true, true, true, true, true, false, false, true, false, false, false, false, false, false] rfl (by kernel_rfl) (fun K hK => ?rgs148) ?rgh149 ?rg011111001000000
                    case rgs148 => (go_simp; exact hK)
                    exact AllReadyIn.nil
                    refine wpAnyIn_ready (rs := [5]) (by kernel_rfl) (by simp) ?rgh150
                    refine rgCons ?arg111111001000000 ?wrg111111001000000 #[true, true, true, true, true, true, false, false, true, false, false, false, false, false, false] rfl (by kernel_rfl) (fun K hK => ?rgs151) ?rgh152 ?rg111111001000000
                    case rgs151 => (go_simp; exact hK)
                    exact AllReadyIn.nil
                    refine wpAnyIn_ready (rs := [1, 5]) (by kernel_rfl) (by simp) ?rgh153
                    refine rgCons ?arg111110001000000 ?wrg111110001000000 #[true, true, true, true, true, false, false, false, true, false, false, false, false, false, false] rfl (by kernel_rfl) (fun K hK => ?rgs154) ?rgh155 ?rg111110001000000
                    case rgs154 => (go_simp; exact hK)
                    refine rgCons ?arg101111001000000 ?wrg101111001000000 #[true, false, true, true, true, true, false, false, true, false, false, false, false, false, false] rfl (by kernel_rfl) (fun K hK => ?rgs156) ?rgh157 ?rg101111001000000
                    case rgs156 => (go_simp; exact hK)
                    exact AllReadyIn.nil
                    refine wpAnyIn_ready (rs := [0, 2]) (by kernel_rfl) (by simp) ?rgh158
                    refine rgCons ?arg110110001000000 ?wrg110110001000000 #[true, true, false, true, true, false, false, false, true, false, false, false, false, false, false] rfl (by kernel_rfl) (fun K hK => ?rgs159) ?rgh160 ?rg110110001000000
                    case rgs159 => (go_simp; exact hK)
                    refine rgCons ?arg011110001000000 ?wrg011110001000000 #[false, true, true, true, true, false, false, false, true, false, false, false, false, false, false] rfl (by kernel_rfl) (fun K hK => ?rgs161) ?rgh162 ?rg011110001000000
                    case rgs161 => (go_simp; exact hK)
                    exact AllReadyIn.nil
                    refine wpAnyIn_ready (rs := [2]) (by kernel_rfl) (by simp) ?rgh163
                    refine rgCons ?arg111110001000000 ?wrg111110001000000 #[true, true, true, true, true, false, false, false, true, false, false, false, false, false, false] rfl (by kernel_rfl) (fun K hK => ?rgs164) ?rgh165 ?rg111110001000000
                    case rgs164 => (go_simp; exact hK)
                    exact AllReadyIn.nil
                    refine wpAnyIn_ready (rs := [1, 2]) (by kernel_rfl) (by simp) ?rgh166
                    refine rgCons ?arg110110001000000 ?wrg110110001000000 #[true, true, false, true, true, false, false, false, true, false, false, false, false, false, false] rfl (by kernel_rfl) (fun K hK => ?rgs167) ?rgh168 ?rg110110001000000
                    case rgs167 => (go_simp; exact hK)
                    refine rgCons ?arg101110001000000 ?wrg101110001000000 #[true, false, true, true, true, false, false, false, true, false, false, false, false, false, false] rfl (by kernel_rfl) (fun K hK => ?rgs169) ?rgh170 ?rg101110001000000
                    case rgs169 => (go_simp; exact hK)
                    exact AllReadyIn.nil
                    refine wpAnyIn_ready (rs := [0, 1, 4]) (by kernel_rfl) (by simp) ?rgh171
                    refine rgCons ?arg101100001000000 ?wrg101100001000000 #[true, false, true, true, false, false, false, false, true, false, false, false, false, false, false] rfl (by kernel_rfl) (fun K hK => ?rgs172) ?rgh173 ?rg101100001000000
                    case rgs172 => (go_simp; exact hK)
                    refine rgCons ?arg011100001000000 ?wrg011100001000000 #[false, true, true, true, false, false, false, false, true, false, false, false, false, false, false] rfl (by kernel_rfl) (fun K hK => ?rgs174) ?rgh175 ?rg011100001000000
                    case rgs174 => (go_simp; exact hK)
                    refine rgCons ?arg001110001000000 ?wrg001110001000000 #[false, false, true, true, true, false, false, false, true, false, false, false, false, false, false] rfl (by kernel_rfl) (fun K hK => ?rgs176) ?rgh177 ?rg001110001000000
                    case rgs176 => (go_simp; exact hK)
                    exact AllReadyIn.nil
                    refine wpAnyIn_ready (rs := [0, 4]) (by kernel_rfl) (by simp) ?rgh178
                    refine rgCons ?arg111100001000000 ?wrg111100001000000 #[true, true, true, true, false, false, false, false, true, false, false, false, false, false, false] rfl (by kernel_rfl) (fun K hK => ?rgs179) ?rgh180 ?rg111100001000000
                    case rgs179 => (go_simp; exact hK)
                    refine rgCons ?arg011110001000000 ?wrg011110001000000 #[false, true, true, true, true, false, false, false, true, false, false, false, false, false, false] rfl (by kernel_rfl) (fun K hK => ?rgs181) ?rgh182 ?rg011110001000000
                    case rgs181 => (go_simp; exact hK)
                    exact AllReadyIn.nil
                    refine wpAnyIn_ready (rs := [4]) (by kernel_rfl) (by simp) ?rgh183
                    refine rgCons ?arg111110001000000 ?wrg111110001000000 #[true, true, true, true, true, false, false, false, true, false, false, false, false, false, false] rfl (by kernel_rfl) (fun K hK => ?rgs184) ?rgh185 ?rg111110001000000
                    case rgs184 => (go_simp; exact hK)
                    exact AllReadyIn.nil
                    refine wpAnyIn_ready (rs := [1, 4]) (by kernel_rfl) (by simp) ?rgh186
                    refine rgCons ?arg111100001000000 ?wrg111100001000000 #[true, true, true, true, false, false, false, false, true, false, false, false, false, false, false] rfl (by kernel_rfl) (fun K hK => ?rgs187) ?rgh188 ?rg111100001000000
                    case rgs187 => (go_simp; exact hK)
                    refine rgCons ?arg101110001000000 ?wrg101110001000000 #[true, false, true, true, true, false, false, false, true, false, false, false, false, false, false] rfl (by kernel_rfl) (fun K hK => ?rgs189) ?rgh190 ?rg101110001000000
                    case rgs189 => (go_simp; exact hK)
                    exact AllReadyIn.nil
                    refine wpAnyIn_ready (rs := [0, 2, 4]) (by kernel_rfl) (by simp) ?rgh191
                    refine rgCons ?arg110100001000000 ?wrg110100001000000 #[true, true, false, true, false, false, false, false, true, false, false, false, false, false, false] rfl (by kernel_rfl) (fun K hK => ?rgs192) ?rgh193 ?rg110100001000000
                    case rgs192 => (go_simp; exact hK)
                    refine rgCons ?arg011100001000000 ?wrg011100001000000 #[false, true, true, true, false, false, false, false, true, false, false, false, false, false, false] rfl (by kernel_rfl) (fun K hK => ?rgs194) ?rgh195 ?rg011100001000000
                    case rgs194 => (go_simp; exact hK)
                    refine rgCons ?arg010110001000000 ?wrg010110001000000 #[false, true, false, true, true, false, false, false, true, false, false, false, false, false, false] rfl (by kernel_rfl) (fun K hK => ?rgs196) ?rgh197 ?rg010110001000000
                    case rgs196 => (go_simp; exact hK)
                    exact AllReadyIn.nil
                    refine wpAnyIn_ready (rs := [2, 4]) (by kernel_rfl) (by simp) ?rgh198
                    refine rgCons ?arg111100001000000 ?wrg111100001000000 #[true, true, true, true, false, false, false, false, true, false, false, false, false, false, false] rfl (by kernel_rfl) (fun K hK => ?rgs199) ?rgh200 ?rg111100001000000
                    case rgs199 => (go_simp; exact hK)
                    refine rgCons ?arg110110001000000 ?wrg110110001000000 #[true, true, false, true, true, false, false, false, true, false, false, false, false, false, false] rfl (by kernel_rfl) (fun K hK => ?rgs201) ?rgh202 ?rg110110001000000
                    case rgs201 => (go_simp; exact hK)
                    exact AllReadyIn.nil
                    refine wpAnyIn_ready (rs := [1, 2, 4]) (by kernel_rfl) (by simp) ?rgh203
                    refine rgCons ?arg110100001000000 ?wrg110100001000000 #[true, true, false, true, false, false, false, false, true, false, false, false, false, false, false] rfl (by kernel_rfl) (fun K hK => ?rgs204) ?rgh205 ?rg110100001000000
                    case rgs204 => (go_simp; exact hK)
                    refine rgCons ?arg101100001000000 ?wrg101100001000000 #[true, false, true, true, false, false, false, false, true, false, false, false, false, false, false] rfl (by kernel_rfl) (fun K hK => ?rgs206) ?rgh207 ?rg101100001000000
                    case rgs206 => (go_simp; exact hK)
                    refine rgCons ?arg100110001000000 ?wrg100110001000000 #[true, false, false, true, true, false, false, false, true, false, false, false, false, false, false] rfl (by kernel_rfl) (fun K hK => ?rgs208) ?rgh209 ?rg100110001000000
                    case rgs208 => (go_simp; exact hK)
                    exact AllReadyIn.nil
                    refine wpAnyIn_ready (rs := [0, 1, 3]) (by kernel_rfl) (by simp) ?rgh210
                    refine rgCons ?arg101000001000000 ?wrg101000001000000 #[true, false, true, false, false, false, false, false, true, false, false, false, false, false, false] rfl (by kernel_rfl) (fun K hK => ?rgs211) ?rgh212 ?rg101000001000000
                    case rgs211 => (go_simp; exact hK)
                    refine rgCons ?arg011000001000000 ?wrg011000001000000 #[false, true, true, false, false, false, false, false, true, false, false, false, false, false, false] rfl (by kernel_rfl) (fun K hK => ?rgs213) ?rgh214 ?rg011000001000000
                    case rgs213 => (go_simp; exact hK)
                    refine rgCons ?arg001100001000000 ?wrg001100001000000 #[false, false, true, true, false, false, false, false, true, false, false, false, false, false, false] rfl (by kernel_rfl) (fun K hK => ?rgs215) ?rgh216 ?rg001100001000000
                    case rgs215 => (go_simp; exact hK)
                    exact AllReadyIn.nil
                    refine wpAnyIn_ready (rs := [0, 3]) (by kernel_rfl) (by simp) ?rgh217
                    refine rgCons ?arg111000001000000 ?wrg111000001000000 #[true, true, true, false, false, false, false, false, true, false, false, false, false, false, false] rfl (by kernel_rfl) (fun K hK => ?rgs218) ?rgh219 ?rg111000001000000
                    case rgs218 => (go_simp; exact hK)
                    refine rgCons ?arg011100001000000 ?wrg011100001000000 #[false, true, true, true, false, false, false, false, true, false, false, false, false, false, false] rfl (by kernel_rfl) (fun K hK => ?rgs220) ?rgh221 ?rg011100001000000
                    case rgs220 => (go_simp; exact hK)
                    exact AllReadyIn.nil
                    refine wpAnyIn_ready (rs := [3]) (by kernel_rfl) (by simp) ?rgh222
                    refine rgCons ?arg111100001000000 ?wrg111100001000000 #[true, true, true, true, false, false, false, false, true, false, false, false, false, false, false] rfl (by kernel_rfl) (fun K hK => ?rgs223) ?rgh224 ?rg111100001000000
                    case rgs223 => (go_simp; exact hK)
                    exact AllReadyIn.nil
                    refine wpAnyIn_ready (rs := [1, 3]) (by kernel_rfl) (by simp) ?rgh225
                    refine rgCons ?arg111000001000000 ?wrg111000001000000 #[true, true, true, false, false, false, false, false, true, false, false, false, false, false, false] rfl (by kernel_rfl) (fun K hK => ?rgs226) ?rgh227 ?rg111000001000000
                    case rgs226 => (go_simp; exact hK)
                    refine rgCons ?arg101100001000000 ?wrg101100001000000 #[true, false, true, true, false, false, false, false, true, false, false, false, false, false, false] rfl (by kernel_rfl) (fun K hK => ?rgs228) ?rgh229 ?rg101100001000000
                    case rgs228 => (go_simp; exact hK)
                    exact AllReadyIn.nil
                    refine wpAnyIn_ready (rs := [0, 2, 3]) (by kernel_rfl) (by simp) ?rgh230
                    refine rgCons ?arg110000001000000 ?wrg110000001000000 #[true, true, false, false, false, false, false, false, true, false, false, false, false, false, false] rfl (by kernel_rfl) (fun K hK => ?rgs231) ?rgh232 ?rg110000001000000
                    case rgs231 => (go_simp; exact hK)
                    refine rgCons ?arg011000001000000 ?wrg011000001000000 #[false, true, true, false, false, false, false, false, true, false, false, false, false, false, false] rfl (by kernel_rfl) (fun K hK => ?rgs233) ?rgh234 ?rg011000001000000
                    case rgs233 => (go_simp; exact hK)
                    refine rgCons ?arg010100001000000 ?wrg010100001000000 #[false, true, false, true, false, false, false, false, true, false, false, false, false, false, false] rfl (by kernel_rfl) (fun K hK => ?rgs235) ?rgh236 ?rg010100001000000
                    case rgs235 => (go_simp; exact hK)
                    exact AllReadyIn.nil
                    refine wpAnyIn_ready (rs := [2, 3]) (by kernel_rfl) (by simp) ?rgh237
                    refine rgCons ?arg111000001000000 ?wrg111000001000000 #[true, true, true, false, false, false, false, false, true, false, false, false, false, false, false] rfl (by kernel_rfl) (fun K hK => ?rgs238) ?rgh239 ?rg111000001000000
                    case rgs238 => (go_simp; exact hK)
                    refine rgCons ?arg110100001000000 ?wrg110100001000000 #[true, true, false, true, false, false, false, false, true, false, false, false, false, false, false] rfl (by kernel_rfl) (fun K hK => ?rgs240) ?rgh241 ?rg110100001000000
                    case rgs240 => (go_simp; exact hK)
                    exact AllReadyIn.nil
                    refine wpAnyIn_ready (rs := [1, 2, 3]) (by kernel_rfl) (by simp) ?rgh242
                    refine rgCons ?arg110000001000000 ?wrg110000001000000 #[true, true, false, false, false, false, false, false, true, false, false, false, false, false, false] rfl (by kernel_rfl) (fun K hK => ?rgs243) ?rgh244 ?rg110000001000000
                    case rgs243 => (go_simp; exact hK)
                    refine rgCons ?arg101000001000000 ?wrg101000001000000 #[true, false, true, false, false, false, false, false, true, false, false, false, false, false, false] rfl (by kernel_rfl) (fun K hK => ?rgs245) ?rgh246 ?rg101000001000000
                    case rgs245 => (go_simp; exact hK)
                    refine rgCons ?arg100100001000000 ?wrg100100001000000 #[true, false, false, true, false, false, false, false, true, false, false, false, false, false, false] rfl (by kernel_rfl) (fun K hK => ?rgs247) ?rgh248 ?rg100100001000000
                    case rgs247 => (go_simp; exact hK)
                    exact AllReadyIn.nil
                    refine wpAnyIn_ready (rs := [0, 1, 2, 4, 8]) (by kernel_rfl) (by simp) ?rgh249
                    refine rgCons ?arg100100000000000 ?wrg100100000000000 #[true, false, false, true, false, false, false, false, false, false, false, false, false, false, false] rfl (by kernel_rfl) (fun K hK => ?rgs250) ?rgh251 ?rg100100000000000
                    case rgs250 => (go_simp; exact hK)
                    refine rgCons ?arg010100000000000 ?wrg010100000000000 #[false, true, false, true, false, false, false, false, false, false, false, false, false, false, false] rfl (by kernel_rfl) (fun K hK => ?rgs252) ?rgh253 ?rg010100000000000
                    case rgs252 => (go_simp; exact hK)
                    refine rgCons ?arg001100000000000 ?wrg001100000000000 #[false, false, true, true, false, false, false, false, false, false, false, false, false, false, false] rfl (by kernel_rfl) (fun K hK => ?rgs254) ?rgh255 ?rg001100000000000
                    case rgs254 => (go_simp; exact hK)
                    refine rgCons ?arg000110000000000 ?wrg000110000000000 #[false, false, false, true, true, false, false, false, false, false, false, false, false, false, false] rfl (by kernel_rfl) (fun K hK => ?rgs256) ?rgh257 ?rg000110000000000
                    case rgs256 => (go_simp; exact hK)
                    refine rgCons ?arg000100001000000 ?wrg000100001000000 #[false, false, false, true, false, false, false, false, true, false, false, false, false, false, false] rfl (by kernel_rfl) (fun K hK => ?rgs258) ?rgh259 ?rg000100001000000
                    case rgs258 => (go_simp; exact hK)
                    exact AllReadyIn.nil
                    refine wpAnyIn_ready (rs := [0, 1, 2, 8]) (by kernel_rfl) (by simp) ?rgh260
                    refine rgCons ?arg100110000000000 ?wrg100110000000000 #[true, false, false, true, true, false, false, false, false, false, false, false, false, false, false] rfl (by kernel_rfl) (fun K hK => ?rgs261) ?rgh262 ?rg100110000000000
                    case rgs261 => (go_simp; exact hK)
                    refine rgCons ?arg010110000000000 ?wrg010110000000000 #[false, true, false, true, true, false, false, false, false, false, false, false, false, false, false] rfl (by kernel_rfl) (fun K hK => ?rgs263) ?rgh264 ?rg010110000000000
                    case rgs263 => (go_simp; exact hK)
                    refine rgCons ?arg001110000000000 ?wrg001110000000000 #[false, false, true, true, true, false, false, false, false, false, false, false, false, false, false] rfl (by kernel_rfl) (fun K hK => ?rgs265) ?rgh266 ?rg001110000000000
                    case rgs265 => (go_simp; exact hK)
                    refine rgCons ?arg000110001000000 ?wrg000110001000000 #[false, false, false, true, true, false, false, false, true, false, false, false, false, false, false] rfl (by kernel_rfl) (fun K hK => ?rgs267) ?rgh268 ?rg000110001000000
                    case rgs267 => (go_simp; exact hK)
                    exact AllReadyIn.nil
                    refine wpAnyIn_ready (rs := [0, 1, 5, 8]) (by kernel_rfl) (by simp) ?rgh269
                    refine rgCons ?arg101110000000000 ?wrg101110000000000 #[true, false, true, true, true, false, false, false, false, false, false, false, false, false, false] rfl (by kernel_rfl) (fun K hK => ?rgs270) ?rgh271 ?rg101110000000000
                    case rgs270 => (go_simp; exact hK)
                    refine rgCons ?arg011110000000000 ?wrg011110000000000 #[false, true, true, true, true, false, false, false, false, false, false, false, false, false, false] rfl (by kernel_rfl) (fun K hK => ?rgs272) ?rgh273 ?rg011110000000000
                    case rgs272 => (go_simp; exact hK)
                    refine rgCons ?arg001111000000000 ?wrg001111000000000 #[false, false, true, true, true, true, false, false, false, false, false, false, false, false, false] rfl (by kernel_rfl) (fun K hK => ?rgs274) ?rgh275 ?rg001111000000000
                    case rgs274 => (go_simp; exact hK)
                    refine rgCons ?arg001110001000000 ?wrg001110001000000 #[false, false, true, true, true, false, false, false, true, false, false, false, false, false, false] rfl (by kernel_rfl) (fun K hK => ?rgs276) ?rgh277 ?rg001110001000000
                    case rgs276 => (go_simp; exact hK)
                    exact AllReadyIn.nil
                    refine wpAnyIn_ready (rs := [0, 1, 6, 8]) (by kernel_rfl) (by simp) ?rgh278
                    refine rgCons ?arg101111000000000 ?wrg101111000000000 #[true, false, true, true, true, true, false, false, false, false, false, false, false, false, false] rfl (by kernel_rfl) (fun K hK => ?rgs279) ?rgh280 ?rg101111000000000
                    case rgs279 => (go_simp; exact hK)
                    refine rgCons ?arg011111000000000 ?wrg011111000000000 #[false, true, true, true, true, true, false, false, false, false, false, false, false, false, false] rfl (by kernel_rfl) (fun K hK => ?rgs281) ?rgh282 ?rg011111000000000
                    case rgs281 => (go_simp; exact hK)
                    refine rgCons ?arg001111100000000 ?wrg001111100000000 #[false, false, true, true, true, true, true, false, false, false, false, false, false, false, false] rfl (by kernel_rfl) (fun K hK => ?rgs283) ?rgh284 ?rg001111100000000
                    case rgs283 => (go_simp; exact hK)
                    refine rgCons ?arg001111001000000 ?wrg001111001000000 #[false, false, true, true, true, true, false, false, true, false, false, false, false, false, false] rfl (by kernel_rfl) (fun K hK => ?rgs285) ?rgh286 ?rg001111001000000
                    case rgs285 => (go_simp; exact hK)
                    exact AllReadyIn.nil
                    refine wpAnyIn_ready (rs := [0, 1, 7, 8]) (by kernel_rfl) (by simp) ?rgh287
                    refine rgCons ?arg101111100000000 ?wrg101111100000000 #[true, false, true, true, true, true, true, false, false, false, false, false, false, false, false] rfl (by kernel_rfl) (fun K hK => ?rgs288) ?rgh289 ?rg101111100000000
                    case rgs288 => (go_simp; exact hK)
                    refine rgCons ?arg011111100000000 ?wrg011111100000000 #[false, true, true, true, true, true, true, false, false, false, false, false, false, false, false] rfl (by kernel_rfl) (fun K hK => ?rgs290) ?rgh291 ?rg011111100000000
                    case rgs290 => (go_simp; exact hK)
                    refine rgCons ?arg001111110000000 ?wrg001111110000000 #[false, false, true, true, true, true, true, true, false, false, false, false, false, false, false] rfl (by kernel_rfl) (fun K hK => ?rgs292) ?rgh293 ?rg001111110000000
                    case rgs292 => (go_simp; exact hK)
                    refine rgCons ?arg001111101000000 ?wrg001111101000000 #[false, false, true, true, true, true, true, false, true, false, false, false, false, false, false] rfl (by kernel_rfl) (fun K hK => ?rgs294) ?rgh295 ?rg001111101000000
                    case rgs294 => (go_simp; exact hK)
                    exact AllReadyIn.nil
                    refine wpAnyIn_ready (rs := [0, 1, 8]) (by kernel_rfl) (by simp) ?rgh296
                    refine rgCons ?arg101111110000000 ?wrg101111110000000 #[true, false, true, true, true, true, true, true, false, false, false, false, false, false, false] rfl (by kernel_rfl) (fun K hK => ?rgs297) ?rgh298 ?rg101111110000000
                    case rgs297 => (go_simp; exact hK)
                    refine rgCons ?arg011111110000000 ?wrg011111110000000 #[false, true, true, true, true, true, true, true, false, false, false, false, false, false, false] rfl (by kernel_rfl) (fun K hK => ?rgs299) ?rgh300 ?rg011111110000000
                    case rgs299 => (go_simp; exact hK)
                    refine rgCons ?arg001111111000000 ?wrg001111111000000 #[false, false, true, true, true, true, true, true, true, false, false, false, false, false, false] rfl (by kernel_rfl) (fun K hK => ?rgs301) ?rgh302 ?rg001111111000000
                    case rgs301 => (go_simp; exact hK)
                    exact AllReadyIn.nil
                    refine wpAnyIn_ready (rs := [0, 8]) (by kernel_rfl) (by simp) ?rgh303
                    refine rgCons ?arg111111110000000 ?wrg111111110000000 #[true, true, true, true, true, true, true, true, false, false, false, false, false, false, false] rfl (by kernel_rfl) (fun K hK => ?rgs304) ?rgh305 ?rg111111110000000
                    case rgs304 => (go_simp; exact hK)
                    refine rgCons ?arg011111111000000 ?wrg011111111000000 #[false, true, true, true, true, true, true, true, true, false, false, false, false, false, false] rfl (by kernel_rfl) (fun K hK => ?rgs306) ?rgh307 ?rg011111111000000
                    case rgs306 => (go_simp; exact hK)
                    exact AllReadyIn.nil
                    refine wpAnyIn_ready (rs := [8]) (by kernel_rfl) (by simp) ?rgh308
                    refine rgCons ?arg111111111000000 ?wrg111111111000000 #[true, true, true, true, true, true, true, true, true, false, false, false, false, false, false] rfl (by kernel_rfl) (fun K hK => ?rgs309) ?rgh310 ?rg111111111000000
                    case rgs309 => (go_simp; exact hK)
                    exact AllReadyIn.nil
                    refine wpAnyIn_ready (rs := [1, 8]) (by kernel_rfl) (by simp) ?rgh311
                    refine rgCons ?arg111111110000000 ?wrg111111110000000 #[true, true, true, true, true, true, true, true, false, false, false, false, false, false, false] rfl (by kernel_rfl) (fun K hK => ?rgs312) ?rgh313 ?rg111111110000000
                    case rgs312 => (go_simp; exact hK)
                    refine rgCons ?arg101111111000000 ?wrg101111111000000 #[true, false, true, true, true, true, true, true, true, false, false, false, false, false, false] rfl (by kernel_rfl) (fun K hK => ?rgs314) ?rgh315 ?rg101111111000000
                    case rgs314 => (go_simp; exact hK)
                    exact AllReadyIn.nil
                    refine wpAnyIn_ready (rs := [0, 7, 8]) (by kernel_rfl) (by simp) ?rgh316
                    refine rgCons ?arg111111100000000 ?wrg111111100000000 #[true, true, true, true, true, true, true, false, false, false, false, false, false, false, false] rfl (by kernel_rfl) (fun K hK => ?rgs317) ?rgh318 ?rg111111100000000
                    case rgs317 => (go_simp; exact hK)
                    refine rgCons ?arg011111110000000 ?wrg011111110000000 #[false, true, true, true, true, true, true, true, false, false, false, false, false, false, false] rfl (by kernel_rfl) (fun K hK => ?rgs319) ?rgh320 ?rg011111110000000
                    case rgs319 => (go_simp; exact hK)
                    refine rgCons ?arg011111101000000 ?wrg011111101000000 #[false, true, true, true, true, true, true, false, true, false, false, false, false, false, false] rfl (by kernel_rfl) (fun K hK => ?rgs321) ?rgh322 ?rg011111101000000
                    case rgs321 => (go_simp; exact hK)
                    exact AllReadyIn.nil
                    refine wpAnyIn_ready (rs := [7, 8]) (by kernel_rfl) (by simp) ?rgh323
                    refine rgCons ?arg111111110000000 ?wrg111111110000000 #[true, true, true, true, true, true, true, true, false, false, false, false, false, false, false] rfl (by kernel_rfl) (fun K hK => ?rgs324) ?rgh325 ?rg111111110000000
                    case rgs324 => (go_simp; exact hK)
                    refine rgCons ?arg111111101000000 ?wrg111111101000000 #[true, true, true, true, true, true, true, false, true, false, false, false, false, false, false] rfl (by kernel_rfl) (fun K hK => ?rgs326) ?rgh327 ?rg111111101000000
                    case rgs326 => (go_simp; exact hK)
                    exact AllReadyIn.nil
                    refine wpAnyIn_ready (rs := [1, 7, 8]) (by kernel_rfl) (by simp) ?rgh328
                    refine rgCons ?arg111111100000000 ?wrg111111100000000 #[true, true, true, true, true, true, true, false, false, false, false, false, false, false, false] rfl (by kernel_rfl) (fun K hK => ?rgs329) ?rgh330 ?rg111111100000000
                    case rgs329 => (go_simp; exact hK)
                    refine rgCons ?arg101111110000000 ?wrg101111110000000 #[true, false, true, true, true, true, true, true, false, false, false, false, false, false, false] rfl (by kernel_rfl) (fun K hK => ?rgs331) ?rgh332 ?rg101111110000000
                    case rgs331 => (go_simp; exact hK)
                    refine rgCons ?arg101111101000000 ?wrg101111101000000 #[true, false, true, true, true, true, true, false, true, false, false, false, false, false, false] rfl (by kernel_rfl) (fun K hK => ?rgs333) ?rgh334 ?rg101111101000000
                    case rgs333 => (go_simp; exact hK)
                    exact AllReadyIn.nil
                    refine wpAnyIn_ready (rs := [0, 6, 8]) (by kernel_rfl) (by simp) ?rgh335
                    refine rgCons ?arg111111000000000 ?wrg111111000000000 #[true, true, true, true, true, true, false, false, false, false, false, false, false, false, false] rfl (by kernel_rfl) (fun K hK => ?rgs336) ?rgh337 ?rg111111000000000
                    case rgs336 => (go_simp; exact hK)
                    refine rgCons ?arg011111100000000 ?wrg011111100000000 #[false, true, true, true, true, true, true, false, false, false, false, false, false, false, false] rfl (by kernel_rfl) (fun K hK => ?rgs338) ?rgh339 ?rg011111100000000
                    case rgs338 => (go_simp; exact hK)
                    refine rgCons ?arg011111001000000 ?wrg011111001000000 #[false, true, true, true, true, true, false, false, true, false, false, false, false, false, false] rfl (by kernel_rfl) (fun K hK => ?rgs340) ?rgh341 ?rg011111001000000
                    case rgs340 => (go_simp; exact hK)
                    exact AllReadyIn.nil
                    refine wpAnyIn_ready (rs := [6, 8]) (by kernel_rfl) (by simp) ?rgh342
                    refine rgCons ?arg111111100000000 ?wrg111111100000000 #[true, true, true, true, true, true, true, false, false, false, false, false, false, false, false] rfl (by kernel_rfl) (fun K hK => ?rgs343) ?rgh344 ?rg111111100000000
                    case rgs343 => (go_simp; exact hK)
                    refine rgCons ?arg111111001000000 ?wrg111111001000000 #[true, true, true, true, true, true, false, false, true, false, false, false, false, false, false] rfl (by kernel_rfl) (fun K hK => ?rgs345) ?rgh346 ?rg111111001000000
                    case rgs345 => (go_simp; exact hK)
                    exact AllReadyIn.nil
                    refine wpAnyIn_ready (rs := [1, 6, 8]) (by kernel_rfl) (by simp) ?rgh347
                    refine rgCons ?arg111111000000000 ?wrg111111000000000 #[true, true, true, true, true, true, false, false, false, false, false, false, false, false, false] rfl (by kernel_rfl) (fun K hK => ?rgs348) ?rgh349 ?rg111111000000000
                    case rgs348 => (go_simp; exact hK)
                    refine rgCons ?arg101111100000000 ?wrg101111100000000 #[true, false, true, true, true, true, true, false, false, false, false, false, false, false, false] rfl (by kernel_rfl) (fun K hK => ?rgs350) ?rgh351 ?rg101111100000000
                    case rgs350 => (go_simp; exact hK)
                    refine rgCons ?arg101111001000000 ?wrg101111001000000 #[true, false, true, true, true, true, false, false, true, false, false, false, false, false, false] rfl (by kernel_rfl) (fun K hK => ?rgs352) ?rgh353 ?rg101111001000000
                    case rgs352 => (go_simp; exact hK)
                    exact AllReadyIn.nil
                    refine wpAnyIn_ready (rs := [0, 5, 8]) (by kernel_rfl) (by simp) ?rgh354
                    refine rgCons ?arg111110000000000 ?wrg111110000000000 #[true, true, true, true, true, false, false, false, false, false, false, false, false, false, false] rfl (by kernel_rfl) (fun K hK => ?rgs355) ?rgh356 ?rg111110000000000
                    case rgs355 => (go_simp; exact hK)
                    refine rgCons ?arg011111000000000 ?wrg011111000000000 #[false, true, true, true, true, true, false, false, false, false, false, false, false, false, false] rfl (by kernel_rfl) (fun K hK => ?rgs357) ?rgh358 ?rg011111000000000
                    case rgs357 => (go_simp; exact hK)
                    refine rgCons ?arg011110001000000 ?wrg011110001000000 #[false, true, true, true, true, false, false, false, true, false, false, false, false, false, false] rfl (by kernel_rfl) (fun K hK => ?rgs359) ?rgh360 ?rg011110001000000
                    case rgs359 => (go_simp; exact hK)
                    exact AllReadyIn.nil
                    refine wpAnyIn_ready (rs := [5, 8]) (by kernel_rfl) (by simp) ?rgh361
                    refine rgCons ?arg111111000000000 ?wrg111111000000000 #[true, true, true, true, true, true, false, false, false, false, false, false, false, false, false] rfl (by kernel_rfl) (fun K hK => ?rgs362) ?rgh363 ?rg111111000000000
                    case rgs362 => (go_simp; exact hK)
                    refine rgCons ?arg111110001000000 ?wrg111110001000000 #[true, true, true, true, true, false, false, false, true, false, false, false, false, false, false] rfl (by kernel_rfl) (fun K hK => ?rgs364) ?rgh365 ?rg111110001000000
                    case rgs364 => (go_simp; exact hK)
                    exact AllReadyIn.nil
                    refine wpAnyIn_ready (rs := [1, 5, 8]) (by kernel_rfl) (by simp) ?rgh366
                    refine rgCons ?arg111110000000000 ?wrg111110000000000 #[true, true, true, true, true, false, false, false, false, false, false, false, false, false, false] rfl (by kernel_rfl) (fun K hK => ?rgs367) ?rgh368 ?rg111110000000000
                    case rgs367 => (go_simp; exact hK)
                    refine rgCons ?arg101111000000000 ?wrg101111000000000 #[true, false, true, true, true, true, false, false, false, false, false, false, false, false, false] rfl (by kernel_rfl) (fun K hK => ?rgs369) ?rgh370 ?rg101111000000000
                    case rgs369 => (go_simp; exact hK)
                    refine rgCons ?arg101110001000000 ?wrg101110001000000 #[true, false, true, true, true, false, false, false, true, false, false, false, false, false, false] rfl (by kernel_rfl) (fun K hK => ?rgs371) ?rgh372 ?rg101110001000000
                    case rgs371 => (go_simp; exact hK)
                    exact AllReadyIn.nil
                    refine wpAnyIn_ready (rs := [0, 2, 8]) (by kernel_rfl) (by simp) ?rgh373
                    refine rgCons ?arg110110000000000 ?wrg110110000000000 #[true, true, false, true, true, false, false, false, false, false, false, false, false, false, false] rfl (by kernel_rfl) (fun K hK => ?rgs374) ?rgh375 ?rg110110000000000
                    case rgs374 => (go_simp; exact hK)
                    refine rgCons ?arg011110000000000 ?wrg011110000000000 #[false, true, true, true, true, false, false, false, false, false, false, false, false, false, false] rfl (by kernel_rfl) (fun K hK => ?rgs376) ?rgh377 ?rg011110000000000
                    case rgs376 => (go_simp; exact hK)
                    refine rgCons ?arg010110001000000 ?wrg010110001000000 #[false, true, false, true, true, false, false, false, true, false, false, false, false, false, false] rfl (by kernel_rfl) (fun K hK => ?rgs378) ?rgh379 ?rg010110001000000
                    case rgs378 => (go_simp; exact hK)
                    exact AllReadyIn.nil
                    refine wpAnyIn_ready (rs := [2, 8]) (by kernel_rfl) (by simp) ?rgh380
                    refine rgCons ?arg111110000000000 ?wrg111110000000000 #[true, true, true, true, true, false, false, false, false, false, false, false, false, false, false] rfl (by kernel_rfl) (fun K hK => ?rgs381) ?rgh382 ?rg111110000000000
                    case rgs381 => (go_simp; exact hK)
                    refine rgCons ?arg110110001000000 ?wrg110110001000000 #[true, true, false, true, true, false, false, false, true, false, false, false, false, false, false] rfl (by kernel_rfl) (fun K hK => ?rgs383) ?rgh384 ?rg110110001000000
                    case rgs383 => (go_simp; exact hK)
                    exact AllReadyIn.nil
                    refine wpAnyIn_ready (rs := [1, 2, 8]) (by kernel_rfl) (by simp) ?rgh385
                    refine rgCons ?arg110110000000000 ?wrg110110000000000 #[true, true, false, true, true, false, false, false, false, false, false, false, false, false, false] rfl (by kernel_rfl) (fun K hK => ?rgs386) ?rgh387 ?rg110110000000000
                    case rgs386 => (go_simp; exact hK)
                    refine rgCons ?arg101110000000000 ?wrg101110000000000 #[true, false, true, true, true, false, false, false, false, false, false, false, false, false, false] rfl (by kernel_rfl) (fun K hK => ?rgs388) ?rgh389 ?rg101110000000000
                    case rgs388 => (go_simp; exact hK)
                    refine rgCons ?arg100110001000000 ?wrg100110001000000 #[true, false, false, true, true, false, false, false, true, false, false, false, false, false, false] rfl (by kernel_rfl) (fun K hK => ?rgs390) ?rgh391 ?rg100110001000000
                    case rgs390 => (go_simp; exact hK)
                    exact AllReadyIn.nil
                    refine wpAnyIn_ready (rs := [0, 1, 4, 8]) (by kernel_rfl) (by simp) ?rgh392
                    refine rgCons ?arg101100000000000 ?wrg101100000000000 #[true, false, true, true, false, false, false, false, false, false, false, false, false, false, false] rfl (by kernel_rfl) (fun K hK => ?rgs393) ?rgh394 ?rg101100000000000
                    case rgs393 => (go_simp; exact hK)
                    refine rgCons ?arg011100000000000 ?wrg011100000000000 #[false, true, true, true, false, false, false, false, false, false, false, false, false, false, false] rfl (by kernel_rfl) (fun K hK => ?rgs395) ?rgh396 ?rg011100000000000
                    case rgs395 => (go_simp; exact hK)
                    refine rgCons ?arg001110000000000 ?wrg001110000000000 #[false, false, true, true, true, false, false, false, false, false, false, false, false, false, false] rfl (by kernel_rfl) (fun K hK => ?rgs397) ?rgh398 ?rg001110000000000
                    case rgs397 => (go_simp; exact hK)
                    refine rgCons ?arg001100001000000 ?wrg001100001000000 #[false, false, true, true, false, false, false, false, true, false, false, false, false, false, false] rfl (by kernel_rfl) (fun K hK => ?rgs399) ?rgh400 ?rg001100001000000
                    case rgs399 => (go_simp; exact hK)
                    exact AllReadyIn.nil
                    refine wpAnyIn_ready (rs := [0, 4, 8]) (by kernel_rfl) (by simp) ?rgh401
                    refine rgCons ?arg111100000000000 ?wrg111100000000000 #[true, true, true, true, false, false, false, false, false, false, false, false, false, false, false] rfl (by kernel_rfl) (fun K hK => ?rgs402) ?rgh403 ?rg111100000000000
                    case rgs402 => (go_simp; exact hK)
                    refine rgCons ?arg011110000000000 ?wrg011110000000000 #[false, true, true, true, true, false, false, false, false, false, false, false, false, false, false] rfl (by kernel_rfl) (fun K hK => ?rgs404) ?rgh405 ?rg011110000000000
                    case rgs404 => (go_simp; exact hK)
                    refine rgCons ?arg011100001000000 ?wrg011100001000000 #[false, true, true, true, false, false, false, false, true, false, false, false, false, false, false] rfl (by kernel_rfl) (fun K hK => ?rgs406) ?rgh407 ?rg011100001000000
                    case rgs406 => (go_simp; exact hK)
                    exact AllReadyIn.nil
                    refine wpAnyIn_ready (rs := [4, 8]) (by kernel_rfl) (by simp) ?rgh408
                    refine rgCons ?arg111110000000000 ?wrg111110000000000 #[true, true, true, true, true, false, false, false, false, false, false, false, false, false, false] rfl (by kernel_rfl) (fun K hK => ?rgs409) ?rgh410 ?rg111110000000000
                    case rgs409 => (go_simp; exact hK)
                    refine rgCons ?arg111100001000000 ?wrg111100001000000 #[true, true, true, true, false, false, false, false, true, false, false, false, false, false, false] rfl (by kernel_rfl) (fun K hK => ?rgs411) ?rgh412 ?rg111100001000000
                    case rgs411 => (go_simp; exact hK)
                    exact AllReadyIn.nil
                    refine wpAnyIn_ready (rs := [1, 4, 8]) (by kernel_rfl) (by simp) ?rgh413
                    refine rgCons ?arg111100000000000 ?wrg111100000000000 #[true, true, true, true, false, false, false, false, false, false, false, false, false, false, false] rfl (by kernel_rfl) (fun K hK => ?rgs414) ?rgh415 ?rg111100000000000
                    case rgs414 => (go_simp; exact hK)
                    refine rgCons ?arg101110000000000 ?wrg101110000000000 #[true, false, true, true, true, false, false, false, false, false, false, false, false, false, false] rfl (by kernel_rfl) (fun K hK => ?rgs416) ?rgh417 ?rg101110000000000
                    case rgs416 => (go_simp; exact hK)
                    refine rgCons ?arg101100001000000 ?wrg101100001000000 #[true, false, true, true, false, false, false, false, true, false, false, false, false, false, false] rfl (by kernel_rfl) (fun K hK => ?rgs418) ?rgh419 ?rg101100001000000
                    case rgs418 => (go_simp; exact hK)
                    exact AllReadyIn.nil
                    refine wpAnyIn_ready (rs := [0, 2, 4, 8]) (by kernel_rfl) (by simp) ?rgh420
                    refine rgCons ?arg110100000000000 ?wrg110100000000000 #[true, true, false, true, false, false, false, false, false, false, false, false, false, false, false] rfl (by kernel_rfl) (fun K hK => ?rgs421) ?rgh422 ?rg110100000000000
                    case rgs421 => (go_simp; exact hK)
                    refine rgCons ?arg011100000000000 ?wrg011100000000000 #[false, true, true, true, false, false, false, false, false, false, false, false, false, false, false] rfl (by kernel_rfl) (fun K hK => ?rgs423) ?rgh424 ?rg011100000000000
                    case rgs423 => (go_simp; exact hK)
                    refine rgCons ?arg010110000000000 ?wrg010110000000000 #[false, true, false, true, true, false, false, false, false, false, false, false, false, false, false] rfl (by kernel_rfl) (fun K hK => ?rgs425) ?rgh426 ?rg010110000000000
                    case rgs425 => (go_simp; exact hK)
                    refine rgCons ?arg010100001000000 ?wrg010100001000000 #[false, true, false, true, false, false, false, false, true, false, false, false, false, false, false] rfl (by kernel_rfl) (fun K hK => ?rgs427) ?rgh428 ?rg010100001000000
                    case rgs427 => (go_simp; exact hK)
                    exact AllReadyIn.nil
                    refine wpAnyIn_ready (rs := [2, 4, 8]) (by kernel_rfl) (by simp) ?rgh429
                    refine rgCons ?arg111100000000000 ?wrg111100000000000 #[true, true, true, true, false, false, false, false, false, false, false, false, false, false, false] rfl (by kernel_rfl) (fun K hK => ?rgs430) ?rgh431 ?rg111100000000000
                    case rgs430 => (go_simp; exact hK)
                    refine rgCons ?arg110110000000000 ?wrg110110000000000 #[true, true, false, true, true, false, false, false, false, false, false, false, false, false, false] rfl (by kernel_rfl) (fun K hK => ?rgs432) ?rgh433 ?rg110110000000000
                    case rgs432 => (go_simp; exact hK)
                    refine rgCons ?arg110100001000000 ?wrg110100001000000 #[true, true, false, true, false, false, false, false, true, false, false, false, false, false, false] rfl (by kernel_rfl) (fun K hK => ?rgs434) ?rgh435 ?rg110100001000000
                    case rgs434 => (go_simp; exact hK)
                    exact AllReadyIn.nil
                    refine wpAnyIn_ready (rs := [1, 2, 4, 8]) (by kernel_rfl) (by simp) ?rgh436
                    refine rgCons ?arg110100000000000 ?wrg110100000000000 #[true, true, false, true, false, false, false, false, false, false, false, false, false, false, false] rfl (by kernel_rfl) (fun K hK => ?rgs437) ?rgh438 ?rg110100000000000
                    case rgs437 => (go_simp; exact hK)
                    refine rgCons ?arg101100000000000 ?wrg101100000000000 #[true, false, true, true, false, false, false, false, false, false, false, false, false, false, false] rfl (by kernel_rfl) (fun K hK => ?rgs439) ?rgh440 ?rg101100000000000
                    case rgs439 => (go_simp; exact hK)
                    refine rgCons ?arg100110000000000 ?wrg100110000000000 #[true, false, false, true, true, false, false, false, false, false, false, false, false, false, false] rfl (by kernel_rfl) (fun K hK => ?rgs441) ?rgh442 ?rg100110000000000
                    case rgs441 => (go_simp; exact hK)
                    refine rgCons ?arg100100001000000 ?wrg100100001000000 #[true, false, false, true, false, false, false, false, true, false, false, false, false, false, false] rfl (by kernel_rfl) (fun K hK => ?rgs443) ?rgh444 ?rg100100001000000
                    case rgs443 => (go_simp; exact hK)
                    exact AllReadyIn.nil
                    refine wpAnyIn_ready (rs := [0, 1, 3, 8]) (by kernel_rfl) (by simp) ?rgh445
                    refine rgCons ?arg101000000000000 ?wrg101000000000000 #[true, false, true, false, false, false, false, false, false, false, false, false, false, false, false] rfl (by kernel_rfl) (fun K hK => ?rgs446) ?rgh447 ?rg101000000000000
                    case rgs446 => (go_simp; exact hK)
                    refine rgCons ?arg011000000000000 ?wrg011000000000000 #[false, true, true, false, false, false, false, false, false, false, false, false, false, false, false] rfl (by kernel_rfl) (fun K hK => ?rgs448) ?rgh449 ?rg011000000000000
                    case rgs448 => (go_simp; exact hK)
                    refine rgCons ?arg001100000000000 ?wrg001100000000000 #[false, false, true, true, false, false, false, false, false, false, false, false, false, false, false] rfl (by kernel_rfl) (fun K hK => ?rgs450) ?rgh451 ?rg001100000000000
                    case rgs450 => (go_simp; exact hK)
                    refine rgCons ?arg001000001000000 ?wrg001000001000000 #[false, false, true, false, false, false, false, false, true, false, false, false, false, false, false] rfl (by kernel_rfl) (fun K hK => ?rgs452) ?rgh453 ?rg001000001000000
                    case rgs452 => (go_simp; exact hK)
                    exact AllReadyIn.nil
                    refine wpAnyIn_ready (rs := [0, 3, 8]) (by kernel_rfl) (by simp) ?rgh454
                    refine rgCons ?arg111000000000000 ?wrg111000000000000 #[true, true, true, false, false, false, false, false, false, false, false, false, false, false, false] rfl (by kernel_rfl) (fun K hK => ?rgs455) ?rgh456 ?rg111000000000000
                    case rgs455 => (go_simp; exact hK)
                    refine rgCons ?arg011100000000000 ?wrg011100000000000 #[false, true, true, true, false, false, false, false, false, false, false, false, false, false, false] rfl (by kernel_rfl) (fun K hK => ?rgs457) ?rgh458 ?rg011100000000000
                    case rgs457 => (go_simp; exact hK)
                    refine rgCons ?arg011000001000000 ?wrg011000001000000 #[false, true, true, false, false, false, false, false, true, false, false, false, false, false, false] rfl (by kernel_rfl) (fun K hK => ?rgs459) ?rgh460 ?rg011000001000000
                    case rgs459 => (go_simp; exact hK)
                    exact AllReadyIn.nil
                    refine wpAnyIn_ready (rs := [3, 8]) (by kernel_rfl) (by simp) ?rgh461
                    refine rgCons ?arg111100000000000 ?wrg111100000000000 #[true, true, true, true, false, false, false, false, false, false, false, false, false, false, false] rfl (by kernel_rfl) (fun K hK => ?rgs462) ?rgh463 ?rg111100000000000
                    case rgs462 => (go_simp; exact hK)
                    refine rgCons ?arg111000001000000 ?wrg111000001000000 #[true, true, true, false, false, false, false, false, true, false, false, false, false, false, false] rfl (by kernel_rfl) (fun K hK => ?rgs464) ?rgh465 ?rg111000001000000
                    case rgs464 => (go_simp; exact hK)
                    exact AllReadyIn.nil
                    refine wpAnyIn_ready (rs := [1, 3, 8]) (by kernel_rfl) (by simp) ?rgh466
                    refine rgCons ?arg111000000000000 ?wrg111000000000000 #[true, true, true, false, false, false, false, false, false, false, false, false, false, false, false] rfl (by kernel_rfl) (fun K hK => ?rgs467) ?rgh468 ?rg111000000000000
                    case rgs467 => (go_simp; exact hK)
                    refine rgCons ?arg101100000000000 ?wrg101100000000000 #[true, false, true, true, false, false, false, false, false, false, false, false, false, false, false] rfl (by kernel_rfl) (fun K hK => ?rgs469) ?rgh470 ?rg101100000000000
                    case rgs469 => (go_simp; exact hK)
                    refine rgCons ?arg101000001000000 ?wrg101000001000000 #[true, false, true, false, false, false, false, false, true, false, false, false, false, false, false] rfl (by kernel_rfl) (fun K hK => ?rgs471) ?rgh472 ?rg101000001000000
                    case rgs471 => (go_simp; exact hK)
                    exact AllReadyIn.nil
                    refine wpAnyIn_ready (rs := [0, 2, 3, 8]) (by kernel_rfl) (by simp) ?rgh473
                    refine rgCons ?arg110000000000000 ?wrg110000000000000 #[true, true, false, false, false, false, false, false, false, false, false, false, false, false, false] rfl (by kernel_rfl) (fun K hK => ?rgs474) ?rgh475 ?rg110000000000000
                    case rgs474 => (go_simp; exact hK)
                    refine rgCons ?arg011000000000000 ?wrg011000000000000 #[false, true, true, false, false, false, false, false, false, false, false, false, false, false, false] rfl (by kernel_rfl) (fun K hK => ?rgs476) ?rgh477 ?rg011000000000000
                    case rgs476 => (go_simp; exact hK)
                    refine rgCons ?arg010100000000000 ?wrg010100000000000 #[false, true, false, true, false, false, false, false, false, false, false, false, false, false, false] rfl (by kernel_rfl) (fun K hK => ?rgs478) ?rgh479 ?rg010100000000000
                    case rgs478 => (go_simp; exact hK)
                    refine rgCons ?arg010000001000000 ?wrg010000001000000 #[false, true, false, false, false, false, false, false, true, false, false, false, false, false, false] rfl (by kernel_rfl) (fun K hK => ?rgs480) ?rgh481 ?rg010000001000000
                    case rgs480 => (go_simp; exact hK)
                    exact AllReadyIn.nil
                    refine wpAnyIn_ready (rs := [2, 3, 8]) (by kernel_rfl) (by simp) ?rgh482
                    refine rgCons ?arg111000000000000 ?wrg111000000000000 #[true, true, true, false, false, false, false, false, false, false, false, false, false, false, false] rfl (by kernel_rfl) (fun K hK => ?rgs483) ?rgh484 ?rg111000000000000
                    case rgs483 => (go_simp; exact hK)
                    refine rgCons ?arg110100000000000 ?wrg110100000000000 #[true, true, false, true, false, false, false, false, false, false, false, false, false, false, false] rfl (by kernel_rfl) (fun K hK => ?rgs485) ?rgh486 ?rg110100000000000
                    case rgs485 => (go_simp; exact hK)
                    refine rgCons ?arg110000001000000 ?wrg110000001000000 #[true, true, false, false, false, false, false, false, true, false, false, false, false, false, false] rfl (by kernel_rfl) (fun K hK => ?rgs487) ?rgh488 ?rg110000001000000
                    case rgs487 => (go_simp; exact hK)
                    exact AllReadyIn.nil
                    refine wpAnyIn_ready (rs := [1, 2, 3, 8]) (by kernel_rfl) (by simp) ?rgh489
                    refine rgCons ?arg110000000000000 ?wrg110000000000000 #[true, true, false, false, false, false, false, false, false, false, false, false, false, false, false] rfl (by kernel_rfl) (fun K hK => ?rgs490) ?rgh491 ?rg110000000000000
                    case rgs490 => (go_simp; exact hK)
                    refine rgCons ?arg101000000000000 ?wrg101000000000000 #[true, false, true, false, false, false, false, false, false, false, false, false, false, false, false] rfl (by kernel_rfl) (fun K hK => ?rgs492) ?rgh493 ?rg101000000000000
                    case rgs492 => (go_simp; exact hK)
                    refine rgCons ?arg100100000000000 ?wrg100100000000000 #[true, false, false, true, false, false, false, false, false, false, false, false, false, false, false] rfl (by kernel_rfl) (fun K hK => ?rgs494) ?rgh495 ?rg100100000000000
                    case rgs494 => (go_simp; exact hK)
                    refine rgCons ?arg100000001000000 ?wrg100000001000000 #[true, false, false, false, false, false, false, false, true, false, false, false, false, false, false] rfl (by kernel_rfl) (fun K hK => ?rgs496) ?rgh497 ?rg100000001000000
                    case rgs496 => (go_simp; exact hK)
                    exact AllReadyIn.nil
                    refine wpAnyIn_done (by kernel_rfl) ?_ _
                    gi_wp2_with fail
                    go_roundw
                    case measure => simp [intOf]; omega
                    case rel =>
                      refine ⟨m + 1, by go_num, by omega, ⟨?_⟩, ⟨HM.out.trans HMP6.out⟩⟩
                      have e : (copyN m a d.out).getD (a + m) 0 = x := by rw [HL.out]; exact HX.out
                      rw [copyN_succ, e]
                      exact HES6.out
                  · have tm : decide ((m : Int) < (n : Int)) = false := decide_eq_false (by omega)
                    obtain rfl : m = n := by omega
                    gi_wp2_with fail
                    exact close_normal hlt HGO.out (step_large h7 h6 hbig HKN.out HLG.out hbt h256 (by rw [Nat.add_sub_cancel]; exact HPK.out)) HE.out HFQ.out HM.out _
          · have tj : decide ((0 : Int) < (j : Int)) = false := decide_eq_false (by omega)
            obtain ⟨P, hP⟩ : ∃ P, d.known = P := ⟨_, rfl⟩
            have HES1 : Aside0 (ES W D ⟨P, d.last, d.total, d.out⟩) := ⟨by rw [← hP]; exact HES.out⟩
            have HMP1 : Aside0 (Mp (fun i => i = D + 1 ∨ i = D + 2 ∨ i = D + 4 ∨ i = D + 5) (D + 7) W W) := ⟨Mp.refl _ _ _⟩
            have HP := Aside0.mk hP
            clear hP
            obtain ⟨W2, rfl⟩ : ∃ W2, W2 = W := ⟨_, rfl⟩
            have HKN : Aside0 (kn d j = P) := ⟨by unfold kn; rw [if_neg hj0]; exact HP.out⟩
            have h256 : c < 256 := by omega
            have HLG : Aside0 (longOf P c = 1) := ⟨by unfold longOf; rw [if_neg (by omega)]⟩
            by_cases hbt : 65536 < d.total + 1
            · skip
              have t256 : decide ((256 : Int) < (c : Int)) = false := decide_eq_false (by omega)
              have tl : decide ((c : Int) < 256) = true := decide_eq_true (by omega)
              have tt : decide ((65536 : Int) < (d.total : Int) + 1) = true := decide_eq_true (by omega)
              have c2 := blk_cell HES1.out.total 0
              have n2 : D + 2 ≠ W2.heap.size := (by have := HES1.out.lb; omega)
              have n5 : D + 5 ≠ W2.heap.size := (by have := HES1.out.lb; omega)
              have n2' := n2.symm
              have n5' := n5.symm
              have g2 := al2 HES1.out.total HES1.out.lb
              have g50 := al5 HES1.out.last HES1.out.lb
              gi_wp2_with fail
              obtain ⟨hes5, hmp5, _⟩ := fin HES1.out HMP1.out 1 1 rfl ((d.total : Int) + 1) rfl
              exact close_normal hlt HGO.out (step_big h7 h6 hbig HKN.out HLG.out hbt) hes5 HFQ.out hmp5 _
            · skip
              have t256 : decide ((256 : Int) < (c : Int)) = false := decide_eq_false (by omega)
              have tl : decide ((c : Int) < 256) = true := decide_eq_true (by omega)
              have tt : decide ((65536 : Int) < (d.total : Int) + 1) = false := decide_eq_false (by omega)
              have c2 := blk_cell HES1.out.total 0
              have n2 : D + 2 ≠ W2.heap.size := (by have := HES1.out.lb; omega)
              have n5 : D + 5 ≠ W2.heap.size := (by have := HES1.out.lb; omega)
              have n2' := n2.symm
              have n5' := n5.symm
              have g2 := al2 HES1.out.total HES1.out.lb
              have g50 := al5 HES1.out.last HES1.out.lb
              obtain ⟨vo, hvo, ho8⟩ := HES1.out.out
              obtain ⟨Ao, co, rfl⟩ := own_slice ho8
              have g1 := al1 hvo HES1.out.lb
              have HVO := Aside0.mk hvo
              have HO8 := Aside0.mk ho8
              clear hvo ho8
              gi_wp2_with (with_reducible refine brkB (b := .append) (xs := #[.tmp 63, .tmp 66]) rfl ?_)
              refine ⟨?_⟩
              obtain ⟨hes5, hmp5, hk5⟩ := fin HES1.out HMP1.out 1 1 rfl ((d.total : Int) + 1) rfl
              obtain ⟨W5, hW5⟩ : ∃ W5, (((W2.alloc (.cells #[.int .i64 d.total, .int .i64 1] 85)).setCell ⟨D + 2, 0, none⟩ (.int .i64 ((d.total : Int) + 1))).setCell ⟨D + 5, 0, none⟩ (.int .i64 d.total)).setCell ⟨D + 5, 1, none⟩ (.int .i64 1) = W5 := ⟨_, rfl⟩
              have hz5 : W5.heap.size = W2.heap.size + 1 := by rw [← hW5]; simp
              rw [hW5] at hes5 hmp5 hk5 ⊢
              clear hW5
              obtain ⟨v5, hv5, ho5⟩ := hes5.out
              have hv5' := (hk5 (D + 1) (by omega) (by omega)).trans HVO.out
              have he5 := hv5.symm.trans hv5'
              obtain rfl := bx_inj he5
              refine append_octet_in (D + 7) rfl (.tmp 63) (.tmp 66) rfl (.slice Ao d.out.length co) d.out c (W2.heap.size + 1) 1 rfl rfl (ho5.alloc _) (by rw [← hz5]; exact World.alloc_heap_new W5 _) ?hb2 ?hl2 ?_
              case hb2 => simp; have := hes5.lb; omega
              case hl2 => have := HDI.out.outle; omega
              intro v6 w6 ho6 hg6
              obtain ⟨A6, c6, rfl⟩ := own_slice ho6
              obtain ⟨hes6, hmp6, he6⟩ := hes5.addOut hv5 (c : Int) _ ho6 hg6
              have HES6 := Aside0.mk hes6
              have HMP6 := Aside0.mk (hmp5.trans hmp6)
              have c6x := blk_cell he6 0
              have f6x := blk_frozen he6 0
              clear ho6 hg6 hes6 hmp6 he6 hes5 hmp5 hk5 hv5 ho5 hv5' he5
              gi_wp2_with fail
              exact close_normal hlt HGO.out (step_small h7 h6 hbig HKN.out HLG.out hbt h256) HES6.out HFQ.out HMP6.out _
  case done =>
    rintro E xs W hE hS ⟨d, hgo, hes, hfq⟩ hK
    have hres : R = (d.out, d.total, false, 0) := by
      rw [← HR.out]
      unfold expandL
      have e : items ((bytesOf s).length + 1) (bytesOf s) 0 ⟨0, 0, 0⟩ = xs ++ [] := by rw [List.append_nil]; exact hS.symm
      rw [e, expandR_go _ _ _ _ hgo]
      rfl
    obtain ⟨v, hv, ho⟩ := hes.out
    obtain ⟨A, cc, rfl⟩ := own_slice ho
    have hok := (hfq.block (D + 3) (by omega) (by unfold pB; omega)).trans hst.ok
    obtain ⟨y1, y2, y3, y4, y5⟩ := finish (at_ := 0) HD.out hlt hst hes hv hok (hfq.weak (q := pX D b) (fun i h => by unfold pB at h; unfold pX; omega)) (by have := hst.size; omega) hK (fun h => by cases h) rfl
    have m1 : W.cell? ⟨D + 1, 0, none⟩ = some (.slice A d.out.length cc) := blk_cell hv 0
    have m2 : W.cell? ⟨D + 2, 0, none⟩ = some (.int .i64 d.total) := blk_cell hes.total 0
    have m3 : W.cell? ⟨D + 3, 0, none⟩ = some (.bool false) := blk_cell hok 0
    have f1 := blk_frozen hv 0
    have f2 := blk_frozen hes.total 0
    have f3 := blk_frozen hok 0
    have hmix : Try.prog.follows .mixedOrders = true := by kernel_rfl
    have Y1 := Aside0.mk y1
    have Y2 := Aside0.mk y2
    have Y3 := Aside0.mk y3
    have Y4 := Aside0.mk y4
    have Y5 := Aside0.mk y5
    have HRES := Aside0.mk hres
    clear y1 y2 y3 y4 y5 hres hv ho hok hes hfq hgo hst hseq hS hK
    gi_wp2_with fail
    gi_region
    all_goals
      gi_wp2_with fail
      refine ⟨by simp, .inl ⟨_, _, rfl, run_takeDeferred Y1.out, ?_⟩⟩
      refine ⟨.tuple #[.slice A d.out.length cc, .int .i64 d.total, .bool false], by simp [results, Try.f21, go_sem, Y2.out, Y3.out, Y4.out], ?_⟩
      rw [HRES.out]
      exact Y5.out
  case stop =>
    rintro E c pre W hE ⟨rest, hrest⟩ ⟨p0, x, d, rfl, hgo, hstep, rfl, hes, hok, hbb, hfq⟩ hK
    have hres : R = (d.out, d.total, (x.code == 257 && x.rs.bits == 0), x.rs.at_) := by
      rw [← HR.out]
      unfold expandL
      have e : items ((bytesOf s).length + 1) (bytesOf s) 0 ⟨0, 0, 0⟩ = p0 ++ (x :: rest) := by
        have : allIt (bytesOf s) = p0 ++ (x :: rest) := by rw [← hrest]; simp
        exact this
      rw [e, expandR_go _ _ _ _ hgo]
      simp only [expandR, hstep]
    obtain ⟨okb, hokb⟩ : ∃ okb, (x.code == 257 && x.rs.bits == 0) = okb := ⟨_, rfl⟩
    rw [hokb] at hres hok
    obtain ⟨v, hv, ho⟩ := hes.out
    obtain ⟨A, cc, rfl⟩ := own_slice ho
    obtain ⟨y1, y2, y3, y4, y5⟩ := finish (at_ := x.rs.at_) HD.out hlt hst hes hv hok hfq (by have := hst.size; omega) hK (fun h => ⟨x.j, x.rs, hbb, rfl⟩) rfl
    have m1 : W.cell? ⟨D + 1, 0, none⟩ = some (.slice A d.out.length cc) := blk_cell hv 0
    have m2 : W.cell? ⟨D + 2, 0, none⟩ = some (.int .i64 d.total) := blk_cell hes.total 0
    have m3 : W.cell? ⟨D + 3, 0, none⟩ = some (.bool okb) := blk_cell hok 0
    have f1 := blk_frozen hv 0
    have f2 := blk_frozen hes.total 0
    have f3 := blk_frozen hok 0
    have hmix : Try.prog.follows .mixedOrders = true := by kernel_rfl
    have Y1 := Aside0.mk y1
    have Y2 := Aside0.mk y2
    have Y3 := Aside0.mk y3
    have Y4 := Aside0.mk y4
    have Y5 := Aside0.mk y5
    have HRES := Aside0.mk hres
    clear y1 y2 y3 y4 y5 hres hv ho hok hes hfq hgo hst hseq hK hbb hokb hstep hrest
    dsimp only
    gi_wp2_with fail
    gi_region
    all_goals
      gi_wp2_with fail
      refine ⟨by simp, .inl ⟨_, _, rfl, run_takeDeferred Y1.out, ?_⟩⟩
      refine ⟨.tuple #[.slice A d.out.length cc, .int .i64 d.total, .bool okb], by simp [results, Try.f21, go_sem, Y2.out, Y3.out, Y4.out], ?_⟩
      rw [HRES.out]
      exact Y5.out
end Go.Proofs.Ytfkiacbjiledcaa.G06e
