/- Memory words for the expansion of codes (chapter 06). -/
import Derived.Test.YtfkiacbjiledcaaG06i
import Derived.Test.YtfkiacbjiledcaaL06d
import Derived.Maps.OwnIn
namespace Go.Proofs.Ytfkiacbjiledcaa.E06
open Go.RowKit Go.Proofs.YtfkiacbjiledcaaW.PrintWords Go.Proofs.YtfkiacbjiledcaaW.PrintLast Go.Proofs.YtfkiacbjiledcaaW.PrintMore
open Go.Proofs.Ytfkiacbjiledcaa.K06 Go.Proofs.Ytfkiacbjiledcaa.G06 Go.Proofs.Ytfkiacbjiledcaa.M06 Go.Proofs.Ytfkiacbjiledcaa.G06r Go.Proofs.Ytfkiacbjiledcaa.Q06 Go.Proofs.Ytfkiacbjiledcaa.G06i Go.Proofs.Ytfkiacbjiledcaa.L06d
set_option linter.unusedVariables false
set_option maxRecDepth 100000
theorem info85 : (Try.prog.info? 85).map (fun i => (i.zero, i.size, i.bytes)) = some (some (.agg #[.int .i64 0, .int .i64 0]), 2, 16) := by kernel_rfl
/-- The cells of parts. -/
def pcells (P : List (Nat × Nat)) : List Value := P.flatMap fun q => [.int .i64 q.1, .int .i64 q.2]
def Own85 (W : World) (base : Nat) (v : Value) (P : List (Nat × Nat)) : Prop := W.ownsRow base 85 2 v P.length (pcells P)
theorem pcells_len (P : List (Nat × Nat)) : (pcells P).length = P.length * 2 := by
  unfold pcells
  induction P with
  | nil => rfl
  | cons q P ih => rw [List.flatMap_cons, List.length_append, ih]; simp; omega
theorem pcells_snoc (P : List (Nat × Nat)) (q : Nat × Nat) : pcells (P ++ [q]) = pcells P ++ [.int .i64 q.1, .int .i64 q.2] := by unfold pcells; rw [List.flatMap_append]; simp
theorem pcells_at : ∀ (P : List (Nat × Nat)) (k : Nat) (a n : Nat), P[k]? = some (a, n) → (pcells P)[k * 2]? = some (.int .i64 a) ∧ (pcells P)[k * 2 + 1]? = some (.int .i64 n)
  | [], k, a, n, h => by simp at h
  | q :: P, 0, a, n, h => by
    simp only [List.getElem?_cons_zero, Option.some.injEq] at h
    subst h
    exact ⟨rfl, rfl⟩
  | q :: P, k + 1, a, n, h => by
    simp only [List.getElem?_cons_succ] at h
    obtain ⟨h1, h2⟩ := pcells_at P k a n h
    have e : pcells (q :: P) = [.int .i64 q.1, .int .i64 q.2] ++ pcells P := rfl
    rw [e, show (k + 1) * 2 = k * 2 + 2 by omega, show k * 2 + 2 + 1 = k * 2 + 1 + 2 by omega]
    exact ⟨h1, h2⟩
theorem addp (g j : Nat) : (⟨g, 0, none⟩ : Addr).add j = ⟨g, j, none⟩ := by
  unfold Addr.add
  split <;> simp_all
theorem part_cells {W : World} {base : Nat} {v : Value} {P : List (Nat × Nat)} (h : Own85 W base v P) {k a n : Nat} (hk : P[k]? = some (a, n)) :
    ∃ g c, v = .slice (some ⟨g, 0, none⟩) P.length c ∧ v.ownBlock = some g ∧ W.cell? ⟨g, k * 2, none⟩ = some (.int .i64 a) ∧ W.cell? ⟨g, k * 2 + 1, none⟩ = some (.int .i64 n) := by
  have hlt := (List.getElem?_eq_some_iff.1 hk).1
  rcases h.2 with ⟨_, h0⟩ | ⟨g, cap, cur, hv, _⟩
  · omega
  · subst hv
    obtain ⟨h1, h2⟩ := pcells_at P k a n hk
    have hc := World.ownsRow.cells h (g := g) rfl
    refine ⟨g, cap, rfl, rfl, ?_, ?_⟩
    · have := hc _ _ h1; rwa [addp] at this
    · have := hc _ _ h2; rwa [addp] at this
theorem own8_cells {W : World} {base : Nat} {v : Value} {l : List Int} (h : Own8 W base v l) {k : Nat} (hk : k < l.length) :
    ∃ g c, v = .slice (some ⟨g, 0, none⟩) l.length c ∧ v.ownBlock = some g ∧ W.cell? ⟨g, k, none⟩ = some (.int .u8 (l.getD k 0)) := by
  rcases h.2 with ⟨_, h0⟩ | ⟨g, cap, cur, hv, _⟩
  · omega
  · subst hv
    have hc := World.ownsRow.cells h (g := g) rfl
    refine ⟨g, cap, rfl, rfl, ?_⟩
    have := hc k (.int .u8 (l.getD k 0)) (by unfold nums; rw [List.getElem?_map, List.getElem?_eq_getElem hk, List.getD_eq_getElem?_getD, List.getElem?_eq_getElem hk]; rfl)
    rwa [addp] at this
/-- From W to W' only the blocks p and what lies from base on have turned; whatever is no cells lies as it lay. -/
structure Mp (p : Nat → Prop) (base : Nat) (W W' : World) : Prop where
  os : W'.os = W.os
  tape : W'.tape = W.tape
  output : W'.output = W.output
  size : W.heap.size ≤ W'.heap.size
  block : ∀ i, i < base → ¬ p i → W'.heap[i]? = W.heap[i]?
  others : KeepsOthers W W'
theorem Mp.refl (p : Nat → Prop) (base : Nat) (W : World) : Mp p base W W := ⟨rfl, rfl, rfl, Nat.le_refl _, fun _ _ _ => rfl, KeepsOthers.refl _⟩
theorem Mp.trans {p : Nat → Prop} {base : Nat} {A B C : World} (h : Mp p base A B) (k : Mp p base B C) : Mp p base A C :=
  ⟨k.os.trans h.os, k.tape.trans h.tape, k.output.trans h.output, Nat.le_trans h.size k.size, fun i h1 h2 => (k.block i h1 h2).trans (h.block i h1 h2), h.others.trans k.others⟩
theorem Mp.weak {p q : Nat → Prop} {base : Nat} {A B : World} (h : Mp p base A B) (hpq : ∀ i, p i → q i) : Mp q base A B :=
  ⟨h.os, h.tape, h.output, h.size, fun i h1 h2 => h.block i h1 (fun e => h2 (hpq i e)), h.others⟩
theorem Mp.of_below {p : Nat → Prop} {base : Nat} {W W' : World} (hb : Below W.heap.size W W') (hB : base ≤ W.heap.size) : Mp p base W W' :=
  ⟨hb.os, hb.tape, hb.output, hb.size, fun i h1 _ => hb.block i (by omega), ⟨hb.size, fun k o hk _ => (hb.block k (Array.getElem?_eq_some_iff.1 hk).1).trans hk⟩⟩
theorem Mp.grown {p : Nat → Prop} {base : Nat} {W W' : World} {row : Option Nat} (hg : W.grownBy W' row) (hr : ∀ k, row = some k → base ≤ k) (hc : ∀ (j : Nat) (o : Obj), row = some j → W.heap[j]? = some o → o.isCells = true) (hB : base ≤ W.heap.size) : Mp p base W W' :=
  ⟨hg.os, hg.tape, hg.output, hg.size, fun i h1 _ => hg.block i (by omega) (fun e => by have := hr i e.symm; omega), KeepsOthers.of_grownBy hg hc⟩
theorem Mp.set {p : Nat → Prop} {base : Nat} (W : World) (g j : Nat) (hg : p g) (v : Value) : Mp p base W (W.setCell ⟨g, j, none⟩ v) :=
  ⟨rfl, rfl, rfl, by simp, fun i _ h2 => Below.heap_setCell W ⟨g, j, none⟩ v i (fun e => h2 (e ▸ hg)), KeepsOthers.setCell W _ _⟩
theorem Mp.new {p : Nat → Prop} {base : Nat} (W : World) (o : Obj) (hB : base ≤ W.heap.size) : Mp p base W (W.alloc o) := Mp.of_below ((Below.refl _ _).alloc (Nat.le_refl _) o) hB
theorem own_typed_cells {W : World} {base n size : Nat} {e : TypeId} {v : Value} {xs : List Value} (h : W.ownsRow base e size v n xs) : ∀ (j : Nat) (o : Obj), v.ownBlock = some j → W.heap[j]? = some o → o.isCells = true := by
  intro j o hj ho
  obtain ⟨cs, hc⟩ := own_typed h j hj
  rw [hc] at ho
  cases ho
  rfl
/-- The blocks of the call's own: D + 1 the octets, D + 2 their number, D + 3 whether the codes are right, D + 4 the parts, D + 5 the last part. -/
structure ES (W : World) (D : Nat) (d : Ds) : Prop where
  out : ∃ v, W.heap[D + 1]? = some (.cells #[v] 32 (0, 0)) ∧ Own8 W (D + 7) v d.out
  total : W.heap[D + 2]? = some (.cells #[.int .i64 d.total] 3 (0, 0))
  known : ∃ v, W.heap[D + 4]? = some (.cells #[v] 83 (0, 0)) ∧ Own85 W (D + 7) v d.known
  last : W.heap[D + 5]? = some (.cells #[.int .i64 d.last.1, .int .i64 d.last.2] 85 (0, 0))
  lb : D + 7 ≤ W.heap.size
theorem ES.grown {W W' : World} {D : Nat} {d : Ds} {row : Option Nat} (h : ES W D d) (hg : W.grownBy W' row) (hr : ∀ r, row = some r → (r < D + 1 ∨ D + 6 ≤ r) ∧ (D + 7 ≤ r → ∃ o : Obj, W.heap[r]? = some o ∧ o.isCells = false)) : ES W' D d := by
  obtain ⟨⟨v, h1, h2⟩, h3, ⟨u, h4, h5⟩, h6, h7⟩ := h
  have ne : ∀ k, D + 1 ≤ k → k < D + 6 → some k ≠ row := fun k h1 h2 e => by have := (hr k e.symm).1; omega
  have far : ∀ {e : TypeId} {size n : Nat} {v : Value} {xs : List Value}, W.ownsRow (D + 7) e size v n xs → v.ownBlock = none ∨ v.ownBlock ≠ row := by
    intro e size n v xs ho
    cases hv : v.ownBlock with
    | none => exact .inl rfl
    | some k =>
      refine .inr fun e => ?_
      obtain ⟨o, ho2, hc⟩ := (hr k e.symm).2 (own_base ho k hv)
      rw [own_typed_cells ho k o hv ho2] at hc
      cases hc
  exact ⟨⟨v, blk_grown h1 hg (ne _ (by omega) (by omega)), own_other h2 hg (far h2)⟩, blk_grown h3 hg (ne _ (by omega) (by omega)), ⟨u, blk_grown h4 hg (ne _ (by omega) (by omega)), own_other h5 hg (far h5)⟩, blk_grown h6 hg (ne _ (by omega) (by omega)), Nat.le_trans h7 hg.size⟩
theorem ES.below {W W' : World} {D : Nat} {d : Ds} (h : ES W D d) (hb : Below W.heap.size W W') : ES W' D d :=
  h.grown (G06.grown_of_below hb none) (fun r e => by cases e)
theorem ES.far {W : World} {D : Nat} {d : Ds} (h : ES W D d) (g j : Nat) (h1 : g ≠ D + 1) (h2 : g ≠ D + 2) (h4 : g ≠ D + 4) (h5 : g ≠ D + 5) (hlt : g < D + 7) (v : Value) : ES (W.setCell ⟨g, j, none⟩ v) D d := by
  obtain ⟨⟨u, k1, k2⟩, k3, ⟨x, k4, k5⟩, k6, k7⟩ := h
  have q : ∀ k (o : Obj), W.heap[k]? = some o → g ≠ k → (W.setCell ⟨g, j, none⟩ v).heap[k]? = some o := fun k o hk hne => (Below.heap_setCell W ⟨g, j, none⟩ v k (fun e => hne e.symm)).trans hk
  exact ⟨⟨u, q _ _ k1 h1, own_setCell (p := ⟨g, j, none⟩) k2 (by intro e; have := own_base k2 g e.symm; omega) v⟩, q _ _ k3 h2, ⟨x, q _ _ k4 h4, own_setCell (p := ⟨g, j, none⟩) k5 (by intro e; have := own_base k5 g e.symm; omega) v⟩, q _ _ k6 h5, by simpa using k7⟩
/-- The number of octets is set anew. -/
theorem ES.setTotal {W : World} {D : Nat} {d : Ds} (h : ES W D d) (t : Nat) : ES (W.setCell ⟨D + 2, 0, none⟩ (.int .i64 t)) D ⟨d.known, d.last, t, d.out⟩ := by
  obtain ⟨⟨u, k1, k2⟩, k3, ⟨x, k4, k5⟩, k6, k7⟩ := h
  have q : ∀ k (o : Obj), W.heap[k]? = some o → D + 2 ≠ k → (W.setCell ⟨D + 2, 0, none⟩ (.int .i64 t)).heap[k]? = some o := fun k o hk hne => (Below.heap_setCell W ⟨D + 2, 0, none⟩ _ k (fun e => hne e.symm)).trans hk
  exact ⟨⟨u, q _ _ k1 (by omega), own_setCell (p := ⟨D + 2, 0, none⟩) k2 (by intro e; have := own_base k2 (D + 2) e.symm; omega) _⟩, (blk_set k3 0 _).trans (by simp), ⟨x, q _ _ k4 (by omega), own_setCell (p := ⟨D + 2, 0, none⟩) k5 (by intro e; have := own_base k5 (D + 2) e.symm; omega) _⟩, q _ _ k6 (by omega), by simpa using k7⟩
/-- The last part is set anew. -/
theorem ES.setLast {W : World} {D : Nat} {d : Ds} (h : ES W D d) (a n : Nat) : ES ((W.setCell ⟨D + 5, 0, none⟩ (.int .i64 a)).setCell ⟨D + 5, 1, none⟩ (.int .i64 n)) D ⟨d.known, (a, n), d.total, d.out⟩ := by
  obtain ⟨⟨u, k1, k2⟩, k3, ⟨x, k4, k5⟩, k6, k7⟩ := h
  have q : ∀ k (o : Obj), W.heap[k]? = some o → D + 5 ≠ k → ((W.setCell ⟨D + 5, 0, none⟩ (.int .i64 a)).setCell ⟨D + 5, 1, none⟩ (.int .i64 n)).heap[k]? = some o := fun k o hk hne => (Below.heap_setCell _ ⟨D + 5, 1, none⟩ _ k (fun e => hne e.symm)).trans ((Below.heap_setCell W ⟨D + 5, 0, none⟩ _ k (fun e => hne e.symm)).trans hk)
  have o : ∀ {e : TypeId} {size n' : Nat} {v : Value} {xs : List Value}, W.ownsRow (D + 7) e size v n' xs → ((W.setCell ⟨D + 5, 0, none⟩ (.int .i64 a)).setCell ⟨D + 5, 1, none⟩ (.int .i64 n)).ownsRow (D + 7) e size v n' xs := fun ho =>
    own_setCell (p := ⟨D + 5, 1, none⟩) (own_setCell (p := ⟨D + 5, 0, none⟩) ho (by intro e; have := own_base ho (D + 5) e.symm; omega) _) (by intro e; have := own_base ho (D + 5) e.symm; omega) _
  exact ⟨⟨u, q _ _ k1 (by omega), o k2⟩, q _ _ k3 (by omega), ⟨x, q _ _ k4 (by omega), o k5⟩, (blk_set (blk_set k6 0 _) 1 _).trans (by simp), by simpa using k7⟩
/-- All parts are forgotten. -/
theorem ES.noKnown {W : World} {D : Nat} {d : Ds} (h : ES W D d) : ES (W.setCell ⟨D + 4, 0, none⟩ (.slice none 0 0)) D ⟨[], d.last, d.total, d.out⟩ := by
  obtain ⟨⟨u, k1, k2⟩, k3, ⟨x, k4, k5⟩, k6, k7⟩ := h
  have q : ∀ k (o : Obj), W.heap[k]? = some o → D + 4 ≠ k → (W.setCell ⟨D + 4, 0, none⟩ (.slice none 0 0)).heap[k]? = some o := fun k o hk hne => (Below.heap_setCell W ⟨D + 4, 0, none⟩ _ k (fun e => hne e.symm)).trans hk
  exact ⟨⟨u, q _ _ k1 (by omega), own_setCell (p := ⟨D + 4, 0, none⟩) k2 (by intro e; have := own_base k2 (D + 4) e.symm; omega) _⟩, q _ _ k3 (by omega), ⟨_, (blk_set k4 0 _).trans (by simp), own_nil _ _ _ _⟩, q _ _ k6 (by omega), by simpa using k7⟩
/-- Behind an append to the parts. -/
theorem ES.addKnown {W w1 : World} {D : Nat} {d : Ds} {v v1 : Value} (h : ES W D d) (hv : W.heap[D + 4]? = some (.cells #[v] 83 (0, 0))) (q : Nat × Nat) (o : Obj) (ho : w1.ownsRow (D + 7) 85 2 v1 (d.known.length + 1) (pcells d.known ++ [.int .i64 q.1, .int .i64 q.2]))
    (hg : (W.alloc o).grownBy w1 v.ownBlock) (hat : v1.ownBlock = v.ownBlock ∨ v1.ownBlock = some (W.alloc o).heap.size) :
    ES (w1.setCell ⟨D + 4, 0, none⟩ v1) D ⟨d.known ++ [q], d.last, d.total, d.out⟩ ∧ Mp (fun i => i = D + 1 ∨ i = D + 2 ∨ i = D + 4 ∨ i = D + 5) (D + 7) W (w1.setCell ⟨D + 4, 0, none⟩ v1) ∧ w1.heap[D + 4]? = some (.cells #[v] 83 (0, 0)) := by
  obtain ⟨⟨u, k1, k2⟩, k3, ⟨x, k4, k5⟩, k6, k7⟩ := h
  rw [hv] at k4
  cases k4
  have hb : Below W.heap.size W (W.alloc o) := (Below.refl _ _).alloc (Nat.le_refl _) o
  have nv : ∀ k, k < D + 7 → some k ≠ v.ownBlock := fun k hk e => by have := own_base k5 k e.symm; omega
  have apart : u.ownBlock = none ∨ u.ownBlock ≠ v.ownBlock := by
    have := own_type_ne k2 k5 (by decide)
    exact this
  have gr : ∀ k (o' : Obj), k < D + 7 → W.heap[k]? = some o' → w1.heap[k]? = some o' := fun k o' hk he => by
    refine (hg.block k ?_ (nv k hk)).trans ((hb.block k (by omega)).trans he)
    have := hb.size; omega
  have qq : ∀ k (o' : Obj), k < D + 7 → W.heap[k]? = some o' → D + 4 ≠ k → (w1.setCell ⟨D + 4, 0, none⟩ v1).heap[k]? = some o' := fun k o' hk he hne => (Below.heap_setCell w1 ⟨D + 4, 0, none⟩ _ k (fun e => hne e.symm)).trans (gr k o' hk he)
  have o2 : Own8 w1 (D + 7) u d.out := own_other (pw_own_below k2 hb) hg apart
  have own1 := own_base ho
  refine ⟨⟨⟨u, qq _ _ (by omega) k1 (by omega), own_setCell (p := ⟨D + 4, 0, none⟩) o2 (by intro e; have := own_base o2 (D + 4) e.symm; omega) _⟩, qq _ _ (by omega) k3 (by omega), ⟨v1, (blk_set (gr _ _ (by omega) hv) 0 _).trans (by simp), ?_⟩, qq _ _ (by omega) k6 (by omega), ?_⟩, ?_, gr _ _ (by omega) hv⟩
  · unfold Own85
    rw [List.length_append, List.length_singleton, pcells_snoc]
    exact own_setCell (p := ⟨D + 4, 0, none⟩) ho (by intro e; have := own1 (D + 4) e.symm; omega) _
  · have := hg.size; have := hb.size; simp; omega
  · refine ((Mp.of_below hb k7).trans (Mp.grown hg (fun k e => own_base k5 k e) ?_ (by have := hb.size; omega))).trans (Mp.set w1 (D + 4) 0 (by omega) _)
    intro j o' hj ho'
    have hj2 : j < W.heap.size := own_lt k5 j hj
    rw [hb.block j hj2] at ho'
    exact own_typed_cells k5 j o' hj ho'
/-- Behind an append to the octets. -/
theorem ES.addOut {W w1 : World} {D : Nat} {d : Ds} {v v1 : Value} (h : ES W D d) (hv : W.heap[D + 1]? = some (.cells #[v] 32 (0, 0))) (c : Int) (o : Obj) (ho : w1.ownsRow (D + 7) 5 1 v1 (d.out.length + 1) (nums .u8 d.out ++ [.int .u8 c]))
    (hg : (W.alloc o).grownBy w1 v.ownBlock) :
    ES (w1.setCell ⟨D + 1, 0, none⟩ v1) D ⟨d.known, d.last, d.total, d.out ++ [c]⟩ ∧ Mp (fun i => i = D + 1 ∨ i = D + 2 ∨ i = D + 4 ∨ i = D + 5) (D + 7) W (w1.setCell ⟨D + 1, 0, none⟩ v1) ∧ w1.heap[D + 1]? = some (.cells #[v] 32 (0, 0)) := by
  obtain ⟨⟨u, k1, k2⟩, k3, ⟨x, k4, k5⟩, k6, k7⟩ := h
  rw [hv] at k1
  cases k1
  have hb : Below W.heap.size W (W.alloc o) := (Below.refl _ _).alloc (Nat.le_refl _) o
  have nv : ∀ k, k < D + 7 → some k ≠ v.ownBlock := fun k hk e => by have := own_base k2 k e.symm; omega
  have apart : x.ownBlock = none ∨ x.ownBlock ≠ v.ownBlock := own_type_ne k5 k2 (by decide)
  have gr : ∀ k (o' : Obj), k < D + 7 → W.heap[k]? = some o' → w1.heap[k]? = some o' := fun k o' hk he => by
    refine (hg.block k ?_ (nv k hk)).trans ((hb.block k (by omega)).trans he)
    have := hb.size; omega
  have qq : ∀ k (o' : Obj), k < D + 7 → W.heap[k]? = some o' → D + 1 ≠ k → (w1.setCell ⟨D + 1, 0, none⟩ v1).heap[k]? = some o' := fun k o' hk he hne => (Below.heap_setCell w1 ⟨D + 1, 0, none⟩ _ k (fun e => hne e.symm)).trans (gr k o' hk he)
  have o2 : Own85 w1 (D + 7) x d.known := own_other (pw_own_below k5 hb) hg apart
  have own1 := own_base ho
  refine ⟨⟨⟨v1, (blk_set (gr _ _ (by omega) hv) 0 _).trans (by simp), ?_⟩, qq _ _ (by omega) k3 (by omega), ⟨x, qq _ _ (by omega) k4 (by omega), own_setCell (p := ⟨D + 1, 0, none⟩) o2 (by intro e; have := own_base o2 (D + 1) e.symm; omega) _⟩, qq _ _ (by omega) k6 (by omega), ?_⟩, ?_, gr _ _ (by omega) hv⟩
  · unfold Own8
    rw [List.length_append, List.length_singleton]
    have := own_setCell (p := ⟨D + 1, 0, none⟩) ho (by intro e; have := own1 (D + 1) e.symm; omega) v1
    simpa [nums] using this
  · have := hg.size; have := hb.size; simp; omega
  · refine ((Mp.of_below hb k7).trans (Mp.grown hg (fun k e => own_base k2 k e) ?_ (by have := hb.size; omega))).trans (Mp.set w1 (D + 1) 0 (by omega) _)
    intro j o' hj ho'
    have hj2 : j < W.heap.size := own_lt k2 j hj
    rw [hb.block j hj2] at ho'
    exact own_typed_cells k2 j o' hj ho'
end Go.Proofs.Ytfkiacbjiledcaa.E06
