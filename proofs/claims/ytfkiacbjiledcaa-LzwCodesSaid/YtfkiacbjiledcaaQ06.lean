/- A range over an iterator that writes rows of its own between two yields: the contract names those rows, what holds of the world when an element is handed over, and what the body must keep. -/
import Derived.RangeFuncWrites
namespace Go.Proofs.Ytfkiacbjiledcaa.Q06
open Go Go.RowKit
set_option linter.unusedVariables false
section
variable {F : Fence} {n : Nat} {P : Program} {α : Type}
/-- J abides turns of the rows p, and of walks' objects from B on. -/
def AbidesR (B : Nat) (p : Nat → Prop) (J : List α → World → Prop) : Prop :=
  ∀ s W W' row, J s W → W.grownBy W' row → (∀ r, row = some r → p r ∨ (B ≤ r ∧ ∃ o : Obj, W.heap[r]? = some o ∧ o.isWalk = true)) → J s W'
/-- I abides turns of the rows p, and of what is no cells from B on. -/
def OwnR (B : Nat) (p : Nat → Prop) (I : List α → World → Prop) : Prop :=
  ∀ s W W' row, I s W → W.grownBy W' row → (∀ r, row = some r → p r ∨ (B ≤ r ∧ ∃ o : Obj, W.heap[r]? = some o ∧ o.isCells = false)) → I s W'
theorem OwnR.put {B : Nat} {p : Nat → Prop} {I : List α → World → Prop} (h : OwnR B p I) {s : List α} {W : World} {l : Nat} {o : Obj} (o' : Obj) (hs : I s W) (hB : B ≤ l) (hl : W.heap[l]? = some o) (ho : o.isCells = false) : I s (W.putObj l o') :=
  h s W _ (some l) hs (grownBy_putObj' W l o') (fun r e => by cases e; exact .inr ⟨hB, o, hl, ho⟩)
theorem OwnR.new {B : Nat} {p : Nat → Prop} {I : List α → World → Prop} (h : OwnR B p I) {s : List α} {W : World} (o : Obj) (hs : I s W) : I s (W.alloc o) :=
  h s W _ none hs (World.grownBy_alloc W o none) (fun r e => by cases e)
/-- **The iterator's contract.** -/
def SeqR (F : Fence) (n : Nat) (P : Program) (g : Nat) (lb : Array Value) (encs : α → Array Value) (p : Nat → Prop) (At : List α → World → Prop) (Kp : World → World → Prop) (S Sp : List α → Prop) (N : Nat) (w : World) : Prop :=
  ∀ (l : Nat) (J Jx : List α → World → Prop) (W : World), Below w.heap.size w W → AbidesR W.heap.size p J → AbidesR W.heap.size (fun _ => False) Jx →
    (∀ pre x W1, J pre W1 → At (pre ++ [x]) W1 → pre.length < N → YieldAt F (n - 1) P l (encs x) W1 fun e W' =>
      (e = .returned (.bool true) ∧ J (pre ++ [x]) W' ∧ Kp W1 W') ∨ (e = .returned (.bool false) ∧ Jx (pre ++ [x]) W')) →
    J [] W →
    CallsIn F n P g (#[.func (.yield l) #[] #[]] ++ lb) W fun e W' => (∃ v, e = .returned v) ∧ ((∃ xs, S xs ∧ J xs W') ∨ (∃ pre, Sp pre ∧ Jx pre W'))
/-- **The law.** -/
theorem wpIn_rangeFunc_ownR {g : Operand} {ps : Array Tmp} {assign body : Code} {Q : Exit → Act → World → Prop} {a : Act} {w : World}
    (hround : F.round = none) (hn : 1 ≤ n) {gf : Nat} {lb : Array Value} (hg : a.eval g = .func (.func gf) #[] lb) (hF : F.fn gf) (henter : ∀ args w, (callFunc gf args).run P w = .ok (.enter gf args) w)
    {encs : α → Array Value} {p : Nat → Prop} {At : List α → World → Prop} {Kp : World → World → Prop} {S Sp : List α → Prop} {N : Nat} (hseq : SeqR F (n - 1) P gf lb encs p At Kp S Sp N w)
    (hp : ∀ r, p r → r < w.heap.size)
    (hAt : ∀ xs (W : World) (l : Nat) (o o' : Obj), w.heap.size ≤ l → W.heap[l]? = some o → o.isCells = false → At xs W → At xs (W.putObj l o'))
    (hKt : ∀ {A B C : World}, Kp A B → Kp B C → Kp A C) (hKb : ∀ (W : World) (l : Nat) (o o' : Obj), w.heap.size ≤ l → W.heap[l]? = some o → o.isCells = false → o.isWalk = false → Kp W (W.putObj l o')) (hps : ∀ x, (encs x).size = ps.size)
    (I : List α → World → Prop) (Ix : Code → List α → World → Prop) (hI : OwnR w.heap.size p I) (hIx : ∀ c, OwnR w.heap.size (fun _ => False) (Ix c)) (h0 : I [] w) (a₁ : α → Act)
    (hassign : ∀ (l : Nat) (x : α) (W : World) (K : Act → World → Prop), K (a₁ x) W →
      assign.wpIn (F.inRound l) (n - 1 - 1) P (Exit.then K (fun _ _ _ => False)) { tmps := (ps.zip (encs x)).foldl (fun t (p, v) => t.setIfInBounds p v) a.tmps, defers := [] } W)
    (hbody : ∀ (l : Nat) (pre : List α) (x : α) (W : World), I pre W → At (pre ++ [x]) W → pre.length < N → body.wpIn (F.inRound l) (n - 1 - 1) P (ownPostG w.heap.size Kp I Ix (pre ++ [x]) W) (a₁ x) W)
    (hdone : ∀ (D : Nat) (xs : List α) (W : World), w.heap.size ≤ D → S xs → I xs W → W.heap[D]? = some (.deferred (some [])) → Q .normal { a with defers := { target := .collected D, args := #[] } :: a.defers } W)
    (hstop : ∀ (D : Nat) (c : Code) (pre : List α) (W : World), w.heap.size ≤ D → Sp pre → Ix c pre W → W.heap[D]? = some (.deferred (some [])) → c.wpIn F n P Q { a with defers := { target := .collected D, args := #[] } :: a.defers } W) :
    (Code.rangeFunc g ps assign body).wpIn F n P Q a w := by
  refine wpIn_rangeFunc (fun fn hfn => ?_)
  rw [hround]
  -- the two blocks of the loop's own: H, the deferred calls of its rounds; H + 1, its record
  obtain ⟨H, hH⟩ : ∃ H, w.heap.size = H := ⟨_, rfl⟩
  let rc : LoopState → Option Code → Loop := fun st pe => { state := st, pending := pe, fn, tmps := a.tmps, params := ps, assign, body, defers := H }
  obtain ⟨U, hU⟩ : ∃ U, (w.alloc (.deferred (some []))).alloc (.loop (rc .ready none)) = U := ⟨_, rfl⟩
  have uL : U.heap[H + 1]? = some (.loop (rc .ready none)) := by
    have := World.alloc_heap_new (w.alloc (.deferred (some []))) (.loop (rc .ready none))
    rwa [World.size_alloc, hH, hU] at this
  have uD : U.heap[H]? = some (.deferred (some [])) := by
    have h1 : (w.alloc (.deferred (some []))).heap[H]? = some (.deferred (some [])) := by rw [← hH]; exact World.alloc_heap_new w _
    rw [← hU]
    exact (Below.heap_alloc _ _ _ (by simp; omega)).trans h1
  have uI : I [] U := by rw [← hU]; exact hI.new _ (hI.new _ h0)
  have uB : Below w.heap.size w U := by rw [← hU]; exact ((Below.refl _ w).alloc (Nat.le_refl _) _).alloc (by simp) _
  have uS : U.heap.size = H + 2 := by rw [← hU]; simp; omega
  -- a block of the law's own lies as it lay behind a step of the iterator
  have keeps : ∀ {A B : World} {row : Option Nat} {k : Nat} {o : Obj}, A.grownBy B row → (∀ r, row = some r → p r ∨ (U.heap.size ≤ r ∧ ∃ o : Obj, A.heap[r]? = some o ∧ o.isWalk = true)) → H ≤ k → k < H + 2 → A.heap[k]? = some o → B.heap[k]? = some o := by
    intro A B row k o hg' hr h1 h2 hk
    refine (hg'.block k (Array.getElem?_eq_some_iff.1 hk).1 (fun e => ?_)).trans hk
    rcases hr k e.symm with h | ⟨h, _⟩
    · have := hp k h; omega
    · omega
  have wider : ∀ {A : World} {row : Option Nat}, (∀ r, row = some r → p r ∨ (U.heap.size ≤ r ∧ ∃ o : Obj, A.heap[r]? = some o ∧ o.isWalk = true)) → ∀ r, row = some r → p r ∨ (w.heap.size ≤ r ∧ ∃ o : Obj, A.heap[r]? = some o ∧ o.isCells = false) := by
    intro A row hr r e
    rcases hr r e with h | ⟨h, o, ho, hw⟩
    · exact .inl h
    · exact .inr ⟨by omega, o, ho, Obj.not_cells_of_walk hw⟩
  refine ⟨H + 1, [{ target := .collected H, args := #[] }], U, { target := .fn (.func gf) lb, args := #[.func (.yield (H + 1)) #[] #[]] }, U, gf, #[.func (.yield (H + 1)) #[] #[]] ++ lb, U, ?_, ?_, ?_, ?_, fun _ => hn, ?_⟩
  · have := run_enterLoop_outer (P := P) (w := w) fn a.tmps ps assign body
    rw [hH] at this
    rw [this, ← hU]
  · simp only [resolve, hg]
    simp [go_sem]
  · intro f' hf'
    simp [Target.leads] at hf'
    subst hf'
    exact hF
  · simp [invoke, go_sem, henter]
  · refine (hseq (H + 1)
      (fun pre W => I pre W ∧ W.heap[H + 1]? = some (.loop (rc .ready none)) ∧ W.heap[H]? = some (.deferred (some [])))
      (fun pre W => ∃ c, Ix c pre W ∧ W.heap[H + 1]? = some (.loop (rc .done (some c))) ∧ W.heap[H]? = some (.deferred (some [])))
      U uB
      (fun s A B row hs hg' hr => ⟨hI s A B row hs.1 hg' (wider hr), keeps hg' hr (by omega) (by omega) hs.2.1, keeps hg' hr (by omega) (by omega) hs.2.2⟩)
      (fun s A B row ⟨c, h1, h2, h3⟩ hg' hr => ⟨c, hIx c s A B row h1 hg' (fun r e => (hr r e).imp id fun ⟨h, o, ho, hw⟩ => ⟨by omega, o, ho, Obj.not_cells_of_walk hw⟩), keeps hg' (fun r e => (hr r e).imp False.elim id) (by omega) (by omega) h2, keeps hg' (fun r e => (hr r e).imp False.elim id) (by omega) (by omega) h3⟩)
      ?_ ⟨uI, uL, uD⟩).mono ?_
    · -- a round
      rintro pre x W ⟨hi, hl, hd⟩ hat hlen
      have hlt : H + 1 < W.heap.size := (Array.getElem?_eq_some_iff.1 hl).1
      refine ⟨fn, _, assign, body, run_yield (P := P) (args := encs x) hl (hps x), roundIn_of_wpIn hfn (hassign _ x W _ ⟨_, run_beginRound hl rfl, ?_⟩)⟩
      obtain ⟨V, hV⟩ : ∃ V, W.putObj (H + 1) (.loop (rc .busy none)) = V := ⟨_, rfl⟩
      have vL : V.heap[H + 1]? = some (.loop (rc .busy none)) := by rw [← hV]; exact World.putObj_heap_same hlt
      have vD : V.heap[H]? = some (.deferred (some [])) := by rw [← hV]; exact (World.putObj_heap_other (by omega)).trans hd
      have vK : Kp W V := by rw [← hV]; exact hKb _ _ _ _ (by omega) hl rfl rfl
      have vI : I pre V := by rw [← hV]; exact hI.put _ hi (by omega) hl rfl
      have vA : At (pre ++ [x]) V := by rw [← hV]; exact hAt _ _ _ _ _ (by omega) hl rfl hat
      have hbb := hbody (H + 1) pre x V vI vA hlen
      have turn : ({ rc .ready none with state := .busy } : Loop) = rc .busy none := rfl
      rw [turn, hV]
      refine wpIn_mono hbb ?_
      -- behind the body
      have fin : ∀ (jump : Option Code) (Z : World), KeepsFrom w.heap.size V Z →
          (Instr.endRound (H + 1) jump).run P Z = .ok (.bool jump.isNone) (Z.putObj (H + 1) (.loop (rc (if jump.isNone then .ready else .done) jump))) ∧
          Z.heap[H + 1]? = some (.loop (rc .busy none)) ∧
          (Z.putObj (H + 1) (.loop (rc (if jump.isNone then .ready else .done) jump))).heap[H + 1]? = some (.loop (rc (if jump.isNone then .ready else .done) jump)) ∧
          (Z.putObj (H + 1) (.loop (rc (if jump.isNone then .ready else .done) jump))).heap[H]? = some (.deferred (some [])) := by
        intro jump Z hk
        have zL := hk.same _ _ (by omega) vL rfl
        exact ⟨run_endRound (P := P) jump zL, zL, World.putObj_heap_same (Array.getElem?_eq_some_iff.1 zL).1, (World.putObj_heap_other (by omega)).trans (hk.same _ _ (by omega) vD rfl)⟩
      rintro e a3 Z hpost
      cases e with
      | normal =>
        obtain ⟨h1, h2, h3⟩ := hpost
        obtain ⟨k1, k2, k3, k4⟩ := fin none Z h1
        exact ⟨_, _, k1, .inl ⟨rfl, ⟨hI.put _ h3 (by omega) k2 rfl, k3, k4⟩, hKt (hKt vK h2) (hKb _ _ _ _ (by omega) k2 rfl rfl)⟩⟩
      | ret =>
        obtain ⟨h1, h3⟩ := hpost
        obtain ⟨k1, k2, k3, k4⟩ := fin (some .ret) Z h1
        exact ⟨_, _, k1, .inr ⟨rfl, .ret, (hIx _).put _ h3 (by omega) k2 rfl, k3, k4⟩⟩
      | exit id =>
        obtain ⟨h1, h3⟩ := hpost
        obtain ⟨k1, k2, k3, k4⟩ := fin (some (.exit id)) Z h1
        exact ⟨_, _, k1, .inr ⟨rfl, .exit id, (hIx _).put _ h3 (by omega) k2 rfl, k3, k4⟩⟩
      | goto t =>
        obtain ⟨h1, h3⟩ := hpost
        obtain ⟨k1, k2, k3, k4⟩ := fin (some (.goto t)) Z h1
        exact ⟨_, _, k1, .inr ⟨rfl, .goto t, (hIx _).put _ h3 (by omega) k2 rfl, k3, k4⟩⟩
      | panic ch => exact hpost.elim
      | outgrown => exact hpost.elim
    · -- behind the iterator
      rintro e Z ⟨⟨v, rfl⟩, (⟨xs, hS, hi, hl, hd⟩ | ⟨pre, hSp, c, hi, hl, hd⟩)⟩
      · exact ⟨none, _, run_endLoop (P := P) hl (by simp [rc]), hdone H xs _ (by omega) hS (hI.put _ hi (by omega) hl rfl) ((World.putObj_heap_other (by omega)).trans hd)⟩
      · exact ⟨some c, _, run_endLoop (P := P) hl (by simp [rc]), hstop H c pre _ (by omega) hSp ((hIx c).put _ hi (by omega) hl rfl) ((World.putObj_heap_other (by omega)).trans hd)⟩
end
end Go.Proofs.Ytfkiacbjiledcaa.Q06
