/- The machine of charstrings in memory (chapter 33). -/
import Derived.Test.YtimnohaalccdkaaK33
import Derived.Test.YtimnohaalccdkaaProg
import Derived.Tactics
namespace Go.Proofs.Ytimnohaalccdkaa.M33
open Go.Proofs.Ytimnohaalccdkaa.K33
open Go.RowKit Go.Proofs.YtimnohaalccdkaaW.PrintWords Go.Proofs.YtimnohaalccdkaaW.PrintLast Go.Proofs.YtimnohaalccdkaaW.PrintMore
set_option linter.unusedVariables false
set_option linter.unusedSimpArgs false
set_option maxRecDepth 100000
def stp (s : Stp) : List Value := [.int .i64 s.1, .int .i64 s.2.1.1, .int .i64 s.2.1.2, .int .i64 s.2.2.1.1, .int .i64 s.2.2.1.2, .int .i64 s.2.2.2.1, .int .i64 s.2.2.2.2]
def stm (s : Stm) : List Value := [.bool s.1, .int .i64 s.2.1, .int .i64 s.2.2]
def pnt (p : Pt) : List Value := [.int .i64 p.1, .int .i64 p.2]
/-- Numbers that keep to what a charstring can write. -/
def Small (l : List Int) : Prop := ∀ x ∈ l, -2147483648 ≤ x ∧ x ≤ 2147483648
/-- What every state of the machine keeps. -/
structure Ok (m : M) : Prop where
  stack : m.stack.length ≤ 24
  small : Small m.stack
  res : m.results.length ≤ 24
  rsmall : Small m.results
  steps : m.steps.length ≤ 300
  stems : m.stems.length ≤ 40
  points : m.points.length ≤ 7 ∧ ∀ p ∈ m.points, (-32000 ≤ p.1 ∧ p.1 ≤ 32000) ∧ (-32000 ≤ p.2 ∧ p.2 ≤ 32000)
  x : -32000 ≤ m.x ∧ m.x ≤ 32000
  y : -32000 ≤ m.y ∧ m.y ≤ 32000
  side : -32000 ≤ m.side ∧ m.side ≤ 32000
  width : -32000 ≤ m.width ∧ m.width ≤ 32000
  count : 0 ≤ m.count ∧ m.count ≤ 4000
/-- Whole numbers at an address. -/
def Ints (w : World) (A : Option Addr) (xs : List Int) : Prop :=
  xs = [] ∨ ∃ (g off : Nat) (cs : Array Value), A = some ⟨g, off, none⟩ ∧ w.heap[g]? = some (.cells cs 3 (0, 0)) ∧ ∀ (i : Nat) (x : Int), xs[i]? = some x → cs[off + i]? = some (.int .i64 x)
theorem Ints.below {w w' : World} {A : Option Addr} {xs : List Int} (h : Ints w A xs) (hb : Below w.heap.size w w') : Ints w' A xs := by
  rcases h with h | ⟨g, off, cs, h1, h2, h3⟩
  · exact .inl h
  · exact .inr ⟨g, off, cs, h1, blk_below h2 hb, h3⟩
/-- They do not lie in the block of a slice. -/
def Off (A : Option Addr) (xs : List Int) (v : Value) : Prop := xs = [] ∨ ∀ a, A = some a → v.ownBlock ≠ some a.block
def mcells (m : M) (sb vs vt vk vr vp : Value) : Array Value :=
  #[.int .i64 m.side, .int .i64 m.width, vs, vt, .int .i64 m.x, .int .i64 m.y, .bool m.opn, sb, vk, vr, .bool m.begun, .bool m.flex, vp, .bool m.done, .int .i64 m.count]
structure MachV (B : Nat) (w : World) (b : Nat) (sb : Value) (m : M) (vs vt vk : Value) (A : Option Addr) (c : Nat) (vp : Value) : Prop where
  blk : w.heap[b]? = some (.cells (mcells m sb vs vt vk (.slice A m.results.length c) vp) 96 (0, 0))
  steps : w.ownsRow B 60 7 vs m.steps.length (m.steps.flatMap stp)
  stems : w.ownsRow B 69 3 vt m.stems.length (m.stems.flatMap stm)
  pts : w.ownsRow B 55 2 vp m.points.length (m.points.flatMap pnt)
  stack : w.ownsRow B 3 1 vk m.stack.length (nums .i64 m.stack)
  cap : m.results.length ≤ c
  res : Ints w A m.results
  off : Off A m.results vk
  ok : Ok m
/-- A machine in memory, and all that is older is as it was. -/
def Mach (W0 w : World) (b : Nat) (sb : Value) (m : M) : Prop :=
  Below W0.heap.size W0 w ∧ W0.heap.size ≤ b ∧ ∃ vs vt vk A c vp, MachV W0.heap.size w b sb m vs vt vk A c vp
theorem MachV.below {B b c : Nat} {w w' : World} {sb vs vt vk vp : Value} {A : Option Addr} {m : M} (h : MachV B w b sb m vs vt vk A c vp) (hb : Below w.heap.size w w') : MachV B w' b sb m vs vt vk A c vp :=
  ⟨blk_below h.blk hb, pw_own_below h.steps hb, pw_own_below h.stems hb, pw_own_below h.pts hb, pw_own_below h.stack hb, h.cap, h.res.below hb, h.off, h.ok⟩
theorem Mach.below {W0 w w' : World} {b : Nat} {sb : Value} {m : M} (h : Mach W0 w b sb m) (hb : Below w.heap.size w w') : Mach W0 w' b sb m := by
  obtain ⟨h1, h2, vs, vt, vk, A, c, vp, h3⟩ := h
  exact ⟨below_then h1 h1.size hb, h2, vs, vt, vk, A, c, vp, h3.below hb⟩
theorem MachV.cell {B b c : Nat} {w : World} {sb vs vt vk vp : Value} {A : Option Addr} {m : M} (h : MachV B w b sb m vs vt vk A c vp) (i : Nat) : w.cell? ⟨b, i, none⟩ = (mcells m sb vs vt vk (.slice A m.results.length c) vp)[i]? := blk_cell h.blk i
theorem MachV.frz {B b c : Nat} {w : World} {sb vs vt vk vp : Value} {A : Option Addr} {m : M} (h : MachV B w b sb m vs vt vk A c vp) (i : Nat) : w.frozen? ⟨b, i, none⟩ = false := blk_frozen h.blk i
theorem ints_set {w : World} {A : Option Addr} {xs : List Int} (h : Ints w A xs) {b : Nat} {cs : Array Value} {t : TypeId} (hb : w.heap[b]? = some (.cells cs t (0, 0))) (ht : t ≠ 3) (i : Nat) (u : Value) : Ints (w.setCell ⟨b, i, none⟩ u) A xs := by
  rcases h with h | ⟨g, off, ds, h1, h2, h3⟩
  · exact .inl h
  · exact .inr ⟨g, off, ds, h1, blk_far h2 (blk_ne h2 hb (fun e => ht e.symm)) u, h3⟩
/-- A field is stored. -/
theorem MachV.set {B b c : Nat} {w : World} {sb vs vt vk vp : Value} {A : Option Addr} {m : M} (h : MachV B w b sb m vs vt vk A c vp) (i : Nat) (u : Value) (m' : M)
    (hc : (mcells m sb vs vt vk (.slice A m.results.length c) vp).setIfInBounds i u = mcells m' sb vs vt vk (.slice A m'.results.length c) vp)
    (e1 : m'.steps = m.steps) (e2 : m'.stems = m.stems) (e3 : m'.points = m.points) (e4 : m'.stack = m.stack) (e5 : m'.results = m.results) (ok : Ok m') :
    MachV B (w.setCell ⟨b, i, none⟩ u) b sb m' vs vt vk A c vp :=
  ⟨by rw [← hc]; exact blk_set h.blk i u, by rw [e1]; exact own_setCell h.steps (own_ne h.steps h.blk (by decide)) u, by rw [e2]; exact own_setCell h.stems (own_ne h.stems h.blk (by decide)) u,
   by rw [e3]; exact own_setCell h.pts (own_ne h.pts h.blk (by decide)) u, by rw [e4]; exact own_setCell h.stack (own_ne h.stack h.blk (by decide)) u, by rw [e5]; exact h.cap, by rw [e5]; exact ints_set h.res h.blk (by decide) i u, by rw [e5]; exact h.off, ok⟩
/-- The beginning of an owned row. -/
theorem own_take {w : World} {B n cap size : Nat} {e : TypeId} {A : Option Addr} {xs : List Value} (h : w.ownsRow B e size (.slice A n cap) n xs) (k : Nat) (hk : k ≤ n) (hn : 0 < n) : w.ownsRow B e size (.slice A k cap) k (xs.take (k * size)) := by
  obtain ⟨h1, h2⟩ := h
  rcases h2 with ⟨he, h3⟩ | ⟨g, c, cur, he, hg, hh, h4, h5, h6, h7⟩
  · cases he; omega
  · have hks : k * size ≤ n * size := Nat.mul_le_mul_right size hk
    cases he
    refine ⟨by rw [List.length_take, h1]; omega, .inr ⟨g, cap, cur, rfl, hg, hh, by omega, h5, h6, ?_⟩⟩
    rw [← h7, List.take_take, Nat.min_eq_left hks]
/-- The stack is another: its slice reads the new list, in the same block or in a new one. -/
theorem off_stack {w : World} {A : Option Addr} {xs : List Int} {vk vk' : Value} (h : Off A xs vk) (hi : Ints w A xs) (hat : vk'.ownBlock = vk.ownBlock ∨ ∃ g, vk'.ownBlock = some g ∧ w.heap.size ≤ g) : Off A xs vk' := by
  rcases h with h | h
  · exact .inl h
  · rcases hi with hi | ⟨g, off, cs, h1, h2, h3⟩
    · exact .inl hi
    · refine .inr fun a e => ?_
      rw [h1] at e
      injection e with e
      subst e
      rcases hat with hat | ⟨g2, hat, hlt⟩
      · rw [hat]; exact h _ h1
      · rw [hat]
        intro e
        injection e with e
        have := blk_lt h2
        simp only at e
        omega
theorem ints_grown {w w1 : World} {A : Option Addr} {xs : List Int} {v : Value} (h : Ints w A xs) (ho : Off A xs v) (hg : w.grownBy w1 v.ownBlock) : Ints w1 A xs := by
  rcases h with h | ⟨g, off, cs, h1, h2, h3⟩
  · exact .inl h
  · rcases ho with ho | ho
    · exact .inl ho
    · exact .inr ⟨g, off, cs, h1, blk_grown h2 hg (fun e => ho _ h1 e.symm), h3⟩
/-- A row of another kind grew. -/
theorem ints_grown_ne {w w1 : World} {A : Option Addr} {xs : List Int} {v : Value} {B n size : Nat} {e : TypeId} {ys : List Value} (h : Ints w A xs) (ho : w.ownsRow B e size v n ys) (he : e ≠ 3) (hg : w.grownBy w1 v.ownBlock) : Ints w1 A xs := by
  rcases h with h | ⟨g, off, cs, h1, h2, h3⟩
  · exact .inl h
  · exact .inr ⟨g, off, cs, h1, blk_grown h2 hg (own_ne ho h2 he), h3⟩
theorem Small.app {a b : List Int} (h : Small a) (k : Small b) : Small (a ++ b) := fun x hx => (List.mem_append.1 hx).elim (h x) (k x)
theorem Small.take {a : List Int} (h : Small a) (n : Nat) : Small (a.take n) := fun x hx => h x (List.mem_of_mem_take hx)
theorem Small.drop {a : List Int} (h : Small a) (n : Nat) : Small (a.drop n) := fun x hx => h x (List.mem_of_mem_drop hx)
theorem Small.one {x : Int} (h : -2147483648 ≤ x ∧ x ≤ 2147483648) : Small [x] := fun y hy => by rw [List.mem_singleton] at hy; subst hy; exact h
theorem MachV.put_stack {B b c : Nat} {w w1 : World} {sb vs vt vk vp v1 : Value} {A : Option Addr} {m : M} (h : MachV B w b sb m vs vt vk A c vp) {l : List Int} (ho : w1.ownsRow B 3 1 v1 l.length (nums .i64 l)) (hg : w.grownBy w1 vk.ownBlock)
    (hat : v1.ownBlock = vk.ownBlock ∨ ∃ g, v1.ownBlock = some g ∧ w.heap.size ≤ g) (ok : Ok { m with stack := l }) : MachV B (w1.setCell ⟨b, 8, none⟩ v1) b sb { m with stack := l } vs vt v1 A c vp := by
  have hb1 := blk_grown h.blk hg (own_ne h.stack h.blk (by decide))
  exact ⟨blk_set hb1 8 v1, own_setCell (own_other h.steps hg (own_type_ne h.steps h.stack (by decide))) (own_ne (own_other h.steps hg (own_type_ne h.steps h.stack (by decide))) hb1 (by decide)) _,
   own_setCell (own_other h.stems hg (own_type_ne h.stems h.stack (by decide))) (own_ne (own_other h.stems hg (own_type_ne h.stems h.stack (by decide))) hb1 (by decide)) _,
   own_setCell (own_other h.pts hg (own_type_ne h.pts h.stack (by decide))) (own_ne (own_other h.pts hg (own_type_ne h.pts h.stack (by decide))) hb1 (by decide)) _,
   own_setCell ho (own_ne ho hb1 (by decide)) _, h.cap, ints_set (ints_grown h.res h.off hg) hb1 (by decide) 8 v1, off_stack h.off h.res hat, ok⟩
theorem MachV.put_steps {B b c : Nat} {w w1 : World} {sb vs vt vk vp v1 : Value} {A : Option Addr} {m : M} (h : MachV B w b sb m vs vt vk A c vp) {l : List Stp} (ho : w1.ownsRow B 60 7 v1 l.length (l.flatMap stp)) (hg : w.grownBy w1 vs.ownBlock)
    (ok : Ok { m with steps := l }) : MachV B (w1.setCell ⟨b, 2, none⟩ v1) b sb { m with steps := l } v1 vt vk A c vp := by
  have hb1 := blk_grown h.blk hg (own_ne h.steps h.blk (by decide))
  have k1 := own_other h.stems hg (own_type_ne h.stems h.steps (by decide))
  have k2 := own_other h.pts hg (own_type_ne h.pts h.steps (by decide))
  have k3 := own_other h.stack hg (own_type_ne h.stack h.steps (by decide))
  exact ⟨blk_set hb1 2 v1, own_setCell ho (own_ne ho hb1 (by decide)) _, own_setCell k1 (own_ne k1 hb1 (by decide)) _, own_setCell k2 (own_ne k2 hb1 (by decide)) _, own_setCell k3 (own_ne k3 hb1 (by decide)) _, h.cap, ints_set (ints_grown_ne h.res h.steps (by decide) hg) hb1 (by decide) 2 v1, h.off, ok⟩
theorem MachV.put_stems {B b c : Nat} {w w1 : World} {sb vs vt vk vp v1 : Value} {A : Option Addr} {m : M} (h : MachV B w b sb m vs vt vk A c vp) {l : List Stm} (ho : w1.ownsRow B 69 3 v1 l.length (l.flatMap stm)) (hg : w.grownBy w1 vt.ownBlock)
    (ok : Ok { m with stems := l }) : MachV B (w1.setCell ⟨b, 3, none⟩ v1) b sb { m with stems := l } vs v1 vk A c vp := by
  have hb1 := blk_grown h.blk hg (own_ne h.stems h.blk (by decide))
  have k1 := own_other h.steps hg (own_type_ne h.steps h.stems (by decide))
  have k2 := own_other h.pts hg (own_type_ne h.pts h.stems (by decide))
  have k3 := own_other h.stack hg (own_type_ne h.stack h.stems (by decide))
  exact ⟨blk_set hb1 3 v1, own_setCell k1 (own_ne k1 hb1 (by decide)) _, own_setCell ho (own_ne ho hb1 (by decide)) _, own_setCell k2 (own_ne k2 hb1 (by decide)) _, own_setCell k3 (own_ne k3 hb1 (by decide)) _, h.cap, ints_set (ints_grown_ne h.res h.stems (by decide) hg) hb1 (by decide) 3 v1, h.off, ok⟩
theorem MachV.put_pts {B b c : Nat} {w w1 : World} {sb vs vt vk vp v1 : Value} {A : Option Addr} {m : M} (h : MachV B w b sb m vs vt vk A c vp) {l : List Pt} (ho : w1.ownsRow B 55 2 v1 l.length (l.flatMap pnt)) (hg : w.grownBy w1 vp.ownBlock)
    (ok : Ok { m with points := l }) : MachV B (w1.setCell ⟨b, 12, none⟩ v1) b sb { m with points := l } vs vt vk A c v1 := by
  have hb1 := blk_grown h.blk hg (own_ne h.pts h.blk (by decide))
  have k1 := own_other h.steps hg (own_type_ne h.steps h.pts (by decide))
  have k2 := own_other h.stems hg (own_type_ne h.stems h.pts (by decide))
  have k3 := own_other h.stack hg (own_type_ne h.stack h.pts (by decide))
  exact ⟨blk_set hb1 12 v1, own_setCell k1 (own_ne k1 hb1 (by decide)) _, own_setCell k2 (own_ne k2 hb1 (by decide)) _, own_setCell ho (own_ne ho hb1 (by decide)) _, own_setCell k3 (own_ne k3 hb1 (by decide)) _, h.cap, ints_set (ints_grown_ne h.res h.pts (by decide) hg) hb1 (by decide) 12 v1, h.off, ok⟩
/-- Other results: a list that some row of whole numbers holds, off the stack's block. -/
theorem MachV.put_res {B b c c' : Nat} {w : World} {sb vs vt vk vp : Value} {A A' : Option Addr} {m : M} (h : MachV B w b sb m vs vt vk A c vp) {l : List Int} (hi : Ints w A' l) (ho : Off A' l vk) (hc : l.length ≤ c') (ok : Ok { m with results := l }) :
    MachV B (w.setCell ⟨b, 9, none⟩ (.slice A' l.length c')) b sb { m with results := l } vs vt vk A' c' vp :=
  ⟨blk_set h.blk 9 _, own_setCell h.steps (own_ne h.steps h.blk (by decide)) _, own_setCell h.stems (own_ne h.stems h.blk (by decide)) _, own_setCell h.pts (own_ne h.pts h.blk (by decide)) _, own_setCell h.stack (own_ne h.stack h.blk (by decide)) _, hc, ints_set hi h.blk (by decide) 9 _, ho, ok⟩
/-- What an error leaves of the machine. -/
def Left (W0 w : World) (b : Nat) : Prop := Below W0.heap.size W0 w ∧ W0.heap.size ≤ b ∧ ∃ cells : Array Value, w.heap[b]? = some (.cells cells 96 (0, 0)) ∧ cells.size = 15
theorem Mach.left {W0 w : World} {b : Nat} {sb : Value} {m : M} (h : Mach W0 w b sb m) : Left W0 w b := by
  obtain ⟨h1, h2, vs, vt, vk, A, c, vp, h3⟩ := h
  exact ⟨h1, h2, _, h3.blk, rfl⟩
theorem Left.below {W0 w w' : World} {b : Nat} (h : Left W0 w b) (hb : Below w.heap.size w w') : Left W0 w' b := by
  obtain ⟨h1, h2, cells, h3, h4⟩ := h
  exact ⟨below_then h1 h1.size hb, h2, cells, blk_below h3 hb, h4⟩
theorem Left.set {W0 w : World} {b : Nat} (h : Left W0 w b) (i : Nat) (u : Value) : Left W0 (w.setCell ⟨b, i, none⟩ u) b := by
  obtain ⟨h1, h2, cells, h3, h4⟩ := h
  exact ⟨below_set h1 h2, h2, _, blk_set h3 i u, by rw [Array.size_setIfInBounds]; exact h4⟩
theorem Left.cell {W0 w : World} {b : Nat} (h : Left W0 w b) (i : Nat) (hi : i < 15) : ∃ v, w.cell? ⟨b, i, none⟩ = some v := by
  obtain ⟨h1, h2, cells, h3, h4⟩ := h
  exact ⟨_, (blk_cell h3 i).trans (Array.getElem?_eq_getElem (by omega))⟩
theorem Left.frz {W0 w : World} {b : Nat} (h : Left W0 w b) (i : Nat) : w.frozen? ⟨b, i, none⟩ = false := by
  obtain ⟨h1, h2, cells, h3, h4⟩ := h
  exact blk_frozen h3 i
/-- What a step of the machine leaves: an error, or the machine that the plain step gives. -/
def Did (W0 : World) (b : Nat) (sb : Value) (r : Except Int M) (e : Ending) (w' : World) : Prop :=
  match r with
  | .error c => e = .returned (.int .i64 c) ∧ (c = 26 ∨ c = 39) ∧ Left W0 w' b
  | .ok m => e = .returned (.int .i64 0) ∧ Mach W0 w' b sb m
/-- All rows of whole numbers stay as they are. -/
def Keeps (w w' : World) : Prop := ∀ (g : Nat) (cs : Array Value), w.heap[g]? = some (.cells cs 3 (0, 0)) → w'.heap[g]? = some (.cells cs 3 (0, 0))
theorem keeps_below {w w' : World} (h : Below w.heap.size w w') : Keeps w w' := fun g cs hg => blk_below hg h
theorem Keeps.trans {w w1 w2 : World} (h : Keeps w w1) (k : Keeps w1 w2) : Keeps w w2 := fun g cs hg => k g cs (h g cs hg)
theorem keeps_grown {w w1 : World} {B n size : Nat} {e : TypeId} {v : Value} {ys : List Value} (ho : w.ownsRow B e size v n ys) (he : e ≠ 3) (hg : w.grownBy w1 v.ownBlock) : Keeps w w1 := fun g cs h => blk_grown h hg (own_ne ho h he)
theorem keeps_set {w : World} {b : Nat} {cs : Array Value} {t : TypeId} (hb : w.heap[b]? = some (.cells cs t (0, 0))) (ht : t ≠ 3) (i : Nat) (u : Value) : Keeps w (w.setCell ⟨b, i, none⟩ u) := fun g ds h => blk_far h (blk_ne h hb (fun e => ht e.symm)) u
end Go.Proofs.Ytimnohaalccdkaa.M33
