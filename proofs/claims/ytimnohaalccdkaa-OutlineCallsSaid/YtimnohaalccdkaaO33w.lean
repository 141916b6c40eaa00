/- Several texts of this claim, one behind the other. -/
import Derived.Test.YtimnohaalccdkaaG33u
import Derived.Deep.Slices
import Derived.OpenShut
import Derived.ChangeSame
import Derived.ProofKit
/- Calls of subroutines do not change what a charstring of path operators draws (chapter 33): plain law. -/
namespace Go.Proofs.Ytimnohaalccdkaa.C33
open Go.Proofs.Ytimnohaalccdkaa Go.Proofs.Ytimnohaalccdkaa.K33 Go.Proofs.Ytimnohaalccdkaa.L33 Go.Proofs.Ytimnohaalccdkaa.T33 Go.Proofs.Ytimnohaalccdkaa.G33t Go.Proofs.Ytimnohaalccdkaa.G33u
set_option linter.unusedVariables false
set_option linter.unusedSimpArgs false
set_option maxRecDepth 100000
def setc (k : Int) (m : M) : M := { m with count := k }
def mapE (f : M → M) : Except Int M → Except Int M
  | .error e => .error e
  | .ok m => .ok (f m)
theorem stepM_c (k : Int) (m : M) (kd : Int) (l : List Int) : stepM (setc k m) kd l = mapE (setc k) (stepM m kd l) := by
  unfold stepM setc
  simp only
  cases walk m.x m.y l with
  | none => rfl
  | some ps => simp only; split <;> rfl
theorem moveM_c (k : Int) (m : M) (dx dy : Int) : moveM (setc k m) dx dy = mapE (setc k) (moveM m dx dy) := by
  unfold moveM
  have e : (setc k m).flex = m.flex := rfl
  rw [e]
  split
  · have e2 : (setc k m).x = m.x := rfl
    have e3 : (setc k m).y = m.y := rfl
    rw [e2, e3]
    split <;> rfl
  · exact stepM_c k { m with opn := true } 1 [dx, dy]
theorem drawM_c (k : Int) (m : M) (kd : Int) (l : List Int) : drawM (setc k m) kd l = mapE (setc k) (drawM m kd l) := by
  unfold drawM
  have e : (setc k m).opn = m.opn := rfl
  rw [e]
  split
  · exact stepM_c k m kd l
  · rfl
theorem closeM_c (k : Int) (m : M) : closeM (setc k m) = mapE (setc k) (closeM m) := by
  unfold closeM
  have e : (setc k m).opn = m.opn := rfl
  rw [e]
  split
  · rw [stepM_c]
    cases stepM m 4 [] <;> rfl
  · rfl
theorem stemsM_c (k : Int) (m : M) (v : Bool) (l : List Int) : stemsM (setc k m) v l = mapE (setc k) (stemsM m v l) := by
  unfold stemsM
  have e : (setc k m).side = m.side := rfl
  have e2 : (setc k m).stems = m.stems := rfl
  rw [e, e2]
  split
  · rfl
  · split <;> rfl
theorem doOp_c (k : Int) (op : Int) (m : M) (l : List Int) : doOp op (setc k m) l = mapE (setc k) (doOp op m l) := by
  unfold doOp
  dsimp only
  by_cases h : op = 1 ∨ op = 258
  · rw [if_pos h, if_pos h]; exact stemsM_c _ _ _ _
  rw [if_neg h, if_neg h]; clear h
  by_cases h : op = 3 ∨ op = 257
  · rw [if_pos h, if_pos h]; exact stemsM_c _ _ _ _
  rw [if_neg h, if_neg h]; clear h
  by_cases h : op = 4
  · rw [if_pos h, if_pos h]; exact moveM_c _ _ _ _
  rw [if_neg h, if_neg h]; clear h
  by_cases h : op = 21
  · rw [if_pos h, if_pos h]; exact moveM_c _ _ _ _
  rw [if_neg h, if_neg h]; clear h
  by_cases h : op = 22
  · rw [if_pos h, if_pos h]; exact moveM_c _ _ _ _
  rw [if_neg h, if_neg h]; clear h
  by_cases h : op = 5
  · rw [if_pos h, if_pos h]; exact drawM_c _ _ _ _
  rw [if_neg h, if_neg h]; clear h
  by_cases h : op = 6
  · rw [if_pos h, if_pos h]; exact drawM_c _ _ _ _
  rw [if_neg h, if_neg h]; clear h
  by_cases h : op = 7
  · rw [if_pos h, if_pos h]; exact drawM_c _ _ _ _
  rw [if_neg h, if_neg h]; clear h
  by_cases h : op = 8
  · rw [if_pos h, if_pos h]; exact drawM_c _ _ _ _
  rw [if_neg h, if_neg h]; clear h
  by_cases h : op = 30
  · rw [if_pos h, if_pos h]; exact drawM_c _ _ _ _
  rw [if_neg h, if_neg h]; clear h
  by_cases h : op = 31
  · rw [if_pos h, if_pos h]; exact drawM_c _ _ _ _
  rw [if_neg h, if_neg h]; clear h
  by_cases h : op = 9
  · rw [if_pos h, if_pos h]; exact closeM_c _ _
  rw [if_neg h, if_neg h]; clear h
  by_cases h : op = 14
  · rw [if_pos h, if_pos h]; rfl
  rw [if_neg h, if_neg h]; clear h
  by_cases h : op = 289
  · rw [if_pos h, if_pos h]; (have e1 : (setc k m).x = m.x := rfl; have e2 : (setc k m).y = m.y := rfl; rw [e1, e2]; split <;> rfl)
  rw [if_neg h, if_neg h]; clear h
  by_cases h : op = 13
  · rw [if_pos h, if_pos h]; (unfold beginM; split <;> rfl)
  rw [if_neg h, if_neg h]; clear h
  rfl
theorem pathM_c (k : Int) (m : M) (op : Int) : pathM (setc k m) op = mapE (setc k) (pathM m op) := by
  unfold pathM
  have e1 : (setc k m).stack = m.stack := rfl
  have e2 : (setc k m).begun = m.begun := rfl
  have e3 : (setc k m).flex = m.flex := rfl
  rw [e1, e2, e3]
  split
  · rfl
  · exact doOp_c k op { m with stack := [] } m.stack
/-- What a step leaves as it was. -/
def Like (m m' : M) : Prop := m'.stack = m.stack ∧ m'.done = m.done
theorem stepM_l {m m' : M} {k : Int} {l : List Int} (h : stepM m k l = .ok m') : Like m m' := by
  unfold stepM at h
  split at h
  · cases h
  · split at h
    · cases h
    · cases h; exact ⟨rfl, rfl⟩
theorem moveM_l {m m' : M} {dx dy : Int} (h : moveM m dx dy = .ok m') : Like m m' := by
  unfold moveM at h
  split at h
  · split at h
    · cases h; exact ⟨rfl, rfl⟩
    · cases h
  · exact stepM_l (m := { m with opn := true }) h
theorem drawM_l {m m' : M} {k : Int} {l : List Int} (h : drawM m k l = .ok m') : Like m m' := by
  unfold drawM at h
  split at h
  · exact stepM_l h
  · cases h
theorem closeM_l {m m' : M} (h : closeM m = .ok m') : Like m m' := by
  unfold closeM at h
  split at h
  · split at h
    · rename_i m2 h2
      cases h
      have hh := stepM_l h2
      exact ⟨hh.1, hh.2⟩
    · cases h
  · cases h
theorem stemsM_l {m m' : M} {v : Bool} {l : List Int} (h : stemsM m v l = .ok m') : Like m m' := by
  unfold stemsM at h
  split at h
  · cases h
  · split at h
    · cases h
    · cases h; exact ⟨rfl, rfl⟩
theorem doOp_l {op : Int} {m m' : M} {l : List Int} (h14 : op ≠ 14) (h : doOp op m l = .ok m') : Like m m' := by
  unfold doOp at h
  dsimp only at h
  by_cases hc : op = 1 ∨ op = 258
  · rw [if_pos hc] at h; exact stemsM_l h
  rw [if_neg hc] at h; clear hc
  by_cases hc : op = 3 ∨ op = 257
  · rw [if_pos hc] at h; exact stemsM_l h
  rw [if_neg hc] at h; clear hc
  by_cases hc : op = 4
  · rw [if_pos hc] at h; exact moveM_l h
  rw [if_neg hc] at h; clear hc
  by_cases hc : op = 21
  · rw [if_pos hc] at h; exact moveM_l h
  rw [if_neg hc] at h; clear hc
  by_cases hc : op = 22
  · rw [if_pos hc] at h; exact moveM_l h
  rw [if_neg hc] at h; clear hc
  by_cases hc : op = 5
  · rw [if_pos hc] at h; exact drawM_l h
  rw [if_neg hc] at h; clear hc
  by_cases hc : op = 6
  · rw [if_pos hc] at h; exact drawM_l h
  rw [if_neg hc] at h; clear hc
  by_cases hc : op = 7
  · rw [if_pos hc] at h; exact drawM_l h
  rw [if_neg hc] at h; clear hc
  by_cases hc : op = 8
  · rw [if_pos hc] at h; exact drawM_l h
  rw [if_neg hc] at h; clear hc
  by_cases hc : op = 30
  · rw [if_pos hc] at h; exact drawM_l h
  rw [if_neg hc] at h; clear hc
  by_cases hc : op = 31
  · rw [if_pos hc] at h; exact drawM_l h
  rw [if_neg hc] at h; clear hc
  by_cases hc : op = 9
  · rw [if_pos hc] at h; exact closeM_l h
  rw [if_neg hc] at h; clear hc
  by_cases hc : op = 14
  · rw [if_pos hc] at h; exact absurd hc h14
  rw [if_neg hc] at h; clear hc
  by_cases hc : op = 289
  · rw [if_pos hc] at h; (split at h; (cases h; exact ⟨rfl, rfl⟩); cases h)
  rw [if_neg hc] at h; clear hc
  by_cases hc : op = 13
  · rw [if_pos hc] at h; (unfold beginM at h; split at h; (cases h; exact ⟨rfl, rfl⟩); cases h)
  rw [if_neg hc] at h; clear hc
  cases h; exact ⟨rfl, rfl⟩
theorem pathM_l {op : Int} {m m' : M} (h14 : op ≠ 14) (h : pathM m op = .ok m') : m'.stack = [] ∧ m'.done = m.done := by
  unfold pathM at h
  split at h
  · cases h
  · exact doOp_l (m := { m with stack := [] }) h14 h
theorem operM_path {c : Int} (h1 : c ≠ 268) (h2 : c ≠ 272) (h3 : c ≠ 273) (m : M) : operM c m = pathM m c := by
  unfold operM
  rw [if_neg h1, if_neg h2, if_neg h3]
/-- One path operator with its operands. -/
theorem runT_path {call : M → Except Int M} {top : Bool} {r : List Tok} {m : M} (xs : List Int) (c : Int) (hs : m.stack = []) (hx : xs.length ≤ 24) (hc : m.count < 4000) (h10 : c ≠ 10) (h11 : c ≠ 11) (h1 : c ≠ 268) (h2 : c ≠ 272) (h3 : c ≠ 273) :
    T33.runT call top m (xs.map Tok.num ++ .op c :: r) = match pathM { m with stack := xs } c with
      | .error e => .error e
      | .ok m' => if m'.done then .ok (setc (m.count + 1) m') else T33.runT call top (setc (m.count + 1) m') r := by
  rw [runT_nums call top _ xs m (by rw [hs]; simpa using hx), T33.runT, if_neg (by simp; omega), if_neg h11, if_neg h10, operM_path h1 h2 h3]
  have e : ({ m with stack := m.stack ++ xs, count := m.count + 1 } : M) = setc (m.count + 1) { m with stack := xs } := by rw [hs]; rfl
  rw [e, pathM_c]
  cases pathM { m with stack := xs } c with
  | error e => rfl
  | ok m' => rfl
def nums6k (x : Wd) : List Int := (((nums6 x).take ((need (opOf x)).getD 0)).map fun y => Int.tmod y 300)
theorem wtoks_eq (x : Wd) (r : List Tok) : wtoks x ++ r = (nums6k x).map Tok.num ++ .op (opOf x) :: r := by
  unfold wtoks wordT nums6k
  rw [List.map_map, List.append_assoc]
  rfl
theorem op_far {x : Wd} (h : Plain x) : opOf x ≠ 10 ∧ opOf x ≠ 11 ∧ opOf x ≠ 268 ∧ opOf x ≠ 272 ∧ opOf x ≠ 273 ∧ opOf x ≠ 14 := by
  unfold opOf
  have hh := h
  obtain ⟨a, b⟩ := hh
  obtain ⟨n, hn, hn16⟩ : ∃ n : Nat, (x.1 % 20).toNat = n ∧ n < 16 := ⟨_, rfl, by omega⟩
  rw [hn]
  have : ∀ n : Fin 16, opsL.getD n.1 0 ≠ 10 ∧ opsL.getD n.1 0 ≠ 11 ∧ opsL.getD n.1 0 ≠ 268 ∧ opsL.getD n.1 0 ≠ 272 ∧ opsL.getD n.1 0 ≠ 273 ∧ opsL.getD n.1 0 ≠ 14 := by decide
  exact this ⟨n, hn16⟩
def runWs : List Wd → M → Except Int M
  | [], m => .ok m
  | x :: xs, m => match pathM { m with stack := nums6k x } (opOf x) with | .error e => .error e | .ok m' => runWs xs m'
theorem runWs_c (k : Int) : ∀ (ws : List Wd) (m : M), runWs ws (setc k m) = mapE (setc k) (runWs ws m)
  | [], m => rfl
  | x :: xs, m => by
    unfold runWs
    have e : ({ setc k m with stack := nums6k x } : M) = setc k { m with stack := nums6k x } := rfl
    rw [e, pathM_c]
    cases pathM { m with stack := nums6k x } (opOf x) with
    | error e => rfl
    | ok m' => exact runWs_c k xs m'
theorem runWs_l : ∀ (ws : List Wd) (m m' : M), (∀ x ∈ ws, Plain x) → m.stack = [] → m.done = false → runWs ws m = .ok m' → m'.stack = [] ∧ m'.done = false
  | [], m, m', _, hs, hd, h => by cases h; exact ⟨hs, hd⟩
  | x :: xs, m, m', hp, hs, hd, h => by
    unfold runWs at h
    cases hq : pathM { m with stack := nums6k x } (opOf x) with
    | error e => rw [hq] at h; cases h
    | ok m1 =>
      rw [hq] at h
      obtain ⟨a, b⟩ := pathM_l (op_far (hp x (by simp))).2.2.2.2.2 hq
      exact runWs_l xs m1 m' (fun y hy => hp y (by simp [hy])) a (b.trans hd) h
theorem nums6k_len (x : Wd) : (nums6k x).length ≤ 24 := by
  unfold nums6k nums6
  simp
  omega
theorem runT_ws (call : M → Except Int M) (top : Bool) (r : List Tok) : ∀ (ws : List Wd) (m : M), (∀ x ∈ ws, Plain x) → m.stack = [] → m.done = false → m.count + ws.length ≤ 4000 →
    T33.runT call top m (ws.flatMap wtoks ++ r) = match runWs ws m with | .error e => .error e | .ok m' => T33.runT call top (setc (m.count + ws.length) m') r
  | [], m, _, _, _, _ => by
    have e : setc (m.count + (([] : List Wd).length : Int)) m = m := by unfold setc; simp
    show T33.runT call top m r = T33.runT call top (setc (m.count + (([] : List Wd).length : Int)) m) r
    rw [e]
  | x :: xs, m, hp, hs, hd, hc => by
    rw [List.length_cons] at hc
    obtain ⟨f10, f11, f1, f2, f3, f14⟩ := op_far (hp x (by simp))
    rw [List.flatMap_cons, List.append_assoc, wtoks_eq, runT_path (nums6k x) (opOf x) hs (nums6k_len x) (by omega) f10 f11 f1 f2 f3]
    unfold runWs
    cases hq : pathM { m with stack := nums6k x } (opOf x) with
    | error e => rfl
    | ok m1 =>
      obtain ⟨a, b⟩ := pathM_l f14 hq
      have b' : m1.done = false := b.trans hd
      simp only [b', Bool.false_eq_true, if_false]
      rw [runT_ws call top r xs (setc (m.count + 1) m1) (fun y hy => hp y (by simp [hy])) a b' (by show m.count + 1 + (xs.length : Int) ≤ 4000; omega), runWs_c]
      cases hr : runWs xs m1 with
      | error e => rfl
      | ok m2 =>
        show T33.runT call top (setc (m.count + 1 + (xs.length : Int)) (setc (m.count + 1) m2)) r = T33.runT call top (setc (m.count + ((x :: xs).length : Int)) m2) r
        have e : setc (m.count + 1 + (xs.length : Int)) (setc (m.count + 1) m2) = setc (m.count + ((x :: xs).length : Int)) m2 := by
          unfold setc
          rw [List.length_cons]
          simp only [M.mk.injEq, true_and]
          push_cast
          omega
        rw [e]
theorem runWs_app : ∀ (a b : List Wd) (m : M), runWs (a ++ b) m = match runWs a m with | .error e => .error e | .ok m' => runWs b m'
  | [], b, m => rfl
  | x :: xs, b, m => by
    show (match pathM { m with stack := nums6k x } (opOf x) with | .error e => (.error e : Except Int M) | .ok m' => runWs (xs ++ b) m') = match (match pathM { m with stack := nums6k x } (opOf x) with | .error e => (.error e : Except Int M) | .ok m' => runWs xs m') with | .error e => (.error e : Except Int M) | .ok m' => runWs b m'
    cases pathM { m with stack := nums6k x } (opOf x) with
    | error e => rfl
    | ok m1 => exact runWs_app xs b m1
theorem mapE_mapE (k k2 : Int) (x : Except Int M) : mapE (setc k) (mapE (setc k2) x) = mapE (setc k) x := by cases x <;> rfl
theorem path14_done {m m' : M} (h : pathM m 14 = .ok m') : m'.done = true := by
  unfold pathM at h
  split at h
  · cases h
  · have e : doOp 14 { m with stack := [] } m.stack = .ok { m with stack := [], done := true } := rfl
    rw [e] at h
    cases h
    rfl
theorem tail14 (call : M → Except Int M) (top : Bool) (m : M) (hs : m.stack = []) (hc : m.count < 4000) : T33.runT call top m [.op 14] = mapE (setc (m.count + 1)) (pathM m 14) := by
  have h := runT_path (call := call) (top := top) (r := []) (m := m) [] 14 hs (by simp) hc (by decide) (by decide) (by decide) (by decide) (by decide)
  have e : ({ m with stack := [] } : M) = m := by cases m; simp only at hs; subst hs; rfl
  rw [e] at h
  refine (show T33.runT call top m [.op 14] = _ from h).trans ?_
  cases hq : pathM m 14 with
  | error e => rfl
  | ok m' => simp only [path14_done hq, if_true]; rfl
theorem tail11 (call : M → Except Int M) (m : M) (hc : m.count < 4000) : T33.runT call false m [.op 11] = .ok (setc (m.count + 1) m) := by
  rw [T33.runT, if_neg (by omega), if_pos rfl]
  rfl
theorem call_sub (subrs : List (List Int)) (go : M → List Int → Except Int M) (top : Bool) (m : M) (i : Nat) (hi : i < subrs.length) (hs : m.stack = []) (hc : m.count < 4000) (r : List Tok) :
    T33.runT (subrM subrs (some go)) top m (.num (i : Int) :: .op 10 :: r) = match go (setc (m.count + 1) m) (subrs.getD i []) with
      | .error e => .error e
      | .ok m' => if m'.done then .ok m' else T33.runT (subrM subrs (some go)) top m' r := by
  have h1 : push m (i : Int) = .ok { m with stack := [(i : Int)] } := by
    unfold push
    rw [hs]
    simp
  rw [T33.runT, h1]
  dsimp only
  rw [T33.runT, if_neg (by dsimp only; omega), if_neg (by decide), if_pos rfl]
  have e : subrM subrs (some go) { m with stack := [(i : Int)], count := m.count + 1 } = go (setc (m.count + 1) m) (subrs.getD i []) := by
    unfold subrM
    dsimp only
    have e0 : ([(i : Int)] : List Int).getD (([(i : Int)] : List Int).length - 1) 0 = (i : Int) := rfl
    rw [e0, if_neg (by simp; omega), Int.toNat_natCast]
    have e2 : ({ side := m.side, width := m.width, steps := m.steps, stems := m.stems, x := m.x, y := m.y, opn := m.opn, stack := ([(i : Int)] : List Int).take (([(i : Int)] : List Int).length - 1), results := m.results, begun := m.begun, flex := m.flex, points := m.points, done := m.done, count := m.count + 1 } : M) = setc (m.count + 1) m := by
      unfold setc
      rw [show m.stack = [] from hs]
      rfl
    rw [e2]
  rw [e]
  rfl
section
variable (s w : Int) (la lb : List Wd)
def frT : List Tok := [.num s, .num w, .op 13]
/-- What the charstring does, whatever it counts. -/
def core : Except Int M :=
  match pathM { m0 with stack := [s, w] } 13 with
  | .error e => .error e
  | .ok m1 => match runWs la m1 with
    | .error e => .error e
    | .ok m2 => match runWs lb m2 with
      | .error e => .error e
      | .ok m3 => pathM m3 14
/-- From the front on: whatever follows. -/
theorem front_run (call : M → Except Int M) (top : Bool) (m : M) (hm : m = setc m.count m0) (hc : m.count < 3000) (r : List Tok) (hpa : ∀ x ∈ la, Plain x) (hla : la.length ≤ 20) :
    T33.runT call top m (frT s w ++ (la.flatMap wtoks ++ r)) = match pathM { m0 with stack := [s, w] } 13 with
      | .error e => .error e
      | .ok m1 => match runWs la m1 with
        | .error e => .error e
        | .ok m2 => T33.runT call top (setc (m.count + 1 + la.length) m2) r := by
  have hs : m.stack = [] := by rw [hm]; rfl
  have h := runT_path (call := call) (top := top) (r := la.flatMap wtoks ++ r) (m := m) [s, w] 13 hs (by simp) (by omega) (by decide) (by decide) (by decide) (by decide) (by decide)
  refine (show T33.runT call top m (frT s w ++ (la.flatMap wtoks ++ r)) = _ from h).trans ?_
  have e : ({ m with stack := [s, w] } : M) = setc m.count { m0 with stack := [s, w] } := by rw [hm]; rfl
  rw [e, pathM_c]
  cases hq : pathM { m0 with stack := [s, w] } 13 with
  | error e => rfl
  | ok m1 =>
    obtain ⟨a, b⟩ := pathM_l (by decide) hq
    have b' : m1.done = false := b
    show (if m1.done = true then Except.ok (setc (m.count + 1) (setc m.count m1)) else T33.runT call top (setc (m.count + 1) (setc m.count m1)) (la.flatMap wtoks ++ r)) = _
    rw [b', if_neg (by decide)]
    have e2 : setc (m.count + 1) (setc m.count m1) = setc (m.count + 1) m1 := rfl
    rw [e2, runT_ws call top r la (setc (m.count + 1) m1) hpa a b' (by show m.count + 1 + (la.length : Int) ≤ 4000; omega), runWs_c]
    dsimp only
    cases runWs la m1 with
    | error e => rfl
    | ok m2 => rfl
/-- The second half and the end. -/
theorem tail_run (call : M → Except Int M) (top : Bool) (m : M) (hs : m.stack = []) (hd : m.done = false) (hc : m.count < 3100) (hpb : ∀ x ∈ lb, Plain x) (hlb : lb.length ≤ 20) :
    T33.runT call top m (lb.flatMap wtoks ++ [.op 14]) = match runWs lb m with
      | .error e => .error e
      | .ok m3 => mapE (setc (m.count + lb.length + 1)) (pathM m3 14) := by
  rw [runT_ws call top _ lb m hpb hs hd (by omega)]
  cases hq : runWs lb m with
  | error e => rfl
  | ok m3 =>
    obtain ⟨a, b⟩ := runWs_l lb m m3 hpb hs hd hq
    show T33.runT call top (setc (m.count + lb.length) m3) [.op 14] = mapE (setc (m.count + lb.length + 1)) (pathM m3 14)
    rw [tail14 call top (setc (m.count + lb.length) m3) a (by show m.count + (lb.length : Int) < 4000; omega), pathM_c, mapE_mapE]
    rfl
theorem R1 (call : M → Except Int M) (hpa : ∀ x ∈ la, Plain x) (hpb : ∀ x ∈ lb, Plain x) (hla : la.length ≤ 20) (hlb : lb.length ≤ 20) :
    ∃ k, T33.runT call true m0 (frT s w ++ (la.flatMap wtoks ++ (lb.flatMap wtoks ++ [.op 14]))) = mapE (setc k) (core s w la lb) := by
  refine ⟨(0 + 1 + (la.length : Int)) + lb.length + 1, ?_⟩
  rw [front_run s w la call true m0 rfl (by decide) _ hpa hla]
  unfold core
  cases hq : pathM { m0 with stack := [s, w] } 13 with
  | error e => rfl
  | ok m1 =>
    obtain ⟨a, b⟩ := pathM_l (by decide) hq
    dsimp only
    cases hq2 : runWs la m1 with
    | error e => rfl
    | ok m2 =>
      obtain ⟨a2, b2⟩ := runWs_l la m1 m2 hpa a b hq2
      dsimp only
      rw [tail_run lb call true (setc (m0.count + 1 + la.length) m2) a2 b2 (by show (0 : Int) + 1 + (la.length : Int) < 3100; omega) hpb hlb, runWs_c]
      cases runWs lb m2 with
      | error e => rfl
      | ok m3 =>
        show mapE (setc (m0.count + 1 + la.length + lb.length + 1)) (pathM (setc (m0.count + 1 + la.length) m3) 14) = mapE _ (pathM m3 14)
        rw [pathM_c, mapE_mapE]
        rfl
theorem R2 (subrs : List (List Int)) (hsub : subrs = [T33.encs (lb.flatMap wtoks ++ [.op 11])]) (htk : ∀ t ∈ lb.flatMap wtoks ++ [Tok.op 11], tok t) (hpa : ∀ x ∈ la, Plain x) (hpb : ∀ x ∈ lb, Plain x) (hla : la.length ≤ 20) (hlb : lb.length ≤ 20) :
    ∃ k, T33.runT (subrM subrs (some fun m s => runD subrs 9 false m s)) true m0 (frT s w ++ (la.flatMap wtoks ++ [.num ((0 : Nat) : Int), .op 10, .op 14])) = mapE (setc k) (core s w la lb) := by
  refine ⟨(0 + 1 + (la.length : Int)) + 1 + lb.length + 1 + 1, ?_⟩
  rw [front_run s w la _ true m0 rfl (by decide) _ hpa hla]
  unfold core
  cases hq : pathM { m0 with stack := [s, w] } 13 with
  | error e => rfl
  | ok m1 =>
    obtain ⟨a, b⟩ := pathM_l (by decide) hq
    dsimp only
    cases hq2 : runWs la m1 with
    | error e => rfl
    | ok m2 =>
      obtain ⟨a2, b2⟩ := runWs_l la m1 m2 hpa a b hq2
      dsimp only
      rw [call_sub subrs _ true (setc (m0.count + 1 + la.length) m2) 0 (by rw [hsub]; simp) a2 (by show (0 : Int) + 1 + (la.length : Int) < 4000; omega)]
      have e0 : subrs.getD 0 [] = T33.encs (lb.flatMap wtoks ++ [.op 11]) := by rw [hsub]; rfl
      rw [e0, runD_T subrs 8 false _ _ htk]
      rw [runT_ws _ false _ lb (setc ((setc (m0.count + 1 + la.length) m2).count + 1) (setc (m0.count + 1 + la.length) m2)) hpb a2 b2 (by show (0 : Int) + 1 + (la.length : Int) + 1 + lb.length ≤ 4000; omega), runWs_c, runWs_c, mapE_mapE]
      cases hq3 : runWs lb m2 with
      | error e => rfl
      | ok m3 =>
        obtain ⟨a3, b3⟩ := runWs_l lb m2 m3 hpb a2 b2 hq3
        show (match T33.runT _ false (setc ((0 : Int) + 1 + la.length + 1 + lb.length) m3) [.op 11] with
          | .error e => (.error e : Except Int M)
          | .ok m' => if m'.done then .ok m' else T33.runT (subrM subrs (some fun m s => runD subrs 9 false m s)) true m' [.op 14]) = mapE (setc (0 + 1 + la.length + 1 + lb.length + 1 + 1)) (pathM m3 14)
        rw [tail11 _ _ (by show (0 : Int) + 1 + la.length + 1 + lb.length < 4000; omega)]
        show (if m3.done = true then _ else T33.runT (subrM subrs (some fun m s => runD subrs 9 false m s)) true (setc ((0 : Int) + 1 + la.length + 1 + lb.length + 1) m3) [.op 14]) = _
        rw [b3, if_neg (by decide), tail14 _ true (setc ((0 : Int) + 1 + la.length + 1 + lb.length + 1) m3) a3 (by show (0 : Int) + 1 + la.length + 1 + lb.length + 1 < 4000; omega), pathM_c, mapE_mapE]
        rfl
theorem R3 (subrs : List (List Int)) (hsub : subrs = [T33.encs (frT s w ++ (la.flatMap wtoks ++ [.num ((1 : Nat) : Int), .op 10, .op 11])), T33.encs (lb.flatMap wtoks ++ [.op 14])]) (htk : ∀ t ∈ frT s w ++ (la.flatMap wtoks ++ [.num ((1 : Nat) : Int), .op 10, .op 11]), tok t) (htk2 : ∀ t ∈ lb.flatMap wtoks ++ [Tok.op 14], tok t) (hpa : ∀ x ∈ la, Plain x) (hpb : ∀ x ∈ lb, Plain x) (hla : la.length ≤ 20) (hlb : lb.length ≤ 20) :
    ∃ k, T33.runT (subrM subrs (some fun m s => runD subrs 9 false m s)) true m0 [.num ((0 : Nat) : Int), .op 10] = mapE (setc k) (core s w la lb) := by
  refine ⟨(1 : Int) + 1 + la.length + 1 + lb.length + 1, ?_⟩
  rw [call_sub subrs _ true m0 0 (by rw [hsub]; simp) rfl (by decide)]
  have e0 : subrs.getD 0 [] = T33.encs (frT s w ++ (la.flatMap wtoks ++ [.num ((1 : Nat) : Int), .op 10, .op 11])) := by rw [hsub]; rfl
  have e1 : subrs.getD 1 [] = T33.encs (lb.flatMap wtoks ++ [.op 14]) := by rw [hsub]; rfl
  rw [e0, runD_T subrs 8 false _ _ htk, front_run s w la _ false (setc (m0.count + 1) m0) rfl (by decide) _ hpa hla]
  unfold core
  cases hq : pathM { m0 with stack := [s, w] } 13 with
  | error e => rfl
  | ok m1 =>
    obtain ⟨a, b⟩ := pathM_l (by decide) hq
    dsimp only
    cases hq2 : runWs la m1 with
    | error e => rfl
    | ok m2 =>
      obtain ⟨a2, b2⟩ := runWs_l la m1 m2 hpa a b hq2
      dsimp only
      rw [call_sub subrs _ false (setc ((setc (m0.count + 1) m0).count + 1 + la.length) m2) 1 (by rw [hsub]; simp) a2 (by show (0 : Int) + 1 + 1 + (la.length : Int) < 4000; omega)]
      rw [e1, runD_T subrs 7 false _ _ htk2]
      rw [tail_run lb _ false (setc ((setc ((setc (m0.count + 1) m0).count + 1 + la.length) m2).count + 1) (setc ((setc (m0.count + 1) m0).count + 1 + la.length) m2)) a2 b2 (by show (0 : Int) + 1 + 1 + (la.length : Int) + 1 < 3100; omega) hpb hlb, runWs_c, runWs_c, mapE_mapE]
      cases hq3 : runWs lb m2 with
      | error e => rfl
      | ok m3 =>
        dsimp only [mapE]
        rw [pathM_c]
        cases hq4 : pathM m3 14 with
        | error e => rfl
        | ok m4 =>
          have hd := path14_done hq4
          have hd2 : ∀ k k2, (setc k (setc k2 m4)).done = true := fun _ _ => hd
          simp only [mapE, hd2, if_true]
          rfl
/-- What is left of a run. -/
def res : Except Int M → Gl × Int
  | .error e => (g0, e)
  | .ok m => (m.gl, 0)
theorem res_c (k : Int) (x : Except Int M) : res (mapE (setc k) x) = res x := by cases x <;> rfl
omit s w la lb in
theorem wtoks_tok (x : Wd) (h : Plain x) : ∀ t ∈ wtoks x, tok t := by
  obtain ⟨k, hk, _⟩ := plain_need h
  intro t ht
  unfold wtoks wordT at ht
  rw [List.mem_append] at ht
  rcases ht with ht | ht
  · obtain ⟨y, _, rfl⟩ := List.mem_map.1 ht
    have := rem300 y
    show (_ : Int) ≤ _ ∧ _ ≤ _
    omega
  · rw [List.mem_singleton] at ht
    subst ht
    have h1 := need_rng hk
    have h2 := need_tok hk
    refine ⟨?_, by omega, h2.1, h2.2⟩
    unfold isOp
    rw [hk]
    simp
omit s w lb in
theorem ws_tok (hp : ∀ x ∈ la, Plain x) : ∀ t ∈ la.flatMap wtoks, tok t := fun t ht => by
  obtain ⟨x, hx, hxt⟩ := List.mem_flatMap.1 ht
  exact wtoks_tok x (hp x hx) t hxt
omit s w lb in
theorem ws_len (hp : ∀ x ∈ la, Plain x) : (la.flatMap wtoks).length ≤ 7 * la.length := by
  induction la with
  | nil => simp
  | cons x r ih =>
    rw [List.flatMap_cons, List.length_append, List.length_cons]
    have := wtoks_len x (hp x (by simp))
    have := ih (fun y hy => hp y (by simp [hy]))
    omega
omit la lb in
theorem fr_tok (hs : -32768 ≤ s ∧ s ≤ 32767) (hw : -32768 ≤ w ∧ w ≤ 32767) : ∀ t ∈ frT s w, tok t := fun t ht => by
  unfold frT at ht
  simp only [List.mem_cons, List.not_mem_nil, or_false] at ht
  rcases ht with rfl | rfl | rfl
  · show (_ : Int) ≤ _ ∧ _ ≤ _; omega
  · show (_ : Int) ≤ _ ∧ _ ≤ _; omega
  · show _ ∧ _ ∧ _ ∧ _; decide
omit s w la lb in
theorem tok_app {a b : List Tok} (ha : ∀ t ∈ a, tok t) (hb : ∀ t ∈ b, tok t) : ∀ t ∈ a ++ b, tok t := fun t ht => (List.mem_append.1 ht).elim (ha t) (hb t)
omit s w la lb in
theorem runG_res (subrs : List (List Int)) (l : List Tok) (h : ∀ t ∈ l, tok t) (h1 : subrs.length ≤ 200) (h2 : ∀ s ∈ subrs, s.length ≤ 4000) (h3 : l.length ≤ 800) :
    runG subrs (T33.encs l) = res (T33.runT (subrM subrs (some fun m s => runD subrs 9 false m s)) true m0 l) := by
  rw [runG_T subrs l h h1 h2 (by have := encs_le l; omega)]
  unfold res
  rfl
omit s w la lb in
theorem sub_len (l : List Tok) (h : l.length ≤ 800) : (T33.encs l).length ≤ 4000 := by have := encs_le l; omega
def subB : List Int := T33.encs (lb.flatMap wtoks ++ [.op 11])
def subE : List Int := T33.encs (lb.flatMap wtoks ++ [.op 14])
def subA : List Int := T33.encs (frT s w ++ (la.flatMap wtoks ++ [.num ((1 : Nat) : Int), .op 10, .op 11]))
theorem calls_law (hs : -32768 ≤ s ∧ s ≤ 32767) (hw : -32768 ≤ w ∧ w ≤ 32767) (hpa : ∀ x ∈ la, Plain x) (hpb : ∀ x ∈ lb, Plain x) (hla : la.length ≤ 20) (hlb : lb.length ≤ 20) :
    runG [subB lb] (T33.encs (frT s w ++ (la.flatMap wtoks ++ [.num ((0 : Nat) : Int), .op 10, .op 14]))) = runG [] (T33.encs (frT s w ++ (la.flatMap wtoks ++ (lb.flatMap wtoks ++ [.op 14])))) ∧
    runG [subA s w la, subE lb] (T33.encs [.num ((0 : Nat) : Int), .op 10]) = runG [] (T33.encs (frT s w ++ (la.flatMap wtoks ++ (lb.flatMap wtoks ++ [.op 14])))) := by
  have l1 := ws_len la hpa
  have l2 := ws_len lb hpb
  have tf := fr_tok s w hs hw
  have ta := ws_tok la hpa
  have tb := ws_tok lb hpb
  have t14 : ∀ t ∈ [Tok.op 14], tok t := fun t ht => by rw [List.mem_singleton] at ht; subst ht; show _ ∧ _ ∧ _ ∧ _; decide
  have t11 : ∀ t ∈ [Tok.op 11], tok t := fun t ht => by rw [List.mem_singleton] at ht; subst ht; show _ ∧ _ ∧ _ ∧ _; decide
  have t3 : ∀ t ∈ [Tok.num ((0 : Nat) : Int), .op 10, .op 14], tok t := fun t ht => by
    simp only [List.mem_cons, List.not_mem_nil, or_false] at ht
    rcases ht with rfl | rfl | rfl
    · show (_ : Int) ≤ _ ∧ _ ≤ _; decide
    · show _ ∧ _ ∧ _ ∧ _; decide
    · show _ ∧ _ ∧ _ ∧ _; decide
  have t4 : ∀ t ∈ [Tok.num ((1 : Nat) : Int), .op 10, .op 11], tok t := fun t ht => by
    simp only [List.mem_cons, List.not_mem_nil, or_false] at ht
    rcases ht with rfl | rfl | rfl
    · show (_ : Int) ≤ _ ∧ _ ≤ _; decide
    · show _ ∧ _ ∧ _ ∧ _; decide
    · show _ ∧ _ ∧ _ ∧ _; decide
  have t5 : ∀ t ∈ [Tok.num ((0 : Nat) : Int), .op 10], tok t := fun t ht => by
    simp only [List.mem_cons, List.not_mem_nil, or_false] at ht
    rcases ht with rfl | rfl
    · show (_ : Int) ≤ _ ∧ _ ≤ _; decide
    · show _ ∧ _ ∧ _ ∧ _; decide
  have lf : (frT s w).length = 3 := rfl
  have e1 := runG_res [] (frT s w ++ (la.flatMap wtoks ++ (lb.flatMap wtoks ++ [.op 14]))) (tok_app tf (tok_app ta (tok_app tb t14))) (by simp) (by simp) (by simp only [List.length_append, lf, List.length_singleton]; omega)
  have e2 := runG_res [subB lb] (frT s w ++ (la.flatMap wtoks ++ [.num ((0 : Nat) : Int), .op 10, .op 14])) (tok_app tf (tok_app ta t3)) (by simp) (fun x hx => by
    rw [List.mem_singleton] at hx; subst hx; exact sub_len _ (by simp only [List.length_append, List.length_singleton]; omega)) (by simp only [List.length_append, lf, List.length_cons, List.length_nil]; omega)
  have e3 := runG_res [subA s w la, subE lb] [.num ((0 : Nat) : Int), .op 10] t5 (by simp) (fun x hx => by
    simp only [List.mem_cons, List.not_mem_nil, or_false] at hx
    rcases hx with rfl | rfl
    · exact sub_len _ (by simp only [List.length_append, lf, List.length_cons, List.length_nil]; omega)
    · exact sub_len _ (by simp only [List.length_append, List.length_singleton]; omega)) (by simp)
  obtain ⟨k1, r1⟩ := R1 s w la lb (subrM [] (some fun m s => runD [] 9 false m s)) hpa hpb hla hlb
  obtain ⟨k2, r2⟩ := R2 s w la lb [subB lb] rfl (tok_app tb t11) hpa hpb hla hlb
  obtain ⟨k3, r3⟩ := R3 s w la lb [subA s w la, subE lb] rfl (tok_app tf (tok_app ta t4)) (tok_app tb t14) hpa hpb hla hlb
  rw [e1, e2, e3, r1, r2, r3, res_c, res_c, res_c]
  exact ⟨rfl, rfl⟩
end
end Go.Proofs.Ytimnohaalccdkaa.C33
/- OutlineCalls walked (chapter 33). -/
namespace Go.Proofs.Ytimnohaalccdkaa.V33c
open Go.Proofs.Ytimnohaalccdkaa Go.Proofs.Ytimnohaalccdkaa.K33 Go.Proofs.Ytimnohaalccdkaa.M33 Go.Proofs.Ytimnohaalccdkaa.L33 Go.Proofs.Ytimnohaalccdkaa.N33 Go.Proofs.Ytimnohaalccdkaa.G33a Go.Proofs.Ytimnohaalccdkaa.G33o Go.Proofs.Ytimnohaalccdkaa.G33p Go.Proofs.Ytimnohaalccdkaa.W33 Go.Proofs.Ytimnohaalccdkaa.D33 Go.Proofs.Ytimnohaalccdkaa.E33 Go.Proofs.Ytimnohaalccdkaa.V33 Go.Proofs.Ytimnohaalccdkaa.B33 Go.Proofs.Ytimnohaalccdkaa.N33b Go.Proofs.Ytimnohaalccdkaa.G33t Go.Proofs.Ytimnohaalccdkaa.G33u Go.Proofs.Ytimnohaalccdkaa.P33a
open Go.RowKit Go.Proofs.YtimnohaalccdkaaW.PrintWords Go.Proofs.YtimnohaalccdkaaW.PrintLast Go.Proofs.YtimnohaalccdkaaW.PrintMore
open Go.Proofs.Ytimnohaalccdkaa.T33 (Tok tok enc)
set_option linter.unusedVariables false
set_option linter.unusedSimpArgs false
set_option maxRecDepth 100000
theorem num_new (W : World) (xs : List Int) (c : Nat) (cs : Array Value) (hcs : cs = (nums .i64 xs).toArray) (hx : ∀ x ∈ xs, -2147483648 ≤ x ∧ x ≤ 2147483647) (hl : xs.length ≤ 1000) :
    Calls Try.prog 22 #[.slice (some ⟨W.heap.size, 0, none⟩) xs.length c] (W.alloc (.cells cs 3)) fun e w' => (∃ t, e = .returned (.string t) ∧ bytesOf t = xs.flatMap numB) ∧ Below W.heap.size W w' := by
  subst hcs
  have hi : Ints (W.alloc (.cells (nums .i64 xs).toArray 3)) (some ⟨W.heap.size, 0, none⟩) xs := .inr ⟨_, _, _, rfl, blk_new _ _, fun i x hi => by simp [nums, hi]⟩
  refine (number_call hi hx hl).mono ?_
  rintro e w' ⟨rfl, hb⟩
  exact ⟨⟨_, rfl, bytesOf_strOf _ (flat_oct xs)⟩, below_step (below_alloc (Below.refl _ _) _) hb⟩
theorem wf_i16 {n : Int} (h : (Lit.int .i16 n).wf = true) : -32768 ≤ n ∧ n ≤ 32767 := by
  simp [Lit.wf, IntKind.min, IntKind.max, IntKind.bits, IntKind.signed] at h
  omega
/-- A run stored into a variable. -/
structure Ran (W : World) (g : Nat) (r : Gl × Int) : Prop where
  val : ∃ cs, cs.size = 4 ∧ cs.all (·.oneCell') = true ∧ W.heap[g]? = some (.cells cs 43 (0, 0)) ∧ GlR W (.agg cs) r.1
  l1 : r.1.2.2.1.length ≤ 300
  l2 : r.1.2.2.2.length ≤ 40
theorem run_k {w : World} {sb : Value} {ss : List ByteArray} {S : List (List Int)} {l : List Int} {s : ByteArray} {r : Gl × Int} (h : StrsAt w sb ss) (hl : ss.length ≤ 1000000) (hS : ss.map bytesOf = S) (hs : bytesOf s = l) (hr : runG S l = r) : Calls Try.prog 18 #[sb, .string s] w (RanTo w r) := by
  rw [← hr, ← hS, ← hs]
  exact run_prog h hl s
theorem encs_app (a b : List Tok) : T33.encs (a ++ b) = T33.encs a ++ T33.encs b := List.flatMap_append
theorem op14 : bytesOf ⟨#[14]⟩ = T33.encs [.op 14] := rfl
theorem op11 : bytesOf ⟨#[11]⟩ = T33.encs [.op 11] := rfl
theorem Ran.below {w W : World} {g : Nat} {r : Gl × Int} (h : Ran w g r) (hb : Below w.heap.size w W) : Ran W g r := by
  obtain ⟨⟨cs, a, b, c, d⟩, l1, l2⟩ := h
  exact ⟨⟨cs, a, b, blk_below c hb, d.below hb⟩, l1, l2⟩
set_option maxHeartbeats 8000000 in
theorem calls_walk {A1 A2 : Option Addr} {c1 c2 : Nat} (side width : Int) (la lb : List Wd) (hsd : (Lit.int .i16 side).wf = true) (hwd : (Lit.int .i16 width).wf = true) (w : World) (h1 : Rd w (.slice A1 la.length c1) la.length (la.flatMap wc)) (h2 : Rd w (.slice A2 lb.length c2) lb.length (lb.flatMap wc))
    (hc1 : la.length ≤ c1 ∧ c1 ≤ 9223372036854775807) (hc2 : lb.length ≤ c2 ∧ c2 ≤ 9223372036854775807) (hu1 : ∀ x ∈ la, 0 ≤ x.1 ∧ x.1 < 256) (hu2 : ∀ x ∈ lb, 0 ≤ x.1 ∧ x.1 < 256) :
    Calls Try.prog 7 #[.int .i16 side, .int .i16 width, .slice A1 la.length c1, .slice A2 lb.length c2] w fun e w' => e = .returned (.bool true) ∧ Below w.heap.size w w' := by
  have hs := wf_i16 hsd
  have hw := wf_i16 hwd
  have ws1 : wrap64 side = side := wid (by omega) (by omega)
  have ww1 : wrap64 width = width := wid (by omega) (by omega)
  have HS := Aside0.mk hs
  have HWD := Aside0.mk hw
  have H1' := Aside0.mk h1
  have H2' := Aside0.mk h2
  have HC1' := Aside0.mk hc1
  have HC2' := Aside0.mk hc2
  have HU1' := Aside0.mk hu1
  have HU2' := Aside0.mk hu2
  clear hs hw hsd hwd h1 h2 hc1 hc2 hu1 hu2
  go_enter Try.func7, Try.ntmps7
  go_wp2_with fail
  refine (works_call w).mono ?_
  rintro e w1 ⟨rfl, hb1⟩
  have HB1 := Aside0.mk hb1
  clear hb1
  go_wp2_with fail
  simp only [ws1, ww1]
  refine (num_new w1 [side, width] 2 _ rfl (by have := HS.out; have := HWD.out; intro x hx; simp only [List.mem_cons, List.not_mem_nil, or_false] at hx; omega) (by simp)).mono ?_
  rintro e w2 ⟨⟨s0, rfl, hs0⟩, hb2⟩
  have HB2 := Aside0.mk (below_step HB1.out hb2)
  have z0 : s0.size ≤ 10 := by rw [← bytesOf_len, hs0]; exact flat_len [side, width]
  obtain ⟨sF, hsF⟩ : ∃ sF, s0 ++ (⟨#[13]⟩ : ByteArray) = sF := ⟨_, rfl⟩
  have zF : sF.size ≤ 11 := by rw [← hsF, ByteArray.size_append]; show s0.size + 1 ≤ 11; omega
  have HF : Aside0 (bytesOf sF = T33.encs (C33.frT side width)) := ⟨by rw [← hsF, bytesOf_append, hs0]; simp [T33.encs, C33.frT, enc]; rfl⟩
  have m0 : s0.size + 1 ≤ 9223372036854775807 := by omega
  clear hs0 hb2 HB1
  go_wp2_with fail
  refine (plain_call (H1'.out.below HB2.out) HC1'.out.1 HU1'.out HC1'.out.2).mono ?_
  rintro e w3 ⟨⟨v1, rfl, ho1⟩, hb3⟩
  obtain ⟨B1, d1, rfl⟩ := own_slice ho1
  have hr1 := rd_own ho1
  have HB3 := Aside0.mk (below_step HB2.out hb3)
  have HR1 := Aside0.mk hr1
  have hpl1 : ∀ x ∈ (la.take 20).map plainW, Plain x := fun x hx => by
    obtain ⟨y, hy, rfl⟩ := List.mem_map.1 hx
    exact plainW_ok (HU1'.out y (List.mem_of_mem_take hy))
  have hlen1 : ((la.take 20).map plainW).length ≤ 20 := by rw [List.length_map, List.length_take]; omega
  obtain ⟨pa, hpa⟩ : ∃ pa, (la.take 20).map plainW = pa := ⟨_, rfl⟩
  rw [hpa] at HR1 hpl1 hlen1 ⊢
  have HP1 := Aside0.mk (And.intro hpl1 hlen1)
  clear ho1 hr1 hb3 HB2 hpl1 hlen1 hpa
  go_wp2_with fail
  refine (body_call HR1.out HP1.out.1 (by have := HP1.out.2; omega)).mono ?_
  rintro e w4 ⟨⟨a, rfl, ha, za⟩, hb4⟩
  have HB4 := Aside0.mk (below_step HB3.out hb4)
  rw [List.take_of_length_le (by have := HP1.out.2; omega)] at ha
  have HA := Aside0.mk ha
  clear ha hb4 HB3 HR1
  go_wp2_with fail
  refine (plain_call (H2'.out.below HB4.out) HC2'.out.1 HU2'.out HC2'.out.2).mono ?_
  rintro e w5 ⟨⟨v2, rfl, ho2⟩, hb5⟩
  obtain ⟨B2, d2, rfl⟩ := own_slice ho2
  have hr2 := rd_own ho2
  have HB5 := Aside0.mk (below_step HB4.out hb5)
  have HR2 := Aside0.mk hr2
  have hpl2 : ∀ x ∈ (lb.take 20).map plainW, Plain x := fun x hx => by
    obtain ⟨y, hy, rfl⟩ := List.mem_map.1 hx
    exact plainW_ok (HU2'.out y (List.mem_of_mem_take hy))
  have hlen2 : ((lb.take 20).map plainW).length ≤ 20 := by rw [List.length_map, List.length_take]; omega
  obtain ⟨pb, hpb⟩ : ∃ pb, (lb.take 20).map plainW = pb := ⟨_, rfl⟩
  rw [hpb] at HR2 hpl2 hlen2 ⊢
  have HP2 := Aside0.mk (And.intro hpl2 hlen2)
  clear ho2 hr2 hb5 HB4 hpl2 hlen2 hpb
  go_wp2_with fail
  refine (body_call HR2.out HP2.out.1 (by have := HP2.out.2; omega)).mono ?_
  rintro e w6 ⟨⟨b, rfl, hb, zb⟩, hb6⟩
  have HB6 := Aside0.mk (below_step HB5.out hb6)
  rw [List.take_of_length_le (by have := HP2.out.2; omega)] at hb
  have HBB := Aside0.mk hb
  clear hb hb6 HB5 HR2
  have LAW := C33.calls_law side width pa pb HS.out HWD.out HP1.out.1 HP2.out.1 HP1.out.2 HP2.out.2
  obtain ⟨r, hr⟩ : ∃ r, runG [] (T33.encs (C33.frT side width ++ (pa.flatMap wtoks ++ (pb.flatMap wtoks ++ [.op 14])))) = r := ⟨_, rfl⟩
  rw [hr] at LAW
  have HLAW := Aside0.mk LAW
  have HR := Aside0.mk hr
  clear LAW hr
  go_wp2_with fail
  have e1 : bytesOf (sF ++ a ++ b ++ ⟨#[14]⟩) = T33.encs (C33.frT side width ++ (pa.flatMap wtoks ++ (pb.flatMap wtoks ++ [.op 14]))) := by rw [bytesOf_append, bytesOf_append, bytesOf_append, HF.out, HA.out, HBB.out]; simp only [encs_app, List.append_assoc, op14]
  refine (run_k (S := []) (l := T33.encs (C33.frT side width ++ (pa.flatMap wtoks ++ (pb.flatMap wtoks ++ [.op 14])))) (r := r) (strs_nil _) (by simp) rfl e1 HR.out).mono ?_
  rintro e v1 ⟨vv, rfl, hgl, hbr, k1, k2⟩
  obtain ⟨cs1, rfl, hgr⟩ := glv_r hgl
  obtain ⟨hc4, hcA⟩ := glr_one hgr
  have HC1 := Aside0.mk (And.intro hc4 hcA)
  have hst := mkG_below v1 (.cells #[.int .i64 0, .int .i64 0, .slice none 0 0, .slice none 0 0] 43) cs1
  have hnw := mkG_new v1 #[.int .i64 0, .int .i64 0, .slice none 0 0, .slice none 0 0] cs1 43
  obtain ⟨u1, hu1⟩ : ∃ u, (v1.alloc (.cells #[.int .i64 0, .int .i64 0, .slice none 0 0, .slice none 0 0] 43)).setRow v1.heap.size cs1 = u := ⟨_, rfl⟩
  have hu1' : mkG v1 (.cells #[.int .i64 0, .int .i64 0, .slice none 0 0, .slice none 0 0] 43) cs1 = u1 := hu1
  rw [hu1'] at hst hnw
  have HRAN1 : Aside0 (Ran u1 v1.heap.size r) := ⟨⟨⟨cs1, hc4, hcA, hnw, hgr.below hst⟩, k1, k2⟩⟩
  clear hu1'
  have HB7 := Aside0.mk (below_step HB6.out (below_step hbr hst))
  clear e1 hgl hbr k1 k2 hgr hc4 hcA hst hnw HB6
  obtain ⟨us1, hus1⟩ : ∃ us, u1.alloc (.cells #[.string (b ++ ⟨#[11]⟩)] 9) = us := ⟨_, rfl⟩
  have hbs1 : Below u1.heap.size u1 us1 := by rw [← hus1]; exact below_alloc (Below.refl _ _) _
  have hss1 := strs_new u1 [b ++ ⟨#[11]⟩] 1 _ rfl
  rw [show (List.map Value.string [b ++ ⟨#[11]⟩]).toArray = #[Value.string (b ++ ⟨#[11]⟩)] from rfl, hus1] at hss1
  have HSS1 := Aside0.mk hss1
  have HB8 := Aside0.mk (below_step HB7.out hbs1)
  have HBS1 := Aside0.mk hbs1
  clear hbs1 hss1 HB7
  go_wp2_with (first | (refine store_gl rfl _ _ rfl _ rfl #[.int .i64 0, .int .i64 0, .slice none 0 0, .slice none 0 0] cs1 rfl (blk_new _ _) rfl HC1.out.1 HC1.out.2 ?_; rw [hu1]))
  clear hus1
  refine (num_new us1 [0] 1 _ rfl (by decide) (by decide)).mono ?_
  rintro e n1 ⟨⟨s1, rfl, hs1⟩, hbn⟩
  have zs1 : s1.size ≤ 5 := by rw [← bytesOf_len, hs1]; exact flat_len [0]
  have HN1 := Aside0.mk hs1
  have HB9 := Aside0.mk (below_step HB8.out hbn)
  have HRAN1b := Aside0.mk (HRAN1.out.below (below_step HBS1.out hbn))
  have HSS1b := Aside0.mk (StrsAt.below HSS1.out hbn)
  clear hs1 hbn HB8 HRAN1 HSS1 HBS1
  go_wp2_with fail
  have e2 : bytesOf (sF ++ a ++ s1 ++ ⟨#[10, 14]⟩) = T33.encs (C33.frT side width ++ (pa.flatMap wtoks ++ [.num ((0 : Nat) : Int), .op 10, .op 14])) := by rw [bytesOf_append, bytesOf_append, bytesOf_append, HF.out, HA.out, HN1.out, encs_app, encs_app]; simp only [List.append_assoc]; rfl
  have hS2 : [b ++ (⟨#[11]⟩ : ByteArray)].map bytesOf = [C33.subB pb] := by rw [List.map_cons, bytesOf_append, HBB.out, op11, ← encs_app]; rfl
  refine (run_k (S := [C33.subB pb]) (l := T33.encs (C33.frT side width ++ (pa.flatMap wtoks ++ [.num ((0 : Nat) : Int), .op 10, .op 14]))) (r := r) HSS1b.out (by simp) hS2 e2 (HLAW.out.1)).mono ?_
  rintro e v2 ⟨vv, rfl, hgl, hbr, k1, k2⟩
  obtain ⟨cs2, rfl, hgr⟩ := glv_r hgl
  obtain ⟨hc4, hcA⟩ := glr_one hgr
  have HC2 := Aside0.mk (And.intro hc4 hcA)
  have hst := mkG_below v2 (.cells #[.int .i64 0, .int .i64 0, .slice none 0 0, .slice none 0 0] 43) cs2
  have hnw := mkG_new v2 #[.int .i64 0, .int .i64 0, .slice none 0 0, .slice none 0 0] cs2 43
  obtain ⟨u2, hu2⟩ : ∃ u, (v2.alloc (.cells #[.int .i64 0, .int .i64 0, .slice none 0 0, .slice none 0 0] 43)).setRow v2.heap.size cs2 = u := ⟨_, rfl⟩
  have hu2' : mkG v2 (.cells #[.int .i64 0, .int .i64 0, .slice none 0 0, .slice none 0 0] 43) cs2 = u2 := hu2
  rw [hu2'] at hst hnw
  have HRAN2 : Aside0 (Ran u2 v2.heap.size r) := ⟨⟨⟨cs2, hc4, hcA, hnw, hgr.below hst⟩, k1, k2⟩⟩
  clear hu2'
  have HB10 := Aside0.mk (below_step HB9.out (below_step hbr hst))
  have HRAN1c := Aside0.mk (HRAN1b.out.below (below_step hbr hst))
  clear e2 hS2 hgl hbr k1 k2 hgr hc4 hcA hst hnw HB9 HRAN1b HSS1b
  go_wp2_with (first | (refine store_gl rfl _ _ rfl _ rfl #[.int .i64 0, .int .i64 0, .slice none 0 0, .slice none 0 0] cs2 rfl (blk_new _ _) rfl HC2.out.1 HC2.out.2 ?_; rw [hu2]))
  refine (num_new u2 [1] 1 _ rfl (by decide) (by decide)).mono ?_
  rintro e n2 ⟨⟨s2, rfl, hs2⟩, hbn⟩
  have zs2 : s2.size ≤ 5 := by rw [← bytesOf_len, hs2]; exact flat_len [1]
  have HN2 := Aside0.mk hs2
  have HB11 := Aside0.mk (below_step HB10.out hbn)
  have HRAN1d := Aside0.mk (HRAN1c.out.below hbn)
  have HRAN2b := Aside0.mk (HRAN2.out.below hbn)
  clear hs2 hbn HB10 HRAN1c HRAN2
  obtain ⟨us3, hus3⟩ : ∃ us, n2.alloc (.cells #[.string (sF ++ a ++ s2 ++ ⟨#[10, 11]⟩), .string (b ++ ⟨#[14]⟩)] 9) = us := ⟨_, rfl⟩
  have hbs3 : Below n2.heap.size n2 us3 := by rw [← hus3]; exact below_alloc (Below.refl _ _) _
  have hss3 := strs_new n2 [sF ++ a ++ s2 ++ ⟨#[10, 11]⟩, b ++ ⟨#[14]⟩] 2 _ rfl
  rw [show (List.map Value.string [sF ++ a ++ s2 ++ ⟨#[10, 11]⟩, b ++ ⟨#[14]⟩]).toArray = #[Value.string (sF ++ a ++ s2 ++ ⟨#[10, 11]⟩), Value.string (b ++ ⟨#[14]⟩)] from rfl, hus3] at hss3
  have HSS3 := Aside0.mk hss3
  have HB12 := Aside0.mk (below_step HB11.out hbs3)
  have HRAN1e := Aside0.mk (HRAN1d.out.below hbs3)
  have HRAN2c := Aside0.mk (HRAN2b.out.below hbs3)
  clear hbs3 hss3 HB11 HRAN1d HRAN2b
  go_wp2_with fail
  clear hus3
  refine (num_new us3 [0] 1 _ rfl (by decide) (by decide)).mono ?_
  rintro e n3 ⟨⟨s3, rfl, hs3⟩, hbn⟩
  have zs3 : s3.size ≤ 5 := by rw [← bytesOf_len, hs3]; exact flat_len [0]
  have HN3 := Aside0.mk hs3
  have HB13 := Aside0.mk (below_step HB12.out hbn)
  have HRAN1f := Aside0.mk (HRAN1e.out.below hbn)
  have HRAN2d := Aside0.mk (HRAN2c.out.below hbn)
  have HSS3b := Aside0.mk (StrsAt.below HSS3.out hbn)
  clear hs3 hbn HB12 HRAN1e HRAN2c HSS3
  go_wp2_with fail
  have e3 : bytesOf (s3 ++ ⟨#[10]⟩) = T33.encs [.num ((0 : Nat) : Int), .op 10] := by rw [bytesOf_append, HN3.out]; rfl
  have hS3 : [sF ++ a ++ s2 ++ (⟨#[10, 11]⟩ : ByteArray), b ++ ⟨#[14]⟩].map bytesOf = [C33.subA side width pa, C33.subE pb] := by
    have q1 : bytesOf (sF ++ a ++ s2 ++ ⟨#[10, 11]⟩) = C33.subA side width pa := by rw [bytesOf_append, bytesOf_append, bytesOf_append, HF.out, HA.out, HN2.out]; unfold C33.subA; rw [encs_app, encs_app]; simp only [List.append_assoc]; rfl
    have q2 : bytesOf (b ++ ⟨#[14]⟩) = C33.subE pb := by rw [bytesOf_append, HBB.out, op14, ← encs_app]; rfl
    rw [List.map_cons, List.map_cons, q1, q2]; rfl
  refine (run_k (S := [C33.subA side width pa, C33.subE pb]) (l := T33.encs [.num ((0 : Nat) : Int), .op 10]) (r := r) HSS3b.out (by simp) hS3 e3 (HLAW.out.2)).mono ?_
  rintro e v3 ⟨vv, rfl, hgl, hbr, k1, k2⟩
  obtain ⟨cs3, rfl, hgr⟩ := glv_r hgl
  obtain ⟨hc4, hcA⟩ := glr_one hgr
  have HC3 := Aside0.mk (And.intro hc4 hcA)
  have hst := mkG_below v3 (.cells #[.int .i64 0, .int .i64 0, .slice none 0 0, .slice none 0 0] 43) cs3
  have hnw := mkG_new v3 #[.int .i64 0, .int .i64 0, .slice none 0 0, .slice none 0 0] cs3 43
  obtain ⟨u3, hu3⟩ : ∃ u, (v3.alloc (.cells #[.int .i64 0, .int .i64 0, .slice none 0 0, .slice none 0 0] 43)).setRow v3.heap.size cs3 = u := ⟨_, rfl⟩
  have hu3' : mkG v3 (.cells #[.int .i64 0, .int .i64 0, .slice none 0 0, .slice none 0 0] 43) cs3 = u3 := hu3
  rw [hu3'] at hst hnw
  have HRAN3 : Aside0 (Ran u3 v3.heap.size r) := ⟨⟨⟨cs3, hc4, hcA, hnw, hgr.below hst⟩, k1, k2⟩⟩
  clear hu3'
  have HB14 := Aside0.mk (below_step HB13.out (below_step hbr hst))
  have HRAN1g := Aside0.mk (HRAN1f.out.below (below_step hbr hst))
  have HRAN2e := Aside0.mk (HRAN2d.out.below (below_step hbr hst))
  clear e3 hS3 hgl hbr k1 k2 hgr hc4 hcA hst hnw HB13 HRAN1f HRAN2d HSS3b
  obtain ⟨⟨D1, d14, d1A, d1k, d1g⟩, d1l, d1m⟩ := HRAN1g.out
  obtain ⟨⟨D2, d24, d2A, d2k, d2g⟩, d2l, d2m⟩ := HRAN2e.out
  obtain ⟨⟨D3, d34, d3A, d3k, d3g⟩, d3l, d3m⟩ := HRAN3.out
  have HD1 := Aside0.mk (And.intro d14 (And.intro d1k (And.intro d1g (And.intro d1l d1m))))
  have HD2 := Aside0.mk (And.intro d24 (And.intro d2k (And.intro d2g (And.intro d2l d2m))))
  have HD3 := Aside0.mk (And.intro d34 (And.intro d3k (And.intro d3g (And.intro d3l d3m))))
  clear d14 d1A d1k d1g d1l d1m d24 d2A d2k d2g d2l d2m d34 d3A d3k d3g d3l d3m HRAN1g HRAN2e HRAN3
  go_wp2_with (first | (refine store_gl rfl _ _ rfl _ rfl #[.int .i64 0, .int .i64 0, .slice none 0 0, .slice none 0 0] cs3 rfl (blk_new _ _) rfl HC3.out.1 HC3.out.2 ?_; rw [hu3]) | (refine load_gl rfl _ rfl v1.heap.size rfl D1 HD1.out.1 HD1.out.2.1 ?_) | (refine load_gl rfl _ rfl v2.heap.size rfl D2 HD2.out.1 HD2.out.2.1 ?_) | (refine load_gl rfl _ rfl v3.heap.size rfl D3 HD3.out.1 HD3.out.2.1 ?_))
  refine (same_call HD1.out.2.2.1 HD2.out.2.2.1 (by have := HD1.out.2.2.2.1; omega) (by have := HD1.out.2.2.2.2; omega) (by have := HD2.out.2.2.2.1; omega) (by have := HD2.out.2.2.2.2; omega)).mono ?_
  rintro e y1 ⟨rfl, hby⟩
  rw [decide_eq_true rfl]
  have HB15 := Aside0.mk (below_step HB14.out hby)
  have HE1 := Aside0.mk (And.intro (blk_below HD1.out.2.1 hby) (GlR.below HD1.out.2.2.1 hby))
  have HE3 := Aside0.mk (And.intro (blk_below HD3.out.2.1 hby) (GlR.below HD3.out.2.2.1 hby))
  clear hby HB14
  go_wp2_with (first | (refine load_gl rfl _ rfl v1.heap.size rfl D1 HD1.out.1 HE1.out.1 ?_) | (refine load_gl rfl _ rfl v3.heap.size rfl D3 HD3.out.1 HE3.out.1 ?_))
  refine (same_call HE1.out.2 HE3.out.2 (by have := HD1.out.2.2.2.1; omega) (by have := HD1.out.2.2.2.2; omega) (by have := HD3.out.2.2.2.1; omega) (by have := HD3.out.2.2.2.2; omega)).mono ?_
  rintro e y2 ⟨rfl, hby⟩
  rw [decide_eq_true rfl]
  have HB16 := Aside0.mk (below_step HB15.out hby)
  clear hby HB15
  go_wp2_with fail
  go_ret
  exact ⟨rfl, HB16.out⟩
end Go.Proofs.Ytimnohaalccdkaa.V33c
/- Words that come in as an argument (chapter 33). -/
namespace Go.Proofs.Ytimnohaalccdkaa.O33w
open Go.Proofs.Ytimnohaalccdkaa Go.Proofs.Ytimnohaalccdkaa.G33p Go.Proofs.Ytimnohaalccdkaa.G33c Go.Proofs.Ytimnohaalccdkaa.G33u
open Go.RowKit Go.ChangeShapes Go.WideShapes Go.ChangeAt Go.Proofs.YtimnohaalccdkaaW.PrintWords Go.Proofs.YtimnohaalccdkaaW.PrintLast Go.Proofs.YtimnohaalccdkaaW.PrintMore
set_option linter.unusedVariables false
set_option linter.unusedSimpArgs false
set_option maxRecDepth 100000
theorem u8wf {n : Int} (h : (Lit.int .u8 n).wf = true) : 0 ≤ n ∧ n < 256 := by
  simp [Lit.wf, IntKind.min, IntKind.max, IntKind.signed, IntKind.bits] at h
  omega
theorem plain_addr {W : World} {a : Addr} {v : Value} (h : W.cell? a = some v) : a = ⟨a.block, a.off, none⟩ := by
  obtain ⟨b, o, s⟩ := a
  cases s with
  | none => rfl
  | some s =>
    unfold World.cell? at h
    split at h
    · simp at h
    · cases h
theorem open_words {H : Type} {enc : TypeId × Value → H} {W : World} {A : Option Addr} {len cap : Nat} {d : DataW H} {p : List MemPlace} (h : DataW.Trod enc Try.prog W 0 (fun _ => true) true 33 (.slice A len cap) d p) :
    ∃ ws : List Wd, ws.length = len ∧ Rd W (.slice A len cap) len (ws.flatMap wc) ∧ (len ≤ cap ∧ cap ≤ 9223372036854775807) ∧ ∀ x ∈ ws, 0 ≤ x.1 ∧ x.1 < 256 := by
  obtain ⟨fuel, hf⟩ := h
  rcases Go.Deep.open_slice (t := 33) (e := 86) (by kernel_rfl) hf with ⟨hcs, _⟩ | ⟨a, len', cap', m, n, D, Pl, hcs, hb, hl, hm, hmm, _, hx⟩
  · simp [Value.cells] at hcs
    obtain ⟨rfl, rfl, rfl⟩ := hcs
    exact ⟨[], rfl, ⟨none, 0, rfl, fun W _ i x h => by cases h⟩, ⟨Nat.le_refl _, by decide⟩, fun x hx => by cases hx⟩
  · simp [Value.cells] at hcs
    obtain ⟨rfl, rfl, rfl⟩ := hcs
    have c86 : Try.prog.cellsOf 86 = 7 := by kernel_rfl
    have c84 : Try.prog.cellsOf 84 = 6 := by kernel_rfl
    have c5 : Try.prog.cellsOf 5 = 1 := by kernel_rfl
    have c32 : Try.prog.cellsOf 32 = 1 := by kernel_rfl
    have each : ∀ i, i < len → ∃ q : Wd, (∀ k (hk : k < 7), W.cell? ((a.add (i * 7)).add k) = some ((wc q)[k]'hk)) ∧ 0 ≤ q.1 ∧ q.1 < 256 := by
      intro i hi
      obtain ⟨cs', h1, h2⟩ := hx i (by rw [hmm]; split <;> omega)
      rw [c86] at h1
      obtain ⟨_, hlen, hcell⟩ := World.cells?_some h1
      obtain ⟨y0, y1, n2, _, _, g0, g1⟩ := trod_struct2 Try.underlying86 h2
      match cs', hlen, hcell with
      | [v0, v1, v2, v3, v4, v5, v6], _, hcell =>
        simp [c5, c84] at g0 g1
        obtain ⟨n0, e0, _, w0⟩ := DataW.trod_int Try.underlying5 g0
        obtain ⟨xs, k, hk, hxy, _, hxl, hf2⟩ := DataW.trod_array Try.underlying84 g1
        match xs, hxl, hf2 with
        | [t1, t2, t3, t4, t5, t6], _, hf2 =>
          have f1 := hf2 0 (by omega)
          have f2 := hf2 1 (by omega)
          have f3 := hf2 2 (by omega)
          have f4 := hf2 3 (by omega)
          have f5 := hf2 4 (by omega)
          have f6 := hf2 5 (by omega)
          simp [c32] at f1 f2 f3 f4 f5 f6
          obtain ⟨m1, e1, _, _⟩ := DataW.trod_int Try.underlying32 f1
          obtain ⟨m2, e2, _, _⟩ := DataW.trod_int Try.underlying32 f2
          obtain ⟨m3, e3, _, _⟩ := DataW.trod_int Try.underlying32 f3
          obtain ⟨m4, e4, _, _⟩ := DataW.trod_int Try.underlying32 f4
          obtain ⟨m5, e5, _, _⟩ := DataW.trod_int Try.underlying32 f5
          obtain ⟨m6, e6, _, _⟩ := DataW.trod_int Try.underlying32 f6
          simp at e0 e1 e2 e3 e4 e5 e6
          subst e0 e1 e2 e3 e4 e5 e6
          refine ⟨(n0, m1, m2, m3, m4, m5, m6), ?_, u8wf w0⟩
          intro k hk
          rw [hcell k hk]
          match k, hk with
          | 0, _ => rfl
          | 1, _ => rfl
          | 2, _ => rfl
          | 3, _ => rfl
          | 4, _ => rfl
          | 5, _ => rfl
          | 6, _ => rfl
          | k + 7, h => omega
    obtain ⟨q, hq⟩ := Go.Deep.choose_lt each
    have hcap : cap ≤ 9223372036854775807 := by simpa [maxLen] using hm
    refine ⟨(List.range len).map q, by simp, ?_, ⟨hl, hcap⟩, ?_⟩
    · refine ⟨some a, cap, rfl, fun V hV i x hi => ?_⟩
      have hil : i < len * 7 := by
        have := (List.getElem?_eq_some_iff.1 hi).1
        rw [flatMap_len wc_len, List.length_map, List.length_range] at this
        exact this
      have h0 : 0 < len := by omega
      have ha := plain_addr (hq 0 h0 |>.1 0 (by omega))
      simp only [Nat.zero_mul] at ha
      have ha2 : a.add 0 = a := rfl
      rw [ha2, ha2] at ha
      refine ⟨a.block, a.off, by rw [← ha], ?_⟩
      have hdiv : i / 7 < len := Nat.div_lt_of_lt_mul (by omega)
      have hmod : i % 7 < 7 := Nat.mod_lt _ (by omega)
      have hcell := (hq (i / 7) hdiv).1 (i % 7) hmod
      have hfm := flatMap_get wc_len ((List.range len).map q) (i / 7) (i % 7) (by simpa using hdiv) hmod
      rw [show i / 7 * 7 + i % 7 = i by omega, hi] at hfm
      have hlt : a.block < W.heap.size := by
        unfold World.cell? at hcell
        have hbk : ((a.add (i / 7 * 7)).add (i % 7)).block = a.block := by unfold Addr.add; split <;> split <;> rfl
        rw [hbk] at hcell
        rcases Nat.lt_or_ge a.block W.heap.size with h | h
        · exact h
        · simp [Array.getElem?_eq_none h] at hcell
      have hadd : (a.add (i / 7 * 7)).add (i % 7) = ⟨a.block, a.off + i, none⟩ := by
        rw [ha]
        unfold Addr.add
        split <;> split <;> simp <;> omega
      rw [hadd] at hcell
      have hv : V.cell? ⟨a.block, a.off + i, none⟩ = W.cell? ⟨a.block, a.off + i, none⟩ := by
        unfold World.cell?
        rw [hV.block a.block hlt]
      rw [hv, hcell]
      have : ((List.range len).map q)[i / 7]'(by simpa using hdiv) = q (i / 7) := by simp
      rw [this] at hfm
      rw [hfm, List.getElem?_eq_getElem (by rw [wc_len]; exact hmod)]
      rfl
    · intro x hx
      obtain ⟨i, hi, rfl⟩ := List.mem_map.1 hx
      exact (hq i (List.mem_range.1 hi)).2
theorem calls_row {A1 A2 : Option Addr} {c1 c2 : Nat} (side width : Int) (la lb : List Wd) (w : World) (hsd : (Lit.int .i16 side).wf = true) (hwd : (Lit.int .i16 width).wf = true)
    (h1 : Rd w (.slice A1 la.length c1) la.length (la.flatMap wc)) (hc1 : la.length ≤ c1 ∧ c1 ≤ 9223372036854775807) (hu1 : ∀ x ∈ la, 0 ≤ x.1 ∧ x.1 < 256)
    (h2 : Rd w (.slice A2 lb.length c2) lb.length (lb.flatMap wc)) (hc2 : lb.length ≤ c2 ∧ c2 ≤ 9223372036854775807) (hu2 : ∀ x ∈ lb, 0 ≤ x.1 ∧ x.1 < 256) :
    Calls Try.prog 7 #[.int .i16 side, .int .i16 width, .slice A1 la.length c1, .slice A2 lb.length c2] w fun e w' => e = .returned (.bool true) ∧ Below w.heap.size w w' :=
  V33c.calls_walk side width la lb hsd hwd w h1 h2 hc1 hc2 hu1 hu2
end Go.Proofs.Ytimnohaalccdkaa.O33w
