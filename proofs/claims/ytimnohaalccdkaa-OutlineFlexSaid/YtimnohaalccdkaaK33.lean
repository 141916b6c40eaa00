/- Charstrings as plain functions (chapter 33); no program in sight. -/
import Derived.Test.YtimnohaalccdkaaWMore
namespace Go.Proofs.Ytimnohaalccdkaa.K33
open Go.RowKit Go.Proofs.YtimnohaalccdkaaW.PrintWords Go.Proofs.YtimnohaalccdkaaW.PrintLast Go.Proofs.YtimnohaalccdkaaW.PrintMore
set_option linter.unusedVariables false
set_option maxRecDepth 100000
/-! ### Octets and strings -/
theorem bytesOf_inj {a b : ByteArray} (h : bytesOf a = bytesOf b) : a = b := by
  unfold bytesOf at h
  have h2 : a.data.toList = b.data.toList := List.map_inj_right (fun x y hxy => by
    have : x.toNat = y.toNat := by omega
    exact UInt8.toNat_inj.1 this) |>.1 h
  cases a
  cases b
  simp only at h2
  congr
  exact Array.toList_inj.1 h2
theorem bytesOf_len (s : ByteArray) : (bytesOf s).length = s.size := by unfold bytesOf; simp
def Oct (l : List Int) : Prop := ∀ b ∈ l, 0 ≤ b ∧ b < 256
theorem bytesOf_range (s : ByteArray) : Oct (bytesOf s) := by
  intro b hb
  unfold bytesOf at hb
  rw [List.mem_map] at hb
  obtain ⟨x, _, rfl⟩ := hb
  have := x.toNat_lt
  omega
theorem bytesOf_strOf (r : List Int) (h : Oct r) : bytesOf (strOfNums r) = r := by
  unfold bytesOf strOfNums
  simp only [List.map_map]
  refine (List.map_congr_left (fun x hx => ?_)).trans (List.map_id r)
  have := h x hx
  simp
  omega
theorem strOf_bytesOf (s : ByteArray) : strOfNums (bytesOf s) = s := bytesOf_inj (bytesOf_strOf _ (bytesOf_range s))
theorem bytesOf_append (a b : ByteArray) : bytesOf (a ++ b) = bytesOf a ++ bytesOf b := by
  unfold bytesOf
  simp
theorem strOf_size (r : List Int) : (strOfNums r).size = r.length := by
  unfold strOfNums
  simp [ByteArray.size]
theorem bytesOf_extract (s : ByteArray) (i j : Nat) : bytesOf (s.extract i j) = ((bytesOf s).drop i).take (j - i) := by
  unfold bytesOf
  simp [List.map_drop, List.map_take]
theorem Oct.app {a b : List Int} (h : Oct a) (k : Oct b) : Oct (a ++ b) := fun x hx => (List.mem_append.1 hx).elim (h x) (k x)
theorem Oct.one {x : Int} (h : 0 ≤ x) (k : x < 256) : Oct [x] := fun y hy => by rw [List.mem_singleton] at hy; subst hy; exact ⟨h, k⟩
theorem Oct.drop {a : List Int} (h : Oct a) (n : Nat) : Oct (a.drop n) := fun x hx => h x (List.mem_of_mem_drop hx)
theorem Oct.take {a : List Int} (h : Oct a) (n : Nat) : Oct (a.take n) := fun x hx => h x (List.mem_of_mem_take hx)
/-! ### Glyphs and the machine -/
abbrev Pt := Int × Int
abbrev Stp := Int × Pt × Pt × Pt
abbrev Stm := Bool × Int × Int
structure M where
  side : Int
  width : Int
  steps : List Stp
  stems : List Stm
  x : Int
  y : Int
  opn : Bool
  stack : List Int
  results : List Int
  begun : Bool
  flex : Bool
  points : List Pt
  done : Bool
  count : Int
def m0 : M := ⟨0, 0, [], [], 0, 0, false, [], [], false, false, [], false, 0⟩
def inn (n : Int) : Bool := decide (-32000 ≤ n ∧ n ≤ 32000)
def push (m : M) (n : Int) : Except Int M := if m.stack.length = 24 then .error 26 else .ok { m with stack := m.stack ++ [n] }
def walk : Int → Int → List Int → Option (List Pt)
  | x, y, a :: b :: l => if inn (x + a) && inn (y + b) then (walk (x + a) (y + b) l).map ((x + a, y + b) :: ·) else none
  | _, _, _ => some []
def mkStep (k : Int) : List Pt → Stp
  | [] => (k, (0, 0), (0, 0), (0, 0))
  | [p] => (k, p, (0, 0), (0, 0))
  | [p, q] => (k, p, q, (0, 0))
  | p :: q :: r :: _ => (k, p, q, r)
def lastMove (l : List Stp) : Bool := match l.getLast? with | some s => s.1 == 1 | none => false
def kept (k : Int) (l : List Stp) : List Stp := if k = 1 ∧ lastMove l = true then l.dropLast else l
def stepM (m : M) (k : Int) (l : List Int) : Except Int M :=
  match walk m.x m.y l with
  | none => .error 26
  | some ps => if 300 ≤ (kept k m.steps).length then .error 26
      else .ok { m with steps := kept k m.steps ++ [mkStep k ps], x := (ps.getLastD (m.x, m.y)).1, y := (ps.getLastD (m.x, m.y)).2 }
def moveM (m : M) (dx dy : Int) : Except Int M :=
  if m.flex then (if inn (m.x + dx) && inn (m.y + dy) then .ok { m with x := m.x + dx, y := m.y + dy } else .error 26)
  else stepM { m with opn := true } 1 [dx, dy]
def drawM (m : M) (k : Int) (l : List Int) : Except Int M := if m.opn then stepM m k l else .error 39
def closeM (m : M) : Except Int M := if m.opn then (match stepM m 4 [] with | .ok m => .ok { m with opn := false } | .error e => .error e) else .error 39
def badStem : List Int → Bool
  | _ :: d :: l => d == 0 || badStem l
  | _ => false
def stemsL (v : Bool) (side : Int) : List Stm → List Int → Option (List Stm)
  | acc, a :: d :: l =>
    if inn (side + a) && inn (side + a + d) && decide (acc.length < 40) then stemsL v side (acc ++ [(v, min (side + a) (side + a + d), max (side + a) (side + a + d) - min (side + a) (side + a + d))]) l else none
  | acc, _ => some acc
def stemsM (m : M) (v : Bool) (l : List Int) : Except Int M :=
  if badStem l then .error 39 else match stemsL v (if v then m.side else 0) m.stems l with | none => .error 26 | some s => .ok { m with stems := s }
def flo (a b : Int) : Int := if b < 0 then -a / -b else a / b
def divM (m : M) : Except Int M :=
  if m.stack.length < 2 ∨ m.stack.getD (m.stack.length - 1) 0 = 0 then .error 39
  else push { m with stack := m.stack.take (m.stack.length - 2) } (flo (m.stack.getD (m.stack.length - 2) 0) (m.stack.getD (m.stack.length - 1) 0))
def popM (m : M) : Except Int M :=
  match m.results with
  | [] => .error 39
  | n :: r => push { m with results := r } n
def bendM (m : M) (l : List Int) : Except Int M :=
  if l.length ≠ 3 ∨ m.flex = false ∨ m.points.length ≠ 7 then .error 39
  else if 298 < m.steps.length then .error 26
  else .ok { m with flex := false, results := l.drop 1, x := (m.points.getD 6 (0, 0)).1, y := (m.points.getD 6 (0, 0)).2, steps := m.steps ++ [(3, m.points.getD 1 (0, 0), m.points.getD 2 (0, 0), m.points.getD 3 (0, 0)), (3, m.points.getD 4 (0, 0), m.points.getD 5 (0, 0), m.points.getD 6 (0, 0))] }
/-- callothersubr behind its two numbers: k the number of the procedure, l its operands. -/
def otherK (m : M) (k : Int) (l : List Int) : Except Int M :=
  if k = 0 then bendM m l
  else if k = 1 then (if l = [] ∧ m.begun = true ∧ m.opn = true ∧ m.flex = false then .ok { m with flex := true, points := [] } else .error 39)
  else if k = 2 then (if l = [] ∧ m.flex = true ∧ m.points.length < 7 then .ok { m with points := m.points ++ [(m.x, m.y)] } else .error 39)
  else if k = 3 then (if l.length = 1 then .ok { m with results := [3] } else .error 39)
  else .ok { m with results := l.reverse }
def otherM (m : M) : Except Int M :=
  let top := m.stack.length
  let n := m.stack.getD (top - 2) 0
  if top < 2 ∨ n < 0 ∨ (top : Int) - 2 < n then .error 39
  else otherK { m with stack := m.stack.take (top - 2 - n.toNat), results := [] } (m.stack.getD (top - 1) 0) ((m.stack.take (top - 2)).drop (top - 2 - n.toNat))
def need (op : Int) : Option Nat :=
  if op = 9 ∨ op = 14 ∨ op = 256 then some 0 else if op = 4 ∨ op = 6 ∨ op = 7 ∨ op = 22 then some 1
  else if op = 1 ∨ op = 3 ∨ op = 5 ∨ op = 13 ∨ op = 21 ∨ op = 289 then some 2 else if op = 30 ∨ op = 31 then some 4
  else if op = 8 ∨ op = 257 ∨ op = 258 then some 6 else none
def isMove (op : Int) : Bool := op == 4 || op == 21 || op == 22
def beginM (m : M) (s w : Int) : Except Int M := if inn s && inn w then .ok { m with begun := true, side := s, width := w, x := s, y := 0 } else .error 26
/-- A path operator that may run, with its operands. -/
def doOp (op : Int) (m : M) (l : List Int) : Except Int M :=
  let a := l.getD 0 0
  let b := l.getD 1 0
  let c := l.getD 2 0
  let d := l.getD 3 0
  if op = 1 ∨ op = 258 then stemsM m false l
  else if op = 3 ∨ op = 257 then stemsM m true l
  else if op = 4 then moveM m 0 a
  else if op = 21 then moveM m a b
  else if op = 22 then moveM m a 0
  else if op = 5 then drawM m 2 l
  else if op = 6 then drawM m 2 [a, 0]
  else if op = 7 then drawM m 2 [0, a]
  else if op = 8 then drawM m 3 l
  else if op = 30 then drawM m 3 [0, a, b, c, d, 0]
  else if op = 31 then drawM m 3 [a, 0, b, c, 0, d]
  else if op = 9 then closeM m
  else if op = 14 then .ok { m with done := true }
  else if op = 289 then (if a = m.x ∧ b = m.y then .ok m else .error 39)
  else if op = 13 then beginM m a b
  else .ok m
def pathM (m : M) (op : Int) : Except Int M :=
  if (some m.stack.length ≠ need op) ∨ m.begun = decide (op = 13) ∨ (m.flex = true ∧ isMove op = false) then .error 39
  else doOp op { m with stack := [] } m.stack
def operM (op : Int) (m : M) : Except Int M :=
  if op = 268 then divM m else if op = 272 then otherM m else if op = 273 then popM m else pathM m op
/-! ### Strings -/
def sgn32 (n : Int) : Int := if 2147483648 ≤ n then n - 4294967296 else n
def readN : List Int → Option (Int × List Int)
  | [] => none
  | v :: r =>
    if v < 32 then none else if v ≤ 246 then some (v - 139, r)
    else if v ≤ 250 then (match r with | w :: r => some (256 * (v - 247) + w + 108, r) | [] => none)
    else if v ≤ 254 then (match r with | w :: r => some (-256 * (v - 251) - w - 108, r) | [] => none)
    else (match r with | a :: b :: c :: d :: r => some (sgn32 (((a * 256 + b) * 256 + c) * 256 + d), r) | _ => none)
def isOp (op : Int) : Bool := op == 10 || op == 11 || op == 268 || op == 272 || op == 273 || (need op).isSome
def codeN : List Int → Option (Int × List Int)
  | [] => none
  | v :: r =>
    if v = 12 then (match r with | w :: r => if isOp (256 + w) then some (256 + w, r) else none | [] => none)
    else if isOp v then some (v, r) else none
def runL (call : M → Except Int M) (top : Bool) : Nat → M → List Int → Except Int M
  | 0, _, _ => .error 39
  | f + 1, m, s =>
    match s with
    | [] => .error 39
    | _ =>
      match readN s with
      | some (n, r) => (match push m n with | .error e => .error e | .ok m => runL call top f m r)
      | none =>
        match codeN s with
        | none => .error 39
        | some (op, r) =>
          if 4000 ≤ m.count then .error 26
          else if op = 11 then (if top then .error 39 else .ok { m with count := m.count + 1 })
          else
            match (if op = 10 then call { m with count := m.count + 1 } else operM op { m with count := m.count + 1 }) with
            | .error e => .error e
            | .ok m => if m.done then .ok m else runL call top f m r
def subrM (subrs : List (List Int)) (go : Option (M → List Int → Except Int M)) (m : M) : Except Int M :=
  let top := m.stack.length
  let i := m.stack.getD (top - 1) 0
  if top = 0 ∨ i < 0 ∨ (subrs.length : Int) ≤ i then .error 39
  else match go with | none => .error 26 | some g => g { m with stack := m.stack.take (top - 1) } (subrs.getD i.toNat [])
def runD (subrs : List (List Int)) : Nat → Bool → M → List Int → Except Int M
  | 0, top, m, s => runL (subrM subrs none) top (s.length + 1) m s
  | d + 1, top, m, s => runL (subrM subrs (some fun m s => runD subrs d false m s)) top (s.length + 1) m s
abbrev Gl := Int × Int × List Stp × List Stm
def g0 : Gl := (0, 0, [], [])
def M.gl (m : M) : Gl := (m.side, m.width, m.steps, m.stems)
def runG (subrs : List (List Int)) (code : List Int) : Gl × Int :=
  if 200 < subrs.length ∨ (subrs.any fun s => decide (4000 < s.length)) = true ∨ 4000 < code.length then (g0, 3)
  else match runD subrs 10 true m0 code with | .error e => (g0, e) | .ok m => (m.gl, 0)
instance decStp : DecidableEq Stp := inferInstanceAs (DecidableEq (Int × (Int × Int) × (Int × Int) × (Int × Int)))
instance decStm : DecidableEq Stm := inferInstanceAs (DecidableEq (Bool × Int × Int))
instance decGl : DecidableEq Gl := inferInstanceAs (DecidableEq (Int × Int × List Stp × List Stm))
instance decGlE : DecidableEq (Gl × Int) := inferInstance
/-! ### The examples -/
theorem ex1 : runG [] [189, 248, 236, 13, 239, 4, 247, 92, 6, 9, 14] = ((50, 600, [(1, (50, 100), (0, 0), (0, 0)), (2, (250, 100), (0, 0), (0, 0)), (4, (0, 0), (0, 0), (0, 0))], []), 0) := by decide +kernel
theorem ex2 : runG [] [139, 139, 13, 149, 148, 1, 14] = ((0, 0, [], [(false, 10, 9)]), 0) := by decide +kernel
theorem ex3 : runG [] [139, 139, 13, 14, 14] = (g0, 0) := by decide +kernel
theorem ex4 : runG [[139, 139, 13, 11]] [139, 10, 14] = (g0, 0) := by decide +kernel
theorem ex5 : runG [] [139, 13] = (g0, 39) := by decide +kernel
theorem ex6 : runG [] [14] = (g0, 39) := by decide +kernel
theorem ex7 : runG [[139, 10]] [139, 139, 13, 139, 10, 14] = (g0, 26) := by decide +kernel
end Go.Proofs.Ytimnohaalccdkaa.K33
