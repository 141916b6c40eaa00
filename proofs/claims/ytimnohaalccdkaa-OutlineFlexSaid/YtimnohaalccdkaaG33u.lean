/- Several texts of this claim, one behind the other. -/
import Derived.Test.YtimnohaalccdkaaL33
import Derived.Test.YtimnohaalccdkaaN33b
/- Charstrings as tokens (chapter 33): what a string of numbers and operators does. -/
namespace Go.Proofs.Ytimnohaalccdkaa.T33
open Go.Proofs.Ytimnohaalccdkaa Go.Proofs.Ytimnohaalccdkaa.K33 Go.Proofs.Ytimnohaalccdkaa.L33
set_option linter.unusedVariables false
set_option linter.unusedSimpArgs false
set_option maxRecDepth 100000
/-- A number or an operator. -/
inductive Tok where
  | num (n : Int)
  | op (c : Int)
def enc : Tok → List Int
  | .num n => numB n
  | .op c => if 256 ≤ c then [12, c - 256] else [c]
def tok : Tok → Prop
  | .num n => -2147483648 ≤ n ∧ n ≤ 2147483647
  | .op c => isOp c = true ∧ c < 512 ∧ (c < 32 ∨ 256 ≤ c) ∧ c ≠ 12
def runT (call : M → Except Int M) (top : Bool) : M → List Tok → Except Int M
  | _, [] => .error 39
  | m, .num n :: r => match push m n with | .error e => .error e | .ok m => runT call top m r
  | m, .op c :: r =>
    if 4000 ≤ m.count then .error 26
    else if c = 11 then (if top then .error 39 else .ok { m with count := m.count + 1 })
    else match (if c = 10 then call { m with count := m.count + 1 } else operM c { m with count := m.count + 1 }) with
      | .error e => .error e
      | .ok m => if m.done then .ok m else runT call top m r
def encs (l : List Tok) : List Int := l.flatMap enc
theorem encs_cons (t : Tok) (l : List Tok) : encs (t :: l) = enc t ++ encs l := rfl
theorem enc_pos (t : Tok) : 0 < (enc t).length := by
  cases t with
  | num n => exact (numB_len n).1
  | op c => simp only [enc]; split <;> simp
theorem encs_len (l : List Tok) : l.length ≤ (encs l).length := by
  induction l with
  | nil => simp
  | cons t r ih => rw [encs_cons, List.length_append, List.length_cons]; have := enc_pos t; omega
theorem read_op {c : Int} (h : tok (.op c)) (r : List Int) : readN (enc (.op c) ++ r) = none ∧ codeN (enc (.op c) ++ r) = some (c, r) := by
  obtain ⟨h1, h2, h3, h4⟩ := h
  simp only [enc]
  by_cases hc : 256 ≤ c
  · rw [if_pos hc]
    have e : 256 + (c - 256) = c := by omega
    refine ⟨by simp [readN], ?_⟩
    simp only [codeN, List.cons_append, if_true, List.nil_append, e, h1]
  · rw [if_neg hc]
    have h32 : c < 32 := by omega
    refine ⟨by simp [readN, h32], ?_⟩
    simp only [codeN, List.cons_append, List.nil_append, if_neg h4, h1, if_true]
theorem runL_num' {call : M → Except Int M} {top : Bool} {f : Nat} {m : M} {l r : List Int} {n : Int} (h : readN l = some (n, r)) : runL call top (f + 1) m l = match push m n with | .error e => .error e | .ok m => runL call top f m r := by
  cases l with
  | nil => cases h
  | cons a b => rw [runL]; rotate_left; (intro hh; cases hh); simp only [h]; rfl
theorem runL_op' {call : M → Except Int M} {top : Bool} {f : Nat} {m : M} {l r : List Int} {c : Int} (h1 : readN l = none) (h2 : codeN l = some (c, r)) : runL call top (f + 1) m l =
    if 4000 ≤ m.count then .error 26
    else if c = 11 then (if top then .error 39 else .ok { m with count := m.count + 1 })
    else match (if c = 10 then call { m with count := m.count + 1 } else operM c { m with count := m.count + 1 }) with
      | .error e => .error e
      | .ok m => if m.done then .ok m else runL call top f m r := by
  cases l with
  | nil => cases h2
  | cons a b => rw [runL]; rotate_left; (intro hh; cases hh); simp only [h1, h2]; rfl
theorem runL_T (call : M → Except Int M) (top : Bool) (l : List Tok) : ∀ (f : Nat) (m : M), (∀ t ∈ l, tok t) → l.length < f → runL call top f m (encs l) = runT call top m l := by
  induction l with
  | nil =>
    intro f m _ hf
    cases f with
    | zero => simp at hf
    | succ f => rfl
  | cons t l ih =>
    intro f m h hf
    cases f with
    | zero => simp at hf
    | succ f =>
      have hl : ∀ t ∈ l, tok t := fun t ht => h t (List.mem_cons_of_mem _ ht)
      have hf' : l.length < f := by rw [List.length_cons] at hf; omega
      cases t with
      | num n =>
        have hn : -2147483648 ≤ n ∧ n ≤ 2147483647 := h (.num n) List.mem_cons_self
        have e : readN (encs (.num n :: l)) = some (n, encs l) := by rw [encs_cons]; simp only [enc]; exact readN_numB hn _
        rw [runL_num' e, runT]
        split
        · rfl
        · exact ih f _ hl hf'
      | op c =>
        obtain ⟨e1, e2⟩ := read_op (h (.op c) List.mem_cons_self) (encs l)
        rw [← encs_cons] at e1 e2
        rw [runL_op' e1 e2, runT]
        split
        · rfl
        · split
          · rfl
          · split
            · rfl
            · split
              · rfl
              · exact ih f _ hl hf'
theorem runD_T (subrs : List (List Int)) (d : Nat) (top : Bool) (m : M) (l : List Tok) (h : ∀ t ∈ l, tok t) :
    runD subrs (d + 1) top m (encs l) = runT (subrM subrs (some fun m s => runD subrs d false m s)) top m l := by
  show runL (subrM subrs (some fun m s => runD subrs d false m s)) top ((encs l).length + 1) m (encs l) = _
  exact runL_T _ _ l ((encs l).length + 1) m h (by have := encs_len l; omega)
theorem runG_T (subrs : List (List Int)) (l : List Tok) (h : ∀ t ∈ l, tok t) (h1 : subrs.length ≤ 200) (h2 : ∀ s ∈ subrs, s.length ≤ 4000) (h3 : (encs l).length ≤ 4000) :
    runG subrs (encs l) = match runT (subrM subrs (some fun m s => runD subrs 9 false m s)) true m0 l with | .error e => (g0, e) | .ok m => (m.gl, 0) := by
  unfold runG
  have ha : (subrs.any fun s => decide (4000 < s.length)) = false := by
    rw [List.any_eq_false]
    intro s hs
    have := h2 s hs
    simp
    omega
  rw [if_neg (by rw [ha]; simp; omega), runD_T subrs 9 true m0 l h]
  rfl
theorem tok_num {n : Int} (h : -2147483648 ≤ n ∧ n ≤ 2147483647) : tok (.num n) := h
theorem inn_ok {x : Int} (h : -32000 ≤ x ∧ x ≤ 32000) : inn x = true := decide_eq_true h
theorem flo_mul (n q : Int) (h : 0 < q) : flo (n * q) q = n := by
  unfold flo
  rw [if_neg (by omega), Int.mul_ediv_cancel n (by omega)]
theorem runT_nums (call : M → Except Int M) (top : Bool) (r : List Tok) : ∀ (xs : List Int) (m : M), m.stack.length + xs.length ≤ 24 → runT call top m (xs.map Tok.num ++ r) = runT call top { m with stack := m.stack ++ xs } r
  | [], m, _ => by simp
  | x :: xs, m, h => by
    rw [List.length_cons] at h
    rw [List.map_cons, List.cons_append, runT]
    unfold push
    rw [if_neg (by omega)]
    simp only
    rw [runT_nums call top r xs _ (by simp; omega)]
    simp
theorem runT_ok {call : M → Except Int M} {top : Bool} {r : List Tok} {m m' : M} {xs : List Int} {c : Int} (hx : m.stack.length + xs.length ≤ 24) (hc : m.count < 4000) (h10 : c ≠ 10) (h11 : c ≠ 11)
    (ho : operM c { m with stack := m.stack ++ xs, count := m.count + 1 } = .ok m') (hd : m'.done = false) : runT call top m (xs.map Tok.num ++ .op c :: r) = runT call top m' r := by
  rw [runT_nums call top _ xs m hx, runT, if_neg (by simp; omega), if_neg h11, if_neg h10]
  simp only [ho, hd, Bool.false_eq_true, if_false]
theorem runT_end {call : M → Except Int M} {top : Bool} {r : List Tok} {m m' : M} {xs : List Int} {c : Int} (hx : m.stack.length + xs.length ≤ 24) (hc : m.count < 4000) (h10 : c ≠ 10) (h11 : c ≠ 11)
    (ho : operM c { m with stack := m.stack ++ xs, count := m.count + 1 } = .ok m') (hd : m'.done = true) : runT call top m (xs.map Tok.num ++ .op c :: r) = .ok m' := by
  rw [runT_nums call top _ xs m hx, runT, if_neg (by simp; omega), if_neg h11, if_neg h10]
  simp only [ho, hd, if_true]
theorem innT (x : Int) (a : -32000 ≤ x) (b : x ≤ 32000) : inn x = true := inn_ok ⟨a, b⟩
def glyph (n0 n1 n2 n3 n4 n5 n6 n7 : Int) : Gl := (n0, n1, [(1, (n0 + n2, n3), (0, 0), (0, 0)), (2, (n0 + n2 + n4, n3), (0, 0), (0, 0)), (2, (n0 + n2 + n4, n3 + n5), (0, 0), (0, 0)), (3, (n0 + n2 + n4, n3 + n5 + n2), (n0 + n2 + n4 + n3, n3 + n5 + n2 + n4), (n0 + n2 + n4 + n3 + n5, n3 + n5 + n2 + n4)), (3, (n0 + n2 + n4 + n3 + n5 + n6, n3 + n5 + n2 + n4), (n0 + n2 + n4 + n3 + n5 + n6 + n7, n3 + n5 + n2 + n4 + n0), (n0 + n2 + n4 + n3 + n5 + n6 + n7, n3 + n5 + n2 + n4 + n0 + n1)), (4, (0, 0), (0, 0), (0, 0))], [])
section
variable (call : M → Except Int M) (n0 n1 n2 n3 n4 n5 n6 n7 q : Int)
def longT : List Tok := [.num n0, .num n1, .op 13, .num n2, .num 0, .op 21, .num 0, .num n3, .op 21, .num n4, .num 0, .op 5, .num 0, .num n5, .op 5, .num 0, .num n2, .num n3, .num n4, .num n5, .num 0, .op 8, .num n6, .num 0, .num n7, .num n0, .num 0, .num n1, .op 8, .op 9, .op 14]
def shortT : List Tok := [.num n0, .num n1, .op 13, .num (n2 * q), .num q, .op 268, .op 22, .num n3, .op 4, .num n4, .op 6, .num (n5 * q), .num q, .op 268, .op 7, .num n2, .num n3, .num n4, .num n5, .op 30, .num n6, .num n7, .num n0, .num n1, .op 31, .op 256, .op 9, .op 14]
set_option maxHeartbeats 4000000 in
theorem long_run (h0 : -500 < n0 ∧ n0 < 500) (h1 : -500 < n1 ∧ n1 < 500) (h2 : -500 < n2 ∧ n2 < 500) (h3 : -500 < n3 ∧ n3 < 500) (h4 : -500 < n4 ∧ n4 < 500) (h5 : -500 < n5 ∧ n5 < 500) (h6 : -500 < n6 ∧ n6 < 500) (h7 : -500 < n7 ∧ n7 < 500) : ∃ m, runT call true m0 (longT n0 n1 n2 n3 n4 n5 n6 n7) = .ok m ∧ m.gl = glyph n0 n1 n2 n3 n4 n5 n6 n7 := by
  have e0 : operM 13 { m0 with stack := (m0).stack ++ [n0, n1], count := (m0).count + 1 } = .ok (⟨n0, n1, [], [], n0, 0, false, [], [], true, false, [], false, 1⟩ : M) := by
    simp [m0, operM, pathM, divM, push, K33.need, doOp, beginM, moveM, drawM, stepM, walk, kept, lastMove, mkStep, closeM, isMove]
    simp (disch := omega) [innT]
  have e1 : operM 21 { (⟨n0, n1, [], [], n0, 0, false, [], [], true, false, [], false, 1⟩ : M) with stack := ((⟨n0, n1, [], [], n0, 0, false, [], [], true, false, [], false, 1⟩ : M)).stack ++ [n2, 0], count := ((⟨n0, n1, [], [], n0, 0, false, [], [], true, false, [], false, 1⟩ : M)).count + 1 } = .ok (⟨n0, n1, [(1, (n0 + n2, 0), (0, 0), (0, 0))], [], n0 + n2, 0, true, [], [], true, false, [], false, 2⟩ : M) := by
    simp [m0, operM, pathM, divM, push, K33.need, doOp, beginM, moveM, drawM, stepM, walk, kept, lastMove, mkStep, closeM, isMove]
    simp (disch := omega) [innT]
  have e2 : operM 21 { (⟨n0, n1, [(1, (n0 + n2, 0), (0, 0), (0, 0))], [], n0 + n2, 0, true, [], [], true, false, [], false, 2⟩ : M) with stack := ((⟨n0, n1, [(1, (n0 + n2, 0), (0, 0), (0, 0))], [], n0 + n2, 0, true, [], [], true, false, [], false, 2⟩ : M)).stack ++ [0, n3], count := ((⟨n0, n1, [(1, (n0 + n2, 0), (0, 0), (0, 0))], [], n0 + n2, 0, true, [], [], true, false, [], false, 2⟩ : M)).count + 1 } = .ok (⟨n0, n1, [(1, (n0 + n2, n3), (0, 0), (0, 0))], [], n0 + n2, n3, true, [], [], true, false, [], false, 3⟩ : M) := by
    simp [m0, operM, pathM, divM, push, K33.need, doOp, beginM, moveM, drawM, stepM, walk, kept, lastMove, mkStep, closeM, isMove]
    simp (disch := omega) [innT]
  have e3 : operM 5 { (⟨n0, n1, [(1, (n0 + n2, n3), (0, 0), (0, 0))], [], n0 + n2, n3, true, [], [], true, false, [], false, 3⟩ : M) with stack := ((⟨n0, n1, [(1, (n0 + n2, n3), (0, 0), (0, 0))], [], n0 + n2, n3, true, [], [], true, false, [], false, 3⟩ : M)).stack ++ [n4, 0], count := ((⟨n0, n1, [(1, (n0 + n2, n3), (0, 0), (0, 0))], [], n0 + n2, n3, true, [], [], true, false, [], false, 3⟩ : M)).count + 1 } = .ok (⟨n0, n1, [(1, (n0 + n2, n3), (0, 0), (0, 0)), (2, (n0 + n2 + n4, n3), (0, 0), (0, 0))], [], n0 + n2 + n4, n3, true, [], [], true, false, [], false, 4⟩ : M) := by
    simp [m0, operM, pathM, divM, push, K33.need, doOp, beginM, moveM, drawM, stepM, walk, kept, lastMove, mkStep, closeM, isMove]
    simp (disch := omega) [innT]
  have e4 : operM 5 { (⟨n0, n1, [(1, (n0 + n2, n3), (0, 0), (0, 0)), (2, (n0 + n2 + n4, n3), (0, 0), (0, 0))], [], n0 + n2 + n4, n3, true, [], [], true, false, [], false, 4⟩ : M) with stack := ((⟨n0, n1, [(1, (n0 + n2, n3), (0, 0), (0, 0)), (2, (n0 + n2 + n4, n3), (0, 0), (0, 0))], [], n0 + n2 + n4, n3, true, [], [], true, false, [], false, 4⟩ : M)).stack ++ [0, n5], count := ((⟨n0, n1, [(1, (n0 + n2, n3), (0, 0), (0, 0)), (2, (n0 + n2 + n4, n3), (0, 0), (0, 0))], [], n0 + n2 + n4, n3, true, [], [], true, false, [], false, 4⟩ : M)).count + 1 } = .ok (⟨n0, n1, [(1, (n0 + n2, n3), (0, 0), (0, 0)), (2, (n0 + n2 + n4, n3), (0, 0), (0, 0)), (2, (n0 + n2 + n4, n3 + n5), (0, 0), (0, 0))], [], n0 + n2 + n4, n3 + n5, true, [], [], true, false, [], false, 5⟩ : M) := by
    simp [m0, operM, pathM, divM, push, K33.need, doOp, beginM, moveM, drawM, stepM, walk, kept, lastMove, mkStep, closeM, isMove]
    simp (disch := omega) [innT]
  have e5 : operM 8 { (⟨n0, n1, [(1, (n0 + n2, n3), (0, 0), (0, 0)), (2, (n0 + n2 + n4, n3), (0, 0), (0, 0)), (2, (n0 + n2 + n4, n3 + n5), (0, 0), (0, 0))], [], n0 + n2 + n4, n3 + n5, true, [], [], true, false, [], false, 5⟩ : M) with stack := ((⟨n0, n1, [(1, (n0 + n2, n3), (0, 0), (0, 0)), (2, (n0 + n2 + n4, n3), (0, 0), (0, 0)), (2, (n0 + n2 + n4, n3 + n5), (0, 0), (0, 0))], [], n0 + n2 + n4, n3 + n5, true, [], [], true, false, [], false, 5⟩ : M)).stack ++ [0, n2, n3, n4, n5, 0], count := ((⟨n0, n1, [(1, (n0 + n2, n3), (0, 0), (0, 0)), (2, (n0 + n2 + n4, n3), (0, 0), (0, 0)), (2, (n0 + n2 + n4, n3 + n5), (0, 0), (0, 0))], [], n0 + n2 + n4, n3 + n5, true, [], [], true, false, [], false, 5⟩ : M)).count + 1 } = .ok (⟨n0, n1, [(1, (n0 + n2, n3), (0, 0), (0, 0)), (2, (n0 + n2 + n4, n3), (0, 0), (0, 0)), (2, (n0 + n2 + n4, n3 + n5), (0, 0), (0, 0)), (3, (n0 + n2 + n4, n3 + n5 + n2), (n0 + n2 + n4 + n3, n3 + n5 + n2 + n4), (n0 + n2 + n4 + n3 + n5, n3 + n5 + n2 + n4))], [], n0 + n2 + n4 + n3 + n5, n3 + n5 + n2 + n4, true, [], [], true, false, [], false, 6⟩ : M) := by
    simp [m0, operM, pathM, divM, push, K33.need, doOp, beginM, moveM, drawM, stepM, walk, kept, lastMove, mkStep, closeM, isMove]
    simp (disch := omega) [innT]
  have e6 : operM 8 { (⟨n0, n1, [(1, (n0 + n2, n3), (0, 0), (0, 0)), (2, (n0 + n2 + n4, n3), (0, 0), (0, 0)), (2, (n0 + n2 + n4, n3 + n5), (0, 0), (0, 0)), (3, (n0 + n2 + n4, n3 + n5 + n2), (n0 + n2 + n4 + n3, n3 + n5 + n2 + n4), (n0 + n2 + n4 + n3 + n5, n3 + n5 + n2 + n4))], [], n0 + n2 + n4 + n3 + n5, n3 + n5 + n2 + n4, true, [], [], true, false, [], false, 6⟩ : M) with stack := ((⟨n0, n1, [(1, (n0 + n2, n3), (0, 0), (0, 0)), (2, (n0 + n2 + n4, n3), (0, 0), (0, 0)), (2, (n0 + n2 + n4, n3 + n5), (0, 0), (0, 0)), (3, (n0 + n2 + n4, n3 + n5 + n2), (n0 + n2 + n4 + n3, n3 + n5 + n2 + n4), (n0 + n2 + n4 + n3 + n5, n3 + n5 + n2 + n4))], [], n0 + n2 + n4 + n3 + n5, n3 + n5 + n2 + n4, true, [], [], true, false, [], false, 6⟩ : M)).stack ++ [n6, 0, n7, n0, 0, n1], count := ((⟨n0, n1, [(1, (n0 + n2, n3), (0, 0), (0, 0)), (2, (n0 + n2 + n4, n3), (0, 0), (0, 0)), (2, (n0 + n2 + n4, n3 + n5), (0, 0), (0, 0)), (3, (n0 + n2 + n4, n3 + n5 + n2), (n0 + n2 + n4 + n3, n3 + n5 + n2 + n4), (n0 + n2 + n4 + n3 + n5, n3 + n5 + n2 + n4))], [], n0 + n2 + n4 + n3 + n5, n3 + n5 + n2 + n4, true, [], [], true, false, [], false, 6⟩ : M)).count + 1 } = .ok (⟨n0, n1, [(1, (n0 + n2, n3), (0, 0), (0, 0)), (2, (n0 + n2 + n4, n3), (0, 0), (0, 0)), (2, (n0 + n2 + n4, n3 + n5), (0, 0), (0, 0)), (3, (n0 + n2 + n4, n3 + n5 + n2), (n0 + n2 + n4 + n3, n3 + n5 + n2 + n4), (n0 + n2 + n4 + n3 + n5, n3 + n5 + n2 + n4)), (3, (n0 + n2 + n4 + n3 + n5 + n6, n3 + n5 + n2 + n4), (n0 + n2 + n4 + n3 + n5 + n6 + n7, n3 + n5 + n2 + n4 + n0), (n0 + n2 + n4 + n3 + n5 + n6 + n7, n3 + n5 + n2 + n4 + n0 + n1))], [], n0 + n2 + n4 + n3 + n5 + n6 + n7, n3 + n5 + n2 + n4 + n0 + n1, true, [], [], true, false, [], false, 7⟩ : M) := by
    simp [m0, operM, pathM, divM, push, K33.need, doOp, beginM, moveM, drawM, stepM, walk, kept, lastMove, mkStep, closeM, isMove]
    simp (disch := omega) [innT]
  have e7 : operM 9 { (⟨n0, n1, [(1, (n0 + n2, n3), (0, 0), (0, 0)), (2, (n0 + n2 + n4, n3), (0, 0), (0, 0)), (2, (n0 + n2 + n4, n3 + n5), (0, 0), (0, 0)), (3, (n0 + n2 + n4, n3 + n5 + n2), (n0 + n2 + n4 + n3, n3 + n5 + n2 + n4), (n0 + n2 + n4 + n3 + n5, n3 + n5 + n2 + n4)), (3, (n0 + n2 + n4 + n3 + n5 + n6, n3 + n5 + n2 + n4), (n0 + n2 + n4 + n3 + n5 + n6 + n7, n3 + n5 + n2 + n4 + n0), (n0 + n2 + n4 + n3 + n5 + n6 + n7, n3 + n5 + n2 + n4 + n0 + n1))], [], n0 + n2 + n4 + n3 + n5 + n6 + n7, n3 + n5 + n2 + n4 + n0 + n1, true, [], [], true, false, [], false, 7⟩ : M) with stack := ((⟨n0, n1, [(1, (n0 + n2, n3), (0, 0), (0, 0)), (2, (n0 + n2 + n4, n3), (0, 0), (0, 0)), (2, (n0 + n2 + n4, n3 + n5), (0, 0), (0, 0)), (3, (n0 + n2 + n4, n3 + n5 + n2), (n0 + n2 + n4 + n3, n3 + n5 + n2 + n4), (n0 + n2 + n4 + n3 + n5, n3 + n5 + n2 + n4)), (3, (n0 + n2 + n4 + n3 + n5 + n6, n3 + n5 + n2 + n4), (n0 + n2 + n4 + n3 + n5 + n6 + n7, n3 + n5 + n2 + n4 + n0), (n0 + n2 + n4 + n3 + n5 + n6 + n7, n3 + n5 + n2 + n4 + n0 + n1))], [], n0 + n2 + n4 + n3 + n5 + n6 + n7, n3 + n5 + n2 + n4 + n0 + n1, true, [], [], true, false, [], false, 7⟩ : M)).stack ++ [], count := ((⟨n0, n1, [(1, (n0 + n2, n3), (0, 0), (0, 0)), (2, (n0 + n2 + n4, n3), (0, 0), (0, 0)), (2, (n0 + n2 + n4, n3 + n5), (0, 0), (0, 0)), (3, (n0 + n2 + n4, n3 + n5 + n2), (n0 + n2 + n4 + n3, n3 + n5 + n2 + n4), (n0 + n2 + n4 + n3 + n5, n3 + n5 + n2 + n4)), (3, (n0 + n2 + n4 + n3 + n5 + n6, n3 + n5 + n2 + n4), (n0 + n2 + n4 + n3 + n5 + n6 + n7, n3 + n5 + n2 + n4 + n0), (n0 + n2 + n4 + n3 + n5 + n6 + n7, n3 + n5 + n2 + n4 + n0 + n1))], [], n0 + n2 + n4 + n3 + n5 + n6 + n7, n3 + n5 + n2 + n4 + n0 + n1, true, [], [], true, false, [], false, 7⟩ : M)).count + 1 } = .ok (⟨n0, n1, [(1, (n0 + n2, n3), (0, 0), (0, 0)), (2, (n0 + n2 + n4, n3), (0, 0), (0, 0)), (2, (n0 + n2 + n4, n3 + n5), (0, 0), (0, 0)), (3, (n0 + n2 + n4, n3 + n5 + n2), (n0 + n2 + n4 + n3, n3 + n5 + n2 + n4), (n0 + n2 + n4 + n3 + n5, n3 + n5 + n2 + n4)), (3, (n0 + n2 + n4 + n3 + n5 + n6, n3 + n5 + n2 + n4), (n0 + n2 + n4 + n3 + n5 + n6 + n7, n3 + n5 + n2 + n4 + n0), (n0 + n2 + n4 + n3 + n5 + n6 + n7, n3 + n5 + n2 + n4 + n0 + n1)), (4, (0, 0), (0, 0), (0, 0))], [], n0 + n2 + n4 + n3 + n5 + n6 + n7, n3 + n5 + n2 + n4 + n0 + n1, false, [], [], true, false, [], false, 8⟩ : M) := by
    simp [m0, operM, pathM, divM, push, K33.need, doOp, beginM, moveM, drawM, stepM, walk, kept, lastMove, mkStep, closeM, isMove]
  have e8 : operM 14 { (⟨n0, n1, [(1, (n0 + n2, n3), (0, 0), (0, 0)), (2, (n0 + n2 + n4, n3), (0, 0), (0, 0)), (2, (n0 + n2 + n4, n3 + n5), (0, 0), (0, 0)), (3, (n0 + n2 + n4, n3 + n5 + n2), (n0 + n2 + n4 + n3, n3 + n5 + n2 + n4), (n0 + n2 + n4 + n3 + n5, n3 + n5 + n2 + n4)), (3, (n0 + n2 + n4 + n3 + n5 + n6, n3 + n5 + n2 + n4), (n0 + n2 + n4 + n3 + n5 + n6 + n7, n3 + n5 + n2 + n4 + n0), (n0 + n2 + n4 + n3 + n5 + n6 + n7, n3 + n5 + n2 + n4 + n0 + n1)), (4, (0, 0), (0, 0), (0, 0))], [], n0 + n2 + n4 + n3 + n5 + n6 + n7, n3 + n5 + n2 + n4 + n0 + n1, false, [], [], true, false, [], false, 8⟩ : M) with stack := ((⟨n0, n1, [(1, (n0 + n2, n3), (0, 0), (0, 0)), (2, (n0 + n2 + n4, n3), (0, 0), (0, 0)), (2, (n0 + n2 + n4, n3 + n5), (0, 0), (0, 0)), (3, (n0 + n2 + n4, n3 + n5 + n2), (n0 + n2 + n4 + n3, n3 + n5 + n2 + n4), (n0 + n2 + n4 + n3 + n5, n3 + n5 + n2 + n4)), (3, (n0 + n2 + n4 + n3 + n5 + n6, n3 + n5 + n2 + n4), (n0 + n2 + n4 + n3 + n5 + n6 + n7, n3 + n5 + n2 + n4 + n0), (n0 + n2 + n4 + n3 + n5 + n6 + n7, n3 + n5 + n2 + n4 + n0 + n1)), (4, (0, 0), (0, 0), (0, 0))], [], n0 + n2 + n4 + n3 + n5 + n6 + n7, n3 + n5 + n2 + n4 + n0 + n1, false, [], [], true, false, [], false, 8⟩ : M)).stack ++ [], count := ((⟨n0, n1, [(1, (n0 + n2, n3), (0, 0), (0, 0)), (2, (n0 + n2 + n4, n3), (0, 0), (0, 0)), (2, (n0 + n2 + n4, n3 + n5), (0, 0), (0, 0)), (3, (n0 + n2 + n4, n3 + n5 + n2), (n0 + n2 + n4 + n3, n3 + n5 + n2 + n4), (n0 + n2 + n4 + n3 + n5, n3 + n5 + n2 + n4)), (3, (n0 + n2 + n4 + n3 + n5 + n6, n3 + n5 + n2 + n4), (n0 + n2 + n4 + n3 + n5 + n6 + n7, n3 + n5 + n2 + n4 + n0), (n0 + n2 + n4 + n3 + n5 + n6 + n7, n3 + n5 + n2 + n4 + n0 + n1)), (4, (0, 0), (0, 0), (0, 0))], [], n0 + n2 + n4 + n3 + n5 + n6 + n7, n3 + n5 + n2 + n4 + n0 + n1, false, [], [], true, false, [], false, 8⟩ : M)).count + 1 } = .ok (⟨n0, n1, [(1, (n0 + n2, n3), (0, 0), (0, 0)), (2, (n0 + n2 + n4, n3), (0, 0), (0, 0)), (2, (n0 + n2 + n4, n3 + n5), (0, 0), (0, 0)), (3, (n0 + n2 + n4, n3 + n5 + n2), (n0 + n2 + n4 + n3, n3 + n5 + n2 + n4), (n0 + n2 + n4 + n3 + n5, n3 + n5 + n2 + n4)), (3, (n0 + n2 + n4 + n3 + n5 + n6, n3 + n5 + n2 + n4), (n0 + n2 + n4 + n3 + n5 + n6 + n7, n3 + n5 + n2 + n4 + n0), (n0 + n2 + n4 + n3 + n5 + n6 + n7, n3 + n5 + n2 + n4 + n0 + n1)), (4, (0, 0), (0, 0), (0, 0))], [], n0 + n2 + n4 + n3 + n5 + n6 + n7, n3 + n5 + n2 + n4 + n0 + n1, false, [], [], true, false, [], true, 9⟩ : M) := by
    simp [m0, operM, pathM, divM, push, K33.need, doOp, beginM, moveM, drawM, stepM, walk, kept, lastMove, mkStep, closeM, isMove]
  refine ⟨(⟨n0, n1, [(1, (n0 + n2, n3), (0, 0), (0, 0)), (2, (n0 + n2 + n4, n3), (0, 0), (0, 0)), (2, (n0 + n2 + n4, n3 + n5), (0, 0), (0, 0)), (3, (n0 + n2 + n4, n3 + n5 + n2), (n0 + n2 + n4 + n3, n3 + n5 + n2 + n4), (n0 + n2 + n4 + n3 + n5, n3 + n5 + n2 + n4)), (3, (n0 + n2 + n4 + n3 + n5 + n6, n3 + n5 + n2 + n4), (n0 + n2 + n4 + n3 + n5 + n6 + n7, n3 + n5 + n2 + n4 + n0), (n0 + n2 + n4 + n3 + n5 + n6 + n7, n3 + n5 + n2 + n4 + n0 + n1)), (4, (0, 0), (0, 0), (0, 0))], [], n0 + n2 + n4 + n3 + n5 + n6 + n7, n3 + n5 + n2 + n4 + n0 + n1, false, [], [], true, false, [], true, 9⟩ : M), ?_, ?_⟩
  · show runT call true m0 (longT n0 n1 n2 n3 n4 n5 n6 n7) = _
    unfold longT
    refine ((runT_ok (xs := [n0, n1]) (by simp [m0]) (by decide) (by decide) (by decide) e0 rfl)).trans ?_
    refine ((runT_ok (xs := [n2, 0]) (by simp) (by dsimp only; decide) (by decide) (by decide) e1 rfl)).trans ?_
    refine ((runT_ok (xs := [0, n3]) (by simp) (by dsimp only; decide) (by decide) (by decide) e2 rfl)).trans ?_
    refine ((runT_ok (xs := [n4, 0]) (by simp) (by dsimp only; decide) (by decide) (by decide) e3 rfl)).trans ?_
    refine ((runT_ok (xs := [0, n5]) (by simp) (by dsimp only; decide) (by decide) (by decide) e4 rfl)).trans ?_
    refine ((runT_ok (xs := [0, n2, n3, n4, n5, 0]) (by simp) (by dsimp only; decide) (by decide) (by decide) e5 rfl)).trans ?_
    refine ((runT_ok (xs := [n6, 0, n7, n0, 0, n1]) (by simp) (by dsimp only; decide) (by decide) (by decide) e6 rfl)).trans ?_
    refine ((runT_ok (xs := []) (by simp) (by dsimp only; decide) (by decide) (by decide) e7 rfl)).trans ?_
    refine (runT_end (xs := []) (by simp) (by dsimp only; decide) (by decide) (by decide) e8 rfl)
  · rfl
set_option maxHeartbeats 4000000 in
theorem short_run (hq : 0 < q) (h0 : -500 < n0 ∧ n0 < 500) (h1 : -500 < n1 ∧ n1 < 500) (h2 : -500 < n2 ∧ n2 < 500) (h3 : -500 < n3 ∧ n3 < 500) (h4 : -500 < n4 ∧ n4 < 500) (h5 : -500 < n5 ∧ n5 < 500) (h6 : -500 < n6 ∧ n6 < 500) (h7 : -500 < n7 ∧ n7 < 500) : ∃ m, runT call true m0 (shortT n0 n1 n2 n3 n4 n5 n6 n7 q) = .ok m ∧ m.gl = glyph n0 n1 n2 n3 n4 n5 n6 n7 := by
  have e0 : operM 13 { m0 with stack := (m0).stack ++ [n0, n1], count := (m0).count + 1 } = .ok (⟨n0, n1, [], [], n0, 0, false, [], [], true, false, [], false, 1⟩ : M) := by
    simp [m0, operM, pathM, divM, push, K33.need, doOp, beginM, moveM, drawM, stepM, walk, kept, lastMove, mkStep, closeM, isMove]
    simp (disch := omega) [innT]
  have e1 : operM 268 { (⟨n0, n1, [], [], n0, 0, false, [], [], true, false, [], false, 1⟩ : M) with stack := ((⟨n0, n1, [], [], n0, 0, false, [], [], true, false, [], false, 1⟩ : M)).stack ++ [n2 * q, q], count := ((⟨n0, n1, [], [], n0, 0, false, [], [], true, false, [], false, 1⟩ : M)).count + 1 } = .ok (⟨n0, n1, [], [], n0, 0, false, [n2], [], true, false, [], false, 2⟩ : M) := by
    simp [m0, operM, pathM, divM, push, K33.need, doOp, beginM, moveM, drawM, stepM, walk, kept, lastMove, mkStep, closeM, isMove, flo_mul _ _ hq]
    omega
  have e2 : operM 22 { (⟨n0, n1, [], [], n0, 0, false, [n2], [], true, false, [], false, 2⟩ : M) with stack := ((⟨n0, n1, [], [], n0, 0, false, [n2], [], true, false, [], false, 2⟩ : M)).stack ++ [], count := ((⟨n0, n1, [], [], n0, 0, false, [n2], [], true, false, [], false, 2⟩ : M)).count + 1 } = .ok (⟨n0, n1, [(1, (n0 + n2, 0), (0, 0), (0, 0))], [], n0 + n2, 0, true, [], [], true, false, [], false, 3⟩ : M) := by
    simp [m0, operM, pathM, divM, push, K33.need, doOp, beginM, moveM, drawM, stepM, walk, kept, lastMove, mkStep, closeM, isMove]
    simp (disch := omega) [innT]
  have e3 : operM 4 { (⟨n0, n1, [(1, (n0 + n2, 0), (0, 0), (0, 0))], [], n0 + n2, 0, true, [], [], true, false, [], false, 3⟩ : M) with stack := ((⟨n0, n1, [(1, (n0 + n2, 0), (0, 0), (0, 0))], [], n0 + n2, 0, true, [], [], true, false, [], false, 3⟩ : M)).stack ++ [n3], count := ((⟨n0, n1, [(1, (n0 + n2, 0), (0, 0), (0, 0))], [], n0 + n2, 0, true, [], [], true, false, [], false, 3⟩ : M)).count + 1 } = .ok (⟨n0, n1, [(1, (n0 + n2, n3), (0, 0), (0, 0))], [], n0 + n2, n3, true, [], [], true, false, [], false, 4⟩ : M) := by
    simp [m0, operM, pathM, divM, push, K33.need, doOp, beginM, moveM, drawM, stepM, walk, kept, lastMove, mkStep, closeM, isMove]
    simp (disch := omega) [innT]
  have e4 : operM 6 { (⟨n0, n1, [(1, (n0 + n2, n3), (0, 0), (0, 0))], [], n0 + n2, n3, true, [], [], true, false, [], false, 4⟩ : M) with stack := ((⟨n0, n1, [(1, (n0 + n2, n3), (0, 0), (0, 0))], [], n0 + n2, n3, true, [], [], true, false, [], false, 4⟩ : M)).stack ++ [n4], count := ((⟨n0, n1, [(1, (n0 + n2, n3), (0, 0), (0, 0))], [], n0 + n2, n3, true, [], [], true, false, [], false, 4⟩ : M)).count + 1 } = .ok (⟨n0, n1, [(1, (n0 + n2, n3), (0, 0), (0, 0)), (2, (n0 + n2 + n4, n3), (0, 0), (0, 0))], [], n0 + n2 + n4, n3, true, [], [], true, false, [], false, 5⟩ : M) := by
    simp [m0, operM, pathM, divM, push, K33.need, doOp, beginM, moveM, drawM, stepM, walk, kept, lastMove, mkStep, closeM, isMove]
    simp (disch := omega) [innT]
  have e5 : operM 268 { (⟨n0, n1, [(1, (n0 + n2, n3), (0, 0), (0, 0)), (2, (n0 + n2 + n4, n3), (0, 0), (0, 0))], [], n0 + n2 + n4, n3, true, [], [], true, false, [], false, 5⟩ : M) with stack := ((⟨n0, n1, [(1, (n0 + n2, n3), (0, 0), (0, 0)), (2, (n0 + n2 + n4, n3), (0, 0), (0, 0))], [], n0 + n2 + n4, n3, true, [], [], true, false, [], false, 5⟩ : M)).stack ++ [n5 * q, q], count := ((⟨n0, n1, [(1, (n0 + n2, n3), (0, 0), (0, 0)), (2, (n0 + n2 + n4, n3), (0, 0), (0, 0))], [], n0 + n2 + n4, n3, true, [], [], true, false, [], false, 5⟩ : M)).count + 1 } = .ok (⟨n0, n1, [(1, (n0 + n2, n3), (0, 0), (0, 0)), (2, (n0 + n2 + n4, n3), (0, 0), (0, 0))], [], n0 + n2 + n4, n3, true, [n5], [], true, false, [], false, 6⟩ : M) := by
    simp [m0, operM, pathM, divM, push, K33.need, doOp, beginM, moveM, drawM, stepM, walk, kept, lastMove, mkStep, closeM, isMove, flo_mul _ _ hq]
    omega
  have e6 : operM 7 { (⟨n0, n1, [(1, (n0 + n2, n3), (0, 0), (0, 0)), (2, (n0 + n2 + n4, n3), (0, 0), (0, 0))], [], n0 + n2 + n4, n3, true, [n5], [], true, false, [], false, 6⟩ : M) with stack := ((⟨n0, n1, [(1, (n0 + n2, n3), (0, 0), (0, 0)), (2, (n0 + n2 + n4, n3), (0, 0), (0, 0))], [], n0 + n2 + n4, n3, true, [n5], [], true, false, [], false, 6⟩ : M)).stack ++ [], count := ((⟨n0, n1, [(1, (n0 + n2, n3), (0, 0), (0, 0)), (2, (n0 + n2 + n4, n3), (0, 0), (0, 0))], [], n0 + n2 + n4, n3, true, [n5], [], true, false, [], false, 6⟩ : M)).count + 1 } = .ok (⟨n0, n1, [(1, (n0 + n2, n3), (0, 0), (0, 0)), (2, (n0 + n2 + n4, n3), (0, 0), (0, 0)), (2, (n0 + n2 + n4, n3 + n5), (0, 0), (0, 0))], [], n0 + n2 + n4, n3 + n5, true, [], [], true, false, [], false, 7⟩ : M) := by
    simp [m0, operM, pathM, divM, push, K33.need, doOp, beginM, moveM, drawM, stepM, walk, kept, lastMove, mkStep, closeM, isMove]
    simp (disch := omega) [innT]
  have e7 : operM 30 { (⟨n0, n1, [(1, (n0 + n2, n3), (0, 0), (0, 0)), (2, (n0 + n2 + n4, n3), (0, 0), (0, 0)), (2, (n0 + n2 + n4, n3 + n5), (0, 0), (0, 0))], [], n0 + n2 + n4, n3 + n5, true, [], [], true, false, [], false, 7⟩ : M) with stack := ((⟨n0, n1, [(1, (n0 + n2, n3), (0, 0), (0, 0)), (2, (n0 + n2 + n4, n3), (0, 0), (0, 0)), (2, (n0 + n2 + n4, n3 + n5), (0, 0), (0, 0))], [], n0 + n2 + n4, n3 + n5, true, [], [], true, false, [], false, 7⟩ : M)).stack ++ [n2, n3, n4, n5], count := ((⟨n0, n1, [(1, (n0 + n2, n3), (0, 0), (0, 0)), (2, (n0 + n2 + n4, n3), (0, 0), (0, 0)), (2, (n0 + n2 + n4, n3 + n5), (0, 0), (0, 0))], [], n0 + n2 + n4, n3 + n5, true, [], [], true, false, [], false, 7⟩ : M)).count + 1 } = .ok (⟨n0, n1, [(1, (n0 + n2, n3), (0, 0), (0, 0)), (2, (n0 + n2 + n4, n3), (0, 0), (0, 0)), (2, (n0 + n2 + n4, n3 + n5), (0, 0), (0, 0)), (3, (n0 + n2 + n4, n3 + n5 + n2), (n0 + n2 + n4 + n3, n3 + n5 + n2 + n4), (n0 + n2 + n4 + n3 + n5, n3 + n5 + n2 + n4))], [], n0 + n2 + n4 + n3 + n5, n3 + n5 + n2 + n4, true, [], [], true, false, [], false, 8⟩ : M) := by
    simp [m0, operM, pathM, divM, push, K33.need, doOp, beginM, moveM, drawM, stepM, walk, kept, lastMove, mkStep, closeM, isMove]
    simp (disch := omega) [innT]
  have e8 : operM 31 { (⟨n0, n1, [(1, (n0 + n2, n3), (0, 0), (0, 0)), (2, (n0 + n2 + n4, n3), (0, 0), (0, 0)), (2, (n0 + n2 + n4, n3 + n5), (0, 0), (0, 0)), (3, (n0 + n2 + n4, n3 + n5 + n2), (n0 + n2 + n4 + n3, n3 + n5 + n2 + n4), (n0 + n2 + n4 + n3 + n5, n3 + n5 + n2 + n4))], [], n0 + n2 + n4 + n3 + n5, n3 + n5 + n2 + n4, true, [], [], true, false, [], false, 8⟩ : M) with stack := ((⟨n0, n1, [(1, (n0 + n2, n3), (0, 0), (0, 0)), (2, (n0 + n2 + n4, n3), (0, 0), (0, 0)), (2, (n0 + n2 + n4, n3 + n5), (0, 0), (0, 0)), (3, (n0 + n2 + n4, n3 + n5 + n2), (n0 + n2 + n4 + n3, n3 + n5 + n2 + n4), (n0 + n2 + n4 + n3 + n5, n3 + n5 + n2 + n4))], [], n0 + n2 + n4 + n3 + n5, n3 + n5 + n2 + n4, true, [], [], true, false, [], false, 8⟩ : M)).stack ++ [n6, n7, n0, n1], count := ((⟨n0, n1, [(1, (n0 + n2, n3), (0, 0), (0, 0)), (2, (n0 + n2 + n4, n3), (0, 0), (0, 0)), (2, (n0 + n2 + n4, n3 + n5), (0, 0), (0, 0)), (3, (n0 + n2 + n4, n3 + n5 + n2), (n0 + n2 + n4 + n3, n3 + n5 + n2 + n4), (n0 + n2 + n4 + n3 + n5, n3 + n5 + n2 + n4))], [], n0 + n2 + n4 + n3 + n5, n3 + n5 + n2 + n4, true, [], [], true, false, [], false, 8⟩ : M)).count + 1 } = .ok (⟨n0, n1, [(1, (n0 + n2, n3), (0, 0), (0, 0)), (2, (n0 + n2 + n4, n3), (0, 0), (0, 0)), (2, (n0 + n2 + n4, n3 + n5), (0, 0), (0, 0)), (3, (n0 + n2 + n4, n3 + n5 + n2), (n0 + n2 + n4 + n3, n3 + n5 + n2 + n4), (n0 + n2 + n4 + n3 + n5, n3 + n5 + n2 + n4)), (3, (n0 + n2 + n4 + n3 + n5 + n6, n3 + n5 + n2 + n4), (n0 + n2 + n4 + n3 + n5 + n6 + n7, n3 + n5 + n2 + n4 + n0), (n0 + n2 + n4 + n3 + n5 + n6 + n7, n3 + n5 + n2 + n4 + n0 + n1))], [], n0 + n2 + n4 + n3 + n5 + n6 + n7, n3 + n5 + n2 + n4 + n0 + n1, true, [], [], true, false, [], false, 9⟩ : M) := by
    simp [m0, operM, pathM, divM, push, K33.need, doOp, beginM, moveM, drawM, stepM, walk, kept, lastMove, mkStep, closeM, isMove]
    simp (disch := omega) [innT]
  have e9 : operM 256 { (⟨n0, n1, [(1, (n0 + n2, n3), (0, 0), (0, 0)), (2, (n0 + n2 + n4, n3), (0, 0), (0, 0)), (2, (n0 + n2 + n4, n3 + n5), (0, 0), (0, 0)), (3, (n0 + n2 + n4, n3 + n5 + n2), (n0 + n2 + n4 + n3, n3 + n5 + n2 + n4), (n0 + n2 + n4 + n3 + n5, n3 + n5 + n2 + n4)), (3, (n0 + n2 + n4 + n3 + n5 + n6, n3 + n5 + n2 + n4), (n0 + n2 + n4 + n3 + n5 + n6 + n7, n3 + n5 + n2 + n4 + n0), (n0 + n2 + n4 + n3 + n5 + n6 + n7, n3 + n5 + n2 + n4 + n0 + n1))], [], n0 + n2 + n4 + n3 + n5 + n6 + n7, n3 + n5 + n2 + n4 + n0 + n1, true, [], [], true, false, [], false, 9⟩ : M) with stack := ((⟨n0, n1, [(1, (n0 + n2, n3), (0, 0), (0, 0)), (2, (n0 + n2 + n4, n3), (0, 0), (0, 0)), (2, (n0 + n2 + n4, n3 + n5), (0, 0), (0, 0)), (3, (n0 + n2 + n4, n3 + n5 + n2), (n0 + n2 + n4 + n3, n3 + n5 + n2 + n4), (n0 + n2 + n4 + n3 + n5, n3 + n5 + n2 + n4)), (3, (n0 + n2 + n4 + n3 + n5 + n6, n3 + n5 + n2 + n4), (n0 + n2 + n4 + n3 + n5 + n6 + n7, n3 + n5 + n2 + n4 + n0), (n0 + n2 + n4 + n3 + n5 + n6 + n7, n3 + n5 + n2 + n4 + n0 + n1))], [], n0 + n2 + n4 + n3 + n5 + n6 + n7, n3 + n5 + n2 + n4 + n0 + n1, true, [], [], true, false, [], false, 9⟩ : M)).stack ++ [], count := ((⟨n0, n1, [(1, (n0 + n2, n3), (0, 0), (0, 0)), (2, (n0 + n2 + n4, n3), (0, 0), (0, 0)), (2, (n0 + n2 + n4, n3 + n5), (0, 0), (0, 0)), (3, (n0 + n2 + n4, n3 + n5 + n2), (n0 + n2 + n4 + n3, n3 + n5 + n2 + n4), (n0 + n2 + n4 + n3 + n5, n3 + n5 + n2 + n4)), (3, (n0 + n2 + n4 + n3 + n5 + n6, n3 + n5 + n2 + n4), (n0 + n2 + n4 + n3 + n5 + n6 + n7, n3 + n5 + n2 + n4 + n0), (n0 + n2 + n4 + n3 + n5 + n6 + n7, n3 + n5 + n2 + n4 + n0 + n1))], [], n0 + n2 + n4 + n3 + n5 + n6 + n7, n3 + n5 + n2 + n4 + n0 + n1, true, [], [], true, false, [], false, 9⟩ : M)).count + 1 } = .ok (⟨n0, n1, [(1, (n0 + n2, n3), (0, 0), (0, 0)), (2, (n0 + n2 + n4, n3), (0, 0), (0, 0)), (2, (n0 + n2 + n4, n3 + n5), (0, 0), (0, 0)), (3, (n0 + n2 + n4, n3 + n5 + n2), (n0 + n2 + n4 + n3, n3 + n5 + n2 + n4), (n0 + n2 + n4 + n3 + n5, n3 + n5 + n2 + n4)), (3, (n0 + n2 + n4 + n3 + n5 + n6, n3 + n5 + n2 + n4), (n0 + n2 + n4 + n3 + n5 + n6 + n7, n3 + n5 + n2 + n4 + n0), (n0 + n2 + n4 + n3 + n5 + n6 + n7, n3 + n5 + n2 + n4 + n0 + n1))], [], n0 + n2 + n4 + n3 + n5 + n6 + n7, n3 + n5 + n2 + n4 + n0 + n1, true, [], [], true, false, [], false, 10⟩ : M) := by
    simp [m0, operM, pathM, divM, push, K33.need, doOp, beginM, moveM, drawM, stepM, walk, kept, lastMove, mkStep, closeM, isMove]
  have e10 : operM 9 { (⟨n0, n1, [(1, (n0 + n2, n3), (0, 0), (0, 0)), (2, (n0 + n2 + n4, n3), (0, 0), (0, 0)), (2, (n0 + n2 + n4, n3 + n5), (0, 0), (0, 0)), (3, (n0 + n2 + n4, n3 + n5 + n2), (n0 + n2 + n4 + n3, n3 + n5 + n2 + n4), (n0 + n2 + n4 + n3 + n5, n3 + n5 + n2 + n4)), (3, (n0 + n2 + n4 + n3 + n5 + n6, n3 + n5 + n2 + n4), (n0 + n2 + n4 + n3 + n5 + n6 + n7, n3 + n5 + n2 + n4 + n0), (n0 + n2 + n4 + n3 + n5 + n6 + n7, n3 + n5 + n2 + n4 + n0 + n1))], [], n0 + n2 + n4 + n3 + n5 + n6 + n7, n3 + n5 + n2 + n4 + n0 + n1, true, [], [], true, false, [], false, 10⟩ : M) with stack := ((⟨n0, n1, [(1, (n0 + n2, n3), (0, 0), (0, 0)), (2, (n0 + n2 + n4, n3), (0, 0), (0, 0)), (2, (n0 + n2 + n4, n3 + n5), (0, 0), (0, 0)), (3, (n0 + n2 + n4, n3 + n5 + n2), (n0 + n2 + n4 + n3, n3 + n5 + n2 + n4), (n0 + n2 + n4 + n3 + n5, n3 + n5 + n2 + n4)), (3, (n0 + n2 + n4 + n3 + n5 + n6, n3 + n5 + n2 + n4), (n0 + n2 + n4 + n3 + n5 + n6 + n7, n3 + n5 + n2 + n4 + n0), (n0 + n2 + n4 + n3 + n5 + n6 + n7, n3 + n5 + n2 + n4 + n0 + n1))], [], n0 + n2 + n4 + n3 + n5 + n6 + n7, n3 + n5 + n2 + n4 + n0 + n1, true, [], [], true, false, [], false, 10⟩ : M)).stack ++ [], count := ((⟨n0, n1, [(1, (n0 + n2, n3), (0, 0), (0, 0)), (2, (n0 + n2 + n4, n3), (0, 0), (0, 0)), (2, (n0 + n2 + n4, n3 + n5), (0, 0), (0, 0)), (3, (n0 + n2 + n4, n3 + n5 + n2), (n0 + n2 + n4 + n3, n3 + n5 + n2 + n4), (n0 + n2 + n4 + n3 + n5, n3 + n5 + n2 + n4)), (3, (n0 + n2 + n4 + n3 + n5 + n6, n3 + n5 + n2 + n4), (n0 + n2 + n4 + n3 + n5 + n6 + n7, n3 + n5 + n2 + n4 + n0), (n0 + n2 + n4 + n3 + n5 + n6 + n7, n3 + n5 + n2 + n4 + n0 + n1))], [], n0 + n2 + n4 + n3 + n5 + n6 + n7, n3 + n5 + n2 + n4 + n0 + n1, true, [], [], true, false, [], false, 10⟩ : M)).count + 1 } = .ok (⟨n0, n1, [(1, (n0 + n2, n3), (0, 0), (0, 0)), (2, (n0 + n2 + n4, n3), (0, 0), (0, 0)), (2, (n0 + n2 + n4, n3 + n5), (0, 0), (0, 0)), (3, (n0 + n2 + n4, n3 + n5 + n2), (n0 + n2 + n4 + n3, n3 + n5 + n2 + n4), (n0 + n2 + n4 + n3 + n5, n3 + n5 + n2 + n4)), (3, (n0 + n2 + n4 + n3 + n5 + n6, n3 + n5 + n2 + n4), (n0 + n2 + n4 + n3 + n5 + n6 + n7, n3 + n5 + n2 + n4 + n0), (n0 + n2 + n4 + n3 + n5 + n6 + n7, n3 + n5 + n2 + n4 + n0 + n1)), (4, (0, 0), (0, 0), (0, 0))], [], n0 + n2 + n4 + n3 + n5 + n6 + n7, n3 + n5 + n2 + n4 + n0 + n1, false, [], [], true, false, [], false, 11⟩ : M) := by
    simp [m0, operM, pathM, divM, push, K33.need, doOp, beginM, moveM, drawM, stepM, walk, kept, lastMove, mkStep, closeM, isMove]
  have e11 : operM 14 { (⟨n0, n1, [(1, (n0 + n2, n3), (0, 0), (0, 0)), (2, (n0 + n2 + n4, n3), (0, 0), (0, 0)), (2, (n0 + n2 + n4, n3 + n5), (0, 0), (0, 0)), (3, (n0 + n2 + n4, n3 + n5 + n2), (n0 + n2 + n4 + n3, n3 + n5 + n2 + n4), (n0 + n2 + n4 + n3 + n5, n3 + n5 + n2 + n4)), (3, (n0 + n2 + n4 + n3 + n5 + n6, n3 + n5 + n2 + n4), (n0 + n2 + n4 + n3 + n5 + n6 + n7, n3 + n5 + n2 + n4 + n0), (n0 + n2 + n4 + n3 + n5 + n6 + n7, n3 + n5 + n2 + n4 + n0 + n1)), (4, (0, 0), (0, 0), (0, 0))], [], n0 + n2 + n4 + n3 + n5 + n6 + n7, n3 + n5 + n2 + n4 + n0 + n1, false, [], [], true, false, [], false, 11⟩ : M) with stack := ((⟨n0, n1, [(1, (n0 + n2, n3), (0, 0), (0, 0)), (2, (n0 + n2 + n4, n3), (0, 0), (0, 0)), (2, (n0 + n2 + n4, n3 + n5), (0, 0), (0, 0)), (3, (n0 + n2 + n4, n3 + n5 + n2), (n0 + n2 + n4 + n3, n3 + n5 + n2 + n4), (n0 + n2 + n4 + n3 + n5, n3 + n5 + n2 + n4)), (3, (n0 + n2 + n4 + n3 + n5 + n6, n3 + n5 + n2 + n4), (n0 + n2 + n4 + n3 + n5 + n6 + n7, n3 + n5 + n2 + n4 + n0), (n0 + n2 + n4 + n3 + n5 + n6 + n7, n3 + n5 + n2 + n4 + n0 + n1)), (4, (0, 0), (0, 0), (0, 0))], [], n0 + n2 + n4 + n3 + n5 + n6 + n7, n3 + n5 + n2 + n4 + n0 + n1, false, [], [], true, false, [], false, 11⟩ : M)).stack ++ [], count := ((⟨n0, n1, [(1, (n0 + n2, n3), (0, 0), (0, 0)), (2, (n0 + n2 + n4, n3), (0, 0), (0, 0)), (2, (n0 + n2 + n4, n3 + n5), (0, 0), (0, 0)), (3, (n0 + n2 + n4, n3 + n5 + n2), (n0 + n2 + n4 + n3, n3 + n5 + n2 + n4), (n0 + n2 + n4 + n3 + n5, n3 + n5 + n2 + n4)), (3, (n0 + n2 + n4 + n3 + n5 + n6, n3 + n5 + n2 + n4), (n0 + n2 + n4 + n3 + n5 + n6 + n7, n3 + n5 + n2 + n4 + n0), (n0 + n2 + n4 + n3 + n5 + n6 + n7, n3 + n5 + n2 + n4 + n0 + n1)), (4, (0, 0), (0, 0), (0, 0))], [], n0 + n2 + n4 + n3 + n5 + n6 + n7, n3 + n5 + n2 + n4 + n0 + n1, false, [], [], true, false, [], false, 11⟩ : M)).count + 1 } = .ok (⟨n0, n1, [(1, (n0 + n2, n3), (0, 0), (0, 0)), (2, (n0 + n2 + n4, n3), (0, 0), (0, 0)), (2, (n0 + n2 + n4, n3 + n5), (0, 0), (0, 0)), (3, (n0 + n2 + n4, n3 + n5 + n2), (n0 + n2 + n4 + n3, n3 + n5 + n2 + n4), (n0 + n2 + n4 + n3 + n5, n3 + n5 + n2 + n4)), (3, (n0 + n2 + n4 + n3 + n5 + n6, n3 + n5 + n2 + n4), (n0 + n2 + n4 + n3 + n5 + n6 + n7, n3 + n5 + n2 + n4 + n0), (n0 + n2 + n4 + n3 + n5 + n6 + n7, n3 + n5 + n2 + n4 + n0 + n1)), (4, (0, 0), (0, 0), (0, 0))], [], n0 + n2 + n4 + n3 + n5 + n6 + n7, n3 + n5 + n2 + n4 + n0 + n1, false, [], [], true, false, [], true, 12⟩ : M) := by
    simp [m0, operM, pathM, divM, push, K33.need, doOp, beginM, moveM, drawM, stepM, walk, kept, lastMove, mkStep, closeM, isMove]
  refine ⟨(⟨n0, n1, [(1, (n0 + n2, n3), (0, 0), (0, 0)), (2, (n0 + n2 + n4, n3), (0, 0), (0, 0)), (2, (n0 + n2 + n4, n3 + n5), (0, 0), (0, 0)), (3, (n0 + n2 + n4, n3 + n5 + n2), (n0 + n2 + n4 + n3, n3 + n5 + n2 + n4), (n0 + n2 + n4 + n3 + n5, n3 + n5 + n2 + n4)), (3, (n0 + n2 + n4 + n3 + n5 + n6, n3 + n5 + n2 + n4), (n0 + n2 + n4 + n3 + n5 + n6 + n7, n3 + n5 + n2 + n4 + n0), (n0 + n2 + n4 + n3 + n5 + n6 + n7, n3 + n5 + n2 + n4 + n0 + n1)), (4, (0, 0), (0, 0), (0, 0))], [], n0 + n2 + n4 + n3 + n5 + n6 + n7, n3 + n5 + n2 + n4 + n0 + n1, false, [], [], true, false, [], true, 12⟩ : M), ?_, ?_⟩
  · show runT call true m0 (shortT n0 n1 n2 n3 n4 n5 n6 n7 q) = _
    unfold shortT
    refine ((runT_ok (xs := [n0, n1]) (by simp [m0]) (by decide) (by decide) (by decide) e0 rfl)).trans ?_
    refine ((runT_ok (xs := [n2 * q, q]) (by simp) (by dsimp only; decide) (by decide) (by decide) e1 rfl)).trans ?_
    refine ((runT_ok (xs := []) (by simp) (by dsimp only; decide) (by decide) (by decide) e2 rfl)).trans ?_
    refine ((runT_ok (xs := [n3]) (by simp) (by dsimp only; decide) (by decide) (by decide) e3 rfl)).trans ?_
    refine ((runT_ok (xs := [n4]) (by simp) (by dsimp only; decide) (by decide) (by decide) e4 rfl)).trans ?_
    refine ((runT_ok (xs := [n5 * q, q]) (by simp) (by dsimp only; decide) (by decide) (by decide) e5 rfl)).trans ?_
    refine ((runT_ok (xs := []) (by simp) (by dsimp only; decide) (by decide) (by decide) e6 rfl)).trans ?_
    refine ((runT_ok (xs := [n2, n3, n4, n5]) (by simp) (by dsimp only; decide) (by decide) (by decide) e7 rfl)).trans ?_
    refine ((runT_ok (xs := [n6, n7, n0, n1]) (by simp) (by dsimp only; decide) (by decide) (by decide) e8 rfl)).trans ?_
    refine ((runT_ok (xs := []) (by simp) (by dsimp only; decide) (by decide) (by decide) e9 rfl)).trans ?_
    refine ((runT_ok (xs := []) (by simp) (by dsimp only; decide) (by decide) (by decide) e10 rfl)).trans ?_
    refine (runT_end (xs := []) (by simp) (by dsimp only; decide) (by decide) (by decide) e11 rfl)
  · rfl
omit call in
theorem mul_bd {n q : Int} (h : -500 < n ∧ n < 500) (hq : 0 < q ∧ q ≤ 256) : -2147483648 ≤ n * q ∧ n * q ≤ 2147483647 := by
  have h1 : n * q ≤ 500 * q := Int.mul_le_mul_of_nonneg_right (by omega) (by omega)
  have h2 : -500 * q ≤ n * q := Int.mul_le_mul_of_nonneg_right (by omega) (by omega)
  omega
omit call in
theorem encs_le (l : List Tok) : (encs l).length ≤ 5 * l.length := by
  induction l with
  | nil => simp [encs]
  | cons t r ih =>
    rw [encs_cons, List.length_append, List.length_cons]
    have : (enc t).length ≤ 5 := by
      cases t with
      | num n => exact (numB_len n).2
      | op c => simp only [enc]; split <;> simp
    omega
omit call in
theorem long_G (h0 : -500 < n0 ∧ n0 < 500) (h1 : -500 < n1 ∧ n1 < 500) (h2 : -500 < n2 ∧ n2 < 500) (h3 : -500 < n3 ∧ n3 < 500) (h4 : -500 < n4 ∧ n4 < 500) (h5 : -500 < n5 ∧ n5 < 500) (h6 : -500 < n6 ∧ n6 < 500) (h7 : -500 < n7 ∧ n7 < 500) :
    runG [] (encs (longT n0 n1 n2 n3 n4 n5 n6 n7)) = (glyph n0 n1 n2 n3 n4 n5 n6 n7, 0) := by
  rw [runG_T [] _ ?_ (by simp) (by simp) (Nat.le_trans (encs_le _) (by simp [longT]))]
  · obtain ⟨m, e, hm⟩ := long_run (subrM [] (some fun m s => runD [] 9 false m s)) n0 n1 n2 n3 n4 n5 n6 n7 h0 h1 h2 h3 h4 h5 h6 h7
    rw [e]
    simp only [hm]
  · intro t ht
    unfold longT at ht
    simp only [List.mem_cons, List.not_mem_nil, or_false] at ht
    rcases ht with rfl | rfl | rfl | rfl | rfl | rfl | rfl | rfl | rfl | rfl | rfl | rfl | rfl | rfl | rfl | rfl | rfl | rfl | rfl | rfl | rfl | rfl | rfl | rfl | rfl | rfl | rfl | rfl | rfl | rfl | rfl <;> first | (show _ ∧ _ ∧ _ ∧ _; decide) | (show (_ : Int) ≤ _ ∧ _ ≤ _; omega)
omit call in
theorem short_G (hq : 0 < q ∧ q ≤ 256) (h0 : -500 < n0 ∧ n0 < 500) (h1 : -500 < n1 ∧ n1 < 500) (h2 : -500 < n2 ∧ n2 < 500) (h3 : -500 < n3 ∧ n3 < 500) (h4 : -500 < n4 ∧ n4 < 500) (h5 : -500 < n5 ∧ n5 < 500) (h6 : -500 < n6 ∧ n6 < 500) (h7 : -500 < n7 ∧ n7 < 500) :
    runG [] (encs (shortT n0 n1 n2 n3 n4 n5 n6 n7 q)) = (glyph n0 n1 n2 n3 n4 n5 n6 n7, 0) := by
  rw [runG_T [] _ ?_ (by simp) (by simp) (Nat.le_trans (encs_le _) (by simp [shortT]))]
  · obtain ⟨m, e, hm⟩ := short_run (subrM [] (some fun m s => runD [] 9 false m s)) n0 n1 n2 n3 n4 n5 n6 n7 q hq.1 h0 h1 h2 h3 h4 h5 h6 h7
    rw [e]
    simp only [hm]
  · intro t ht
    unfold shortT at ht
    simp only [List.mem_cons, List.not_mem_nil, or_false] at ht
    rcases ht with rfl | rfl | rfl | rfl | rfl | rfl | rfl | rfl | rfl | rfl | rfl | rfl | rfl | rfl | rfl | rfl | rfl | rfl | rfl | rfl | rfl | rfl | rfl | rfl | rfl | rfl | rfl | rfl <;> first | (show _ ∧ _ ∧ _ ∧ _; decide) | exact mul_bd (by assumption) hq | (show (_ : Int) ≤ _ ∧ _ ≤ _; omega)

end
end Go.Proofs.Ytimnohaalccdkaa.T33
/- Words (chapter 33): Text 33, of a path operator with operands. -/
namespace Go.Proofs.Ytimnohaalccdkaa.G33t
open Go.Proofs.Ytimnohaalccdkaa Go.Proofs.Ytimnohaalccdkaa.K33 Go.Proofs.Ytimnohaalccdkaa.M33 Go.Proofs.Ytimnohaalccdkaa.L33 Go.Proofs.Ytimnohaalccdkaa.N33 Go.Proofs.Ytimnohaalccdkaa.G33i Go.Proofs.Ytimnohaalccdkaa.G33o Go.Proofs.Ytimnohaalccdkaa.W33 Go.Proofs.Ytimnohaalccdkaa.D33 Go.Proofs.Ytimnohaalccdkaa.E33 Go.Proofs.Ytimnohaalccdkaa.V33 Go.Proofs.Ytimnohaalccdkaa.B33 Go.Proofs.Ytimnohaalccdkaa.N33b Go.Proofs.Ytimnohaalccdkaa.P33a
open Go.RowKit Go.Proofs.YtimnohaalccdkaaW.PrintWords Go.Proofs.YtimnohaalccdkaaW.PrintLast Go.Proofs.YtimnohaalccdkaaW.PrintMore
open Go.Proofs.Ytimnohaalccdkaa.T33 (Tok tok enc)
set_option linter.unusedVariables false
set_option linter.unusedSimpArgs false
set_option maxRecDepth 100000
def opsL : List Int := [21, 5, 8, 9, 4, 22, 6, 7, 30, 31, 1, 3, 256, 257, 258, 289, 10, 268, 272, 273]
def cells20 : Array Value := #[.int .i64 21, .int .i64 5, .int .i64 8, .int .i64 9, .int .i64 4, .int .i64 22, .int .i64 6, .int .i64 7, .int .i64 30, .int .i64 31, .int .i64 1, .int .i64 3, .int .i64 256, .int .i64 257, .int .i64 258, .int .i64 289, .int .i64 10, .int .i64 268, .int .i64 272, .int .i64 273]
def zeros20 : Array Value := #[.int .i64 0, .int .i64 0, .int .i64 0, .int .i64 0, .int .i64 0, .int .i64 0, .int .i64 0, .int .i64 0, .int .i64 0, .int .i64 0, .int .i64 0, .int .i64 0, .int .i64 0, .int .i64 0, .int .i64 0, .int .i64 0, .int .i64 0, .int .i64 0, .int .i64 0, .int .i64 0]
theorem cells20_at (k : Nat) (h : k < 20) : cells20[k]? = some (.int .i64 (opsL.getD k 0)) := by
  have : ∀ k : Fin 20, cells20[k.1]? = some (.int .i64 (opsL.getD k.1 0)) := by
    intro ⟨k, hk⟩
    match k, hk with
    | 0, _ => rfl | 1, _ => rfl | 2, _ => rfl | 3, _ => rfl | 4, _ => rfl | 5, _ => rfl | 6, _ => rfl | 7, _ => rfl | 8, _ => rfl | 9, _ => rfl
    | 10, _ => rfl | 11, _ => rfl | 12, _ => rfl | 13, _ => rfl | 14, _ => rfl | 15, _ => rfl | 16, _ => rfl | 17, _ => rfl | 18, _ => rfl | 19, _ => rfl
    | n + 20, h => omega
  exact this ⟨k, h⟩
theorem info128 : (Try.prog.info? 128).map (·.size) = some 20 := by kernel_rfl
theorem store128 {ops : Array Oper} {rest : List Oper} {o : Oper} {a : Act} {w : World} {Q : Exit → Act → World → Prop} (hgd : o.guard = none) (x y : Operand) (ho : o.op = .store 128 x y) (g : Nat) (hx : a.eval x = .pointer (some ⟨g, 0, none⟩)) (hy : a.eval y = .agg cells20) (hold : w.heap[g]? = some (.cells zeros20 128 (0, 0)))
    (h : wpList Try.prog ops Q rest (a.put o.dst undef) (w.setRow g cells20)) : wpList Try.prog ops Q (o :: rest) a w :=
  wpList_store_row hgd 128 x y ho g cells20 hx hy 128 zeros20 hold (info128.trans rfl) rfl (by unfold cells20; simp [Value.oneCell']) h
theorem need_ops {opc : Int} {k : Nat} (h : need opc = some k) : opc ≠ 272 ∧ opc ≠ 10 := by
  refine ⟨?_, ?_⟩ <;> (intro e; subst e; cases h)
theorem need_rng {opc : Int} {k : Nat} (h : need opc = some k) : 0 ≤ opc ∧ opc < 290 := by
  unfold need at h
  split at h
  · omega
  · split at h
    · omega
    · split at h
      · omega
      · split at h
        · omega
        · split at h
          · omega
          · cases h
theorem need_tok {opc : Int} {k : Nat} (h : need opc = some k) : (opc < 32 ∨ 256 ≤ opc) ∧ opc ≠ 12 := by
  unfold need at h
  split at h
  · omega
  · split at h
    · omega
    · split at h
      · omega
      · split at h
        · omega
        · split at h
          · omega
          · cases h
theorem conv2 (W : World) (x y : Int) (hx : 0 ≤ x ∧ x < 256) (hy : 0 ≤ y ∧ y < 256) : (convert 82 9 (.slice (some ⟨W.heap.size, 0, none⟩) 2 2)).run Try.prog (W.alloc (.cells #[.int .u8 x, .int .u8 y] 5)) = .ok (.string (strOfNums [x, y])) (W.alloc (.cells #[.int .u8 x, .int .u8 y] 5)) :=
  run_convert_bytes_arg _ 82 5 Try.underlying82 Try.underlying5 W.heap.size 0 2 2 [x, y] rfl (fun i hi => by
    rw [blk_cell (blk_new _ _)]
    match i, hi with
    | 0, _ => rfl
    | 1, _ => rfl
    | n + 2, h => omega) 9 Try.underlying9
theorem conv1 (W : World) (x : Int) (hx : 0 ≤ x ∧ x < 256) : (convert 82 9 (.slice (some ⟨W.heap.size, 0, none⟩) 1 1)).run Try.prog (W.alloc (.cells #[.int .u8 x] 5)) = .ok (.string (strOfNums [x])) (W.alloc (.cells #[.int .u8 x] 5)) :=
  run_convert_bytes_arg _ 82 5 Try.underlying82 Try.underlying5 W.heap.size 0 1 1 [x] rfl (fun i hi => by
    rw [blk_cell (blk_new _ _)]
    match i, hi with
    | 0, _ => rfl
    | n + 1, h => omega) 9 Try.underlying9
theorem word_at (op l0 l1 l2 l3 l4 l5 : Int) (j : Nat) (h : j < 6) : (#[.int .u8 op, .int .i16 l0, .int .i16 l1, .int .i16 l2, .int .i16 l3, .int .i16 l4, .int .i16 l5] : Array Value)[1 + j]? = some (.int .i16 ([l0, l1, l2, l3, l4, l5].getD j 0)) := by
  match j, h with
  | 0, _ => rfl | 1, _ => rfl | 2, _ => rfl | 3, _ => rfl | 4, _ => rfl | 5, _ => rfl
  | n + 6, h => omega
/-- The tokens of a word. -/
def wordT (opc : Int) (k : Nat) (l : List Int) : List Tok := ((l.take k).map fun x => Tok.num (Int.tmod x 300)) ++ [.op opc]
theorem rem300 (x : Int) : -300 < Int.tmod x 300 ∧ Int.tmod x 300 < 300 := ⟨Int.lt_tmod_of_pos x (by omega), Int.tmod_lt_of_pos x (by omega)⟩
set_option maxHeartbeats 8000000 in
theorem text_call (op l0 l1 l2 l3 l4 l5 : Int) (hop : 0 ≤ op ∧ op < 256) (k : Nat) (opc : Int) (hopc : opsL.getD (op % 20).toNat 0 = opc) (hk : need opc = some k) (hk6 : k ≤ 6) (w : World) :
    Calls Try.prog 33 #[.agg #[.int .u8 op, .int .i16 l0, .int .i16 l1, .int .i16 l2, .int .i16 l3, .int .i16 l4, .int .i16 l5]] w fun e w' => (∃ t, e = .returned (.string t) ∧ bytesOf t = T33.encs (wordT opc k [l0, l1, l2, l3, l4, l5])) ∧ Below w.heap.size w w' := by
  obtain ⟨kk, hkk⟩ : ∃ kk : Nat, op % 20 = (kk : Int) := ⟨(op % 20).toNat, by omega⟩
  have hk20 : kk < 20 := by omega
  have htm : Int.tmod op 20 = (kk : Int) := by rw [Int.tmod_eq_emod_of_nonneg hop.1]; exact hkk
  have hlt20 : decide ((kk : Int) < 20) = true := decide_eq_true (by omega)
  have hlt20n : decide (kk < 20) = true := decide_eq_true hk20
  have hqi : ((kk : Int) < 20) = True := eq_true (by omega)
  have hq20 : (kk < 20) = True := eq_true hk20
  rw [hkk, Int.toNat_natCast] at hopc
  have HOPC := Aside0.mk hopc
  have HK := Aside0.mk hk
  have HK6 := Aside0.mk hk6
  have HK20 := Aside0.mk hk20
  have HOP := Aside0.mk hop
  have hn := blk_new (w.alloc (.cells #[.int .u8 op, .int .i16 l0, .int .i16 l1, .int .i16 l2, .int .i16 l3, .int .i16 l4, .int .i16 l5] 86)) (.cells #[.int .i64 0, .int .i64 0, .int .i64 0, .int .i64 0, .int .i64 0, .int .i64 0, .int .i64 0, .int .i64 0, .int .i64 0, .int .i64 0, .int .i64 0, .int .i64 0, .int .i64 0, .int .i64 0, .int .i64 0, .int .i64 0, .int .i64 0, .int .i64 0, .int .i64 0, .int .i64 0] 128)
  rw [show (w.alloc (.cells #[.int .u8 op, .int .i16 l0, .int .i16 l1, .int .i16 l2, .int .i16 l3, .int .i16 l4, .int .i16 l5] 86)).heap.size = w.heap.size + 1 by simp] at hn
  have HN := Aside0.mk hn
  have hkb := blk_alloc (blk_new w (.cells #[.int .u8 op, .int .i16 l0, .int .i16 l1, .int .i16 l2, .int .i16 l3, .int .i16 l4, .int .i16 l5] 86)) (.cells #[.int .i64 0, .int .i64 0, .int .i64 0, .int .i64 0, .int .i64 0, .int .i64 0, .int .i64 0, .int .i64 0, .int .i64 0, .int .i64 0, .int .i64 0, .int .i64 0, .int .i64 0, .int .i64 0, .int .i64 0, .int .i64 0, .int .i64 0, .int .i64 0, .int .i64 0, .int .i64 0] 128)
  have hbb : Below w.heap.size w ((w.alloc (.cells #[.int .u8 op, .int .i16 l0, .int .i16 l1, .int .i16 l2, .int .i16 l3, .int .i16 l4, .int .i16 l5] 86)).alloc (.cells #[.int .i64 0, .int .i64 0, .int .i64 0, .int .i64 0, .int .i64 0, .int .i64 0, .int .i64 0, .int .i64 0, .int .i64 0, .int .i64 0, .int .i64 0, .int .i64 0, .int .i64 0, .int .i64 0, .int .i64 0, .int .i64 0, .int .i64 0, .int .i64 0, .int .i64 0, .int .i64 0] 128)) := below_alloc (below_alloc (Below.refl _ _) _) _
  obtain ⟨w0, hw0⟩ : ∃ w0, ((w.alloc (.cells #[.int .u8 op, .int .i16 l0, .int .i16 l1, .int .i16 l2, .int .i16 l3, .int .i16 l4, .int .i16 l5] 86)).alloc (.cells #[.int .i64 0, .int .i64 0, .int .i64 0, .int .i64 0, .int .i64 0, .int .i64 0, .int .i64 0, .int .i64 0, .int .i64 0, .int .i64 0, .int .i64 0, .int .i64 0, .int .i64 0, .int .i64 0, .int .i64 0, .int .i64 0, .int .i64 0, .int .i64 0, .int .i64 0, .int .i64 0] 128)).setRow (w.heap.size + 1) cells20 = w0 := ⟨_, rfl⟩
  have hcA : w0.cell? ⟨w.heap.size + 1, kk, none⟩ = some (.int .i64 opc) := by
    rw [← hw0]
    refine (blk_cell (setRow_heap _ _ _ _ _ _ hn) kk).trans ?_
    rw [cells20_at kk hk20, hopc]
  have hop0 : w0.cell? ⟨w.heap.size, 0, none⟩ = some (.int .u8 op) := by
    rw [← hw0]
    exact (blk_cell ((setRow_other _ _ _ _ (by simp)).trans hkb) 0).trans rfl
  have HKB : Aside0 (w0.heap[w.heap.size]? = some (.cells #[.int .u8 op, .int .i16 l0, .int .i16 l1, .int .i16 l2, .int .i16 l3, .int .i16 l4, .int .i16 l5] 86 (0, 0))) := ⟨by rw [← hw0]; exact (setRow_other _ _ _ _ (by simp)).trans hkb⟩
  have HB0 : Aside0 (Below w.heap.size w w0) := ⟨by rw [← hw0]; exact below_row hbb (by simp) _⟩
  clear hn hkb hbb
  clear hopc hk hkk hk20 hop
  go_enter Try.func33, Try.ntmps33
  go_wp2_with (first | (refine store128 rfl _ _ rfl (w.heap.size + 1) rfl rfl HN.out ?_; rw [hw0]))
  clear hcA hop0 hw0 HN hlt20 hlt20n hq20 hqi
  refine (chaseref33_need.calls 5 opc _ w0 ((ref_need_eq opc).trans (by rw [HK.out]))).mono ?_
  rintro e w1 ⟨rfl, hd1⟩
  have HB1 := Aside0.mk (below_step HB0.out hd1.below)
  have HKB1 := Aside0.mk (blk_below HKB.out hd1.below)
  clear hd1 HKB HB0
  dsimp only
  have hk0 : decide ((k : Int) < 0) = false := decide_eq_false (by omega)
  have e1 : (opc == 272) = false := by simpa using (need_ops HK.out).1
  have e2 : (opc == 10) = false := by simpa using (need_ops HK.out).2
  have e3 : decide (opc = 272) = false := decide_eq_false (need_ops HK.out).1
  have e4 : decide (opc = 10) = false := decide_eq_false (need_ops HK.out).2
  go_wp2_with fail
  go_loopw [5, 7] (fun v5 v7 wr => ∃ (j : Nat) (t : ByteArray), v5 = .string t ∧ v7 = .int .i64 (j : Int) ∧ j ≤ k ∧ t.size ≤ 5 * j ∧ Aside0 (bytesOf t = T33.encs (([l0, l1, l2, l3, l4, l5].take j).map fun x => Tok.num (Int.tmod x 300))) ∧ Aside0 (Below w.heap.size w wr) ∧ Aside0 (wr.heap[w.heap.size]? = some (.cells #[.int .u8 op, .int .i16 l0, .int .i16 l1, .int .i16 l2, .int .i16 l3, .int .i16 l4, .int .i16 l5] 86 (0, 0)))) (fun _ v7 _ => k - (intOf v7).toNat)
  case atStart => exact ⟨0, _, rfl, rfl, by omega, by decide, ⟨rfl⟩, HB1, HKB1⟩
  case round =>
    clear HB1 HKB1 hk0
    obtain ⟨j, t, rfl, rfl, hj, hts, HT, HB, HKB⟩ := hrel
    have HTS := Aside0.mk hts
    clear hts
    by_cases hjk : j < k
    · have t1 : decide ((j : Int) < (k : Int)) = true := decide_eq_true (by omega)
      have t2 : decide (j < k) = true := decide_eq_true hjk
      have hj6 : ((j : Int) < 6) = True := eq_true (by omega)
      have hj6n : (j < 6) = True := eq_true (by omega)
      obtain ⟨x, hx⟩ : ∃ x, [l0, l1, l2, l3, l4, l5].getD j 0 = x := ⟨_, rfl⟩
      have hc : wr.cell? ⟨w.heap.size, 1 + j, none⟩ = some (.int .i16 x) := by rw [blk_cell HKB.out, word_at op l0 l1 l2 l3 l4 l5 j (by omega), hx]
      have hr := rem300 x
      obtain ⟨y, hy⟩ : ∃ y, Int.tmod x 300 = y := ⟨_, rfl⟩
      rw [hy] at hr
      have hw : wrap64 y = y := wid (by omega) (by omega)
      have HR := Aside0.mk hr
      have HE : Aside0 (T33.encs (([l0, l1, l2, l3, l4, l5].take (j + 1)).map fun x => Tok.num (Int.tmod x 300)) = T33.encs (([l0, l1, l2, l3, l4, l5].take j).map fun x => Tok.num (Int.tmod x 300)) ++ numB y) := ⟨by
        rw [List.take_add_one, List.map_append]
        have : [l0, l1, l2, l3, l4, l5][j]? = some x := by
          rw [List.getElem?_eq_getElem (by simp; omega), ← hx, List.getD_eq_getElem?_getD, List.getElem?_eq_getElem (by simp; omega)]; rfl
        rw [this]
        unfold T33.encs
        simp [hy, enc]⟩
      have HJ := Aside0.mk (And.intro hjk HK6.out)
      clear hr hx
      obtain ⟨s, hs⟩ : ∃ s, strOfNums (numB y) = s := ⟨_, rfl⟩
      have hss : s.size ≤ 5 := by rw [← hs, strOf_size]; exact (numB_len y).2
      have HSB : Aside0 (bytesOf s = numB y) := ⟨by rw [← hs]; exact bytesOf_strOf _ (numB_oct y)⟩
      have hcat : t.size + s.size ≤ 9223372036854775807 := by have := HTS.out; have := HJ.out; omega
      have HSS := Aside0.mk hss
      have HC : Aside0 (∀ W : World, Calls Try.prog 15 #[.int .i64 y] W fun e w' => e = .returned (.string s) ∧ Below W.heap.size W w') := ⟨fun W => by rw [← hs]; exact ref_num_call (by have := HR.out; omega) W⟩
      clear hs hss
      go_wp2_with fail
      simp only [hw]
      refine (HC.out _).mono ?_
      rintro e w2 ⟨rfl, hb2⟩
      have HB2 := Aside0.mk (below_step HB.out hb2)
      have HKB2 := Aside0.mk (blk_below HKB.out hb2)
      clear hb2 HB HKB
      go_wp2_with fail
      refine ⟨⟨j + 1, t ++ s, rfl, by simp, HJ.out.1, ?_, ⟨?_⟩, HB2, HKB2⟩, by have := HJ.out.1; simp [intOf]; omega⟩
      · rw [ByteArray.size_append]; have := HTS.out; have := HSS.out; omega
      · rw [bytesOf_append, HT.out, HSB.out, HE.out]
    · have t1 : decide ((j : Int) < (k : Int)) = false := decide_eq_false (by omega)
      have t2 : decide (j < k) = false := decide_eq_false hjk
      obtain rfl : j = k := by omega
      have HW : Aside0 (T33.encs (wordT opc j [l0, l1, l2, l3, l4, l5]) = T33.encs (([l0, l1, l2, l3, l4, l5].take j).map fun x => Tok.num (Int.tmod x 300)) ++ enc (.op opc)) := ⟨by unfold wordT T33.encs; simp⟩
      have hrng := need_rng HK.out
      by_cases h256 : 256 ≤ opc
      · have g1 : decide (256 ≤ opc) = true := decide_eq_true h256
        obtain ⟨z, hz⟩ : ∃ z, opc - 256 = z := ⟨_, rfl⟩
        have hz2 : wrap64 z = z := wid (by omega) (by omega)
        have hz3 : z % 256 = z := by omega
        have hcv := conv2 wr 12 z (by omega) (by omega)
        obtain ⟨u, hu⟩ : ∃ u, strOfNums [12, z] = u := ⟨_, rfl⟩
        rw [hu] at hcv
        have hus : u.size = 2 := by rw [← hu, strOf_size]; rfl
        have hcat : t.size + u.size ≤ 9223372036854775807 := by have := HTS.out; have := HK6.out; omega
        have HU : Aside0 (bytesOf u = enc (.op opc)) := ⟨by
          rw [← hu, bytesOf_strOf _ (fun b hb => by simp only [List.mem_cons, List.not_mem_nil, or_false] at hb; omega)]
          simp only [enc, if_pos h256, hz]⟩
        clear hu hus h256 hjk hj hrng
        go_wp2_with fail
        go_ret
        exact ⟨⟨_, rfl, by show bytesOf (t ++ u) = _; rw [bytesOf_append, HT.out, HU.out, HW.out]⟩, below_step HB.out (below_alloc (Below.refl _ _) _)⟩
      · have g1 : decide (256 ≤ opc) = false := decide_eq_false h256
        have hz2 : wrap64 opc = opc := wid (by omega) (by omega)
        have hz3 : opc % 256 = opc := by omega
        have hcv := conv1 wr opc (by omega)
        obtain ⟨u, hu⟩ : ∃ u, strOfNums [opc] = u := ⟨_, rfl⟩
        rw [hu] at hcv
        have hus : u.size = 1 := by rw [← hu, strOf_size]; rfl
        have hcat : t.size + u.size ≤ 9223372036854775807 := by have := HTS.out; have := HK6.out; omega
        have HU : Aside0 (bytesOf u = enc (.op opc)) := ⟨by
          rw [← hu, bytesOf_strOf _ (fun b hb => by simp only [List.mem_cons, List.not_mem_nil, or_false] at hb; omega)]
          simp only [enc, if_neg h256]⟩
        clear hu hus h256 hjk hj hrng
        go_wp2_with fail
        go_ret
        exact ⟨⟨_, rfl, by show bytesOf (t ++ u) = _; rw [bytesOf_append, HT.out, HU.out, HW.out]⟩, below_step HB.out (below_alloc (Below.refl _ _) _)⟩
end Go.Proofs.Ytimnohaalccdkaa.G33t
/- Words (chapter 33): Body 16, plain 25. -/
namespace Go.Proofs.Ytimnohaalccdkaa.G33u
open Go.Proofs.Ytimnohaalccdkaa Go.Proofs.Ytimnohaalccdkaa.K33 Go.Proofs.Ytimnohaalccdkaa.M33 Go.Proofs.Ytimnohaalccdkaa.L33 Go.Proofs.Ytimnohaalccdkaa.N33 Go.Proofs.Ytimnohaalccdkaa.G33a Go.Proofs.Ytimnohaalccdkaa.G33c Go.Proofs.Ytimnohaalccdkaa.G33i Go.Proofs.Ytimnohaalccdkaa.G33o Go.Proofs.Ytimnohaalccdkaa.G33p Go.Proofs.Ytimnohaalccdkaa.W33 Go.Proofs.Ytimnohaalccdkaa.D33 Go.Proofs.Ytimnohaalccdkaa.E33 Go.Proofs.Ytimnohaalccdkaa.V33 Go.Proofs.Ytimnohaalccdkaa.B33 Go.Proofs.Ytimnohaalccdkaa.N33b Go.Proofs.Ytimnohaalccdkaa.G33t Go.Proofs.Ytimnohaalccdkaa.P33a
open Go.RowKit Go.Proofs.YtimnohaalccdkaaW.PrintWords Go.Proofs.YtimnohaalccdkaaW.PrintLast Go.Proofs.YtimnohaalccdkaaW.PrintMore
open Go.Proofs.Ytimnohaalccdkaa.T33 (Tok tok enc)
set_option linter.unusedVariables false
set_option linter.unusedSimpArgs false
set_option maxRecDepth 100000
/-- A word: its operator and six numbers. -/
abbrev Wd := Int × Int × Int × Int × Int × Int × Int
def wc (x : Wd) : List Value := [.int .u8 x.1, .int .i16 x.2.1, .int .i16 x.2.2.1, .int .i16 x.2.2.2.1, .int .i16 x.2.2.2.2.1, .int .i16 x.2.2.2.2.2.1, .int .i16 x.2.2.2.2.2.2]
def nums6 (x : Wd) : List Int := [x.2.1, x.2.2.1, x.2.2.2.1, x.2.2.2.2.1, x.2.2.2.2.2.1, x.2.2.2.2.2.2]
def opOf (x : Wd) : Int := opsL.getD (x.1 % 20).toNat 0
def wtoks (x : Wd) : List Tok := wordT (opOf x) ((need (opOf x)).getD 0) (nums6 x)
theorem wc_len (x : Wd) : (wc x).length = 7 := rfl
/-- A word of a path operator. -/
def Plain (x : Wd) : Prop := 0 ≤ x.1 ∧ x.1 < 16
theorem plain_need {x : Wd} (h : Plain x) : ∃ k, need (opOf x) = some k ∧ k ≤ 6 := by
  unfold opOf
  have hh := h
  obtain ⟨a, b⟩ := hh
  obtain ⟨n, hn, hn16⟩ : ∃ n : Nat, (x.1 % 20).toNat = n ∧ n < 16 := ⟨_, rfl, by omega⟩
  rw [hn]
  have : ∀ n : Fin 16, ∃ k, need (opsL.getD n.1 0) = some k ∧ k ≤ 6 := by
    intro ⟨n, hn⟩
    match n, hn with
    | 0, _ => exact ⟨2, rfl, by decide⟩ | 1, _ => exact ⟨2, rfl, by decide⟩ | 2, _ => exact ⟨6, rfl, by decide⟩ | 3, _ => exact ⟨0, rfl, by decide⟩ | 4, _ => exact ⟨1, rfl, by decide⟩ | 5, _ => exact ⟨1, rfl, by decide⟩ | 6, _ => exact ⟨1, rfl, by decide⟩ | 7, _ => exact ⟨1, rfl, by decide⟩
    | 8, _ => exact ⟨4, rfl, by decide⟩ | 9, _ => exact ⟨4, rfl, by decide⟩ | 10, _ => exact ⟨2, rfl, by decide⟩ | 11, _ => exact ⟨2, rfl, by decide⟩ | 12, _ => exact ⟨0, rfl, by decide⟩ | 13, _ => exact ⟨6, rfl, by decide⟩ | 14, _ => exact ⟨6, rfl, by decide⟩ | 15, _ => exact ⟨2, rfl, by decide⟩
    | n + 16, h => omega
  exact this ⟨n, hn16⟩
theorem wtoks_len (x : Wd) (h : Plain x) : (wtoks x).length ≤ 7 := by
  obtain ⟨k, hk, hk6⟩ := plain_need h
  unfold wtoks wordT
  rw [hk]
  simp
  omega
/-- Text of a path word. -/
theorem word_call (x : Wd) (h : Plain x) (w : World) : Calls Try.prog 33 #[.agg #[.int .u8 x.1, .int .i16 x.2.1, .int .i16 x.2.2.1, .int .i16 x.2.2.2.1, .int .i16 x.2.2.2.2.1, .int .i16 x.2.2.2.2.2.1, .int .i16 x.2.2.2.2.2.2]] w fun e w' => (∃ t, e = .returned (.string t) ∧ bytesOf t = T33.encs (wtoks x) ∧ t.size ≤ 35) ∧ Below w.heap.size w w' := by
  obtain ⟨k, hk, hk6⟩ := plain_need h
  have h' := h
  unfold Plain at h'
  refine (text_call x.1 x.2.1 x.2.2.1 x.2.2.2.1 x.2.2.2.2.1 x.2.2.2.2.2.1 x.2.2.2.2.2.2 (by omega) k (opOf x) rfl hk hk6 w).mono ?_
  rintro e w' ⟨⟨t, rfl, ht⟩, hb⟩
  have hw : wtoks x = wordT (opOf x) k [x.2.1, x.2.2.1, x.2.2.2.1, x.2.2.2.2.1, x.2.2.2.2.2.1, x.2.2.2.2.2.2] := by unfold wtoks; rw [hk]; rfl
  refine ⟨⟨t, rfl, by rw [hw]; exact ht, ?_⟩, hb⟩
  rw [← bytesOf_len, ht, ← hw]
  have h1 := T33.encs_le (wtoks x)
  have h2 := wtoks_len x h
  omega
/-- The cells of a word that lies in a row. -/
theorem word_cells {w W : World} {A : Option Addr} {n c : Nat} {ws : List Wd} (h : Rd w (.slice A n c) n (ws.flatMap wc)) (hb : Below w.heap.size w W) (j : Nat) (x : Wd) (hj : ws[j]? = some x) :
    ∃ g off, A = some ⟨g, off, none⟩ ∧ W.cell? ⟨g, off + j * 7, none⟩ = some (.int .u8 x.1) ∧ W.cell? ⟨g, off + j * 7 + 1, none⟩ = some (.int .i16 x.2.1) ∧ W.cell? ⟨g, off + j * 7 + 2, none⟩ = some (.int .i16 x.2.2.1) ∧ W.cell? ⟨g, off + j * 7 + 3, none⟩ = some (.int .i16 x.2.2.2.1) ∧ W.cell? ⟨g, off + j * 7 + 4, none⟩ = some (.int .i16 x.2.2.2.2.1) ∧ W.cell? ⟨g, off + j * 7 + 5, none⟩ = some (.int .i16 x.2.2.2.2.2.1) ∧ W.cell? ⟨g, off + j * 7 + 6, none⟩ = some (.int .i16 x.2.2.2.2.2.2) := by
  obtain ⟨A', c', e, hr⟩ := h
  injection e with e1 e2 e3
  subst e1
  have hjl : j < ws.length := (List.getElem?_eq_some_iff.1 hj).1
  have hx : ws[j]'hjl = x := (List.getElem?_eq_some_iff.1 hj).2
  have f : ∀ k (hk : k < 7), ∃ g off, A = some ⟨g, off, none⟩ ∧ W.cell? ⟨g, off + (j * 7 + k), none⟩ = some ((wc x).getD k undef) := fun k hk => by
    have h1 := flatMap_get wc_len ws j k hjl hk
    rw [hx] at h1
    have h2 : (wc x)[k]? = some ((wc x).getD k undef) := by
      rw [List.getElem?_eq_getElem (by rw [wc_len]; exact hk), List.getD_eq_getElem?_getD, List.getElem?_eq_getElem (by rw [wc_len]; exact hk)]; rfl
    exact hr W hb _ _ (h1.trans h2)
  obtain ⟨g, off, rfl, h0⟩ := f 0 (by omega)
  refine ⟨g, off, rfl, h0, ?_, ?_, ?_, ?_, ?_, ?_⟩
  · obtain ⟨_, _, e, h⟩ := f 1 (by omega); cases e; exact h
  · obtain ⟨_, _, e, h⟩ := f 2 (by omega); cases e; exact h
  · obtain ⟨_, _, e, h⟩ := f 3 (by omega); cases e; exact h
  · obtain ⟨_, _, e, h⟩ := f 4 (by omega); cases e; exact h
  · obtain ⟨_, _, e, h⟩ := f 5 (by omega); cases e; exact h
  · obtain ⟨_, _, e, h⟩ := f 6 (by omega); cases e; exact h
set_option maxHeartbeats 8000000 in
theorem body_call {w : World} {A : Option Addr} {c : Nat} {ws : List Wd} (h : Rd w (.slice A ws.length c) ws.length (ws.flatMap wc)) (hp : ∀ x ∈ ws, Plain x) (hl : ws.length ≤ 9223372036854775807) :
    Calls Try.prog 16 #[.slice A ws.length c] w fun e w' => (∃ t, e = .returned (.string t) ∧ bytesOf t = T33.encs ((ws.take 40).flatMap wtoks) ∧ t.size ≤ 1400) ∧ Below w.heap.size w w' := by
  have H := Aside0.mk h
  have HP := Aside0.mk hp
  have HL := Aside0.mk hl
  clear h hp hl
  go_enter Try.func16, Try.ntmps16
  go_wp2_with fail
  have HB0 : Aside0 (Below w.heap.size w w) := ⟨Below.refl _ _⟩
  go_loopw [3, 4] (fun v3 v4 wr => ∃ (j : Nat) (t : ByteArray), v3 = .string t ∧ v4 = .int .i64 (j : Int) ∧ j ≤ ws.length ∧ j ≤ 40 ∧ t.size ≤ 35 * j ∧ Aside0 (bytesOf t = T33.encs ((ws.take j).flatMap wtoks)) ∧ Aside0 (Below w.heap.size w wr)) (fun _ v4 _ => ws.length - (intOf v4).toNat)
  case atStart => exact ⟨0, _, rfl, rfl, by omega, by omega, by decide, ⟨rfl⟩, HB0⟩
  case round =>
    clear HB0
    obtain ⟨j, t, rfl, rfl, hj, hj40, hts, HT, HB⟩ := hrel
    have HTS := Aside0.mk (And.intro hts hj40)
    by_cases hjl : j < ws.length
    · have t1 : decide ((j : Int) < (ws.length : Int)) = true := decide_eq_true (by omega)
      have t2 : decide (j < ws.length) = true := decide_eq_true hjl
      have hq : (j < ws.length) = True := eq_true hjl
      by_cases h40 : j < 40
      · have t3 : decide ((j : Int) < 40) = true := decide_eq_true (by omega)
        have t4 : decide (j < 40) = true := decide_eq_true h40
        obtain ⟨x, hx⟩ : ∃ x, ws[j]? = some x := ⟨_, List.getElem?_eq_getElem hjl⟩
        have hmem : x ∈ ws := List.mem_of_getElem? hx
        obtain ⟨g, off, rfl, c0, c1, c2, c3, c4, c5, c6⟩ := word_cells H.out HB.out j x hx
        have HW := Aside0.mk (word_call x (HP.out x hmem))
        have HE : Aside0 ((ws.take (j + 1)).flatMap wtoks = (ws.take j).flatMap wtoks ++ wtoks x) := ⟨by rw [List.take_add_one, hx]; simp⟩
        have HJ := Aside0.mk (And.intro hjl h40)
        clear hx hmem hj hj40 hts h40
        go_wp2_with fail
        refine (HW.out _).mono ?_
        rintro e w2 ⟨⟨s, rfl, hs, hss⟩, hb2⟩
        have hcat : t.size + s.size ≤ 9223372036854775807 := by have := HTS.out.1; have := HJ.out; omega
        have HSB := Aside0.mk (And.intro hs hss)
        have HB2 := Aside0.mk (below_step HB.out hb2)
        clear hs hss hb2 HB c0 c1 c2 c3 c4 c5 c6
        go_wp2_with fail
        have e64 : wrap64 ((j : Int) + 1) = (j : Int) + 1 := wid (by omega) (by have := HJ.out; omega)
        refine ⟨⟨j + 1, t ++ s, rfl, by rw [e64]; simp, HJ.out.1, HJ.out.2, ?_, ⟨?_⟩, HB2⟩, by have := HJ.out.1; rw [e64]; simp [intOf]; omega⟩
        · rw [ByteArray.size_append]; have := HTS.out.1; have := HSB.out.2; omega
        · rw [bytesOf_append, HT.out, HSB.out.1, HE.out]; unfold T33.encs; rw [List.flatMap_append]
      · have t3 : decide ((j : Int) < 40) = false := decide_eq_false (by omega)
        have t4 : decide (j < 40) = false := decide_eq_false h40
        have HE : Aside0 (ws.take 40 = ws.take j) := ⟨by congr 1; omega⟩
        clear hts h40 hjl hj hj40
        go_wp2_with fail
        go_ret
        exact ⟨⟨t, rfl, by rw [HE.out]; exact HT.out, by have := HTS.out; omega⟩, HB.out⟩
    · have t1 : decide ((j : Int) < (ws.length : Int)) = false := decide_eq_false (by omega)
      have t2 : decide (j < ws.length) = false := decide_eq_false hjl
      have HE : Aside0 (ws.take 40 = ws.take j) := ⟨by rw [List.take_of_length_le (by omega), List.take_of_length_le (by omega)]⟩
      clear hts hjl hj hj40
      go_wp2_with fail
      go_ret
      exact ⟨⟨t, rfl, by rw [HE.out]; exact HT.out, by have := HTS.out; omega⟩, HB.out⟩
/-- What 'plain' makes of a word. -/
def plainW (x : Wd) : Wd := (x.1 % 20 % 16, x.2)
theorem plainW_ok {x : Wd} (h : 0 ≤ x.1 ∧ x.1 < 256) : Plain (plainW x) := by unfold Plain plainW; simp only; omega
theorem info86 : (Try.prog.info? 86).map (fun i => (i.zero, i.size, i.bytes)) = some (some (.agg #[.int .u8 0, .int .i16 0, .int .i16 0, .int .i16 0, .int .i16 0, .int .i16 0, .int .i16 0]), 7, 14) := by kernel_rfl
theorem size86 : (Try.prog.info? 86).map (·.size) = some 7 := by kernel_rfl
theorem store86 {ops : Array Oper} {rest : List Oper} {o : Oper} {a : Act} {w : World} {Q : Exit → Act → World → Prop} (hgd : o.guard = none) (x y : Operand) (ho : o.op = .store 86 x y) (g : Nat) (cs old : Array Value) (hx : a.eval x = .pointer (some ⟨g, 0, none⟩)) (hy : a.eval y = .agg cs) (hold : w.heap[g]? = some (.cells old 86 (0, 0))) (h7 : old.size = 7) (hc7 : cs.size = 7) (h1 : cs.all (·.oneCell') = true)
    (h : wpList Try.prog ops Q rest (a.put o.dst undef) (w.setRow g cs)) : wpList Try.prog ops Q (o :: rest) a w :=
  wpList_store_row hgd 86 x y ho g cs hx hy 86 old hold (size86.trans (by rw [hc7])) (by rw [h7, hc7]) h1 h
theorem load86 {ops : Array Oper} {rest : List Oper} {o : Oper} {a : Act} {w : World} {Q : Exit → Act → World → Prop} (hw : Region.wanted o (yielded ops a.tmps) = true) (x : Operand) (ho : o.op = .load 86 x)
    (g : Nat) (hx : a.eval x = .pointer (some ⟨g, 0, none⟩)) (cs : Array Value) (hb : cs.size = 7) (hg : w.heap[g]? = some (.cells cs 86 (0, 0)))
    (h : wpList Try.prog ops Q rest (a.put o.dst (.agg cs)) w) : wpList Try.prog ops Q (o :: rest) a w :=
  want hw fun _ hK => wp_load_row 86 x ho g hx 86 cs (0, 0) _ hg Try.underlying86 rfl (size86.trans (by rw [hb])) (hK _ _ h)
set_option maxHeartbeats 8000000 in
theorem plain_call {w : World} {A : Option Addr} {c : Nat} {ws : List Wd} (h : Rd w (.slice A ws.length c) ws.length (ws.flatMap wc)) (hc : ws.length ≤ c) (hp : ∀ x ∈ ws, 0 ≤ x.1 ∧ x.1 < 256) (hl : c ≤ 9223372036854775807) :
    Calls Try.prog 25 #[.slice A ws.length c] w fun e w' => (∃ v, e = .returned v ∧ w'.ownsRow w.heap.size 86 7 v ((ws.take 20).map plainW).length (((ws.take 20).map plainW).flatMap wc)) ∧ Below w.heap.size w w' := by
  obtain ⟨m, hm⟩ : ∃ m, (ws.take 20).length = m := ⟨_, rfl⟩
  have hm2 : m ≤ 20 ∧ m ≤ ws.length := by rw [← hm, List.length_take]; omega
  have hmin : min (ws.length : Int) 20 = (m : Int) := by rw [← hm, List.length_take]; omega
  have b1 : decide ((m : Int) ≤ (c : Int)) = true := decide_eq_true (by omega)
  have b2 : decide (m ≤ c) = true := decide_eq_true (by omega)
  have b3 : ((m : Int) ≤ (c : Int)) = True := eq_true (by omega)
  have b4 : (m ≤ c) = True := eq_true (by omega)
  have b5 : ((0 : Int) ≤ (m : Int)) = True := eq_true (by omega)
  have H := Aside0.mk h
  have HP := Aside0.mk hp
  have HL := Aside0.mk (And.intro hl hc)
  have HM := Aside0.mk (And.intro hm hm2)
  clear h hp hl hm hm2 hc
  go_enter Try.func25, Try.ntmps25
  go_wp2_with fail
  have HB0 : Aside0 (Below w.heap.size w w) := ⟨Below.refl _ _⟩
  go_loopw [3, 12] (fun v3 v12 wr => ∃ j : Nat, v12 = .int .i64 (j : Int) ∧ j ≤ m ∧ Aside0 (wr.ownsRow w.heap.size 86 7 v3 ((ws.take j).map plainW).length (((ws.take j).map plainW).flatMap wc)) ∧ Aside0 (Below w.heap.size w wr)) (fun _ v12 _ => m - (intOf v12).toNat)
  case atStart => exact ⟨0, rfl, by omega, ⟨own_nil _ _ _ _⟩, HB0⟩
  case round =>
    clear HB0
    obtain ⟨j, rfl, hj, HO, HB⟩ := hrel
    obtain ⟨L, hL⟩ : ∃ L, (ws.take j).map plainW = L := ⟨_, rfl⟩
    rw [hL] at HO
    have HL0 := Aside0.mk hL
    clear hL
    obtain ⟨A3, c3, rfl⟩ := own_slice HO.out
    by_cases hjm : j < m
    · have t1 : decide ((j : Int) < (m : Int)) = true := decide_eq_true (by omega)
      have t2 : decide (j < m) = true := decide_eq_true hjm
      have hq : (j < m) = True := eq_true hjm
      obtain ⟨x, hx⟩ : ∃ x, ws[j]? = some x := ⟨_, List.getElem?_eq_getElem (by have := HM.out.2.2; omega)⟩
      have hmem : x ∈ ws := List.mem_of_getElem? hx
      obtain ⟨g, off, rfl, c0, c1, c2, c3', c4, c5, c6⟩ := word_cells H.out HB.out j x hx
      obtain ⟨p, hp, hp1⟩ : ∃ p, Int.tmod (Int.tmod x.1 20) 16 = p ∧ p = x.1 % 20 % 16 := ⟨_, rfl, by
        have := HP.out x hmem
        rw [Int.tmod_eq_emod_of_nonneg (a := x.1) (by omega), Int.tmod_eq_emod_of_nonneg (by omega)]⟩
      obtain ⟨r, hr⟩ : ∃ r, wr.heap.size = r := ⟨_, rfl⟩
      obtain ⟨w1, hw1⟩ : ∃ w1, (wr.alloc (.cells #[.int .u8 0, .int .i16 0, .int .i16 0, .int .i16 0, .int .i16 0, .int .i16 0, .int .i16 0] 86)).setRow wr.heap.size #[.int .u8 x.1, .int .i16 x.2.1, .int .i16 x.2.2.1, .int .i16 x.2.2.2.1, .int .i16 x.2.2.2.2.1, .int .i16 x.2.2.2.2.2.1, .int .i16 x.2.2.2.2.2.2] = w1 := ⟨_, rfl⟩
      have hb1 : Below wr.heap.size wr w1 := by rw [← hw1]; exact below_row (below_alloc (Below.refl _ _) _) (Nat.le_refl _) _
      have hk1 : w1.heap[r]? = some (.cells #[.int .u8 x.1, .int .i16 x.2.1, .int .i16 x.2.2.1, .int .i16 x.2.2.2.1, .int .i16 x.2.2.2.2.1, .int .i16 x.2.2.2.2.2.1, .int .i16 x.2.2.2.2.2.2] 86 (0, 0)) := by rw [← hw1, ← hr]; exact setRow_heap _ _ _ _ _ _ (blk_new _ _)
      rw [hr] at hw1
      have e0 : w1.cell? ⟨r, 0, none⟩ = some (.int .u8 x.1) := (blk_cell hk1 0).trans rfl
      have f0 : w1.frozen? ⟨r, 0, none⟩ = false := blk_frozen hk1 0
      have hk2 := blk_set hk1 0 (.int .u8 p)
      have HK2 : Aside0 ((w1.setCell ⟨r, 0, none⟩ (.int .u8 p)).heap[r]? = some (.cells #[.int .u8 p, .int .i16 x.2.1, .int .i16 x.2.2.1, .int .i16 x.2.2.2.1, .int .i16 x.2.2.2.2.1, .int .i16 x.2.2.2.2.2.1, .int .i16 x.2.2.2.2.2.2] 86 (0, 0))) := ⟨hk2⟩
      have hrr : w.heap.size ≤ r := by rw [← hr]; exact HB.out.size
      have HB2 : Aside0 (Below w.heap.size w (w1.setCell ⟨r, 0, none⟩ (.int .u8 p))) := ⟨below_set (below_step HB.out hb1) hrr⟩
      have hne : some r ≠ (Value.slice A3 L.length c3).ownBlock := by
        intro e
        have := (HO.out.lt r e.symm).2
        rw [← hr] at this
        exact Nat.lt_irrefl _ this
      have HO2 : Aside0 ((w1.setCell ⟨r, 0, none⟩ (.int .u8 p)).ownsRow w.heap.size 86 7 (.slice A3 L.length c3) L.length (L.flatMap wc)) := ⟨own_setCell (pw_own_below HO.out hb1) hne _⟩
      have HE : Aside0 (((ws.take (j + 1)).map plainW).length = L.length + 1 ∧ ((ws.take (j + 1)).map plainW).flatMap wc = L.flatMap wc ++ [.int .u8 p, .int .i16 x.2.1, .int .i16 x.2.2.1, .int .i16 x.2.2.2.1, .int .i16 x.2.2.2.2.1, .int .i16 x.2.2.2.2.2.1, .int .i16 x.2.2.2.2.2.2]) := ⟨by
        rw [← HL0.out, List.take_add_one, hx]
        refine ⟨by simp, ?_⟩
        simp [plainW, wc, hp1]⟩
      have HL2 : Aside0 ((L.length + 1) * 14 ≤ 140737488355328) := ⟨by
        have := HM.out.2
        have h2 : L.length ≤ 20 := by rw [← HL0.out, List.length_map, List.length_take]; omega
        omega⟩
      have HJ := Aside0.mk hjm
      have HNW : Aside0 ((wr.alloc (.cells #[.int .u8 0, .int .i16 0, .int .i16 0, .int .i16 0, .int .i16 0, .int .i16 0, .int .i16 0] 86)).heap[r]? = some (.cells #[.int .u8 0, .int .i16 0, .int .i16 0, .int .i16 0, .int .i16 0, .int .i16 0, .int .i16 0] 86 (0, 0))) := ⟨by rw [← hr]; exact blk_new _ _⟩
      obtain ⟨w1s, hw1s⟩ : ∃ w1s, w1.setCell ⟨r, 0, none⟩ (.int .u8 p) = w1s := ⟨_, rfl⟩
      rw [hw1s] at HK2 HB2 HO2
      clear hx hmem hb1 hk1 hk2 hne hjm hp1 hrr
      go_wp2_with (first | (refine store86 rfl _ _ rfl r #[.int .u8 x.1, .int .i16 x.2.1, .int .i16 x.2.2.1, .int .i16 x.2.2.2.1, .int .i16 x.2.2.2.2.1, .int .i16 x.2.2.2.2.2.1, .int .i16 x.2.2.2.2.2.2] #[.int .u8 0, .int .i16 0, .int .i16 0, .int .i16 0, .int .i16 0, .int .i16 0, .int .i16 0] rfl rfl HNW.out rfl rfl (by simp [Value.oneCell']) ?_; rw [hw1]) | (refine load86 rfl _ rfl r rfl #[.int .u8 p, .int .i16 x.2.1, .int .i16 x.2.2.1, .int .i16 x.2.2.2.1, .int .i16 x.2.2.2.2.1, .int .i16 x.2.2.2.2.2.1, .int .i16 x.2.2.2.2.2.2] rfl HK2.out ?_) | (at_builtin; refine print_append_cells (w0 := w) w.heap.size rfl (.tmp 21) (.tmp 23) 33 86 _ 7 14 rfl Try.underlying33 info86 rfl (by decide) (by decide) (.slice A3 L.length c3) L.length (L.flatMap wc) [.int .u8 p, .int .i16 x.2.1, .int .i16 x.2.2.1, .int .i16 x.2.2.2.1, .int .i16 x.2.2.2.2.1, .int .i16 x.2.2.2.2.2.1, .int .i16 x.2.2.2.2.2.2] rfl rfl rfl (by simp [Value.oneCell']) HO2.out HB2.out HB2.out.size HL2.out ?_; intro v1 w2 ho1 hb2 hg1 hat1; have HO3 := Aside0.mk ho1; have HB3 := Aside0.mk hb2; clear ho1 hb2 hg1 hat1))
      refine ⟨⟨j + 1, by simp, HJ.out, ⟨?_⟩, HB3⟩, by have := HJ.out; simp [intOf]; omega⟩
      rw [HE.out.1, HE.out.2]
      exact HO3.out
    · have t1 : decide ((j : Int) < (m : Int)) = false := decide_eq_false (by omega)
      have t2 : decide (j < m) = false := decide_eq_false hjm
      have HE : Aside0 (ws.take 20 = ws.take j) := ⟨by
        have := HM.out.1
        rw [List.length_take] at this
        have h3 : j = m := by omega
        rw [h3, ← this]
        by_cases h20 : 20 ≤ ws.length
        · rw [Nat.min_eq_left h20]
        · rw [Nat.min_eq_right (by omega), List.take_of_length_le (by omega), List.take_of_length_le (Nat.le_refl _)]⟩
      clear hjm hj
      go_wp2_with fail
      go_ret
      exact ⟨⟨_, rfl, by rw [HE.out, HL0.out]; exact HO.out⟩, HB.out⟩
end Go.Proofs.Ytimnohaalccdkaa.G33u
