/- The two encodings as plain functions on lists of octets; no program in sight. -/
import Derived.Test.YtkfhpajnlaomeaaWMore
namespace Go.Proofs.Ytkfhpajnlaomeaa.K02
open Go.RowKit Go.Proofs.YtkfhpajnlaomeaaW.PrintWords Go.Proofs.YtkfhpajnlaomeaaW.PrintLast Go.Proofs.YtkfhpajnlaomeaaW.PrintMore
set_option linter.unusedVariables false
set_option maxRecDepth 100000
/-! ### Octets and strings -/
theorem bytesOf_inj {a b : ByteArray} (h : bytesOf a = bytesOf b) : a = b := by
  unfold bytesOf at h
  have h2 : a.data.toList = b.data.toList := List.map_inj_right (fun x y hxy => by
    have : x.toNat = y.toNat := by omega
    exact UInt8.toNat_inj.1 this) |>.1 h
  cases a
  cases b
  simp only at h2
  congr
  exact Array.toList_inj.1 h2
theorem data_len (s : ByteArray) : s.data.toList.length = s.size := rfl
theorem bytesOf_len (s : ByteArray) : (bytesOf s).length = s.size := by unfold bytesOf; simp
theorem bytesOf_range (s : ByteArray) : ∀ b ∈ bytesOf s, 0 ≤ b ∧ b < 256 := by
  intro b hb
  unfold bytesOf at hb
  rw [List.mem_map] at hb
  obtain ⟨x, _, rfl⟩ := hb
  have := x.toNat_lt
  omega
theorem bytesOf_strOf (r : List Int) (h : ∀ b ∈ r, 0 ≤ b ∧ b < 256) : bytesOf (strOfNums r) = r := by
  unfold bytesOf strOfNums
  simp only [List.map_map]
  refine (List.map_congr_left (fun x hx => ?_)).trans (List.map_id r)
  have := h x hx
  simp
  omega
theorem strOf_bytesOf (s : ByteArray) : strOfNums (bytesOf s) = s := bytesOf_inj (bytesOf_strOf _ (bytesOf_range s))
theorem bytesOf_append (a b : ByteArray) : bytesOf (a ++ b) = bytesOf a ++ bytesOf b := by
  unfold bytesOf
  simp
theorem strOf_size (r : List Int) : (strOfNums r).size = r.length := by
  unfold strOfNums
  simp [ByteArray.size]
theorem bytesOf_extract (s : ByteArray) (i j : Nat) : bytesOf (s.extract i j) = ((bytesOf s).drop i).take (j - i) := by
  unfold bytesOf
  simp [List.map_drop, List.map_take]
/-! ### White space, digits -/
def blankC (c : Int) : Bool := c == 0 || c == 9 || c == 10 || c == 12 || c == 13 || c == 32
/-- What is left of a list without white space, each octet with its index. -/
def sol : List Int → Nat → List (Nat × Int)
  | [], _ => []
  | c :: r, i => if blankC c then sol r (i + 1) else (i, c) :: sol r (i + 1)
/-- A decoder that takes octet by octet: none: malformed; true: at its end. -/
def rd {σ : Type} (take : σ → Int → Option (σ × Bool)) : List (Nat × Int) → σ → Option (σ × Nat)
  | [], _ => none
  | (i, c) :: r, s => match take s c with
    | none => none
    | some (s', true) => some (s', i + 1)
    | some (s', false) => rd take r s'
/-- The state after octets at all of which the text goes on. -/
def go {σ : Type} (take : σ → Int → Option (σ × Bool)) : List (Nat × Int) → σ → Option σ
  | [], s => some s
  | (i, c) :: r, s => match take s c with
    | some (s', false) => go take r s'
    | _ => none
theorem go_snoc {σ : Type} (take : σ → Int → Option (σ × Bool)) (x : Nat × Int) : ∀ (l : List (Nat × Int)) (s s' : σ), go take l s = some s' → go take (l ++ [x]) s = (match take s' x.2 with | some (s'', false) => some s'' | _ => none)
  | [], s, s', h => by
    cases h
    obtain ⟨i, c⟩ := x
    show (match take s c with | some (s', false) => go take [] s' | _ => none) = _
    rfl
  | (i, c) :: r, s, s', h => by
    unfold go at h
    show (match take s c with | some (s', false) => go take (r ++ [x]) s' | _ => none) = _
    cases ht : take s c with
    | none => rw [ht] at h; cases h
    | some q =>
      obtain ⟨s1, b⟩ := q
      cases b with
      | true => rw [ht] at h; cases h
      | false => rw [ht] at h; exact go_snoc take x r s1 s' h
theorem rd_go {σ : Type} (take : σ → Int → Option (σ × Bool)) : ∀ (l m : List (Nat × Int)) (s s' : σ), go take l s = some s' → rd take (l ++ m) s = rd take m s'
  | [], m, s, s', h => by cases h; rfl
  | (i, c) :: r, m, s, s', h => by
    unfold go at h
    show (match take s c with | none => none | some (s', true) => some (s', i + 1) | some (s', false) => rd take (r ++ m) s') = _
    cases ht : take s c with
    | none => rw [ht] at h; cases h
    | some q =>
      obtain ⟨s1, b⟩ := q
      cases b with
      | true => rw [ht] at h; cases h
      | false => rw [ht] at h; exact rd_go take r m s1 s' h
def bnd (l : List Int) : ByteArray × Int := if l.length > 65536 then (⟨#[]⟩, 3) else (strOfNums l, 0)
def fin (r : Option (List Int × Nat)) : ByteArray × Int × Int :=
  match r with
  | none => (⟨#[]⟩, 0, 5)
  | some (out, i) => if out.length > 65536 then (⟨#[]⟩, 0, 3) else (strOfNums out, i, 0)
/-! ### Hexadecimal digits -/
def dg (n : Int) : Int := if n < 10 then 48 + n else 55 + n
def hexL (l : List Int) : List Int := l.flatMap (fun b => [dg (b / 16), dg (b % 16)])
def hexRes (s : ByteArray) : ByteArray × Int := if (s.size : Int) > 65536 then (⟨#[]⟩, 3) else bnd (hexL (bytesOf s) ++ [62])
def nib (c : Int) : Int := if 48 ≤ c ∧ c ≤ 57 then c - 48 else if 65 ≤ c ∧ c ≤ 70 then c - 55 else if 97 ≤ c ∧ c ≤ 102 then c - 87 else -1
structure Half where
  high : Int
  odd : Bool
  out : List Int
def takeH (h : Half) (c : Int) : Option (Half × Bool) :=
  if c = 62 then some (⟨h.high, h.odd, if h.odd then h.out ++ [h.high * 16] else h.out⟩, true)
  else if nib c < 0 then none
  else if h.odd then some (⟨nib c, false, h.out ++ [h.high * 16 + nib c]⟩, false)
  else some (⟨nib c, true, h.out⟩, false)
def unhexRes (s : ByteArray) : ByteArray × Int × Int :=
  if (s.size : Int) > 65536 then (⟨#[]⟩, 0, 3) else fin ((rd takeH (sol (bytesOf s) 0) ⟨0, false, []⟩).map (fun q => (q.1.out, q.2)))
/-! ### Base 85 -/
def val85 (l : List Int) : Int := l.foldl (fun n c => n * 85 + (c - 33)) 0
def num256 (l : List Int) : Int := l.foldl (fun n b => n * 256 + b) 0
def five (n : Int) : List Int := [33 + n / 52200625, 33 + n / 614125 % 85, 33 + n / 7225 % 85, 33 + n / 85 % 85, 33 + n % 85]
def four (n : Int) : List Int := [n / 16777216 % 256, n / 65536 % 256, n / 256 % 256, n % 256]
/-- The text of at most four octets. -/
def spread (g : List Int) : List Int :=
  if g.length = 4 ∧ num256 g = 0 then [122] else (five (num256 (g ++ List.replicate (4 - g.length) 0))).take (g.length + 1)
def b85 : Nat → List Int → List Int
  | 0, _ => []
  | k + 1, l => if l = [] then [] else spread (l.take 4) ++ b85 k (l.drop 4)
def b85Res (s : ByteArray) : ByteArray × Int := if (s.size : Int) > 65536 then (⟨#[]⟩, 3) else bnd (b85 (s.size + 1) (bytesOf s) ++ [126, 62])
structure Tens where
  part : List Int
  last : Bool
  out : List Int
def close (t : Tens) : Option (Tens × Bool) :=
  if t.part.length = 1 then none
  else if 1 < t.part.length then
    let v := val85 (t.part ++ List.replicate (5 - t.part.length) 117)
    if v < 4294967296 then some (⟨t.part, t.last, t.out ++ (four v).take (t.part.length - 1)⟩, true) else none
  else some (t, true)
def takeT (t : Tens) (c : Int) : Option (Tens × Bool) :=
  if t.last then (if c = 62 then close t else none)
  else if c = 126 then some (⟨t.part, true, t.out⟩, false)
  else if c = 122 then (if 0 < t.part.length then none else some (⟨t.part, t.last, t.out ++ [0, 0, 0, 0]⟩, false))
  else if c < 33 ∨ 117 < c then none
  else if t.part.length = 4 then
    (if val85 (t.part ++ [c]) < 4294967296 then some (⟨[], t.last, t.out ++ four (val85 (t.part ++ [c]))⟩, false) else none)
  else some (⟨t.part ++ [c], t.last, t.out⟩, false)
def unb85Res (s : ByteArray) : ByteArray × Int × Int :=
  if (s.size : Int) > 65536 then (⟨#[]⟩, 0, 3) else fin ((rd takeT (sol (bytesOf s) 0) ⟨[], false, []⟩).map (fun q => (q.1.out, q.2)))
/-! ### The examples -/
theorem x1 : hexRes ⟨#[0, 255, 16]⟩ = (⟨#[48, 48, 70, 70, 49, 48, 62]⟩, 0) := by decide +kernel
theorem x2 : b85Res ⟨#[77, 97, 110, 32]⟩ = (⟨#[57, 106, 113, 111, 94, 126, 62]⟩, 0) := by decide +kernel
theorem x3 : unb85Res ⟨#[57, 106, 113, 111, 94, 32, 122, 126, 32, 62, 46]⟩ = (⟨#[77, 97, 110, 32, 0, 0, 0, 0]⟩, 10, 0) := by decide +kernel
theorem x4 : unhexRes ⟨#[52, 97, 32, 52, 66, 53, 62, 120]⟩ = (⟨#[74, 75, 80]⟩, 7, 0) := by decide +kernel
end Go.Proofs.Ytkfhpajnlaomeaa.K02
