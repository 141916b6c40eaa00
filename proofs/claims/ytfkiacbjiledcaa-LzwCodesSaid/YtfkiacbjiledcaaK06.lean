/- Codes of variable width as plain functions on lists of octets (chapter 06); no program in sight. -/
import Derived.Test.YtfkiacbjiledcaaWMore
namespace Go.Proofs.Ytfkiacbjiledcaa.K06
open Go.RowKit Go.Proofs.YtfkiacbjiledcaaW.PrintWords Go.Proofs.YtfkiacbjiledcaaW.PrintLast Go.Proofs.YtfkiacbjiledcaaW.PrintMore
set_option linter.unusedVariables false
set_option maxRecDepth 100000
/-! ### Octets and strings -/
theorem bytesOf_inj {a b : ByteArray} (h : bytesOf a = bytesOf b) : a = b := by
  unfold bytesOf at h
  have h2 : a.data.toList = b.data.toList := List.map_inj_right (fun x y hxy => by
    have : x.toNat = y.toNat := by omega
    exact UInt8.toNat_inj.1 this) |>.1 h
  cases a
  cases b
  simp only at h2
  congr
  exact Array.toList_inj.1 h2
theorem data_len (s : ByteArray) : s.data.toList.length = s.size := rfl
theorem bytesOf_len (s : ByteArray) : (bytesOf s).length = s.size := by unfold bytesOf; simp
def Oct (l : List Int) : Prop := ∀ b ∈ l, 0 ≤ b ∧ b < 256
theorem bytesOf_range (s : ByteArray) : Oct (bytesOf s) := by
  intro b hb
  unfold bytesOf at hb
  rw [List.mem_map] at hb
  obtain ⟨x, _, rfl⟩ := hb
  have := x.toNat_lt
  omega
theorem bytesOf_strOf (r : List Int) (h : Oct r) : bytesOf (strOfNums r) = r := by
  unfold bytesOf strOfNums
  simp only [List.map_map]
  refine (List.map_congr_left (fun x hx => ?_)).trans (List.map_id r)
  have := h x hx
  simp
  omega
theorem strOf_bytesOf (s : ByteArray) : strOfNums (bytesOf s) = s := bytesOf_inj (bytesOf_strOf _ (bytesOf_range s))
theorem bytesOf_append (a b : ByteArray) : bytesOf (a ++ b) = bytesOf a ++ bytesOf b := by
  unfold bytesOf
  simp
theorem strOf_size (r : List Int) : (strOfNums r).size = r.length := by
  unfold strOfNums
  simp [ByteArray.size]
theorem bytesOf_extract (s : ByteArray) (i j : Nat) : bytesOf (s.extract i j) = ((bytesOf s).drop i).take (j - i) := by
  unfold bytesOf
  simp [List.map_drop, List.map_take]
theorem Oct.app {a b : List Int} (h : Oct a) (k : Oct b) : Oct (a ++ b) := fun x hx => (List.mem_append.1 hx).elim (h x) (k x)
theorem Oct.one {x : Int} (h : 0 ≤ x) (k : x < 256) : Oct [x] := fun y hy => by rw [List.mem_singleton] at hy; subst hy; exact ⟨h, k⟩
theorem Oct.drop {a : List Int} (h : Oct a) (n : Nat) : Oct (a.drop n) := fun x hx => h x (List.mem_of_mem_drop hx)
theorem Oct.take {a : List Int} (h : Oct a) (n : Nat) : Oct (a.take n) := fun x hx => h x (List.mem_of_mem_take hx)
/-! ### Widths -/
/-- The width of code number j; 0: there can be none. -/
def wd (j : Nat) : Nat := if 258 + j ≤ 512 then 9 else if 258 + j ≤ 1024 then 10 else if 258 + j ≤ 2048 then 11 else if 258 + j ≤ 4096 then 12 else 0
def nextJ (j c : Nat) : Nat := if c = 256 then 0 else j + 1
theorem wd_le (j : Nat) : wd j ≤ 12 := by unfold wd; repeat' split
                                          all_goals omega
theorem wd_ge {j : Nat} (h : wd j ≠ 0) : 9 ≤ wd j := by revert h; unfold wd; repeat' split
                                                        all_goals omega
theorem wd_pos {j : Nat} (h : j ≤ 3838) : 9 ≤ wd j := by unfold wd; repeat' split
                                                         all_goals omega
theorem wd_fits {j c : Nat} (h : j ≤ 3838) (hc : c ≤ 257 + j) : c < 2 ^ wd j := by
  unfold wd
  repeat' split
  all_goals first | omega | (simp; omega)
/-! ### The writer -/
structure Wr where
  j : Nat
  out : List Int
  bits : Nat
  held : Nat
def flushN : Nat → List Int → Nat → Nat → List Int × Nat × Nat
  | 0, out, bits, held => (out, bits, held)
  | f + 1, out, bits, held => if held < 8 then (out, bits, held) else flushN f (out ++ [((bits / 2 ^ (held - 8) % 256 : Nat) : Int)]) (bits % 2 ^ (held - 8)) (held - 8)
def putW (w : Wr) (c : Nat) : Wr :=
  ⟨nextJ w.j c, (flushN 3 w.out (w.bits * 2 ^ wd w.j + c) (w.held + wd w.j)).1, (flushN 3 w.out (w.bits * 2 ^ wd w.j + c) (w.held + wd w.j)).2.1, (flushN 3 w.out (w.bits * 2 ^ wd w.j + c) (w.held + wd w.j)).2.2⟩
def closeW (w : Wr) : List Int := if 0 < w.held then w.out ++ [((w.bits * 2 ^ (8 - w.held) % 256 : Nat) : Int)] else w.out
def W0 : Wr := ⟨0, [], 0, 0⟩
/-! ### The coder -/
def lookK (known : List (Nat × Int)) (p : Nat × Int) : Option Nat := (known.findIdx? (· == p)).map (258 + ·)
def ext (known : List (Nat × Int)) : Nat → List Int → Nat × List Int
  | code, [] => (code, [])
  | code, c :: r => match lookK known (code, c) with
    | none => (code, c :: r)
    | some d => ext known d r
def addK (known : List (Nat × Int)) (code : Nat) : List Int → List (Nat × Int)
  | [] => known
  | c :: _ => known ++ [(code, c)]
def enc : Nat → Nat → List (Nat × Int) → List Int → List Nat
  | 0, _, _, _ => [257]
  | _ + 1, _, _, [] => [257]
  | f + 1, j, known, c :: r =>
    if j = 3838 then 256 :: (ext [] c.toNat r).1 :: enc f 1 (addK [] (ext [] c.toNat r).1 (ext [] c.toNat r).2) (ext [] c.toNat r).2
    else (ext known c.toNat r).1 :: enc f (j + 1) (addK known (ext known c.toNat r).1 (ext known c.toNat r).2) (ext known c.toNat r).2
def encCodes (l : List Int) : List Nat := 256 :: enc l.length 0 [] l
def encOut (l : List Int) : List Int := closeW ((encCodes l).foldl putW W0)
/-- What Encode returns. -/
def encRes (s : ByteArray) : ByteArray × Int :=
  if 65536 < s.size then (⟨#[]⟩, 3) else if 65536 < (encOut (bytesOf s)).length then (⟨#[]⟩, 3) else (strOfNums (encOut (bytesOf s)), 0)
/-! ### The reader -/
structure Rs where
  at_ : Nat
  bits : Nat
  held : Nat
def fillN : Nat → List Int → Nat → Rs → Option Rs
  | 0, _, n, r => if n ≤ r.held then some r else none
  | f + 1, l, n, r => if n ≤ r.held then some r else match l[r.at_]? with
    | none => none
    | some c => fillN f l n ⟨r.at_ + 1, r.bits * 256 + c.toNat, r.held + 8⟩
def readR (l : List Int) (j : Nat) (r : Rs) : Option (Nat × Rs) :=
  if wd j = 0 then none else match fillN 2 l (wd j) r with
    | none => none
    | some q => some (q.bits / 2 ^ (q.held - wd j), ⟨q.at_, q.bits % 2 ^ (q.held - wd j), q.held - wd j⟩)
/-- A code with its number, and where the reader is behind it. -/
structure It where
  j : Nat
  code : Nat
  rs : Rs
def items : Nat → List Int → Nat → Rs → List It
  | 0, _, _, _ => []
  | f + 1, l, j, r => match readR l j r with
    | none => []
    | some (c, q) => ⟨j, c, q⟩ :: if c = 257 then [] else items f l (nextJ j c) q
/-! ### The decoder -/
structure Ds where
  known : List (Nat × Nat)
  last : Nat × Nat
  total : Nat
  out : List Int
def copyN : Nat → Nat → List Int → List Int
  | 0, _, out => out
  | n + 1, a, out => copyN n (a + 1) (out ++ [out.getD a 0])
/-- The strings that are known when code number j is read. -/
def kn (d : Ds) (j : Nat) : List (Nat × Nat) := if 0 < j then d.known ++ [(d.last.1, d.last.2 + 1)] else d.known
def longOf (kn : List (Nat × Nat)) (code : Nat) : Nat := if 256 < code then (kn.getD (code - 258) (0, 0)).2 else 1
def stepD (d : Ds) (j code : Nat) : Option Ds :=
  if code = 257 then none
  else if code = 256 then some ⟨[], d.last, d.total, d.out⟩
  else if 257 + j < code then none
  else if 65536 < d.total + longOf (kn d j) code then some ⟨kn d j, (d.total, longOf (kn d j) code), d.total + longOf (kn d j) code, d.out⟩
  else if code < 256 then some ⟨kn d j, (d.total, longOf (kn d j) code), d.total + longOf (kn d j) code, d.out ++ [(code : Int)]⟩
  else some ⟨kn d j, (d.total, longOf (kn d j) code), d.total + longOf (kn d j) code, copyN (longOf (kn d j) code) ((kn d j).getD (code - 258) (0, 0)).1 d.out⟩
def D0 : Ds := ⟨[], (0, 0), 0, []⟩
/-- The octets, their number, whether the codes are right, and where they end. -/
def expandR : List It → Ds → List Int × Nat × Bool × Nat
  | [], d => (d.out, d.total, false, 0)
  | x :: r, d => match stepD d x.j x.code with
    | none => (d.out, d.total, (x.code == 257 && x.rs.bits == 0), x.rs.at_)
    | some d' => expandR r d'
def expandL (l : List Int) : List Int × Nat × Bool × Nat := expandR (items (l.length + 1) l 0 ⟨0, 0, 0⟩) D0
/-- What Decode returns. -/
def decRes (s : ByteArray) : ByteArray × Int × Int :=
  if 65536 < s.size then (⟨#[]⟩, 0, 3)
  else if (expandL (bytesOf s)).2.2.1 = false then (⟨#[]⟩, 0, 5)
  else if 65536 < (expandL (bytesOf s)).2.1 then (⟨#[]⟩, 0, 3)
  else (strOfNums (expandL (bytesOf s)).1, (expandL (bytesOf s)).2.2.2, 0)
theorem ex1 : encOut [] = [128, 64, 64] := by decide +kernel
theorem ex2 : encOut [97, 97, 97, 97] = [128, 24, 96, 70, 24, 8] := by decide +kernel
theorem ex3 : expandL [128, 64, 64, 7] = ([], 0, true, 3) := by decide +kernel
theorem ex4 : expandL [128, 24, 96, 70, 24, 8] = ([97, 97, 97, 97], 4, true, 6) := by decide +kernel
theorem ex5 : (expandL [128, 64, 65]).2.2.1 = false := by decide +kernel
theorem ex6 : (expandL []).2.2.1 = false := by decide +kernel
end Go.Proofs.Ytfkiacbjiledcaa.K06
