/- Plain functions of the codings (chapter 08): number codes, codes of blocks, pictures; their lengths. -/
import Derived.Test.YtmbdjajmiggiaaaDoorO08
namespace Go.Proofs.YtmbdjajmiggiaaaDoor.L08
open Go.Proofs.YtmbdjajmiggiaaaDoor.K08 Go.Proofs.YtmbdjajmiggiaaaDoor.G08 Go.Proofs.YtmbdjajmiggiaaaDoor.G08f Go.Proofs.YtmbdjajmiggiaaaDoor.Z08 Go.Proofs.YtmbdjajmiggiaaaDoor.O08
open Go.RowKit Go.Proofs.YtmbdjajmiggiaaaDoorW.PrintWords Go.Proofs.YtmbdjajmiggiaaaDoorW.PrintLast Go.Proofs.YtmbdjajmiggiaaaDoorW.PrintMore
set_option linter.unusedVariables false
def zig (v : Int) : Int := if v < 0 then -2 * v - 1 else 2 * v
/-- The digits in base 128, at most k + 1 of them. -/
def digs : Nat → Int → List Int
  | 0, u => [u]
  | k + 1, u => if u < 128 then [u] else (u % 128 + 128) :: digs k (u / 128)
def bnd : Nat → Int
  | 0 => 128
  | k + 1 => 128 * bnd k
theorem digs_len : ∀ (k : Nat) (u : Int), (digs k u).length ≤ k + 1
  | 0, u => by simp [digs]
  | k + 1, u => by
    unfold digs
    split
    · simp
    · have := digs_len k (u / 128); simp only [List.length_cons]; omega
theorem digs_ne : ∀ (k : Nat) (u : Int), 0 < (digs k u).length
  | 0, u => by simp [digs]
  | k + 1, u => by unfold digs; split <;> simp
theorem digs_range : ∀ (k : Nat) (u : Int), 0 ≤ u → u < bnd k → ∀ d ∈ digs k u, 0 ≤ d ∧ d ≤ 255
  | 0, u, h0, h1, d, hd => by simp [digs, bnd] at *; omega
  | k + 1, u, h0, h1, d, hd => by
    unfold digs at hd
    split at hd
    · simp at hd; omega
    · rcases List.mem_cons.1 hd with rfl | hd
      · omega
      · exact digs_range k (u / 128) (by omega) (by unfold bnd at h1; omega) d hd
def numR (v : Int) : List Int := digs 2 (zig v)
/-- The quantized coefficients in zigzag order. -/
def qnt (y : List Int) (q : Int) : List Int := (zz 15).map fun p => (2 * y.getD (8 * p.1 + p.2) 0 + q) / (2 * q)
theorem qnt_len (y : List Int) (q : Int) : (qnt y q).length = 64 := by simp [qnt, zz15_len]
theorem zAt_lt : ∀ k, k < 64 → (zAt k).1 < 8 ∧ (zAt k).2 < 8 := by decide +kernel
theorem order_at : ∀ k, k < 64 → orderL.getD k 0 = ((8 * (zAt k).1 + (zAt k).2 : Nat) : Int) := by decide +kernel
theorem orderL_len : orderL.length = 64 := plc_len _ (Nat.le_of_eq zz15_len)
theorem qnt_at (y : List Int) (q : Int) (k : Nat) (hk : k < 64) : (qnt y q).getD k 0 = (2 * y.getD (8 * (zAt k).1 + (zAt k).2) 0 + q) / (2 * q) := by
  have e : zAt k = (zz 15)[k]'(by rw [zz15_len]; exact hk) := by
    unfold zAt
    rw [List.getD_eq_getElem?_getD, List.getElem?_eq_getElem (by rw [zz15_len]; exact hk)]
    rfl
  rw [e]
  unfold qnt
  rw [List.getD_eq_getElem?_getD, List.getElem?_map, List.getElem?_eq_getElem (by rw [zz15_len]; exact hk)]
  rfl
def blkC : List Int → Nat → List Int
  | [], _ => [64]
  | v :: vs, z => if v = 0 then blkC vs (z + 1) else (z : Int) :: (numR v ++ blkC vs 0)
theorem blkC_len : ∀ (vs : List Int) (z : Nat), (blkC vs z).length ≤ 4 * vs.length + 1
  | [], z => by simp [blkC]
  | v :: vs, z => by
    unfold blkC
    split
    · have := blkC_len vs (z + 1); simp only [List.length_cons]; omega
    · have := blkC_len vs 0
      have := digs_len 2 (zig v)
      simp only [List.length_cons, List.length_append, numR]
      omega
def codeL (b : List Int) (q : Int) : List Int := blkC (qnt (fwdL b) q) 0
theorem codeL_len (b : List Int) (q : Int) : (codeL b q).length ≤ 257 := by
  have := blkC_len (qnt (fwdL b) q) 0
  rw [qnt_len] at this
  exact this
theorem fwdL_len (b : List Int) : (fwdL b).length = 64 := blk8_len _
/-- The coefficients of samples. -/
theorem fwdL_bd (b : List Int) (hb : b.length = 64) (h : ∀ x ∈ b, -128 ≤ x ∧ x ≤ 128) (k : Nat) (hk : k < 64) : -373248 ≤ (fwdL b).getD k 0 ∧ (fwdL b).getD k 0 ≤ 373248 := by
  rw [fwdL_eq, blk8_get _ _ hk, outF_eq _ _ _ (by omega) (by omega)]
  have := fwd_bd (fun k => b.getD k 0) 128 (by omega) (fun k hk => getD_all h k (by omega)) (k / 8) (k % 8) (by omega) (by omega)
  omega
theorem quo_bd (y q m : Int) (hq : 1 ≤ q) (h1 : -m ≤ y) (h2 : y ≤ m) (hm : 0 ≤ m) : -(m + 1) ≤ (2 * y + q) / (2 * q) ∧ (2 * y + q) / (2 * q) ≤ m + 1 := by
  have h0 : 0 < 2 * q := by omega
  have hmq : m + 1 ≤ (m + 1) * q := by
    have := Int.mul_le_mul_of_nonneg_left hq (show 0 ≤ m + 1 by omega)
    omega
  constructor
  · refine (Int.le_ediv_iff_mul_le h0).2 ?_
    have e : -(m + 1) * (2 * q) = -(2 * ((m + 1) * q)) := by rw [Int.neg_mul, Int.mul_left_comm]
    omega
  · refine Int.le_of_lt_add_one ((Int.ediv_lt_iff_lt_mul h0).2 ?_)
    have e : (m + 1 + 1) * (2 * q) = 2 * ((m + 1) * q) + 2 * q := by rw [Int.add_mul, Int.mul_left_comm, Int.one_mul]
    omega
theorem qnt_bd (b : List Int) (hb : b.length = 64) (h : ∀ x ∈ b, -128 ≤ x ∧ x ≤ 128) (q : Int) (hq : 1 ≤ q) (k : Nat) (hk : k < 64) : -373249 ≤ (qnt (fwdL b) q).getD k 0 ∧ (qnt (fwdL b) q).getD k 0 ≤ 373249 := by
  rw [qnt_at _ _ _ hk]
  have hz := zAt_lt k hk
  have := fwdL_bd b hb h (8 * (zAt k).1 + (zAt k).2) (by omega)
  exact quo_bd _ q 373248 hq this.1 this.2 (by omega)
theorem zig_bd {v m : Int} (h1 : -m ≤ v) (h2 : v ≤ m) : 0 ≤ zig v ∧ zig v ≤ 2 * m := by unfold zig; split <;> omega
/-- A block of a picture. -/
def bAt (s : ByteArray) (k : Nat) : Int := (bytesOf s).getD k 0
def encB (s : ByteArray) (w h i j : Nat) : List Int := (List.range 64).map fun k => bAt s (w * min (8 * i + k / 8) (h - 1) + min (8 * j + k % 8) (w - 1)) - 128
theorem encB_len (s : ByteArray) (w h i j : Nat) : (encB s w h i j).length = 64 := by simp [encB]
theorem bAt_bd (s : ByteArray) (k : Nat) : 0 ≤ bAt s k ∧ bAt s k ≤ 255 := by
  unfold bAt
  rw [List.getD_eq_getElem?_getD]
  rcases Nat.lt_or_ge k (bytesOf s).length with h | h
  · rw [List.getElem?_eq_getElem h]
    simp only [bytesOf, List.getElem_map, Option.getD_some]
    have := (s.data.toList[k]'(by simpa [bytesOf] using h)).toNat_lt
    omega
  · rw [List.getElem?_eq_none h]; simp
theorem encB_bd (s : ByteArray) (w h i j : Nat) : ∀ x ∈ encB s w h i j, -128 ≤ x ∧ x ≤ 128 := by
  intro x hx
  unfold encB at hx
  obtain ⟨k, _, rfl⟩ := List.mem_map.1 hx
  have := bAt_bd s (w * min (8 * i + k / 8) (h - 1) + min (8 * j + k % 8) (w - 1))
  omega
def nb (w : Nat) : Nat := (w + 7) / 8
def encRow (s : ByteArray) (w h : Nat) (q : Int) (i n : Nat) : List Int := (List.range n).flatMap fun j => codeL (encB s w h i j) q
def encAll (s : ByteArray) (w h : Nat) (q : Int) (m : Nat) : List Int := (List.range m).flatMap fun i => encRow s w h q i (nb w)
theorem encRow_succ (s : ByteArray) (w h : Nat) (q : Int) (i n : Nat) : encRow s w h q i (n + 1) = encRow s w h q i n ++ codeL (encB s w h i n) q := by
  unfold encRow
  rw [List.range_succ, List.flatMap_append]
  simp
theorem encAll_succ (s : ByteArray) (w h : Nat) (q : Int) (m : Nat) : encAll s w h q (m + 1) = encAll s w h q m ++ encRow s w h q m (nb w) := by
  unfold encAll
  rw [List.range_succ, List.flatMap_append]
  simp
theorem encRow_len (s : ByteArray) (w h : Nat) (q : Int) (i : Nat) : ∀ n, (encRow s w h q i n).length ≤ 257 * n
  | 0 => by simp [encRow]
  | n + 1 => by rw [encRow_succ, List.length_append]; have := encRow_len s w h q i n; have := codeL_len (encB s w h i n) q; omega
theorem encAll_len (s : ByteArray) (w h : Nat) (q : Int) (hw : w ≤ 128) : ∀ m, (encAll s w h q m).length ≤ 4112 * m
  | 0 => by simp [encAll]
  | m + 1 => by
    rw [encAll_succ, List.length_append]
    have := encAll_len s w h q hw m
    have := encRow_len s w h q m (nb w)
    have : nb w ≤ 16 := by unfold nb; omega
    omega
def okArgs (w h q : Int) : Bool := decide (1 ≤ w ∧ w ≤ 128 ∧ 1 ≤ h ∧ h ≤ 128 ∧ 1 ≤ q ∧ q ≤ 255)
/-- What sized answers. -/
def sizes (n : Nat) (w h q : Int) : Int := if n > 65536 then 3 else if okArgs w h q then 0 else 2
def encRes (s : ByteArray) (w h q : Int) : ByteArray × Int :=
  if sizes s.size w h q ≠ 0 then (⟨#[]⟩, sizes s.size w h q)
  else if (s.size : Int) ≠ w * h then (⟨#[]⟩, 180)
  else if (encAll s w.toNat h.toNat q (nb h.toNat)).length > 65536 then (⟨#[]⟩, 3)
  else (strOfNums (encAll s w.toNat h.toNat q (nb h.toNat)), 0)
end Go.Proofs.YtmbdjajmiggiaaaDoor.L08
