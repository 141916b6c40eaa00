/- The reference of chapter 02 answers as the plain functions: base 85. -/
import Derived.Test.YtkfhpajnlaomeaaR02
namespace Go.Proofs.Ytkfhpajnlaomeaa.R02b
open Go.RowKit Go.Proofs.YtkfhpajnlaomeaaW.PrintWords Go.Proofs.YtkfhpajnlaomeaaW.PrintLast Go.Proofs.YtkfhpajnlaomeaaW.PrintMore
open Go.Proofs.Ytkfhpajnlaomeaa.K02 Go.Proofs.Ytkfhpajnlaomeaa.L02 Go.Proofs.Ytkfhpajnlaomeaa.P02 Go.Proofs.Ytkfhpajnlaomeaa.R02
open Go.Proofs.Ytkfhpajnlaomeaa.G02b (five_range num_zero g4 pad)
set_option linter.unusedVariables false
set_option maxRecDepth 100000
/-- The number of at most four octets. -/
theorem number_step (k : Nat) (x : ByteArray) (n : Int) (i : Nat) (hi : i < 4) (h0 : 0 ≤ n) (h1 : n < 4294967296) :
    chaseref02_number.l0 (k + 1) x n i = chaseref02_number.l0 k x (n * 256 + (bytesOf x).getD i 0) ((i + 1 : Nat) : Int) := by
  have hr := bt_r x (i : Int)
  have hb := bt_getD x i
  have e1 := w64 (n * 256) (by omega) (by omega)
  have e4 := w64 ((i : Int) + 1) (by omega) (by omega)
  rw [chaseref02_number.l0, if_pos (show (i : Int) < 4 by omega), e1, e4]
  by_cases h : i < x.size
  · have e2 := w64 (bt x (i : Int)) (by omega) (by omega)
    have e3 := w64 (n * 256 + bt x (i : Int)) (by omega) (by omega)
    rw [if_pos (show (i : Int) < (x.size : Int) by omega), if_pos (show (0 : Int) ≤ (i : Int) by omega), e2, e3, hb]
    rfl
  · rw [if_neg (show ¬ (i : Int) < (x.size : Int) by omega)]
    have : (bytesOf x).getD i 0 = 0 := by rw [List.getD_eq_getElem?_getD, List.getElem?_eq_none (by rw [bytesOf_len]; omega)]; rfl
    rw [this, Int.add_zero]
    rfl
theorem getD_r (x : ByteArray) (i : Nat) : 0 ≤ (bytesOf x).getD i 0 ∧ (bytesOf x).getD i 0 < 256 := by
  have := bt_r x (i : Int)
  rw [bt_getD] at this
  omega
theorem number_eq (x : ByteArray) : chaseref02_number.f 5 x = some (num256 [(bytesOf x).getD 0 0, (bytesOf x).getD 1 0, (bytesOf x).getD 2 0, (bytesOf x).getD 3 0]) := by
  have r0 := getD_r x 0
  have r1 := getD_r x 1
  have r2 := getD_r x 2
  have r3 := getD_r x 3
  unfold chaseref02_number.f
  have s0 := number_step 4 x 0 0 (by omega) (by omega) (by omega)
  have s1 := number_step 3 x (0 * 256 + (bytesOf x).getD 0 0) 1 (by omega) (by omega) (by omega)
  have s2 := number_step 2 x ((0 * 256 + (bytesOf x).getD 0 0) * 256 + (bytesOf x).getD 1 0) 2 (by omega) (by omega) (by omega)
  have s3 := number_step 1 x (((0 * 256 + (bytesOf x).getD 0 0) * 256 + (bytesOf x).getD 1 0) * 256 + (bytesOf x).getD 2 0) 3 (by omega) (by omega) (by omega)
  have z : ((0 : Nat) : Int) = 0 := rfl
  rw [z] at s0
  rw [s0, s1, s2, s3, chaseref02_number.l0, if_neg (by omega)]
  rfl
theorem number_up (x : ByteArray) (r : Int) (h : chaseref02_number.f 5 x = some r) (m : Nat) : chaseref02_number.f (5 + m) x = some r := by
  induction m with
  | zero => exact h
  | succ m ih => exact chaseref02_number.mono x (5 + m) _ ih
theorem five_step (k : Nat) (n : Int) (x : ByteArray) (i : Nat) (hi : i < 5) (h0 : 0 ≤ n) (h1 : n < 4294967296) (hx : x.size ≤ 100) :
    chaseref02_five.l0 (k + 1) n x i = chaseref02_five.l0 k (n / 85) (strOfNums [33 + n % 85] ++ x) ((i + 1 : Nat) : Int) := by
  have d1 : Int.tmod n 85 = n % 85 := Int.tmod_eq_emod_of_nonneg h0
  have d2 : Int.tdiv n 85 = n / 85 := Int.tdiv_eq_ediv_of_nonneg h0
  have e1 := w64 (33 + n % 85) (by omega) (by omega)
  have e2 := w64 (n / 85) (by omega) (by omega)
  have e4 := w64 ((i : Int) + 1) (by omega) (by omega)
  rw [chaseref02_five.l0, if_pos (show (i : Int) < 5 by omega), d1, d2, e1, e2, e4]
  rw [show (33 + n % 85) % 256 = 33 + n % 85 by omega]
  simp only [Option.bind_some]
  have hz : (strOfNums [33 + n % 85]).size = 1 := strOf_size _
  rw [if_pos (by omega)]
  rfl
theorem five_eq (n : Int) (h0 : 0 ≤ n) (h1 : n < 4294967296) : ∃ r, chaseref02_five.f 6 n = some r ∧ bytesOf r = five n := by
  unfold chaseref02_five.f
  have s0 := five_step 5 n ⟨#[]⟩ 0 (by omega) h0 h1 (by decide)
  have q1 : ∀ (a : Int) (x : ByteArray), (strOfNums [a] ++ x).size = x.size + 1 := fun a x => by rw [ByteArray.size_append, strOf_size]; simp; omega
  have z0 : (⟨#[]⟩ : ByteArray).size = 0 := rfl
  obtain ⟨x1, e1⟩ : ∃ x1, strOfNums [33 + n % 85] ++ (⟨#[]⟩ : ByteArray) = x1 := ⟨_, rfl⟩
  have z1 : x1.size = 1 := by rw [← e1, q1]; rfl
  rw [e1] at s0
  have s1 := five_step 4 (n / 85) x1 1 (by omega) (by omega) (by omega) (by omega)
  obtain ⟨x2, e2⟩ : ∃ x2, strOfNums [33 + n / 85 % 85] ++ x1 = x2 := ⟨_, rfl⟩
  have z2 : x2.size = 2 := by rw [← e2, q1, z1]
  rw [e2] at s1
  have s2 := five_step 3 (n / 85 / 85) x2 2 (by omega) (by omega) (by omega) (by omega)
  obtain ⟨x3, e3⟩ : ∃ x3, strOfNums [33 + n / 85 / 85 % 85] ++ x2 = x3 := ⟨_, rfl⟩
  have z3 : x3.size = 3 := by rw [← e3, q1, z2]
  rw [e3] at s2
  have s3 := five_step 2 (n / 85 / 85 / 85) x3 3 (by omega) (by omega) (by omega) (by omega)
  obtain ⟨x4, e4⟩ : ∃ x4, strOfNums [33 + n / 85 / 85 / 85 % 85] ++ x3 = x4 := ⟨_, rfl⟩
  have z4 : x4.size = 4 := by rw [← e4, q1, z3]
  rw [e4] at s3
  have s4 := five_step 1 (n / 85 / 85 / 85 / 85) x4 4 (by omega) (by omega) (by omega) (by omega)
  have z : ((0 : Nat) : Int) = 0 := rfl
  rw [z] at s0
  refine ⟨strOfNums [33 + n / 85 / 85 / 85 / 85 % 85] ++ x4, ?_, ?_⟩
  · rw [s0, s1, s2, s3, s4, chaseref02_five.l0, if_neg (by omega)]
  · have rr : ∀ a : Int, bytesOf (strOfNums [33 + a % 85]) = [33 + a % 85] := fun a => bytesOf_strOf _ (fun b hb => by rw [List.mem_singleton.1 hb]; omega)
    rw [bytesOf_append, rr, ← e4, bytesOf_append, rr, ← e3, bytesOf_append, rr, ← e2, bytesOf_append, rr, ← e1, bytesOf_append, rr]
    unfold five
    have : n / 85 / 85 / 85 / 85 % 85 = n / 52200625 ∧ n / 85 / 85 / 85 % 85 = n / 614125 % 85 ∧ n / 85 / 85 % 85 = n / 7225 % 85 := by omega
    rw [this.1, this.2.1, this.2.2]
    rfl
theorem five_up (n : Int) (r : ByteArray) (h : chaseref02_five.f 6 n = some r) (m : Nat) : chaseref02_five.f (6 + m) n = some r := by
  induction m with
  | zero => exact h
  | succ m ih => exact chaseref02_five.mono n (6 + m) _ ih
end Go.Proofs.Ytkfhpajnlaomeaa.R02b
