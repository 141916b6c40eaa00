/- Laws of the codes of runs: the lengths of the codes of a run and of a string without runs; no program in sight. -/
import Derived.Test.YtbgndbehceajpaaL05
import Derived.Lib.Repeat
namespace Go.Proofs.Ytbgndbehceajpaa.L05k
open Go.RowKit Go.Proofs.YtbgndbehceajpaaW.PrintWords Go.Proofs.YtbgndbehceajpaaW.PrintLast Go.Proofs.YtbgndbehceajpaaW.PrintMore
open Go.Proofs.Ytbgndbehceajpaa.L05 Go.Proofs.Ytbgndbehceajpaa.G05e Go.Proofs.Ytbgndbehceajpaa.G05i Go.Proofs.Ytbgndbehceajpaa.G05x
set_option linter.unusedVariables false
set_option maxRecDepth 100000
theorem plain_parts_len (l : List Int) : ∀ k off n, n < k → off + n ≤ l.length → ((parts k off n).flatMap (rec1 l)).length = n + (n + 127) / 128 := by
  intro k
  induction k with
  | zero => intro off n h; omega
  | succ k ih =>
    intro off n hk hn
    by_cases h : 128 < n
    · have h2 := ih (off + 128) (n - 128) (by omega) (by omega)
      rw [parts_big k off n h, List.flatMap_cons]
      have hr : rec1 l (off, 128) = ((127 : Nat) : Int) :: (l.drop off).take 128 := by simp [rec1]
      have hl : ((l.drop off).take 128).length = 128 := by rw [List.length_take, List.length_drop]; omega
      rw [List.length_append, hr, List.length_cons, hl]; omega
    · rw [parts_small k off n h, List.flatMap_cons, List.flatMap_nil, List.append_nil]
      rcases Nat.eq_zero_or_pos n with h0 | h0
      · subst h0; simp [rec1]
      · have hl : ((l.drop off).take n).length = n := by rw [List.length_take, List.length_drop]; omega
        have hr : rec1 l (off, n) = ((n - 1 : Nat) : Int) :: (l.drop off).take n := by
          simp [rec1, h0]; omega
        rw [hr, List.length_cons, hl]; omega
theorem plain_len (l : List Int) : (plainL l).length = l.length + (l.length + 127) / 128 := plain_parts_len l (l.length + 1) 0 l.length (Nat.lt_succ_self _) (by omega)
/-- The pieces of one run. -/
theorem fold_run (l : List Int) (c : Int) (k : Nat) : ∀ off m O, 1 ≤ m → m < k → off + m ≤ l.length → (∀ j, off ≤ j → j < off + m → l.getD j 0 = c) →
    ∃ S R, (parts k off m).foldl (piece l) ([], O) = (S, O ++ R) ∧ R.length + (plainL S).length = 2 * ((m + 127) / 128) ∧ (2 ≤ m → ∃ R', R = (257 - (min m 128 : Nat) : Int) :: c :: R') := by
  induction k with
  | zero => intro off m O h1 h2; omega
  | succ k ih =>
    intro off m O h1 h2 h3 hc
    by_cases h : 128 < m
    · rw [parts_big k off m h, List.foldl_cons]
      have hp : piece l ([], O) (off, 128) = ([], O ++ [257 - ((128 : Nat) : Int), c]) := by
        unfold piece
        rw [if_neg (by decide : ¬ (128 : Nat) = 1)]
        simp only
        rw [hc off (Nat.le_refl _) (by omega)]
      rw [hp]
      obtain ⟨S, R, e1, e2, _⟩ := ih (off + 128) (m - 128) (O ++ [257 - ((128 : Nat) : Int), c]) (by omega) (by omega) (by omega) (fun j h1 h2 => hc j (by omega) (by omega))
      refine ⟨S, [257 - ((128 : Nat) : Int), c] ++ R, by rw [e1, List.append_assoc], by rw [List.length_append]; simp only [List.length_cons, List.length_nil]; omega, fun _ => ⟨R, ?_⟩⟩
      rw [show min m 128 = 128 from by omega]
      rfl
    · rw [parts_small k off m h, List.foldl_cons, List.foldl_nil]
      unfold piece
      by_cases hm : m = 1
      · subst hm
        rw [if_pos rfl]
        have hl : ((l.drop off).take 1).length = 1 := by rw [List.length_take, List.length_drop]; omega
        refine ⟨(l.drop off).take 1, [], by simp, ?_, fun h => absurd h (by omega)⟩
        rw [plain_len, hl]; rfl
      · rw [if_neg hm]
        simp only
        refine ⟨[], [257 - (m : Int), l.getD off 0], rfl, ?_, fun _ => ⟨[], ?_⟩⟩
        · rw [plain_len]; simp only [List.length_cons, List.length_nil]; omega
        · rw [show min m 128 = m from by omega, hc off (Nat.le_refl _) (by omega)]
theorem same_rep (c : Int) (n : Nat) (hn : 1 ≤ n) : same (List.replicate n c) 0 = n := by
  unfold same
  rw [List.drop_zero]
  have h0 : (List.replicate n c).getD 0 0 = c := by
    rw [List.getD_eq_getElem?_getD, List.getElem?_replicate, if_pos (by omega)]
    rfl
  rw [h0]
  have : ∀ n, ((List.replicate n c).takeWhile (· == c)).length = n := by
    intro n
    induction n with
    | zero => rfl
    | succ n ih => rw [List.replicate_succ, List.takeWhile_cons]; simp
  exact this n
theorem enc_rep (c : Int) (n : Nat) (hn : 3 ≤ n) : (encL (List.replicate n c)).length = 2 * ((n + 127) / 128) + 1 ∧ ∃ R, encL (List.replicate n c) = (257 - (min n 128 : Nat) : Int) :: c :: R := by
  obtain ⟨l, hl⟩ : ∃ l, List.replicate n c = l := ⟨_, rfl⟩
  have hlen : l.length = n := by rw [← hl, List.length_replicate]
  have hs : same l 0 = n := by rw [← hl]; exact same_rep c n (by omega)
  have hg : ∀ j, 0 ≤ j → j < 0 + n → l.getD j 0 = c := by
    intro j _ hj
    rw [← hl, List.getD_eq_getElem?_getD, List.getElem?_replicate, if_pos (by omega)]
    rfl
  rw [hl]
  have pf : (0, n).1 < (0, n).2 ∧ (0, n).2 ≤ l.length := by constructor <;> simp only <;> omega
  have hr : runs l (l.length + 1) 0 = [⟨(0, n), pf⟩] := by
    have e : l.length + 1 = (l.length - 1) + 1 + 1 := by omega
    rw [e, runs_at l (l.length - 1 + 1) 0 n (by omega) (by omega) pf, runs_end _ _ _ (by omega)]
  have hS : SS l (runs l (l.length + 1) 0) = (parts (n + 1) 0 n).foldl (piece l) ([], []) := by
    rw [hr]
    unfold SS
    rw [List.foldl_cons, List.foldl_nil]
    unfold stepS
    simp only [Nat.sub_zero]
    rw [if_neg (by omega)]
    rfl
  obtain ⟨S, R, e1, e2, e3⟩ := fold_run l c (n + 1) 0 n [] (by omega) (by omega) (by omega) hg
  unfold encL
  rw [hS, e1]
  simp only [List.nil_append]
  refine ⟨by rw [List.length_append, List.length_append, List.length_singleton]; omega, ?_⟩
  obtain ⟨R', e⟩ := e3 (by omega)
  exact ⟨R' ++ plainL S ++ [128], by rw [e]; rfl⟩
/-- No two neighbours are equal: all octets as they are. -/
theorem same_one (l : List Int) (i : Nat) (hi : i < l.length) (h : ∀ j, i + 1 = j → j < l.length → l.getD j 0 ≠ l.getD i 0) : same l i = 1 := by
  have hp := same_pos l i hi
  have hle := same_le l i hi
  rcases Nat.lt_or_ge 1 (same l i) with h1 | h1
  · exfalso
    refine h (i + 1) rfl (by omega) ?_
    have hq : ∀ (l : List Int) (c : Int) (m : Nat), m < (l.takeWhile (· == c)).length → l.getD m 0 = c := by
      intro l c
      induction l with
      | nil => intro m hm; simp at hm
      | cons b l ih =>
        intro m hm
        rw [List.takeWhile_cons] at hm
        by_cases hb : (b == c) = true
        · rw [if_pos hb] at hm
          cases m with
          | zero => simpa using hb
          | succ m => simpa using ih m (by simpa using hm)
        · rw [if_neg hb] at hm
          simp at hm
    have := hq (l.drop i) (l.getD i 0) 1 h1
    rw [List.getD_eq_getElem?_getD, List.getElem?_drop, ← List.getD_eq_getElem?_getD] at this
    exact this
  · omega
theorem runs_ones (l : List Int) (h : ∀ i, i + 1 < l.length → l.getD (i + 1) 0 ≠ l.getD i 0) : ∀ k i, l.length - i < k → i ≤ l.length →
    (runs l k i).foldl (stepS l) (l.take i, []) = (l, []) := by
  intro k
  induction k with
  | zero => intro i hk; omega
  | succ k ih =>
    intro i hk hi
    by_cases hlt : i < l.length
    · have h1 : same l i = 1 := same_one l i hlt (fun j hj hjl => by subst hj; exact h i hjl)
      rw [runs_at l k i (i + 1) hlt (by omega) (by constructor <;> simp only <;> omega), List.foldl_cons]
      have : stepS l (l.take i, []) ⟨(i, i + 1), by constructor <;> simp only <;> omega⟩ = (l.take (i + 1), []) := by
        unfold stepS
        simp only [Nat.add_sub_cancel_left]
        rw [if_pos (by omega), ← List.take_add]
      rw [this]
      exact ih (i + 1) (by omega) (by omega)
    · rw [runs_end l k i hlt, List.foldl_nil, List.take_of_length_le (by omega)]
theorem enc_ones (l : List Int) (h : ∀ i, i + 1 < l.length → l.getD (i + 1) 0 ≠ l.getD i 0) : (encL l).length = l.length + (l.length + 127) / 128 + 1 := by
  have := runs_ones l h (l.length + 1) 0 (by omega) (by omega)
  rw [List.take_zero] at this
  unfold encL SS
  rw [this]
  simp only [List.nil_append]
  rw [List.length_append, plain_len, List.length_singleton]
/-! ### Repeated strings -/
def rep (s : ByteArray) (n : Nat) : ByteArray := ⟨(Lib.repeatL s.data.toList n).toArray⟩
theorem rep_size (s : ByteArray) (n : Nat) : (rep s n).size = n * s.size := by
  show (Lib.repeatL s.data.toList n).toArray.size = _
  rw [List.size_toArray, Lib.repeatL_length]
  rfl
theorem rep_succ (s : ByteArray) (n : Nat) : bytesOf (rep s (n + 1)) = bytesOf s ++ bytesOf (rep s n) := by
  unfold bytesOf rep
  simp [Lib.repeatL]
theorem rep_one (c : UInt8) (n : Nat) : bytesOf (rep ⟨#[c]⟩ n) = List.replicate n (c.toNat : Int) := by
  induction n with
  | zero => rfl
  | succ n ih => rw [rep_succ, ih, List.replicate_succ]; rfl
theorem rep_two (a b : Int) (s : ByteArray) (hs : bytesOf s = [a, b]) (h : a ≠ b) : ∀ n, (∀ i, i + 1 < (bytesOf (rep s n)).length → (bytesOf (rep s n)).getD (i + 1) 0 ≠ (bytesOf (rep s n)).getD i 0) ∧ (0 < n → (bytesOf (rep s n)).getD 0 0 = a) := by
  intro n
  induction n with
  | zero => exact ⟨fun i hi => by simp [rep, Lib.repeatL, bytesOf] at hi, fun h => absurd h (by omega)⟩
  | succ n ih =>
    rw [rep_succ, hs]
    refine ⟨fun i hi => ?_, fun _ => rfl⟩
    match i with
    | 0 => simpa using fun e => h e.symm
    | 1 =>
      have hn : 0 < n := by
        rcases Nat.eq_zero_or_pos n with h0 | h0
        · subst h0; simp [rep, Lib.repeatL, bytesOf] at hi
        · exact h0
      have := ih.2 hn
      show (bytesOf (rep s n)).getD 0 0 ≠ b
      rw [this]; exact h
    | i + 2 => exact ih.1 i (by simp at hi; omega)
theorem rep_recs (s : ByteArray) (m : Nat) (c : Int) (h1 : 2 ≤ m) (h2 : m ≤ 128) (hs : bytesOf s = [257 - (m : Int), c]) : ∀ n, Recs (bytesOf (rep s n)) (List.replicate (n * m) c) := by
  intro n
  induction n with
  | zero => rw [Nat.zero_mul]; exact Recs.nil
  | succ n ih =>
    rw [rep_succ, hs, Nat.succ_mul, Nat.add_comm, ← List.replicate_append_replicate]
    exact (Recs.run1 m c h1 h2).append ih
end Go.Proofs.Ytbgndbehceajpaa.L05k
