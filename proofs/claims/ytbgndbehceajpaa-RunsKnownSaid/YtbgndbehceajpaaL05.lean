/- The plain laws of the codes of runs: what Decode makes of what Encode writes. -/
import Derived.Test.YtbgndbehceajpaaK05
namespace Go.Proofs.Ytbgndbehceajpaa.L05
open Go.RowKit Go.Proofs.YtbgndbehceajpaaW.PrintWords Go.Proofs.YtbgndbehceajpaaW.PrintLast Go.Proofs.YtbgndbehceajpaaW.PrintMore
open Go.Proofs.Ytbgndbehceajpaa.G05e Go.Proofs.Ytbgndbehceajpaa.G05i Go.Proofs.Ytbgndbehceajpaa.G05x
set_option linter.unusedVariables false
/-- The decoder over lists: what it denotes and what is left. -/
def dl : Nat → List Int → List Int → Option (List Int × List Int)
  | 0, _, _ => none
  | _ + 1, [], _ => none
  | k + 1, b :: r, out =>
    if b = 128 then some (out, r)
    else if b < 128 then (if r.length < b.toNat + 1 then none else dl k (r.drop (b.toNat + 1)) (out ++ r.take (b.toNat + 1)))
    else match r with
      | [] => none
      | c :: r' => dl k r' (out ++ List.replicate (257 - b.toNat) c)
theorem dl_cons (k : Nat) (b : Int) (r out : List Int) : dl (k + 1) (b :: r) out = if b = 128 then some (out, r) else if b < 128 then (if r.length < b.toNat + 1 then none else dl k (r.drop (b.toNat + 1)) (out ++ r.take (b.toNat + 1))) else (match r with | [] => none | c :: r' => dl k r' (out ++ List.replicate (257 - b.toNat) c)) := by
  cases r <;> rfl
theorem dl_nil (k : Nat) (out : List Int) : dl k [] out = none := by cases k <;> rfl
theorem dl_end (k : Nat) (r out : List Int) : dl (k + 1) (128 :: r) out = some (out, r) := by rw [dl_cons]; exact if_pos rfl
theorem dl_lit (k n : Nat) (r out : List Int) (hn : n < 128) : dl (k + 1) ((n : Int) :: r) out = if r.length < n + 1 then none else dl k (r.drop (n + 1)) (out ++ r.take (n + 1)) := by
  rw [dl_cons, if_neg (by omega), if_pos (by omega)]
  simp
theorem dl_run (k m : Nat) (b : Int) (r out : List Int) (h1 : 2 ≤ m) (h2 : m ≤ 128) : dl (k + 1) ((257 - (m : Int)) :: b :: r) out = dl k r (out ++ List.replicate m b) := by
  rw [dl_cons, if_neg (by omega), if_neg (by omega)]
  simp only
  rw [show 257 - (257 - (m : Int)).toNat = m from by omega]
theorem dl_run1 (k m : Nat) (out : List Int) (h1 : 2 ≤ m) (h2 : m ≤ 128) : dl (k + 1) [257 - (m : Int)] out = none := by
  rw [dl_cons, if_neg (by omega), if_neg (by omega)]
/-- A row of records, and what it denotes. -/
inductive Recs : List Int → List Int → Prop
  | nil : Recs [] []
  | lit (n : Nat) (x c y : List Int) (hn : n < 128) (hx : x.length = n + 1) (h : Recs c y) : Recs ((n : Int) :: (x ++ c)) (x ++ y)
  | run (m : Nat) (b : Int) (c y : List Int) (h1 : 2 ≤ m) (h2 : m ≤ 128) (h : Recs c y) : Recs ((257 - (m : Int)) :: b :: c) (List.replicate m b ++ y)
theorem Recs.append {c x c' x' : List Int} (h : Recs c x) (h' : Recs c' x') : Recs (c ++ c') (x ++ x') := by
  induction h with
  | nil => exact h'
  | lit n x c y hn hx h ih => rw [List.append_assoc, List.cons_append, List.append_assoc]; exact .lit n x _ _ hn hx ih
  | run m b c y h1 h2 h ih => rw [List.append_assoc]; exact .run m b _ _ h1 h2 ih
theorem Recs.lit1 (x : List Int) (n : Nat) (hn : n < 128) (hx : x.length = n + 1) : Recs ((n : Int) :: x) x := by
  have := Recs.lit n x [] [] hn hx .nil
  simpa using this
theorem Recs.run1 (m : Nat) (b : Int) (h1 : 2 ≤ m) (h2 : m ≤ 128) : Recs [257 - (m : Int), b] (List.replicate m b) := by
  have := Recs.run m b [] [] h1 h2 .nil
  simpa using this
theorem Recs.reads {c x : List Int} (h : Recs c x) : ∀ (k : Nat) (rest out : List Int), (c ++ rest).length ≤ k → ∃ k', rest.length ≤ k' ∧ dl k (c ++ rest) out = dl k' rest (out ++ x) := by
  induction h with
  | nil => intro k rest out hk; exact ⟨k, hk, by simp⟩
  | lit n x c y hn hx h ih =>
    intro k rest out hk
    obtain ⟨k, rfl⟩ : ∃ q, k = q + 1 := ⟨k - 1, by simp at hk; omega⟩
    rw [List.cons_append, dl_lit k n _ out hn, if_neg (by simp; omega)]
    have h1 : (x ++ c ++ rest).drop (n + 1) = c ++ rest := by rw [List.append_assoc, ← hx, List.drop_left]
    have h2 : (x ++ c ++ rest).take (n + 1) = x := by rw [List.append_assoc, ← hx, List.take_left]
    rw [h1, h2]
    obtain ⟨k', hk', e⟩ := ih k rest (out ++ x) (by simp at hk ⊢; omega)
    exact ⟨k', hk', by rw [e, List.append_assoc]⟩
  | run m b c y h1 h2 h ih =>
    intro k rest out hk
    obtain ⟨k, rfl⟩ : ∃ q, k = q + 1 := ⟨k - 1, by simp at hk; omega⟩
    rw [List.cons_append, List.cons_append, dl_run k m b _ out h1 h2]
    obtain ⟨k', hk', e⟩ := ih k rest (out ++ List.replicate m b) (by simp at hk ⊢; omega)
    exact ⟨k', hk', by rw [e, List.append_assoc]⟩
theorem Recs.whole {c x : List Int} (h : Recs c x) (k : Nat) (rest : List Int) (hk : (c ++ 128 :: rest).length ≤ k) : dl k (c ++ 128 :: rest) [] = some (x, rest) := by
  obtain ⟨k', hk', e⟩ := h.reads k (128 :: rest) [] hk
  obtain ⟨k', rfl⟩ : ∃ q, k' = q + 1 := ⟨k' - 1, by simp at hk'; omega⟩
  rw [e, dl_end]
  rfl
theorem Recs.part {c x : List Int} (h : Recs c x) : ∀ (k i : Nat) (out : List Int), dl k (c.take i) out = none := by
  induction h with
  | nil => intro k i out; rw [List.take_nil]; exact dl_nil k out
  | lit n x c y hn hx h ih =>
    intro k i out
    cases i with
    | zero => exact dl_nil k out
    | succ i =>
      cases k with
      | zero => rfl
      | succ k =>
        rw [List.take_succ_cons, dl_lit k n _ out hn]
        split
        · rfl
        · rename_i hlen
          rw [List.length_take, List.length_append] at hlen
          have h1 : ((x ++ c).take i).drop (n + 1) = c.take (i - (n + 1)) := by
            rw [List.drop_take, ← hx, List.drop_left]
          rw [h1]
          exact ih k _ _
  | run m b c y h1 h2 h ih =>
    intro k i out
    cases i with
    | zero => exact dl_nil k out
    | succ i =>
      cases k with
      | zero => rfl
      | succ k =>
        cases i with
        | zero => rw [List.take_succ_cons, List.take_zero]; exact dl_run1 k m out h1 h2
        | succ i => rw [List.take_succ_cons, List.take_succ_cons, dl_run k m b _ out h1 h2]; exact ih k i _
theorem Recs.octets {c x : List Int} (h : Recs c x) (hx : ∀ b ∈ x, 0 ≤ b ∧ b < 256) : ∀ b ∈ c, 0 ≤ b ∧ b < 256 := by
  induction h with
  | nil => intro b hb; cases hb
  | lit n x c y hn hl h ih =>
    intro b hb
    rw [List.mem_cons, List.mem_append] at hb
    rcases hb with rfl | hb | hb
    · omega
    · exact hx b (List.mem_append_left _ hb)
    · exact ih (fun b hb => hx b (List.mem_append_right _ hb)) b hb
  | run m b c y h1 h2 h ih =>
    intro q hq
    rw [List.mem_cons, List.mem_cons] at hq
    rcases hq with rfl | rfl | hq
    · omega
    · exact hx q (List.mem_append_left _ (List.mem_replicate.2 ⟨by omega, rfl⟩))
    · exact ih (fun b hb => hx b (List.mem_append_right _ hb)) q hq
/-- The octets as they are. -/
theorem plain_parts (l : List Int) : ∀ k off n, n < k → off + n ≤ l.length → Recs ((parts k off n).flatMap (rec1 l)) ((l.drop off).take n) ∧ ((parts k off n).flatMap (rec1 l)).length ≤ n + (n + 127) / 128 := by
  intro k
  induction k with
  | zero => intro off n h; omega
  | succ k ih =>
    intro off n hk hn
    by_cases h : 128 < n
    · obtain ⟨h1, h2⟩ := ih (off + 128) (n - 128) (by omega) (by omega)
      rw [parts_big k off n h, List.flatMap_cons]
      have hr : rec1 l (off, 128) = ((127 : Nat) : Int) :: (l.drop off).take 128 := by simp [rec1]
      have hl : ((l.drop off).take 128).length = 128 := by rw [List.length_take, List.length_drop]; omega
      refine ⟨?_, ?_⟩
      · have hs : (l.drop off).take n = (l.drop off).take 128 ++ (l.drop (off + 128)).take (n - 128) := by
          rw [← List.drop_drop, ← List.take_add, show 128 + (n - 128) = n from by omega]
        rw [hs, hr]
        exact (Recs.lit1 _ 127 (by omega) hl).append h1
      · rw [List.length_append, hr, List.length_cons, hl]; omega
    · rw [parts_small k off n h, List.flatMap_cons, List.flatMap_nil, List.append_nil]
      rcases Nat.eq_zero_or_pos n with h0 | h0
      · subst h0
        exact ⟨by simpa [rec1] using Recs.nil, by simp [rec1]⟩
      · have hl : ((l.drop off).take n).length = n := by rw [List.length_take, List.length_drop]; omega
        have hr : rec1 l (off, n) = ((n - 1 : Nat) : Int) :: (l.drop off).take n := by
          simp [rec1, h0]; omega
        rw [hr]
        exact ⟨Recs.lit1 _ (n - 1) (by omega) (by omega), by rw [List.length_cons, hl]; omega⟩
theorem plain_recs (l : List Int) : Recs (plainL l) l ∧ (plainL l).length ≤ l.length + (l.length + 127) / 128 := by
  have h := plain_parts l (l.length + 1) 0 l.length (Nat.lt_succ_self _) (by omega)
  unfold plainL
  simpa using h
theorem parts_sum : ∀ k off n, n < k → ((parts k off n).map (·.2)).sum = n := by
  intro k
  induction k with
  | zero => intro off n h; omega
  | succ k ih =>
    intro off n hk
    by_cases h : 128 < n
    · rw [parts_big k off n h, List.map_cons, List.sum_cons, ih _ _ (by omega)]; omega
    · rw [parts_small k off n h]; simp
theorem fold_recs (l : List Int) (c : Int) (i k : Nat) (hc : ∀ m, i ≤ m → m < k → l.getD m 0 = c) (hk : k ≤ l.length) :
    ∀ (ps : List (Nat × Nat)), (∀ p ∈ ps, i ≤ p.1 ∧ p.1 + p.2 ≤ k ∧ 0 < p.2 ∧ p.2 ≤ 128) → ∀ (t : Nat) (T2 y : List Int), Recs T2 y →
      ∃ (t' : Nat) (T2' y' : List Int), ps.foldl (piece l) (List.replicate t c, T2) = (List.replicate t' c, T2') ∧ Recs T2' y' ∧ y' ++ List.replicate t' c = y ++ List.replicate (t + (ps.map (·.2)).sum) c ∧ y.length ≤ y'.length ∧ T2'.length + y.length ≤ T2.length + y'.length := by
  intro ps
  induction ps with
  | nil => intro _ t T2 y h; exact ⟨t, T2, y, rfl, h, by simp, Nat.le_refl _, Nat.le_refl _⟩
  | cons p ps ih =>
    intro hp t T2 y h
    obtain ⟨h1, h2, h3, h4⟩ := hp p List.mem_cons_self
    have hp' := fun q hq => hp q (List.mem_cons_of_mem _ hq)
    rw [List.foldl_cons, List.map_cons, List.sum_cons]
    by_cases hm : p.2 = 1
    · have hpc : piece l (List.replicate t c, T2) p = (List.replicate (t + 1) c, T2) := by
        unfold piece
        rw [if_pos hm]
        have hlt : p.1 < l.length := by omega
        have : (l.drop p.1).take 1 = [c] := by
          rw [List.drop_eq_getElem_cons hlt, List.take_succ_cons, List.take_zero]
          have := hc p.1 h1 (by omega)
          rw [List.getD_eq_getElem?_getD, List.getElem?_eq_getElem hlt] at this
          simpa using this
        rw [this, List.replicate_succ']
      rw [hpc]
      obtain ⟨t', T2', y', e, hr, hy, hl, hs⟩ := ih hp' (t + 1) T2 y h
      exact ⟨t', T2', y', e, hr, by rw [hy, hm]; congr 2; omega, hl, hs⟩
    · have hpc : piece l (List.replicate t c, T2) p = (List.replicate t c, T2 ++ [257 - (p.2 : Int), c]) := by
        unfold piece
        rw [if_neg hm, hc p.1 h1 (by omega)]
      rw [hpc]
      obtain ⟨t', T2', y', e, hr, hy, hl, hs⟩ := ih hp' t (T2 ++ [257 - (p.2 : Int), c]) (y ++ List.replicate p.2 c) (h.append (Recs.run1 p.2 c (by omega) h4))
      simp only [List.length_append, List.length_replicate, List.length_cons, List.length_nil] at hl hs
      refine ⟨t', T2', y', e, hr, ?_, by omega, by omega⟩
      rw [hy, List.append_assoc, List.replicate_append_replicate]
      congr 2
      omega
theorem run_recs (l : List Int) (c : Int) (i n : Nat) (hn : 3 ≤ n) (hl : i + n ≤ l.length) (hc : ∀ m, i ≤ m → m < i + n → l.getD m 0 = c) (S2 y : List Int) (h : Recs S2 y) :
    ∃ (t : Nat) (T2 y' : List Int), (parts (n + 1) i n).foldl (piece l) ([], S2) = (List.replicate t c, T2) ∧ Recs T2 y' ∧ y' ++ List.replicate t c = y ++ List.replicate n c ∧ y.length ≤ y'.length ∧ T2.length + y.length + 1 ≤ S2.length + y'.length := by
  have hsum := parts_sum (n + 1) i n (Nat.lt_succ_self _)
  have hall : ∀ p ∈ parts (n + 1) i n, i ≤ p.1 ∧ p.1 + p.2 ≤ i + n ∧ 0 < p.2 ∧ p.2 ≤ 128 := by
    intro p hp
    have h1 := parts_in _ _ _ _ (Nat.lt_succ_self _) hp
    have h2 := parts_pos _ _ _ _ (Nat.lt_succ_self _) (by omega) hp
    omega
  obtain ⟨m, rest, hm, hparts⟩ : ∃ m rest, 3 ≤ m ∧ parts (n + 1) i n = (i, m) :: rest := by
    by_cases hb : 128 < n
    · exact ⟨128, _, by omega, parts_big n i n hb⟩
    · exact ⟨n, [], hn, parts_small n i n hb⟩
  rw [hparts] at hsum hall ⊢
  have hm4 := (hall (i, m) List.mem_cons_self).2.2.2
  have hm2 := (hall (i, m) List.mem_cons_self).2.1
  simp only at hm4 hm2
  have hpc : piece l ([], S2) (i, m) = (List.replicate 0 c, S2 ++ [257 - (m : Int), c]) := by
    unfold piece
    rw [if_neg (by simp only; omega), hc i (Nat.le_refl _) (by omega)]
    rfl
  rw [List.foldl_cons, hpc]
  obtain ⟨t', T2', y', e, hr, hy, hyl, hs⟩ := fold_recs l c i (i + n) hc hl rest (fun q hq => hall q (List.mem_cons_of_mem _ hq)) 0 (S2 ++ [257 - (m : Int), c]) (y ++ List.replicate m c) (h.append (Recs.run1 m c (by omega) hm4))
  simp only [List.length_append, List.length_replicate, List.length_cons, List.length_nil] at hyl hs
  rw [List.map_cons, List.sum_cons] at hsum
  refine ⟨t', T2', y', e, hr, ?_, by omega, by omega⟩
  rw [hy, List.append_assoc, List.replicate_append_replicate]
  congr 2
  simp only at hsum
  omega
/-- What has been read up to an index. -/
def Inv (l : List Int) (i : Nat) (S : List Int × List Int) : Prop :=
  ∃ y, Recs S.2 y ∧ y ++ S.1 = l.take i ∧ ((S.2 = [] ∧ y = []) ∨ S.2.length + 1 ≤ y.length + (y.length + 127) / 128)
theorem inv_step (l : List Int) (S : List Int × List Int) (i k : Nat) (pf : i < k ∧ k ≤ l.length) (hc : ∀ m, i ≤ m → m < k → l.getD m 0 = l.getD i 0) (h : Inv l i S) : Inv l k (stepS l S ⟨(i, k), pf⟩) := by
  obtain ⟨y, hr, hy, hs⟩ := h
  obtain ⟨h1, h2⟩ := pf
  have htake : l.take k = l.take i ++ (l.drop i).take (k - i) := by
    rw [← List.take_add, show i + (k - i) = k from by omega]
  unfold stepS
  simp only
  by_cases h3 : k - i < 3
  · rw [if_pos h3]
    exact ⟨y, hr, by rw [htake, ← hy, List.append_assoc], hs⟩
  · rw [if_neg h3]
    obtain ⟨p1, p2⟩ := plain_recs S.1
    obtain ⟨t, T2, y', e, hr', hy', hyl, hs'⟩ := run_recs l (l.getD i 0) i (k - i) (by omega) (by omega) (fun m a b => hc m a (by omega)) (S.2 ++ plainL S.1) (y ++ S.1) (hr.append p1)
    rw [e]
    simp only [List.length_append] at hyl hs'
    refine ⟨y', hr', ?_, .inr ?_⟩
    · simp only
      rw [hy', hy, htake]
      congr 1
      symm
      rw [List.eq_replicate_iff]
      refine ⟨by rw [List.length_take, List.length_drop]; omega, fun b hb => ?_⟩
      obtain ⟨j, hj, hjb⟩ := List.getElem_of_mem hb
      rw [List.length_take, List.length_drop] at hj
      have := hc (i + j) (by omega) (by omega)
      rw [← this, ← hjb, List.getElem_take, List.getElem_drop, List.getD_eq_getElem?_getD, List.getElem?_eq_getElem (by omega)]
      rfl
    · simp only
      rcases hs with ⟨e1, e2⟩ | hs
      · rw [e1, e2] at hs'
        rw [e2] at hyl
        simp only [List.length_nil] at hs' hyl
        omega
      · omega
theorem runs_inv (l : List Int) : ∀ k i S, l.length - i < k → i ≤ l.length → Inv l i S → Inv l l.length ((runs l k i).foldl (stepS l) S) := by
  intro k
  induction k with
  | zero => intro i S h; omega
  | succ k ih =>
    intro i S hk hi h
    by_cases hlt : i < l.length
    · have hp := same_pos l i hlt
      have hq := same_le l i hlt
      rw [runs_at l k i _ hlt rfl ⟨by simp only; omega, hq⟩, List.foldl_cons]
      exact ih _ _ (by omega) hq (inv_step l S i (i + same l i) _ (fun m a b => same_in l i m a b) h)
    · rw [runs_end l k i hlt]
      have : i = l.length := by omega
      subst this
      exact h
/-- The code is records that denote the list, and the end. -/
theorem enc_recs (l : List Int) : ∃ c, encL l = c ++ [128] ∧ Recs c l ∧ c.length ≤ l.length + (l.length + 127) / 128 := by
  obtain ⟨y, hr, hy, hs⟩ := runs_inv l (l.length + 1) 0 ([], []) (by omega) (by omega) ⟨[], .nil, by simp, .inl ⟨rfl, rfl⟩⟩
  rw [List.take_length] at hy
  unfold encL SS
  obtain ⟨S, hS⟩ : ∃ S, (runs l (l.length + 1) 0).foldl (stepS l) ([], []) = S := ⟨_, rfl⟩
  rw [hS] at hr hy hs ⊢
  obtain ⟨p1, p2⟩ := plain_recs S.1
  have hlen := congrArg List.length hy
  rw [List.length_append] at hlen
  refine ⟨_, rfl, ?_, ?_⟩
  · rw [← hy]; exact hr.append p1
  · rw [List.length_append]
    rcases hs with ⟨e1, e2⟩ | hs
    · rw [e1]; rw [e2] at hlen
      simp only [List.length_nil] at hlen ⊢
      omega
    · omega
/-! ### Strings -/
theorem bytesOf_inj {a b : ByteArray} (h : bytesOf a = bytesOf b) : a = b := by
  unfold bytesOf at h
  have h2 : a.data.toList = b.data.toList := List.map_inj_right (fun x y hxy => by
    have : x.toNat = y.toNat := by omega
    exact UInt8.toNat_inj.1 this) |>.1 h
  cases a
  cases b
  simp only at h2
  congr
  exact Array.toList_inj.1 h2
theorem bytesOf_range (s : ByteArray) : ∀ b ∈ bytesOf s, 0 ≤ b ∧ b < 256 := by
  intro b hb
  unfold bytesOf at hb
  obtain ⟨x, _, rfl⟩ := List.mem_map.1 hb
  have := x.toNat_lt
  omega
theorem bytesOf_strOf (r : List Int) (h : ∀ b ∈ r, 0 ≤ b ∧ b < 256) : bytesOf (strOfNums r) = r := by
  unfold bytesOf strOfNums
  simp only [List.map_map]
  conv => rhs; rw [← List.map_id r]
  apply List.map_congr_left
  intro b hb
  have := h b hb
  simp only [Function.comp, UInt8.toNat_ofNat', id]
  omega
theorem strOf_bytesOf (s : ByteArray) : strOfNums (bytesOf s) = s := bytesOf_inj (bytesOf_strOf _ (bytesOf_range s))
theorem bytesOf_append (a b : ByteArray) : bytesOf (a ++ b) = bytesOf a ++ bytesOf b := by
  unfold bytesOf
  simp
theorem bytesOf_extract (s : ByteArray) (i j : Nat) : bytesOf (s.extract i j) = ((bytesOf s).drop i).take (j - i) := by
  unfold bytesOf
  simp [List.map_drop, List.map_take]
theorem bytesOf_cons (s : ByteArray) (i : Nat) (h : i < s.size) : (bytesOf s).drop i = bt s i :: (bytesOf s).drop (i + 1) := by
  have hl : i < (bytesOf s).length := by rw [bytesOf_length]; exact h
  rw [List.drop_eq_getElem_cons hl]
  congr 1
  have := rd_bytesOf s i
  simp only [rd, Int.toNat_natCast] at this
  rw [← this, List.getD_eq_getElem?_getD, List.getElem?_eq_getElem hl]
  rfl
theorem dec_dl (s : ByteArray) : ∀ k i out, i ≤ s.size → G05.dec s k i out = (dl k ((bytesOf s).drop i) out).map (fun q => (q.1, s.size - q.2.length)) := by
  intro k
  induction k with
  | zero => intro i out h; rfl
  | succ k ih =>
    intro i out h
    have hlen := bytesOf_length s
    unfold G05.dec
    by_cases hi : i < s.size
    · rw [if_pos hi, bytesOf_cons s i hi, dl_cons]
      have hr := bt_range s i
      by_cases h1 : bt s i = 128
      · rw [if_pos h1, if_pos h1]
        simp only [Option.map_some, List.length_drop]
        congr 2
        omega
      · rw [if_neg h1, if_neg h1]
        by_cases h2 : bt s i < 128
        · rw [if_pos h2, if_pos h2]
          by_cases h3 : s.size < i + 2 + (bt s i).toNat
          · rw [if_pos h3, if_pos (by rw [List.length_drop]; omega)]
            rfl
          · rw [if_neg h3, if_neg (by rw [List.length_drop]; omega), ih _ _ (by omega), bytesOf_extract, List.drop_drop, show i + 2 + (bt s i).toNat - (i + 1) = (bt s i).toNat + 1 from by omega, show i + 1 + ((bt s i).toNat + 1) = i + 2 + (bt s i).toNat from by omega]
        · rw [if_neg h2, if_neg h2]
          by_cases h3 : i + 1 = s.size
          · rw [if_pos h3, List.drop_of_length_le (by omega)]
            rfl
          · rw [if_neg h3, bytesOf_cons s (i + 1) (by omega)]
            exact ih _ _ (by omega)
    · rw [if_neg hi, List.drop_of_length_le (by omega), dl_nil]
      rfl
def code (s : ByteArray) : ByteArray := strOfNums (encL (bytesOf s))
theorem code_bytes (s : ByteArray) : ∃ c, bytesOf (code s) = c ++ [128] ∧ Recs c (bytesOf s) ∧ c.length ≤ s.size + (s.size + 127) / 128 := by
  obtain ⟨c, e, hr, hl⟩ := enc_recs (bytesOf s)
  rw [bytesOf_length] at hl
  refine ⟨c, ?_, hr, hl⟩
  unfold code
  rw [e, bytesOf_strOf]
  intro b hb
  rw [List.mem_append] at hb
  rcases hb with hb | hb
  · exact hr.octets (bytesOf_range s) b hb
  · rw [List.mem_singleton.1 hb]; omega
theorem code_size (s : ByteArray) : 1 ≤ (code s).size ∧ (code s).size ≤ s.size + (s.size + 127) / 128 + 1 := by
  obtain ⟨c, e, _, hl⟩ := code_bytes s
  have := congrArg List.length e
  rw [bytesOf_length, List.length_append, List.length_singleton] at this
  omega
theorem enc_ok (s : ByteArray) (h : s.size ≤ 60000) : G05x.res s = (code s, 0) := by
  obtain ⟨c, e, hr, hl⟩ := enc_recs (bytesOf s)
  rw [bytesOf_length] at hl
  unfold G05x.res encR
  rw [if_neg (by omega), if_neg (by rw [e, List.length_append, List.length_singleton]; omega)]
  rfl
theorem dec_of (S : ByteArray) (hS : S.size ≤ 65536) : G05.res S = G05.fin ((dl (S.size + 1) (bytesOf S) []).map (fun q => (q.1, S.size - q.2.length))) := by
  unfold G05.res
  rw [if_neg (by omega), dec_dl S _ 0 [] (Nat.zero_le _), List.drop_zero]
theorem dec_recs (S x : ByteArray) (c rest : List Int) (hS : S.size ≤ 65536) (hx : x.size ≤ 65536) (hb : bytesOf S = c ++ 128 :: rest) (hr : Recs c (bytesOf x)) : G05.res S = (x, (c.length : Int) + 1, 0) := by
  have hlen := congrArg List.length hb
  rw [bytesOf_length, List.length_append, List.length_cons] at hlen
  rw [dec_of S hS, hb, hr.whole _ rest (by rw [List.length_append, List.length_cons]; omega)]
  simp only [Option.map_some]
  rw [G05.fin_ok _ _ (by rw [bytesOf_length]; omega), strOf_bytesOf]
  congr 2
  omega
theorem dec_back (s more : ByteArray) (h : s.size ≤ 60000) (hm : more.size ≤ 50) : G05.res (code s ++ more) = (s, ((code s).size : Int), 0) := by
  obtain ⟨c, e, hr, hl⟩ := code_bytes s
  have hlen := congrArg List.length e
  rw [bytesOf_length, List.length_append, List.length_singleton] at hlen
  rw [dec_recs (code s ++ more) s c (bytesOf more) (by rw [ByteArray.size_append]; omega) (by omega) (by rw [bytesOf_append, e]; simp) hr]
  congr 2
  omega
theorem dec_part (s : ByteArray) (i : Nat) (h : s.size ≤ 60000) (hi : i < (code s).size) : G05.res ((code s).extract 0 i) = (⟨#[]⟩, 0, 5) := by
  obtain ⟨c, e, hr, hl⟩ := code_bytes s
  have hlen := congrArg List.length e
  rw [bytesOf_length, List.length_append, List.length_singleton] at hlen
  rw [dec_of _ (by rw [ByteArray.size_extract]; omega), bytesOf_extract, e, List.drop_zero, Nat.sub_zero, List.take_append_of_le_length (by omega), hr.part]
  rfl
theorem dec_join (a b : ByteArray) (ha : a.size ≤ 30000) (hb : b.size ≤ 30000) : G05.res ((code a).extract 0 ((code a).size - 1) ++ code b) = (a ++ b, ((code a).size : Int) + ((code b).size : Int) - 1, 0) := by
  obtain ⟨c, e, hr, hl⟩ := code_bytes a
  obtain ⟨d, f, hs, hm⟩ := code_bytes b
  have hlen := congrArg List.length e
  rw [bytesOf_length, List.length_append, List.length_singleton] at hlen
  have hlen2 := congrArg List.length f
  rw [bytesOf_length, List.length_append, List.length_singleton] at hlen2
  have hbytes : bytesOf ((code a).extract 0 ((code a).size - 1) ++ code b) = (c ++ d) ++ 128 :: [] := by
    rw [bytesOf_append, bytesOf_extract, e, f, List.drop_zero, Nat.sub_zero, hlen, Nat.add_sub_cancel, List.take_left, List.append_assoc]
  have h := dec_recs ((code a).extract 0 ((code a).size - 1) ++ code b) (a ++ b) (c ++ d) [] (by rw [ByteArray.size_append, ByteArray.size_extract]; omega) (by rw [ByteArray.size_append]; omega) hbytes (by rw [bytesOf_append]; exact hr.append hs)
  have e2 : ((c ++ d).length : Int) + 1 = ((code a).size : Int) + ((code b).size : Int) - 1 := by rw [List.length_append]; omega
  rw [h, e2]
end Go.Proofs.Ytbgndbehceajpaa.L05
