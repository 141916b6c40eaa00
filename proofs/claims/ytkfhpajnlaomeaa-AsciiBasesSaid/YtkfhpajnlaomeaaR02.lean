/- The reference of chapter 02 answers as the plain functions: hexadecimal digits. -/
import Derived.Test.YtkfhpajnlaomeaaL02
import Derived.Test.YtkfhpajnlaomeaaP02x
namespace Go.Proofs.Ytkfhpajnlaomeaa.R02
open Go.RowKit Go.Proofs.YtkfhpajnlaomeaaW.PrintWords Go.Proofs.YtkfhpajnlaomeaaW.PrintLast Go.Proofs.YtkfhpajnlaomeaaW.PrintMore
open Go.Proofs.Ytkfhpajnlaomeaa.K02 Go.Proofs.Ytkfhpajnlaomeaa.L02 Go.Proofs.Ytkfhpajnlaomeaa.P02 Go.Proofs.Ytkfhpajnlaomeaa.G02h
set_option linter.unusedVariables false
set_option maxRecDepth 100000
theorem w64 (x : Int) (h1 : -9000000000000000000 ≤ x) (h2 : x ≤ 9000000000000000000) : wrap64 x = x := by unfold wrap64; omega
theorem bt_getD (s : ByteArray) (i : Nat) : bt s (i : Int) = (bytesOf s).getD i 0 := by
  by_cases h : i < s.size
  · have := bt_at s (i : Int) (by simpa using h)
    rw [← this]
    unfold bytesOf
    have hml : i < s.data.toList.length := by rw [data_len]; exact h
    simp [List.getD_eq_getElem?_getD, List.getElem?_eq_getElem hml]
    rfl
  · rw [List.getD_eq_getElem?_getD, List.getElem?_eq_none (by rw [bytesOf_len]; omega)]
    unfold bt
    rw [dif_neg (by simpa using h)]
    rfl
theorem bt_r (s : ByteArray) (i : Int) : 0 ≤ bt s i ∧ bt s i ≤ 255 := bt_range s i
theorem digit_eq (n : Int) (h0 : 0 ≤ n) (h1 : n < 16) : chaseref02_digit.f n = some (dg n) := by
  unfold chaseref02_digit.f dg
  have e1 := w64 (48 + n) (by omega) (by omega)
  have e2 := w64 (65 + n) (by omega) (by omega)
  have e3 := w64 (65 + n - 10) (by omega) (by omega)
  rw [e1, e2, e3]
  clear e1 e2 e3
  by_cases h : n < 10
  · rw [if_pos h, if_pos h]; congr 1; omega
  · rw [if_neg h, if_neg h]; congr 1; omega
theorem hex_on (k : Nat) (s : ByteArray) (out : List Int) (i : Nat) (hs : s.size ≤ 100000) (h : i < s.size) (ho : out.length < 100000000) :
    chaseref02_Hex.l0 (k + 1) s out i = chaseref02_Hex.l0 k s (out ++ [dg ((bytesOf s).getD i 0 / 16), dg ((bytesOf s).getD i 0 % 16)]) ((i + 1 : Nat) : Int) := by
  have hr := bt_r s (i : Int)
  rw [← bt_getD]
  rw [chaseref02_Hex.l0, if_pos (show (i : Int) < (s.size : Int) by omega), if_pos (show (0 : Int) ≤ (i : Int) by omega)]
  generalize bt s (i : Int) = b at hr ⊢
  have e1 := w64 b (by omega) (by omega)
  have d1 : Int.tdiv b 16 = b / 16 := Int.tdiv_eq_ediv_of_nonneg hr.1
  have d2 : Int.tmod b 16 = b % 16 := Int.tmod_eq_emod_of_nonneg hr.1
  have e2 := w64 (b / 16) (by omega) (by omega)
  have e3 := w64 ((i : Int) + 1) (by omega) (by omega)
  have g1 := digit_eq (b / 16) (by omega) (by omega)
  have g2 := digit_eq (b % 16) (by omega) (by omega)
  rw [e1, d1, d2, e2, g1, g2, e3]
  simp only [Option.bind_some]
  rw [if_pos (show out.length + [dg (b / 16), dg (b % 16)].length < 140737488355328 by simp; omega)]
  rfl
theorem hex_all (s : ByteArray) (hs : s.size ≤ 100000) : ∀ (n i : Nat), s.size - i < n → i ≤ s.size → chaseref02_Hex.l0 n s (hexL ((bytesOf s).take i)) i = some (strOfNums (hexL (bytesOf s) ++ [62]), 0) := by
  intro n
  induction n with
  | zero => intro i h; omega
  | succ n ih =>
    intro i hn hi
    have hl : (hexL ((bytesOf s).take i)).length ≤ 200000 := by rw [hexL_length, List.length_take, bytesOf_len]; omega
    by_cases h : i < s.size
    · have hsn := hexL_snoc (bytesOf s) i (by rw [bytesOf_len]; exact h)
      rw [List.append_assoc] at hsn
      rw [hex_on n s _ i hs h (by omega)]
      have := ih (i + 1) (by omega) (by omega)
      rw [hsn] at this
      exact this
    · rw [chaseref02_Hex.l0, if_neg (show ¬ (i : Int) < (s.size : Int) by omega), if_pos (by omega), List.take_of_length_le (by rw [bytesOf_len]; omega)]
theorem ref_hex (s : ByteArray) (hs : s.size ≤ 100000) : ∃ k, chaseref02_Hex.f k s = some (hexRes s) := by
  refine ⟨s.size + 1, ?_⟩
  unfold chaseref02_Hex.f hexRes
  have e1 := w64 (2 * (s.size : Int)) (by omega) (by omega)
  have e2 := w64 (2 * (s.size : Int) + 1) (by omega) (by omega)
  rw [e1, e2]
  clear e1 e2
  have ha := hex_all s hs (s.size + 1) 0 (by omega) (by omega)
  rw [List.take_zero] at ha
  have hb : (hexL (bytesOf s) ++ [62]).length = 2 * s.size + 1 := by rw [List.length_append, hexL_length, bytesOf_len]; rfl
  by_cases h : 2 * (s.size : Int) + 1 > 65536
  · rw [if_pos h]
    by_cases h2 : (s.size : Int) > 65536
    · rw [if_pos h2]
    · rw [if_neg h2]
      unfold bnd
      rw [if_pos (by omega)]
  · rw [if_neg h, if_neg (by omega)]
    unfold bnd
    rw [if_neg (by omega)]
    exact ha
/-! ### Unhex -/
theorem blank_eq (c : Int) : chaseref02_Blank.f c = some (blankC c) := by
  unfold chaseref02_Blank.f blankC
  by_cases h0 : c = 0
  · subst h0; rfl
  rw [if_neg h0]
  by_cases h1 : c = 9
  · subst h1; rfl
  rw [if_neg h1]
  by_cases h2 : c = 10
  · subst h2; rfl
  rw [if_neg h2]
  by_cases h3 : c = 12
  · subst h3; rfl
  rw [if_neg h3]
  by_cases h4 : c = 13
  · subst h4; rfl
  rw [if_neg h4]
  have b0 : (c == 0) = false := by simpa using h0
  have b1 : (c == 9) = false := by simpa using h1
  have b2 : (c == 10) = false := by simpa using h2
  have b3 : (c == 12) = false := by simpa using h3
  have b4 : (c == 13) = false := by simpa using h4
  rw [b0, b1, b2, b3, b4]
  rfl
theorem value_eq (c : Int) (h0 : 0 ≤ c) (h1 : c < 256) (k : Nat) : chaseref02_Value.f (k + 2) c = some (nib c) := by
  have hv : ∀ c : Fin 256, chaseref02_Value.f 2 (c.val : Int) = some (nib (c.val : Int)) := by decide +kernel
  have := hv ⟨c.toNat, by omega⟩
  simp only at this
  rw [show ((c.toNat : Nat) : Int) = c by omega] at this
  have hm : ∀ m, chaseref02_Value.f (2 + m) c = some (nib c) := by
    intro m
    induction m with
    | zero => exact this
    | succ m ih => exact chaseref02_Value.mono c (2 + m) _ ih
  rw [Nat.add_comm]
  exact hm k
def pairs : List Int → List Int
  | a :: b :: r => (16 * a + b) :: pairs r
  | _ => []
theorem pairs_snoc2 : ∀ (l : List Int) (a b : Int), l.length % 2 = 0 → pairs (l ++ [a, b]) = pairs l ++ [16 * a + b]
  | [], a, b, _ => rfl
  | [x], a, b, h => by simp at h
  | x :: y :: r, a, b, h => by
    have := pairs_snoc2 r a b (by simp at h; omega)
    show (16 * x + y) :: pairs (r ++ [a, b]) = _
    rw [this]
    rfl
theorem pairs_snoc1 : ∀ (l : List Int) (a : Int), l.length % 2 = 0 → pairs (l ++ [a]) = pairs l
  | [], a, _ => rfl
  | [x], a, h => by simp at h
  | x :: y :: r, a, h => by
    have := pairs_snoc1 r a (by simp at h; omega)
    show (16 * x + y) :: pairs (r ++ [a]) = (16 * x + y) :: pairs r
    rw [this]
theorem pairs_len : ∀ (l : List Int), (pairs l).length = l.length / 2
  | [] => rfl
  | [x] => by simp [pairs]
  | x :: y :: r => by
    have := pairs_len r
    show (pairs r).length + 1 = _
    simp only [List.length_cons]
    omega
theorem chaseref02_Unhex.mono_up {k : Nat} {s : ByteArray} {l : List Int} {i : Int} {r : ByteArray × Int × Int} (h : chaseref02_Unhex.l0 k s l i = some r) : ∀ m, chaseref02_Unhex.l0 (k + m) s l i = some r := by
  intro m
  induction m with
  | zero => exact h
  | succ m ih => exact (chaseref02_Unhex.mono_l (k + m)).1 s l i _ ih
theorem l1_all (l : List Int) (hl : l.length % 2 = 0) (hr : ∀ x ∈ l, 0 ≤ x ∧ x < 16) (hn : l.length ≤ 100000) (at_ : Nat) (ha : at_ ≤ 100000) : ∀ (n i : Nat), l.length - 2 * i < n → 2 * i ≤ l.length →
    chaseref02_Unhex.l1 n l at_ (pairs (l.take (2 * i))) ((2 * i : Nat) : Int) = some (strOfNums (pairs l), ((at_ + 1 : Nat) : Int), 0) := by
  intro n
  induction n with
  | zero => intro i h; omega
  | succ n ih =>
    intro i hk hi
    by_cases h : 2 * i < l.length
    · have hp : (pairs (l.take (2 * i))).length ≤ 100000 := by rw [pairs_len, List.length_take]; omega
      have x0 := hr (l[2 * i]'h) (List.getElem_mem _)
      have x1 := hr (l[2 * i + 1]'(by omega)) (List.getElem_mem _)
      have r0 : YtkfhpajnlaomeaaW.PrintWords.rd l ((2 * i : Nat) : Int) = l[2 * i]'h := by
        unfold YtkfhpajnlaomeaaW.PrintWords.rd
        rw [Int.toNat_natCast, List.getD_eq_getElem?_getD, List.getElem?_eq_getElem h]
        rfl
      have e1 := w64 (((2 * i : Nat) : Int) + 1) (by omega) (by omega)
      have r1 : YtkfhpajnlaomeaaW.PrintWords.rd l (((2 * i : Nat) : Int) + 1) = l[2 * i + 1]'(by omega) := by
        unfold YtkfhpajnlaomeaaW.PrintWords.rd
        rw [show (((2 * i : Nat) : Int) + 1) = ((2 * i + 1 : Nat) : Int) by omega, Int.toNat_natCast, List.getD_eq_getElem?_getD, List.getElem?_eq_getElem (by omega)]
        rfl
      have htk : l.take (2 * (i + 1)) = l.take (2 * i) ++ [l[2 * i]'h, l[2 * i + 1]'(by omega)] := by
        rw [show 2 * (i + 1) = 2 * i + 1 + 1 by omega, List.take_succ_eq_append_getElem (by omega), List.take_succ_eq_append_getElem h, List.append_assoc]
        rfl
      have hnext := ih (i + 1) (by omega) (by omega)
      rw [htk, pairs_snoc2 _ _ _ (by rw [List.length_take]; omega)] at hnext
      rw [chaseref02_Unhex.l1, if_pos (by omega), if_pos (by omega), e1, if_pos (by omega), if_pos (by omega), if_pos (by omega), r0, r1]
      have e2 := w64 (16 * l[2 * i]'h) (by omega) (by omega)
      have e3 := w64 (16 * l[2 * i]'h + l[2 * i + 1]'(by omega)) (by omega) (by omega)
      have e4 := w64 (((2 * i : Nat) : Int) + 2) (by omega) (by omega)
      rw [e2, e3, e4]
      rw [show (16 * l[2 * i]'h + l[2 * i + 1]'(by omega)) % 256 = 16 * l[2 * i]'h + l[2 * i + 1]'(by omega) by omega, show ((2 * i : Nat) : Int) + 2 = ((2 * (i + 1) : Nat) : Int) by omega]
      exact hnext
    · have e1 := w64 ((at_ : Int) + 1) (by omega) (by omega)
      rw [chaseref02_Unhex.l1, if_neg (by omega), e1, List.take_of_length_le (by omega)]
      rfl
/-- The decoder's state as the digits that have come. -/
structure Inv (l : List Int) (st : Half) : Prop where
  out : st.out = pairs l
  odd : st.odd = decide (l.length % 2 = 1)
  last : l.length % 2 = 1 → ∃ l', l = l' ++ [st.high]
theorem nib_lo (c : Int) (h : ¬ nib c < 0) : 0 ≤ nib c ∧ nib c < 16 := by have := G02u.nib_range c; omega
theorem inv_step (l : List Int) (st : Half) (c : Int) (h : Inv l st) (hc : c ≠ 62) (hn : ¬ nib c < 0) : ∃ st', takeH st c = some (st', false) ∧ Inv (l ++ [nib c]) st' := by
  unfold takeH
  rw [if_neg hc, if_neg hn]
  by_cases ho : l.length % 2 = 1
  · have e : st.odd = true := by rw [h.odd]; exact decide_eq_true ho
    obtain ⟨l', hl'⟩ := h.last ho
    have hev : l'.length % 2 = 0 := by rw [hl', List.length_append, List.length_singleton] at ho; omega
    rw [e]
    refine ⟨_, rfl, ?_, ?_, ?_⟩
    · simp only
      rw [h.out, hl', List.append_assoc, pairs_snoc1 _ _ hev]
      show _ = pairs (l' ++ [st.high, nib c])
      rw [pairs_snoc2 _ _ _ hev, Int.mul_comm]
    · simp only
      rw [List.length_append, List.length_singleton]
      exact (decide_eq_false (by omega)).symm
    · intro h2
      rw [List.length_append, List.length_singleton] at h2
      omega
  · have e : st.odd = false := by rw [h.odd]; exact decide_eq_false ho
    rw [e]
    refine ⟨_, rfl, ?_, ?_, ?_⟩
    · simp only
      rw [h.out, pairs_snoc1 _ _ (by omega)]
    · simp only
      rw [List.length_append, List.length_singleton]
      exact (decide_eq_true (by omega)).symm
    · intro _
      exact ⟨l, rfl⟩
theorem unhex_loop (s : ByteArray) (hs : s.size ≤ 65536) : ∀ (N i : Nat) (l : List Int) (st : Half), s.size - i < N → i ≤ s.size → Inv l st → l.length ≤ i → (∀ x ∈ l, 0 ≤ x ∧ x < 16) →
    ∃ k, chaseref02_Unhex.l0 k s l i = some (fin ((K02.rd takeH (sol ((bytesOf s).drop i) i) st).map (fun q => (q.1.out, q.2)))) := by
  intro N
  induction N with
  | zero => intro i l st h; omega
  | succ N ih =>
    intro i l st hN hi hinv hl hr
    by_cases h : i < s.size
    · have hbr := bt_r s (i : Int)
      have hsol := G02i.sol_cons (bytesOf s) i (by rw [bytesOf_len]; exact h)
      rw [← bt_getD] at hsol
      have c1 : (i : Int) < (s.size : Int) := by omega
      have c2 : (0 : Int) ≤ (i : Int) := by omega
      have e1 := w64 ((i : Int) + 1) (by omega) (by omega)
      generalize hbd : bt s (i : Int) = b at hbr hsol
      by_cases h62 : b = 62
      · subst h62
        rw [show blankC 62 = false by decide] at hsol
        simp only [Bool.false_eq_true, if_false] at hsol
        by_cases ho : l.length % 2 = 1
        · obtain ⟨l', hl'⟩ := hinv.last ho
          have hev : l'.length % 2 = 0 := by rw [hl', List.length_append, List.length_singleton] at ho; omega
          have hh := hr st.high (by rw [hl']; simp)
          have hall := l1_all (l ++ [0]) (by rw [List.length_append, List.length_singleton]; omega) (fun x hx => by
            rcases List.mem_append.1 hx with hx | hx
            · exact hr x hx
            · rw [List.mem_singleton.1 hx]; omega) (by rw [List.length_append, List.length_singleton]; omega) i (by omega) (l.length + 2) 0 (by rw [List.length_append, List.length_singleton]; omega) (by omega)
          have c3 : ((l.length : Int) % 2) = 1 := by omega
          have c4 : l.length < 17592186044416 := by omega
          refine ⟨l.length + 2 + 1 + 1, ?_⟩
          rw [chaseref02_Unhex.l0, if_pos c1, if_pos c2, hbd, if_pos rfl, if_pos c3, if_pos c4, chaseref02_Unhex.j1]
          have e : st.odd = true := by rw [hinv.odd]; exact decide_eq_true ho
          have ht : takeH st 62 = some (⟨st.high, st.odd, st.out ++ [st.high * 16]⟩, true) := by
            unfold takeH
            rw [if_pos rfl, e]
            rfl
          rw [hsol, K02.rd, ht]
          simp only [Option.map_some, fin]
          have hout : st.out ++ [st.high * 16] = pairs (l ++ [0]) := by
            rw [hinv.out, hl', List.append_assoc, pairs_snoc1 _ _ hev]
            show _ = pairs (l' ++ [st.high, 0])
            rw [pairs_snoc2 _ _ _ hev]
            congr 2
            omega
          rw [hout, if_neg (by rw [pairs_len, List.length_append, List.length_singleton]; omega)]
          exact hall
        · have hall := l1_all l (by omega) hr (by omega) i (by omega) (l.length + 2) 0 (by omega) (by omega)
          have c3 : ¬ ((l.length : Int) % 2) = 1 := by omega
          refine ⟨l.length + 2 + 1 + 1, ?_⟩
          rw [chaseref02_Unhex.l0, if_pos c1, if_pos c2, hbd, if_pos rfl, if_neg c3, chaseref02_Unhex.j1]
          have e : st.odd = false := by rw [hinv.odd]; exact decide_eq_false ho
          have ht : takeH st 62 = some (⟨st.high, st.odd, st.out⟩, true) := by
            unfold takeH
            rw [if_pos rfl, e]
            rfl
          rw [hsol, K02.rd, ht]
          simp only [Option.map_some, fin]
          rw [hinv.out, if_neg (by rw [pairs_len]; omega)]
          exact hall
      · cases hbl : blankC b with
        | true =>
          rw [hbl, if_pos rfl] at hsol
          obtain ⟨k, hk⟩ := ih (i + 1) l st (by omega) (by omega) hinv (by omega) hr
          refine ⟨k + 1, ?_⟩
          rw [chaseref02_Unhex.l0, if_pos c1, if_pos c2, hbd, if_neg h62, blank_eq, Option.bind_some, hbl, if_pos rfl, e1, hsol]
          exact hk
        | false =>
          rw [hbl] at hsol
          simp only [Bool.false_eq_true, if_false] at hsol
          by_cases hn : nib b < 0
          · refine ⟨2 + 1, ?_⟩
            rw [chaseref02_Unhex.l0, if_pos c1, if_pos c2, hbd, if_neg h62, blank_eq, Option.bind_some, hbl, if_neg (by decide), value_eq b hbr.1 (by omega) 0, Option.bind_some, if_pos hn, hsol, K02.rd]
            have ht : takeH st b = none := by unfold takeH; rw [if_neg h62, if_pos hn]
            rw [ht]
            rfl
          · obtain ⟨st', ht, hinv'⟩ := inv_step l st b hinv h62 hn
            obtain ⟨k, hk⟩ := ih (i + 1) (l ++ [nib b]) st' (by omega) (by omega) hinv' (by rw [List.length_append, List.length_singleton]; omega) (fun x hx => by
              rcases List.mem_append.1 hx with hx | hx
              · exact hr x hx
              · rw [List.mem_singleton.1 hx]; exact nib_lo b hn)
            have hk2 := chaseref02_Unhex.mono_up hk 2
            refine ⟨k + 2 + 1, ?_⟩
            rw [chaseref02_Unhex.l0, if_pos c1, if_pos c2, hbd, if_neg h62, blank_eq, Option.bind_some, hbl, if_neg (by decide), value_eq b hbr.1 (by omega) k, Option.bind_some, if_neg hn, Option.bind_some, if_pos (by omega), e1, hsol, K02.rd, ht]
            exact hk2
    · refine ⟨1, ?_⟩
      rw [chaseref02_Unhex.l0, if_neg (show ¬ (i : Int) < (s.size : Int) by omega), List.drop_of_length_le (by rw [bytesOf_len]; omega)]
      rfl
theorem ref_unhex (s : ByteArray) : ∃ k, chaseref02_Unhex.f k s = some (unhexRes s) := by
  unfold chaseref02_Unhex.f unhexRes
  by_cases hs : (s.size : Int) > 65536
  · exact ⟨0, by rw [if_pos hs, if_pos hs]⟩
  · obtain ⟨k, hk⟩ := unhex_loop s (by omega) (s.size + 1) 0 [] ⟨0, false, []⟩ (by omega) (by omega) ⟨rfl, rfl, fun h => by simp at h⟩ (by simp) (fun x hx => by simp at hx)
    refine ⟨k, ?_⟩
    rw [if_neg hs, if_neg hs]
    exact hk
end Go.Proofs.Ytkfhpajnlaomeaa.R02
