/- What the reference's Read answers: the reader's codes. -/
import Derived.Test.YtfkiacbjiledcaaR06
namespace Go.Proofs.Ytfkiacbjiledcaa.R06d
open Go.RowKit Go.Proofs.YtfkiacbjiledcaaW.PrintWords Go.Proofs.YtfkiacbjiledcaaW.PrintLast Go.Proofs.YtfkiacbjiledcaaW.PrintMore
open Go.Proofs.Ytfkiacbjiledcaa.K06 Go.Proofs.Ytfkiacbjiledcaa.L06 Go.Proofs.Ytfkiacbjiledcaa.L06b Go.Proofs.Ytfkiacbjiledcaa.P06 Go.Proofs.Ytfkiacbjiledcaa.R06
set_option linter.unusedVariables false
set_option maxRecDepth 100000
theorem bt_getD (s : ByteArray) (i : Nat) : bt s (i : Int) = (bytesOf s).getD i 0 := by
  have := rd_bytesOf s i
  simp only [rd, Int.toNat_natCast] at this
  exact this.symm
def b01 (b : Bool) : Nat := if b then 1 else 0
theorem test_div (t p : Nat) : t / 2 ^ p % 2 = b01 (t.testBit p) := by
  unfold Nat.testBit b01
  rw [Nat.shiftRight_eq_div_pow, Nat.one_and_eq_mod_two]
  rcases Nat.mod_two_eq_zero_or_one (t / 2 ^ p) with h | h <;> rw [h] <;> rfl
theorem bit_lo (t : Nat) (ht : t < 256) : ∀ (n i : Nat), i + n = 7 → ∀ (m : Nat), Evt (fun k => chaseref06_bit.l0 k ((t / 2 ^ m : Nat) : Int) (i : Int)) ((b01 (t.testBit (m + n)) : Nat) : Int) := by
  intro n
  induction n with
  | zero =>
    intro i hi m
    refine (Evt.const _).step (fun k => ?_)
    have c1 : ¬ (i : Int) < 7 := by omega
    have e : Int.tmod ((t / 2 ^ m : Nat) : Int) 2 = ((t / 2 ^ m % 2 : Nat) : Int) := (Int.ofNat_tmod _ _).symm
    rw [chaseref06_bit.l0, if_neg c1, e, test_div, Nat.add_zero]
  | succ n ih =>
    intro i hi m
    have h := ih (i + 1) (by omega) (m + 1)
    rw [show m + 1 + n = m + (n + 1) by omega] at h
    refine h.step (fun k => ?_)
    have c1 : (i : Int) < 7 := by omega
    have d1 : t / 2 ^ m < 4611686018427387904 := Nat.lt_of_le_of_lt (Nat.div_le_self _ _) (by omega)
    have d2 : i + 1 < 4611686018427387904 := by omega
    have e1 := wD (t / 2 ^ m) 2 d1
    have e2 := wA i 1 d2
    simp only [Int.cast_ofNat_Int] at e1 e2
    rw [chaseref06_bit.l0, if_pos c1, e1, e2, Nat.div_div_eq_div_mul, Nat.pow_succ]
theorem bit_ev (s : ByteArray) (hs : s.size ≤ 65536) (p : Nat) (hp : p < 8 * s.size) : Evt (fun k => chaseref06_bit.f k s (p : Int)) ((b01 ((obits (bytesOf s)).getD p false) : Nat) : Int) := by
  have hl := bytesOf_len s
  have hm : p / 8 < (bytesOf s).length := by omega
  have g := obits_get (bytesOf s) (p / 8) (p % 8) hm (by omega)
  rw [show 8 * (p / 8) + p % 8 = p by omega] at g
  have hr : 0 ≤ (bytesOf s).getD (p / 8) 0 ∧ (bytesOf s).getD (p / 8) 0 < 256 := by
    rw [List.getD_eq_getElem?_getD, List.getElem?_eq_getElem hm]
    exact bytesOf_range s _ (List.getElem_mem hm)
  have hb := bt_getD s (p / 8)
  obtain ⟨t, ht⟩ := Int.eq_ofNat_of_zero_le hr.1
  rw [ht] at g hr hb
  have h := bit_lo t (by omega) (7 - p % 8) (p % 8) (by omega) 0
  rw [Nat.pow_zero, Nat.div_one, Nat.zero_add] at h
  rw [List.getD_eq_getElem?_getD, g]
  refine h.same (fun k => ?_)
  have d1 : p < 4611686018427387904 := by omega
  have d2 : t < 4611686018427387904 := by omega
  have c1 : (0 : Int) ≤ ((p / 8 : Nat) : Int) := by omega
  have c2 : ((p / 8 : Nat) : Int) < (s.size : Int) := by omega
  have e1 := wD p 8 d1
  have e2 := wN t d2
  have e3 : Int.tmod (p : Int) 8 = ((p % 8 : Nat) : Int) := (Int.ofNat_tmod _ _).symm
  simp only [Int.cast_ofNat_Int] at e1
  unfold chaseref06_bit.f
  rw [e1, if_pos c1, if_pos c2, hb, e2, e3]
/-- What Read answers of the reader's codes. -/
def readRes : List It → List Int → List Int × Int × Bool
  | [], _ => ([], 0, false)
  | x :: xs, out => if 257 + x.j < x.code then ([], 0, false) else if x.code = 257 then (if x.rs.bits = 0 then (out ++ [(x.code : Int)], (x.rs.at_ : Int), true) else ([], 0, false)) else readRes xs (out ++ [(x.code : Int)])
theorem top_bit2 (t w i : Nat) (hi : i < w) : t / 2 ^ (w - (i + 1)) = t / 2 ^ (w - i) * 2 + b01 (t.testBit (w - 1 - i)) := by
  have e : t / 2 ^ (w - i) = t / 2 ^ (w - 1 - i) / 2 := by rw [Nat.div_div_eq_div_mul, ← Nat.pow_succ, show (w - 1 - i).succ = w - i by omega]
  rw [e, show w - (i + 1) = w - 1 - i by omega, ← test_div]
  omega
theorem pad_ev (s : ByteArray) (hs : s.size ≤ 65536) (out : List Int) (m : Nat) (hm : m ≤ s.size) (b : Nat) (hb8 : b < 256) (B : List Bool) : ∀ (h p : Nat), h < 8 → p + h = 8 * m → (obits (bytesOf s)).drop p = bw h b ++ B →
    Evt (fun k => chaseref06_Read.l2 k s out (p : Int)) (if b % 2 ^ h = 0 then (out, (m : Int), true) else ([], 0, false)) := by
  intro h
  induction h with
  | zero =>
    intro p _ hp hB
    rw [if_pos (by rw [Nat.pow_zero, Nat.mod_one])]
    refine (Evt.const _).step (fun k => ?_)
    have e3 : Int.tmod (p : Int) 8 = ((p % 8 : Nat) : Int) := (Int.ofNat_tmod _ _).symm
    have c1 : ¬ ((p % 8 : Nat) : Int) > 0 := by omega
    have d1 : p < 4611686018427387904 := by omega
    have d2 : p / 8 = m := by omega
    have e1 := wD p 8 d1
    simp only [Int.cast_ofNat_Int] at e1
    rw [chaseref06_Read.l2, e3, if_neg c1, e1, d2]
  | succ h ih =>
    intro p h8 hp hB
    have hps : p < 8 * s.size := by omega
    have hg : (obits (bytesOf s)).getD p false = b.testBit h := by
      have := congrArg (fun l => l[0]?) hB
      simp only [List.getElem?_drop, Nat.add_zero] at this
      rw [List.getD_eq_getElem?_getD, this]
      rfl
    have hbe := bit_ev s hs p hps
    rw [hg] at hbe
    have hB2 : (obits (bytesOf s)).drop (p + 1) = bw h b ++ B := by
      rw [← List.drop_drop, hB]
      rfl
    have ih' := ih (p + 1) (by omega) (by omega) hB2
    have e3 : Int.tmod (p : Int) 8 = ((p % 8 : Nat) : Int) := (Int.ofNat_tmod _ _).symm
    have c1 : ((p % 8 : Nat) : Int) > 0 := by omega
    have d1 : p + 1 < 4611686018427387904 := by omega
    have e1 := wA p 1 d1
    simp only [Int.cast_ofNat_Int] at e1
    have ht := test_div b h
    have hpow : b % 2 ^ (h + 1) = b % 2 ^ h + 2 ^ h * (b / 2 ^ h % 2) := by rw [Nat.pow_succ, Nat.mod_mul]
    have key := hbe.bind (h := fun k t144 => if t144 = 1 then (some (([] : List Int), (0 : Int), false)) else (chaseref06_Read.l2 k s out (wrap64 ((p : Int) + 1)))) (r := if b % 2 ^ (h + 1) = 0 then (out, (m : Int), true) else ([], 0, false)) (by
      rw [e1]
      cases hv : b.testBit h with
      | true =>
        rw [hv] at ht
        have hpp : 0 < 2 ^ h := Nat.pow_pos (by decide)
        rw [if_neg (by rw [hpow, ht]; unfold b01; rw [if_pos rfl]; omega)]
        exact (Evt.const _).same (fun k => if_pos (by decide))
      | false =>
        rw [hv] at ht
        have : b % 2 ^ (h + 1) = b % 2 ^ h := by rw [hpow, ht]; unfold b01; simp
        rw [this]
        exact ih'.same (fun k => by rw [if_neg (by decide)]))
    refine key.step (fun k => ?_)
    rw [chaseref06_Read.l2, e3, if_pos c1]
theorem code_ev (s : ByteArray) (hs : s.size ≤ 65536) (out : List Int) (j p c : Nat) (hj : j ≤ 3838) (hp : p + wd j ≤ 8 * s.size) (B : List Bool) (hc : c < 2 ^ wd j) (hB : (obits (bytesOf s)).drop p = bw (wd j) c ++ B) (hout : out.length ≤ 1000000)
    (r : List Int × Int × Bool) (e : if 257 + j < c then r = ([], 0, false) else Evt (fun k => chaseref06_Read.j3 k s (out ++ [(c : Int)]) ((nextJ j c : Nat) : Int) ((p + wd j : Nat) : Int) (c : Int)) r) : ∀ (n i : Nat), i + n = wd j →
    Evt (fun k => chaseref06_Read.l1 k s out (j : Int) (p : Int) ((c / 2 ^ (wd j - i) : Nat) : Int) (i : Int)) r := by
  have hw := wd_le j
  have hc12 : c < 4096 := Nat.lt_of_lt_of_le hc (Nat.le_trans (Nat.pow_le_pow_right (by decide) hw) (by decide))
  intro n
  induction n with
  | zero =>
    intro i hi
    have hi' : i = wd j := by omega
    subst hi'
    rw [Nat.sub_self, Nat.pow_zero, Nat.div_one]
    have c1 : ¬ ((wd j : Nat) : Int) < ((wd j : Nat) : Int) := by omega
    have c2 : out.length < 17592186044416 := by omega
    have d1 : 257 + j < 4611686018427387904 := by omega
    have d2 : p + wd j < 4611686018427387904 := by omega
    have d3 : j + 1 < 4611686018427387904 := by omega
    have e1 := wA 257 j d1
    have e2 := wA p (wd j) d2
    have e3 := wA j 1 d3
    simp only [Int.cast_ofNat_Int] at e1 e2 e3
    have inner : Evt (fun k => (chaseref06_Width.f k (j : Int)).bind fun t140 => (if (c : Int) > (wrap64 (257 + (j : Int))) then (some (([] : List Int), (0 : Int), false)) else (if out.length < 17592186044416 then ((some (out ++ [(c : Int)] : List Int)).bind fun y141 => (if (c : Int) = 256 then (chaseref06_Read.j3 k s y141 0 (wrap64 ((p : Int) + t140)) (c : Int)) else (chaseref06_Read.j3 k s y141 (wrap64 ((j : Int) + 1)) (wrap64 ((p : Int) + t140)) (c : Int)))) else (none)))) r := by
      refine (wid j hj).bind (h := fun k t140 => (if (c : Int) > (wrap64 (257 + (j : Int))) then (some (([] : List Int), (0 : Int), false)) else (if out.length < 17592186044416 then ((some (out ++ [(c : Int)] : List Int)).bind fun y141 => (if (c : Int) = 256 then (chaseref06_Read.j3 k s y141 0 (wrap64 ((p : Int) + t140)) (c : Int)) else (chaseref06_Read.j3 k s y141 (wrap64 ((j : Int) + 1)) (wrap64 ((p : Int) + t140)) (c : Int)))) else (none)))) ?_
      rw [e1, e2, e3]
      clear e1 e2 e3 c1
      by_cases c3 : 257 + j < c
      · rw [if_pos c3] at e
        rw [e]
        exact (Evt.const _).same (fun k => by rw [if_pos (by omega)])
      · rw [if_neg c3] at e
        refine e.same (fun k => ?_)
        rw [if_neg (by omega), if_pos c2, Option.bind_some]
        unfold nextJ
        by_cases c4 : c = 256
        · rw [if_pos c4, if_pos (by omega)]; rfl
        · rw [if_neg c4, if_neg (by omega)]
    have outer := (wid j hj).bind (h := fun k t138 => (if ((wd j : Nat) : Int) < t138 then ((chaseref06_bit.f k s (wrap64 ((p : Int) + ((wd j : Nat) : Int)))).bind fun t139 => (chaseref06_Read.l1 k s out (j : Int) (p : Int) (wrap64 ((wrap64 ((c : Int) * 2)) + t139)) (wrap64 (((wd j : Nat) : Int) + 1)))) else ((chaseref06_Width.f k (j : Int)).bind fun t140 => (if (c : Int) > (wrap64 (257 + (j : Int))) then (some (([] : List Int), (0 : Int), false)) else (if out.length < 17592186044416 then ((some (out ++ [(c : Int)] : List Int)).bind fun y141 => (if (c : Int) = 256 then (chaseref06_Read.j3 k s y141 0 (wrap64 ((p : Int) + t140)) (c : Int)) else (chaseref06_Read.j3 k s y141 (wrap64 ((j : Int) + 1)) (wrap64 ((p : Int) + t140)) (c : Int)))) else (none)))))) (r := r) (inner.same (fun k => by simp only [if_neg c1]))
    refine outer.step (fun k => ?_)
    rw [chaseref06_Read.l1]
  | succ n ih =>
    intro i hi
    have hg : (obits (bytesOf s)).getD (p + i) false = c.testBit (wd j - 1 - i) := by
      have := congrArg (fun l => l[i]?) hB
      simp only [List.getElem?_drop] at this
      rw [List.getD_eq_getElem?_getD, this, List.getElem?_append_left (by rw [bw_len]; omega), bw_get _ _ _ (by omega)]
      rfl
    have hbe := bit_ev s hs (p + i) (by omega)
    rw [hg] at hbe
    have ih' := ih (i + 1) (by omega)
    rw [top_bit2 c (wd j) i (by omega)] at ih'
    have hsm : c / 2 ^ (wd j - i) < 4096 := Nat.lt_of_le_of_lt (Nat.div_le_self _ _) hc12
    generalize c / 2 ^ (wd j - i) = u at ih' hsm ⊢
    have hb1 : b01 (c.testBit (wd j - 1 - i)) ≤ 1 := by unfold b01; split <;> omega
    generalize b01 (c.testBit (wd j - 1 - i)) = v at ih' hbe hb1
    have c1 : (i : Int) < ((wd j : Nat) : Int) := by omega
    have d1 : p + i < 4611686018427387904 := by omega
    have d2 : u * 2 < 4611686018427387904 := by omega
    have d3 : u * 2 + v < 4611686018427387904 := by omega
    have d4 : i + 1 < 4611686018427387904 := by omega
    have e1 := wA p i d1
    have e2 := wM u 2 d2
    have e3 := wA (u * 2) v d3
    have e4 := wA i 1 d4
    simp only [Int.cast_ofNat_Int] at e1 e2 e3 e4
    have key := (wid j hj).bind (h := fun k t138 => (if (i : Int) < t138 then ((chaseref06_bit.f k s (wrap64 ((p : Int) + (i : Int)))).bind fun t139 => (chaseref06_Read.l1 k s out (j : Int) (p : Int) (wrap64 ((wrap64 ((u : Int) * 2)) + t139)) (wrap64 ((i : Int) + 1)))) else ((chaseref06_Width.f k (j : Int)).bind fun t140 => (if (u : Int) > (wrap64 (257 + (j : Int))) then (some (([] : List Int), (0 : Int), false)) else (if out.length < 17592186044416 then ((some (out ++ [(u : Int)] : List Int)).bind fun y141 => (if (u : Int) = 256 then (chaseref06_Read.j3 k s y141 0 (wrap64 ((p : Int) + t140)) (u : Int)) else (chaseref06_Read.j3 k s y141 (wrap64 ((j : Int) + 1)) (wrap64 ((p : Int) + t140)) (u : Int)))) else (none)))))) (r := r) (by
      simp only [if_pos c1, e1, e2, e4]
      refine hbe.bind (h := fun k t139 => chaseref06_Read.l1 k s out (j : Int) (p : Int) (wrap64 (((u * 2 : Nat) : Int) + t139)) ((i + 1 : Nat) : Int)) ?_
      simp only [e3]
      exact ih')
    refine key.step (fun k => ?_)
    rw [chaseref06_Read.l1]
theorem read_main (s : ByteArray) (hs : s.size ≤ 65536) : ∀ (f j p : Nat) (r : Rs) (out : List Int), Rok (bytesOf s) r → (rem (bytesOf s) r) = (obits (bytesOf s)).drop p → p + (rem (bytesOf s) r).length = 8 * s.size → (rem (bytesOf s) r).length < 9 * f + 9 → out.length + f ≤ 100000 →
    Evt (fun k => chaseref06_Read.l0 k s out (j : Int) (p : Int)) (readRes (items f (bytesOf s) j r) out) := by
  have hl := bytesOf_len s
  have ho := bytesOf_range s
  have fail : ∀ (j p : Nat) (r : Rs) (out : List Int), Rok (bytesOf s) r → p + (rem (bytesOf s) r).length = 8 * s.size → readR (bytesOf s) j r = none → Evt (fun k => chaseref06_Read.l0 k s out (j : Int) (p : Int)) (([] : List Int), (0 : Int), false) := by
    intro j p r out hr hp hn
    by_cases cj : j ≤ 3838
    · have hw := wd_le j
      have hw9 := wd_pos cj
      have hlt : (rem (bytesOf s) r).length < wd j := by
        apply Nat.lt_of_not_le
        intro hle
        obtain ⟨q, hq⟩ := fill_some (bytesOf s) (wd j) 2 r (by omega) hle
        unfold readR at hn
        rw [if_neg (by omega), hq] at hn
        cases hn
      have c1 : ¬ (j : Int) > 3838 := by omega
      have d1 : p + wd j < 4611686018427387904 := by omega
      have d2 : 8 * s.size < 4611686018427387904 := by omega
      have c2 : ((p + wd j : Nat) : Int) > ((8 * s.size : Nat) : Int) := by omega
      have e1 := wA p (wd j) d1
      have e2 := wM 8 s.size d2
      simp only [Int.cast_ofNat_Int] at e1 e2
      have key := (wid j cj).bind (h := fun k t137 => chaseref06_Read.j1 k s out (j : Int) (p : Int) (decide ((wrap64 ((p : Int) + t137)) > (wrap64 (8 * (s.size : Int)))))) (r := (([] : List Int), (0 : Int), false)) (by
        rw [e1, e2, decide_eq_true c2]
        exact (Evt.const _).step (fun k => by rw [chaseref06_Read.j1, if_pos rfl]))
      refine key.step (fun k => ?_)
      rw [chaseref06_Read.l0, if_neg c1]
    · have c1 : (j : Int) > 3838 := by omega
      have : Evt (fun k => chaseref06_Read.j1 k s out (j : Int) (p : Int) true) (([] : List Int), (0 : Int), false) := (Evt.const _).step (fun k => by rw [chaseref06_Read.j1, if_pos rfl])
      refine this.step (fun k => ?_)
      rw [chaseref06_Read.l0, if_pos c1]
  intro f
  induction f with
  | zero =>
    intro j p r out hr hB hp hf ho'
    refine fail j p r out hr hp ?_
    by_cases cj : wd j = 0
    · unfold readR; rw [if_pos cj]
    · exact read_none ho hr (by have := wd_ge cj; omega)
  | succ f ih =>
    intro j p r out hr hB hp hf ho'
    unfold items
    cases hq : readR (bytesOf s) j r with
    | none => exact fail j p r out hr hp hq
    | some pq =>
      obtain ⟨c, q⟩ := pq
      obtain ⟨g1, g2, g3, g4⟩ := read_ok ho hr hq
      have cj : j ≤ 3838 := by
        apply Nat.le_of_not_lt
        intro h
        have : wd j = 0 := by unfold wd; repeat' split
                              all_goals omega
        omega
      have hlen := congrArg List.length g1
      rw [List.length_append, bw_len] at hlen
      have hw := wd_le j
      have hrem : rem (bytesOf s) q = (obits (bytesOf s)).drop (p + wd j) := by
        rw [← List.drop_drop, ← hB, g1, List.drop_left' (bw_len _ _)]
      have hpw : p + wd j ≤ 8 * s.size := by omega
      have c1 : ¬ (j : Int) > 3838 := by omega
      have d1 : p + wd j < 4611686018427387904 := by omega
      have d2 : 8 * s.size < 4611686018427387904 := by omega
      have c2 : ¬ ((p + wd j : Nat) : Int) > ((8 * s.size : Nat) : Int) := by omega
      have inner : Evt (fun k => chaseref06_Read.l1 k s out (j : Int) (p : Int) ((c / 2 ^ (wd j - 0) : Nat) : Int) ((0 : Nat) : Int)) (readRes (⟨j, c, q⟩ :: if c = 257 then [] else items f (bytesOf s) (nextJ j c) q) out) := by
        refine code_ev s hs out j p c cj hpw (rem (bytesOf s) q) g2 (by rw [← hB, g1]) (by omega) _ ?_ (wd j) 0 (by omega)
        unfold readRes
        simp only
        by_cases c3 : 257 + j < c
        · rw [if_pos c3, if_pos c3]
        · rw [if_neg c3, if_neg c3]
          by_cases c4 : c = 257
          · subst c4
            rw [if_pos rfl]
            have hq3 := g3.held
            have hq4 := g3.bits
            have hq5 := g3.at_
            have hrl := rem_len (bytesOf s) q
            have hpd := pad_ev s hs (out ++ [((257 : Nat) : Int)]) q.at_ (by omega) q.bits (by have : 2 ^ q.held ≤ 2 ^ 7 := Nat.pow_le_pow_right (by decide) (by omega); omega) (obits ((bytesOf s).drop q.at_)) q.held (p + wd j) hq3 (by omega) (by rw [← hrem]; rfl)
            rw [Nat.mod_eq_of_lt hq4] at hpd
            refine hpd.step (fun k => ?_)
            rw [chaseref06_Read.j3, if_pos (by decide)]
          · rw [if_neg c4, if_neg c4]
            have h := ih (nextJ j c) (p + wd j) q (out ++ [(c : Int)]) g3 hrem (by omega) (by omega) (by simp; omega)
            refine h.step (fun k => ?_)
            rw [chaseref06_Read.j3, if_neg (by omega)]
      rw [Nat.sub_zero, Nat.div_eq_of_lt g2] at inner
      have e1 := wA p (wd j) d1
      have e2 := wM 8 s.size d2
      simp only [Int.cast_ofNat_Int] at e1 e2
      have key := (wid j cj).bind (h := fun k t137 => chaseref06_Read.j1 k s out (j : Int) (p : Int) (decide ((wrap64 ((p : Int) + t137)) > (wrap64 (8 * (s.size : Int)))))) (r := readRes (⟨j, c, q⟩ :: if c = 257 then [] else items f (bytesOf s) (nextJ j c) q) out) (by
        rw [e1, e2, decide_eq_false c2]
        exact inner.step (fun k => by rw [chaseref06_Read.j1, if_neg Bool.false_ne_true]; rfl))
      refine key.step (fun k => ?_)
      rw [chaseref06_Read.l0, if_neg c1]
theorem read_ev (s : ByteArray) (hs : s.size ≤ 65536) : Evt (fun k => chaseref06_Read.f k s) (readRes (items ((bytesOf s).length + 1) (bytesOf s) 0 ⟨0, 0, 0⟩) []) := by
  have hl := bytesOf_len s
  have h := read_main s hs ((bytesOf s).length + 1) 0 0 ⟨0, 0, 0⟩ [] (start_ok _) (by rw [rem_start]; rfl) (by rw [rem_start, obits_len, hl]; omega) (by rw [rem_start, obits_len]; omega) (by simp; omega)
  exact h
end Go.Proofs.Ytfkiacbjiledcaa.R06d
