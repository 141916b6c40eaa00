/- The reference's way of decoding codes (strings) answers as the decoder's (parts of the output). Plain. -/
import Derived.Test.YtfkiacbjiledcaaR06d
import Derived.Test.YtfkiacbjiledcaaL06d
namespace Go.Proofs.Ytfkiacbjiledcaa.L06r
open Go.RowKit Go.Proofs.YtfkiacbjiledcaaW.PrintWords Go.Proofs.YtfkiacbjiledcaaW.PrintLast Go.Proofs.YtfkiacbjiledcaaW.PrintMore
open Go.Proofs.Ytfkiacbjiledcaa.K06 Go.Proofs.Ytfkiacbjiledcaa.L06 Go.Proofs.Ytfkiacbjiledcaa.L06b Go.Proofs.Ytfkiacbjiledcaa.L06d Go.Proofs.Ytfkiacbjiledcaa.R06 Go.Proofs.Ytfkiacbjiledcaa.R06d
set_option linter.unusedVariables false
set_option maxRecDepth 100000
/-- The string of a code, if the reference does not panic. -/
def nowS (KN : List ByteArray) (last : ByteArray) (c : Int) : Option ByteArray :=
  if c < 256 then some (strOfNums [c]) else if c - 258 < (KN.length : Int) then (if 258 ≤ c then some (rdOf ByteArray.empty KN (c - 258)) else none)
  else if 1 ≤ last.size then some (last ++ last.extract 0 1) else none
def roomS (KN : List ByteArray) (last now : ByteArray) (out : List Int) (c : Int) : Prop := last.size ≤ 70000 ∧ now.size ≤ 70001 ∧ 1 ≤ now.size ∧ out.length ≤ 8589934592 ∧ KN.length ≤ 70000 ∧ 0 ≤ c ∧ c < 5000
instance (KN : List ByteArray) (last now : ByteArray) (out : List Int) (c : Int) : Decidable (roomS KN last now out c) := by unfold roomS; exact inferInstance
def knS (KN : List ByteArray) (last now : ByteArray) : List ByteArray := if last.size = 0 then KN else KN ++ [last ++ now.extract 0 1]
/-- The octets that codes denote, as the reference finds them. -/
def runS : List Int → List ByteArray → ByteArray → List Int → Option (List Int)
  | [], _, _, out => some out
  | c :: cs, KN, last, out => if c = 257 then some out else if c = 256 then runS cs [] ⟨#[]⟩ out else
    (nowS KN last c).bind fun now => if roomS KN last now out c then runS cs (knS KN last now) now (out ++ bytesOf now) else none
/-- The reference's strings are the decoder's parts. -/
structure Rel (j : Nat) (KN : List ByteArray) (last : ByteArray) (out : List Int) (d : Ds) : Prop where
  kl : KN.length = d.known.length
  j0 : j = 0 → d.known = [] ∧ last.size = 0
  j1 : 0 < j → 1 ≤ last.size ∧ last.size = d.last.2
  len : ∀ (i a n : Nat) (v : ByteArray), d.known[i]? = some (a, n) → KN[i]? = some v → v.size = n
  tot : out.length = d.total
  out_ : d.total ≤ 65536 → d.out = out
  lst : d.total ≤ 65536 → 0 < j → d.last.1 + d.last.2 = out.length ∧ bytesOf last = out.drop d.last.1
  val : d.total ≤ 65536 → ∀ (i a n : Nat) (v : ByteArray), d.known[i]? = some (a, n) → KN[i]? = some v → a + n ≤ out.length ∧ bytesOf v = (out.drop a).take n
theorem Rel.start : Rel 0 [] ⟨#[]⟩ [] D0 := ⟨rfl, fun _ => ⟨rfl, rfl⟩, fun h => absurd h (by decide), fun i a n v h => by simp [D0] at h, rfl, fun _ => rfl, fun _ h => absurd h (by decide), fun _ i a n v h => by simp [D0] at h⟩
theorem Rel.clear {j : Nat} {KN : List ByteArray} {last : ByteArray} {out : List Int} {d : Ds} (h : Rel j KN last out d) : Rel 0 [] ⟨#[]⟩ out ⟨[], d.last, d.total, d.out⟩ :=
  ⟨rfl, fun _ => ⟨rfl, rfl⟩, fun h => absurd h (by decide), fun i a n v h => by simp at h, h.tot, h.out_, fun _ h => absurd h (by decide), fun _ i a n v h => by simp at h⟩
theorem take_app (out x : List Int) (a n : Nat) (h : a + n ≤ out.length) : ((out ++ x).drop a).take n = (out.drop a).take n := by
  rw [List.drop_append_of_le_length (by omega), List.take_append_of_le_length (by rw [List.length_drop]; omega)]
theorem kn_get {d : Ds} {j i : Nat} {p : Nat × Nat} (h : (kn d j)[i]? = some p) : d.known[i]? = some p ∨ (0 < j ∧ i = d.known.length ∧ p = (d.last.1, d.last.2 + 1)) := by
  unfold kn at h
  by_cases hj : 0 < j
  · rw [if_pos hj] at h
    by_cases c : i < d.known.length
    · rw [List.getElem?_append_left c] at h
      exact .inl h
    · rw [List.getElem?_append_right (by omega)] at h
      by_cases e : i - d.known.length = 0
      · rw [e] at h
        simp only [List.getElem?_cons_zero, Option.some.injEq] at h
        exact .inr ⟨hj, by omega, h.symm⟩
      · rw [List.getElem?_eq_none (by simp only [List.length_singleton]; omega)] at h
        cases h
  · rw [if_neg hj] at h
    exact .inl h
theorem knS_get {KN : List ByteArray} {last now : ByteArray} {i : Nat} {v : ByteArray} (h : (knS KN last now)[i]? = some v) : KN[i]? = some v ∨ (last.size ≠ 0 ∧ i = KN.length ∧ v = last ++ now.extract 0 1) := by
  unfold knS at h
  by_cases hj : last.size = 0
  · rw [if_pos hj] at h
    exact .inl h
  · rw [if_neg hj] at h
    by_cases c : i < KN.length
    · rw [List.getElem?_append_left c] at h
      exact .inl h
    · rw [List.getElem?_append_right (by omega)] at h
      by_cases e : i - KN.length = 0
      · rw [e] at h
        simp only [List.getElem?_cons_zero, Option.some.injEq] at h
        exact .inr ⟨hj, by omega, h.symm⟩
      · rw [List.getElem?_eq_none (by simp only [List.length_singleton]; omega)] at h
        cases h
/-- The string of a code: as long as the part; and the part's octets. -/
theorem now_ok {k j c : Nat} {KN : List ByteArray} {last : ByteArray} {out : List Int} {d : Ds} (h : Rel j KN last out d) (hd : DI k d j) (hc : c ≤ 257 + j) (h7 : c ≠ 257) (h6 : c ≠ 256) :
    ∃ now, nowS KN last (c : Int) = some now ∧ now.size = longOf (kn d j) c ∧ 1 ≤ now.size ∧ (d.total + longOf (kn d j) c ≤ 65536 → (c < 256 → d.out ++ [(c : Int)] = out ++ bytesOf now) ∧ (¬ c < 256 → copyN (longOf (kn d j) c) ((kn d j).getD (c - 258) (0, 0)).1 d.out = out ++ bytesOf now)) := by
  have hb := long_bd hd hc h7
  unfold nowS
  by_cases c1 : c < 256
  · have hbt : bytesOf (strOfNums [(c : Int)]) = [(c : Int)] := bytesOf_strOf _ (Oct.one (by omega) (by omega))
    have hl : longOf (kn d j) c = 1 := by unfold longOf; rw [if_neg (by omega)]
    have hsz : (strOfNums [(c : Int)]).size = 1 := strOf_size _
    refine ⟨_, if_pos (by omega), by rw [hl, hsz], by rw [hsz]; exact Nat.le_refl _, fun ht => ⟨fun _ => ?_, fun hn => absurd c1 hn⟩⟩
    rw [h.out_ (by omega), hbt]
  · rw [if_neg (by omega)]
    have hj : 0 < j := by omega
    have hkl := hd.len
    have hkn : kn d j = d.known ++ [(d.last.1, d.last.2 + 1)] := by unfold kn; rw [if_pos hj]
    have hkl2 := hkl
    rw [hkn, List.length_append, List.length_singleton] at hkl2
    have hlong : longOf (kn d j) c = ((kn d j).getD (c - 258) (0, 0)).2 := by unfold longOf; rw [if_pos (by omega)]
    have hk := h.kl
    by_cases c2 : c - 258 < KN.length
    · rw [if_pos (by omega), if_pos (by omega)]
      have hi : c - 258 < d.known.length := by omega
      have e1 : d.known[c - 258]? = some d.known[c - 258] := List.getElem?_eq_getElem hi
      have e2 : (kn d j).getD (c - 258) (0, 0) = d.known[c - 258] := by
        rw [hkn, List.getD_eq_getElem?_getD, List.getElem?_append_left hi, e1]
        rfl
      have e3 : KN[c - 258]? = some (rdOf ByteArray.empty KN ((c : Int) - 258)) := by
        unfold rdOf
        rw [show ((c : Int) - 258).toNat = c - 258 by omega, List.getD_eq_getElem?_getD, List.getElem?_eq_getElem c2]
        rfl
      generalize hp : d.known[c - 258] = p at e1 e2
      obtain ⟨a, n⟩ := p
      rw [e2] at hlong ⊢
      have hlen := h.len _ _ _ _ e1 e3
      refine ⟨_, rfl, by rw [hlong]; exact hlen, by omega, fun ht => ⟨fun hn => absurd hn c1, fun _ => ?_⟩⟩
      obtain ⟨v1, v2⟩ := h.val (by omega) _ _ _ _ e1 e3
      have hpart := hd.parts (a, n) (by rw [hkn]; exact List.mem_append_left _ (List.mem_of_getElem? e1))
      rw [h.out_ (by omega), hlong]
      simp only
      refine copy_ok _ n a out _ [] rfl ?_ (by rw [bytesOf_len]; exact hlen) (by have := h.tot; omega)
      rw [List.append_nil, take_app _ _ _ _ v1]
      exact v2
    · obtain ⟨hl1, hl2⟩ := h.j1 hj
      rw [if_neg (by omega), if_pos hl1]
      have e2 : (kn d j).getD (c - 258) (0, 0) = (d.last.1, d.last.2 + 1) := by
        rw [hkn, List.getD_eq_getElem?_getD, List.getElem?_append_right (by omega), show c - 258 - d.known.length = 0 by omega]
        rfl
      rw [e2] at hlong ⊢
      have hsz : (last ++ last.extract 0 1).size = last.size + 1 := by rw [ByteArray.size_append, ByteArray.size_extract]; omega
      refine ⟨_, rfl, by rw [hsz, hlong, hl2], by omega, fun ht => ⟨fun hn => absurd hn c1, fun _ => ?_⟩⟩
      obtain ⟨v1, v2⟩ := h.lst (by omega) hj
      rw [h.out_ (by omega), hlong]
      simp only
      have hll := bytesOf_len last
      have hnow : bytesOf (last ++ last.extract 0 1) = bytesOf last ++ (bytesOf last).take 1 := by rw [bytesOf_append, bytesOf_extract]; simp
      refine copy_ok _ (d.last.2 + 1) d.last.1 out _ [] rfl ?_ (by rw [bytesOf_len, hsz, hl2]) (by omega)
      have e : ∀ X : List Int, (bytesOf last ++ X).take (d.last.2 + 1) = bytesOf last ++ X.take 1 := fun X => by
        rw [List.take_append, List.take_of_length_le (by omega), show d.last.2 + 1 - (bytesOf last).length = 1 by omega]
      rw [List.append_nil, List.drop_append_of_le_length (by omega), ← v2, e, hnow, List.take_append_of_le_length (by omega)]
theorem Rel.next {k j c : Nat} {KN : List ByteArray} {last : ByteArray} {out : List Int} {d d' : Ds} (h : Rel j KN last out d) (hd : DI k d j) (hc : c ≤ 257 + j) (h7 : c ≠ 257) (h6 : c ≠ 256) (hs : stepD d j c = some d') (hk : k ≤ 65540) (hj38 : j ≤ 3838) :
    ∃ now, nowS KN last (c : Int) = some now ∧ roomS KN last now out (c : Int) ∧ Rel (j + 1) (knS KN last now) now (out ++ bytesOf now) d' := by
  obtain ⟨now, g1, g2, g3, g4⟩ := now_ok h hd hc h7 h6
  have hb := long_bd hd hc h7
  have hnl := bytesOf_len now
  have hll := bytesOf_len last
  have htot := h.tot
  have htk := hd.tot
  have hlk := hd.last
  have hkl := h.kl
  have hjl := hd.len
  have hknl : j ≠ 0 → d.known.length + 1 = j := by
    intro hj
    unfold kn at hjl
    rw [if_pos (by omega), List.length_append, List.length_singleton] at hjl
    exact hjl
  have hkn0 : j = 0 → d.known.length = 0 := fun hj => by rw [(h.j0 hj).1]; rfl
  have hlast : last.size = 0 ↔ j = 0 := by
    constructor
    · intro e
      apply Nat.le_antisymm _ (Nat.zero_le _)
      apply Nat.le_of_not_lt
      intro hj
      have := (h.j1 hj).1
      omega
    · intro e
      exact (h.j0 e).2
  refine ⟨now, g1, ⟨?_, by omega, g3, by omega, by omega, by omega, by omega⟩, ?_⟩
  · by_cases hj : j = 0
    · have := (h.j0 hj).2; omega
    · have := (h.j1 (by omega)).2; omega
  -- the new state
  obtain ⟨o2, hd', ho2⟩ : ∃ o2, d' = ⟨kn d j, (d.total, longOf (kn d j) c), d.total + longOf (kn d j) c, o2⟩ ∧ (d.total + longOf (kn d j) c ≤ 65536 → o2 = out ++ bytesOf now) := by
    unfold stepD at hs
    rw [if_neg h7, if_neg h6, if_neg (by omega)] at hs
    by_cases c1 : 65536 < d.total + longOf (kn d j) c
    · rw [if_pos c1] at hs
      exact ⟨_, (Option.some.inj hs).symm, fun hh => by omega⟩
    · rw [if_neg c1] at hs
      by_cases c2 : c < 256
      · rw [if_pos c2] at hs
        exact ⟨_, (Option.some.inj hs).symm, fun hh => (g4 hh).1 c2⟩
      · rw [if_neg c2] at hs
        exact ⟨_, (Option.some.inj hs).symm, fun hh => (g4 hh).2 c2⟩
  subst hd'
  rw [← g2] at ho2 ⊢
  have hx1 : (now.extract 0 1).size = 1 := by rw [ByteArray.size_extract]; omega
  have hxb : bytesOf (now.extract 0 1) = (bytesOf now).take 1 := by rw [bytesOf_extract]; simp
  refine ⟨?_, fun hh => absurd hh (by omega), fun _ => ⟨g3, rfl⟩, ?_, ?_, ?_, ?_, ?_⟩
  · show (knS KN last now).length = (kn d j).length
    rw [hjl]
    unfold knS
    by_cases hj : j = 0
    · rw [if_pos (hlast.2 hj)]
      have := hkn0 hj
      omega
    · rw [if_neg (fun e => hj (hlast.1 e)), List.length_append, List.length_singleton]
      have := hknl hj
      omega
  · intro i a n v e1 e2
    rcases kn_get e1 with e1 | ⟨a1, a2, a3⟩ <;> rcases knS_get e2 with e2 | ⟨b1, b2, b3⟩
    · exact h.len i a n v e1 e2
    · have := (List.getElem?_eq_some_iff.1 e1).1
      omega
    · have := (List.getElem?_eq_some_iff.1 e2).1
      omega
    · rw [b3, ByteArray.size_append, hx1]
      simp only [Prod.mk.injEq] at a3
      have := (h.j1 a1).2
      omega
  · show (out ++ bytesOf now).length = d.total + now.size
    rw [List.length_append, hnl, htot]
  · intro ht
    exact ho2 ht
  · intro ht _
    refine ⟨?_, ?_⟩
    · show d.total + now.size = (out ++ bytesOf now).length
      rw [List.length_append, hnl, htot]
    · show bytesOf now = (out ++ bytesOf now).drop d.total
      rw [← htot, List.drop_left]
  · intro ht i a n v e1 e2
    have ht0 : d.total ≤ 65536 := Nat.le_trans (Nat.le_add_right _ _) ht
    have hla : (out ++ bytesOf now).length = out.length + now.size := by rw [List.length_append, hnl]
    rcases kn_get e1 with e1 | ⟨a1, a2, a3⟩ <;> rcases knS_get e2 with e2 | ⟨b1, b2, b3⟩
    · obtain ⟨v1, v2⟩ := h.val ht0 i a n v e1 e2
      exact ⟨by omega, by rw [take_app _ _ _ _ v1]; exact v2⟩
    · have := (List.getElem?_eq_some_iff.1 e1).1
      omega
    · have := (List.getElem?_eq_some_iff.1 e2).1
      omega
    · simp only [Prod.mk.injEq] at a3
      obtain ⟨rfl, rfl⟩ := a3
      obtain ⟨v1, v2⟩ := h.lst ht0 a1
      have hl2 := (h.j1 a1).2
      refine ⟨by omega, ?_⟩
      rw [b3, bytesOf_append, hxb, List.drop_append_of_le_length (by omega), ← v2, List.take_append, hll, hl2, Nat.add_sub_cancel_left, List.take_of_length_le (l := bytesOf last) (by omega)]
theorem run_ok (l : List Int) (ho : Oct l) : ∀ (f j k : Nat) (r : Rs) (d : Ds) (KN : List ByteArray) (last : ByteArray) (out pre : List Int), Rok l r → Rel j KN last out d → DI k d j → k + f ≤ 65540 →
    (readRes (items f l j r) pre).2.2 = (expandR (items f l j r) d).2.2.1 ∧ ((readRes (items f l j r) pre).2.2 = true → ∃ cs R, (readRes (items f l j r) pre).1 = pre ++ cs ∧ (readRes (items f l j r) pre).2.1 = ((expandR (items f l j r) d).2.2.2 : Int) ∧
      runS cs KN last out = some R ∧ R.length = (expandR (items f l j r) d).2.1 ∧ ((expandR (items f l j r) d).2.1 ≤ 65536 → (expandR (items f l j r) d).1 = R)) := by
  intro f
  induction f with
  | zero =>
    intro j k r d KN last out pre hr h hd hk
    exact ⟨rfl, fun hh => by cases hh⟩
  | succ f ih =>
    intro j k r d KN last out pre hr h hd hk
    unfold items
    cases hq : readR l j r with
    | none => exact ⟨rfl, fun hh => by cases hh⟩
    | some pq =>
      obtain ⟨c, q⟩ := pq
      obtain ⟨g1, g2, g3, g4⟩ := read_ok ho hr hq
      have cj : j ≤ 3838 := by
        apply Nat.le_of_not_lt
        intro h
        have : wd j = 0 := by unfold wd; repeat' split
                              all_goals omega
        omega
      simp only
      unfold readRes expandR
      simp only
      by_cases c1 : 257 + j < c
      · rw [if_pos c1]
        have hs : stepD d j c = none := by unfold stepD; rw [if_neg (by omega), if_neg (by omega), if_pos c1]
        rw [hs]
        have hc : (c == 257) = false := beq_eq_false_iff_ne.2 (by omega)
        simp only [hc, Bool.false_and]
        exact ⟨trivial, fun hh => by cases hh⟩
      · rw [if_neg c1]
        by_cases c2 : c = 257
        · rw [if_pos c2]
          have hs : stepD d j c = none := by unfold stepD; rw [if_pos c2]
          rw [hs]
          have hc : (c == 257) = true := beq_iff_eq.2 c2
          by_cases c3 : q.bits = 0
          · have hb : (q.bits == 0) = true := beq_iff_eq.2 c3
            rw [if_pos c3]
            simp only [hc, hb, Bool.and_self]
            refine ⟨by first | rfl | trivial, fun _ => ⟨[(c : Int)], out, rfl, by first | rfl | trivial, ?_, h.tot, h.out_⟩⟩
            unfold runS
            rw [if_pos (by omega)]
          · have hb : (q.bits == 0) = false := beq_eq_false_iff_ne.2 c3
            rw [if_neg c3]
            simp only [hc, hb, Bool.and_false]
            exact ⟨trivial, fun hh => by cases hh⟩
        · rw [if_neg c2, if_neg c2]
          obtain ⟨d', hs⟩ := step_some d j c c2 (by omega)
          rw [hs]
          simp only
          have hd' := DI_step (by omega) hd hs
          by_cases c3 : c = 256
          · have hn : nextJ j c = 0 := if_pos c3
            have hdd : d' = ⟨[], d.last, d.total, d.out⟩ := by
              unfold stepD at hs
              rw [if_neg c2, if_pos c3] at hs
              exact (Option.some.inj hs).symm
            rw [hn] at hd' ⊢
            have hrel : Rel 0 [] ⟨#[]⟩ out d' := by rw [hdd]; exact h.clear
            obtain ⟨i1, i2⟩ := ih 0 (k + 1) q d' [] ⟨#[]⟩ out (pre ++ [(c : Int)]) g3 hrel hd' (by omega)
            refine ⟨i1, fun hh => ?_⟩
            obtain ⟨cs, R, k1, k2, k3, k4, k5⟩ := i2 hh
            refine ⟨(c : Int) :: cs, R, by rw [k1, List.append_assoc]; rfl, k2, ?_, k4, k5⟩
            unfold runS
            rw [if_neg (by omega), if_pos (by omega)]
            exact k3
          · have hn : nextJ j c = j + 1 := if_neg c3
            rw [hn] at hd' ⊢
            obtain ⟨now, n1, n2, n3⟩ := Rel.next h hd (by omega) c2 c3 hs (by omega) cj
            obtain ⟨i1, i2⟩ := ih (j + 1) (k + 1) q d' _ _ _ (pre ++ [(c : Int)]) g3 n3 hd' (by omega)
            refine ⟨i1, fun hh => ?_⟩
            obtain ⟨cs, R, k1, k2, k3, k4, k5⟩ := i2 hh
            refine ⟨(c : Int) :: cs, R, by rw [k1, List.append_assoc]; rfl, k2, ?_, k4, k5⟩
            unfold runS
            rw [if_neg (by omega), if_neg (by omega), n1, Option.bind_some, if_pos n2]
            exact k3
/-- What the reference's Decode answers. -/
def refDec (s : ByteArray) (p : List Int × Int × Bool) : Option (ByteArray × Int × Int) :=
  if p.2.2 = false then some (⟨#[]⟩, 0, 5) else (runS p.1 [] ⟨#[]⟩ []).map fun R => if 65536 < R.length then (⟨#[]⟩, 0, 3) else (strOfNums R, p.2.1, 0)
theorem ref_dec (s : ByteArray) (hs : s.size ≤ 65536) : refDec s (readRes (items ((bytesOf s).length + 1) (bytesOf s) 0 ⟨0, 0, 0⟩) []) = some (decRes s) := by
  have hl := bytesOf_len s
  obtain ⟨h1, h2⟩ := run_ok (bytesOf s) (bytesOf_range s) ((bytesOf s).length + 1) 0 0 ⟨0, 0, 0⟩ D0 [] ⟨#[]⟩ [] [] (start_ok _) Rel.start DI_start (by omega)
  unfold refDec decRes expandL
  rw [if_neg (show ¬ 65536 < s.size by omega)]
  cases hb : (readRes (items ((bytesOf s).length + 1) (bytesOf s) 0 ⟨0, 0, 0⟩) []).2.2 with
  | false =>
    rw [hb] at h1
    rw [if_pos rfl, ← h1, if_pos rfl]
  | true =>
    obtain ⟨cs, R, k1, k2, k3, k4, k5⟩ := h2 hb
    rw [hb] at h1
    rw [List.nil_append] at k1
    rw [if_neg (by decide), ← h1, if_neg (by decide), k1, k3, k2, Option.map_some]
    by_cases c : 65536 < R.length
    · rw [if_pos c, if_pos (by omega)]
    · rw [if_neg c, if_neg (by omega), k5 (by omega)]
end Go.Proofs.Ytfkiacbjiledcaa.L06r
