/- What the reference's Codes answer: the coder's codes. The longest known string is found by the chase of pairs. -/
import Derived.Test.YtfkiacbjiledcaaR06
namespace Go.Proofs.Ytfkiacbjiledcaa.R06c
open Go.RowKit Go.Proofs.YtfkiacbjiledcaaW.PrintWords Go.Proofs.YtfkiacbjiledcaaW.PrintLast Go.Proofs.YtfkiacbjiledcaaW.PrintMore
open Go.Proofs.Ytfkiacbjiledcaa.K06 Go.Proofs.Ytfkiacbjiledcaa.L06 Go.Proofs.Ytfkiacbjiledcaa.L06b Go.Proofs.Ytfkiacbjiledcaa.P06 Go.Proofs.Ytfkiacbjiledcaa.R06
set_option linter.unusedVariables false
set_option maxRecDepth 100000
/-! ### Strings as lists -/
theorem loop_eq (a : ByteArray) : ∀ (n i : Nat) (r : List UInt8), i + n = a.size → ByteArray.toList.loop a i r = r.reverse ++ a.data.toList.drop i := by
  intro n
  induction n with
  | zero =>
    intro i r h
    rw [ByteArray.toList.loop, if_neg (by omega), List.drop_eq_nil_of_le (by show a.data.toList.length ≤ i; simp; show a.size ≤ i; omega), List.append_nil]
  | succ n ih =>
    intro i r h
    rw [ByteArray.toList.loop, if_pos (by omega), ih (i + 1) _ (by omega)]
    have h1 : i < a.data.toList.length := by simp; show i < a.size; omega
    rw [List.drop_eq_getElem_cons h1, List.reverse_cons, List.append_assoc, List.singleton_append]
    congr 2
    unfold ByteArray.get!
    simp at h1
    simp [h1]
theorem toList_eq (a : ByteArray) : a.toList = a.data.toList := by
  unfold ByteArray.toList
  rw [loop_eq a a.size 0 [] (by omega)]
  rfl
theorem toList_beq (a b : ByteArray) : (a.toList == b.toList) = decide (bytesOf a = bytesOf b) := by
  rw [toList_eq, toList_eq]
  by_cases h : bytesOf a = bytesOf b
  · rw [bytesOf_inj h]; simp
  · have : ¬ a.data.toList = b.data.toList := fun hh => h (by unfold bytesOf; rw [hh])
    rw [decide_eq_false h]
    exact beq_eq_false_iff_ne.2 this
theorem begins_eq (s t : ByteArray) (i : Nat) (hi : i ≤ s.size) (hs : s.size ≤ 65536) : chaseref06_begins.f s (i : Int) t = some (decide (bytesOf t <+: (bytesOf s).drop i)) := by
  have e1 := wS s.size i hi (by omega)
  have l1 := bytesOf_len s
  have l2 := bytesOf_len t
  unfold chaseref06_begins.f
  rw [e1]
  clear e1
  by_cases c : t.size ≤ s.size - i
  · have d1 : ((s.size - i : Nat) : Int) ≥ (t.size : Int) := by omega
    have d2 : (0 : Int) ≤ (i : Int) := by omega
    have d3 : (i : Int) ≤ ((i + t.size : Nat) : Int) := by omega
    have d4 : ((i + t.size : Nat) : Int) ≤ (s.size : Int) := by omega
    have e2 := wA i t.size (by omega)
    rw [e2, if_pos d1, if_pos d2, if_pos d3, if_pos d4, toList_beq, Int.toNat_natCast, Int.toNat_natCast, bytesOf_extract, Nat.add_sub_cancel_left]
    congr 1
    apply decide_eq_decide.2
    constructor
    · intro h
      rw [← h]
      exact List.take_prefix _ _
    · intro h
      rw [← l2]
      exact (List.prefix_iff_eq_take.1 h).symm
  · have d1 : ¬ ((s.size - i : Nat) : Int) ≥ (t.size : Int) := by omega
    rw [if_neg d1]
    congr 1
    symm
    apply decide_eq_false
    intro h
    have := h.length_le
    rw [List.length_drop] at this
    omega
/-! ### Known strings -/
def den (S : List (List Int)) (c : Nat) (w : List Int) : Prop := (c < 256 ∧ w = [(c : Int)]) ∨ (258 ≤ c ∧ S[c - 258]? = some w)
structure KS (K : List (Nat × Int)) (S : List (List Int)) : Prop where
  len : K.length = S.length
  el : ∀ (i c : Nat) (y : Int), K[i]? = some (c, y) → ∃ w, den S c w ∧ S[i]? = some (w ++ [y])
  nd : ∀ (i k : Nat) (v : List Int), S[i]? = some v → S[k]? = some v → i = k
  two : ∀ (i : Nat) (v : List Int), S[i]? = some v → 2 ≤ v.length
theorem den.fn {S : List (List Int)} {c : Nat} {v w : List Int} (h : den S c v) (k : den S c w) : v = w := by
  rcases h with ⟨a, rfl⟩ | ⟨a, h⟩ <;> rcases k with ⟨b, rfl⟩ | ⟨b, k⟩
  · rfl
  · omega
  · omega
  · exact Option.some.inj (h.symm.trans k)
theorem den.ne {K : List (Nat × Int)} {S : List (List Int)} (hS : KS K S) {c : Nat} {w : List Int} (h : den S c w) : 1 ≤ w.length := by
  rcases h with ⟨a, rfl⟩ | ⟨a, h⟩
  · simp
  · have := hS.two _ _ h; omega
theorem den.inj {K : List (Nat × Int)} {S : List (List Int)} (hS : KS K S) {c d : Nat} {w : List Int} (h : den S c w) (k : den S d w) : c = d := by
  rcases h with ⟨a, e⟩ | ⟨a, h⟩ <;> rcases k with ⟨b, e2⟩ | ⟨b, k⟩
  · rw [e] at e2
    simp only [List.cons.injEq, and_true] at e2
    omega
  · have := hS.two _ _ k
    rw [e] at this
    simp at this
  · have := hS.two _ _ h
    rw [e2] at this
    simp at this
  · have := hS.nd _ _ _ h k
    omega
theorem den.app {S : List (List Int)} {c : Nat} {w : List Int} (h : den S c w) (x : List Int) : den (S ++ [x]) c w := by
  rcases h with h | ⟨a, h⟩
  · exact .inl h
  · exact .inr ⟨a, by rw [List.getElem?_append_left (List.getElem?_eq_some_iff.1 h).1]; exact h⟩
theorem closed {K : List (Nat × Int)} {S : List (List Int)} (hS : KS K S) : ∀ (n i : Nat) (v u : List Int), v.length ≤ n → S[i]? = some v → u <+: v → 2 ≤ u.length → ∃ k : Nat, S[k]? = some u := by
  intro n
  induction n with
  | zero =>
    intro i v u hn hv _ hu
    have := hS.two _ _ hv
    omega
  | succ n ih =>
    intro i v u hn hv hp hu
    have hi : i < K.length := by rw [hS.len]; exact (List.getElem?_eq_some_iff.1 hv).1
    obtain ⟨w, h1, h2⟩ := hS.el i K[i].1 K[i].2 (List.getElem?_eq_getElem hi)
    have e : v = w ++ [K[i].2] := Option.some.inj (hv.symm.trans h2)
    by_cases c : u.length = v.length
    · exact ⟨i, by rw [hp.eq_of_length c]; exact hv⟩
    · have hl := hp.length_le
      have hw : u <+: w := by
        rw [e] at hp
        rcases List.prefix_concat_iff.1 hp with h | h
        · exact absurd (by rw [h, e]) c
        · exact h
      have hwl := hw.length_le
      have hvl : v.length = w.length + 1 := by rw [e]; simp
      rcases h1 with ⟨_, h1⟩ | ⟨_, h1⟩
      · rw [h1] at hwl; simp at hwl; omega
      · exact ih _ _ _ (by omega) h1 hw hu
/-- The longest known string at the beginning of x. -/
def Best (S : List (List Int)) (x : List Int) (c : Nat) (w : List Int) : Prop := den S c w ∧ w <+: x ∧ ∀ (i : Nat) (v : List Int), S[i]? = some v → v <+: x → v.length ≤ w.length
theorem ext_best {K : List (Nat × Int)} {S : List (List Int)} (hS : KS K S) : ∀ (r : List Int) (c : Nat) (w : List Int), den S c w → ∃ w', w' ++ (ext K c r).2 = w ++ r ∧ Best S (w ++ r) (ext K c r).1 w'
  | [], c, w, hd => by
    refine ⟨w, by simp [ext], by simpa [ext] using hd, by simp, fun i v _ hv => ?_⟩
    have := hv.length_le
    simpa using this
  | y :: r, c, w, hd => by
    unfold ext
    cases hl : lookK K (c, y) with
    | none =>
      refine ⟨w, rfl, hd, List.prefix_append _ _, fun i v hi hv => ?_⟩
      apply Nat.le_of_not_lt
      intro hlt
      have hp : w ++ [y] <+: v := by
        have h1 : w ++ [y] <+: w ++ y :: r := ⟨r, by simp⟩
        exact List.prefix_of_prefix_length_le h1 hv (by simp; omega)
      have hw := den.ne hS hd
      obtain ⟨k, hk⟩ := closed hS v.length i v (w ++ [y]) (Nat.le_refl _) hi hp (by simp; omega)
      have hkl : k < K.length := by rw [hS.len]; exact (List.getElem?_eq_some_iff.1 hk).1
      obtain ⟨w2, h1, h2⟩ := hS.el k K[k].1 K[k].2 (List.getElem?_eq_getElem hkl)
      have e := Option.some.inj (hk.symm.trans h2)
      obtain ⟨e1, e2⟩ := List.append_inj' e rfl
      simp only [List.cons.injEq, and_true] at e2
      subst e1
      have e3 := den.inj hS hd h1
      refine lookK_none hl (List.mem_of_getElem? (i := k) ?_)
      rw [List.getElem?_eq_getElem hkl, e3, e2]
    | some d =>
      simp only
      obtain ⟨h1, h2⟩ := lookK_some hl
      obtain ⟨w2, k1, k2⟩ := hS.el _ _ _ h2
      rw [den.fn k1 hd] at k2
      have ih := ext_best hS r d (w ++ [y]) (.inr ⟨h1, k2⟩)
      simpa using ih
theorem Best.fn {K : List (Nat × Int)} {S : List (List Int)} (hS : KS K S) {x : List Int} {c d : Nat} {v w : List Int} (h : Best S x c v) (k : Best S x d w) : c = d ∧ v = w := by
  have key : ∀ {c d : Nat} {v w : List Int}, Best S x c v → Best S x d w → v.length ≤ w.length := by
    intro c d v w h k
    rcases h.1 with ⟨a, e⟩ | ⟨a, e⟩
    · have := den.ne hS k.1
      rw [e]
      simpa using this
    · exact k.2.2 _ _ e h.2.1
  have hl : v.length = w.length := Nat.le_antisymm (key h k) (key k h)
  have hvw : v = w := (List.prefix_of_prefix_length_le h.2.1 k.2.1 (by omega)).eq_of_length hl
  subst hvw
  exact ⟨den.inj hS h.1 k.1, rfl⟩
theorem KS.add {K : List (Nat × Int)} {S : List (List Int)} (hS : KS K S) {x : List Int} {c : Nat} {w : List Int} {y : Int} (hb : Best S x c w) (hx : w ++ [y] <+: x) : KS (K ++ [(c, y)]) (S ++ [w ++ [y]]) := by
  have hn : ∀ i : Nat, S[i]? ≠ some (w ++ [y]) := by
    intro i hi
    have := hb.2.2 i _ hi hx
    rw [List.length_append, List.length_singleton] at this
    omega
  have hS2 : ∀ (i : Nat) (v : List Int), (S ++ [w ++ [y]])[i]? = some v → (S[i]? = some v ∧ i < S.length) ∨ (i = S.length ∧ v = w ++ [y]) := by
    intro i v h
    by_cases c : i < S.length
    · rw [List.getElem?_append_left c] at h
      exact .inl ⟨h, c⟩
    · rw [List.getElem?_append_right (by omega)] at h
      by_cases d : i - S.length = 0
      · rw [d] at h
        simp only [List.getElem?_cons_zero, Option.some.injEq] at h
        exact .inr ⟨by omega, h.symm⟩
      · rw [List.getElem?_eq_none (by simp; omega)] at h
        cases h
  refine ⟨by simp [hS.len], ?_, ?_, ?_⟩
  · intro i c' y' h
    by_cases c1 : i < K.length
    · rw [List.getElem?_append_left c1] at h
      obtain ⟨w', h1, h2⟩ := hS.el _ _ _ h
      exact ⟨w', h1.app _, by rw [List.getElem?_append_left (by rw [← hS.len]; exact c1)]; exact h2⟩
    · rw [List.getElem?_append_right (by omega)] at h
      by_cases d : i - K.length = 0
      · rw [d] at h
        simp only [List.getElem?_cons_zero, Option.some.injEq, Prod.mk.injEq] at h
        obtain ⟨rfl, rfl⟩ := h
        refine ⟨w, hb.1.app _, ?_⟩
        have hl := hS.len
        rw [List.getElem?_append_right (by omega), show i - S.length = 0 by omega]
        rfl
      · rw [List.getElem?_eq_none (by simp; omega)] at h
        cases h
  · intro i k v h1 h2
    rcases hS2 _ _ h1 with ⟨a1, a2⟩ | ⟨a1, a2⟩ <;> rcases hS2 _ _ h2 with ⟨b1, b2⟩ | ⟨b1, b2⟩
    · exact hS.nd _ _ _ a1 b1
    · rw [b2] at a1; exact absurd a1 (hn _)
    · rw [a2] at b1; exact absurd b1 (hn _)
    · omega
  · intro i v h
    rcases hS2 _ _ h with ⟨a1, _⟩ | ⟨_, a2⟩
    · exact hS.two _ _ a1
    · have := den.ne hS hb.1
      rw [a2]; simp; omega
theorem KS.nil : KS [] [] := ⟨rfl, fun i c y h => by simp at h, fun i k v h => by simp at h, fun i v h => by simp at h⟩

/-! ### The loops of Codes -/
def strs (L : List ByteArray) : List (List Int) := L.map bytesOf
theorem strs_len (L : List ByteArray) : (strs L).length = L.length := List.length_map _
theorem strs_at (L : List ByteArray) (k : Nat) (h : k < L.length) : (strs L)[k]? = some (bytesOf (rdOf ByteArray.empty L (k : Int))) := by
  unfold strs rdOf
  rw [List.getElem?_map, Int.toNat_natCast, List.getD_eq_getElem?_getD, List.getElem?_eq_getElem h]
  rfl
theorem Best.stay {S : List (List Int)} {x : List Int} {c k : Nat} {w : List Int} (h : Best (S.take k) x c w) (v : List Int) (hv : S[k]? = some v) (hn : ¬ (w.length < v.length ∧ v <+: x)) : Best (S.take (k + 1)) x c w := by
  have e : S.take (k + 1) = S.take k ++ [v] := by rw [List.take_add_one, hv]; rfl
  rw [e]
  refine ⟨h.1.app _, h.2.1, fun i u hi hu => ?_⟩
  by_cases c1 : i < (S.take k).length
  · rw [List.getElem?_append_left c1] at hi
    exact h.2.2 i u hi hu
  · rw [List.getElem?_append_right (by omega)] at hi
    by_cases d : i - (S.take k).length = 0
    · rw [d] at hi
      simp only [List.getElem?_cons_zero, Option.some.injEq] at hi
      subst hi
      apply Nat.le_of_not_lt
      exact fun hh => hn ⟨hh, hu⟩
    · rw [List.getElem?_eq_none (by simp only [List.length_singleton]; omega)] at hi
      cases hi
theorem Best.turn {S : List (List Int)} {x : List Int} {c k : Nat} {w : List Int} (h : Best (S.take k) x c w) (v : List Int) (hv : S[k]? = some v) (h1 : w.length < v.length) (h2 : v <+: x) : Best (S.take (k + 1)) x (258 + k) v := by
  have hk := (List.getElem?_eq_some_iff.1 hv).1
  have e : S.take (k + 1) = S.take k ++ [v] := by rw [List.take_add_one, hv]; rfl
  have hl : (S.take k).length = k := by rw [List.length_take]; omega
  rw [e]
  refine ⟨.inr ⟨by omega, by rw [List.getElem?_append_right (by omega), show 258 + k - 258 - (S.take k).length = 0 by omega]; rfl⟩, h2, fun i u hi hu => ?_⟩
  by_cases c1 : i < (S.take k).length
  · rw [List.getElem?_append_left c1] at hi
    have := h.2.2 i u hi hu
    omega
  · rw [List.getElem?_append_right (by omega)] at hi
    by_cases d : i - (S.take k).length = 0
    · rw [d] at hi
      simp only [List.getElem?_cons_zero, Option.some.injEq] at hi
      subst hi
      exact Nat.le_refl _
    · rw [List.getElem?_eq_none (by simp only [List.length_singleton]; omega)] at hi
      cases hi
def addL (s : ByteArray) (KL : List ByteArray) (i n : Nat) : List ByteArray := if i + n < s.size then KL ++ [s.extract i (i + n + 1)] else KL
theorem loop1 (s : ByteArray) (hs : s.size ≤ 65536) (K : List (Nat × Int)) (KL : List ByteArray) (hS : KS K (strs KL)) (out : List Int) (j i c : Nat) (w : List Int) (hi : i < s.size) (hj : j ≤ 100000)
    (hKL : KL.length ≤ 70000) (hout : out.length ≤ 1000000) (hb : Best (strs KL) ((bytesOf s).drop i) c w) (r : List Int)
    (e : Evt (fun f => chaseref06_Codes.l0 f s (out ++ [(c : Int)]) (addL s KL i w.length) ((j + 1 : Nat) : Int) ((i + w.length : Nat) : Int)) r) : ∀ n k, k + n = KL.length → ∀ (c' : Nat) (w' : List Int), Best ((strs KL).take k) ((bytesOf s).drop i) c' w' →
    Evt (fun f => chaseref06_Codes.l1 f s out KL (j : Int) (i : Int) (c' : Int) ((w'.length : Nat) : Int) (k : Int)) r := by
  intro n
  induction n with
  | zero =>
    intro k hk c' w' hb'
    have hk' : k = KL.length := by omega
    subst hk'
    rw [← strs_len, List.take_length] at hb'
    obtain ⟨rfl, rfl⟩ := Best.fn hS hb' hb
    have hw := hb.2.1.length_le
    rw [List.length_drop, bytesOf_len] at hw
    refine e.step (fun f => ?_)
    have c1 : ¬ ((KL.length : Nat) : Int) < (KL.length : Int) := by omega
    have c2 : out.length < 17592186044416 := by omega
    have c3 : KL.length < 8796093022208 := by omega
    have c4 : (0 : Int) ≤ (i : Int) := by omega
    have c5 : (i : Int) ≤ ((i + w'.length + 1 : Nat) : Int) := by omega
    have d1 : i + w'.length < 4611686018427387904 := by omega
    have d2 : i + w'.length + 1 < 4611686018427387904 := by omega
    have d3 : j + 1 < 4611686018427387904 := by omega
    have e1 := wA i w'.length d1
    have e2 := wA (i + w'.length) 1 d2
    have e3 := wA j 1 d3
    simp only [Int.cast_ofNat_Int] at e1 e2 e3
    rw [chaseref06_Codes.l1, if_neg c1, if_pos c2, e1, e2, e3, Option.bind_some]
    clear e1 e2 e3
    unfold addL
    by_cases c6 : i + w'.length < s.size
    · have c7 : ((i + w'.length : Nat) : Int) < (s.size : Int) := by omega
      have c8 : ((i + w'.length + 1 : Nat) : Int) ≤ (s.size : Int) := by omega
      rw [if_pos c7, if_pos c4, if_pos c5, if_pos c8, if_pos c3, if_pos c6, Int.toNat_natCast, Int.toNat_natCast]
    · have c7 : ¬ ((i + w'.length : Nat) : Int) < (s.size : Int) := by omega
      rw [if_neg c7, if_neg c6]
  | succ n ih =>
    intro k hk c' w' hb'
    have hkl : k < KL.length := by omega
    have hv := strs_at KL k hkl
    have c1 : (k : Int) < (KL.length : Int) := by omega
    have c2 : (0 : Int) ≤ (k : Int) := by omega
    have d1 : 258 + k < 4611686018427387904 := by omega
    have d2 : k + 1 < 4611686018427387904 := by omega
    have hbg := begins_eq s (rdOf ByteArray.empty KL (k : Int)) i (by omega) hs
    have hsz := bytesOf_len (rdOf ByteArray.empty KL (k : Int))
    have e1 := wA 258 k d1
    have e2 := wA k 1 d2
    simp only [Int.cast_ofNat_Int] at e1 e2
    have eq : ∀ f, chaseref06_Codes.l1 (f + 1) s out KL (j : Int) (i : Int) (c' : Int) ((w'.length : Nat) : Int) (k : Int) = (if ((rdOf ByteArray.empty KL (k : Int)).size : Int) > ((w'.length : Nat) : Int) then (if decide (bytesOf (rdOf ByteArray.empty KL (k : Int)) <+: (bytesOf s).drop i) = true then (chaseref06_Codes.l1 f s out KL (j : Int) (i : Int) ((258 + k : Nat) : Int) ((rdOf ByteArray.empty KL (k : Int)).size : Int) ((k + 1 : Nat) : Int)) else (chaseref06_Codes.l1 f s out KL (j : Int) (i : Int) (c' : Int) ((w'.length : Nat) : Int) ((k + 1 : Nat) : Int))) else (chaseref06_Codes.l1 f s out KL (j : Int) (i : Int) (c' : Int) ((w'.length : Nat) : Int) ((k + 1 : Nat) : Int))) := by
      intro f
      rw [chaseref06_Codes.l1, if_pos c1, if_pos c2, hbg, e1, e2, Option.bind_some]
    clear e1 e2 d1 d2 c1 c2
    generalize rdOf ByteArray.empty KL (k : Int) = t at *
    by_cases c3 : w'.length < t.size ∧ bytesOf t <+: (bytesOf s).drop i
    · have h := ih (k + 1) (by omega) (258 + k) (bytesOf t) (hb'.turn _ hv (by omega) c3.2)
      refine h.step (fun f => ?_)
      have c4 : ((t.size : Nat) : Int) > ((w'.length : Nat) : Int) := by omega
      rw [eq f, if_pos c4, if_pos (decide_eq_true c3.2), hsz]
    · have h := ih (k + 1) (by omega) c' w' (hb'.stay _ hv (by rw [hsz]; exact c3))
      refine h.step (fun f => ?_)
      rw [eq f]
      by_cases c4 : ((t.size : Nat) : Int) > ((w'.length : Nat) : Int)
      · have c5 : ¬ bytesOf t <+: (bytesOf s).drop i := fun hh => c3 ⟨by omega, hh⟩
        rw [if_pos c4, if_neg (by rw [decide_eq_false c5]; exact Bool.false_ne_true)]
      · rw [if_neg c4]
theorem bt_getD (s : ByteArray) (i : Nat) : bt s (i : Int) = (bytesOf s).getD i 0 := by
  have := rd_bytesOf s i
  simp only [rd, Int.toNat_natCast] at this
  exact this.symm
/-- One code. -/
theorem one_code (s : ByteArray) (hs : s.size ≤ 65536) (K : List (Nat × Int)) (KL : List ByteArray) (hS : KS K (strs KL)) (out : List Int) (j i : Nat) (hi : i < s.size) (hj : j ≤ 100000)
    (hKL : KL.length ≤ i) (hout : out.length ≤ 1000000) (c : Int) (t : List Int) (hd : (bytesOf s).drop i = c :: t) : ∃ (KL' : List ByteArray) (n : Nat), 1 ≤ n ∧ i + n ≤ s.size ∧ (ext K c.toNat t).2 = (bytesOf s).drop (i + n) ∧
      KS (addK K (ext K c.toNat t).1 (ext K c.toNat t).2) (strs KL') ∧ KL'.length ≤ i + n ∧
      ∀ r, Evt (fun f => chaseref06_Codes.l0 f s (out ++ [((ext K c.toNat t).1 : Int)]) KL' ((j + 1 : Nat) : Int) ((i + n : Nat) : Int)) r → Evt (fun f => chaseref06_Codes.j1 f s out KL (j : Int) (i : Int)) r := by
  have hc : 0 ≤ c ∧ c < 256 := bytesOf_range s c (List.mem_of_mem_drop (by rw [hd]; exact List.mem_cons_self))
  have hcn : ((c.toNat : Nat) : Int) = c := Int.toNat_of_nonneg hc.1
  have h0 : den (strs KL) c.toNat [c] := .inl ⟨by omega, by rw [hcn]⟩
  obtain ⟨w, h1, h2⟩ := ext_best hS t c.toNat [c] h0
  rw [List.singleton_append, ← hd] at h1 h2
  have hw := den.ne hS h2.1
  have hlen := congrArg List.length h1
  rw [List.length_append, List.length_drop, bytesOf_len] at hlen
  have hdrop : (ext K c.toNat t).2 = (bytesOf s).drop (i + w.length) := by
    rw [← List.drop_drop, ← h1, List.drop_left]
  have hn : i + w.length ≤ s.size := by omega
  refine ⟨addL s KL i w.length, w.length, hw, hn, hdrop, ?_, ?_, ?_⟩
  · unfold addL
    by_cases c1 : i + w.length < s.size
    · rw [if_pos c1]
      cases hx : (ext K c.toNat t).2 with
      | nil =>
        rw [hx] at hlen
        simp only [List.length_nil] at hlen
        omega
      | cons y q =>
        have hp : w ++ [y] <+: (bytesOf s).drop i := ⟨q, by rw [← h1, hx]; simp⟩
        have := hS.add h2 hp
        unfold strs addK
        rw [List.map_append]
        have e : [s.extract i (i + w.length + 1)].map bytesOf = [w ++ [y]] := by
          simp only [List.map_cons, List.map_nil]
          rw [bytesOf_extract, List.prefix_iff_eq_take.1 hp, List.length_append, List.length_singleton, show i + w.length + 1 - i = w.length + 1 by omega]
        rw [e]
        exact this
    · rw [if_neg c1]
      have hx : (ext K c.toNat t).2 = [] := by
        rw [hdrop]
        exact List.drop_eq_nil_of_le (by rw [bytesOf_len]; omega)
      rw [hx]
      exact hS
  · unfold addL
    split
    · rw [List.length_append, List.length_singleton]; omega
    · omega
  · intro r e
    have hb0 : Best ((strs KL).take 0) ((bytesOf s).drop i) c.toNat [c] := ⟨.inl ⟨by omega, by rw [hcn]⟩, ⟨t, by rw [hd]; rfl⟩, fun k v hk => by simp at hk⟩
    have h := loop1 s hs K KL hS out j i _ w hi hj (by omega) hout h2 r e KL.length 0 (by omega) _ _ hb0
    refine h.step (fun f => ?_)
    have c1 : (0 : Int) ≤ (i : Int) := by omega
    have c2 : (i : Int) < (s.size : Int) := by omega
    have ec : bt s (i : Int) = (c.toNat : Int) := by
      rw [bt_getD, hcn, List.getD_eq_getElem?_getD]
      have := congrArg (fun l => l[0]?) hd
      simp only [List.getElem?_drop, List.getElem?_cons_zero, Nat.add_zero] at this
      rw [this]
      rfl
    have e1 := wN c.toNat (by omega)
    rw [chaseref06_Codes.j1, if_pos c1, if_pos c2, ec, e1]
    rfl
theorem codes_main (s : ByteArray) (hs : s.size ≤ 65536) : ∀ (f j i : Nat) (K : List (Nat × Int)) (KL : List ByteArray) (out : List Int), s.size ≤ i + f → i ≤ s.size → KS K (strs KL) → KL.length ≤ i → j ≤ 3838 → out.length ≤ 2 * i + 1 →
    Evt (fun k => chaseref06_Codes.l0 k s out KL (j : Int) (i : Int)) (out ++ ints (enc f j K ((bytesOf s).drop i))) := by
  intro f
  have fin : ∀ (f j i : Nat) (K : List (Nat × Int)) (KL : List ByteArray) (out : List Int), i = s.size → out.length ≤ 2 * i + 1 → Evt (fun k => chaseref06_Codes.l0 k s out KL (j : Int) (i : Int)) (out ++ ints (enc f j K ((bytesOf s).drop i))) := by
    intro f j i K KL out hi ho
    have e : (bytesOf s).drop i = [] := List.drop_eq_nil_of_le (by rw [bytesOf_len]; omega)
    have e2 : enc f j K [] = [257] := by cases f <;> rfl
    rw [e, e2]
    refine (Evt.const _).step (fun k => ?_)
    have c1 : ¬ (i : Int) < (s.size : Int) := by omega
    have c2 : out.length < 17592186044416 := by omega
    rw [chaseref06_Codes.l0, if_neg c1, if_pos c2]
    rfl
  induction f with
  | zero =>
    intro j i K KL out hf hi hS hK hj ho
    exact fin 0 j i K KL out (by omega) ho
  | succ f ih =>
    intro j i K KL out hf hi hS hK hj ho
    by_cases ci : i < s.size
    · have hl : i < (bytesOf s).length := by rw [bytesOf_len]; exact ci
      have hd := List.drop_eq_getElem_cons hl
      generalize (bytesOf s)[i] = c at hd
      rw [hd]
      have c1 : (i : Int) < (s.size : Int) := by omega
      have c2 : out.length < 17592186044416 := by omega
      unfold enc
      by_cases cj : j = 3838
      · rw [if_pos cj]
        obtain ⟨KL', n, g1, g2, g3, g4, g5, g6⟩ := one_code s hs [] [] KS.nil (out ++ [256]) 0 i ci (by decide) (by simp) (by simp; omega) c _ hd
        have h := ih 1 (i + n) _ KL' (out ++ [256] ++ [((ext [] c.toNat ((bytesOf s).drop (i + 1))).1 : Int)]) (by omega) g2 g4 g5 (by decide) (by simp; omega)
        rw [← g3] at h
        have h2 := g6 _ h
        rw [List.append_assoc, List.append_assoc] at h2
        refine h2.step (fun k => ?_)
        have c3 : (j : Int) = 3838 := by omega
        rw [chaseref06_Codes.l0, if_pos c1, if_pos c3, if_pos c2]
        rfl
      · rw [if_neg cj]
        obtain ⟨KL', n, g1, g2, g3, g4, g5, g6⟩ := one_code s hs K KL hS out j i ci (by omega) hK (by omega) c _ hd
        have h := ih (j + 1) (i + n) _ KL' (out ++ [((ext K c.toNat ((bytesOf s).drop (i + 1))).1 : Int)]) (by omega) g2 g4 g5 (by omega) (by simp; omega)
        rw [← g3] at h
        have h2 := g6 _ h
        rw [List.append_assoc] at h2
        refine h2.step (fun k => ?_)
        have c3 : ¬ (j : Int) = 3838 := by omega
        rw [chaseref06_Codes.l0, if_pos c1, if_neg c3]
    · exact fin (f + 1) j i K KL out (by omega) ho
theorem codes_ev (s : ByteArray) (hs : s.size ≤ 65536) : Evt (fun k => chaseref06_Codes.f k s) (ints (encCodes (bytesOf s))) := by
  have h := codes_main s hs (bytesOf s).length 0 0 [] [] [256] (by rw [bytesOf_len]; omega) (by omega) KS.nil (by simp) (by decide) (by simp)
  exact h
theorem val_num : ∀ (cs : List Nat) (j : Nat), Val j cs → NumOk j cs
  | [], j, h => h.elim
  | c :: cs, j, ⟨h1, h2, h3⟩ => ⟨h1, by omega, by
    rcases h3 with ⟨rfl, rfl⟩ | ⟨_, h⟩
    · exact trivial
    · exact val_num cs _ h⟩
theorem enc_count (s : List Int) : ∀ (f j : Nat) (K : List (Nat × Int)) (r : List Int), (enc f j K r).length ≤ 2 * f + 1 := by
  intro f
  induction f with
  | zero => intro j K r; cases r <;> simp [enc]
  | succ f ih =>
    intro j K r
    cases r with
    | nil => simp [enc]
    | cons c r =>
      unfold enc
      split
      · have := ih 1 (addK [] (ext [] c.toNat r).1 (ext [] c.toNat r).2) (ext [] c.toNat r).2
        simp only [List.length_cons]
        omega
      · have := ih (j + 1) (addK K (ext K c.toNat r).1 (ext K c.toNat r).2) (ext K c.toNat r).2
        simp only [List.length_cons]
        omega
/-- The reference's Encode answers as Encode does. -/
theorem ref_enc (s : ByteArray) : Evt (fun k => chaseref06_Encode.f k s) (encRes s) := by
  unfold encRes
  by_cases c : 65536 < s.size
  · rw [if_pos c]
    refine (Evt.const _).same (fun k => ?_)
    unfold chaseref06_Encode.f
    rw [if_pos (by omega)]
  · rw [if_neg c]
    have hl : (bytesOf s).length ≤ 65536 := by rw [bytesOf_len]; omega
    have ho := bytesOf_range s
    have hv := enc_val hl ho
    obtain ⟨h1, p, h2, h3⟩ := encOut_ok hl ho
    have hn := enc_count (bytesOf s) (bytesOf s).length 0 [] (bytesOf s)
    have hw := write_ev (val_num _ _ hv.1) (by unfold encCodes; simp only [List.length_cons]; omega) (T := encOut (bytesOf s)) ⟨h1, p, h2, h3⟩
    have key := (codes_ev s (by omega)).bind (h := fun k t => (chaseref06_Write.f k t).bind fun t136 => (if (t136.size : Int) > 65536 then (some ((⟨#[]⟩ : ByteArray), (3 : Int))) else (some (t136, 0)))) (hw.bind (h := fun k t136 => (if (t136.size : Int) > 65536 then (some ((⟨#[]⟩ : ByteArray), (3 : Int))) else (some (t136, 0)))) (Evt.const (if 65536 < (encOut (bytesOf s)).length then ((⟨#[]⟩ : ByteArray), (3 : Int)) else (strOfNums (encOut (bytesOf s)), 0)) |>.same (fun k => by
      rw [strOf_size]
      split
      · rw [if_pos (by omega)]
      · rw [if_neg (by omega)])))
    refine key.same (fun k => ?_)
    unfold chaseref06_Encode.f
    rw [if_neg (by omega)]
end Go.Proofs.Ytfkiacbjiledcaa.R06c
