/- The decoder undoes the coder (plain codes of chapter 06). -/
import Derived.Test.YtfkiacbjiledcaaL06
namespace Go.Proofs.Ytfkiacbjiledcaa.L06b
open Go.RowKit Go.Proofs.YtfkiacbjiledcaaW.PrintWords Go.Proofs.YtfkiacbjiledcaaW.PrintLast Go.Proofs.YtfkiacbjiledcaaW.PrintMore
open Go.Proofs.Ytfkiacbjiledcaa.K06 Go.Proofs.Ytfkiacbjiledcaa.L06
set_option linter.unusedVariables false
set_option maxRecDepth 100000
/-- What a code denotes, strings being parts of s. -/
def Den (P : List (Nat × Nat)) (s : List Int) (code : Nat) (w : List Int) : Prop :=
  (code < 256 ∧ w = [(code : Int)]) ∨ (258 ≤ code ∧ ∃ a n, P[code - 258]? = some (a, n) ∧ w = (s.drop a).take n)
theorem Den.fn {P : List (Nat × Nat)} {s : List Int} {c : Nat} {v w : List Int} (h : Den P s c v) (k : Den P s c w) : v = w := by
  rcases h with ⟨h1, rfl⟩ | ⟨h1, a, n, h2, rfl⟩ <;> rcases k with ⟨k1, rfl⟩ | ⟨k1, b, m, k2, rfl⟩
  · rfl
  · omega
  · omega
  · rw [h2] at k2; cases k2; rfl
theorem Den.mono {P : List (Nat × Nat)} {s : List Int} {c : Nat} {w : List Int} (h : Den P s c w) (x : Nat × Nat) : Den (P ++ [x]) s c w := by
  rcases h with h | ⟨h1, a, n, h2, rfl⟩
  · exact .inl h
  · refine .inr ⟨h1, a, n, ?_, rfl⟩
    rw [List.getElem?_append_left (List.getElem?_eq_some_iff.1 h2).1]; exact h2
/-- The coder's pairs and the decoder's parts are of the same strings. -/
structure Inv (K : List (Nat × Int)) (P : List (Nat × Nat)) (s : List Int) (i : Nat) : Prop where
  len : K.length ≤ P.length
  part : ∀ (k c : Nat) (x : Int), K[k]? = some (c, x) → ∃ a n w, P[k]? = some (a, n) ∧ 2 ≤ n ∧ a < i ∧ a + n ≤ s.length ∧ Den P s c w ∧ (s.drop a).take n = w ++ [x]
theorem lookK_some {K : List (Nat × Int)} {p : Nat × Int} {d : Nat} (h : lookK K p = some d) : 258 ≤ d ∧ K[d - 258]? = some p := by
  unfold lookK at h
  rw [Option.map_eq_some_iff] at h
  obtain ⟨k, hk, rfl⟩ := h
  refine ⟨by omega, ?_⟩
  rw [Nat.add_sub_cancel_left]
  obtain ⟨h1, h2, _⟩ := List.findIdx?_eq_some_iff_getElem.1 hk
  rw [List.getElem?_eq_getElem h1]
  simp at h2
  rw [h2]
theorem lookK_none {K : List (Nat × Int)} {p : Nat × Int} (h : lookK K p = none) : p ∉ K := by
  unfold lookK at h
  rw [Option.map_eq_none_iff, List.findIdx?_eq_none_iff] at h
  intro hp
  have := h p hp
  simp at this
/-- A code that the coder may hold. -/
def Held (K : List (Nat × Int)) (c : Nat) : Prop := c < 256 ∨ (258 ≤ c ∧ c - 258 < K.length)
theorem ext_ok {K : List (Nat × Int)} {P : List (Nat × Nat)} {s : List Int} {i : Nat} (hI : Inv K P s i) : ∀ (r : List Int) (c : Nat) (w : List Int), Den P s c w → Held K c →
    ∃ t, r = t ++ (ext K c r).2 ∧ Den P s (ext K c r).1 (w ++ t) ∧ Held K (ext K c r).1 ∧ (∀ x r', (ext K c r).2 = x :: r' → lookK K ((ext K c r).1, x) = none)
  | [], c, w, hd, hh => ⟨[], rfl, by simpa [ext] using hd, hh, fun x r' e => by simp [ext] at e⟩
  | y :: r, c, w, hd, hh => by
    unfold ext
    cases hl : lookK K (c, y) with
    | none => exact ⟨[], rfl, by simpa using hd, hh, fun x r' e => by simp only [List.cons.injEq] at e; obtain ⟨rfl, _⟩ := e; exact hl⟩
    | some d =>
      simp only
      obtain ⟨h1, h2⟩ := lookK_some hl
      obtain ⟨a, n, w2, k1, k2, k3, k4, k5, k6⟩ := hI.part _ _ _ h2
      have hdd : Den P s d (w ++ [y]) := by
        rw [Den.fn hd k5, ← k6]
        exact .inr ⟨h1, a, n, k1, rfl⟩
      obtain ⟨t, g1, g2, g3, g4⟩ := ext_ok hI r d (w ++ [y]) hdd (.inr ⟨h1, (List.getElem?_eq_some_iff.1 h2).1⟩)
      exact ⟨y :: t, by rw [List.cons_append, ← g1], by simpa using g2, g3, g4⟩
theorem copy_ok (s : List Int) : ∀ (n a : Nat) (out w r : List Int), s = out ++ w ++ r → w = (s.drop a).take n → w.length = n → a < out.length → copyN n a out = out ++ w
  | 0, a, out, w, r, _, h, hl, _ => by
    rw [List.length_eq_zero_iff] at hl
    rw [hl]; simp [copyN]
  | n + 1, a, out, w, r, hs, h, hl, ha => by
    have has : a < s.length := by rw [hs]; simp; omega
    rw [List.drop_eq_getElem_cons has, List.take_succ_cons] at h
    unfold copyN
    have hx : out.getD a 0 = s[a] := by
      have h1 : s[a]? = out[a]? := by rw [hs, List.append_assoc, List.getElem?_append_left ha]
      rw [List.getD_eq_getElem?_getD, ← h1, List.getElem?_eq_getElem has]; rfl
    rw [hx]
    rw [h] at hs hl ⊢
    rw [copy_ok s n (a + 1) (out ++ [s[a]]) ((s.drop (a + 1)).take n) r (by simpa using hs) rfl (by simpa using hl) (by simp; omega)]
    simp
/-- Where coder and decoder stand. -/
structure Sync (s : List Int) (j : Nat) (K : List (Nat × Int)) (d : Ds) (done : List Int) : Prop where
  out : d.out = done
  total : d.total = done.length
  len : (kn d j).length = j
  inv : Inv K (kn d j) s done.length
  klen : done.length < s.length → K.length = j
theorem one {s : List Int} {j : Nat} {K : List (Nat × Int)} {d : Ds} {done : List Int} {c : Int} {r : List Int} (h : Sync s j K d done) (hs : s = done ++ c :: r) (hl : s.length ≤ 65536) (hc : 0 ≤ c ∧ c < 256) :
    (ext K c.toNat r).1 ≠ 256 ∧ (ext K c.toNat r).1 ≠ 257 ∧ (ext K c.toNat r).1 ≤ 257 + j ∧ ∃ d' t, stepD d j (ext K c.toNat r).1 = some d' ∧ r = t ++ (ext K c.toNat r).2 ∧
      Sync s (j + 1) (addK K (ext K c.toNat r).1 (ext K c.toNat r).2) d' (done ++ c :: t) := by
  have hcn : ((c.toNat : Nat) : Int) = c := by omega
  obtain ⟨t, g1, g2, g3, g4⟩ := ext_ok h.inv r c.toNat [c] (.inl ⟨by omega, by rw [hcn]⟩) (.inl (by omega))
  obtain ⟨code, hcode⟩ : ∃ x, (ext K c.toNat r).1 = x := ⟨_, rfl⟩
  obtain ⟨r2, hr2⟩ : ∃ x, (ext K c.toNat r).2 = x := ⟨_, rfl⟩
  rw [hcode, hr2] at g4
  rw [hcode] at g2 g3
  rw [hr2] at g1
  rw [hcode, hr2]
  clear hcode hr2
  simp only [List.cons_append, List.nil_append] at g2
  have hlen := h.inv.len
  have hle : code ≠ 256 ∧ code ≠ 257 ∧ code ≤ 257 + j := by
    have := h.len
    rcases g3 with g | ⟨g, g'⟩ <;> omega
  obtain ⟨e1, e2, e3⟩ := hle
  refine ⟨e1, e2, e3, ?_⟩
  have hs2 : s = done ++ c :: t ++ r2 := by rw [hs, g1]; simp
  have hsl : s.length = done.length + (t.length + 1) + r2.length := by rw [hs2]; simp; omega
  -- the length
  have hlong : longOf (kn d j) code = t.length + 1 := by
    unfold longOf
    rcases g2 with ⟨k1, k2⟩ | ⟨k1, a, n, k2, k3⟩
    · rw [if_neg (by omega)]
      have := congrArg List.length k2
      rw [List.length_cons, List.length_singleton] at this
      omega
    · rw [if_pos (by omega), List.getD_eq_getElem?_getD, k2]
      simp only [Option.getD_some]
      have := congrArg List.length k3
      rw [List.length_take, List.length_drop, List.length_cons] at this
      have hk : code - 258 < K.length := by rcases g3 with g | ⟨_, g⟩; omega; exact g
      obtain ⟨a', n', w', q1, q2, q3, q4, q5, q6⟩ := h.inv.part (code - 258) K[code - 258].1 K[code - 258].2 (List.getElem?_eq_getElem hk)
      rw [k2] at q1
      cases q1
      omega
  have hstep : stepD d j code = some ⟨kn d j, (done.length, t.length + 1), done.length + (t.length + 1), done ++ c :: t⟩ := by
    unfold stepD
    rw [if_neg e2, if_neg e1, if_neg (by omega), hlong, h.total, h.out, if_neg (by omega)]
    rcases g2 with ⟨k1, k2⟩ | ⟨k1, a, n, k2, k3⟩
    · rw [if_pos k1, k2]
    · rw [if_neg (by omega), List.getD_eq_getElem?_getD, k2]
      simp only [Option.getD_some]
      have hk : code - 258 < K.length := by rcases g3 with g | ⟨_, g⟩; omega; exact g
      obtain ⟨a', n', w', q1, q2, q3, q4, q5, q6⟩ := h.inv.part (code - 258) K[code - 258].1 K[code - 258].2 (List.getElem?_eq_getElem hk)
      rw [k2] at q1
      cases q1
      have hn : n = t.length + 1 := by
        have := congrArg List.length k3
        rw [List.length_take, List.length_drop, List.length_cons] at this
        omega
      rw [← hn, copy_ok s n a done (c :: t) r2 hs2 k3 (by rw [List.length_cons]; omega) q3]
  have hK := h.klen (by omega)
  refine ⟨_, t, hstep, g1, ⟨rfl, by simp, ?_, ?_, ?_⟩⟩
  · have hkl := h.len
    unfold kn
    rw [if_pos (by omega), List.length_append, List.length_singleton]
    exact congrArg (· + 1) hkl
  · have hkn : kn ⟨kn d j, (done.length, t.length + 1), done.length + (t.length + 1), done ++ c :: t⟩ (j + 1) = kn d j ++ [(done.length, t.length + 1 + 1)] := by
      unfold kn; rw [if_pos (by omega)]
    rw [hkn]
    have old : ∀ (k c' : Nat) (x : Int), K[k]? = some (c', x) → ∃ a n w, (kn d j ++ [(done.length, t.length + 1 + 1)])[k]? = some (a, n) ∧ 2 ≤ n ∧ a < (done ++ c :: t).length ∧ a + n ≤ s.length ∧ Den (kn d j ++ [(done.length, t.length + 1 + 1)]) s c' w ∧ (s.drop a).take n = w ++ [x] := by
      intro k c' x hk
      obtain ⟨a, n, w, q1, q2, q3, q4, q5, q6⟩ := h.inv.part k c' x hk
      exact ⟨a, n, w, by rw [List.getElem?_append_left (List.getElem?_eq_some_iff.1 q1).1]; exact q1, q2, by simp; omega, q4, q5.mono _, q6⟩
    cases r2 with
    | nil => exact ⟨by simp [addK]; omega, fun k c' x hk => old k c' x hk⟩
    | cons x r3 =>
      refine ⟨by simp [addK]; omega, fun k c' x' hk => ?_⟩
      unfold addK at hk
      by_cases hlt : k < K.length
      · rw [List.getElem?_append_left hlt] at hk; exact old k c' x' hk
      · rw [List.getElem?_append_right (by omega)] at hk
        have hk0 : k - K.length = 0 := by
          have := (List.getElem?_eq_some_iff.1 hk).1
          simp at this; exact this
        rw [hk0] at hk
        simp at hk
        obtain ⟨rfl, rfl⟩ := hk
        have hkj : k = (kn d j).length := by have := h.len; omega
        have hdr : s.drop done.length = (c :: t) ++ x :: r3 := by rw [hs2, List.append_assoc, List.drop_left]
        refine ⟨done.length, t.length + 1 + 1, c :: t, by rw [hkj]; simp, by omega, by simp, by simp at hsl; omega, g2.mono _, ?_⟩
        rw [hdr, show t.length + 1 + 1 = (c :: t).length + 1 by simp, List.take_length_add_append]
        rfl
  · intro hlt
    cases r2 with
    | nil => simp at hlt hsl; omega
    | cons x r3 => simp [addK]; omega
theorem sync_clear {s : List Int} {j : Nat} {K : List (Nat × Int)} {d : Ds} {done : List Int} (h : Sync s j K d done) : stepD d j 256 = some ⟨[], d.last, d.total, d.out⟩ ∧ Sync s 0 [] ⟨[], d.last, d.total, d.out⟩ done :=
  ⟨by simp [stepD], ⟨h.out, h.total, by simp [kn], ⟨by simp, fun k c x hk => by simp at hk⟩, fun _ => rfl⟩⟩
theorem sync_start (s : List Int) : Sync s 0 [] D0 [] := ⟨rfl, rfl, by simp [kn, D0], ⟨by simp, fun k c x hk => by simp at hk⟩, fun _ => rfl⟩
theorem enc_dec {s : List Int} (hl : s.length ≤ 65536) (ho : Oct s) : ∀ (f j : Nat) (K : List (Nat × Int)) (d : Ds) (done r : List Int), j ≤ 3838 → Sync s j K d done → s = done ++ r → r.length ≤ f →
    Val j (enc f j K r) ∧ (runC j (enc f j K r) d).out = s ∧ (runC j (enc f j K r) d).total = s.length
  | f, j, K, d, done, [], hj, h, hs, hf => by
    have he : enc f j K [] = [257] := by cases f <;> rfl
    rw [he]
    have hs' : s = done := by simpa using hs
    refine ⟨⟨hj, by omega, .inl ⟨rfl, rfl⟩⟩, ?_, ?_⟩
    · simp [runC, stepD, h.out, hs']
    · simp [runC, stepD, h.total, hs']
  | 0, j, K, d, done, c :: r, hj, h, hs, hf => by simp at hf
  | f + 1, j, K, d, done, c :: r, hj, h, hs, hf => by
    have hc : 0 ≤ c ∧ c < 256 := ho c (by rw [hs]; simp)
    by_cases hj2 : j = 3838
    · obtain ⟨q1, q2⟩ := sync_clear h
      obtain ⟨e1, e2, e3, d', t, k1, k2, k3⟩ := one q2 hs hl hc
      have hlen : (ext [] c.toNat r).2.length ≤ f := by
        have := congrArg List.length k2
        simp at this hf
        omega
      obtain ⟨v1, v2, v3⟩ := enc_dec hl ho f 1 _ d' (done ++ c :: t) (ext [] c.toNat r).2 (by omega) k3 (by rw [hs, List.append_assoc, List.cons_append, ← k2]) hlen
      unfold enc
      rw [if_pos hj2]
      have n1 : nextJ j 256 = 0 := rfl
      have n2 : nextJ 0 (ext [] c.toNat r).1 = 1 := by unfold nextJ; rw [if_neg e1]
      refine ⟨⟨hj, by omega, .inr ⟨by decide, ?_⟩⟩, ?_, ?_⟩
      · rw [n1]; exact ⟨by omega, e3, .inr ⟨e2, by rw [n2]; exact v1⟩⟩
      · simp only [runC, q1, n1, k1, n2]; exact v2
      · simp only [runC, q1, n1, k1, n2]; exact v3
    · obtain ⟨e1, e2, e3, d', t, k1, k2, k3⟩ := one h hs hl hc
      have hlen : (ext K c.toNat r).2.length ≤ f := by
        have := congrArg List.length k2
        simp at this hf
        omega
      obtain ⟨v1, v2, v3⟩ := enc_dec hl ho f (j + 1) _ d' (done ++ c :: t) (ext K c.toNat r).2 (by omega) k3 (by rw [hs, List.append_assoc, List.cons_append, ← k2]) hlen
      unfold enc
      rw [if_neg hj2]
      have n2 : nextJ j (ext K c.toNat r).1 = j + 1 := by unfold nextJ; rw [if_neg e1]
      refine ⟨⟨hj, e3, .inr ⟨e2, by rw [n2]; exact v1⟩⟩, ?_, ?_⟩
      · simp only [runC, k1, n2]; exact v2
      · simp only [runC, k1, n2]; exact v3
theorem ext_len (K : List (Nat × Int)) : ∀ (r : List Int) (c : Nat), (ext K c r).2.length ≤ r.length
  | [], c => by simp [ext]
  | y :: r, c => by
    unfold ext
    split
    · exact Nat.le_refl _
    · have := ext_len K r ‹_›
      simp only [List.length_cons]
      omega
theorem enc_count : ∀ (f j : Nat) (K : List (Nat × Int)) (r : List Int), j ≤ 3838 → (enc f j K r).length ≤ r.length + (j + r.length) / 3838 + 1
  | 0, j, K, r, hj => by simp [enc]
  | f + 1, j, K, [], hj => by simp [enc]
  | f + 1, j, K, c :: r, hj => by
    unfold enc
    split
    · have := enc_count f 1 (addK [] (ext [] c.toNat r).1 (ext [] c.toNat r).2) (ext [] c.toNat r).2 (by omega)
      have := ext_len [] r c.toNat
      simp only [List.length_cons]
      omega
    · have := enc_count f (j + 1) (addK K (ext K c.toNat r).1 (ext K c.toNat r).2) (ext K c.toNat r).2 (by omega)
      have := ext_len K r c.toNat
      simp only [List.length_cons]
      omega
theorem enc_val {s : List Int} (hl : s.length ≤ 65536) (ho : Oct s) : Val 0 (encCodes s) ∧ (runC 0 (encCodes s) D0).out = s ∧ (runC 0 (encCodes s) D0).total = s.length := by
  obtain ⟨h1, h2⟩ := sync_clear (sync_start s)
  obtain ⟨k1, k2, k3⟩ := enc_dec hl ho s.length 0 [] _ [] s (by omega) h2 rfl (Nat.le_refl _)
  unfold encCodes
  have n1 : nextJ 0 256 = 0 := rfl
  refine ⟨⟨by omega, by omega, .inr ⟨by decide, by rw [n1]; exact k1⟩⟩, ?_, ?_⟩
  · simp only [runC, h1, n1]; exact k2
  · simp only [runC, h1, n1]; exact k3
theorem W0_ok : Wok W0 := ⟨by decide, by decide, fun b hb => by simp [W0] at hb⟩
theorem encOut_ok {s : List Int} (hl : s.length ≤ 65536) (ho : Oct s) : Oct (encOut s) ∧ ∃ p, p < 8 ∧ obits (encOut s) = cb 0 (encCodes s) ++ bw p 0 := by
  obtain ⟨v, _, _⟩ := enc_val hl ho
  obtain ⟨h1, h2⟩ := fold_ok (encCodes s) W0 W0_ok v
  obtain ⟨h3, p, hp, h4⟩ := close_ok h1
  refine ⟨h3, p, hp, ?_⟩
  unfold encOut
  rw [h4, h2]
  rfl
theorem encOut_len {s : List Int} (hl : s.length ≤ 65536) (ho : Oct s) : 8 * (encOut s).length ≤ 12 * (s.length + s.length / 3838 + 2) + 7 := by
  obtain ⟨_, p, hp, h⟩ := encOut_ok hl ho
  have h1 := congrArg List.length h
  rw [obits_len, List.length_append, bw_len] at h1
  have h2 := cb_len (encCodes s) 0
  have h3 := enc_count s.length 0 [] s (by omega)
  unfold encCodes at h1 h2
  rw [List.length_cons] at h2
  rw [Nat.zero_add] at h3
  omega
theorem Val_len : ∀ {j : Nat} {cs : List Nat}, Val j cs → 9 * cs.length ≤ (cb j cs).length
  | j, [], v => by simp
  | j, c :: cs, ⟨h1, h2, h3⟩ => by
    have := wd_pos h1
    simp only [cb, List.length_append, bw_len, List.length_cons]
    rcases h3 with ⟨_, rfl⟩ | ⟨_, h⟩
    · simp; omega
    · have := Val_len h; omega
theorem start_ok (l : List Int) : Rok l ⟨0, 0, 0⟩ := ⟨by decide, by decide, Nat.zero_le _⟩
theorem rem_start (l : List Int) : rem l ⟨0, 0, 0⟩ = obits l := by unfold rem; simp [bw]
/-- Decoding what was coded, whatever follows. -/
theorem dec_enc {s more : List Int} (hl : s.length ≤ 65536) (ho : Oct s) (hm : Oct more) : expandL (encOut s ++ more) = (s, s.length, true, (encOut s).length) := by
  obtain ⟨h1, p, hp, h2⟩ := encOut_ok hl ho
  obtain ⟨v, v2, v3⟩ := enc_val hl ho
  have hlen : (cb 0 (encCodes s)).length + p = 8 * (encOut s).length := by
    have := congrArg List.length h2
    rw [obits_len, List.length_append, bw_len] at this; omega
  have hvl := Val_len v
  obtain ⟨q, hq, hT, hok⟩ := dec_codes (h1.app hm) (encCodes s) ((encOut s ++ more).length + 1) 0 ⟨0, 0, 0⟩ D0 v (T := bw p 0 ++ obits more) (by rw [rem_start, obits_app, h2, List.append_assoc]) (start_ok _) (by rw [List.length_append]; omega)
  unfold expandL
  rw [hq, v2, v3]
  have hl2 := congrArg List.length hT
  rw [rem_len, List.length_append (as := bw p 0), bw_len, obits_len, List.length_append] at hl2
  have h3 := hok.held
  have h4 := hok.at_
  rw [List.length_append] at h4
  have hh : q.held = p := by omega
  have ha : q.at_ = (encOut s).length := by omega
  have hb : q.bits = 0 := by
    unfold rem at hT
    have := (app_inj hT (by rw [bw_len, bw_len, hh])).1
    rw [← hh] at this
    exact bw_inj hok.bits (Nat.pow_pos (by decide)) this
  rw [ha, hb]
  rfl
/-- No proper part of a code, from its beginning on, is decoded. -/
theorem dec_prefix {s : List Int} (hl : s.length ≤ 65536) (ho : Oct s) (i : Nat) (hi : i < (encOut s).length) : (expandL ((encOut s).take i)).2.2.1 = false := by
  obtain ⟨h1, p, hp, h2⟩ := encOut_ok hl ho
  obtain ⟨v, _, _⟩ := enc_val hl ho
  have hlen : (cb 0 (encCodes s)).length + p = 8 * (encOut s).length := by
    have := congrArg List.length h2
    rw [obits_len, List.length_append, bw_len] at this; omega
  have hb : obits ((encOut s).take i) = (cb 0 (encCodes s)).take (8 * i) := by
    have e := congrArg (List.take (8 * i)) h2
    rw [List.take_append_of_le_length (by omega)] at e
    rw [← e]
    have e2 : obits (encOut s) = obits ((encOut s).take i) ++ obits ((encOut s).drop i) := by rw [← obits_app, List.take_append_drop]
    have e3 : (obits ((encOut s).take i)).length = 8 * i := by rw [obits_len, List.length_take]; omega
    rw [e2, ← e3, List.take_left]
  unfold expandL
  refine dec_part (D := (cb 0 (encCodes s)).drop (8 * i)) (h1.take i) ?_ (encCodes s) _ 0 ⟨0, 0, 0⟩ D0 v ?_ (start_ok _)
  · intro e
    have := congrArg List.length e
    rw [List.length_drop, List.length_nil] at this
    omega
  · rw [rem_start, hb, List.take_append_drop]
end Go.Proofs.Ytfkiacbjiledcaa.L06b
