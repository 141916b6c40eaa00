/- What holds of the decoder's state between two codes (plain, chapter 06). -/
import Derived.Test.YtfkiacbjiledcaaL06
namespace Go.Proofs.Ytfkiacbjiledcaa.L06d
open Go.RowKit Go.Proofs.YtfkiacbjiledcaaW.PrintWords Go.Proofs.YtfkiacbjiledcaaW.PrintLast Go.Proofs.YtfkiacbjiledcaaW.PrintMore
open Go.Proofs.Ytfkiacbjiledcaa.K06 Go.Proofs.Ytfkiacbjiledcaa.L06
set_option linter.unusedVariables false
structure DI (k : Nat) (d : Ds) (j : Nat) : Prop where
  len : (kn d j).length = j
  parts : ∀ q ∈ kn d j, q.1 + q.2 ≤ d.total + 1 ∧ q.1 < d.total ∧ 2 ≤ q.2 ∧ q.2 ≤ k + 1
  out : d.total ≤ 65536 → d.out.length = d.total
  outle : d.out.length ≤ 65536
  tot : d.total ≤ 70000 * k
  last : d.last.2 ≤ k
  last1 : d.last.1 ≤ d.total
theorem DI_start : DI 0 D0 0 := ⟨rfl, fun q hq => by simp [kn, D0] at hq, fun _ => rfl, by simp [D0], by simp [D0], by simp [D0], by simp [D0]⟩
theorem copyN_len : ∀ (n a : Nat) (out : List Int), (copyN n a out).length = out.length + n
  | 0, a, out => rfl
  | n + 1, a, out => by unfold copyN; rw [copyN_len n]; simp; omega
theorem copyN_succ : ∀ (n a : Nat) (out : List Int), copyN (n + 1) a out = copyN n a out ++ [(copyN n a out).getD (a + n) 0]
  | 0, a, out => rfl
  | n + 1, a, out => by
    rw [copyN, copyN_succ n (a + 1)]
    conv => rhs; unfold copyN
    rw [show a + 1 + n = a + (n + 1) by omega]
theorem long_bd {k : Nat} {d : Ds} {j c : Nat} (h : DI k d j) (hc : c ≤ 257 + j) (hc7 : c ≠ 257) : 1 ≤ longOf (kn d j) c ∧ longOf (kn d j) c ≤ k + 1 := by
  unfold longOf
  split
  · have hl := h.len
    have hlt : c - 258 < (kn d j).length := by omega
    rw [List.getD_eq_getElem?_getD, List.getElem?_eq_getElem hlt]
    have := h.parts _ (List.getElem_mem hlt)
    simp only [Option.getD_some]
    omega
  · omega
theorem DI_step {k : Nat} {d d' : Ds} {j c : Nat} (hk : k ≤ 65540) (h : DI k d j) (hs : stepD d j c = some d') : DI (k + 1) d' (nextJ j c) := by
  unfold stepD at hs
  by_cases h7 : c = 257
  · rw [if_pos h7] at hs; cases hs
  rw [if_neg h7] at hs
  by_cases h6 : c = 256
  · rw [if_pos h6] at hs
    cases hs
    have hn : nextJ j c = 0 := if_pos h6
    rw [hn]
    have h1 := h.tot
    have h2 := h.last
    have h3 : d.total ≤ 70000 * (k + 1) := by omega
    have h0 : kn ⟨[], d.last, d.total, d.out⟩ 0 = [] := rfl
    exact { len := by rw [h0]; rfl, parts := (by rw [h0]; intro q hq; cases hq), out := h.out, outle := h.outle, tot := h3, last := Nat.le_succ_of_le h2, last1 := h.last1 }
  rw [if_neg h6] at hs
  by_cases hb : 257 + j < c
  · rw [if_pos hb] at hs; cases hs
  rw [if_neg hb] at hs
  have hn : nextJ j c = j + 1 := if_neg h6
  rw [hn]
  obtain ⟨l1, l2⟩ := long_bd h (by omega) h7
  obtain ⟨L, hL⟩ : ∃ L, longOf (kn d j) c = L := ⟨_, rfl⟩
  rw [hL] at hs l1 l2
  have key : ∀ out : List Int, (d.total + L ≤ 65536 → out.length = d.total + L) → out.length ≤ 65536 → DI (k + 1) ⟨kn d j, (d.total, L), d.total + L, out⟩ (j + 1) := by
    intro out ho hol
    have hkn : kn ⟨kn d j, (d.total, L), d.total + L, out⟩ (j + 1) = kn d j ++ [(d.total, L + 1)] := by unfold kn; rw [if_pos (by omega)]
    refine ⟨?_, ?_, ho, hol, ?_, ?_, ?_⟩
    · rw [hkn, List.length_append, h.len]; rfl
    · rw [hkn]
      intro q hq
      simp only at *
      rw [List.mem_append] at hq
      rcases hq with hq | hq
      · have := h.parts q hq; omega
      · rw [List.mem_singleton] at hq; subst hq; simp only; omega
    · have := h.tot; simp only; omega
    · simp only; omega
    · simp only; omega
  by_cases hbig : 65536 < d.total + L
  · rw [if_pos hbig] at hs
    cases hs
    exact key _ (fun hx => by omega) h.outle
  · rw [if_neg hbig] at hs
    have ho := h.out (by omega)
    by_cases h256 : c < 256
    · rw [if_pos h256] at hs
      cases hs
      have hL1 : L = 1 := by rw [← hL]; unfold longOf; rw [if_neg (by omega)]
      exact key _ (fun _ => by rw [List.length_append, List.length_singleton]; omega) (by rw [List.length_append, List.length_singleton]; omega)
    · rw [if_neg h256] at hs
      cases hs
      exact key _ (fun _ => by rw [copyN_len]; omega) (by rw [copyN_len]; omega)
/-- The state behind items at none of which the decoder stops. -/
def goD : List It → Ds → Option Ds
  | [], d => some d
  | x :: r, d => match stepD d x.j x.code with
    | none => none
    | some d' => goD r d'
theorem goD_snoc : ∀ (l : List It) (x : It) (d d' : Ds), goD l d = some d' → goD (l ++ [x]) d = stepD d' x.j x.code
  | [], x, d, d', h => by
    cases h
    simp only [List.nil_append, goD]
    cases stepD d x.j x.code <;> rfl
  | y :: l, x, d, d', h => by
    simp only [List.cons_append, goD] at h ⊢
    cases hs : stepD d y.j y.code with
    | none => rw [hs] at h; cases h
    | some e => rw [hs] at h; exact goD_snoc l x e d' h
theorem expandR_go : ∀ (l r : List It) (d d' : Ds), goD l d = some d' → expandR (l ++ r) d = expandR r d'
  | [], r, d, d', h => by cases h; rfl
  | y :: l, r, d, d', h => by
    simp only [List.cons_append, goD, expandR] at h ⊢
    cases hs : stepD d y.j y.code with
    | none => rw [hs] at h; cases h
    | some e => rw [hs] at h; exact expandR_go l r e d' h
theorem items_DI : ∀ (f : Nat) (l : List Int) (j k : Nat) (r : Rs) (d d' : Ds) (pre rest : List It) (x : It), pre ++ x :: rest = items f l j r → DI k d j → k + pre.length ≤ 65540 → goD pre d = some d' → DI (k + pre.length) d' x.j
  | 0, l, j, k, r, d, d', pre, rest, x, h, _, _, _ => by simp [items] at h
  | f + 1, l, j, k, r, d, d', pre, rest, x, h, hd, hk, hg => by
    unfold items at h
    cases hr : readR l j r with
    | none => rw [hr] at h; simp at h
    | some p =>
      obtain ⟨c, q⟩ := p
      rw [hr] at h
      simp only at h
      cases pre with
      | nil =>
        simp only [List.nil_append, List.cons.injEq] at h
        obtain ⟨rfl, _⟩ := h
        cases hg
        exact hd
      | cons y pre =>
        simp only [List.cons_append, List.cons.injEq] at h
        obtain ⟨rfl, h2⟩ := h
        simp only [goD] at hg
        cases hs : stepD d j c with
        | none => rw [hs] at hg; cases hg
        | some e =>
          rw [hs] at hg
          simp only at hg
          split at h2
          · simp at h2
          · have := items_DI f l (nextJ j c) (k + 1) q e d' pre rest x h2 (DI_step (by simp at hk; omega) hd hs) (by simp at hk; omega) hg
            rw [List.length_cons, show k + (pre.length + 1) = k + 1 + pre.length by omega]
            exact this
theorem items_code : ∀ (f : Nat) (l : List Int) (j : Nat) (r : Rs), Oct l → Rok l r → ∀ x ∈ items f l j r, x.code < 4096 ∧ x.rs.at_ ≤ l.length ∧ x.rs.bits < 256
  | 0, l, j, r, _, _, x, hx => by simp [items] at hx
  | f + 1, l, j, r, ho, hk, x, hx => by
    unfold items at hx
    cases hr : readR l j r with
    | none => rw [hr] at hx; simp at hx
    | some p =>
      obtain ⟨c, q⟩ := p
      rw [hr] at hx
      obtain ⟨_, h2, h3, _⟩ := read_ok ho hk hr
      simp only [List.mem_cons] at hx
      rcases hx with rfl | hx
      · refine ⟨?_, h3.at_, ?_⟩
        · have : 2 ^ wd j ≤ 2 ^ 12 := Nat.pow_le_pow_right (by decide) (wd_le j)
          simp only; omega
        · have := h3.bits
          have : 2 ^ q.held ≤ 2 ^ 8 := Nat.pow_le_pow_right (by decide) (by have := h3.held; omega)
          simp only; omega
      · split at hx
        · simp at hx
        · exact items_code f l (nextJ j c) q ho h3 x hx
end Go.Proofs.Ytfkiacbjiledcaa.L06d
