/- The reference of chapter 02 answers as the plain functions: Unbase85. -/
import Derived.Test.YtkfhpajnlaomeaaR02c
namespace Go.Proofs.Ytkfhpajnlaomeaa.R02d
open Go.RowKit Go.Proofs.YtkfhpajnlaomeaaW.PrintWords Go.Proofs.YtkfhpajnlaomeaaW.PrintLast Go.Proofs.YtkfhpajnlaomeaaW.PrintMore
open Go.Proofs.Ytkfhpajnlaomeaa.K02 Go.Proofs.Ytkfhpajnlaomeaa.L02 Go.Proofs.Ytkfhpajnlaomeaa.P02 Go.Proofs.Ytkfhpajnlaomeaa.R02 Go.Proofs.Ytkfhpajnlaomeaa.R02b
open Go.Proofs.Ytkfhpajnlaomeaa.G02v
set_option linter.unusedVariables false
set_option maxRecDepth 100000
def endsL : List (Nat × Int) → Int
  | [] => -1
  | (i, c) :: _ => if c = 62 then (i : Int) + 1 else -1
theorem ends_loop (s : ByteArray) (hs : s.size ≤ 65536) : ∀ (N i : Nat), s.size - i < N → ∃ k, chaseref02_ends.l0 k s i = some (endsL (sol ((bytesOf s).drop i) i)) := by
  intro N
  induction N with
  | zero => intro i h; omega
  | succ N ih =>
    intro i hN
    by_cases h : i < s.size
    · have hsol := G02i.sol_cons (bytesOf s) i (by rw [bytesOf_len]; exact h)
      rw [← bt_getD] at hsol
      have c1 : (i : Int) < (s.size : Int) := by omega
      have c2 : (0 : Int) ≤ (i : Int) := by omega
      obtain ⟨k, hk⟩ := ih (i + 1) (by omega)
      have e1 := w64 ((i : Int) + 1) (by omega) (by omega)
      refine ⟨k + 1, ?_⟩
      rw [chaseref02_ends.l0, if_pos c1, if_pos c2, blank_eq, Option.bind_some, e1, hsol]
      generalize bt s (i : Int) = b
      cases hbl : blankC b with
      | true =>
        rw [if_pos rfl, if_pos rfl]
        exact hk
      | false =>
        simp only [Bool.false_eq_true, if_false]
        unfold endsL
        by_cases h62 : b = 62
        · rw [if_pos h62]; simp only; rw [if_pos h62]
        · rw [if_neg h62]; simp only; rw [if_neg h62]
    · refine ⟨1, ?_⟩
      rw [chaseref02_ends.l0, if_neg (by omega), List.drop_of_length_le (by rw [bytesOf_len]; omega)]
      rfl
theorem ends_range (l : List (Nat × Int)) (h : ¬ endsL l < 0) : ∃ i r, l = (i, 62) :: r ∧ endsL l = (i : Int) + 1 := by
  match l with
  | [] => exact absurd (show endsL [] < 0 by decide) h
  | (i, c) :: r =>
    unfold endsL at h ⊢
    simp only at h ⊢
    by_cases hc : c = 62
    · subst hc; exact ⟨i, r, rfl, rfl⟩
    · rw [if_neg hc] at h; exact absurd (by decide) h
theorem rd_end (l : List (Nat × Int)) (t : Tens) (ht : t.last = true) (h : endsL l < 0) : K02.rd takeT l t = none := by
  match l with
  | [] => rfl
  | (i, c) :: r =>
    unfold endsL at h
    simp only at h
    by_cases hc : c = 62
    · rw [if_pos hc] at h; omega
    · rw [K02.rd]
      have : takeT t c = none := by unfold K02.takeT; rw [if_pos ht, if_neg hc]
      rw [this]
theorem rd_end2 (i : Nat) (r : List (Nat × Int)) (t : Tens) (ht : t.last = true) : K02.rd takeT ((i, 62) :: r) t = (close t).map (fun q => (q.1, i + 1)) := by
  rw [K02.rd]
  have : takeT t 62 = close t := by unfold K02.takeT; rw [if_pos ht, if_pos rfl]
  rw [this]
  cases hc : close t with
  | none => rfl
  | some q =>
    obtain ⟨t', b⟩ := q
    have := close_true t t' b hc
    subst this
    rfl
/-! ### A unit of five characters -/
theorem unit_step (k : Nat) (x : List Int) (n : Int) (i : Nat) (hx : ∀ c ∈ x, 33 ≤ c ∧ c ≤ 117) (hi : i < 5) (h0 : 0 ≤ n) (h1 : n < 100000000) :
    chaseref02_unit.l0 (k + 1) x n i = chaseref02_unit.l0 k x (n * 85 + (x.getD i 117 - 33)) ((i + 1 : Nat) : Int) := by
  have hg : 33 ≤ x.getD i 117 ∧ x.getD i 117 ≤ 117 := by
    by_cases h : i < x.length
    · rw [List.getD_eq_getElem?_getD, List.getElem?_eq_getElem h]; exact hx _ (List.getElem_mem _)
    · rw [List.getD_eq_getElem?_getD, List.getElem?_eq_none (by omega)]; decide
  have c1 : (i : Int) < 5 := by omega
  have e1 := w64 (n * 85) (by omega) (by omega)
  have e4 := w64 ((i : Int) + 1) (by omega) (by omega)
  rw [chaseref02_unit.l0, if_pos c1, e1, e4]
  clear e1 e4 c1
  by_cases h : i < x.length
  · have hr : YtkfhpajnlaomeaaW.PrintWords.rd x (i : Int) = x.getD i 117 := by
      unfold YtkfhpajnlaomeaaW.PrintWords.rd
      rw [Int.toNat_natCast, List.getD_eq_getElem?_getD, List.getElem?_eq_getElem h, List.getD_eq_getElem?_getD, List.getElem?_eq_getElem h]
      rfl
    have c1 : (i : Int) < (x.length : Int) := by omega
    have c2 : (0 : Int) ≤ (i : Int) := by omega
    rw [if_pos c1, if_pos c2, hr]
    clear hr c1 c2
    generalize x.getD i 117 = c at hg ⊢
    have e2 := w64 c (by omega) (by omega)
    have e3 := w64 (n * 85 + c) (by omega) (by omega)
    have e5 := w64 (n * 85 + c - 33) (by omega) (by omega)
    rw [e2, e3, e5, Int.add_sub_assoc]
    rfl
  · have hd : x.getD i 117 = 117 := by rw [List.getD_eq_getElem?_getD, List.getElem?_eq_none (by omega)]; rfl
    have c1 : ¬ (i : Int) < (x.length : Int) := by omega
    rw [if_neg c1, hd]
    have e3 := w64 (n * 85 + 117) (by omega) (by omega)
    have e5 := w64 (n * 85 + 117 - 33) (by omega) (by omega)
    rw [e3, e5, Int.add_sub_assoc]
    rfl
theorem pad5 (g : List Int) (h : g.length ≤ 5) : [g.getD 0 117, g.getD 1 117, g.getD 2 117, g.getD 3 117, g.getD 4 117] = g ++ List.replicate (5 - g.length) 117 := by
  match g, h with
  | [], _ => rfl
  | [a], _ => rfl
  | [a, b], _ => rfl
  | [a, b, c], _ => rfl
  | [a, b, c, d], _ => rfl
  | [a, b, c, d, e], _ => rfl
  | a :: b :: c :: d :: e :: f :: r, h => simp at h
theorem gd (x : List Int) (hx : ∀ c ∈ x, 33 ≤ c ∧ c ≤ 117) (i : Nat) : 33 ≤ x.getD i 117 ∧ x.getD i 117 ≤ 117 := by
    by_cases h : i < x.length
    · rw [List.getD_eq_getElem?_getD, List.getElem?_eq_getElem h]; exact hx _ (List.getElem_mem _)
    · rw [List.getD_eq_getElem?_getD, List.getElem?_eq_none (by omega)]; decide
theorem unit_eq (x : List Int) (hx : ∀ c ∈ x, 33 ≤ c ∧ c ≤ 117) (hl : x.length ≤ 5) (k : Nat) : chaseref02_unit.f (k + 6) x = some (val85 (x ++ List.replicate (5 - x.length) 117)) := by
  rw [← pad5 x hl]
  have g0 := gd x hx 0
  have g1 := gd x hx 1
  have g2 := gd x hx 2
  have g3 := gd x hx 3
  unfold chaseref02_unit.f
  have s0 := unit_step (k + 5) x 0 0 hx (by omega) (by omega) (by omega)
  have z : ((0 : Nat) : Int) = 0 := rfl
  rw [z] at s0
  unfold val85
  simp only [List.foldl_cons, List.foldl_nil]
  obtain ⟨n0, q0⟩ : ∃ n0, 0 * 85 + (x.getD 0 117 - 33) = n0 := ⟨_, rfl⟩
  rw [q0] at s0 ⊢
  have s1 := unit_step (k + 4) x n0 1 hx (by omega) (by omega) (by omega)
  obtain ⟨n1, q1⟩ : ∃ n1, n0 * 85 + (x.getD 1 117 - 33) = n1 := ⟨_, rfl⟩
  rw [q1] at s1 ⊢
  have s2 := unit_step (k + 3) x n1 2 hx (by omega) (by omega) (by omega)
  obtain ⟨n2, q2⟩ : ∃ n2, n1 * 85 + (x.getD 2 117 - 33) = n2 := ⟨_, rfl⟩
  rw [q2] at s2 ⊢
  have s3 := unit_step (k + 2) x n2 3 hx (by omega) (by omega) (by omega)
  obtain ⟨n3, q3⟩ : ∃ n3, n2 * 85 + (x.getD 3 117 - 33) = n3 := ⟨_, rfl⟩
  rw [q3] at s3 ⊢
  have s4 := unit_step (k + 1) x n3 4 hx (by omega) (by omega) (by omega)
  rw [s0, s1, s2, s3, s4, chaseref02_unit.l0, if_neg (by omega)]
theorem four_eq (n : Int) (h0 : 0 ≤ n) (h1 : n < 4294967296) : chaseref02_four.f n = some (four n) := by
  unfold chaseref02_four.f four
  have d1 : Int.tdiv n 16777216 = n / 16777216 := Int.tdiv_eq_ediv_of_nonneg h0
  have d2 : Int.tdiv n 65536 = n / 65536 := Int.tdiv_eq_ediv_of_nonneg h0
  have d3 : Int.tdiv n 256 = n / 256 := Int.tdiv_eq_ediv_of_nonneg h0
  have e1 := w64 (n / 16777216) (by omega) (by omega)
  have e2 := w64 (n / 65536) (by omega) (by omega)
  have e3 := w64 (n / 256) (by omega) (by omega)
  have d4 : Int.tmod (n / 65536) 256 = n / 65536 % 256 := Int.tmod_eq_emod_of_nonneg (by omega)
  have d5 : Int.tmod (n / 256) 256 = n / 256 % 256 := Int.tmod_eq_emod_of_nonneg (by omega)
  have d6 : Int.tmod n 256 = n % 256 := Int.tmod_eq_emod_of_nonneg (by omega)
  rw [d1, d2, d3, e1, e2, e3, d4, d5, d6, Int.emod_emod, Int.emod_emod, Int.emod_emod]
theorem val_nonneg (l : List Int) (h : ∀ c ∈ l, 33 ≤ c) : 0 ≤ val85 l := by
  have : ∀ (l : List Int) (n : Int), 0 ≤ n → (∀ c ∈ l, 33 ≤ c) → 0 ≤ l.foldl (fun n c => n * 85 + (c - 33)) n := by
    intro l
    induction l with
    | nil => intro n h _; exact h
    | cons a r ih =>
      intro n h hl
      have := hl a (List.mem_cons_self ..)
      exact ih _ (show 0 ≤ n * 85 + (a - 33) by omega) (fun c hc => hl c (List.mem_cons_of_mem _ hc))
  exact this l 0 (Int.le_refl _) h
theorem up0 {k : Nat} {s : ByteArray} {a b : List Int} {i : Int} {r : ByteArray × Int × Int} (h : chaseref02_Unbase85.l0 k s a b i = some r) : ∀ m, chaseref02_Unbase85.l0 (k + m) s a b i = some r := by
  intro m
  induction m with
  | zero => exact h
  | succ m ih => exact (chaseref02_Unbase85.mono_l (k + m)).1 s a b i _ ih
theorem ends_up {k : Nat} {s : ByteArray} {i : Int} {r : Int} (h : chaseref02_ends.l0 k s i = some r) : ∀ m, chaseref02_ends.f (k + m) s i = some r := by
  intro m
  induction m with
  | zero => exact h
  | succ m ih => exact chaseref02_ends.mono s i (k + m) _ ih
theorem fin_some (out : List Int) (i : Nat) : chaseref02_finish.f out ((i : Int) + 1) = some (fin (some (out, i + 1))) := by
  unfold chaseref02_finish.f fin
  simp only
  by_cases h : out.length > 65536
  · rw [if_pos (by omega), if_pos h]
  · rw [if_neg (by omega), if_neg h]
    rfl
theorem four_len (n : Int) : (four n).length = 4 := rfl
/-- The end: '~', then '>'. -/
theorem j1_eq (out part : List Int) (hp : part.length ≤ 4) (hr : ∀ c ∈ part, 33 ≤ c ∧ c ≤ 117) (ho : out.length ≤ 1000000) (i k : Nat) (b : Bool)
    (hb : b = (decide (part.length = 1) || (decide (1 < part.length) && decide (4294967296 ≤ val85 (part ++ List.replicate (5 - part.length) 117))))) :
    chaseref02_Unbase85.j1 (k + 7) out part ((i : Int) + 1) b = some (fin (((close ⟨part, true, out⟩).map (fun q => (q.1, i + 1))).map (fun q => (q.1.out, q.2)))) := by
  have hv0 := val_nonneg (part ++ List.replicate (5 - part.length) 117) (fun c hc => by
    rcases List.mem_append.1 hc with h | h
    · exact (hr c h).1
    · rw [(List.mem_replicate.1 h).2]; decide)
  have hu := unit_eq part hr (by omega) k
  rw [chaseref02_Unbase85.j1]
  unfold close
  simp only
  generalize val85 (part ++ List.replicate (5 - part.length) 117) = v at hb hv0 hu ⊢
  by_cases h1 : part.length = 1
  · have : b = true := by rw [hb, decide_eq_true h1]; rfl
    rw [if_pos this, if_pos h1]
    rfl
  · rw [if_neg h1]
    by_cases h2 : 1 < part.length
    · rw [if_pos h2]
      by_cases hv : v < 4294967296
      · have : b = false := by rw [hb, decide_eq_false h1, decide_eq_false (show ¬ 4294967296 ≤ v by omega)]; simp
        rw [this, if_neg (by decide), if_pos (by omega), hu, Option.bind_some, four_eq v hv0 hv, Option.bind_some, if_pos hv]
        have c1 : (0 : Int) ≤ (part.length : Int) - 1 := by omega
        have c2 : (part.length : Int) - 1 ≤ ((four v).length : Int) := by rw [four_len]; omega
        have c3 : ((part.length : Int) - 1).toNat = part.length - 1 := by omega
        have c4 : out.length + ((four v).take (part.length - 1)).length < 140737488355328 := by rw [List.length_take, four_len]; omega
        have e1 := w64 ((part.length : Int) - 1) (by omega) (by omega)
        rw [e1, if_pos c1, if_pos c2, c3, Option.bind_some, if_pos c4, fin_some]
        rfl
      · have : b = true := by rw [hb, decide_eq_true h2, decide_eq_true (show 4294967296 ≤ v by omega)]; simp
        rw [if_pos this, if_neg hv]
        rfl
    · have : b = false := by rw [hb, decide_eq_false h1, decide_eq_false h2]; rfl
      rw [this, if_neg (by decide), if_neg (by omega), if_neg h2, fin_some]
      rfl
theorem unb85_loop (s : ByteArray) (hs : s.size ≤ 65536) : ∀ (N i : Nat) (out part : List Int), s.size - i < N → out.length ≤ 5 * i → i ≤ s.size → part.length ≤ 4 → (∀ c ∈ part, 33 ≤ c ∧ c ≤ 117) →
    ∃ k, chaseref02_Unbase85.l0 k s out part i = some (fin ((K02.rd takeT (sol ((bytesOf s).drop i) i) ⟨part, false, out⟩).map (fun q => (q.1.out, q.2)))) := by
  intro N
  induction N with
  | zero => intro i out part h; omega
  | succ N ih =>
    intro i out part hN ho hi hp hr
    by_cases h : i < s.size
    · have hbr := bt_r s (i : Int)
      have hsol := G02i.sol_cons (bytesOf s) i (by rw [bytesOf_len]; exact h)
      rw [← bt_getD] at hsol
      have c1 : (i : Int) < (s.size : Int) := by omega
      have c2 : (0 : Int) ≤ (i : Int) := by omega
      have c3 : (i : Int) + 1 = ((i + 1 : Nat) : Int) := rfl
      have c5 : out.length ≤ 1000000 := by omega
      have e1 := w64 ((i : Int) + 1) (by omega) (by omega)
      rw [c3] at e1
      generalize hbd : bt s (i : Int) = b at hbr hsol
      cases hbl : blankC b with
      | true =>
        rw [hbl, if_pos rfl] at hsol
        obtain ⟨k, hk⟩ := ih (i + 1) out part (by omega) (by omega) (by omega) hp hr
        refine ⟨k + 1, ?_⟩
        rw [chaseref02_Unbase85.l0, if_pos c1, if_pos c2, hbd, blank_eq, Option.bind_some, hbl, if_pos rfl, c3, e1, hsol]
        exact hk
      | false =>
        rw [hbl] at hsol
        simp only [Bool.false_eq_true, if_false] at hsol
        rw [hsol]
        have hopen : ∀ k, chaseref02_Unbase85.l0 (k + 1) s out part i = if b = 126 then ((chaseref02_ends.f k s ((i + 1 : Nat) : Int)).bind fun t150 => (if t150 < 0 then (chaseref02_Unbase85.j1 k out part t150 true) else (if (part.length : Int) = 1 then (chaseref02_Unbase85.j1 k out part t150 true) else (if (part.length : Int) > 1 then ((chaseref02_unit.f k part).bind fun t151 => (chaseref02_Unbase85.j1 k out part t150 (decide (t151 ≥ 4294967296)))) else (chaseref02_Unbase85.j1 k out part t150 false))))) else (if b = 122 then (chaseref02_Unbase85.j2 k s out part i b ((part.length : Int) == 0)) else (chaseref02_Unbase85.j2 k s out part i b false)) := by
          intro k
          rw [chaseref02_Unbase85.l0, if_pos c1, if_pos c2, hbd, blank_eq, Option.bind_some, hbl, if_neg (by decide), c3, e1]
        by_cases h126 : b = 126
        · obtain ⟨ke, hke⟩ := ends_loop s hs (s.size + 1) (i + 1) (by omega)
          have hup := ends_up hke 7
          have ht : takeT ⟨part, false, out⟩ b = some (⟨part, true, out⟩, false) := by
            unfold K02.takeT
            rw [if_neg (by simp), if_pos h126]
          refine ⟨ke + 7 + 1, ?_⟩
          rw [hopen, if_pos h126, hup, Option.bind_some, K02.rd, ht]
          simp only
          generalize sol ((bytesOf s).drop (i + 1)) (i + 1) = l at hup ⊢
          by_cases hneg : endsL l < 0
          · rw [if_pos hneg, rd_end l _ rfl hneg, chaseref02_Unbase85.j1, if_pos rfl]
            rfl
          · obtain ⟨j, r, hl, hj⟩ := ends_range l hneg
            have hu := unit_eq part hr (by omega) (ke + 1)
            rw [if_neg hneg, hj, hl, rd_end2 j r _ rfl]
            by_cases q1 : part.length = 1
            · rw [if_pos (by omega)]
              exact j1_eq out part hp hr c5 j ke true (by rw [decide_eq_true q1]; rfl)
            · rw [if_neg (by omega)]
              by_cases q2 : 1 < part.length
              · rw [if_pos (by omega), hu, Option.bind_some]
                exact j1_eq out part hp hr c5 j ke _ (by rw [decide_eq_false q1, decide_eq_true q2]; simp)
              · rw [if_neg (by omega)]
                exact j1_eq out part hp hr c5 j ke _ (by rw [decide_eq_false q1, decide_eq_false q2]; rfl)
        · have hj3 : ∀ k, chaseref02_Unbase85.j2 (k + 2) s out part i b false = chaseref02_Unbase85.j3 (k + 1) s out part i b (decide (b < 33 ∨ 117 < b)) := by
            intro k
            rw [chaseref02_Unbase85.j2, if_neg (by decide)]
            by_cases q : b < 33
            · rw [if_pos q, decide_eq_true (Or.inl q)]
            · rw [if_neg q]
              congr 1
              simp only [decide_eq_decide]
              omega
          have hbad : ∀ k, chaseref02_Unbase85.j3 (k + 1) s out part i b true = some (fin none) := by
            intro k
            rw [chaseref02_Unbase85.j3, if_pos rfl]
            rfl
          by_cases h122 : b = 122
          · by_cases hp0 : 0 < part.length
            · refine ⟨0 + 2 + 1, ?_⟩
              have ht := tt_z ⟨part, false, out⟩ rfl hp0
              rw [hopen, if_neg h126, if_pos h122, (beq_eq_false_iff_ne.2 (by omega) : ((part.length : Int) == 0) = false), hj3, decide_eq_true (Or.inr (by omega)), hbad, K02.rd, h122, ht]
              rfl
            · have ht := tt_z0 ⟨part, false, out⟩ rfl hp0
              obtain ⟨k, hk⟩ := ih (i + 1) (out ++ [0, 0, 0, 0]) part (by omega) (by simp; omega) (by omega) hp hr
              refine ⟨k + 1 + 1, ?_⟩
              rw [hopen, if_neg h126, if_pos h122, (beq_iff_eq.2 (by omega) : ((part.length : Int) == 0) = true), chaseref02_Unbase85.j2, if_pos rfl, Option.bind_some, if_pos (by simp; omega), c3, e1, K02.rd, h122, ht]
              exact hk
          · by_cases hout : b < 33 ∨ 117 < b
            · refine ⟨0 + 2 + 1, ?_⟩
              have ht := tt_bad ⟨part, false, out⟩ b rfl h126 h122 hout
              rw [hopen, if_neg h126, if_neg h122, hj3, decide_eq_true hout, hbad, K02.rd, ht]
              rfl
            · have hb2 : 33 ≤ b ∧ b ≤ 117 := by omega
              have hr2 : ∀ c ∈ part ++ [b], 33 ≤ c ∧ c ≤ 117 := fun c hc => by
                rcases List.mem_append.1 hc with hc | hc
                · exact hr c hc
                · rw [List.mem_singleton.1 hc]; exact hb2
              have hlen : (part ++ [b]).length = part.length + 1 := by simp
              by_cases hp4 : part.length = 4
              · have ht := tt_five ⟨part, false, out⟩ b rfl h126 h122 hout hp4
                have hv0 := val_nonneg (part ++ [b]) (fun c hc => (hr2 c hc).1)
                have hu : ∀ k, chaseref02_unit.f (k + 6) (part ++ [b]) = some (val85 (part ++ [b])) := by
                  intro k
                  rw [unit_eq (part ++ [b]) hr2 (by omega) k, hlen, hp4]
                  simp
                simp only at ht
                by_cases hv : val85 (part ++ [b]) < 4294967296
                · obtain ⟨k, hk⟩ := ih (i + 1) (out ++ four (val85 (part ++ [b]))) [] (by omega) (by rw [List.length_append, four_len]; omega) (by omega) (by simp) (by simp)
                  refine ⟨k + 6 + 2 + 1, ?_⟩
                  rw [if_pos hv] at ht
                  rw [hopen, if_neg h126, if_neg h122, hj3, decide_eq_false hout, chaseref02_Unbase85.j3, if_neg (by decide), if_pos (by omega), Option.bind_some, if_neg (by omega), hu, Option.bind_some, if_neg (by omega), Option.bind_some, four_eq _ hv0 hv, Option.bind_some, if_pos (by rw [four_len]; omega), c3, e1, K02.rd, ht]
                  exact up0 hk 6
                · refine ⟨0 + 6 + 2 + 1, ?_⟩
                  rw [if_neg hv] at ht
                  rw [hopen, if_neg h126, if_neg h122, hj3, decide_eq_false hout, chaseref02_Unbase85.j3, if_neg (by decide), if_pos (by omega), Option.bind_some, if_neg (by omega), hu, Option.bind_some, if_pos (by omega), K02.rd, ht]
                  rfl
              · have ht := tt_more ⟨part, false, out⟩ b rfl h126 h122 hout hp4
                obtain ⟨k, hk⟩ := ih (i + 1) out (part ++ [b]) (by omega) (by omega) (by omega) (by omega) hr2
                refine ⟨k + 2 + 1, ?_⟩
                rw [hopen, if_neg h126, if_neg h122, hj3, decide_eq_false hout, chaseref02_Unbase85.j3, if_neg (by decide), if_pos (by omega), Option.bind_some, if_pos (by omega), c3, e1, K02.rd, ht]
                exact hk
    · refine ⟨1, ?_⟩
      rw [chaseref02_Unbase85.l0, if_neg (show ¬ (i : Int) < (s.size : Int) by omega), List.drop_of_length_le (by rw [bytesOf_len]; omega)]
      rfl
theorem ref_unb85 (s : ByteArray) : ∃ k, chaseref02_Unbase85.f k s = some (unb85Res s) := by
  unfold chaseref02_Unbase85.f unb85Res
  by_cases hs : (s.size : Int) > 65536
  · exact ⟨0, by rw [if_pos hs, if_pos hs]⟩
  · obtain ⟨k, hk⟩ := unb85_loop s (by omega) (s.size + 1) 0 [] [] (by omega) (by simp) (by omega) (by simp) (by simp)
    refine ⟨k, ?_⟩
    rw [if_neg hs, if_neg hs]
    exact hk
end Go.Proofs.Ytkfhpajnlaomeaa.R02d
