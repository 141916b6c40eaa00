/- The reference of chapter 02 answers as the plain functions: base 85, both ways. -/
import Derived.Test.YtkfhpajnlaomeaaR02b
import Derived.Test.YtkfhpajnlaomeaaG02v
namespace Go.Proofs.Ytkfhpajnlaomeaa.R02c
open Go.RowKit Go.Proofs.YtkfhpajnlaomeaaW.PrintWords Go.Proofs.YtkfhpajnlaomeaaW.PrintLast Go.Proofs.YtkfhpajnlaomeaaW.PrintMore
open Go.Proofs.Ytkfhpajnlaomeaa.K02 Go.Proofs.Ytkfhpajnlaomeaa.L02 Go.Proofs.Ytkfhpajnlaomeaa.P02 Go.Proofs.Ytkfhpajnlaomeaa.R02 Go.Proofs.Ytkfhpajnlaomeaa.R02b
open Go.Proofs.Ytkfhpajnlaomeaa.G02v
set_option linter.unusedVariables false
set_option maxRecDepth 100000
theorem pad4 (g : List Int) (h : g.length ≤ 4) : [g.getD 0 0, g.getD 1 0, g.getD 2 0, g.getD 3 0] = g ++ List.replicate (4 - g.length) 0 := by
  match g, h with
  | [], _ => rfl
  | [a], _ => rfl
  | [a, b], _ => rfl
  | [a, b, c], _ => rfl
  | [a, b, c, d], _ => rfl
  | a :: b :: c :: d :: e :: r, h => simp at h
theorem up0 {k : Nat} {s : ByteArray} {l : List Int} {i : Int} {r : ByteArray × Int} (h : chaseref02_Base85.l0 k s l i = some r) : ∀ m, chaseref02_Base85.l0 (k + m) s l i = some r := by
  intro m
  induction m with
  | zero => exact h
  | succ m ih => exact (chaseref02_Base85.mono_l (k + m)).1 s l i _ ih
theorem grp_num (g : List Int) (hr : ∀ b ∈ g, 0 ≤ b ∧ b < 256) (h : g.length ≤ 4) : 0 ≤ num256 (g ++ List.replicate (4 - g.length) 0) ∧ num256 (g ++ List.replicate (4 - g.length) 0) < 4294967296 := by
  rw [← pad4 g h]
  have q : ∀ n, 0 ≤ g.getD n 0 ∧ g.getD n 0 < 256 := by
    intro n
    by_cases hn : n < g.length
    · rw [List.getD_eq_getElem?_getD, List.getElem?_eq_getElem hn]
      exact hr _ (List.getElem_mem _)
    · rw [List.getD_eq_getElem?_getD, List.getElem?_eq_none (by omega)]
      exact ⟨Int.le_refl _, by decide⟩
  exact num_range _ _ _ _ (q 0) (q 1) (q 2) (q 3)
theorem five_len (n : Int) : (five n).length = 5 := rfl
theorem b85_on (k : Nat) (s x : ByteArray) (out : List Int) (i : Nat) (hx : s.extract i (min (i + 4) s.size) = x) (hs : s.size ≤ 65536) (h : i < s.size) (ho : out.length ≤ 1000000) :
    chaseref02_Base85.l0 (k + 8) s out i = chaseref02_Base85.l0 (k + 6) s (out ++ spread (bytesOf x)) ((i + 4 : Nat) : Int) := by
  have hz : x.size = min (i + 4) s.size - i := by rw [← hx, ByteArray.size_extract]; omega
  have hl := bytesOf_len x
  have hgr := grp_num (bytesOf x) (bytesOf_range x) (by omega)
  have hnum := number_eq x
  rw [pad4 _ (by omega)] at hnum
  obtain ⟨r5, h5, hb5⟩ := five_eq _ hgr.1 hgr.2
  have e2 : mn ((i : Int) + 4) (s.size : Int) = ((min (i + 4) s.size : Nat) : Int) := by
    unfold mn
    by_cases hq : (s.size : Int) < (i : Int) + 4
    · rw [if_pos hq]; omega
    · rw [if_neg hq]; omega
  obtain ⟨M, hM⟩ : ∃ M, num256 (bytesOf x ++ List.replicate (4 - (bytesOf x).length) 0) = M := ⟨_, rfl⟩
  rw [hM] at hgr hnum h5 hb5
  have n7 : chaseref02_number.f (k + 7) x = some M := by have := number_up x _ hnum (k + 2); rw [show 5 + (k + 2) = k + 7 by omega] at this; exact this
  have n6 : chaseref02_number.f (k + 6) x = some M := by have := number_up x _ hnum (k + 1); rw [show 5 + (k + 1) = k + 6 by omega] at this; exact this
  have f6 : chaseref02_five.f (k + 6) M = some r5 := by have := five_up _ r5 h5 k; rw [show 6 + k = k + 6 by omega] at this; exact this
  have hz5 : r5.size = 5 := by rw [← bytesOf_len, hb5]; rfl
  have c1 : (0 : Int) ≤ (x.size : Int) + 1 := by omega
  have c2 : (x.size : Int) + 1 ≤ (r5.size : Int) := by omega
  have c3 : ((x.size : Int) + 1).toNat = x.size + 1 := by omega
  have c4 : out.length + (r5.extract 0 (x.size + 1)).size < 140737488355328 := by rw [ByteArray.size_extract]; omega
  have d1 : (i : Int) < (s.size : Int) := by omega
  have d2 : (0 : Int) ≤ (i : Int) := by omega
  have d3 : (i : Int) ≤ ((min (i + 4) s.size : Nat) : Int) := by omega
  have d4 : ((min (i + 4) s.size : Nat) : Int) ≤ (s.size : Int) := by omega
  have d5 : out.length < 140737488355328 := by omega
  have g1 : x.size = 4 → (bytesOf x).length = 4 := by omega
  have g2 : (bytesOf x).length = 4 → x.size = 4 := by omega
  have g3 : x.size = 4 → (x.size : Int) = 4 := by omega
  have g4 : ¬ x.size = 4 → ¬ (x.size : Int) = 4 := by omega
  have e3 := w64 ((x.size : Int) + 1) (by omega) (by omega)
  have e1 := w64 ((i : Int) + 4) (by omega) (by omega)
  have hj : chaseref02_Base85.j1 (k + 7) s out i x false = chaseref02_Base85.l0 (k + 6) s (out ++ (five M).take (x.size + 1)) ((i + 4 : Nat) : Int) := by
    rw [chaseref02_Base85.j1, if_neg (by decide), n6, Option.bind_some, f6, Option.bind_some, e3, if_pos c1, if_pos c2, e1, c3, if_pos c4, bytesOf_extract, hb5]
    rfl
  rw [chaseref02_Base85.l0, if_pos d1, if_pos d2, e1, e2, if_pos d3, if_pos d4, Int.toNat_natCast, Int.toNat_natCast, hx]
  by_cases h4 : x.size = 4
  · rw [if_pos (g3 h4), n7, Option.bind_some]
    have hp : bytesOf x ++ List.replicate (4 - (bytesOf x).length) 0 = bytesOf x := by rw [hl, h4]; exact List.append_nil _
    rw [hp] at hM
    by_cases h0 : M = 0
    · rw [show (M == 0) = true by simpa using h0, chaseref02_Base85.j1, if_pos rfl, if_pos d5, e1]
      unfold spread
      rw [hM, if_pos ⟨g1 h4, h0⟩]
      rfl
    · rw [show (M == 0) = false by simpa using h0, hj]
      unfold spread
      rw [hp, hM, if_neg (fun hh => h0 hh.2), hl]
  · rw [if_neg (g4 h4), hj]
    unfold spread
    rw [if_neg (fun hh => h4 (g2 hh.1)), hM, hl]
theorem b85_loop (s : ByteArray) (hs : s.size ≤ 65536) : ∀ (N i : Nat) (out : List Int), s.size - i < N → out.length ≤ 5 * i → i ≤ s.size + 4 →
    ∃ k, chaseref02_Base85.l0 k s out i = some (bnd (out ++ b85 (((bytesOf s).drop i).length + 1) ((bytesOf s).drop i) ++ [126, 62])) := by
  intro N
  induction N with
  | zero => intro i out h; omega
  | succ N ih =>
    intro i out hN ho hi
    by_cases h : i < s.size
    · obtain ⟨x, hx⟩ : ∃ x, s.extract i (min (i + 4) s.size) = x := ⟨_, rfl⟩
      have hb : bytesOf x = ((bytesOf s).drop i).take 4 := by
        rw [← hx, bytesOf_extract]
        by_cases h4 : i + 4 ≤ s.size
        · rw [show min (i + 4) s.size - i = 4 by omega]
        · rw [List.take_of_length_le (by rw [List.length_drop, bytesOf_len]; omega), List.take_of_length_le (by rw [List.length_drop, bytesOf_len]; omega)]
      have hsp : (spread (bytesOf x)).length ≤ 5 * 4 := by
        have := G02b.spread_len (bytesOf x) (by rw [hb, List.length_take, List.length_drop, bytesOf_len]; omega)
        rw [hb, List.length_take] at this
        rw [hb]
        omega
      obtain ⟨k, hk⟩ := ih (i + 4) (out ++ spread (bytesOf x)) (by omega) (by rw [List.length_append]; omega) (by omega)
      refine ⟨k + 8, ?_⟩
      rw [b85_on k s x out i hx hs h (by omega), up0 hk 6]
      have hne : (bytesOf s).drop i ≠ [] := fun e => by have := congrArg List.length e; rw [List.length_drop, bytesOf_len] at this; simp at this; omega
      have he : b85 (((bytesOf s).drop i).length + 1) ((bytesOf s).drop i) = spread (bytesOf x) ++ b85 (((bytesOf s).drop (i + 4)).length + 1) ((bytesOf s).drop (i + 4)) := by
        rw [b85, if_neg hne, ← hb, List.drop_drop, b85_fuel _ ((bytesOf s).drop (i + 4)) (((bytesOf s).drop (i + 4)).length + 1) (by rw [List.length_drop, List.length_drop, bytesOf_len]; omega) (by omega)]
      rw [he, List.append_assoc out]
    · refine ⟨1, ?_⟩
      rw [chaseref02_Base85.l0, if_neg (by omega), List.drop_of_length_le (by rw [bytesOf_len]; omega), b85_nil, List.append_nil, Option.bind_some, if_pos (by simp; omega), Option.bind_some]
      unfold bnd
      by_cases hq : (out ++ [126, 62]).length > 65536
      · rw [if_pos (by omega), if_pos hq]
      · rw [if_neg (by omega), if_neg hq]
theorem ref_b85 (s : ByteArray) : ∃ k, chaseref02_Base85.f k s = some (b85Res s) := by
  unfold chaseref02_Base85.f b85Res
  by_cases hs : (s.size : Int) > 65536
  · exact ⟨0, by rw [if_pos hs, if_pos hs]⟩
  · obtain ⟨k, hk⟩ := b85_loop s (by omega) (s.size + 1) 0 [] (by omega) (by simp) (by omega)
    refine ⟨k, ?_⟩
    rw [if_neg hs, if_neg hs]
    rw [List.drop_zero, List.nil_append, bytesOf_len] at hk
    exact hk
end Go.Proofs.Ytkfhpajnlaomeaa.R02c
