/- Equal octets are denoted by few codes (plain, chapter 06). -/
import Derived.Test.YtfkiacbjiledcaaL06c
import Derived.Lib.Repeat
namespace Go.Proofs.Ytfkiacbjiledcaa.L06k
open Go.RowKit Go.Proofs.YtfkiacbjiledcaaW.PrintWords Go.Proofs.YtfkiacbjiledcaaW.PrintLast Go.Proofs.YtfkiacbjiledcaaW.PrintMore
open Go.Proofs.Ytfkiacbjiledcaa.K06 Go.Proofs.Ytfkiacbjiledcaa.L06 Go.Proofs.Ytfkiacbjiledcaa.L06b Go.Proofs.Ytfkiacbjiledcaa.L06c
set_option linter.unusedVariables false
set_option maxRecDepth 100000
/-- The code of a run of t equal octets. -/
def rc (c : Nat) (t : Nat) : Nat := if t ≤ 1 then c else 256 + t
def KK (c : Nat) : Nat → List (Nat × Int)
  | 0 => []
  | j + 1 => KK c j ++ [(rc c (j + 1), (c : Int))]
theorem KK_len (c j : Nat) : (KK c j).length = j := by
  induction j with
  | zero => rfl
  | succ j ih => simp [KK, ih]
theorem rc_inj {c s t : Nat} (hc : c < 256) (hs : 1 ≤ s) (ht : 1 ≤ t) (h : rc c s = rc c t) : s = t := by
  unfold rc at h
  split at h <;> split at h <;> omega
theorem look_KK {c : Nat} (hc : c < 256) : ∀ (j t : Nat), 1 ≤ t → lookK (KK c j) (rc c t, (c : Int)) = if t ≤ j then some (rc c (t + 1)) else none
  | 0, t, ht => by rw [if_neg (by omega)]; rfl
  | j + 1, t, ht => by
    have ih := look_KK hc j t ht
    unfold lookK KK
    rw [List.findIdx?_append]
    unfold lookK at ih
    by_cases h : t ≤ j
    · rw [if_pos h] at ih
      rw [if_pos (by omega)]
      cases hf : List.findIdx? (fun x => x == (rc c t, (c : Int))) (KK c j) with
      | none => rw [hf] at ih; cases ih
      | some k => rw [hf] at ih; exact ih
    · rw [if_neg h, Option.map_eq_none_iff] at ih
      rw [ih]
      by_cases he : t = j + 1
      · subst he
        rw [if_pos (Nat.le_refl _)]
        simp [KK_len, rc]
        omega
      · rw [if_neg (by omega)]
        have hne : rc c (j + 1) ≠ rc c t := fun e => he (rc_inj hc (by omega) ht e).symm
        simp [List.findIdx?_cons, hne]
theorem ext_KK {c : Nat} (hc : c < 256) (j : Nat) : ∀ (m t : Nat), 1 ≤ t → t ≤ j + 1 → ext (KK c j) (rc c t) (List.replicate m (c : Int)) = (rc c (t + min m (j + 1 - t)), List.replicate (m - min m (j + 1 - t)) (c : Int))
  | 0, t, ht, hj => by simp [ext]
  | m + 1, t, ht, hj => by
    rw [List.replicate_succ]
    unfold ext
    rw [look_KK hc j t ht]
    by_cases h : t ≤ j
    · rw [if_pos h]
      simp only
      rw [ext_KK hc j m (t + 1) (by omega) (by omega)]
      have e1 : t + 1 + min m (j + 1 - (t + 1)) = t + min (m + 1) (j + 1 - t) := by omega
      have e2 : m - min m (j + 1 - (t + 1)) = m + 1 - min (m + 1) (j + 1 - t) := by omega
      rw [e1, e2]
    · rw [if_neg h]
      simp only
      have e1 : min (m + 1) (j + 1 - t) = 0 := by omega
      rw [e1, Nat.add_zero, Nat.sub_zero, List.replicate_succ]
/-- How many codes n equal octets want, j runs being known. -/
def cnt : Nat → Nat → Nat → Nat
  | 0, _, _ => 0
  | f + 1, j, n => if n = 0 then 0 else 1 + cnt f (j + 1) (n - (j + 1))
theorem enc_runs {c : Nat} (hc : c < 256) : ∀ (f j n : Nat) (K : List (Nat × Int)), n ≤ f → (0 < n → K = KK c j) → j + cnt f j n ≤ 3838 → (enc f j K (List.replicate n (c : Int))).length = cnt f j n + 1 ∧ 256 ∉ enc f j K (List.replicate n (c : Int))
  | 0, j, n, K, hn, hK, hb => by
    obtain rfl : n = 0 := by omega
    exact ⟨rfl, by simp [enc]⟩
  | f + 1, j, 0, K, hn, hK, hb => ⟨rfl, by simp [enc]⟩
  | f + 1, j, n + 1, K, hn, hK, hb => by
    have hk := hK (by omega)
    subst hk
    rw [List.replicate_succ]
    unfold enc
    unfold cnt at hb ⊢
    rw [if_neg (by omega)] at hb ⊢
    rw [if_neg (by omega), Int.toNat_natCast]
    have he := ext_KK hc j n 1 (Nat.le_refl _) (by omega)
    have hr1 : rc c 1 = c := if_pos (Nat.le_refl _)
    rw [hr1] at he
    rw [he]
    simp only
    have e2 : n - min n (j + 1 - 1) = n + 1 - (j + 1) := by omega
    rw [e2]
    obtain ⟨h1, h2⟩ := enc_runs hc f (j + 1) (n + 1 - (j + 1)) (addK (KK c j) (rc c (1 + min n (j + 1 - 1))) (List.replicate (n + 1 - (j + 1)) (c : Int))) (by omega) (fun h0 => by
      obtain ⟨m, hm⟩ : ∃ m, n + 1 - (j + 1) = m + 1 := ⟨n + 1 - (j + 1) - 1, by omega⟩
      rw [hm, List.replicate_succ]
      have : 1 + min n (j + 1 - 1) = j + 1 := by omega
      rw [this]
      rfl) (by omega)
    refine ⟨by rw [List.length_cons, h1]; omega, ?_⟩
    rw [List.mem_cons, not_or]
    refine ⟨?_, h2⟩
    unfold rc
    split <;> omega
def tri : Nat → Nat
  | 0 => 0
  | k + 1 => tri k + (k + 1)
theorem tri_two (k : Nat) : 2 * tri k = k * (k + 1) := by
  induction k with
  | zero => rfl
  | succ k ih =>
    rw [tri, Nat.mul_add, ih, ← Nat.add_mul, Nat.mul_comm]
theorem tri_mono {a b : Nat} (h : a ≤ b) : tri a ≤ tri b := by
  induction b with
  | zero => obtain rfl : a = 0 := by omega
            exact Nat.le_refl _
  | succ b ih =>
    by_cases e : a = b + 1
    · subst e; exact Nat.le_refl _
    · have h1 := ih (by omega)
      have h2 : tri (b + 1) = tri b + (b + 1) := rfl
      omega
theorem cnt_spec : ∀ (f j n : Nat), n ≤ f → n + tri j ≤ tri (j + cnt f j n) ∧ ∀ m, m < cnt f j n → tri (j + m) < n + tri j
  | 0, j, n, h => by
    obtain rfl : n = 0 := by omega
    exact ⟨by simp [cnt], fun m hm => by simp [cnt] at hm⟩
  | f + 1, j, n, h => by
    unfold cnt
    by_cases h0 : n = 0
    · rw [if_pos h0]
      exact ⟨by simp [h0], fun m hm => by omega⟩
    · rw [if_neg h0]
      obtain ⟨h1, h2⟩ := cnt_spec f (j + 1) (n - (j + 1)) (by omega)
      have ht : tri (j + 1) = tri j + (j + 1) := rfl
      refine ⟨?_, fun m hm => ?_⟩
      · rw [show j + (1 + cnt f (j + 1) (n - (j + 1))) = j + 1 + cnt f (j + 1) (n - (j + 1)) by omega]
        omega
      · cases m with
        | zero => simp; omega
        | succ m =>
          have := h2 m (by omega)
          rw [show j + (m + 1) = j + 1 + m by omega]
          by_cases hb : j + 1 ≤ n
          · omega
          · -- then nothing is left
            have hz : n - (j + 1) = 0 := by omega
            rw [hz] at hm
            cases f <;> simp [cnt] at hm
/-- The bits of m codes from number j on, none of them a clear. -/
def wsum : Nat → Nat → Nat
  | _, 0 => 0
  | j, m + 1 => wd j + wsum (j + 1) m
theorem cb_wsum : ∀ (cs : List Nat) (j : Nat), 256 ∉ cs → (cb j cs).length = wsum j cs.length
  | [], j, _ => rfl
  | c :: cs, j, h => by
    rw [List.mem_cons, not_or] at h
    have hn : nextJ j c = j + 1 := if_neg (fun e => h.1 e.symm)
    simp only [cb, List.length_append, bw_len, List.length_cons, wsum, hn]
    rw [cb_wsum cs (j + 1) h.2]
theorem run_len {c : Nat} (hc : c < 256) (n : Nat) (hn : n ≤ 65536) (hm : cnt n 0 n ≤ 3838) : ∃ p, p < 8 ∧ 8 * (encOut (List.replicate n (c : Int))).length = 9 + wsum 0 (cnt n 0 n + 1) + p := by
  have ho : Oct (List.replicate n (c : Int)) := fun b hb => by rw [List.eq_of_mem_replicate hb]; omega
  obtain ⟨_, p, hp, h⟩ := encOut_ok (s := List.replicate n (c : Int)) (by rw [List.length_replicate]; exact hn) ho
  have h1 := congrArg List.length h
  rw [obits_len, List.length_append, bw_len] at h1
  obtain ⟨h2, h3⟩ := enc_runs hc n 0 n [] (Nat.le_refl _) (fun _ => rfl) (by omega)
  have h4 : cb 0 (encCodes (List.replicate n (c : Int))) = bw 9 256 ++ cb 0 (enc n 0 [] (List.replicate n (c : Int))) := by
    unfold encCodes
    rw [List.length_replicate]
    rfl
  rw [h4, List.length_append, bw_len, cb_wsum _ _ h3, h2] at h1
  exact ⟨p, hp, by omega⟩
theorem wsum_nine : ∀ (m j : Nat), j + m ≤ 255 → wsum j m = 9 * m
  | 0, j, _ => rfl
  | m + 1, j, h => by
    have h1 : wd j = 9 := by unfold wd; rw [if_pos (by omega)]
    rw [wsum, h1, wsum_nine m (j + 1) (by omega)]
    omega
theorem tri200 : tri 200 = 20100 := by decide +kernel
theorem cnt_le {n : Nat} (h : n ≤ 20000) : cnt n 0 n ≤ 200 := by
  obtain ⟨_, h2⟩ := cnt_spec n 0 n (Nat.le_refl _)
  rcases Nat.lt_or_ge 200 (cnt n 0 n) with h3 | h3
  · have := h2 200 h3
    rw [Nat.zero_add, tri200] at this
    have : tri 0 = 0 := rfl
    omega
  · exact h3
theorem short_len {c : Nat} (hc : c < 256) (n : Nat) (hn : n ≤ 20000) : (encOut (List.replicate n (c : Int))).length = (9 * (cnt n 0 n + 2) + 7) / 8 := by
  have hm := cnt_le hn
  obtain ⟨p, hp, h⟩ := run_len hc n (by omega) (by omega)
  rw [wsum_nine _ _ (by omega)] at h
  omega
theorem cnt_full : cnt 65536 0 65536 = 362 := by
  obtain ⟨h1, h2⟩ := cnt_spec 65536 0 65536 (Nat.le_refl _)
  have t1 : tri 361 = 65341 := by decide +kernel
  have t2 : tri 362 = 65703 := by decide +kernel
  have t0 : tri 0 = 0 := rfl
  rw [Nat.zero_add, t0] at h1
  rcases Nat.lt_or_ge (cnt 65536 0 65536) 362 with h3 | h3
  · have := tri_mono (show cnt 65536 0 65536 ≤ 361 by omega)
    omega
  · rcases Nat.lt_or_ge 362 (cnt 65536 0 65536) with h4 | h4
    · have := h2 362 h4
      rw [Nat.zero_add, t2, t0] at this
      omega
    · omega
theorem full_len {c : Nat} (hc : c < 256) : (encOut (List.replicate 65536 (c : Int))).length = 423 := by
  obtain ⟨p, hp, h⟩ := run_len hc 65536 (Nat.le_refl _) (by rw [cnt_full]; decide)
  rw [cnt_full] at h
  have hw : wsum 0 363 = 3375 := by decide +kernel
  rw [hw] at h
  omega
/-! ### Repeated strings -/
def rep (s : ByteArray) (n : Nat) : ByteArray := ⟨(Lib.repeatL s.data.toList n).toArray⟩
theorem rep_size (s : ByteArray) (n : Nat) : (rep s n).size = n * s.size := by
  show (Lib.repeatL s.data.toList n).toArray.size = _
  rw [List.size_toArray, Lib.repeatL_length]
  rfl
theorem rep_succ (s : ByteArray) (n : Nat) : bytesOf (rep s (n + 1)) = bytesOf s ++ bytesOf (rep s n) := by
  unfold bytesOf rep
  simp [Lib.repeatL]
theorem rep_oct {s : ByteArray} {c : Int} (hs : bytesOf s = [c]) (n : Nat) : bytesOf (rep s n) = List.replicate n c := by
  induction n with
  | zero => rfl
  | succ n ih => rw [rep_succ, ih, List.replicate_succ, hs]; rfl
theorem enc_ok2 (s : ByteArray) (hs : s.size ≤ 65536) (hz : (code s).size ≤ 65536) : encRes s = (code s, 0) := by
  unfold encRes
  rw [if_neg (by omega), if_neg (by rw [← code_size]; omega)]
  rfl
theorem dec_exact2 (s : ByteArray) (hs : s.size ≤ 65536) (hz : (code s).size ≤ 65536) : decRes (code s) = (s, ((code s).size : Int), 0) := by
  have hl : (bytesOf s).length ≤ 65536 := by rw [bytesOf_len]; omega
  have he := dec_enc hl (bytesOf_range s) (more := []) (fun b hb => by cases hb)
  rw [List.append_nil] at he
  unfold decRes
  rw [if_neg (by omega), code_bytes s hs, he]
  simp only
  rw [if_neg (by decide), if_neg (by omega), strOf_bytesOf, code_size]
/-! ### Octets 0 are no code -/
theorem fill_zero {l : List Int} (hl : ∀ c ∈ l, c = 0) (n : Nat) : ∀ (f : Nat) (r q : Rs), r.bits = 0 → fillN f l n r = some q → q.bits = 0
  | 0, r, q, hb, h => by
    unfold fillN at h
    split at h
    · cases h; exact hb
    · cases h
  | f + 1, r, q, hb, h => by
    unfold fillN at h
    split at h
    · cases h; exact hb
    · cases hc : l[r.at_]? with
      | none => rw [hc] at h; cases h
      | some c =>
        rw [hc] at h
        have h0 := hl c (List.mem_of_getElem? hc)
        exact fill_zero hl n f _ q (by simp only [hb, h0]; rfl) h
theorem items_zero {l : List Int} (hl : ∀ c ∈ l, c = 0) : ∀ (f j : Nat) (r : Rs), r.bits = 0 → ∀ x ∈ items f l j r, x.code = 0
  | 0, j, r, hb, x, hx => by simp [items] at hx
  | f + 1, j, r, hb, x, hx => by
    unfold items at hx
    cases hr : readR l j r with
    | none => rw [hr] at hx; simp at hx
    | some p =>
      obtain ⟨c, q⟩ := p
      rw [hr] at hx
      unfold readR at hr
      split at hr
      · cases hr
      · cases hf : fillN 2 l (wd j) r with
        | none => rw [hf] at hr; cases hr
        | some y =>
          rw [hf] at hr
          have hy := fill_zero hl _ _ _ _ hb hf
          simp only [hy, Nat.zero_div, Nat.zero_mod, Option.some.injEq, Prod.mk.injEq] at hr
          obtain ⟨rfl, rfl⟩ := hr
          simp only [List.mem_cons] at hx
          rcases hx with rfl | hx
          · rfl
          · rw [if_neg (by decide)] at hx
            exact items_zero hl f _ _ rfl x hx
theorem no_end : ∀ (xs : List It) (d : Ds), (∀ x ∈ xs, x.code ≠ 257) → (expandR xs d).2.2.1 = false
  | [], d, _ => rfl
  | x :: xs, d, h => by
    unfold expandR
    cases stepD d x.j x.code with
    | none =>
      have := h x List.mem_cons_self
      simp [this]
    | some d' => exact no_end xs d' (fun y hy => h y (List.mem_cons_of_mem _ hy))
theorem dec_zeros (s : ByteArray) (hs : s.size ≤ 65536) (h : ∀ c ∈ bytesOf s, c = 0) : decRes s = (⟨#[]⟩, 0, 5) := by
  have h1 : (expandL (bytesOf s)).2.2.1 = false := no_end _ _ (fun x hx => by
    have := items_zero h _ _ _ rfl x hx
    omega)
  unfold decRes
  rw [if_neg (by omega), if_pos h1]
theorem dec_long (s : ByteArray) (hs : 65536 < s.size) : decRes s = (⟨#[]⟩, 0, 3) := by unfold decRes; rw [if_pos hs]
theorem enc_long (s : ByteArray) (hs : 65536 < s.size) : encRes s = (⟨#[]⟩, 3) := by unfold encRes; rw [if_pos hs]
end Go.Proofs.Ytfkiacbjiledcaa.L06k
