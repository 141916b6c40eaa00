/- Laws of the two encodings; no program in sight. -/
import Derived.Test.YtkfhpajnlaomeaaV02
namespace Go.Proofs.Ytkfhpajnlaomeaa.L02
open Go.RowKit Go.Proofs.YtkfhpajnlaomeaaW.PrintWords Go.Proofs.YtkfhpajnlaomeaaW.PrintLast Go.Proofs.YtkfhpajnlaomeaaW.PrintMore
open Go.Proofs.Ytkfhpajnlaomeaa.K02 Go.Proofs.Ytkfhpajnlaomeaa.G02h
open Go.Proofs.Ytkfhpajnlaomeaa.G02b (five_range num_zero)
open Go.Proofs.Ytkfhpajnlaomeaa.G02v (tt_z tt_z0 tt_bad tt_more tt_five)
set_option linter.unusedVariables false
set_option maxRecDepth 100000
theorem sol_append (a b : List Int) : ∀ i, sol (a ++ b) i = sol a i ++ sol b (i + a.length) := by
  induction a with
  | nil => intro i; simp [sol]
  | cons c r ih =>
    intro i
    rw [List.cons_append, sol, sol, ih]
    split
    · rw [List.length_cons, Nat.add_assoc, Nat.add_comm 1]
    · rw [List.cons_append, List.length_cons, Nat.add_assoc, Nat.add_comm 1]
theorem sol_cons (c : Int) (r : List Int) (i : Nat) (h : blankC c = false) : sol (c :: r) i = (i, c) :: sol r (i + 1) := by rw [sol, h]; rfl
theorem not_blank (c : Int) (h : 33 ≤ c) : blankC c = false := by
  unfold blankC
  simp
  omega
theorem dg_val : ∀ n : Fin 16, nib (dg (n.val : Int)) = (n.val : Int) ∧ 48 ≤ dg (n.val : Int) ∧ dg (n.val : Int) ≠ 62 := by decide +kernel
theorem dg_nib (n : Int) (h0 : 0 ≤ n) (h1 : n < 16) : nib (dg n) = n ∧ 48 ≤ dg n ∧ dg n ≠ 62 := by
  have := dg_val ⟨n.toNat, by omega⟩
  simp only at this
  rwa [show ((n.toNat : Nat) : Int) = n by omega] at this
/-- The digits of a string's octets, decoded. -/
theorem go_hex (l : List Int) : ∀ (i : Nat) (h : Int) (out : List Int), (∀ b ∈ l, 0 ≤ b ∧ b < 256) → ∃ h', go takeH (sol (hexL l) i) ⟨h, false, out⟩ = some ⟨h', false, out ++ l⟩ := by
  induction l with
  | nil => intro i h out _; exact ⟨h, by rw [List.append_nil]; rfl⟩
  | cons b l ih =>
    intro i h out hb
    have hbb := hb b (by simp)
    obtain ⟨v1, v2, v3⟩ := dg_nib (b / 16) (by omega) (by omega)
    obtain ⟨w1, w2, w3⟩ := dg_nib (b % 16) (by omega) (by omega)
    obtain ⟨h', ih'⟩ := ih (i + 1 + 1) (b % 16) (out ++ [b]) (fun x hx => hb x (by simp [hx]))
    refine ⟨h', ?_⟩
    have e : hexL (b :: l) = dg (b / 16) :: dg (b % 16) :: hexL l := rfl
    rw [e, sol_cons _ _ _ (not_blank _ (by omega)), sol_cons _ _ _ (not_blank _ (by omega))]
    have t1 : takeH ⟨h, false, out⟩ (dg (b / 16)) = some (⟨b / 16, true, out⟩, false) := by
      unfold takeH
      rw [if_neg v3, v1, if_neg (by omega)]
      rfl
    have t2 : takeH ⟨b / 16, true, out⟩ (dg (b % 16)) = some (⟨b % 16, false, out ++ [b]⟩, false) := by
      unfold takeH
      rw [if_neg w3, w1, if_neg (by omega)]
      simp only [if_true]
      rw [show b / 16 * 16 + b % 16 = b by omega]
    rw [go, t1]
    simp only
    rw [go, t2]
    simp only
    rw [ih', List.append_assoc]
    rfl
theorem hex_ok (s : ByteArray) (h : s.size ≤ 32767) : hexRes s = (strOfNums (hexL (bytesOf s) ++ [62]), 0) := by
  unfold hexRes bnd
  rw [if_neg (by omega), if_neg (by rw [List.length_append, hexL_length, bytesOf_len, List.length_singleton]; omega)]
def hx (s : ByteArray) : ByteArray := strOfNums (hexL (bytesOf s) ++ [62])
theorem hx_bytes (s : ByteArray) : bytesOf (hx s) = hexL (bytesOf s) ++ [62] := bytesOf_strOf _ (fun b hb => by
  rcases List.mem_append.1 hb with hb | hb
  · exact hexL_range _ (bytesOf_range s) b hb
  · rw [List.mem_singleton.1 hb]; omega)
theorem hx_size (s : ByteArray) : (hx s).size = 2 * s.size + 1 := by
  rw [← bytesOf_len, hx_bytes, List.length_append, hexL_length, bytesOf_len]; rfl
/-- Decoding the digits, followed by anything. -/
theorem hex_back (s more : ByteArray) (h1 : s.size ≤ 32000) (h2 : more.size ≤ 1000) : unhexRes (hx s ++ more) = (s, ((hx s).size : Int), 0) := by
  have hz := hx_size s
  have hsz : (hx s ++ more).size = (hx s).size + more.size := ByteArray.size_append
  unfold unhexRes
  rw [if_neg (by omega), bytesOf_append, hx_bytes, List.append_assoc, sol_append]
  obtain ⟨h', hg⟩ := go_hex (bytesOf s) 0 0 [] (bytesOf_range s)
  rw [rd_go takeH _ _ _ _ hg, List.singleton_append, sol_cons 62 _ _ (by decide)]
  have t : takeH ⟨h', false, [] ++ bytesOf s⟩ 62 = some (⟨h', false, bytesOf s⟩, true) := rfl
  rw [K02.rd, t]
  simp only [Option.map_some, fin]
  rw [if_neg (by rw [bytesOf_len]; omega), strOf_bytesOf, hexL_length, bytesOf_len, hz]
  simp only [Nat.zero_add]
/-- Where no > stands nothing ends. -/
theorem rdH_none : ∀ (l : List (Nat × Int)) (h : Half), (∀ x ∈ l, x.2 ≠ 62) → K02.rd takeH l h = none
  | [], h, _ => rfl
  | (i, c) :: r, h, hl => by
    have hc := hl (i, c) (by simp)
    rw [K02.rd]
    unfold takeH
    rw [if_neg hc]
    by_cases h1 : nib c < 0
    · rw [if_pos h1]
    · rw [if_neg h1]
      by_cases h2 : h.odd
      · rw [if_pos h2]; exact rdH_none r _ (fun x hx => hl x (by simp [hx]))
      · rw [if_neg h2]; exact rdH_none r _ (fun x hx => hl x (by simp [hx]))
theorem sol_mem (l : List Int) : ∀ i x, x ∈ sol l i → x.2 ∈ l := by
  induction l with
  | nil => intro i x h; simp [sol] at h
  | cons c r ih =>
    intro i x h
    rw [sol] at h
    split at h
    · exact List.mem_cons_of_mem _ (ih _ _ h)
    · rcases List.mem_cons.1 h with rfl | h
      · exact List.mem_cons_self
      · exact List.mem_cons_of_mem _ (ih _ _ h)
theorem hexL_ne (l : List Int) (h : ∀ b ∈ l, 0 ≤ b ∧ b < 256) : ∀ b ∈ hexL l, b ≠ 62 := by
  intro b hb
  unfold hexL at hb
  rw [List.mem_flatMap] at hb
  obtain ⟨x, hx, hb⟩ := hb
  have := h x hx
  rcases List.mem_cons.1 hb with rfl | hb
  · exact (dg_nib _ (by omega) (by omega)).2.2
  · rw [List.mem_singleton.1 hb]
    exact (dg_nib _ (by omega) (by omega)).2.2
theorem hex_part (s : ByteArray) (i : Nat) (h1 : s.size ≤ 32000) (hi : i < (hx s).size) : unhexRes ((hx s).extract 0 i) = (⟨#[]⟩, 0, 5) := by
  have hz := hx_size s
  unfold unhexRes
  rw [if_neg (by rw [ByteArray.size_extract]; omega), bytesOf_extract, hx_bytes, List.drop_zero, Nat.sub_zero, List.take_append_of_le_length (by rw [hexL_length, bytesOf_len]; omega)]
  rw [rdH_none _ _ (fun x hx => hexL_ne _ (bytesOf_range s) _ (List.mem_of_mem_take (sol_mem _ _ _ hx)))]
  rfl
/-! ### Base 85 -/
theorem val_five (N : Int) (h0 : 0 ≤ N) (h1 : N < 4294967296) : val85 (five N) = N := by
  unfold val85 five
  simp only [List.foldl_cons, List.foldl_nil]
  omega
theorem four_num (a b c d : Int) (ha : 0 ≤ a ∧ a < 256) (hb : 0 ≤ b ∧ b < 256) (hc : 0 ≤ c ∧ c < 256) (hd : 0 ≤ d ∧ d < 256) : four (num256 [a, b, c, d]) = [a, b, c, d] := by
  unfold four num256
  simp only [List.foldl_cons, List.foldl_nil]
  congr 1
  · omega
  · congr 1
    · omega
    · congr 1
      · omega
      · congr 1
        omega
theorem num_range (a b c d : Int) (ha : 0 ≤ a ∧ a < 256) (hb : 0 ≤ b ∧ b < 256) (hc : 0 ≤ c ∧ c < 256) (hd : 0 ≤ d ∧ d < 256) : 0 ≤ num256 [a, b, c, d] ∧ num256 [a, b, c, d] < 4294967296 := by
  unfold num256
  simp only [List.foldl_cons, List.foldl_nil]
  omega
theorem go_chars (cs : List Int) : ∀ (i : Nat) (part out : List Int), (∀ c ∈ cs, 33 ≤ c ∧ c ≤ 117) → part.length + cs.length ≤ 4 → go takeT (sol cs i) ⟨part, false, out⟩ = some ⟨part ++ cs, false, out⟩ := by
  induction cs with
  | nil => intro i part out _ _; rw [List.append_nil]; rfl
  | cons c r ih =>
    intro i part out hc hl
    have h1 := hc c (by simp)
    rw [List.length_cons] at hl
    rw [sol_cons _ _ _ (not_blank _ h1.1), go, tt_more _ c rfl (by omega) (by omega) (by omega) (by simp only; omega)]
    simp only
    rw [ih _ _ _ (fun x hx => hc x (by simp [hx])) (by rw [List.length_append, List.length_singleton]; omega), List.append_assoc]
    rfl
theorem go_append {σ : Type} (take : σ → Int → Option (σ × Bool)) : ∀ (l m : List (Nat × Int)) (s s' : σ), go take l s = some s' → go take (l ++ m) s = go take m s'
  | [], m, s, s', h => by cases h; rfl
  | (i, c) :: r, m, s, s', h => by
    rw [go] at h
    rw [List.cons_append, go]
    cases ht : take s c with
    | none => rw [ht] at h; cases h
    | some q =>
      obtain ⟨s1, b⟩ := q
      cases b with
      | true => rw [ht] at h; cases h
      | false => rw [ht] at h; exact go_append take r m s1 s' h
theorem go_group (a b c d : Int) (ha : 0 ≤ a ∧ a < 256) (hb : 0 ≤ b ∧ b < 256) (hc : 0 ≤ c ∧ c < 256) (hd : 0 ≤ d ∧ d < 256) (i : Nat) (out : List Int) :
    go takeT (sol (spread [a, b, c, d]) i) ⟨[], false, out⟩ = some ⟨[], false, out ++ [a, b, c, d]⟩ := by
  obtain ⟨n0, n1⟩ := num_range a b c d ha hb hc hd
  have hf := four_num a b c d ha hb hc hd
  unfold spread
  by_cases hz : num256 [a, b, c, d] = 0
  · rw [if_pos ⟨rfl, hz⟩]
    obtain ⟨rfl, rfl, rfl, rfl⟩ := (num_zero a b c d ha.1 hb.1 hc.1 hd.1).1 hz
    rw [sol_cons 122 [] i (by decide), go, tt_z0 _ rfl (by simp)]
    rfl
  · rw [if_neg (fun h => hz h.2)]
    have e : [a, b, c, d] ++ List.replicate (4 - [a, b, c, d].length) 0 = [a, b, c, d] := by simp
    rw [e]
    obtain ⟨N, hN⟩ : ∃ N, num256 [a, b, c, d] = N := ⟨_, rfl⟩
    rw [hN] at n0 n1 hf ⊢
    have hr := five_range N n0 n1
    have hv := val_five N n0 n1
    have e2 : (five N).take ([a, b, c, d].length + 1) = [33 + N / 52200625, 33 + N / 614125 % 85, 33 + N / 7225 % 85, 33 + N / 85 % 85] ++ [33 + N % 85] := rfl
    rw [e2, sol_append]
    have hg := go_chars [33 + N / 52200625, 33 + N / 614125 % 85, 33 + N / 7225 % 85, 33 + N / 85 % 85] i [] out (fun c hc => hr c (by unfold five; exact List.mem_append_left [33 + N % 85] hc)) (by simp)
    rw [go_append takeT _ _ _ _ hg, sol_cons _ _ _ (not_blank _ (by omega)), go, tt_five _ _ rfl (by omega) (by omega) (by omega) rfl]
    have e3 : val85 ([] ++ [33 + N / 52200625, 33 + N / 614125 % 85, 33 + N / 7225 % 85, 33 + N / 85 % 85] ++ [33 + N % 85]) = N := hv
    simp only [e3]
    rw [if_pos n1, hf]
    rfl
theorem chain2 (N : Int) (h : 0 ≤ N) : N / 52200625 * 85 + N / 614125 % 85 = N / 614125 := by omega
theorem chain3 (N : Int) (h : 0 ≤ N) : (N / 52200625 * 85 + N / 614125 % 85) * 85 + N / 7225 % 85 = N / 7225 := by
  rw [chain2 N h]; omega
theorem chain4 (N : Int) (h : 0 ≤ N) : ((N / 52200625 * 85 + N / 614125 % 85) * 85 + N / 7225 % 85) * 85 + N / 85 % 85 = N / 85 := by
  rw [chain3 N h]; omega
theorem close_part (r out : List Int) (hr : ∀ b ∈ r, 0 ≤ b ∧ b < 256) (h1 : 1 ≤ r.length) (h3 : r.length ≤ 3) :
    close ⟨spread r, true, out⟩ = some (⟨spread r, true, out ++ r⟩, true) ∧ (∀ c ∈ spread r, 33 ≤ c ∧ c ≤ 117) ∧ (spread r).length ≤ 4 := by
  match r, h1, h3 with
  | [a], _, _ =>
    have ha := hr a (by simp)
    have e : spread [a] = [33 + (a * 16777216) / 52200625, 33 + (a * 16777216) / 614125 % 85] := by
      unfold spread
      rw [if_neg (by simp)]
      have : num256 ([a] ++ List.replicate (4 - [a].length) 0) = a * 16777216 := by
        simp [num256]; omega
      rw [this]
      rfl
    rw [e]
    refine ⟨?_, fun c hc => ?_, by simp⟩
    · unfold close
      rw [if_neg (by simp), if_pos (by simp)]
      simp only
      have hv : val85 ([33 + (a * 16777216) / 52200625, 33 + (a * 16777216) / 614125 % 85] ++ List.replicate (5 - [33 + (a * 16777216) / 52200625, 33 + (a * 16777216) / 614125 % 85].length) 117) = (a * 16777216) / 614125 * 614125 + 614124 := by
        have hch := chain2 (a * 16777216) (by omega)
        show ((((0 * 85 + (33 + (a * 16777216) / 52200625 - 33)) * 85 + (33 + (a * 16777216) / 614125 % 85 - 33)) * 85 + (117 - 33)) * 85 + (117 - 33)) * 85 + (117 - 33) = _
        rw [show (0 * 85 + (33 + (a * 16777216) / 52200625 - 33)) * 85 + (33 + (a * 16777216) / 614125 % 85 - 33) = (a * 16777216) / 614125 by rw [← hch]; omega]
        omega
      rw [hv, if_pos (by omega)]
      congr 3
      show out ++ [((a * 16777216) / 614125 * 614125 + 614124) / 16777216 % 256] = out ++ [a]
      have hb1 : a * 16777216 ≤ (a * 16777216) / 614125 * 614125 + 614124 ∧ (a * 16777216) / 614125 * 614125 + 614124 < a * 16777216 + 614125 := by omega
      generalize (a * 16777216) / 614125 * 614125 + 614124 = v at hb1 ⊢
      congr 2
      omega
    · simp only [List.mem_cons, List.not_mem_nil, or_false] at hc
      rcases hc with rfl | rfl <;> omega
  | [a, b], _, _ =>
    have ha := hr a (by simp)
    have hb := hr b (by simp)
    have e : spread [a, b] = [33 + (a * 16777216 + b * 65536) / 52200625, 33 + (a * 16777216 + b * 65536) / 614125 % 85, 33 + (a * 16777216 + b * 65536) / 7225 % 85] := by
      unfold spread
      rw [if_neg (by simp)]
      have : num256 ([a, b] ++ List.replicate (4 - [a, b].length) 0) = a * 16777216 + b * 65536 := by
        simp [num256]; omega
      rw [this]
      rfl
    rw [e]
    refine ⟨?_, fun c hc => ?_, by simp⟩
    · unfold close
      rw [if_neg (by simp), if_pos (by simp)]
      simp only
      have hv : val85 ([33 + (a * 16777216 + b * 65536) / 52200625, 33 + (a * 16777216 + b * 65536) / 614125 % 85, 33 + (a * 16777216 + b * 65536) / 7225 % 85] ++ List.replicate (5 - [33 + (a * 16777216 + b * 65536) / 52200625, 33 + (a * 16777216 + b * 65536) / 614125 % 85, 33 + (a * 16777216 + b * 65536) / 7225 % 85].length) 117) = (a * 16777216 + b * 65536) / 7225 * 7225 + 7224 := by
        have hn : 0 ≤ a * 16777216 + b * 65536 := by omega
        generalize a * 16777216 + b * 65536 = N at hn ⊢
        have hch := chain3 N hn
        show ((((0 * 85 + (33 + N / 52200625 - 33)) * 85 + (33 + N / 614125 % 85 - 33)) * 85 + (33 + N / 7225 % 85 - 33)) * 85 + (117 - 33)) * 85 + (117 - 33) = _
        rw [show ((0 * 85 + (33 + N / 52200625 - 33)) * 85 + (33 + N / 614125 % 85 - 33)) * 85 + (33 + N / 7225 % 85 - 33) = N / 7225 by rw [← hch]; omega]
        omega
      rw [hv, if_pos (by omega)]
      congr 3
      show out ++ [((a * 16777216 + b * 65536) / 7225 * 7225 + 7224) / 16777216 % 256, ((a * 16777216 + b * 65536) / 7225 * 7225 + 7224) / 65536 % 256] = out ++ [a, b]
      have hb1 : a * 16777216 + b * 65536 ≤ (a * 16777216 + b * 65536) / 7225 * 7225 + 7224 ∧ (a * 16777216 + b * 65536) / 7225 * 7225 + 7224 < a * 16777216 + b * 65536 + 7225 := by omega
      generalize (a * 16777216 + b * 65536) / 7225 * 7225 + 7224 = v at hb1 ⊢
      congr 2
      · omega
      · congr 1
        omega
    · simp only [List.mem_cons, List.not_mem_nil, or_false] at hc
      rcases hc with rfl | rfl | rfl <;> omega
  | [a, b, c], _, _ =>
    have ha := hr a (by simp)
    have hb := hr b (by simp)
    have hc' := hr c (by simp)
    have e : spread [a, b, c] = [33 + (a * 16777216 + b * 65536 + c * 256) / 52200625, 33 + (a * 16777216 + b * 65536 + c * 256) / 614125 % 85, 33 + (a * 16777216 + b * 65536 + c * 256) / 7225 % 85, 33 + (a * 16777216 + b * 65536 + c * 256) / 85 % 85] := by
      unfold spread
      rw [if_neg (by simp)]
      have : num256 ([a, b, c] ++ List.replicate (4 - [a, b, c].length) 0) = a * 16777216 + b * 65536 + c * 256 := by
        simp [num256]; omega
      rw [this]
      rfl
    rw [e]
    refine ⟨?_, fun c hc => ?_, by simp⟩
    · unfold close
      rw [if_neg (by simp), if_pos (by simp)]
      simp only
      have hv : val85 ([33 + (a * 16777216 + b * 65536 + c * 256) / 52200625, 33 + (a * 16777216 + b * 65536 + c * 256) / 614125 % 85, 33 + (a * 16777216 + b * 65536 + c * 256) / 7225 % 85, 33 + (a * 16777216 + b * 65536 + c * 256) / 85 % 85] ++ List.replicate (5 - [33 + (a * 16777216 + b * 65536 + c * 256) / 52200625, 33 + (a * 16777216 + b * 65536 + c * 256) / 614125 % 85, 33 + (a * 16777216 + b * 65536 + c * 256) / 7225 % 85, 33 + (a * 16777216 + b * 65536 + c * 256) / 85 % 85].length) 117) = (a * 16777216 + b * 65536 + c * 256) / 85 * 85 + 84 := by
        have hn : 0 ≤ a * 16777216 + b * 65536 + c * 256 := by omega
        generalize a * 16777216 + b * 65536 + c * 256 = N at hn ⊢
        have hch := chain4 N hn
        show ((((0 * 85 + (33 + N / 52200625 - 33)) * 85 + (33 + N / 614125 % 85 - 33)) * 85 + (33 + N / 7225 % 85 - 33)) * 85 + (33 + N / 85 % 85 - 33)) * 85 + (117 - 33) = _
        rw [show (((0 * 85 + (33 + N / 52200625 - 33)) * 85 + (33 + N / 614125 % 85 - 33)) * 85 + (33 + N / 7225 % 85 - 33)) * 85 + (33 + N / 85 % 85 - 33) = N / 85 by rw [← hch]; omega]
        omega
      rw [hv, if_pos (by omega)]
      congr 3
      show out ++ [((a * 16777216 + b * 65536 + c * 256) / 85 * 85 + 84) / 16777216 % 256, ((a * 16777216 + b * 65536 + c * 256) / 85 * 85 + 84) / 65536 % 256, ((a * 16777216 + b * 65536 + c * 256) / 85 * 85 + 84) / 256 % 256] = out ++ [a, b, c]
      have hb1 : a * 16777216 + b * 65536 + c * 256 ≤ (a * 16777216 + b * 65536 + c * 256) / 85 * 85 + 84 ∧ (a * 16777216 + b * 65536 + c * 256) / 85 * 85 + 84 < a * 16777216 + b * 65536 + c * 256 + 85 := by omega
      generalize (a * 16777216 + b * 65536 + c * 256) / 85 * 85 + 84 = v at hb1 ⊢
      congr 2
      · omega
      · congr 1
        · omega
        · congr 1
          omega
    · simp only [List.mem_cons, List.not_mem_nil, or_false] at hc
      rcases hc with rfl | rfl | rfl | rfl <;> omega
theorem b85_nil (k : Nat) : b85 k [] = [] := by cases k <;> simp [b85]
theorem b85_cons4 (k : Nat) (a b c d : Int) (r : List Int) : b85 (k + 1) (a :: b :: c :: d :: r) = spread [a, b, c, d] ++ b85 k r := by
  rw [b85, if_neg (by simp)]
  rfl
theorem b85_few (k : Nat) (l : List Int) (h : l ≠ []) (h3 : l.length ≤ 3) : b85 (k + 1) l = spread l := by
  rw [b85, if_neg h, List.take_of_length_le (by omega), List.drop_of_length_le (by omega), b85_nil, List.append_nil]
/-- A list is short, or begins with four. -/
theorem four_or (l : List Int) : l = [] ∨ (l ≠ [] ∧ l.length ≤ 3) ∨ ∃ a b c d r, l = a :: b :: c :: d :: r := by
  match l with
  | [] => exact .inl rfl
  | [a] => exact .inr (.inl ⟨by simp, by simp⟩)
  | [a, b] => exact .inr (.inl ⟨by simp, by simp⟩)
  | [a, b, c] => exact .inr (.inl ⟨by simp, by simp⟩)
  | a :: b :: c :: d :: r => exact .inr (.inr ⟨a, b, c, d, r, rfl⟩)
theorem go_b85 (k : Nat) : ∀ (l : List Int) (i : Nat) (out : List Int), l.length < k → (∀ b ∈ l, 0 ≤ b ∧ b < 256) →
    ∃ P out', go takeT (sol (b85 k l) i) ⟨[], false, out⟩ = some ⟨P, false, out'⟩ ∧ close ⟨P, true, out'⟩ = some (⟨P, true, out ++ l⟩, true) := by
  induction k with
  | zero => intro l i out h; omega
  | succ k ih =>
    intro l i out hk hb
    rcases four_or l with rfl | ⟨h0, h3⟩ | ⟨a, b, c, d, r, rfl⟩
    · exact ⟨[], out, by rw [b85_nil]; rfl, by rw [List.append_nil]; rfl⟩
    · rw [b85_few k l h0 h3]
      obtain ⟨c1, c2, c3⟩ := close_part l out hb (by cases l; exact absurd rfl h0; simp) h3
      exact ⟨spread l, out, go_chars _ _ _ _ c2 (by simpa using c3), c1⟩
    · rw [b85_cons4]
      obtain ⟨P, out', h1, h2⟩ := ih r (i + (spread [a, b, c, d]).length) (out ++ [a, b, c, d]) (by simp at hk; omega) (fun x hx => hb x (by simp [hx]))
      refine ⟨P, out', ?_, by rw [h2, List.append_assoc]; rfl⟩
      rw [sol_append, go_append takeT _ _ _ _ (go_group a b c d (hb a (by simp)) (hb b (by simp)) (hb c (by simp)) (hb d (by simp)) i out)]
      exact h1
theorem spread_range (g : List Int) (hb : ∀ b ∈ g, 0 ≤ b ∧ b < 256) (h1 : 1 ≤ g.length) (h4 : g.length ≤ 4) : ∀ c ∈ spread g, 33 ≤ c ∧ c ≤ 122 := by
  match g, h1, h4 with
  | [a], _, _ => intro c hc; have := (close_part [a] [] hb (by simp) (by simp)).2.1 c hc; omega
  | [a, b], _, _ => intro c hc; have := (close_part [a, b] [] hb (by simp) (by simp)).2.1 c hc; omega
  | [a, b, e], _, _ => intro c hc; have := (close_part [a, b, e] [] hb (by simp) (by simp)).2.1 c hc; omega
  | [a, b, e, d], _, _ =>
    obtain ⟨n0, n1⟩ := num_range a b e d (hb a (by simp)) (hb b (by simp)) (hb e (by simp)) (hb d (by simp))
    intro c hc
    unfold spread at hc
    split at hc
    · rw [List.mem_singleton.1 hc]; omega
    · have e2 : [a, b, e, d] ++ List.replicate (4 - [a, b, e, d].length) 0 = [a, b, e, d] := by simp
      rw [e2] at hc
      have := five_range _ n0 n1 c (List.mem_of_mem_take hc)
      omega
theorem b85_range (k : Nat) : ∀ l, (∀ b ∈ l, 0 ≤ b ∧ b < 256) → ∀ c ∈ b85 k l, 33 ≤ c ∧ c ≤ 122 := by
  induction k with
  | zero => intro l _ c hc; simp [b85] at hc
  | succ k ih =>
    intro l hb c hc
    rcases four_or l with rfl | ⟨h0, h3⟩ | ⟨a, b, e, d, r, rfl⟩
    · rw [b85_nil] at hc; simp at hc
    · rw [b85_few k l h0 h3] at hc
      exact spread_range l hb (by cases l; exact absurd rfl h0; simp) (by omega) c hc
    · rw [b85_cons4] at hc
      rcases List.mem_append.1 hc with hc | hc
      · exact spread_range [a, b, e, d] (fun x hx => hb x (by
          simp only [List.mem_cons, List.not_mem_nil, or_false] at hx ⊢
          rcases hx with h | h | h | h
          · exact .inl h
          · exact .inr (.inl h)
          · exact .inr (.inr (.inl h))
          · exact .inr (.inr (.inr (.inl h))))) (by simp) (by simp) c hc
      · exact ih r (fun x hx => hb x (by simp [hx])) c hc
theorem b85_len (k : Nat) : ∀ l, (b85 k l).length ≤ 5 * l.length := by
  induction k with
  | zero => intro l; simp [b85]
  | succ k ih =>
    intro l
    rcases four_or l with rfl | ⟨h0, h3⟩ | ⟨a, b, e, d, r, rfl⟩
    · rw [b85_nil]; simp
    · rw [b85_few k l h0 h3]
      exact G02b.spread_len l (by cases l; exact absurd rfl h0; simp)
    · rw [b85_cons4, List.length_append]
      have h1 := G02b.spread_len [a, b, e, d] (by simp)
      have h2 := ih r
      simp only [List.length_cons, List.length_nil] at h1 ⊢
      omega
def bx (s : ByteArray) : ByteArray := strOfNums (b85 (s.size + 1) (bytesOf s) ++ [126, 62])
theorem bx_bytes (s : ByteArray) : bytesOf (bx s) = b85 (s.size + 1) (bytesOf s) ++ [126, 62] := bytesOf_strOf _ (fun b hb => by
  rcases List.mem_append.1 hb with hb | hb
  · have := b85_range _ _ (bytesOf_range s) b hb; omega
  · simp only [List.mem_cons, List.not_mem_nil, or_false] at hb
    rcases hb with rfl | rfl <;> omega)
theorem bx_size (s : ByteArray) : (bx s).size = (b85 (s.size + 1) (bytesOf s)).length + 2 := by
  rw [← bytesOf_len, bx_bytes, List.length_append]; rfl
theorem bx_le (s : ByteArray) : (bx s).size ≤ 5 * s.size + 2 := by
  have := b85_len (s.size + 1) (bytesOf s)
  rw [bytesOf_len] at this
  rw [bx_size]; omega
theorem b85_ok (s : ByteArray) (h : s.size ≤ 13000) : b85Res s = (bx s, 0) := by
  have h1 := bx_le s
  rw [bx_size] at h1
  unfold b85Res bnd
  rw [if_neg (by omega), if_neg (by rw [List.length_append]; simp only [List.length_cons, List.length_nil]; omega)]
  rfl
theorem b85_back (s more : ByteArray) (h1 : s.size ≤ 12000) (h2 : more.size ≤ 1000) : unb85Res (bx s ++ more) = (s, ((bx s).size : Int), 0) := by
  have hz := bx_le s
  have hsz : (bx s ++ more).size = (bx s).size + more.size := ByteArray.size_append
  have hz2 := bx_size s
  unfold unb85Res
  rw [if_neg (by omega), bytesOf_append, bx_bytes, List.append_assoc, sol_append]
  obtain ⟨P, out', hg, hc⟩ := go_b85 (s.size + 1) (bytesOf s) 0 [] (by rw [bytesOf_len]; omega) (bytesOf_range s)
  rw [rd_go takeT _ _ _ _ hg]
  show fin ((K02.rd takeT (sol (126 :: 62 :: bytesOf more) _) _).map _) = _
  rw [sol_cons 126 _ _ (by decide), sol_cons 62 _ _ (by decide)]
  have t1 : takeT ⟨P, false, out'⟩ 126 = some (⟨P, true, out'⟩, false) := rfl
  have t2 : takeT ⟨P, true, out'⟩ 62 = some (⟨P, true, bytesOf s⟩, true) := hc
  rw [K02.rd, t1]
  simp only
  rw [K02.rd, t2]
  simp only [Option.map_some, fin]
  rw [if_neg (by rw [bytesOf_len]; omega), strOf_bytesOf, hz2]
  simp only [Nat.zero_add]
theorem rdT_none : ∀ (l : List (Nat × Int)) (t : Tens), t.last = false → (∀ x ∈ l, x.2 ≠ 126) → K02.rd takeT l t = none
  | [], h, _, _ => rfl
  | (i, c) :: r, t, hl, hx => by
    have hc := hx (i, c) (by simp)
    rw [K02.rd]
    cases ht : takeT t c with
    | none => rfl
    | some q =>
      obtain ⟨t', b⟩ := q
      have : b = false ∧ t'.last = false := by
        unfold takeT at ht
        simp only [hl, Bool.false_eq_true, if_false] at ht
        rw [if_neg hc] at ht
        split at ht
        · split at ht
          · cases ht
          · cases ht; exact ⟨rfl, rfl⟩
        · split at ht
          · cases ht
          · split at ht
            · split at ht
              · cases ht; exact ⟨rfl, rfl⟩
              · cases ht
            · cases ht; exact ⟨rfl, rfl⟩
      obtain ⟨rfl, h2⟩ := this
      exact rdT_none r t' h2 (fun x hx' => hx x (by simp [hx']))
theorem b85_part (s : ByteArray) (i : Nat) (h1 : s.size ≤ 12000) (hi : i < (bx s).size) : unb85Res ((bx s).extract 0 i) = (⟨#[]⟩, 0, 5) := by
  have hz := bx_le s
  have hz2 := bx_size s
  unfold unb85Res
  rw [if_neg (by rw [ByteArray.size_extract]; omega), bytesOf_extract, bx_bytes, List.drop_zero, Nat.sub_zero]
  by_cases hl : i ≤ (b85 (s.size + 1) (bytesOf s)).length
  · rw [List.take_append_of_le_length hl, rdT_none _ _ rfl (fun x hx => by
      have := b85_range _ _ (bytesOf_range s) _ (List.mem_of_mem_take (sol_mem _ _ _ hx))
      omega)]
    rfl
  · have e : (b85 (s.size + 1) (bytesOf s) ++ [126, 62]).take i = b85 (s.size + 1) (bytesOf s) ++ [126] := by
      rw [List.take_append, List.take_of_length_le (by omega), show i - (b85 (s.size + 1) (bytesOf s)).length = 1 by omega]
      rfl
    rw [e, sol_append]
    obtain ⟨P, out', hg, hc⟩ := go_b85 (s.size + 1) (bytesOf s) 0 [] (by rw [bytesOf_len]; omega) (bytesOf_range s)
    rw [rd_go takeT _ _ _ _ hg, sol_cons 126 _ _ (by decide)]
    have t1 : takeT ⟨P, false, out'⟩ 126 = some (⟨P, true, out'⟩, false) := rfl
    rw [K02.rd, t1]
    rfl
theorem b85_fuel (k : Nat) : ∀ (l : List Int) (k' : Nat), l.length < k → l.length < k' → b85 k l = b85 k' l := by
  induction k with
  | zero => intro l k' h; omega
  | succ k ih =>
    intro l k' h1 h2
    obtain ⟨k', rfl⟩ : ∃ m, k' = m + 1 := ⟨k' - 1, by omega⟩
    rcases four_or l with rfl | ⟨h0, h3⟩ | ⟨a, b, e, d, r, rfl⟩
    · rw [b85_nil, b85_nil]
    · rw [b85_few k l h0 h3, b85_few k' l h0 h3]
    · rw [b85_cons4, b85_cons4, ih r k' (by simp at h1; omega) (by simp at h2; omega)]
theorem b85_append (k : Nat) : ∀ (l m : List Int), l.length < k → l.length % 4 = 0 → b85 (k + m.length) (l ++ m) = b85 k l ++ b85 (m.length + 1) m := by
  induction k with
  | zero => intro l m h; omega
  | succ k ih =>
    intro l m h1 h4
    rcases four_or l with rfl | ⟨h0, h3⟩ | ⟨a, b, e, d, r, rfl⟩
    · rw [b85_nil, List.nil_append, List.nil_append]
      exact b85_fuel _ _ _ (by omega) (by omega)
    · exfalso
      cases l
      · exact h0 rfl
      · simp at h3 h4; omega
    · rw [b85_cons4, List.append_assoc, ← ih r m (by simp at h1; omega) (by simp at h4; omega), show k + 1 + m.length = (k + m.length) + 1 by omega]
      exact b85_cons4 _ _ _ _ _ _
end Go.Proofs.Ytkfhpajnlaomeaa.L02
