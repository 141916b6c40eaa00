import Derived.Test.YtbgndbehceajpaaL05
import Derived.Test.YtbgndbehceajpaaP05x
namespace Go.Proofs.Ytbgndbehceajpaa.R05
open Go.RowKit Go.Proofs.YtbgndbehceajpaaW.PrintWords Go.Proofs.YtbgndbehceajpaaW.PrintLast Go.Proofs.YtbgndbehceajpaaW.PrintMore
open Go.Proofs.Ytbgndbehceajpaa.P05 Go.Proofs.Ytbgndbehceajpaa.L05
set_option linter.unusedVariables false
theorem w64 (x : Int) (h1 : -9000000000000000000 ≤ x) (h2 : x ≤ 9000000000000000000) : wrap64 x = x := by unfold wrap64; omega
theorem l1_on (k : Nat) (s : ByteArray) (out : List Int) (i n j : Nat) (h1 : (j : Int) < 257 - (n : Int)) (h2 : i + 1 < s.size) (h3 : out.length < 140737488355328) (h4 : j < 1000) (h5 : i < 100000) (hn : n ≤ 256) :
    chaseref05_Decode.l1 (k + 1) s out i n j = chaseref05_Decode.l1 k s (out ++ [bt s ((i + 1 : Nat) : Int)]) i n ((j + 1 : Nat) : Int) := by
  have e1 : wrap64 ((i : Int) + 1) = ((i + 1 : Nat) : Int) := by rw [w64 _ (by omega) (by omega)]; omega
  have e2 : wrap64 ((j : Int) + 1) = ((j + 1 : Nat) : Int) := by rw [w64 _ (by omega) (by omega)]; omega
  have e3 : wrap64 (257 - (n : Int)) = 257 - (n : Int) := w64 _ (by omega) (by omega)
  have c2 : (0 : Int) ≤ ((i + 1 : Nat) : Int) := by omega
  have c3 : ((i + 1 : Nat) : Int) < (s.size : Int) := by omega
  rw [chaseref05_Decode.l1, e3, if_pos h1, e1, if_pos c2, if_pos c3, if_pos h3, e2]
theorem l1_off (k : Nat) (s : ByteArray) (out : List Int) (i n j : Nat) (h1 : ¬ (j : Int) < 257 - (n : Int)) (h5 : i < 100000) (hn : n ≤ 256) :
    chaseref05_Decode.l1 (k + 1) s out i n j = chaseref05_Decode.l0 k s out ((i + 2 : Nat) : Int) := by
  have e1 : wrap64 ((i : Int) + 2) = ((i + 2 : Nat) : Int) := by rw [w64 _ (by omega) (by omega)]; omega
  have e3 : wrap64 (257 - (n : Int)) = 257 - (n : Int) := w64 _ (by omega) (by omega)
  rw [chaseref05_Decode.l1, e3, if_neg h1, e1]
theorem ref_l1 (s : ByteArray) (i n k : Nat) (r : ByteArray × Int × Int) (hs : s.size ≤ 65536) (hi : i + 1 < s.size) (hn : n ≤ 256) (b : Int) (hb : bt s ((i + 1 : Nat) : Int) = b) :
    ∀ (m j : Nat) (out : List Int), j + m = 257 - n → out.length + m ≤ 100000000 → chaseref05_Decode.l0 k s (out ++ List.replicate m b) ((i + 2 : Nat) : Int) = some r → ∃ k', chaseref05_Decode.l1 k' s out i n j = some r := by
  intro m
  induction m with
  | zero =>
    intro j out hj ho h
    refine ⟨k + 1, ?_⟩
    rw [l1_off k s out i n j (by omega) (by omega) hn]
    rw [List.replicate_zero, List.append_nil] at h
    exact h
  | succ m ih =>
    intro j out hj ho h
    have e : out ++ [b] ++ List.replicate m b = out ++ List.replicate (m + 1) b := by rw [List.append_assoc]; rfl
    obtain ⟨k', hk'⟩ := ih (j + 1) (out ++ [b]) (by omega) (by rw [List.length_append, List.length_singleton]; omega) (by rw [e]; exact h)
    refine ⟨k' + 1, ?_⟩
    rw [l1_on k' s out i n j (by omega) hi (by omega) (by omega) (by omega) hn, hb]
    exact hk'
theorem l0_end (k : Nat) (s : ByteArray) (out : List Int) (i : Nat) (h : ¬ i < s.size) : chaseref05_Decode.l0 (k + 1) s out i = some (⟨#[]⟩, 0, 5) := by
  have c1 : ¬ (i : Int) < (s.size : Int) := by omega
  rw [chaseref05_Decode.l0, if_neg c1]
theorem l0_128 (k : Nat) (s : ByteArray) (out : List Int) (i : Nat) (h : i < s.size) (hs : s.size ≤ 65536) (hn : bt s (i : Int) = 128) : chaseref05_Decode.l0 (k + 1) s out i = some (G05.fin (some (out, i + 1))) := by
  have c1 : (i : Int) < (s.size : Int) := by omega
  have c2 : (0 : Int) ≤ (i : Int) := by omega
  have e0 : wrap64 128 = 128 := w64 _ (by omega) (by omega)
  have e6 : wrap64 ((i : Int) + 1) = ((i + 1 : Nat) : Int) := by rw [w64 _ (by omega) (by omega)]; omega
  rw [chaseref05_Decode.l0, if_pos c1, if_pos c2, hn, e0, if_pos rfl]
  by_cases h2 : out.length > 65536
  · have c3 : (out.length : Int) > 65536 := by omega
    rw [if_pos c3, G05.fin_long _ _ h2]
  · have c3 : ¬ (out.length : Int) > 65536 := by omega
    rw [if_neg c3, G05.fin_ok _ _ h2, e6]
theorem l0_lit (k : Nat) (s : ByteArray) (out : List Int) (i n : Nat) (h : i < s.size) (hs : s.size ≤ 65536) (hn : bt s (i : Int) = n) (h1 : n < 128) (ho : out.length < 100000000) :
    chaseref05_Decode.l0 (k + 1) s out i = if s.size < i + 2 + n then some (⟨#[]⟩, 0, 5) else chaseref05_Decode.l0 k s (out ++ bytesOf (s.extract (i + 1) (i + 2 + n))) ((i + 2 + n : Nat) : Int) := by
  have c1 : (i : Int) < (s.size : Int) := by omega
  have c2 : (0 : Int) ≤ (i : Int) := by omega
  have e0 : wrap64 (n : Int) = n := w64 _ (by omega) (by omega)
  have n1 : ¬ (n : Int) = 128 := by omega
  have n2 : (n : Int) < 128 := by omega
  have e1 : wrap64 ((s.size : Int) - i) = (s.size : Int) - i := w64 _ (by omega) (by omega)
  have e2 : wrap64 ((n : Int) + 2) = (n : Int) + 2 := w64 _ (by omega) (by omega)
  have e3 : wrap64 ((i : Int) + 1) = ((i + 1 : Nat) : Int) := by rw [w64 _ (by omega) (by omega)]; omega
  have e4 : wrap64 ((i : Int) + n) = (i : Int) + n := w64 _ (by omega) (by omega)
  have e5 : wrap64 ((i : Int) + n + 2) = ((i + 2 + n : Nat) : Int) := by rw [w64 _ (by omega) (by omega)]; omega
  rw [chaseref05_Decode.l0, if_pos c1, if_pos c2, hn, e0, if_neg n1, if_pos n2, e1, e2]
  by_cases h3 : s.size < i + 2 + n
  · have c3 : (s.size : Int) - i < (n : Int) + 2 := by clear e0 e1 e2 e3 e4 e5; omega
    rw [if_pos c3, if_pos h3]
  · have c3 : ¬ (s.size : Int) - i < (n : Int) + 2 := by clear e0 e1 e2 e3 e4 e5; omega
    have c4 : (0 : Int) ≤ ((i + 1 : Nat) : Int) := by clear e0 e1 e2 e3 e4 e5; omega
    have c5 : ((i + 1 : Nat) : Int) ≤ ((i + 2 + n : Nat) : Int) := by clear e0 e1 e2 e3 e4 e5; omega
    have c6 : ((i + 2 + n : Nat) : Int) ≤ (s.size : Int) := by clear e0 e1 e2 e3 e4 e5; omega
    have c7 : out.length + (s.extract (i + 1) (i + 2 + n)).size < 140737488355328 := by
      have hz : (s.extract (i + 1) (i + 2 + n)).size = min (i + 2 + n) s.size - (i + 1) := ByteArray.size_extract
      clear e0 e1 e2 e3 e4 e5
      omega
    rw [if_neg c3, if_neg h3, e3, e4, e5, if_pos c4, if_pos c5, if_pos c6, Int.toNat_natCast, Int.toNat_natCast, if_pos c7]
theorem l0_run (k : Nat) (s : ByteArray) (out : List Int) (i n : Nat) (h : i < s.size) (hs : s.size ≤ 65536) (hn : bt s (i : Int) = n) (h1 : 128 < n) (h2 : n ≤ 255) :
    chaseref05_Decode.l0 (k + 1) s out i = if i + 1 = s.size then some (⟨#[]⟩, 0, 5) else chaseref05_Decode.l1 k s out i n ((0 : Nat) : Int) := by
  have c1 : (i : Int) < (s.size : Int) := by omega
  have c2 : (0 : Int) ≤ (i : Int) := by omega
  have e0 : wrap64 (n : Int) = n := w64 _ (by omega) (by omega)
  have n1 : ¬ (n : Int) = 128 := by omega
  have n2 : ¬ (n : Int) < 128 := by omega
  have e1 : wrap64 ((s.size : Int) - i) = (s.size : Int) - i := w64 _ (by omega) (by omega)
  rw [chaseref05_Decode.l0, if_pos c1, if_pos c2, hn, e0, if_neg n1, if_neg n2, e1]
  by_cases h3 : i + 1 = s.size
  · have c3 : (s.size : Int) - i < 2 := by clear e0 e1; omega
    rw [if_pos c3, if_pos h3]
  · have c3 : ¬ (s.size : Int) - i < 2 := by clear e0 e1; omega
    have z : ((0 : Nat) : Int) = 0 := rfl
    rw [if_neg c3, if_neg h3, z]
theorem ref_dec (s : ByteArray) (hs : s.size ≤ 65536) : ∀ (K i : Nat) (out : List Int), s.size - i < K → i ≤ s.size → out.length ≤ 129 * i → ∃ k, chaseref05_Decode.l0 k s out i = some (G05.fin (G05.dec s K i out)) := by
  intro K
  induction K with
  | zero => intro i out h; omega
  | succ K ih =>
    intro i out hK hi ho
    unfold G05.dec
    by_cases hlt : i < s.size
    · rw [if_pos hlt]
      have hr := bt_range s i
      obtain ⟨n, hn⟩ : ∃ n : Nat, bt s (i : Int) = n := ⟨(bt s i).toNat, by omega⟩
      rw [hn] at hr ⊢
      have hn2 : (n : Int).toNat = n := by omega
      rw [hn2]
      by_cases h1 : (n : Int) = 128
      · rw [if_pos h1]
        exact ⟨1, l0_128 0 s out i hlt hs (hn.trans h1)⟩
      · rw [if_neg h1]
        by_cases h2 : (n : Int) < 128
        · rw [if_pos h2]
          by_cases h3 : s.size < i + 2 + n
          · rw [if_pos h3]
            refine ⟨1, ?_⟩
            rw [l0_lit 0 s out i n hlt hs hn (by omega) (by omega), if_pos h3]
            rfl
          · rw [if_neg h3]
            obtain ⟨k, hk⟩ := ih (i + 2 + n) (out ++ bytesOf (s.extract (i + 1) (i + 2 + n))) (by omega) (by omega) (by rw [List.length_append, bytesOf_length, ByteArray.size_extract]; omega)
            refine ⟨k + 1, ?_⟩
            rw [l0_lit k s out i n hlt hs hn (by omega) (by omega), if_neg h3]
            exact hk
        · rw [if_neg h2]
          by_cases h3 : i + 1 = s.size
          · rw [if_pos h3]
            refine ⟨1, ?_⟩
            rw [l0_run 0 s out i n hlt hs hn (by omega) (by omega), if_pos h3]
            rfl
          · rw [if_neg h3]
            obtain ⟨k, hk⟩ := ih (i + 2) (out ++ List.replicate (257 - n) (bt s ((i + 1 : Nat) : Int))) (by omega) (by omega) (by rw [List.length_append, List.length_replicate]; omega)
            obtain ⟨k', hk'⟩ := ref_l1 s i n k _ hs (by omega) (by omega) _ rfl (257 - n) 0 out (by omega) (by omega) hk
            refine ⟨k' + 1, ?_⟩
            rw [l0_run k' s out i n hlt hs hn (by omega) (by omega), if_neg h3]
            exact hk'
    · rw [if_neg hlt]
      exact ⟨1, l0_end 0 s out i hlt⟩
theorem ref_decode (s : ByteArray) : ∃ k, chaseref05_Decode.f k s = some (G05.res s) := by
  unfold chaseref05_Decode.f G05.res
  by_cases hs : (s.size : Int) > 65536
  · exact ⟨0, by rw [if_pos hs, if_pos hs]⟩
  · obtain ⟨k, hk⟩ := ref_dec s (by omega) (s.size + 1) 0 [] (by omega) (Nat.zero_le _) (by simp)
    refine ⟨k, ?_⟩
    rw [if_neg hs, if_neg hs]
    exact hk
end Go.Proofs.Ytbgndbehceajpaa.R05
