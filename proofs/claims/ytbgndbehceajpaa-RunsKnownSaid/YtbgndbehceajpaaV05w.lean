/- The walk of the law RunsKnown: the examples, the limits and pieces of the codes of runs. -/
import Derived.Test.YtbgndbehceajpaaV05s
namespace Go.Proofs.Ytbgndbehceajpaa.V05w
open Go.RowKit Go.Proofs.YtbgndbehceajpaaW.PrintWords Go.Proofs.YtbgndbehceajpaaW.PrintLast Go.Proofs.YtbgndbehceajpaaW.PrintMore
open Go.Proofs.Ytbgndbehceajpaa.G05d Go.Proofs.Ytbgndbehceajpaa.K05 Go.Proofs.Ytbgndbehceajpaa.L05 Go.Proofs.Ytbgndbehceajpaa.L05k Go.Proofs.Ytbgndbehceajpaa.V05 Go.Proofs.Ytbgndbehceajpaa.V05s Go.Proofs.Ytbgndbehceajpaa.G05x
set_option linter.unusedVariables false
set_option maxRecDepth 100000
theorem long_enc (s : ByteArray) (h : 65536 < s.size) : G05x.res s = (⟨#[]⟩, 3) := by
  unfold G05x.res
  rw [if_pos (by omega)]
theorem ab_len (n : Nat) : (encL (bytesOf (rep ⟨#[97, 98]⟩ n))).length = 2 * n + (2 * n + 127) / 128 + 1 := by
  rw [enc_ones _ (rep_two 97 98 ⟨#[97, 98]⟩ rfl (by decide) n).1, bytesOf_length, rep_size, show (⟨#[97, 98]⟩ : ByteArray).size = 2 from rfl, Nat.mul_comm n 2]
theorem ab_long : G05x.res (rep ⟨#[97, 98]⟩ 32768) = (⟨#[]⟩, 3) := by
  unfold G05x.res encR
  have hz : (rep ⟨#[97, 98]⟩ 32768).size = 65536 := rep_size _ _
  rw [if_neg (by omega), if_pos (by rw [ab_len]; omega)]
theorem ab_fits : ∃ y, G05x.res (rep ⟨#[97, 98]⟩ 32384) = (y, 0) ∧ y.size = 65275 := by
  have hz : (rep ⟨#[97, 98]⟩ 32384).size = 64768 := rep_size _ _
  refine ⟨strOfNums (encL (bytesOf (rep ⟨#[97, 98]⟩ 32384))), ?_, ?_⟩
  · unfold G05x.res encR
    rw [if_neg (by omega), if_neg (by rw [ab_len]; omega)]
  · rw [strOfNums_size, ab_len]
theorem z_recs (n : Nat) : bytesOf (rep ⟨#[129, 122]⟩ n ++ ⟨#[128]⟩) = bytesOf (rep ⟨#[129, 122]⟩ n) ++ 128 :: [] ∧ Recs (bytesOf (rep ⟨#[129, 122]⟩ n)) (List.replicate (n * 128) 122) :=
  ⟨bytesOf_append _ _, rep_recs ⟨#[129, 122]⟩ 128 122 (by decide) (by decide) rfl n⟩
theorem z_dec (n : Nat) (hn : n ≤ 600) : G05.res (rep ⟨#[129, 122]⟩ n ++ ⟨#[128]⟩) = G05.fin (some (List.replicate (n * 128) 122, n * 2 + 1)) := by
  obtain ⟨hb, hr⟩ := z_recs n
  have hz : (rep ⟨#[129, 122]⟩ n).size = n * 2 := rep_size _ _
  have hz2 : (rep ⟨#[129, 122]⟩ n ++ ⟨#[128]⟩).size = n * 2 + 1 := by rw [ByteArray.size_append, hz]; rfl
  rw [dec_of _ (by omega), hb, hr.whole _ [] (by rw [← hb, bytesOf_length]; omega)]
  simp only [Option.map_some, List.length_nil, Nat.sub_zero, hz2]
theorem z_full : ∃ x n, G05.res (rep ⟨#[129, 122]⟩ 512 ++ ⟨#[128]⟩) = (x, n, 0) ∧ x.size = 65536 := by
  rw [z_dec 512 (by decide)]
  refine ⟨_, _, G05.fin_ok _ _ (by rw [List.length_replicate]; decide), ?_⟩
  rw [strOfNums_size, List.length_replicate]
theorem z_over : ∃ x n, G05.res (rep ⟨#[129, 122]⟩ 513 ++ ⟨#[128]⟩) = (x, n, 3) := by
  rw [z_dec 513 (by decide)]
  exact ⟨_, _, G05.fin_long _ _ (by rw [List.length_replicate]; decide)⟩
theorem e_long : ∃ x n, G05.res (rep ⟨#[128]⟩ 65537) = (x, n, 3) := by
  have hz : (rep ⟨#[128]⟩ 65537).size = 65537 := rep_size _ _
  unfold G05.res
  rw [if_pos (by omega)]
  exact ⟨_, _, rfl⟩
theorem k1 : G05x.res ⟨#[97, 97, 98, 98, 98]⟩ = (⟨#[1, 97, 97, 254, 98, 128]⟩, 0) := by kernel_rfl
theorem k2 : G05x.res (rep ⟨#[97]⟩ 257) = (⟨#[129, 97, 129, 97, 0, 97, 128]⟩, 0) := by kernel_rfl
theorem k3 : G05x.res (rep ⟨#[97]⟩ 129 ++ ⟨#[98, 99]⟩) = (⟨#[129, 97, 2, 97, 98, 99, 128]⟩, 0) := by kernel_rfl
theorem k4 : G05x.res (rep ⟨#[97, 98]⟩ 65) = (⟨#[127]⟩ ++ rep ⟨#[97, 98]⟩ 64 ++ ⟨#[1, 97, 98, 128]⟩, 0) := by kernel_rfl
theorem known_walk (w : World) : Calls Try.prog 8 #[] w fun e w' => e = .returned (.bool true) ∧ Below w.heap.size w w' := by
  have r1 : ∀ W, Calls Try.prog 15 #[.string ⟨#[97, 98]⟩, .int .i64 32768] W fun e w' => e = .returned (.string (rep ⟨#[97, 98]⟩ 32768)) ∧ Below W.heap.size W w' := fun W => rep_call ⟨#[97, 98]⟩ 32768 W (by show 2 * 32768 ≤ _; decide) (by decide)
  have r2 : ∀ W, Calls Try.prog 15 #[.string ⟨#[97, 98]⟩, .int .i64 32384] W fun e w' => e = .returned (.string (rep ⟨#[97, 98]⟩ 32384)) ∧ Below W.heap.size W w' := fun W => rep_call ⟨#[97, 98]⟩ 32384 W (by show 2 * 32384 ≤ _; decide) (by decide)
  have r3 : ∀ W, Calls Try.prog 15 #[.string ⟨#[97]⟩, .int .i64 65537] W fun e w' => e = .returned (.string (rep ⟨#[97]⟩ 65537)) ∧ Below W.heap.size W w' := fun W => rep_call ⟨#[97]⟩ 65537 W (by show 1 * 65537 ≤ _; decide) (by decide)
  have r4 : ∀ W, Calls Try.prog 15 #[.string ⟨#[129, 122]⟩, .int .i64 512] W fun e w' => e = .returned (.string (rep ⟨#[129, 122]⟩ 512)) ∧ Below W.heap.size W w' := fun W => rep_call ⟨#[129, 122]⟩ 512 W (by show 2 * 512 ≤ _; decide) (by decide)
  have r5 : ∀ W, Calls Try.prog 15 #[.string ⟨#[129, 122]⟩, .int .i64 513] W fun e w' => e = .returned (.string (rep ⟨#[129, 122]⟩ 513)) ∧ Below W.heap.size W w' := fun W => rep_call ⟨#[129, 122]⟩ 513 W (by show 2 * 513 ≤ _; decide) (by decide)
  have r6 : ∀ W, Calls Try.prog 15 #[.string ⟨#[128]⟩, .int .i64 65537] W fun e w' => e = .returned (.string (rep ⟨#[128]⟩ 65537)) ∧ Below W.heap.size W w' := fun W => rep_call ⟨#[128]⟩ 65537 W (by show 1 * 65537 ≤ _; decide) (by decide)
  have r7 : ∀ W, Calls Try.prog 15 #[.string ⟨#[97]⟩, .int .i64 257] W fun e w' => e = .returned (.string (rep ⟨#[97]⟩ 257)) ∧ Below W.heap.size W w' := fun W => rep_call ⟨#[97]⟩ 257 W (by show 1 * 257 ≤ _; decide) (by decide)
  have r8 : ∀ W, Calls Try.prog 15 #[.string ⟨#[97]⟩, .int .i64 129] W fun e w' => e = .returned (.string (rep ⟨#[97]⟩ 129)) ∧ Below W.heap.size W w' := fun W => rep_call ⟨#[97]⟩ 129 W (by show 1 * 129 ≤ _; decide) (by decide)
  have r9 : ∀ W, Calls Try.prog 15 #[.string ⟨#[97, 98]⟩, .int .i64 65] W fun e w' => e = .returned (.string (rep ⟨#[97, 98]⟩ 65)) ∧ Below W.heap.size W w' := fun W => rep_call ⟨#[97, 98]⟩ 65 W (by show 2 * 65 ≤ _; decide) (by decide)
  have r10 : ∀ W, Calls Try.prog 15 #[.string ⟨#[97, 98]⟩, .int .i64 64] W fun e w' => e = .returned (.string (rep ⟨#[97, 98]⟩ 64)) ∧ Below W.heap.size W w' := fun W => rep_call ⟨#[97, 98]⟩ 64 W (by show 2 * 64 ≤ _; decide) (by decide)
  have q1 := ab_long
  obtain ⟨y, q2, hy⟩ := ab_fits
  have q3 := long_enc (rep ⟨#[97]⟩ 65537) (by rw [rep_size]; decide)
  obtain ⟨x4, n4, q4, hx4⟩ := z_full
  obtain ⟨x5, n5, q5⟩ := z_over
  obtain ⟨x6, n6, q6⟩ := e_long
  have q8 := k2
  have q9 := k3
  have q10 := k4
  have z4 : (rep ⟨#[129, 122]⟩ 512).size = 1024 := rep_size _ _
  have z5 : (rep ⟨#[129, 122]⟩ 513).size = 1026 := rep_size _ _
  have z8 : (rep ⟨#[97]⟩ 129).size = 129 := rep_size _ _
  have z10 : (rep ⟨#[97, 98]⟩ 64).size = 128 := rep_size _ _
  obtain ⟨s1, hs1⟩ : ∃ s, rep ⟨#[97, 98]⟩ 32768 = s := ⟨_, rfl⟩
  obtain ⟨s2, hs2⟩ : ∃ s, rep ⟨#[97, 98]⟩ 32384 = s := ⟨_, rfl⟩
  obtain ⟨s3, hs3⟩ : ∃ s, rep ⟨#[97]⟩ 65537 = s := ⟨_, rfl⟩
  obtain ⟨s4, hs4⟩ : ∃ s, rep ⟨#[129, 122]⟩ 512 = s := ⟨_, rfl⟩
  obtain ⟨s5, hs5⟩ : ∃ s, rep ⟨#[129, 122]⟩ 513 = s := ⟨_, rfl⟩
  obtain ⟨s6, hs6⟩ : ∃ s, rep ⟨#[128]⟩ 65537 = s := ⟨_, rfl⟩
  obtain ⟨s7, hs7⟩ : ∃ s, rep ⟨#[97]⟩ 257 = s := ⟨_, rfl⟩
  obtain ⟨s8, hs8⟩ : ∃ s, rep ⟨#[97]⟩ 129 = s := ⟨_, rfl⟩
  obtain ⟨s9, hs9⟩ : ∃ s, rep ⟨#[97, 98]⟩ 65 = s := ⟨_, rfl⟩
  obtain ⟨s10, hs10⟩ : ∃ s, rep ⟨#[97, 98]⟩ 64 = s := ⟨_, rfl⟩
  simp only [hs1] at r1 q1
  simp only [hs2] at r2 q2
  simp only [hs3] at r3 q3
  simp only [hs4] at r4 q4 z4
  simp only [hs5] at r5 q5 z5
  simp only [hs6] at r6 q6
  simp only [hs7] at r7 q8
  simp only [hs8] at r8 q9 z8
  simp only [hs9] at r9 q10
  simp only [hs10] at r10 q10 z10
  have Q1 := Aside0.mk q1
  have Q2 := Aside0.mk q2
  have Q3 := Aside0.mk q3
  have Q4 := Aside0.mk q4
  have Q5 := Aside0.mk q5
  have Q6 := Aside0.mk q6
  have Q8 := Aside0.mk q8
  have Q9 := Aside0.mk q9
  have Q10 := Aside0.mk q10
  have R1 := Aside0.mk r1
  have R2 := Aside0.mk r2
  have R3 := Aside0.mk r3
  have R4 := Aside0.mk r4
  have R5 := Aside0.mk r5
  have R6 := Aside0.mk r6
  have R7 := Aside0.mk r7
  have R8 := Aside0.mk r8
  have R9 := Aside0.mk r9
  have R10 := Aside0.mk r10
  clear q1 q2 q3 q4 q5 q6 q8 q9 q10 r1 hs1 r2 hs2 r3 hs3 r4 hs4 r5 hs5 r6 hs6 r7 hs7 r8 hs8 r9 hs9 r10 hs10
  go_enter Try.func8, Try.ntmps8
  go_wp2_with fail
  refine (works_call _).mono ?_
  rintro e w0 ⟨rfl, hb0⟩
  have hc0 := hb0
  go_wp2_with fail
  refine (R1.out _).mono ?_
  rintro e w1 ⟨rfl, hb1⟩
  have hc1 := below_step hc0 hb1
  clear hc0 hb1
  go_wp2_with fail
  refine (enc_call _ _ _ _ Q1.out).mono ?_
  rintro e w2 ⟨rfl, hb2⟩
  have hc2 := below_step hc1 hb2
  clear hc1 hb2
  go_wp2_with fail
  refine (R2.out _).mono ?_
  rintro e w3 ⟨rfl, hb3⟩
  have hc3 := below_step hc2 hb3
  clear hc2 hb3
  go_wp2_with fail
  refine (enc_call _ _ _ _ Q2.out).mono ?_
  rintro e w4 ⟨rfl, hb4⟩
  have hc4 := below_step hc3 hb4
  clear hc3 hb4
  go_wp2_with fail
  refine (R3.out _).mono ?_
  rintro e w5 ⟨rfl, hb5⟩
  have hc5 := below_step hc4 hb5
  clear hc4 hb5
  go_wp2_with fail
  refine (enc_call _ _ _ _ Q3.out).mono ?_
  rintro e w6 ⟨rfl, hb6⟩
  have hc6 := below_step hc5 hb6
  clear hc5 hb6
  go_wp2_with fail
  refine (R4.out _).mono ?_
  rintro e w7 ⟨rfl, hb7⟩
  have hc7 := below_step hc6 hb7
  clear hc6 hb7
  go_wp2_with fail
  refine (dec_call _ _ _ _ _ Q4.out).mono ?_
  rintro e w8 ⟨rfl, hb8⟩
  have hc8 := below_step hc7 hb8
  clear hc7 hb8
  go_wp2_with fail
  refine (R5.out _).mono ?_
  rintro e w9 ⟨rfl, hb9⟩
  have hc9 := below_step hc8 hb9
  clear hc8 hb9
  go_wp2_with fail
  refine (dec_call _ _ _ _ _ Q5.out).mono ?_
  rintro e w10 ⟨rfl, hb10⟩
  have hc10 := below_step hc9 hb10
  clear hc9 hb10
  go_wp2_with fail
  refine (R6.out _).mono ?_
  rintro e w11 ⟨rfl, hb11⟩
  have hc11 := below_step hc10 hb11
  clear hc10 hb11
  go_wp2_with fail
  refine (dec_call _ _ _ _ _ Q6.out).mono ?_
  rintro e w12 ⟨rfl, hb12⟩
  have hc12 := below_step hc11 hb12
  clear hc11 hb12
  go_wp2_with fail
  refine (codes_call _ _ _ k1).mono ?_
  rintro e w13 ⟨rfl, hb13⟩
  have hc13 := below_step hc12 hb13
  clear hc12 hb13
  go_wp2_with fail
  refine (R7.out _).mono ?_
  rintro e w14 ⟨rfl, hb14⟩
  have hc14 := below_step hc13 hb14
  clear hc13 hb14
  go_wp2_with fail
  refine (codes_call _ _ _ Q8.out).mono ?_
  rintro e w15 ⟨rfl, hb15⟩
  have hc15 := below_step hc14 hb15
  clear hc14 hb15
  go_wp2_with fail
  refine (R8.out _).mono ?_
  rintro e w16 ⟨rfl, hb16⟩
  have hc16 := below_step hc15 hb16
  clear hc15 hb16
  go_wp2_with fail
  refine (codes_call _ _ _ Q9.out).mono ?_
  rintro e w17 ⟨rfl, hb17⟩
  have hc17 := below_step hc16 hb17
  clear hc16 hb17
  go_wp2_with fail
  refine (R9.out _).mono ?_
  rintro e w18 ⟨rfl, hb18⟩
  have hc18 := below_step hc17 hb18
  clear hc17 hb18
  go_wp2_with fail
  refine (R10.out _).mono ?_
  rintro e w19 ⟨rfl, hb19⟩
  have hc19 := below_step hc18 hb19
  clear hc18 hb19
  go_wp2_with fail
  refine (codes_call _ _ _ Q10.out).mono ?_
  rintro e w20 ⟨rfl, hb20⟩
  have hc20 := below_step hc19 hb20
  clear hc19 hb20
  go_wp2_with fail
  refine (works_call _).mono ?_
  rintro e w21 ⟨rfl, hb21⟩
  have hc21 := below_step hc20 hb21
  clear hc20 hb21
  go_wp2_with fail
  go_ret
  exact ⟨rfl, hc21⟩
end Go.Proofs.Ytbgndbehceajpaa.V05w
