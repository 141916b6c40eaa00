/- The walk of the law CipherKnown: the examples, the limits and the order of errors of the cipher. -/
import Derived.Test.YtggckbdjmliciaaV32
import Derived.Test.YtggckbdjmliciaaShelf
namespace Go.Proofs.Ytggckbdjmliciaa.V32
open Go.RowKit Go.Proofs.Ytggckbdjmliciaa.G32 Go.Proofs.Ytggckbdjmliciaa.PR Go.Proofs.Ytggckbdjmliciaa.K32 Go.Proofs.YtggckbdjmliciaaW.PrintWords Go.Proofs.YtggckbdjmliciaaW.PrintLast Go.Proofs.YtggckbdjmliciaaW.PrintMore
set_option linter.unusedVariables false
set_option maxRecDepth 100000
theorem repeat_size (c : UInt8) (n : Nat) : (⟨(Lib.repeatL [c] n).toArray⟩ : ByteArray).size = n := by
  have h : (Lib.repeatL [c] n).length = n := by
    induction n with
    | zero => rfl
    | succ n ih => simp [Lib.repeatL, ih]; try omega
  show (Lib.repeatL [c] n).toArray.size = n
  simpa using h
theorem rep_any (n : Nat) (hn : n ≤ 1000000) (w : World) : ∃ s : ByteArray, s.size = n ∧ Calls Try.prog 15 #[.string ⟨#[97]⟩, .int .i64 n] w fun e w' => e = .returned (.string s) ∧ Below w.heap.size w w' :=
  ⟨_, repeat_size 97 n, Try.strings_Repeat ⟨#[97]⟩ n w (by omega) (by show 1 * n ≤ _; omega)⟩
theorem rep (n : Nat) (hn : n ≤ 1000000) : ∃ s : ByteArray, s.size = n ∧ ∀ w, Calls Try.prog 15 #[.string ⟨#[97]⟩, .int .i64 n] w fun e w' => e = .returned (.string s) ∧ Below w.heap.size w w' :=
  ⟨_, repeat_size 97 n, fun w => Try.strings_Repeat ⟨#[97]⟩ n w (by omega) (by show 1 * n ≤ _; omega)⟩
theorem known_walk (w : World) : Calls Try.prog 8 #[] w fun e w' => e = .returned (.bool true) ∧ Below w.heap.size w w' := by
  have HW := Aside0.mk works_true
  obtain ⟨s1, z1, r1⟩ := rep 65537 (by decide)
  obtain ⟨s2, z2, r2⟩ := rep 65533 (by decide)
  obtain ⟨s3, z3, r3⟩ := rep 65532 (by decide)
  have q1 : cipher_Encrypt.f s1 (-1) = some (⟨#[]⟩, 3) := by unfold cipher_Encrypt.f; rw [chk3 _ _ (by omega)]; rfl
  have q2 : cipher_Encrypt.f s2 (-1) = some (⟨#[]⟩, 2) := by unfold cipher_Encrypt.f; rw [chk2 _ _ (by omega) (by decide)]; rfl
  have q3 : cipher_Encrypt.f s2 0 = some (⟨#[]⟩, 3) := by unfold cipher_Encrypt.f; rw [chk0 _ _ (by omega) (by decide) (by decide), if_pos rfl, if_pos (by omega)]
  obtain ⟨x, q4, hx⟩ : ∃ x, cipher_Encrypt.f s3 65535 = some (x, 0) ∧ x.size = 65536 := ⟨_, enc_some s3 65535 (by omega) (by decide) (by decide), by rw [enc_size, z3]⟩
  have q5 : cipher_Decrypt.f s1 (-1) = some (⟨#[]⟩, 3) := by unfold cipher_Decrypt.f; rw [chk3 _ _ (by omega)]; rfl
  have q6 : cipher_Decrypt.f ⟨#[]⟩ (-1) = some (⟨#[]⟩, 2) := by decide +kernel
  have q7 : cipher_Decrypt.f ⟨#[97, 98, 99]⟩ 0 = some (⟨#[]⟩, 5) := by decide +kernel
  have q8 : cipher_Decrypt.f ⟨#[97, 98, 99, 100]⟩ 0 = some (⟨#[]⟩, 0) := by decide +kernel
  have Q1 := Aside0.mk q1
  have Q2 := Aside0.mk q2
  have Q3 := Aside0.mk q3
  have Q4 := Aside0.mk q4
  have Q5 := Aside0.mk q5
  have Q6 := Aside0.mk q6
  have Q7 := Aside0.mk q7
  have Q8 := Aside0.mk q8
  have R1 := Aside0.mk r1
  have R2 := Aside0.mk r2
  have R3 := Aside0.mk r3
  clear q1 q2 q3 q4 q5 q6 q7 q8 r1 r2 r3 z1 z2 z3
  go_enter Try.func8, Try.ntmps8
  go_wp2_with fail
  refine (chaselaw32_works.calls true _ HW.out).mono ?_
  rintro e w0 ⟨rfl, hb0⟩
  have hc0 := hb0
  clear hb0
  go_wp2_with fail
  refine (R1.out _).mono ?_
  rintro e w1 ⟨rfl, hb1⟩
  have hc1 := below_step hc0 hb1
  clear hc0 hb1
  go_wp2_with fail
  refine (cipher_Encrypt.calls _ _ _ _ _ Q1.out).mono ?_
  rintro e w2 ⟨rfl, hb2⟩
  have hc2 := below_step hc1 hb2
  clear hc1 hb2
  go_wp2_with fail
  refine (R2.out _).mono ?_
  rintro e w3 ⟨rfl, hb3⟩
  have hc3 := below_step hc2 hb3
  clear hc2 hb3
  go_wp2_with fail
  refine (cipher_Encrypt.calls _ _ _ _ _ Q2.out).mono ?_
  rintro e w4 ⟨rfl, hb4⟩
  have hc4 := below_step hc3 hb4
  clear hc3 hb4
  go_wp2_with fail
  refine (R2.out _).mono ?_
  rintro e w5 ⟨rfl, hb5⟩
  have hc5 := below_step hc4 hb5
  clear hc4 hb5
  go_wp2_with fail
  refine (cipher_Encrypt.calls _ _ _ _ _ Q3.out).mono ?_
  rintro e w6 ⟨rfl, hb6⟩
  have hc6 := below_step hc5 hb6
  clear hc5 hb6
  go_wp2_with fail
  refine (R3.out _).mono ?_
  rintro e w7 ⟨rfl, hb7⟩
  have hc7 := below_step hc6 hb7
  clear hc6 hb7
  go_wp2_with fail
  refine (cipher_Encrypt.calls _ _ _ _ _ Q4.out).mono ?_
  rintro e w8 ⟨rfl, hb8⟩
  have hc8 := below_step hc7 hb8
  clear hc7 hb8
  go_wp2_with fail
  refine (R1.out _).mono ?_
  rintro e w9 ⟨rfl, hb9⟩
  have hc9 := below_step hc8 hb9
  clear hc8 hb9
  go_wp2_with fail
  refine (cipher_Decrypt.calls _ _ _ _ _ Q5.out).mono ?_
  rintro e w10 ⟨rfl, hb10⟩
  have hc10 := below_step hc9 hb10
  clear hc9 hb10
  go_wp2_with fail
  refine (cipher_Decrypt.calls _ _ _ _ _ Q6.out).mono ?_
  rintro e w11 ⟨rfl, hb11⟩
  have hc11 := below_step hc10 hb11
  clear hc10 hb11
  go_wp2_with fail
  refine (cipher_Decrypt.calls _ _ _ _ _ Q7.out).mono ?_
  rintro e w12 ⟨rfl, hb12⟩
  have hc12 := below_step hc11 hb12
  clear hc11 hb12
  go_wp2_with fail
  refine (cipher_Decrypt.calls _ _ _ _ _ Q8.out).mono ?_
  rintro e w13 ⟨rfl, hb13⟩
  have hc13 := below_step hc12 hb13
  clear hc12 hb13
  go_wp2_with fail
  refine (chaselaw32_works.calls true _ HW.out).mono ?_
  rintro e w14 ⟨rfl, hb14⟩
  have hc14 := below_step hc13 hb14
  go_wp2_with fail
  go_ret
  exact ⟨rfl, hc14⟩
end Go.Proofs.Ytggckbdjmliciaa.V32
