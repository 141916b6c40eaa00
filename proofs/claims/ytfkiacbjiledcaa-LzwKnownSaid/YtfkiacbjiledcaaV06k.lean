/- The examples and the limits of the codes of variable width: walked (chapter 06). -/
import Derived.Test.YtfkiacbjiledcaaV06s
namespace Go.Proofs.Ytfkiacbjiledcaa.V06k
open Go.RowKit Go.Proofs.YtfkiacbjiledcaaW.PrintWords Go.Proofs.YtfkiacbjiledcaaW.PrintLast Go.Proofs.YtfkiacbjiledcaaW.PrintMore
open Go.Proofs.Ytfkiacbjiledcaa.K06 Go.Proofs.Ytfkiacbjiledcaa.L06c Go.Proofs.Ytfkiacbjiledcaa.L06k Go.Proofs.Ytfkiacbjiledcaa.V06 Go.Proofs.Ytfkiacbjiledcaa.V06s
open Go.Proofs.Ytfkiacbjiledcaa.G06x (enc_call)
open Go.Proofs.Ytfkiacbjiledcaa.G06d (dec_call)
set_option linter.unusedVariables false
set_option maxRecDepth 100000
set_option maxHeartbeats 1000000 in
theorem known_walk (w : World) : Calls Try.prog 9 #[] w fun e w' => e = .returned (.bool true) ∧ Below w.heap.size w w' := by
  have r1 := fun W => rep_call ⟨#[97]⟩ 65537 W (by show 1 * 65537 ≤ _; decide) (by decide)
  have r2 := fun W => rep_call ⟨#[97]⟩ 65536 W (by show 1 * 65536 ≤ _; decide) (by decide)
  have r3 := fun W => rep_call ⟨#[0]⟩ 65537 W (by show 1 * 65537 ≤ _; decide) (by decide)
  have r4 := fun W => rep_call ⟨#[0]⟩ 65536 W (by show 1 * 65536 ≤ _; decide) (by decide)
  have z1 : (rep ⟨#[97]⟩ 65537).size = 65537 := rep_size _ _
  have z2 : (rep ⟨#[97]⟩ 65536).size = 65536 := rep_size _ _
  have z3 : (rep ⟨#[0]⟩ 65537).size = 65537 := rep_size _ _
  have z4 : (rep ⟨#[0]⟩ 65536).size = 65536 := rep_size _ _
  have e1 := enc_long (rep ⟨#[97]⟩ 65537) (by omega)
  have hcs : (code (rep ⟨#[97]⟩ 65536)).size = 423 := by
    rw [code_size, rep_oct (s := ⟨#[97]⟩) (c := ((97 : Nat) : Int)) rfl, full_len (by decide)]
  have e2 := enc_ok2 (rep ⟨#[97]⟩ 65536) (by omega) (by omega)
  have d2 := dec_exact2 (rep ⟨#[97]⟩ 65536) (by omega) (by omega)
  have d3 := dec_long (rep ⟨#[0]⟩ 65537) (by omega)
  have d4 := dec_zeros (rep ⟨#[0]⟩ 65536) (by omega) (fun c hc => by rw [rep_oct (s := ⟨#[0]⟩) (c := 0) rfl] at hc; exact List.eq_of_mem_replicate hc)
  obtain ⟨A, hA⟩ : ∃ A, rep ⟨#[97]⟩ 65537 = A := ⟨_, rfl⟩
  obtain ⟨B, hB⟩ : ∃ B, rep ⟨#[97]⟩ 65536 = B := ⟨_, rfl⟩
  obtain ⟨C, hC⟩ : ∃ C, rep ⟨#[0]⟩ 65537 = C := ⟨_, rfl⟩
  obtain ⟨D, hD⟩ : ∃ D, rep ⟨#[0]⟩ 65536 = D := ⟨_, rfl⟩
  simp only [hA] at r1
  simp only [hB] at r2
  simp only [hC] at r3
  simp only [hD] at r4
  rw [hA] at e1
  rw [hB] at e2 d2 hcs
  rw [hC] at d3
  rw [hD] at d4
  obtain ⟨x, hx⟩ : ∃ x, code B = x := ⟨_, rfl⟩
  rw [hx] at e2 d2 hcs
  have hcs2 : (x.size : Int) = 423 := by omega
  rw [hcs2] at d2
  have R1 := Aside0.mk r1
  have R2 := Aside0.mk r2
  have R3 := Aside0.mk r3
  have R4 := Aside0.mk r4
  have E1 := Aside0.mk e1
  have E2 := Aside0.mk e2
  have D2 := Aside0.mk d2
  have D3 := Aside0.mk d3
  have D4 := Aside0.mk d4
  clear r1 r2 r3 r4 z1 z2 z3 z4 e1 e2 d2 d3 d4 hA hB hC hD hx hcs
  go_enter Try.func9, Try.ntmps9
  go_wp2_with fail
  refine (works_call _).mono ?_
  rintro e W1 ⟨rfl, hb1⟩
  have c1 := hb1
  go_wp2_with fail
  refine (R1.out _).mono ?_
  rintro e W2 ⟨rfl, hb2⟩
  have c2 := below_step c1 hb2
  clear c1 hb1 hb2
  go_wp2_with fail
  refine (enc_call _ _ _ _ E1.out).mono ?_
  rintro e W3 ⟨rfl, hb3⟩
  have c3 := below_step c2 hb3
  clear c2 hb3
  go_wp2_with fail
  refine (R2.out _).mono ?_
  rintro e W4 ⟨rfl, hb4⟩
  have c4 := below_step c3 hb4
  clear c3 hb4
  go_wp2_with fail
  refine (enc_call _ _ _ _ E2.out).mono ?_
  rintro e W5 ⟨rfl, hb5⟩
  have c5 := below_step c4 hb5
  clear c4 hb5
  go_wp2_with fail
  refine (dec_call _ _ _ _ _ D2.out).mono ?_
  rintro e W6 ⟨rfl, hb6⟩
  have c6 := below_step c5 hb6
  clear c5 hb6
  go_wp2_with fail
  refine (R3.out _).mono ?_
  rintro e W7 ⟨rfl, hb7⟩
  have c7 := below_step c6 hb7
  clear c6 hb7
  go_wp2_with fail
  refine (dec_call _ _ _ _ _ D3.out).mono ?_
  rintro e W8 ⟨rfl, hb8⟩
  have c8 := below_step c7 hb8
  clear c7 hb8
  go_wp2_with fail
  refine (R4.out _).mono ?_
  rintro e W9 ⟨rfl, hb9⟩
  have c9 := below_step c8 hb9
  clear c8 hb9
  go_wp2_with fail
  refine (dec_call _ _ _ _ _ D4.out).mono ?_
  rintro e W10 ⟨rfl, hb10⟩
  have c10 := below_step c9 hb10
  clear c9 hb10
  go_wp2_with fail
  refine (works_call _).mono ?_
  rintro e W11 ⟨rfl, hb11⟩
  have c11 := below_step c10 hb11
  clear c10 hb11
  go_wp2_with fail
  refine (R2.out _).mono ?_
  rintro e W12 ⟨rfl, hb12⟩
  have c12 := below_step c11 hb12
  clear c11 hb12
  go_wp2_with fail
  go_ret
  exact ⟨rfl, c12⟩
end Go.Proofs.Ytfkiacbjiledcaa.V06k
