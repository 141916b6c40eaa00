/- The walk of the law AsciiKnown: the examples, the limits, malformed texts. -/
import Derived.Test.YtkfhpajnlaomeaaV02b
import Derived.Lib.Repeat
namespace Go.Proofs.Ytkfhpajnlaomeaa.V02k
open Go.RowKit Go.Proofs.YtkfhpajnlaomeaaW.PrintWords Go.Proofs.YtkfhpajnlaomeaaW.PrintLast Go.Proofs.YtkfhpajnlaomeaaW.PrintMore
open Go.Proofs.Ytkfhpajnlaomeaa.K02 Go.Proofs.Ytkfhpajnlaomeaa.L02 Go.Proofs.Ytkfhpajnlaomeaa.V02 Go.Proofs.Ytkfhpajnlaomeaa.G02h
open Go.Proofs.Ytkfhpajnlaomeaa.G02r (unhex_call)
open Go.Proofs.Ytkfhpajnlaomeaa.G02w (unb85_call)
open Go.Proofs.Ytkfhpajnlaomeaa.G02v (tt_z0)
set_option linter.unusedVariables false
set_option maxRecDepth 100000
def rep (s : ByteArray) (n : Nat) : ByteArray := ⟨(Lib.repeatL s.data.toList n).toArray⟩
theorem rep_size (s : ByteArray) (n : Nat) : (rep s n).size = n * s.size := by
  show (Lib.repeatL s.data.toList n).toArray.size = _
  rw [List.size_toArray, Lib.repeatL_length]
  rfl
theorem rep_succ (s : ByteArray) (n : Nat) : bytesOf (rep s (n + 1)) = bytesOf s ++ bytesOf (rep s n) := by
  unfold bytesOf rep
  simp [Lib.repeatL]
theorem rep_one (c : UInt8) (n : Nat) : bytesOf (rep ⟨#[c]⟩ n) = List.replicate n (c.toNat : Int) := by
  induction n with
  | zero => rfl
  | succ n ih => rw [rep_succ, ih, List.replicate_succ]; rfl
theorem rep_call (s : ByteArray) (c : Nat) (w : World) (hlen : s.size * c ≤ 100000000) (hc : c ≤ 1000000) :
    Calls Try.prog 19 #[.string s, .int .i64 c] w fun e w' => e = .returned (.string (rep s c)) ∧ Below w.heap.size w w' :=
  Try.strings_Repeat s c w (by omega) (by omega)
theorem go_z (n : Nat) : ∀ (i : Nat) (out : List Int), go takeT (sol (List.replicate n 122) i) ⟨[], false, out⟩ = some ⟨[], false, out ++ List.replicate (4 * n) 0⟩ := by
  induction n with
  | zero => intro i out; simp [sol, go]
  | succ n ih =>
    intro i out
    rw [List.replicate_succ, sol_cons 122 _ _ (by decide), go, tt_z0 _ rfl (by simp)]
    simp only
    rw [ih, List.append_assoc, show 4 * (n + 1) = 4 + 4 * n by omega, ← List.replicate_append_replicate]
    rfl
theorem z_dec (n : Nat) (hn : n ≤ 60000) : unb85Res (rep ⟨#[122]⟩ n ++ ⟨#[126, 62]⟩) = fin (some (List.replicate (4 * n) 0, n + 2)) := by
  have hz : (rep ⟨#[122]⟩ n).size = n := (rep_size _ _).trans (Nat.mul_one n)
  have hz2 : (rep ⟨#[122]⟩ n ++ ⟨#[126, 62]⟩).size = n + 2 := by rw [ByteArray.size_append, hz]; rfl
  unfold unb85Res
  rw [if_neg (by omega), bytesOf_append, rep_one, sol_append]
  have hg := go_z n 0 []
  rw [show ((122 : UInt8).toNat : Int) = 122 from rfl, rd_go takeT _ _ _ _ hg]
  show fin ((K02.rd takeT (sol (126 :: 62 :: []) _) _).map _) = _
  rw [sol_cons 126 _ _ (by decide), sol_cons 62 _ _ (by decide)]
  have t1 : takeT ⟨[], false, [] ++ List.replicate (4 * n) 0⟩ 126 = some (⟨[], true, List.replicate (4 * n) 0⟩, false) := rfl
  have t2 : takeT ⟨[], true, List.replicate (4 * n) 0⟩ 62 = some (⟨[], true, List.replicate (4 * n) 0⟩, true) := rfl
  rw [K02.rd, t1]
  simp only
  rw [K02.rd, t2]
  simp only [Option.map_some, List.length_replicate, Nat.zero_add]
theorem z_full : ∃ x, unb85Res (rep ⟨#[122]⟩ 16384 ++ ⟨#[126, 62]⟩) = (x, 16386, 0) ∧ x.size = 65536 := by
  rw [z_dec 16384 (by decide)]
  refine ⟨strOfNums (List.replicate (4 * 16384) 0), ?_, ?_⟩
  · unfold fin
    simp only
    rw [if_neg (by rw [List.length_replicate]; decide)]
    rfl
  · rw [strOfNums_size, List.length_replicate]
theorem z_over : ∃ x n, unb85Res (rep ⟨#[122]⟩ 16385 ++ ⟨#[126, 62]⟩) = (x, n, 3) := by
  rw [z_dec 16385 (by decide)]
  unfold fin
  simp only
  rw [if_pos (by rw [List.length_replicate]; decide)]
  exact ⟨_, _, rfl⟩
theorem h_full : ∃ x, hexRes (rep ⟨#[120]⟩ 32767) = (x, 0) ∧ x.size = 65535 := by
  have hz : (rep ⟨#[120]⟩ 32767).size = 32767 := rep_size _ _
  refine ⟨_, hex_ok _ (by omega), ?_⟩
  have := hx_size (rep ⟨#[120]⟩ 32767)
  rw [hz] at this
  exact this
theorem h_over : hexRes (rep ⟨#[120]⟩ 32768) = (⟨#[]⟩, 3) := by
  have hz : (rep ⟨#[120]⟩ 32768).size = 32768 := rep_size _ _
  unfold hexRes bnd
  rw [if_neg (by omega), if_pos (by rw [List.length_append, hexL_length, bytesOf_len, hz]; decide)]
theorem u_long : ∃ x n, unhexRes (rep ⟨#[32]⟩ 65536 ++ ⟨#[62]⟩) = (x, n, 3) := by
  have hz : (rep ⟨#[32]⟩ 65536).size = 65536 := rep_size _ _
  have hz2 : (rep ⟨#[32]⟩ 65536 ++ ⟨#[62]⟩).size = 65537 := by rw [ByteArray.size_append, hz]; rfl
  unfold unhexRes
  rw [if_pos (by omega)]
  exact ⟨_, _, rfl⟩
theorem b_long : ∃ x, b85Res (rep ⟨#[120]⟩ 65537) = (x, 3) := by
  have hz : (rep ⟨#[120]⟩ 65537).size = 65537 := rep_size _ _
  unfold b85Res
  rw [if_pos (by omega)]
  exact ⟨_, rfl⟩
theorem k0 : unb85Res ⟨#[115, 56, 87, 45, 33, 126, 62]⟩ = (⟨#[255, 255, 255, 255]⟩, 7, 0) := by kernel_rfl
theorem k1 : unhexRes ⟨#[62]⟩ = (⟨#[]⟩, 1, 0) := by kernel_rfl
theorem k2 : unb85Res ⟨#[126, 62]⟩ = (⟨#[]⟩, 2, 0) := by kernel_rfl
theorem k3 : unb85Res ⟨#[115, 56, 126, 62]⟩ = (⟨#[]⟩, 0, 5) := by kernel_rfl
theorem k4 : unb85Res ⟨#[117, 117, 126, 62]⟩ = (⟨#[]⟩, 0, 5) := by kernel_rfl
theorem k5 : unb85Res ⟨#[118, 33, 126, 62]⟩ = (⟨#[]⟩, 0, 5) := by kernel_rfl
theorem k6 : unb85Res ⟨#[126, 33, 62]⟩ = (⟨#[]⟩, 0, 5) := by kernel_rfl
set_option maxHeartbeats 1000000 in
theorem known_walk (w : World) : Calls Try.prog 8 #[] w fun e w' => e = .returned (.bool true) ∧ Below w.heap.size w w' := by
  have r1 : ∀ W, Calls Try.prog 19 #[.string ⟨#[120]⟩, .int .i64 32767] W fun e w' => e = .returned (.string (rep ⟨#[120]⟩ 32767)) ∧ Below W.heap.size W w' := fun W => rep_call ⟨#[120]⟩ 32767 W (by show 1 * 32767 ≤ _; decide) (by decide)
  have r2 : ∀ W, Calls Try.prog 19 #[.string ⟨#[120]⟩, .int .i64 32768] W fun e w' => e = .returned (.string (rep ⟨#[120]⟩ 32768)) ∧ Below W.heap.size W w' := fun W => rep_call ⟨#[120]⟩ 32768 W (by show 1 * 32768 ≤ _; decide) (by decide)
  have r3 : ∀ W, Calls Try.prog 19 #[.string ⟨#[122]⟩, .int .i64 16384] W fun e w' => e = .returned (.string (rep ⟨#[122]⟩ 16384)) ∧ Below W.heap.size W w' := fun W => rep_call ⟨#[122]⟩ 16384 W (by show 1 * 16384 ≤ _; decide) (by decide)
  have r4 : ∀ W, Calls Try.prog 19 #[.string ⟨#[122]⟩, .int .i64 16385] W fun e w' => e = .returned (.string (rep ⟨#[122]⟩ 16385)) ∧ Below W.heap.size W w' := fun W => rep_call ⟨#[122]⟩ 16385 W (by show 1 * 16385 ≤ _; decide) (by decide)
  have r5 : ∀ W, Calls Try.prog 19 #[.string ⟨#[32]⟩, .int .i64 65536] W fun e w' => e = .returned (.string (rep ⟨#[32]⟩ 65536)) ∧ Below W.heap.size W w' := fun W => rep_call ⟨#[32]⟩ 65536 W (by show 1 * 65536 ≤ _; decide) (by decide)
  have r6 : ∀ W, Calls Try.prog 19 #[.string ⟨#[120]⟩, .int .i64 65537] W fun e w' => e = .returned (.string (rep ⟨#[120]⟩ 65537)) ∧ Below W.heap.size W w' := fun W => rep_call ⟨#[120]⟩ 65537 W (by show 1 * 65537 ≤ _; decide) (by decide)
  obtain ⟨x1, q1, hx1⟩ := h_full
  have q2 := h_over
  obtain ⟨x3, q3, hx3⟩ := z_full
  obtain ⟨x4, n4, q4⟩ := z_over
  obtain ⟨x5, n5, q5⟩ := u_long
  obtain ⟨x6, q6⟩ := b_long
  have z3 : (rep ⟨#[122]⟩ 16384).size = 16384 := rep_size _ _
  have z4 : (rep ⟨#[122]⟩ 16385).size = 16385 := rep_size _ _
  have z5 : (rep ⟨#[32]⟩ 65536).size = 65536 := rep_size _ _
  obtain ⟨s1, hs1⟩ : ∃ s, rep ⟨#[120]⟩ 32767 = s := ⟨_, rfl⟩
  obtain ⟨s2, hs2⟩ : ∃ s, rep ⟨#[120]⟩ 32768 = s := ⟨_, rfl⟩
  obtain ⟨s3, hs3⟩ : ∃ s, rep ⟨#[122]⟩ 16384 = s := ⟨_, rfl⟩
  obtain ⟨s4, hs4⟩ : ∃ s, rep ⟨#[122]⟩ 16385 = s := ⟨_, rfl⟩
  obtain ⟨s5, hs5⟩ : ∃ s, rep ⟨#[32]⟩ 65536 = s := ⟨_, rfl⟩
  obtain ⟨s6, hs6⟩ : ∃ s, rep ⟨#[120]⟩ 65537 = s := ⟨_, rfl⟩
  simp only [hs1] at r1 q1
  simp only [hs2] at r2 q2
  simp only [hs3] at r3 q3 z3
  simp only [hs4] at r4 q4 z4
  simp only [hs5] at r5 q5 z5
  simp only [hs6] at r6 q6
  have Q1 := Aside0.mk q1
  have R1 := Aside0.mk r1
  have Q2 := Aside0.mk q2
  have R2 := Aside0.mk r2
  have Q3 := Aside0.mk q3
  have R3 := Aside0.mk r3
  have Q4 := Aside0.mk q4
  have R4 := Aside0.mk r4
  have Q5 := Aside0.mk q5
  have R5 := Aside0.mk r5
  have Q6 := Aside0.mk q6
  have R6 := Aside0.mk r6
  clear q1 r1 hs1 q2 r2 hs2 q3 r3 hs3 q4 r4 hs4 q5 r5 hs5 q6 r6 hs6
  go_enter Try.func8, Try.ntmps8
  go_wp2_with fail
  refine (works_call _).mono ?_
  rintro e w0 ⟨rfl, hb0⟩
  have hc0 := hb0
  clear hb0
  go_wp2_with fail
  refine (R1.out _).mono ?_
  rintro e w1 ⟨rfl, hb1⟩
  have hc1 := below_step hc0 hb1
  clear hc0 hb1
  go_wp2_with fail
  refine (hex_call _ _ _ _ Q1.out).mono ?_
  rintro e w2 ⟨rfl, hb2⟩
  have hc2 := below_step hc1 hb2
  clear hc1 hb2
  go_wp2_with fail
  refine (R2.out _).mono ?_
  rintro e w3 ⟨rfl, hb3⟩
  have hc3 := below_step hc2 hb3
  clear hc2 hb3
  go_wp2_with fail
  refine (hex_call _ _ _ _ Q2.out).mono ?_
  rintro e w4 ⟨rfl, hb4⟩
  have hc4 := below_step hc3 hb4
  clear hc3 hb4
  go_wp2_with fail
  refine (R3.out _).mono ?_
  rintro e w5 ⟨rfl, hb5⟩
  have hc5 := below_step hc4 hb5
  clear hc4 hb5
  go_wp2_with fail
  refine (unb85_call _ _ _ _ _ Q3.out).mono ?_
  rintro e w6 ⟨rfl, hb6⟩
  have hc6 := below_step hc5 hb6
  clear hc5 hb6
  go_wp2_with fail
  refine (R4.out _).mono ?_
  rintro e w7 ⟨rfl, hb7⟩
  have hc7 := below_step hc6 hb7
  clear hc6 hb7
  go_wp2_with fail
  refine (unb85_call _ _ _ _ _ Q4.out).mono ?_
  rintro e w8 ⟨rfl, hb8⟩
  have hc8 := below_step hc7 hb8
  clear hc7 hb8
  go_wp2_with fail
  refine (R5.out _).mono ?_
  rintro e w9 ⟨rfl, hb9⟩
  have hc9 := below_step hc8 hb9
  clear hc8 hb9
  go_wp2_with fail
  refine (unhex_call _ _ _ _ _ Q5.out).mono ?_
  rintro e w10 ⟨rfl, hb10⟩
  have hc10 := below_step hc9 hb10
  clear hc9 hb10
  go_wp2_with fail
  refine (R6.out _).mono ?_
  rintro e w11 ⟨rfl, hb11⟩
  have hc11 := below_step hc10 hb11
  clear hc10 hb11
  go_wp2_with fail
  refine (b85_call _ _ _ _ Q6.out).mono ?_
  rintro e w12 ⟨rfl, hb12⟩
  have hc12 := below_step hc11 hb12
  clear hc11 hb12
  go_wp2_with fail
  refine (unb85_call _ _ _ _ _ k0).mono ?_
  rintro e w13 ⟨rfl, hb13⟩
  have hc13 := below_step hc12 hb13
  clear hc12 hb13
  go_wp2_with fail
  refine (unhex_call _ _ _ _ _ k1).mono ?_
  rintro e w14 ⟨rfl, hb14⟩
  have hc14 := below_step hc13 hb14
  clear hc13 hb14
  go_wp2_with fail
  refine (unb85_call _ _ _ _ _ k2).mono ?_
  rintro e w15 ⟨rfl, hb15⟩
  have hc15 := below_step hc14 hb15
  clear hc14 hb15
  go_wp2_with fail
  refine (unb85_call _ _ _ _ _ k3).mono ?_
  rintro e w16 ⟨rfl, hb16⟩
  have hc16 := below_step hc15 hb16
  clear hc15 hb16
  go_wp2_with fail
  refine (unb85_call _ _ _ _ _ k4).mono ?_
  rintro e w17 ⟨rfl, hb17⟩
  have hc17 := below_step hc16 hb17
  clear hc16 hb17
  go_wp2_with fail
  refine (unb85_call _ _ _ _ _ k5).mono ?_
  rintro e w18 ⟨rfl, hb18⟩
  have hc18 := below_step hc17 hb18
  clear hc17 hb18
  go_wp2_with fail
  refine (unb85_call _ _ _ _ _ k6).mono ?_
  rintro e w19 ⟨rfl, hb19⟩
  have hc19 := below_step hc18 hb19
  clear hc18 hb19
  go_wp2_with fail
  refine (works_call _).mono ?_
  rintro e w20 ⟨rfl, hb20⟩
  have hc20 := below_step hc19 hb20
  clear hc19 hb20
  go_wp2_with fail
  go_ret
  exact ⟨rfl, hc20⟩
end Go.Proofs.Ytkfhpajnlaomeaa.V02k
