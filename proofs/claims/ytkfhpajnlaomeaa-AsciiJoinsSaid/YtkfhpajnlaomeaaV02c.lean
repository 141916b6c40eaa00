/- The law AsciiJoins, walked. -/
import Derived.Test.YtkfhpajnlaomeaaV02b
namespace Go.Proofs.Ytkfhpajnlaomeaa.V02c
open Go.RowKit Go.Proofs.YtkfhpajnlaomeaaW.PrintWords Go.Proofs.YtkfhpajnlaomeaaW.PrintLast Go.Proofs.YtkfhpajnlaomeaaW.PrintMore
open Go.Proofs.Ytkfhpajnlaomeaa.K02 Go.Proofs.Ytkfhpajnlaomeaa.L02 Go.Proofs.Ytkfhpajnlaomeaa.V02 Go.Proofs.Ytkfhpajnlaomeaa.V02b Go.Proofs.Ytkfhpajnlaomeaa.G02h
open Go.Proofs.Ytkfhpajnlaomeaa.G02r (unhex_call)
open Go.Proofs.Ytkfhpajnlaomeaa.G02w (unb85_call)
set_option linter.unusedVariables false
set_option maxRecDepth 100000
theorem hexL_append (a b : List Int) : hexL (a ++ b) = hexL a ++ hexL b := by unfold hexL; rw [List.flatMap_append]
theorem hx_join (s t : ByteArray) : hx (s ++ t) = (hx s).extract 0 ((hx s).size - 1) ++ hx t := by
  apply bytesOf_inj
  rw [bytesOf_append, bytesOf_extract, hx_bytes, hx_bytes, hx_bytes, bytesOf_append, hexL_append, List.drop_zero, Nat.sub_zero, hx_size, List.take_append_of_le_length (by rw [hexL_length, bytesOf_len]; omega), List.take_of_length_le (by rw [hexL_length, bytesOf_len]; omega), List.append_assoc]
theorem bx_join (s t : ByteArray) (h : s.size % 4 = 0) : bx (s ++ t) = (bx s).extract 0 ((bx s).size - 2) ++ bx t := by
  apply bytesOf_inj
  have e : b85 ((s ++ t).size + 1) (bytesOf s ++ bytesOf t) = b85 (s.size + 1) (bytesOf s) ++ b85 (t.size + 1) (bytesOf t) := by
    have := b85_append (s.size + 1) (bytesOf s) (bytesOf t) (by rw [bytesOf_len]; omega) (by rw [bytesOf_len]; exact h)
    rw [bytesOf_len] at this
    rw [← this]
    exact b85_fuel _ _ _ (by rw [List.length_append, bytesOf_len, bytesOf_len, ByteArray.size_append]; omega) (by rw [List.length_append, bytesOf_len, bytesOf_len]; omega)
  rw [bytesOf_append, bytesOf_extract, bx_bytes, bx_bytes, bx_bytes, bytesOf_append, e, List.drop_zero, Nat.sub_zero, bx_size, Nat.add_sub_cancel, List.take_left, List.append_assoc]
set_option maxHeartbeats 1000000 in
theorem joins_walk (a0 a1 : ByteArray) (w0 : a0.size ≤ 140737488351232) (w1 : a1.size ≤ 140737488351232) (w : World) :
    Calls Try.prog 7 #[.string a0, .string a1] w fun e w' => e = .returned (.bool true) ∧ Below w.heap.size w w' := by
  obtain ⟨n, hn, hn1, hn2⟩ := cut 100 a0
  obtain ⟨m, hm, hm1, hm2⟩ := cut 100 a1
  simp only [Int.cast_ofNat_Int] at hn hm
  have hs : (a0.extract 0 n).size = n := by rw [ByteArray.size_extract]; omega
  have hmo : (a1.extract 0 m).size = m := by rw [ByteArray.size_extract]; omega
  obtain ⟨s0, hse⟩ : ∃ s, a0.extract 0 n = s := ⟨_, rfl⟩
  obtain ⟨t, hoe⟩ : ∃ o, a1.extract 0 m = o := ⟨_, rfl⟩
  rw [hse] at hs
  rw [hoe] at hmo
  have hq1 : n / 4 * 4 ≤ s0.size ∧ n / 4 * 4 % 4 = 0 := by omega
  have hs2 : (s0.extract 0 (n / 4 * 4)).size = n / 4 * 4 := by rw [ByteArray.size_extract]; omega
  obtain ⟨s, hse2⟩ : ∃ s, s0.extract 0 (n / 4 * 4) = s := ⟨_, rfl⟩
  rw [hse2] at hs2
  have hst : (s ++ t).size = s.size + t.size := ByteArray.size_append
  have bs0 : s0.size ≤ 100 := by omega
  have bt0 : t.size ≤ 100 := by omega
  have bs1 : s.size ≤ 100 := by omega
  have AX := Aside0.mk (hex_ok s (by omega))
  have AY := Aside0.mk (hex_ok t (by omega))
  have AZ := Aside0.mk (hex_ok (s ++ t) (by omega))
  have BX := Aside0.mk (b85_ok s (by omega))
  have BY := Aside0.mk (b85_ok t (by omega))
  have BZ := Aside0.mk (b85_ok (s ++ t) (by omega))
  change Aside0 (hexRes s = (hx s, 0)) at AX
  change Aside0 (hexRes t = (hx t, 0)) at AY
  change Aside0 (hexRes (s ++ t) = (hx (s ++ t), 0)) at AZ
  rw [hx_join] at AZ
  rw [bx_join s t (by omega)] at BZ
  have z1 := hx_size s
  have z2 := hx_size t
  have z3 := bx_le s
  have z4 := bx_le t
  have z5 := bx_size s
  obtain ⟨a, ha⟩ : ∃ x, hx s = x := ⟨_, rfl⟩
  obtain ⟨b, hb⟩ : ∃ x, hx t = x := ⟨_, rfl⟩
  obtain ⟨x, hx'⟩ : ∃ x, bx s = x := ⟨_, rfl⟩
  obtain ⟨y, hy'⟩ : ∃ x, bx t = x := ⟨_, rfl⟩
  rw [ha] at AX z1
  rw [hb] at AY z2
  rw [ha, hb] at AZ
  rw [hx'] at BX z3 z5
  rw [hy'] at BY z4
  rw [hx', hy'] at BZ
  have k1 : 1 ≤ a.size ∧ a.size ≤ 500 := by omega
  have k2 : 2 ≤ x.size ∧ x.size ≤ 1000 := by omega
  have k3 : b.size ≤ 500 := by omega
  have k4 : y.size ≤ 1000 := by omega
  have t1 : decide ((a.size : Int) < 1) = false := decide_eq_false (by omega)
  have t2 : decide ((x.size : Int) < 2) = false := decide_eq_false (by omega)
  clear z1 z2 z3 z4 z5 ha hb hx' hy'
  go_enter Try.func7, Try.ntmps7
  go_wp2_with fail
  refine (works_call _).mono ?_
  rintro e W1 ⟨rfl, hb1⟩
  go_wp2_with fail
  go_quiet (fail)
  clear hn hm hse hoe
  have c1 := pw_below_drewN hb1 nq
  clear hb1
  go_wp2_with fail
  simp only [hse2]
  clear hse2 hs hmo hs2 hst hq1
  refine (hex_call _ _ _ _ AX.out).mono ?_
  rintro e W2 ⟨rfl, hb2⟩
  have c2 := below_step c1 hb2
  clear c1 hb2
  go_wp2_with fail
  refine (hex_call _ _ _ _ AY.out).mono ?_
  rintro e W3 ⟨rfl, hb3⟩
  have c3 := below_step c2 hb3
  clear c2 hb3
  go_wp2_with fail
  refine (hex_call _ _ _ _ AZ.out).mono ?_
  rintro e W4 ⟨rfl, hb4⟩
  have c4 := below_step c3 hb4
  clear c3 hb4
  go_wp2_with fail
  refine (b85_call _ _ _ _ BX.out).mono ?_
  rintro e W5 ⟨rfl, hb5⟩
  have c5 := below_step c4 hb5
  clear c4 hb5
  go_wp2_with fail
  refine (b85_call _ _ _ _ BY.out).mono ?_
  rintro e W6 ⟨rfl, hb6⟩
  have c6 := below_step c5 hb6
  clear c5 hb6
  go_wp2_with fail
  refine (b85_call _ _ _ _ BZ.out).mono ?_
  rintro e W7 ⟨rfl, hb7⟩
  have c7 := below_step c6 hb7
  clear c6 hb7
  obtain ⟨p, hp⟩ : ∃ p : Nat, (a.size : Int) - 1 = (p : Int) := ⟨a.size - 1, by omega⟩
  obtain ⟨r, hr⟩ : ∃ r : Nat, (x.size : Int) - 2 = (r : Int) := ⟨x.size - 2, by omega⟩
  have hp2 : a.size - 1 = p := by omega
  have hr2 : x.size - 2 = r := by omega
  have hp3 : (p : Int) ≤ (a.size : Int) := by omega
  have hr3 : (r : Int) ≤ (x.size : Int) := by omega
  go_wp2_with fail
  go_ret
  exact ⟨rfl, c7⟩
end Go.Proofs.Ytkfhpajnlaomeaa.V02c
