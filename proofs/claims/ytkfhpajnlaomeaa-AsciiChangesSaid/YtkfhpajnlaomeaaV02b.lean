/- The laws AsciiBack and AsciiJoins, walked. -/
import Derived.Test.YtkfhpajnlaomeaaL02
namespace Go.Proofs.Ytkfhpajnlaomeaa.V02b
open Go.RowKit Go.Proofs.YtkfhpajnlaomeaaW.PrintWords Go.Proofs.YtkfhpajnlaomeaaW.PrintLast Go.Proofs.YtkfhpajnlaomeaaW.PrintMore
open Go.Proofs.Ytkfhpajnlaomeaa.K02 Go.Proofs.Ytkfhpajnlaomeaa.L02 Go.Proofs.Ytkfhpajnlaomeaa.V02
open Go.Proofs.Ytkfhpajnlaomeaa.G02r (unhex_call)
open Go.Proofs.Ytkfhpajnlaomeaa.G02w (unb85_call)
set_option linter.unusedVariables false
set_option maxRecDepth 100000
theorem cut (m : Nat) (s : ByteArray) : ∃ n : Nat, min (s.size : Int) (m : Int) = (n : Int) ∧ n ≤ s.size ∧ n ≤ m := ⟨min s.size m, by omega, by omega, by omega⟩
set_option maxHeartbeats 1000000 in
theorem back_walk (a0 a1 : ByteArray) (w0 : a0.size ≤ 140737488351232) (w1 : a1.size ≤ 140737488351232) (w : World) :
    Calls Try.prog 6 #[.string a0, .string a1] w fun e w' => e = .returned (.bool true) ∧ Below w.heap.size w w' := by
  obtain ⟨n, hn, hn1, hn2⟩ := cut 200 a0
  obtain ⟨m, hm, hm1, hm2⟩ := cut 50 a1
  simp only [Int.cast_ofNat_Int] at hn hm
  have hs : (a0.extract 0 n).size = n := by rw [ByteArray.size_extract]; omega
  have hmo : (a1.extract 0 m).size = m := by rw [ByteArray.size_extract]; omega
  obtain ⟨s, hse⟩ : ∃ s, a0.extract 0 n = s := ⟨_, rfl⟩
  obtain ⟨o, hoe⟩ : ∃ o, a1.extract 0 m = o := ⟨_, rfl⟩
  rw [hse] at hs
  rw [hoe] at hmo
  have HX := hex_ok s (by omega)
  change hexRes s = (hx s, 0) at HX
  have HY := b85_ok s (by omega)
  have HU := hex_back s o (by omega) (by omega)
  have HV := b85_back s o (by omega) (by omega)
  have HP := fun i hi => hex_part s i (by omega) hi
  have HQ := fun i hi => b85_part s i (by omega) hi
  have zx := hx_size s
  have zy := bx_le s
  obtain ⟨x, hxe⟩ : ∃ x, hx s = x := ⟨_, rfl⟩
  obtain ⟨y, hye⟩ : ∃ y, bx s = y := ⟨_, rfl⟩
  simp only [hxe] at HX HU HP zx
  simp only [hye] at HY HV HQ zy
  have t1 : ((x.size : Int) != 2 * (s.size : Int) + 1) = false := by simp; omega
  have bx1 : x.size ≤ 401 := by omega
  have by1 : y.size ≤ 1002 := by omega
  have bo1 : o.size ≤ 50 := by omega
  have bs1 : s.size ≤ 200 := by omega
  have AX := Aside0.mk HX
  have AY := Aside0.mk HY
  have AU := Aside0.mk HU
  have AV := Aside0.mk HV
  have AP := Aside0.mk HP
  have AQ := Aside0.mk HQ
  clear HX HY HU HV HP HQ zx zy hxe hye hs hmo
  go_enter Try.func6, Try.ntmps6
  go_wp2_with fail
  refine (works_call _).mono ?_
  rintro e W1 ⟨rfl, hb1⟩
  go_wp2_with fail
  go_quiet (fail)
  clear hn hm hse hoe
  have c1 := pw_below_drewN hb1 nq
  clear hb1
  go_wp2_with fail
  refine (hex_call _ _ _ _ AX.out).mono ?_
  rintro e W2 ⟨rfl, hb2⟩
  have c2 := below_step c1 hb2
  clear c1 hb2
  go_wp2_with fail
  refine (b85_call _ _ _ _ AY.out).mono ?_
  rintro e W3 ⟨rfl, hb3⟩
  have c3 := below_step c2 hb3
  clear c2 hb3
  go_wp2_with fail
  refine (unhex_call _ _ _ _ _ AU.out).mono ?_
  rintro e W4 ⟨rfl, hb4⟩
  have c4 := below_step c3 hb4
  clear c3 hb4
  go_wp2_with fail
  refine (unb85_call _ _ _ _ _ AV.out).mono ?_
  rintro e W5 ⟨rfl, hb5⟩
  have c5 := below_step c4 hb5
  clear c4 hb5
  go_wp2_with fail
  go_loopw [108] (fun v wr => ∃ i : Nat, v = .int .i64 i ∧ i ≤ x.size ∧ Aside0 (Below w.heap.size w wr)) (fun v _ => x.size - (intOf v).toNat)
  case atStart => exact ⟨0, rfl, Nat.zero_le _, ⟨c5⟩⟩
  case round =>
    obtain ⟨i, rfl, hi, HB⟩ := hrel
    by_cases h1 : i < x.size
    · have hpi := Aside0.mk (AP.out i h1)
      go_wp2_with fail
      refine (unhex_call _ _ _ _ _ hpi.out).mono ?_
      rintro e W6 ⟨rfl, hb6⟩
      have c6 := below_step HB.out hb6
      go_wp2_with fail
      exact ⟨⟨i + 1, by go_num, by omega, ⟨c6⟩⟩, by simp [intOf]; omega⟩
    · go_wp2_with fail
      go_loopw [124] (fun v wr => ∃ i : Nat, v = .int .i64 i ∧ i ≤ y.size ∧ Aside0 (Below w.heap.size w wr)) (fun v _ => y.size - (intOf v).toNat)
      case atStart => exact ⟨0, rfl, Nat.zero_le _, HB⟩
      case round =>
        obtain ⟨j, rfl, hj, HB⟩ := hrel
        by_cases h2 : j < y.size
        · have hpj := Aside0.mk (AQ.out j h2)
          go_wp2_with fail
          refine (unb85_call _ _ _ _ _ hpj.out).mono ?_
          rintro e W6 ⟨rfl, hb6⟩
          have c6 := below_step HB.out hb6
          go_wp2_with fail
          exact ⟨⟨j + 1, by go_num, by omega, ⟨c6⟩⟩, by simp [intOf]; omega⟩
        · go_wp2_with fail
          go_ret
          exact ⟨rfl, HB.out⟩
end Go.Proofs.Ytkfhpajnlaomeaa.V02b
