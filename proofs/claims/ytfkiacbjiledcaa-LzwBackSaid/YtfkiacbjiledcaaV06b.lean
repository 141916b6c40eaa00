/- The stage's theorem about codes of variable width, walked (chapter 06). -/
import Derived.Test.YtfkiacbjiledcaaV06
import Derived.Test.YtfkiacbjiledcaaD06
import Derived.Test.YtfkiacbjiledcaaL06c
namespace Go.Proofs.Ytfkiacbjiledcaa.V06b
open Go.RowKit Go.Proofs.YtfkiacbjiledcaaW.PrintWords Go.Proofs.YtfkiacbjiledcaaW.PrintLast Go.Proofs.YtfkiacbjiledcaaW.PrintMore
open Go.Proofs.Ytfkiacbjiledcaa.K06 Go.Proofs.Ytfkiacbjiledcaa.D06 Go.Proofs.Ytfkiacbjiledcaa.L06c Go.Proofs.Ytfkiacbjiledcaa.V06
open Go.Proofs.Ytfkiacbjiledcaa.G06x (enc_call)
open Go.Proofs.Ytfkiacbjiledcaa.G06d (dec_call)
set_option linter.unusedVariables false
set_option maxRecDepth 100000
theorem cut (m : Nat) (s : ByteArray) : ∃ n : Nat, (if (m:Int) < (s.size:Int) then (m:Int) else (s.size:Int)) = (n:Int) ∧ n ≤ s.size ∧ n ≤ m := by
  by_cases h : (m:Int) < (s.size:Int)
  · exact ⟨m, by rw [if_pos h], by omega, Nat.le_refl _⟩
  · exact ⟨s.size, by rw [if_neg h], Nat.le_refl _, by omega⟩
theorem Pairs.below {w w1 : World} {A : Option Addr} {n : Nat} {ps : List (Int × Int)} (h : Pairs w A n ps) (hb : Below w.heap.size w w1) : Pairs w1 A n ps := by
  refine ⟨h.1, fun j hj => ?_⟩
  obtain ⟨ad, e, h1, h2, h3⟩ := h.2 j hj
  exact ⟨ad, e, pw_cell_below hb h1, pw_cell_below hb h2, h3⟩
theorem draft_size {w : World} {A : Option Addr} {n : Nat} {ps : List (Int × Int)} (h : Pairs w A n ps) : (strOfNums (draftL ps)).size ≤ 12800 := by
  have h1 : (draftL ps).length ≤ 256 * (ps.take 50).length := flat_rep _ (fun p hp => by
    obtain ⟨i, hi, rfl⟩ := List.getElem_of_mem (List.mem_of_mem_take hp)
    obtain ⟨_, _, _, _, h4, _⟩ := h.2 i hi
    exact h4.2)
  have h2 : (strOfNums (draftL ps)).size = (draftL ps).length := by
    unfold strOfNums
    simp [ByteArray.size]
  rw [List.length_take] at h1
  omega
set_option maxHeartbeats 1000000 in
theorem back_walk (a0 : Option Addr) (len0 cap0 : Nat) (z0 : List (Int × Int)) (a1 : ByteArray) (w : World) (w0 : Pairs w a0 len0 z0) (y0 : len0 ≤ 9223372036854775807) (w1 : a1.size ≤ 140737488351232) :
    Calls Try.prog 6 #[.slice a0 len0 cap0, .string a1] w fun e w' => e = .returned (.bool true) ∧ Below w.heap.size w w' := by
  have s0 := draft_size w0
  have d0 := fun W (hb : Below w.heap.size w W) => draft_walk a0 len0 cap0 z0 W (Pairs.below w0 hb) y0
  obtain ⟨A, hA⟩ : ∃ A, strOfNums (draftL z0) = A := ⟨_, rfl⟩
  rw [hA] at s0
  simp only [hA] at d0
  have eA := enc_ok A (by omega)
  have zA := code_le A (by omega)
  have zB := code_pos A (by omega)
  have hj := fun more (h : more.size ≤ 50) => dec_back A more (by omega) h
  have hp := fun i hi => dec_part A i (by omega) hi
  obtain ⟨x, hx⟩ : ∃ x, code A = x := ⟨_, rfl⟩
  rw [hx] at eA zA zB
  simp only [hx] at hj hp
  have D0 := Aside0.mk d0
  have EA := Aside0.mk eA
  have HJ := Aside0.mk hj
  have HP := Aside0.mk hp
  have x1 : 1 ≤ x.size := by omega
  have x2 : x.size ≤ 30000 := by omega
  clear d0 eA hj hp zA zB w0 hA hx
  obtain ⟨n, hn, hn1, hn2⟩ := cut 50 a1
  simp only [Int.cast_ofNat_Int] at hn
  obtain ⟨m, hm, hm1, hm2⟩ := cut 200 x
  simp only [Int.cast_ofNat_Int] at hm
  go_enter Try.func6, Try.ntmps6
  go_wp2_with fail
  refine (works_call _).mono ?_
  rintro e W1 ⟨rfl, hb1⟩
  go_wp2_with fail
  have hmix : Try.prog.follows .mixedOrders = true := by kernel_rfl
  go_region_with (refine (D0.out _ hb1.drew).mono ?_; rintro e W2 ⟨rfl, hb2⟩)
  all_goals have c2 : Below w.heap.size w W2 := below_step hb1.drew hb2
  all_goals clear hb1 hb2 hmix
  all_goals have hs : (a1.extract 0 n).size = n := by rw [ByteArray.size_extract]; omega
  all_goals obtain ⟨s, hse⟩ : ∃ s, a1.extract 0 n = s := ⟨_, rfl⟩
  all_goals rw [hse] at hs ⊢
  all_goals go_wp2_with fail
  all_goals refine (enc_call _ _ _ _ EA.out).mono ?_
  all_goals rintro e W3 ⟨rfl, hb3⟩
  all_goals have c3 := below_step c2 hb3
  all_goals clear c2 hb3
  all_goals have hjs := Aside0.mk (HJ.out s (by omega))
  all_goals go_wp2_with fail
  all_goals refine (dec_call _ _ _ _ _ hjs.out).mono ?_
  all_goals rintro e W4 ⟨rfl, hb4⟩
  all_goals have c4 := below_step c3 hb4
  all_goals clear c3 hb4 hjs
  all_goals go_wp2_with fail
  all_goals
    go_loopw [57] (fun v wr => ∃ i : Nat, v = .int .i64 i ∧ i ≤ m ∧ Aside0 (Below w.heap.size w wr)) (fun v _ => m - (intOf v).toNat)
    case atStart => exact ⟨0, rfl, Nat.zero_le _, ⟨c4⟩⟩
    case round =>
      obtain ⟨i, rfl, hi, HB⟩ := hrel
      by_cases h1 : i < m
      · have hpi := Aside0.mk (HP.out i (by omega))
        have h1x : (i : Int) ≤ (x.size : Int) := by omega
        go_wp2_with fail
        refine (dec_call _ _ _ _ _ hpi.out).mono ?_
        rintro e W5 ⟨rfl, hb5⟩
        have c5 := below_step HB.out hb5
        go_wp2_with fail
        exact ⟨⟨i + 1, by go_num, by omega, ⟨c5⟩⟩, by simp [intOf]; omega⟩
      · go_wp2_with fail
        go_ret
        exact ⟨rfl, HB.out⟩
end Go.Proofs.Ytfkiacbjiledcaa.V06b
