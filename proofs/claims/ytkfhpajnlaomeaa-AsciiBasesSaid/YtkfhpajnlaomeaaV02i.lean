/- The law AsciiBases, walked. -/
import Derived.Test.YtkfhpajnlaomeaaV02b
import Derived.Test.YtkfhpajnlaomeaaV02h
import Derived.Test.YtkfhpajnlaomeaaR02d
namespace Go.Proofs.Ytkfhpajnlaomeaa.V02i
open Go.RowKit Go.Proofs.YtkfhpajnlaomeaaW.PrintWords Go.Proofs.YtkfhpajnlaomeaaW.PrintLast Go.Proofs.YtkfhpajnlaomeaaW.PrintMore
open Go.Proofs.Ytkfhpajnlaomeaa.K02 Go.Proofs.Ytkfhpajnlaomeaa.V02 Go.Proofs.Ytkfhpajnlaomeaa.R02 Go.Proofs.Ytkfhpajnlaomeaa.P02
open Go.Proofs.Ytkfhpajnlaomeaa.V02b (cut)
open Go.Proofs.Ytkfhpajnlaomeaa.V02h (wf8 long_some)
open Go.Proofs.Ytkfhpajnlaomeaa.R02c (ref_b85)
open Go.Proofs.Ytkfhpajnlaomeaa.R02d (ref_unb85)
open Go.Proofs.Ytkfhpajnlaomeaa.G02r (unhex_call)
open Go.Proofs.Ytkfhpajnlaomeaa.G02w (unb85_call)
set_option linter.unusedVariables false
set_option maxRecDepth 100000
set_option maxHeartbeats 2000000 in
theorem bases_walk (a0 : ByteArray) (a1 : Int) (w0 : a0.size ≤ 140737488351232) (w1 : (Lit.int .u8 a1).wf = true) (w : World) :
    Calls Try.prog 4 #[.string a0, .int .u8 a1] w fun e w' => e = .returned (.bool true) ∧ Below w.heap.size w w' := by
  obtain ⟨hc0, hc1⟩ := wf8 w1
  obtain ⟨n, hn, hn1, hn2⟩ := cut 70000 a0
  obtain ⟨m, hm, hm1, hm2⟩ := cut 100 a0
  simp only [Int.cast_ofNat_Int] at hn hm
  have hn' : (if (70000 : Int) < (a0.size : Int) then (70000 : Int) else (a0.size : Int)) = (n : Int) := by split <;> omega
  have hm' : (if (100 : Int) < (a0.size : Int) then (100 : Int) else (a0.size : Int)) = (m : Int) := by split <;> omega
  have hs : (a0.extract 0 n).size = n := by rw [ByteArray.size_extract]; omega
  have hmo : (a0.extract 0 m).size = m := by rw [ByteArray.size_extract]; omega
  obtain ⟨s, hse⟩ : ∃ s, a0.extract 0 n = s := ⟨_, rfl⟩
  obtain ⟨o, hoe⟩ : ∃ o, a0.extract 0 m = o := ⟨_, rfl⟩
  rw [hse] at hs
  rw [hoe] at hmo
  obtain ⟨A, hA, hcall⟩ := long_some o a1 hc0 (by omega)
  have LC := Aside0.mk hcall
  have hs2 : s.size ≤ 70000 := by omega
  have HS := Aside0.mk hs2
  have HA := Aside0.mk hA
  clear hcall hs hmo hs2 hA
  go_enter Try.func4, Try.ntmps4
  go_wp2_with fail
  refine (works_call _).mono ?_
  rintro e W1 ⟨rfl, hb1⟩
  go_wp2_with fail
  have hmix : Try.prog.follows .mixedOrders = true := by kernel_rfl
  go_region_with (refine (LC.out _).mono ?_; rintro e W2 ⟨rfl, hb2⟩)
  all_goals have c2 : Below w.heap.size w W2 := below_step hb1.drew hb2
  all_goals clear hb1 hb2 hmix hn hm hn' hm' hse hoe
  all_goals
    have i0 : ∀ w, (Instr.index 24 (.agg #[.string s, .string A]) (.int .i64 0)).run Try.prog w = .ok (.string s) w := fun _ => by kernel_rfl
    have i1 : ∀ w, (Instr.index 24 (.agg #[.string s, .string A]) (.int .i64 1)).run Try.prog w = .ok (.string A) w := fun _ => by kernel_rfl
    go_wp2_with fail
    try (conv in Act.put _ _ _ => simp [Act.put])
    go_loopw [32] (fun v wr => (v = .int .i64 0 ∨ v = .int .i64 1 ∨ v = .int .i64 2) ∧ Aside0 (Below w.heap.size w wr)) (fun v _ => 2 - (intOf v).toNat)
    case atStart => exact ⟨.inl rfl, ⟨c2⟩⟩
    case round =>
      obtain ⟨hk, HB⟩ := hrel
      rcases hk with rfl | rfl | rfl
      · obtain ⟨k, hr⟩ := ref_b85 s 
        obtain ⟨a, e, hx⟩ : ∃ a e, b85Res s = (a, e) := ⟨_, _, rfl⟩
        obtain ⟨k2, ur⟩ := ref_unb85 s
        obtain ⟨c, p, g, ux⟩ : ∃ c p g, unb85Res s = (c, p, g) := ⟨_, _, _, rfl⟩
        rw [hx] at hr
        rw [ux] at ur
        have HX := Aside0.mk hx
        have HR := Aside0.mk hr
        have UX := Aside0.mk ux
        have UR := Aside0.mk ur
        clear hx hr ux ur
        have t1 : (a.toList != a.toList) = false := by simp
        have t2 : (e != e) = false := by simp
        have t3 : (c.toList != c.toList) = false := by simp
        have t4 : (p != p) = false := by simp
        have t5 : (g != g) = false := by simp
        go_wp2_with fail
        refine (b85_call _ _ _ _ HX.out).mono ?_
        rintro e' w2 ⟨rfl, hb1⟩
        go_wp2_with fail
        refine (P02.chaseref02_Base85.calls _ _ _ _ _ HR.out).mono ?_
        rintro e' w3 ⟨rfl, hb2⟩
        go_wp2_with fail
        refine (unb85_call _ _ _ _ _ UX.out).mono ?_
        rintro e' w4 ⟨rfl, hb3⟩
        go_wp2_with fail
        refine (P02.chaseref02_Unbase85.calls _ _ _ _ _ _ UR.out).mono ?_
        rintro e' w5 ⟨rfl, hb4⟩
        go_wp2_with fail
        exact ⟨⟨by simp, ⟨below_step (below_step (below_step (below_step HB.out hb1) hb2) hb3) hb4⟩⟩, by decide⟩
      · obtain ⟨k, hr⟩ := ref_b85 A 
        obtain ⟨a, e, hx⟩ : ∃ a e, b85Res A = (a, e) := ⟨_, _, rfl⟩
        obtain ⟨k2, ur⟩ := ref_unb85 A
        obtain ⟨c, p, g, ux⟩ : ∃ c p g, unb85Res A = (c, p, g) := ⟨_, _, _, rfl⟩
        rw [hx] at hr
        rw [ux] at ur
        have HX := Aside0.mk hx
        have HR := Aside0.mk hr
        have UX := Aside0.mk ux
        have UR := Aside0.mk ur
        clear hx hr ux ur
        have t1 : (a.toList != a.toList) = false := by simp
        have t2 : (e != e) = false := by simp
        have t3 : (c.toList != c.toList) = false := by simp
        have t4 : (p != p) = false := by simp
        have t5 : (g != g) = false := by simp
        go_wp2_with fail
        refine (b85_call _ _ _ _ HX.out).mono ?_
        rintro e' w2 ⟨rfl, hb1⟩
        go_wp2_with fail
        refine (P02.chaseref02_Base85.calls _ _ _ _ _ HR.out).mono ?_
        rintro e' w3 ⟨rfl, hb2⟩
        go_wp2_with fail
        refine (unb85_call _ _ _ _ _ UX.out).mono ?_
        rintro e' w4 ⟨rfl, hb3⟩
        go_wp2_with fail
        refine (P02.chaseref02_Unbase85.calls _ _ _ _ _ _ UR.out).mono ?_
        rintro e' w5 ⟨rfl, hb4⟩
        go_wp2_with fail
        exact ⟨⟨by simp, ⟨below_step (below_step (below_step (below_step HB.out hb1) hb2) hb3) hb4⟩⟩, by decide⟩
      · go_wp2_with fail
        go_ret
        exact ⟨rfl, HB.out⟩
end Go.Proofs.Ytkfhpajnlaomeaa.V02i
