/- The law AsciiHexes, walked. -/
import Derived.Test.YtkfhpajnlaomeaaV02b
import Derived.Test.YtkfhpajnlaomeaaR02
namespace Go.Proofs.Ytkfhpajnlaomeaa.V02h
open Go.RowKit Go.Proofs.YtkfhpajnlaomeaaW.PrintWords Go.Proofs.YtkfhpajnlaomeaaW.PrintLast Go.Proofs.YtkfhpajnlaomeaaW.PrintMore
open Go.Proofs.Ytkfhpajnlaomeaa.K02 Go.Proofs.Ytkfhpajnlaomeaa.V02 Go.Proofs.Ytkfhpajnlaomeaa.R02 Go.Proofs.Ytkfhpajnlaomeaa.P02
open Go.Proofs.Ytkfhpajnlaomeaa.V02b (cut)
open Go.Proofs.Ytkfhpajnlaomeaa.G02r (unhex_call)
open Go.Proofs.Ytkfhpajnlaomeaa.G02w (unb85_call)
set_option linter.unusedVariables false
set_option maxRecDepth 100000
theorem wf8 {a : Int} (h : (Lit.int .u8 a).wf = true) : 0 ≤ a ∧ a ≤ 255 := by
  simp only [Lit.wf, Bool.and_eq_true, decide_eq_true_eq] at h
  exact h
theorem long_loop (t : Int) (ht : t < 16) : ∀ (n : Nat) (x : ByteArray) (i : Int), 0 ≤ i → t - i ≤ n → x.size ≤ 80000 → ∃ r, chaselaw02_long.l0 (n + 1) x t i = some r ∧ r.size ≤ 80000 := by
  intro n
  induction n with
  | zero =>
    intro x i h0 h hx
    exact ⟨x, by rw [chaselaw02_long.l0, if_neg (by omega)], hx⟩
  | succ n ih =>
    intro x i h0 h hx
    by_cases hi : i < t
    · by_cases hb : (x.size : Int) > 40000
      · exact ⟨x, by rw [chaselaw02_long.l0, if_pos hi, if_pos hb], hx⟩
      · have hz : (x ++ x).size = x.size + x.size := ByteArray.size_append
        obtain ⟨r, h1, h2⟩ := ih (x ++ x) ((i + 1) % 256) (by omega) (by omega) (by omega)
        exact ⟨r, by rw [chaselaw02_long.l0, if_pos hi, if_neg hb, if_pos (by omega)]; exact h1, h2⟩
    · exact ⟨x, by rw [chaselaw02_long.l0, if_neg hi], hx⟩
theorem long_some (x : ByteArray) (t : Int) (h0 : 0 ≤ t) (hx : x.size ≤ 80000) : ∃ r : ByteArray, r.size ≤ 80000 ∧ ∀ w, Calls Try.prog 10 #[.string x, .int .u8 t] w fun e w' => e = .returned (.string r) ∧ Below w.heap.size w w' := by
  have hm : Int.tmod t 16 = t % 16 := Int.tmod_eq_emod_of_nonneg h0
  obtain ⟨r, h1, h2⟩ := long_loop (Int.tmod t 16) (by rw [hm]; omega) 16 x 0 (by omega) (by rw [hm]; omega) hx
  refine ⟨r, h2, fun w => (chaselaw02_long.calls 17 x t r w h1).mono ?_⟩
  rintro e w' ⟨rfl, n, rfl⟩
  exact ⟨rfl, pw_below_drewN (Below.refl _ _) _⟩
set_option maxHeartbeats 2000000 in
theorem hexes_walk (a0 : ByteArray) (a1 : Int) (w0 : a0.size ≤ 140737488351232) (w1 : (Lit.int .u8 a1).wf = true) (w : World) :
    Calls Try.prog 3 #[.string a0, .int .u8 a1] w fun e w' => e = .returned (.bool true) ∧ Below w.heap.size w w' := by
  obtain ⟨hc0, hc1⟩ := wf8 w1
  obtain ⟨n, hn, hn1, hn2⟩ := cut 70000 a0
  obtain ⟨m, hm, hm1, hm2⟩ := cut 100 a0
  simp only [Int.cast_ofNat_Int] at hn hm
  have hn' : (if (70000 : Int) < (a0.size : Int) then (70000 : Int) else (a0.size : Int)) = (n : Int) := by split <;> omega
  have hm' : (if (100 : Int) < (a0.size : Int) then (100 : Int) else (a0.size : Int)) = (m : Int) := by split <;> omega
  have hs : (a0.extract 0 n).size = n := by rw [ByteArray.size_extract]; omega
  have hmo : (a0.extract 0 m).size = m := by rw [ByteArray.size_extract]; omega
  obtain ⟨s, hse⟩ : ∃ s, a0.extract 0 n = s := ⟨_, rfl⟩
  obtain ⟨o, hoe⟩ : ∃ o, a0.extract 0 m = o := ⟨_, rfl⟩
  rw [hse] at hs
  rw [hoe] at hmo
  obtain ⟨A, hA, hcall⟩ := long_some o a1 hc0 (by omega)
  have LC := Aside0.mk hcall
  have hs2 : s.size ≤ 70000 := by omega
  have HS := Aside0.mk hs2
  have HA := Aside0.mk hA
  clear hcall hs hmo hs2 hA
  go_enter Try.func3, Try.ntmps3
  go_wp2_with fail
  refine (works_call _).mono ?_
  rintro e W1 ⟨rfl, hb1⟩
  go_wp2_with fail
  have hmix : Try.prog.follows .mixedOrders = true := by kernel_rfl
  go_region_with (refine (LC.out _).mono ?_; rintro e W2 ⟨rfl, hb2⟩)
  all_goals have c2 : Below w.heap.size w W2 := below_step hb1.drew hb2
  all_goals clear hb1 hb2 hmix hn hm hn' hm' hse hoe
  all_goals
    have i0 : ∀ w, (Instr.index 24 (.agg #[.string s, .string A]) (.int .i64 0)).run Try.prog w = .ok (.string s) w := fun _ => by kernel_rfl
    have i1 : ∀ w, (Instr.index 24 (.agg #[.string s, .string A]) (.int .i64 1)).run Try.prog w = .ok (.string A) w := fun _ => by kernel_rfl
    go_wp2_with fail
    try (conv in Act.put _ _ _ => simp [Act.put])
    go_loopw [32] (fun v wr => (v = .int .i64 0 ∨ v = .int .i64 1 ∨ v = .int .i64 2) ∧ Aside0 (Below w.heap.size w wr)) (fun v _ => 2 - (intOf v).toNat)
    case atStart => exact ⟨.inl rfl, ⟨c2⟩⟩
    case round =>
      obtain ⟨hk, HB⟩ := hrel
      rcases hk with rfl | rfl | rfl
      · obtain ⟨k, hr⟩ := ref_hex s (by have := HS.out; omega)
        obtain ⟨a, e, hx⟩ : ∃ a e, hexRes s = (a, e) := ⟨_, _, rfl⟩
        obtain ⟨k2, ur⟩ := ref_unhex s
        obtain ⟨c, p, g, ux⟩ : ∃ c p g, unhexRes s = (c, p, g) := ⟨_, _, _, rfl⟩
        rw [hx] at hr
        rw [ux] at ur
        have HX := Aside0.mk hx
        have HR := Aside0.mk hr
        have UX := Aside0.mk ux
        have UR := Aside0.mk ur
        clear hx hr ux ur
        have t1 : (a.toList != a.toList) = false := by simp
        have t2 : (e != e) = false := by simp
        have t3 : (c.toList != c.toList) = false := by simp
        have t4 : (p != p) = false := by simp
        have t5 : (g != g) = false := by simp
        go_wp2_with fail
        refine (hex_call _ _ _ _ HX.out).mono ?_
        rintro e' w2 ⟨rfl, hb1⟩
        go_wp2_with fail
        refine (P02.chaseref02_Hex.calls _ _ _ _ _ HR.out).mono ?_
        rintro e' w3 ⟨rfl, hb2⟩
        go_wp2_with fail
        refine (unhex_call _ _ _ _ _ UX.out).mono ?_
        rintro e' w4 ⟨rfl, hb3⟩
        go_wp2_with fail
        refine (P02.chaseref02_Unhex.calls _ _ _ _ _ _ UR.out).mono ?_
        rintro e' w5 ⟨rfl, hb4⟩
        go_wp2_with fail
        exact ⟨⟨by simp, ⟨below_step (below_step (below_step (below_step HB.out hb1) hb2) hb3) hb4⟩⟩, by decide⟩
      · obtain ⟨k, hr⟩ := ref_hex A (by have := HA.out; omega)
        obtain ⟨a, e, hx⟩ : ∃ a e, hexRes A = (a, e) := ⟨_, _, rfl⟩
        obtain ⟨k2, ur⟩ := ref_unhex A
        obtain ⟨c, p, g, ux⟩ : ∃ c p g, unhexRes A = (c, p, g) := ⟨_, _, _, rfl⟩
        rw [hx] at hr
        rw [ux] at ur
        have HX := Aside0.mk hx
        have HR := Aside0.mk hr
        have UX := Aside0.mk ux
        have UR := Aside0.mk ur
        clear hx hr ux ur
        have t1 : (a.toList != a.toList) = false := by simp
        have t2 : (e != e) = false := by simp
        have t3 : (c.toList != c.toList) = false := by simp
        have t4 : (p != p) = false := by simp
        have t5 : (g != g) = false := by simp
        go_wp2_with fail
        refine (hex_call _ _ _ _ HX.out).mono ?_
        rintro e' w2 ⟨rfl, hb1⟩
        go_wp2_with fail
        refine (P02.chaseref02_Hex.calls _ _ _ _ _ HR.out).mono ?_
        rintro e' w3 ⟨rfl, hb2⟩
        go_wp2_with fail
        refine (unhex_call _ _ _ _ _ UX.out).mono ?_
        rintro e' w4 ⟨rfl, hb3⟩
        go_wp2_with fail
        refine (P02.chaseref02_Unhex.calls _ _ _ _ _ _ UR.out).mono ?_
        rintro e' w5 ⟨rfl, hb4⟩
        go_wp2_with fail
        exact ⟨⟨by simp, ⟨below_step (below_step (below_step (below_step HB.out hb1) hb2) hb3) hb4⟩⟩, by decide⟩
      · go_wp2_with fail
        go_ret
        exact ⟨rfl, HB.out⟩
end Go.Proofs.Ytkfhpajnlaomeaa.V02h
