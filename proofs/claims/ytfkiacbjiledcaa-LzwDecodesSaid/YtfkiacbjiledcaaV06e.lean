/- The law of the codes of variable width against the reference's Encode, walked (chapter 06). -/
import Derived.Test.YtfkiacbjiledcaaV06
import Derived.Test.YtfkiacbjiledcaaD06
import Derived.Test.YtfkiacbjiledcaaR06c
namespace Go.Proofs.Ytfkiacbjiledcaa.V06e
open Go.RowKit Go.Proofs.YtfkiacbjiledcaaW.PrintWords Go.Proofs.YtfkiacbjiledcaaW.PrintLast Go.Proofs.YtfkiacbjiledcaaW.PrintMore
open Go.Proofs.Ytfkiacbjiledcaa.K06 Go.Proofs.Ytfkiacbjiledcaa.D06 Go.Proofs.Ytfkiacbjiledcaa.V06 Go.Proofs.Ytfkiacbjiledcaa.R06c
open Go.Proofs.Ytfkiacbjiledcaa.G06x (enc_call)
set_option linter.unusedVariables false
set_option maxRecDepth 100000
theorem cut (m : Nat) (s : ByteArray) : ∃ n : Nat, (if (m:Int) < (s.size:Int) then (m:Int) else (s.size:Int)) = (n:Int) ∧ n ≤ s.size ∧ n ≤ m := by
  by_cases h : (m:Int) < (s.size:Int)
  · exact ⟨m, by rw [if_pos h], by omega, Nat.le_refl _⟩
  · exact ⟨s.size, by rw [if_neg h], Nat.le_refl _, by omega⟩
theorem pairs_below {w w1 : World} {A : Option Addr} {n : Nat} {ps : List (Int × Int)} (h : Pairs w A n ps) (hb : Below w.heap.size w w1) : Pairs w1 A n ps := by
  refine ⟨h.1, fun j hj => ?_⟩
  obtain ⟨ad, e, h1, h2, h3⟩ := h.2 j hj
  exact ⟨ad, e, pw_cell_below hb h1, pw_cell_below hb h2, h3⟩
set_option maxHeartbeats 1000000 in
theorem encodes_walk (a0 : ByteArray) (a1 : Option Addr) (len1 cap1 : Nat) (z1 : List (Int × Int)) (w : World) (w0 : a0.size ≤ 140737488351232) (w1 : Pairs w a1 len1 z1) (y1 : len1 ≤ 9223372036854775807) :
    Calls Try.prog 3 #[.string a0, .slice a1 len1 cap1] w fun e w' => e = .returned (.bool true) ∧ Below w.heap.size w w' := by
  have d0 := fun W (hb : Below w.heap.size w W) => draft_walk a1 len1 cap1 z1 W (pairs_below w1 hb) y1
  obtain ⟨A, hA⟩ : ∃ A, strOfNums (draftL z1) = A := ⟨_, rfl⟩
  simp only [hA] at d0
  have D0 := Aside0.mk d0
  clear d0 w1 hA
  obtain ⟨n, hn, hn1, hn2⟩ := cut 6000 a0
  simp only [Int.cast_ofNat_Int] at hn
  obtain ⟨s, hse⟩ : ∃ s, a0.extract 0 n = s := ⟨_, rfl⟩
  go_enter Try.func3, Try.ntmps3
  go_wp2_with fail
  refine (works_call _).mono ?_
  rintro e W1 ⟨rfl, hb1⟩
  go_wp2_with fail
  have hmix : Try.prog.follows .mixedOrders = true := by kernel_rfl
  go_region_with (refine (D0.out _ hb1.drew).mono ?_; rintro e W2 ⟨rfl, hb2⟩)
  all_goals have c2 : Below w.heap.size w W2 := below_step hb1.drew hb2
  all_goals clear hb1 hb2 hmix
  all_goals
    have i0 : ∀ w, (Instr.index 26 (.agg #[.string s, .string A]) (.int .i64 0)).run Try.prog w = .ok (.string s) w := fun _ => by kernel_rfl
    have i1 : ∀ w, (Instr.index 26 (.agg #[.string s, .string A]) (.int .i64 1)).run Try.prog w = .ok (.string A) w := fun _ => by kernel_rfl
    go_wp2_with fail
    conv in Act.put _ _ _ => simp [Act.put]
    go_loopw [21] (fun v wr => (v = .int .i64 0 ∨ v = .int .i64 1 ∨ v = .int .i64 2) ∧ Aside0 (Below w.heap.size w wr)) (fun v _ => 2 - (intOf v).toNat)
    case atStart => exact ⟨.inl rfl, ⟨c2⟩⟩
    case round =>
      obtain ⟨hk, HB⟩ := hrel
      rcases hk with rfl | rfl | rfl
      · obtain ⟨k, hr⟩ := (ref_enc s).get
        obtain ⟨x, e, hx⟩ : ∃ x e, encRes s = (x, e) := ⟨_, _, rfl⟩
        rw [hx] at hr
        have HX := Aside0.mk hx
        have HR := Aside0.mk hr
        clear hx hr
        have t1 : (x.toList != x.toList) = false := by simp
        have t2 : (e != e) = false := by simp
        go_wp2_with fail
        refine (enc_call _ _ _ _ HX.out).mono ?_
        rintro e' w2 ⟨rfl, hb1⟩
        go_wp2_with fail
        refine (P06.chaseref06_Encode.calls _ _ _ _ _ HR.out).mono ?_
        rintro e' w3 ⟨rfl, hb2⟩
        go_wp2_with fail
        exact ⟨⟨by simp, ⟨below_step (below_step HB.out hb1) hb2⟩⟩, by decide⟩
      · obtain ⟨k, hr⟩ := (ref_enc A).get
        obtain ⟨x, e, hx⟩ : ∃ x e, encRes A = (x, e) := ⟨_, _, rfl⟩
        rw [hx] at hr
        have HX := Aside0.mk hx
        have HR := Aside0.mk hr
        clear hx hr
        have t1 : (x.toList != x.toList) = false := by simp
        have t2 : (e != e) = false := by simp
        go_wp2_with fail
        refine (enc_call _ _ _ _ HX.out).mono ?_
        rintro e' w2 ⟨rfl, hb1⟩
        go_wp2_with fail
        refine (P06.chaseref06_Encode.calls _ _ _ _ _ HR.out).mono ?_
        rintro e' w3 ⟨rfl, hb2⟩
        go_wp2_with fail
        exact ⟨⟨by simp, ⟨below_step (below_step HB.out hb1) hb2⟩⟩, by decide⟩
      · go_wp2_with fail
        go_ret
        exact ⟨rfl, HB.out⟩
end Go.Proofs.Ytfkiacbjiledcaa.V06e
