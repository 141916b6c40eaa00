/- Equal octets are denoted by few codes, and the examples and limits: walked (chapter 06). -/
import Derived.Test.YtfkiacbjiledcaaV06
import Derived.Test.YtfkiacbjiledcaaL06k
import Derived.Test.YtfkiacbjiledcaaM06
import Derived.Test.YtfkiacbjiledcaaShelf
namespace Go.Proofs.Ytfkiacbjiledcaa.V06s
open Go.RowKit Go.Proofs.YtfkiacbjiledcaaW.PrintWords Go.Proofs.YtfkiacbjiledcaaW.PrintLast Go.Proofs.YtfkiacbjiledcaaW.PrintMore
open Go.Proofs.Ytfkiacbjiledcaa.K06 Go.Proofs.Ytfkiacbjiledcaa.L06c Go.Proofs.Ytfkiacbjiledcaa.L06k Go.Proofs.Ytfkiacbjiledcaa.V06 Go.Proofs.Ytfkiacbjiledcaa.M06
open Go.Proofs.Ytfkiacbjiledcaa.G06x (enc_call)
open Go.Proofs.Ytfkiacbjiledcaa.G06d (dec_call)
set_option linter.unusedVariables false
set_option maxRecDepth 100000
theorem rep_call (s : ByteArray) (c : Nat) (w : World) (hlen : s.size * c ≤ 100000000) (hc : c ≤ 1000000) :
    Calls Try.prog 17 #[.string s, .int .i64 c] w fun e w' => e = .returned (.string (rep s c)) ∧ Below w.heap.size w w' :=
  Try.strings_Repeat s c w (by omega) (by omega)
theorem rep_code_len (s : ByteArray) (c n : Nat) (hc : c < 256) (hs : bytesOf s = [(c : Int)]) (h1 : 1 ≤ n) (hn : n ≤ 20000) : (code (rep s n)).size = (9 * (cnt n 0 n + 2) + 7) / 8 := by
  rw [code_size, rep_oct hs, short_len hc n hn]
set_option maxHeartbeats 1000000 in
theorem shrinks_walk (a0 a1 : Int) (w0 : (Lit.int .u8 a0).wf = true) (w1 : (Lit.int .u16 a1).wf = true) (w : World) :
    Calls Try.prog 8 #[.int .u8 a0, .int .u16 a1] w fun e w' => e = .returned (.bool true) ∧ Below w.heap.size w w' := by
  have h0 : 0 ≤ a0 ∧ a0 < 256 := by simp [Lit.wf, IntKind.min, IntKind.max, IntKind.signed, IntKind.bits] at w0; omega
  have h1 : 0 ≤ a1 ∧ a1 < 65536 := by simp [Lit.wf, IntKind.min, IntKind.max, IntKind.signed, IntKind.bits] at w1; omega
  obtain ⟨c, rfl⟩ := Int.eq_ofNat_of_zero_le h0.1
  have hc256 : c < 256 := by omega
  obtain ⟨m, hm⟩ : ∃ m : Nat, a1 % 20000 = (m : Int) := ⟨(a1 % 20000).toNat, by omega⟩
  have hm2 : m < 20000 := by omega
  have hs : (strOfNums [(c : Int)]).size = 1 := rfl
  have hb : bytesOf (strOfNums [(c : Int)]) = [(c : Int)] := bytesOf_strOf _ (fun b h => by rw [List.mem_singleton.1 h]; omega)
  have hcv : ∀ W : World, (convert 32 9 (.slice (some ⟨W.heap.size, 0, none⟩) 1 1)).run Try.prog (W.alloc (.cells #[.int .u8 (c : Int)] 5)) = .ok (.string (strOfNums [(c : Int)])) (W.alloc (.cells #[.int .u8 (c : Int)] 5)) := fun W =>
    own_string (src := 32) (dst := 9) Try.underlying32 Try.underlying5 Try.underlying9 (own_lit W W.heap.size 5 .u8 [(c : Int)] (Nat.le_refl _) (by simp))
  obtain ⟨s, hse⟩ : ∃ s, strOfNums [(c : Int)] = s := ⟨_, rfl⟩
  rw [hse] at hs hb
  simp only [hse] at hcv
  obtain ⟨n, hn⟩ : ∃ n : Nat, 1 + (m : Int) = (n : Int) := ⟨1 + m, by omega⟩
  have hn1 : 1 ≤ n := by omega
  have hn2 : n ≤ 20000 := by omega
  have hz := rep_code_len s c n hc256 hb hn1 hn2
  have hsz : (rep s n).size = n := by rw [rep_size, hs, Nat.mul_one]
  obtain ⟨M, hM⟩ : ∃ M, cnt n 0 n = M := ⟨_, rfl⟩
  obtain ⟨sp1, sp2⟩ := cnt_spec n 0 n (Nat.le_refl _)
  have hMl := cnt_le hn2
  rw [hM] at hz sp1 sp2 hMl
  have t0 : tri 0 = 0 := rfl
  simp only [Nat.zero_add, t0, Nat.add_zero] at sp1 sp2
  have he := enc_ok (rep s n) (by omega)
  obtain ⟨x, hx⟩ : ∃ x, code (rep s n) = x := ⟨_, rfl⟩
  rw [hx] at hz he
  have hrc := fun W => rep_call s n W (by rw [hs]; omega) (by omega)
  have HE := Aside0.mk he
  have HRC := Aside0.mk hrc
  have HS1 := Aside0.mk sp1
  have HS2 := Aside0.mk sp2
  have HM := Aside0.mk hM
  have ha1 : a1 < 65536 := h1.2
  have ha0 : 0 ≤ a1 := h1.1
  clear w0 w1 h0 h1 he hrc sp1 sp2 hM hx hse hs hb hsz t0
  go_enter Try.func8, Try.ntmps8
  go_wp2_with fail
  refine (works_call _).mono ?_
  rintro e W1 ⟨rfl, hb1⟩
  have HB1 := Aside0.mk hb1
  clear hb1
  go_wp2_with fail
  refine (HRC.out _).mono ?_
  rintro e W2 ⟨rfl, hb2⟩
  have c2 : Aside0 (Below w.heap.size w W2) := ⟨below_step (HB1.out.alloc (by exact HB1.out.size) _) hb2⟩
  clear hb2 hcv
  go_wp2_with fail
  refine (enc_call _ _ _ _ HE.out).mono ?_
  rintro e W3 ⟨rfl, hb3⟩
  have c3 := Aside0.mk (below_step c2.out hb3)
  clear hb3
  go_wp2_with fail
  go_loop [8] (fun v8 => ∃ k : Nat, v8 = .int .i64 k ∧ k ≤ M) (fun v8 => M - (intOf v8).toNat)
  case atStart => exact ⟨0, rfl, Nat.zero_le _⟩
  case round =>
    obtain ⟨k, rfl, hk⟩ := hrel
    have ht := tri_two k
    have htm := tri_mono (show k ≤ 200 by omega)
    rw [tri200] at htm
    obtain ⟨T, hT⟩ : ∃ T, tri k = T := ⟨_, rfl⟩
    rw [hT] at ht htm
    have hp : (k : Int) * ((k : Int) + 1) = 2 * (T : Int) := by
      have : ((k * (k + 1) : Nat) : Int) = ((2 * T : Nat) : Int) := by rw [ht]
      simpa using this
    have hTb : (T : Int) ≤ 20100 := by omega
    have HT := Aside0.mk hT
    clear ht hT
    by_cases hkM : k = M
    · subst hkM
      have hnT : n ≤ T := by have := HS1.out; rw [HT.out] at this; exact this
      have d1 : decide ((T : Int) < (n : Int)) = false := decide_eq_false (by omega)
      have hx9 : (x.size : Int) = (9 * ((k : Int) + 2) + 7) / 8 := by omega
      go_wp2_with fail
      go_ret
      exact ⟨rfl, c3.out⟩
    · have hTn : T < n := by have := HS2.out k (by omega); rw [HT.out] at this; exact this
      have d1 : decide ((T : Int) < (n : Int)) = true := decide_eq_true (by omega)
      go_wp2_with fail
      go_round
      case measure => simp [intOf]; omega
      case rel => exact ⟨k + 1, by go_num, by omega⟩
end Go.Proofs.Ytfkiacbjiledcaa.V06s
