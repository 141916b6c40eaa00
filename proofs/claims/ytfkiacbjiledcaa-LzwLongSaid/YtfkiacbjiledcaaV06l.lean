/- Long strings, for which clears are needed, are decoded: walked (chapter 06). -/
import Derived.Test.YtfkiacbjiledcaaV06
import Derived.Test.YtfkiacbjiledcaaL06c
import Derived.Test.YtfkiacbjiledcaaM06
namespace Go.Proofs.Ytfkiacbjiledcaa.V06l
open Go.RowKit Go.Proofs.YtfkiacbjiledcaaW.PrintWords Go.Proofs.YtfkiacbjiledcaaW.PrintLast Go.Proofs.YtfkiacbjiledcaaW.PrintMore
open Go.Proofs.Ytfkiacbjiledcaa.K06 Go.Proofs.Ytfkiacbjiledcaa.L06c Go.Proofs.Ytfkiacbjiledcaa.V06 Go.Proofs.Ytfkiacbjiledcaa.M06
open Go.Proofs.Ytfkiacbjiledcaa.G06x (enc_call)
open Go.Proofs.Ytfkiacbjiledcaa.G06d (dec_call)
set_option linter.unusedVariables false
set_option maxRecDepth 100000
set_option maxHeartbeats 2000000 in
theorem long_walk (a0 a1 a2 : Int) (w0 : (Lit.int .u32 a0).wf = true) (w1 : (Lit.int .u16 a1).wf = true) (w2 : (Lit.int .u8 a2).wf = true) (w : World) :
    Calls Try.prog 7 #[.int .u32 a0, .int .u16 a1, .int .u8 a2] w fun e w' => e = .returned (.bool true) ∧ Below w.heap.size w w' := by
  have h1 : 0 ≤ a1 ∧ a1 < 65536 := by simp [Lit.wf, IntKind.min, IntKind.max, IntKind.signed, IntKind.bits] at w1; omega
  obtain ⟨n, rfl⟩ := Int.eq_ofNat_of_zero_le h1.1
  obtain ⟨m, hm⟩ : ∃ m, n % 30000 = m := ⟨_, rfl⟩
  have hm3 : m < 30000 := by omega
  have hmi : (n : Int) % 30000 = (m : Int) := by omega
  have hn6 : (n : Int) < 65536 := h1.2
  have hmk := print_make (P := Try.prog) 32 5 .u8 1 Try.underlying32 info5 (by decide) m (by omega)
  have HM := Aside0.mk hm
  clear w0 w1 w2 h1 hm
  go_enter Try.func7, Try.ntmps7
  go_wp2_with fail
  refine (works_call _).mono ?_
  rintro e W1 ⟨rfl, hb1⟩
  have HB1 := Aside0.mk hb1
  clear hb1
  go_wp2_with fail
  have hown : Own8 (W1.alloc (.cells (madeCells #[.int .u8 0] m) 5)) W1.heap.size (.slice (some ⟨W1.heap.size, 0, none⟩) m m) (List.replicate m 0) := by
    have := own_made W1 W1.heap.size 5 .u8 m (Nat.le_refl _) (by omega)
    unfold Own8
    rw [List.length_replicate]
    exact this
  have HO := Aside0.mk hown
  have HB2 : Aside0 (Below W1.heap.size W1 (W1.alloc (.cells (madeCells #[.int .u8 0] m) 5))) := ⟨(Below.refl _ _).alloc (Nat.le_refl _) _⟩
  obtain ⟨W2, hW2⟩ : ∃ W2, W1.alloc (.cells (madeCells #[.int .u8 0] m) 5) = W2 := ⟨_, rfl⟩
  obtain ⟨g, hg⟩ : ∃ g, W1.heap.size = g := ⟨_, rfl⟩
  simp only [hW2, hg] at HO HB2 ⊢
  have HGG : Aside0 (W1.heap.size = g) := ⟨hg⟩
  clear hown hW2 hmk hg
  go_loopw [0, 8, 22] (fun v0 v8 v22 wr => ∃ (i : Nat) (x : Int) (l : List Int), v0 = .int .u32 x ∧ v22 = .int .i64 i ∧ i ≤ m ∧ l.length = m ∧ Aside0 (Own8 wr g (.slice (some ⟨g, 0, none⟩) m m) l) ∧ Aside0 (Below g W1 wr)) (fun _ _ v22 _ => m - (intOf v22).toNat)
  case atStart => exact ⟨0, a0, List.replicate m 0, rfl, rfl, Nat.zero_le _, List.length_replicate, HO, HB2⟩
  case round =>
    obtain ⟨i, x, l, rfl, rfl, hi, hl, HO, HB⟩ := hrel
    by_cases hlt : i < m
    · have hii : (i : Int) < (m : Int) := by omega
      have hown := HO.out
      unfold Own8 at hown
      rw [hl] at hown
      have hat := own_at hown (i : Int) (by omega) (by omega)
      rw [Int.toNat_natCast] at hat
      obtain ⟨q1, q2⟩ := hat
      have hs : ∀ y : Int, (wr.setCell ⟨g, i, none⟩ (.int .u8 y)).ownsRow g 5 1 (.slice (some ⟨g, 0, none⟩) m m) m (nums .u8 (l.set i y)) := fun y => by
        have := (own_store hown (i : Int) y).1
        rwa [Int.toNat_natCast] at this
      have HS := Aside0.mk hs
      clear hs
      clear hown
      go_wp2_with fail
      go_roundw
      case measure => simp [intOf]; omega
      case rel =>
        refine ⟨i + 1, _, l.set i ?newOctet, rfl, by go_num, by omega, ?h1, ⟨?h2⟩, ⟨?h3⟩⟩
        case h2 =>
          unfold Own8
          rw [List.length_set, hl]
          exact HS.out _
        case h1 => rw [List.length_set]; exact hl
        case h3 => exact HB.out.setCell (p := ⟨g, i, none⟩) (Nat.le_refl _) _
    · obtain rfl : i = m := by omega
      have hown := HO.out
      have hcv := own_string (src := 32) (dst := 9) Try.underlying32 Try.underlying5 Try.underlying9 hown
      have hsz : (strOfNums l).size = l.length := strOf_size l
      obtain ⟨A, hA⟩ : ∃ A, strOfNums l = A := ⟨_, rfl⟩
      rw [hA] at hcv hsz
      rw [hl] at hsz
      have eA := Aside0.mk (enc_ok A (by omega))
      have dA := Aside0.mk (dec_exact A (by omega))
      obtain ⟨x, hx⟩ : ∃ x, code A = x := ⟨_, rfl⟩
      rw [hx] at eA dA
      have HO2 := Aside0.mk hown
      have hmk : l.length = i := hl
      have HBW : Aside0 (Below w.heap.size w wr) := ⟨below_step HB1.out (by rw [HGG.out]; exact HB.out)⟩
      have hA0 := Aside0.mk hA
      clear hown hsz hx hA hmk
      go_wp2_with fail
      refine (enc_call _ _ _ _ eA.out).mono ?_
      rintro e W3 ⟨rfl, hb3⟩
      have c3 := Aside0.mk (below_step HBW.out hb3)
      have ho3 := Aside0.mk (pw_own_below HO2.out hb3)
      clear hb3 hcv
      go_wp2_with fail
      refine (dec_call _ _ _ _ _ dA.out).mono ?_
      rintro e W4 ⟨rfl, hb4⟩
      have c4 := Aside0.mk (below_step c3.out hb4)
      have ho4 := pw_own_below ho3.out hb4
      have hcv4 := own_string (src := 32) (dst := 9) Try.underlying32 Try.underlying5 Try.underlying9 ho4
      rw [hA0.out] at hcv4
      clear hb4 ho4
      go_wp2_with fail
      go_ret
      exact ⟨rfl, c4.out⟩
end Go.Proofs.Ytfkiacbjiledcaa.V06l
