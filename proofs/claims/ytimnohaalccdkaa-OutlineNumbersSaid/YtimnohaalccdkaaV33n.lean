/- OutlineNumbers walked (chapter 33). -/
import Derived.Test.YtimnohaalccdkaaV33
namespace Go.Proofs.Ytimnohaalccdkaa.V33n
open Go.Proofs.Ytimnohaalccdkaa Go.Proofs.Ytimnohaalccdkaa.K33 Go.Proofs.Ytimnohaalccdkaa.L33 Go.Proofs.Ytimnohaalccdkaa.N33 Go.Proofs.Ytimnohaalccdkaa.G33o Go.Proofs.Ytimnohaalccdkaa.W33 Go.Proofs.Ytimnohaalccdkaa.D33 Go.Proofs.Ytimnohaalccdkaa.E33 Go.Proofs.Ytimnohaalccdkaa.V33 Go.Proofs.Ytimnohaalccdkaa.P33a
open Go.RowKit Go.Proofs.YtimnohaalccdkaaW.PrintWords Go.Proofs.YtimnohaalccdkaaW.PrintLast Go.Proofs.YtimnohaalccdkaaW.PrintMore
set_option linter.unusedVariables false
set_option linter.unusedSimpArgs false
set_option maxRecDepth 100000
/-- What is read of a number's octets with another number behind. -/
theorem read_num {x : Int} (h : -2147483648 ≤ x ∧ x ≤ 2147483647) : chaseref33_Read.f (strOfNums (numB x) ++ ⟨#[139]⟩) = some (x, ((strOfNums (numB x)).size : Int)) := by
  have hb : bytesOf (strOfNums (numB x) ++ ⟨#[139]⟩) = numB x ++ [139] := by rw [bytesOf_append, bytesOf_strOf _ (numB_oct x)]; rfl
  have hz := bytesOf_len (strOfNums (numB x) ++ ⟨#[139]⟩)
  rw [hb, List.length_append] at hz
  have h1 := numB_len x
  have h2 : (numB x).length + 1 = (strOfNums (numB x) ++ (⟨#[139]⟩ : ByteArray)).size := hz
  rw [ref_read_eq _ (by omega), hb, readN_numB h, strOf_size]
  unfold headV
  rw [← h2]
  simp
theorem wf_i32 {n : Int} (h : (Lit.int .i32 n).wf = true) : -2147483648 ≤ n ∧ n ≤ 2147483647 := by
  simp [Lit.wf, IntKind.min, IntKind.max, IntKind.bits, IntKind.signed] at h
  omega
theorem ix0 (a b c : Int) (w : World) : (Instr.index 23 (.agg #[.int .i64 a, .int .i64 b, .int .i64 c]) (.int .i64 0)).run Try.prog w = .ok (.int .i64 a) w := by kernel_rfl
theorem ix1 (a b c : Int) (w : World) : (Instr.index 23 (.agg #[.int .i64 a, .int .i64 b, .int .i64 c]) (.int .i64 1)).run Try.prog w = .ok (.int .i64 b) w := by kernel_rfl
theorem ix2 (a b c : Int) (w : World) : (Instr.index 23 (.agg #[.int .i64 a, .int .i64 b, .int .i64 c]) (.int .i64 2)).run Try.prog w = .ok (.int .i64 c) w := by kernel_rfl
set_option maxHeartbeats 4000000 in
theorem numbers_walk (n small : Int) (hn : (Lit.int .i64 n).wf = true) (hs : (Lit.int .i32 small).wf = true) (w : World) : Calls Try.prog 3 #[.int .i64 n, .int .i32 small] w fun e w' => e = .returned (.bool true) ∧ Below w.heap.size w w' := by
  go_enter Try.func3, Try.ntmps3
  go_wp2_with fail
  refine (works_call w).mono ?_
  rintro e w1 ⟨rfl, hb1⟩
  have HB1 := Aside0.mk hb1
  clear hb1
  go_wp2_with fail
  have hy : ∃ y, wrap64 small = y ∧ -2147483648 ≤ y ∧ y ≤ 2147483647 := ⟨_, rfl, by have := wf_i32 hs; rw [wid (by omega) (by omega)]; omega⟩
  have hz : ∃ z, wrap64 (Int.tmod small 1200) = z ∧ -2147483648 ≤ z ∧ z ≤ 2147483647 := ⟨_, rfl, by
    have h1 := Int.tmod_lt_of_pos small (show (0 : Int) < 1200 by omega)
    have h2 : -1200 < Int.tmod small 1200 := Int.lt_tmod_of_pos small (show (0 : Int) < 1200 by omega)
    rw [wid (by omega) (by omega)]; omega⟩
  obtain ⟨y, ey, hy⟩ := hy
  obtain ⟨z, ez, hz⟩ := hz
  rw [ey, ez]
  have HY := Aside0.mk hy
  have HZ := Aside0.mk hz
  have hix0 := ix0 n y z
  have hix1 := ix1 n y z
  have hix2 := ix2 n y z
  clear hy hz ey ez hs hn
  go_loopw [20] (fun v20 wr => ∃ k : Nat, v20 = .int .i64 k ∧ k ≤ 3 ∧ Aside0 (Below w.heap.size w wr)) (fun v20 _ => 3 - (intOf v20).toNat)
  case atStart => exact ⟨0, rfl, by omega, HB1⟩
  case round =>
    clear HB1
    obtain ⟨k, rfl, hk, HB⟩ := hrel
    have hkc : k = 0 ∨ k = 1 ∨ k = 2 ∨ k = 3 := by omega
    rcases hkc with rfl | rfl | rfl | rfl
    · by_cases hin : -2147483648 ≤ n ∧ n ≤ 2147483647
      · have HN := Aside0.mk (hin)
        have q0 : decide (n < -2147483648) = false := decide_eq_false (by have := HN.out; omega)
        have q1 : decide (2147483647 < n) = false := decide_eq_false (by have := HN.out; omega)
        obtain ⟨s, hsz⟩ : ∃ s, strOfNums (numB n) = s := ⟨_, rfl⟩
        have HS5 : Aside0 (s.size ≤ 5) := ⟨by rw [← hsz, strOf_size]; exact (numB_len n).2⟩
        have HC1 : Aside0 (∀ W : World, Calls Try.prog 13 #[.int .i64 n] W fun e w' => e = .returned (.tuple #[.string s, .int .i64 0]) ∧ Below W.heap.size W w') := ⟨fun W => by rw [← hsz]; exact num_call HN.out W⟩
        have HC2 : Aside0 (∀ W : World, Calls Try.prog 14 #[.string (s ++ ⟨#[139]⟩)] W fun e w' => e = .returned (.tuple #[.int .i64 n, .int .i64 (s.size : Int)]) ∧ Drawn0 W w') := ⟨fun W => by rw [← hsz]; exact chaseref33_Read.calls _ _ _ W (read_num HN.out)⟩
        have HC3 : Aside0 (∀ W : World, Calls Try.prog 15 #[.int .i64 n] W fun e w' => e = .returned (.string s) ∧ Below W.heap.size W w') := ⟨fun W => by rw [← hsz]; exact ref_num_call HN.out W⟩
        clear hsz
        go_wp2_with fail
        refine (HC1.out _).mono ?_
        rintro e w2 ⟨rfl, hb2⟩
        have HB2 := Aside0.mk (below_step HB.out hb2)
        clear hb2 HB
        dsimp only
        have hcat : s.size + 1 ≤ 9223372036854775807 := by have := HS5.out; omega
        go_wp2_with fail
        refine (HC2.out _).mono ?_
        rintro e w3 ⟨rfl, hb3⟩
        have HB3 := Aside0.mk (below_step HB2.out hb3.below)
        clear hb3 HB2
        dsimp only
        go_wp2_with fail
        refine (HC3.out _).mono ?_
        rintro e w4 ⟨rfl, hb4⟩
        have HB4 := Aside0.mk (below_step HB3.out hb4)
        clear hb4 HB3
        go_wp2_with fail
        exact ⟨⟨1, rfl, by omega, HB4⟩, by simp [intOf]⟩
      · have q2 : decide (n < -2147483648) = true ∨ (decide (n < -2147483648) = false ∧ decide (2147483647 < n) = true) := by
          by_cases h : n < -2147483648
          · exact .inl (decide_eq_true h)
          · exact .inr ⟨decide_eq_false h, decide_eq_true (by omega)⟩
        have HC := Aside0.mk (num_call_out (n := n) (by omega))
        clear hin
        rcases q2 with q2 | ⟨q2, q3⟩
        · go_wp2_with fail
          refine (HC.out _).mono ?_
          rintro e w2 ⟨rfl, hb2⟩
          have HB2 := Aside0.mk (below_step HB.out hb2)
          clear hb2 HB
          dsimp only
          go_wp2_with fail
          exact ⟨⟨1, rfl, by omega, HB2⟩, by simp [intOf]⟩
        · go_wp2_with fail
          refine (HC.out _).mono ?_
          rintro e w2 ⟨rfl, hb2⟩
          have HB2 := Aside0.mk (below_step HB.out hb2)
          clear hb2 HB
          dsimp only
          go_wp2_with fail
          exact ⟨⟨1, rfl, by omega, HB2⟩, by simp [intOf]⟩
    · have HN := Aside0.mk (HY.out)
      have q0 : decide (y < -2147483648) = false := decide_eq_false (by have := HN.out; omega)
      have q1 : decide (2147483647 < y) = false := decide_eq_false (by have := HN.out; omega)
      obtain ⟨s, hsz⟩ : ∃ s, strOfNums (numB y) = s := ⟨_, rfl⟩
      have HS5 : Aside0 (s.size ≤ 5) := ⟨by rw [← hsz, strOf_size]; exact (numB_len y).2⟩
      have HC1 : Aside0 (∀ W : World, Calls Try.prog 13 #[.int .i64 y] W fun e w' => e = .returned (.tuple #[.string s, .int .i64 0]) ∧ Below W.heap.size W w') := ⟨fun W => by rw [← hsz]; exact num_call HN.out W⟩
      have HC2 : Aside0 (∀ W : World, Calls Try.prog 14 #[.string (s ++ ⟨#[139]⟩)] W fun e w' => e = .returned (.tuple #[.int .i64 y, .int .i64 (s.size : Int)]) ∧ Drawn0 W w') := ⟨fun W => by rw [← hsz]; exact chaseref33_Read.calls _ _ _ W (read_num HN.out)⟩
      have HC3 : Aside0 (∀ W : World, Calls Try.prog 15 #[.int .i64 y] W fun e w' => e = .returned (.string s) ∧ Below W.heap.size W w') := ⟨fun W => by rw [← hsz]; exact ref_num_call HN.out W⟩
      clear hsz
      go_wp2_with fail
      refine (HC1.out _).mono ?_
      rintro e w2 ⟨rfl, hb2⟩
      have HB2 := Aside0.mk (below_step HB.out hb2)
      clear hb2 HB
      dsimp only
      have hcat : s.size + 1 ≤ 9223372036854775807 := by have := HS5.out; omega
      go_wp2_with fail
      refine (HC2.out _).mono ?_
      rintro e w3 ⟨rfl, hb3⟩
      have HB3 := Aside0.mk (below_step HB2.out hb3.below)
      clear hb3 HB2
      dsimp only
      go_wp2_with fail
      refine (HC3.out _).mono ?_
      rintro e w4 ⟨rfl, hb4⟩
      have HB4 := Aside0.mk (below_step HB3.out hb4)
      clear hb4 HB3
      go_wp2_with fail
      exact ⟨⟨2, rfl, by omega, HB4⟩, by simp [intOf]⟩
    · have HN := Aside0.mk (HZ.out)
      have q0 : decide (z < -2147483648) = false := decide_eq_false (by have := HN.out; omega)
      have q1 : decide (2147483647 < z) = false := decide_eq_false (by have := HN.out; omega)
      obtain ⟨s, hsz⟩ : ∃ s, strOfNums (numB z) = s := ⟨_, rfl⟩
      have HS5 : Aside0 (s.size ≤ 5) := ⟨by rw [← hsz, strOf_size]; exact (numB_len z).2⟩
      have HC1 : Aside0 (∀ W : World, Calls Try.prog 13 #[.int .i64 z] W fun e w' => e = .returned (.tuple #[.string s, .int .i64 0]) ∧ Below W.heap.size W w') := ⟨fun W => by rw [← hsz]; exact num_call HN.out W⟩
      have HC2 : Aside0 (∀ W : World, Calls Try.prog 14 #[.string (s ++ ⟨#[139]⟩)] W fun e w' => e = .returned (.tuple #[.int .i64 z, .int .i64 (s.size : Int)]) ∧ Drawn0 W w') := ⟨fun W => by rw [← hsz]; exact chaseref33_Read.calls _ _ _ W (read_num HN.out)⟩
      have HC3 : Aside0 (∀ W : World, Calls Try.prog 15 #[.int .i64 z] W fun e w' => e = .returned (.string s) ∧ Below W.heap.size W w') := ⟨fun W => by rw [← hsz]; exact ref_num_call HN.out W⟩
      clear hsz
      go_wp2_with fail
      refine (HC1.out _).mono ?_
      rintro e w2 ⟨rfl, hb2⟩
      have HB2 := Aside0.mk (below_step HB.out hb2)
      clear hb2 HB
      dsimp only
      have hcat : s.size + 1 ≤ 9223372036854775807 := by have := HS5.out; omega
      go_wp2_with fail
      refine (HC2.out _).mono ?_
      rintro e w3 ⟨rfl, hb3⟩
      have HB3 := Aside0.mk (below_step HB2.out hb3.below)
      clear hb3 HB2
      dsimp only
      go_wp2_with fail
      refine (HC3.out _).mono ?_
      rintro e w4 ⟨rfl, hb4⟩
      have HB4 := Aside0.mk (below_step HB3.out hb4)
      clear hb4 HB3
      go_wp2_with fail
      exact ⟨⟨3, rfl, by omega, HB4⟩, by simp [intOf]⟩
    · go_wp2_with fail
      go_ret
      exact ⟨rfl, HB.out⟩
end Go.Proofs.Ytimnohaalccdkaa.V33n
