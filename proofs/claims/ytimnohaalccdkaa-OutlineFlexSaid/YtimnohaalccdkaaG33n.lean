/- Several texts of this claim, one behind the other. -/
import Derived.Test.YtimnohaalccdkaaN33
import Derived.Laws.EntriesVeiled
import Derived.Deep.QuietTactic
import Derived.BigQuiet
import Derived.StillTailTactics
/- code of the machine (chapter 33): code 55 of the program, Code 58 of the reference against codeN. -/
namespace Go.Proofs.Ytimnohaalccdkaa.G33i
open Go.Proofs.Ytimnohaalccdkaa Go.Proofs.Ytimnohaalccdkaa.K33 Go.Proofs.Ytimnohaalccdkaa.M33 Go.Proofs.Ytimnohaalccdkaa.G33a Go.Proofs.Ytimnohaalccdkaa.O33 Go.Proofs.Ytimnohaalccdkaa.N33 Go.Proofs.Ytimnohaalccdkaa.P33a
open Go.RowKit Go.Proofs.YtimnohaalccdkaaW.PrintWords Go.Proofs.YtimnohaalccdkaaW.PrintLast Go.Proofs.YtimnohaalccdkaaW.PrintMore
set_option linter.unusedVariables false
set_option linter.unusedSimpArgs false
set_option maxRecDepth 100000
theorem info146 : (Try.prog.info? 146).map (fun i => (i.zero, i.size, i.bytes)) = some (some (.agg #[.int .i64 0, .nilFunc]), 2, 16) := by kernel_rfl
set_option maxHeartbeats 4000000 in
theorem code_call (s : ByteArray) (h : 0 < s.size) (hs : s.size ≤ 100000) (w : World) :
    Calls Try.prog 55 #[.string s] w fun e w' => e = .returned (.tuple #[.int .i64 (headV s.size (codeN (bytesOf s))).1, .int .i64 (headV s.size (codeN (bytesOf s))).2]) ∧ Below w.heap.size w w' := by
  have hl := bytesOf_len s
  have ho := bytesOf_range s
  obtain ⟨l, hl'⟩ : ∃ l, bytesOf s = l := ⟨_, rfl⟩
  have b0 : bt s 0 = l.getD 0 0 := bt_of hl' 0
  have b1 : bt s 1 = l.getD 1 0 := bt_of hl' 1
  rw [hl'] at hl ho ⊢
  clear hl'
  obtain ⟨v, r, rfl⟩ : ∃ v r, l = v :: r := by
    rcases l with _ | ⟨v, r⟩
    · simp at hl; omega
    · exact ⟨v, r, rfl⟩
  have hv := ho v (by simp)
  have e0 : bt s 0 = v := b0
  have ev : wrap64 (bt s 0) = v := by rw [e0]; exact wid (by omega) (by omega)
  have hx3 : ∀ h : 0 < s.size, ((s[0]'h).toNat : Int) = bt s 0 := bt_at s 0
  have q3 : (0 < s.size) = True := eq_true h
  have qi3 : (0 < (s.size : Int)) = True := eq_true (by omega)
  have c00 : decide (0 < (s.size : Int)) = true := decide_eq_true (by omega)
  obtain ⟨X, hXX⟩ : ∃ X, wrap64 (bt s 0) = X := ⟨_, rfl⟩
  have HEV := Aside0.mk ev
  by_cases c12 : v = 12
  · subst c12
    have p12 : (wrap64 (bt s 0) == 12) = true := by rw [ev]; rfl
    rcases r with _ | ⟨b, r⟩
    · have hl1 : s.size = 1 := by rw [← hl]; rfl
      have l1 : decide (1 < (s.size : Int)) = false := decide_eq_false (by omega)
      have l2 : decide ((s.size : Int) > 1) = false := decide_eq_false (by omega)
      have HE : Aside0 (headV s.size (codeN [12]) = (0, 0)) := ⟨rfl⟩
      have HN : Aside0 (need (wrap64 (bt s 0)) = none) := ⟨by rw [ev]; decide⟩
      have HB : Aside0 (-9223372036854775808 ≤ wrap64 (bt s 0) ∧ wrap64 (bt s 0) ≤ 9223372036854775807) := ⟨by rw [ev]; decide⟩
      have n10 : wrap64 (bt s 0) ≠ 10 := by rw [ev]; decide
      have n11 : wrap64 (bt s 0) ≠ 11 := by rw [ev]; decide
      have n268 : wrap64 (bt s 0) ≠ 268 := by rw [ev]; decide
      have n272 : wrap64 (bt s 0) ≠ 272 := by rw [ev]; decide
      have n273 : wrap64 (bt s 0) ≠ 273 := by rw [ev]; decide
      clear hl1 hl ho b0 b1 hv e0 ev hXX
      have q10 : (wrap64 (bt s 0) == 10) = false := by simpa using n10
      have q11 : (wrap64 (bt s 0) == 11) = false := by simpa using n11
      have q268 : (wrap64 (bt s 0) == 268) = false := by simpa using n268
      have q272 : (wrap64 (bt s 0) == 272) = false := by simpa using n272
      have q273 : (wrap64 (bt s 0) == 273) = false := by simpa using n273
      clear n10 n11 n268 n272 n273
      go_enter Try.func55, Try.ntmps55
      go_wp2_with fail
      refine (operators_call _).mono ?_
      rintro e w1 ⟨g, rfl, hb, hg, hmap⟩
      have hlk := look_none hmap HB.out.1 HB.out.2 HN.out true
      simp only [if_true, opV] at hlk
      have HBW := Aside0.mk hb
      have hA : (w1.alloc (.cells #[.int .i64 0, .nilFunc] 146)).heap[w1.heap.size]? = some (.cells #[.int .i64 0, .nilFunc] 146 (0, 0)) := blk_new _ _
      have k1 : (w1.alloc (.cells #[.int .i64 0, .nilFunc] 146)).cell? ⟨w1.heap.size, 1, none⟩ = some .nilFunc := (blk_cell hA 1).trans rfl
      have f1 : (w1.alloc (.cells #[.int .i64 0, .nilFunc] 146)).frozen? ⟨w1.heap.size, 1, none⟩ = false := blk_frozen hA 1
      clear hmap hb hg hA
      go_wp2_with fail
      go_ret2
      rw [HE.out]
      exact ⟨rfl, below_then HBW.out HBW.out.size (Below.alloc (Below.refl _ _) (Nat.le_refl _) _)⟩
    · have l1 : decide (1 < (s.size : Int)) = true := decide_eq_true (by rw [← hl]; simp; omega)
      have q4 : (1 < s.size) = True := eq_true (by rw [← hl]; simp)
      have qi4 : (1 < (s.size : Int)) = True := eq_true (by rw [← hl]; simp; omega)
      have hx4 : ∀ h : 1 < s.size, ((s[1]'h).toNat : Int) = bt s 1 := bt_at s 1
      have hb := ho b (by simp)
      have e1 : bt s 1 = b := b1
      have ev1 : wrap64 (bt s 1) = b := by rw [e1]; exact wid (by omega) (by omega)
      have evX : wrap64 (256 + wrap64 (bt s 1)) = 256 + b := by rw [ev1]; exact wid (by omega) (by omega)
      have hcN : codeN (12 :: b :: r) = if isOp (256 + b) = true then some (256 + b, r) else none := by simp [codeN]
      by_cases s268 : 256 + b = 268
      · have hX : wrap64 (256 + wrap64 (bt s 1)) = 268 := by rw [evX]; exact s268
        have HX := Aside0.mk hX
        have HE : Aside0 (headV s.size (codeN (12 :: b :: r)) = (268, 2)) := ⟨by rw [hcN, if_pos (show isOp (256 + b) = true by rw [s268]; decide), s268]; simp only [headV]; congr 1; rw [← hl]; simp; omega⟩
        clear hcN hl ho b0 b1 hv e0 ev hXX evX hb e1 ev1
        have q10 : (wrap64 (256 + wrap64 (bt s 1)) == 10) = false := by rw [hX]; decide
        have q11 : (wrap64 (256 + wrap64 (bt s 1)) == 11) = false := by rw [hX]; decide
        have q268 : (wrap64 (256 + wrap64 (bt s 1)) == 268) = true := by rw [hX]; decide
        clear hX
        go_enter Try.func55, Try.ntmps55
        go_wp2_with fail
        go_ret2
        rw [HE.out]
        exact ⟨by rw [HX.out]; rfl, Below.refl _ _⟩
      by_cases s272 : 256 + b = 272
      · have hX : wrap64 (256 + wrap64 (bt s 1)) = 272 := by rw [evX]; exact s272
        have HX := Aside0.mk hX
        have HE : Aside0 (headV s.size (codeN (12 :: b :: r)) = (272, 2)) := ⟨by rw [hcN, if_pos (show isOp (256 + b) = true by rw [s272]; decide), s272]; simp only [headV]; congr 1; rw [← hl]; simp; omega⟩
        clear hcN hl ho b0 b1 hv e0 ev hXX evX hb e1 ev1
        have q10 : (wrap64 (256 + wrap64 (bt s 1)) == 10) = false := by rw [hX]; decide
        have q11 : (wrap64 (256 + wrap64 (bt s 1)) == 11) = false := by rw [hX]; decide
        have q268 : (wrap64 (256 + wrap64 (bt s 1)) == 268) = false := by rw [hX]; decide
        have q272 : (wrap64 (256 + wrap64 (bt s 1)) == 272) = true := by rw [hX]; decide
        clear hX
        go_enter Try.func55, Try.ntmps55
        go_wp2_with fail
        go_ret2
        rw [HE.out]
        exact ⟨by rw [HX.out]; rfl, Below.refl _ _⟩
      by_cases s273 : 256 + b = 273
      · have hX : wrap64 (256 + wrap64 (bt s 1)) = 273 := by rw [evX]; exact s273
        have HX := Aside0.mk hX
        have HE : Aside0 (headV s.size (codeN (12 :: b :: r)) = (273, 2)) := ⟨by rw [hcN, if_pos (show isOp (256 + b) = true by rw [s273]; decide), s273]; simp only [headV]; congr 1; rw [← hl]; simp; omega⟩
        clear hcN hl ho b0 b1 hv e0 ev hXX evX hb e1 ev1
        have q10 : (wrap64 (256 + wrap64 (bt s 1)) == 10) = false := by rw [hX]; decide
        have q11 : (wrap64 (256 + wrap64 (bt s 1)) == 11) = false := by rw [hX]; decide
        have q268 : (wrap64 (256 + wrap64 (bt s 1)) == 268) = false := by rw [hX]; decide
        have q272 : (wrap64 (256 + wrap64 (bt s 1)) == 272) = false := by rw [hX]; decide
        have q273 : (wrap64 (256 + wrap64 (bt s 1)) == 273) = true := by rw [hX]; decide
        clear hX
        go_enter Try.func55, Try.ntmps55
        go_wp2_with fail
        go_ret2
        rw [HE.out]
        exact ⟨by rw [HX.out]; rfl, Below.refl _ _⟩
      have n268 : wrap64 (256 + wrap64 (bt s 1)) ≠ 268 := by rw [evX]; exact s268
      have n272 : wrap64 (256 + wrap64 (bt s 1)) ≠ 272 := by rw [evX]; exact s272
      have n273 : wrap64 (256 + wrap64 (bt s 1)) ≠ 273 := by rw [evX]; exact s273
      have n10 : wrap64 (256 + wrap64 (bt s 1)) ≠ 10 := by rw [evX]; omega
      have n11 : wrap64 (256 + wrap64 (bt s 1)) ≠ 11 := by rw [evX]; omega
      have HB : Aside0 (-9223372036854775808 ≤ wrap64 (256 + wrap64 (bt s 1)) ∧ wrap64 (256 + wrap64 (bt s 1)) ≤ 9223372036854775807) := ⟨by rw [evX]; omega⟩
      cases hn : need (256 + b) with
      | none =>
        have HN : Aside0 (need (wrap64 (256 + wrap64 (bt s 1))) = none) := ⟨by rw [evX]; exact hn⟩
        have HE : Aside0 (headV s.size (codeN (12 :: b :: r)) = (0, 0)) := ⟨by rw [hcN, if_neg (by unfold isOp; rw [hn]; simp; omega)]; rfl⟩
        clear hn hcN hl ho b0 b1 hv e0 ev hXX evX hb e1 ev1 s268 s272 s273
        have q10 : (wrap64 (256 + wrap64 (bt s 1)) == 10) = false := by simpa using n10
        have q11 : (wrap64 (256 + wrap64 (bt s 1)) == 11) = false := by simpa using n11
        have q268 : (wrap64 (256 + wrap64 (bt s 1)) == 268) = false := by simpa using n268
        have q272 : (wrap64 (256 + wrap64 (bt s 1)) == 272) = false := by simpa using n272
        have q273 : (wrap64 (256 + wrap64 (bt s 1)) == 273) = false := by simpa using n273
        clear n10 n11 n268 n272 n273
        go_enter Try.func55, Try.ntmps55
        go_wp2_with fail
        refine (operators_call _).mono ?_
        rintro e w1 ⟨g, rfl, hb, hg, hmap⟩
        have hlk := look_none hmap HB.out.1 HB.out.2 HN.out true
        simp only [if_true, opV] at hlk
        have HBW := Aside0.mk hb
        have hA : (w1.alloc (.cells #[.int .i64 0, .nilFunc] 146)).heap[w1.heap.size]? = some (.cells #[.int .i64 0, .nilFunc] 146 (0, 0)) := blk_new _ _
        have k1 : (w1.alloc (.cells #[.int .i64 0, .nilFunc] 146)).cell? ⟨w1.heap.size, 1, none⟩ = some .nilFunc := (blk_cell hA 1).trans rfl
        have f1 : (w1.alloc (.cells #[.int .i64 0, .nilFunc] 146)).frozen? ⟨w1.heap.size, 1, none⟩ = false := blk_frozen hA 1
        clear hmap hb hg hA
        go_wp2_with fail
        go_ret2
        rw [HE.out]
        exact ⟨rfl, below_then HBW.out HBW.out.size (Below.alloc (Below.refl _ _) (Nat.le_refl _) _)⟩
      | some n =>
        have HN : Aside0 (need (wrap64 (256 + wrap64 (bt s 1))) = some n) := ⟨by rw [evX]; exact hn⟩
        have HE : Aside0 (headV s.size (codeN (12 :: b :: r)) = (wrap64 (256 + wrap64 (bt s 1)), 2)) := ⟨by rw [hcN, if_pos (by unfold isOp; rw [hn]; simp), evX]; simp only [headV]; congr 1; rw [← hl]; simp; omega⟩
        clear hn hcN hl ho b0 b1 hv e0 ev hXX evX hb e1 ev1 s268 s272 s273
        have q10 : (wrap64 (256 + wrap64 (bt s 1)) == 10) = false := by simpa using n10
        have q11 : (wrap64 (256 + wrap64 (bt s 1)) == 11) = false := by simpa using n11
        have q268 : (wrap64 (256 + wrap64 (bt s 1)) == 268) = false := by simpa using n268
        have q272 : (wrap64 (256 + wrap64 (bt s 1)) == 272) = false := by simpa using n272
        have q273 : (wrap64 (256 + wrap64 (bt s 1)) == 273) = false := by simpa using n273
        clear n10 n11 n268 n272 n273
        go_enter Try.func55, Try.ntmps55
        go_wp2_with fail
        refine (operators_call _).mono ?_
        rintro e w1 ⟨g, rfl, hb, hg, hmap⟩
        have hlk := look_some hmap HB.out.1 HB.out.2 HN.out true
        simp only [if_true, opV] at hlk
        have HBW := Aside0.mk hb
        have hA : (w1.alloc (.cells #[.int .i64 (n : Int), .nilFunc] 146)).heap[w1.heap.size]? = some (.cells #[.int .i64 (n : Int), .nilFunc] 146 (0, 0)) := blk_new _ _
        have k1 : (w1.alloc (.cells #[.int .i64 (n : Int), .nilFunc] 146)).cell? ⟨w1.heap.size, 1, none⟩ = some .nilFunc := (blk_cell hA 1).trans rfl
        have f1 : (w1.alloc (.cells #[.int .i64 (n : Int), .nilFunc] 146)).frozen? ⟨w1.heap.size, 1, none⟩ = false := blk_frozen hA 1
        clear hmap hb hg hA
        go_wp2_with fail
        go_ret2
        rw [HE.out]
        exact ⟨rfl, below_then HBW.out HBW.out.size (Below.alloc (Below.refl _ _) (Nat.le_refl _) _)⟩
  · have p12 : (wrap64 (bt s 0) == 12) = false := by rw [ev]; simpa using c12
    have evX := ev
    have hcN : codeN (v :: r) = if isOp v = true then some (v, r) else none := by show (if v = 12 then _ else _) = _; rw [if_neg c12]
    by_cases s10 : v = 10
    · have hX : wrap64 (bt s 0) = 10 := by rw [evX]; exact s10
      have HX := Aside0.mk hX
      have HE : Aside0 (headV s.size (codeN (v :: r)) = (10, 1)) := ⟨by rw [hcN, if_pos (show isOp (v) = true by rw [s10]; decide), s10]; simp only [headV]; congr 1; rw [← hl]; simp; omega⟩
      clear hcN hl ho b0 b1 hv e0 ev hXX evX 
      have q10 : (wrap64 (bt s 0) == 10) = true := by rw [hX]; decide
      clear hX
      go_enter Try.func55, Try.ntmps55
      go_wp2_with fail
      go_ret2
      rw [HE.out]
      exact ⟨by rw [HX.out]; rfl, Below.refl _ _⟩
    by_cases s11 : v = 11
    · have hX : wrap64 (bt s 0) = 11 := by rw [evX]; exact s11
      have HX := Aside0.mk hX
      have HE : Aside0 (headV s.size (codeN (v :: r)) = (11, 1)) := ⟨by rw [hcN, if_pos (show isOp (v) = true by rw [s11]; decide), s11]; simp only [headV]; congr 1; rw [← hl]; simp; omega⟩
      clear hcN hl ho b0 b1 hv e0 ev hXX evX 
      have q10 : (wrap64 (bt s 0) == 10) = false := by rw [hX]; decide
      have q11 : (wrap64 (bt s 0) == 11) = true := by rw [hX]; decide
      clear hX
      go_enter Try.func55, Try.ntmps55
      go_wp2_with fail
      go_ret2
      rw [HE.out]
      exact ⟨by rw [HX.out]; rfl, Below.refl _ _⟩
    have n10 : wrap64 (bt s 0) ≠ 10 := by rw [evX]; exact s10
    have n11 : wrap64 (bt s 0) ≠ 11 := by rw [evX]; exact s11
    have n268 : wrap64 (bt s 0) ≠ 268 := by rw [evX]; omega
    have n272 : wrap64 (bt s 0) ≠ 272 := by rw [evX]; omega
    have n273 : wrap64 (bt s 0) ≠ 273 := by rw [evX]; omega
    have HB : Aside0 (-9223372036854775808 ≤ wrap64 (bt s 0) ∧ wrap64 (bt s 0) ≤ 9223372036854775807) := ⟨by rw [evX]; omega⟩
    cases hn : need (v) with
    | none =>
      have HN : Aside0 (need (wrap64 (bt s 0)) = none) := ⟨by rw [evX]; exact hn⟩
      have HE : Aside0 (headV s.size (codeN (v :: r)) = (0, 0)) := ⟨by rw [hcN, if_neg (by unfold isOp; rw [hn]; simp; omega)]; rfl⟩
      clear hn hcN hl ho b0 b1 hv e0 ev hXX evX  s10 s11
      have q10 : (wrap64 (bt s 0) == 10) = false := by simpa using n10
      have q11 : (wrap64 (bt s 0) == 11) = false := by simpa using n11
      have q268 : (wrap64 (bt s 0) == 268) = false := by simpa using n268
      have q272 : (wrap64 (bt s 0) == 272) = false := by simpa using n272
      have q273 : (wrap64 (bt s 0) == 273) = false := by simpa using n273
      clear n10 n11 n268 n272 n273
      go_enter Try.func55, Try.ntmps55
      go_wp2_with fail
      refine (operators_call _).mono ?_
      rintro e w1 ⟨g, rfl, hb, hg, hmap⟩
      have hlk := look_none hmap HB.out.1 HB.out.2 HN.out true
      simp only [if_true, opV] at hlk
      have HBW := Aside0.mk hb
      have hA : (w1.alloc (.cells #[.int .i64 0, .nilFunc] 146)).heap[w1.heap.size]? = some (.cells #[.int .i64 0, .nilFunc] 146 (0, 0)) := blk_new _ _
      have k1 : (w1.alloc (.cells #[.int .i64 0, .nilFunc] 146)).cell? ⟨w1.heap.size, 1, none⟩ = some .nilFunc := (blk_cell hA 1).trans rfl
      have f1 : (w1.alloc (.cells #[.int .i64 0, .nilFunc] 146)).frozen? ⟨w1.heap.size, 1, none⟩ = false := blk_frozen hA 1
      clear hmap hb hg hA
      go_wp2_with fail
      go_ret2
      rw [HE.out]
      exact ⟨rfl, below_then HBW.out HBW.out.size (Below.alloc (Below.refl _ _) (Nat.le_refl _) _)⟩
    | some n =>
      have HN : Aside0 (need (wrap64 (bt s 0)) = some n) := ⟨by rw [evX]; exact hn⟩
      have HE : Aside0 (headV s.size (codeN (v :: r)) = (wrap64 (bt s 0), 1)) := ⟨by rw [hcN, if_pos (by unfold isOp; rw [hn]; simp), evX]; simp only [headV]; congr 1; rw [← hl]; simp; omega⟩
      clear hn hcN hl ho b0 b1 hv e0 ev hXX evX  s10 s11
      have q10 : (wrap64 (bt s 0) == 10) = false := by simpa using n10
      have q11 : (wrap64 (bt s 0) == 11) = false := by simpa using n11
      have q268 : (wrap64 (bt s 0) == 268) = false := by simpa using n268
      have q272 : (wrap64 (bt s 0) == 272) = false := by simpa using n272
      have q273 : (wrap64 (bt s 0) == 273) = false := by simpa using n273
      clear n10 n11 n268 n272 n273
      go_enter Try.func55, Try.ntmps55
      go_wp2_with fail
      refine (operators_call _).mono ?_
      rintro e w1 ⟨g, rfl, hb, hg, hmap⟩
      have hlk := look_some hmap HB.out.1 HB.out.2 HN.out true
      simp only [if_true, opV] at hlk
      have HBW := Aside0.mk hb
      have hA : (w1.alloc (.cells #[.int .i64 (n : Int), .nilFunc] 146)).heap[w1.heap.size]? = some (.cells #[.int .i64 (n : Int), .nilFunc] 146 (0, 0)) := blk_new _ _
      have k1 : (w1.alloc (.cells #[.int .i64 (n : Int), .nilFunc] 146)).cell? ⟨w1.heap.size, 1, none⟩ = some .nilFunc := (blk_cell hA 1).trans rfl
      have f1 : (w1.alloc (.cells #[.int .i64 (n : Int), .nilFunc] 146)).frozen? ⟨w1.heap.size, 1, none⟩ = false := blk_frozen hA 1
      clear hmap hb hg hA
      go_wp2_with fail
      go_ret2
      rw [HE.out]
      exact ⟨rfl, below_then HBW.out HBW.out.size (Below.alloc (Below.refl _ _) (Nat.le_refl _) _)⟩
theorem ref_need_eq (op : Int) : chaseref33_need.f 5 op = some (match need op with | some n => (n : Int) | none => -1) := by
  by_cases h : op = 9 ∨ op = 14 ∨ op = 256 ∨ op = 4 ∨ op = 6 ∨ op = 7 ∨ op = 22 ∨ op = 1 ∨ op = 3 ∨ op = 5 ∨ op = 13 ∨ op = 21 ∨ op = 289 ∨ op = 30 ∨ op = 31 ∨ op = 8 ∨ op = 257 ∨ op = 258
  · rcases h with rfl | rfl | rfl | rfl | rfl | rfl | rfl | rfl | rfl | rfl | rfl | rfl | rfl | rfl | rfl | rfl | rfl | rfl <;> rfl
  · have hn : need op = none := by unfold need; rw [if_neg (by omega), if_neg (by omega), if_neg (by omega), if_neg (by omega), if_neg (by omega)]
    rw [hn]
    simp only [not_or] at h
    obtain ⟨g0, g1, g2, g3, g4, g5, g6, g7, g8, g9, g10, g11, g12, g13, g14, g15, g16, g17⟩ := h
    simp [chaseref33_need.f, chaseref33_need.j0, chaseref33_need.j1, chaseref33_need.j2, chaseref33_need.j3, *]
theorem ref_code_eq (s : ByteArray) (h : 0 < s.size) : chaseref33_Code.f 5 s = some (headV s.size (codeN (bytesOf s))) := by
  have hl := bytesOf_len s
  have ho := bytesOf_range s
  obtain ⟨l, hl'⟩ : ∃ l, bytesOf s = l := ⟨_, rfl⟩
  have b0 : bt s 0 = l.getD 0 0 := bt_of hl' 0
  have b1 : bt s 1 = l.getD 1 0 := bt_of hl' 1
  rw [hl'] at hl ho ⊢
  clear hl'
  obtain ⟨v, r, rfl⟩ : ∃ v r, l = v :: r := by
    rcases l with _ | ⟨v, r⟩
    · simp at hl; omega
    · exact ⟨v, r, rfl⟩
  have hv := ho v (by simp)
  have e0 : bt s 0 = v := b0
  have ev : wrap64 (bt s 0) = v := by rw [e0]; exact wid (by omega) (by omega)
  unfold chaseref33_Code.f
  rw [if_pos (by omega), ev]
  by_cases c12 : v = 12
  · subst c12
    rw [if_pos rfl]
    rcases r with _ | ⟨b, r⟩
    · rw [if_pos (by rw [← hl]; simp)]
      rfl
    · have hb := ho b (by simp)
      have e1 : bt s 1 = b := b1
      have ev1 : wrap64 (bt s 1) = b := by rw [e1]; exact wid (by omega) (by omega)
      have evX : wrap64 (256 + b) = 256 + b := wid (by omega) (by omega)
      have hsz : (s.size : Int) = 2 + r.length := by rw [← hl]; simp; omega
      have hcN : codeN (12 :: b :: r) = if isOp (256 + b) = true then some (256 + b, r) else none := by simp [codeN]
      rw [if_neg (by omega), if_pos (by omega), ev1, evX, ref_need_eq, hcN]
      simp only [Option.bind_some]
      cases hn : need (256 + b) with
      | some n =>
        simp only
        rw [if_pos (by omega), if_pos (by unfold isOp; rw [hn]; simp)]
        simp only [headV]
        congr 2; omega
      | none =>
        simp only
        rw [if_neg (by decide)]
        by_cases s1 : 256 + b = 10 ∨ 256 + b = 11 ∨ 256 + b = 268 ∨ 256 + b = 272 ∨ 256 + b = 273
        · rw [if_pos (show isOp (256 + b) = true by unfold isOp; rcases s1 with h | h | h | h | h <;> rw [h] <;> rfl)]
          have hh : headV s.size (some (256 + b, r)) = (256 + b, 2) := by simp only [headV]; congr 1; omega
          rw [hh]
          repeat' split
          all_goals first | rfl | omega
        · rw [if_neg (show ¬ isOp (256 + b) = true by unfold isOp; rw [hn]; simp; omega)]
          rw [if_neg (by omega), if_neg (by omega), if_neg (by omega), if_neg (by omega), if_neg (by omega)]
          rfl
  · have hcN : codeN (v :: r) = if isOp v = true then some (v, r) else none := by show (if v = 12 then _ else _) = _; rw [if_neg c12]
    have hsz : (s.size : Int) = 1 + r.length := by rw [← hl]; simp; omega
    rw [if_neg c12, ref_need_eq, hcN]
    simp only [Option.bind_some]
    cases hn : need v with
    | some n =>
      simp only
      rw [if_pos (by omega), if_pos (by unfold isOp; rw [hn]; simp)]
      simp only [headV]
      congr 2; omega
    | none =>
      simp only
      rw [if_neg (by decide)]
      by_cases s1 : v = 10 ∨ v = 11 ∨ v = 268 ∨ v = 272 ∨ v = 273
      · rw [if_pos (show isOp v = true by unfold isOp; rcases s1 with h | h | h | h | h <;> rw [h] <;> rfl)]
        have hh : headV s.size (some (v, r)) = (v, 1) := by simp only [headV]; congr 1; omega
        rw [hh]
        repeat' split
        all_goals first | rfl | omega
      · rw [if_neg (show ¬ isOp v = true by unfold isOp; rw [hn]; simp; omega)]
        rw [if_neg (by omega), if_neg (by omega), if_neg (by omega), if_neg (by omega), if_neg (by omega)]
        rfl
theorem codeN_drop {l : List Int} {n : Int} {r : List Int} (h : codeN l = some (n, r)) : ∃ k, 0 < k ∧ k ≤ l.length ∧ r = l.drop k := by
  unfold codeN at h
  repeat' split at h
  all_goals first | (cases h; done) | (injection h with h; injection h with h1 h2; subst h2; first | exact ⟨1, by decide, by simp, rfl⟩ | exact ⟨2, by decide, by simp, rfl⟩)
theorem codeN_range {l : List Int} (ho : Oct l) {n : Int} {r : List Int} (h : codeN l = some (n, r)) : 0 ≤ n ∧ n ≤ 511 := by
  rcases l with _ | ⟨v, l⟩
  · cases h
  have hv := ho v (by simp)
  unfold codeN at h
  repeat' split at h
  all_goals first
    | (cases h; done)
    | (injection h with h; injection h with h1 h2; subst h1; omega)
    | (rename_i n1 _ r1 w1 r2 heq hop; rw [heq] at ho; have hb := ho w1 (by simp); simp at h; omega)
    | (simp at *; omega)
end Go.Proofs.Ytimnohaalccdkaa.G33i
/- path of the machine (chapter 33): function 73. -/
namespace Go.Proofs.Ytimnohaalccdkaa.G33j
open Go.Proofs.Ytimnohaalccdkaa Go.Proofs.Ytimnohaalccdkaa.K33 Go.Proofs.Ytimnohaalccdkaa.M33 Go.Proofs.Ytimnohaalccdkaa.G33a Go.Proofs.Ytimnohaalccdkaa.G33b Go.Proofs.Ytimnohaalccdkaa.G33c Go.Proofs.Ytimnohaalccdkaa.G33d Go.Proofs.Ytimnohaalccdkaa.G33e Go.Proofs.Ytimnohaalccdkaa.G33f Go.Proofs.Ytimnohaalccdkaa.G33g Go.Proofs.Ytimnohaalccdkaa.G33r Go.Proofs.Ytimnohaalccdkaa.G33h Go.Proofs.Ytimnohaalccdkaa.O33 Go.Proofs.Ytimnohaalccdkaa.N33 Go.Proofs.Ytimnohaalccdkaa.G33i Go.Proofs.Ytimnohaalccdkaa.P33a
open Go.RowKit Go.Proofs.YtimnohaalccdkaaW.PrintWords Go.Proofs.YtimnohaalccdkaaW.PrintLast Go.Proofs.YtimnohaalccdkaaW.PrintMore
set_option linter.unusedVariables false
set_option linter.unusedSimpArgs false
set_option maxRecDepth 100000
theorem but_below {g : Nat} {w w' : World} (h : Below w.heap.size w w') : But g w w' := ⟨h.os, h.tape, h.output, h.size, fun i hi _ => h.block i hi⟩
theorem moves_call (op : Int) (w : World) : Calls Try.prog 100 #[.int .i64 op] w fun e w' => e = .returned (.bool (isMove op)) ∧ w' = w := by
  by_cases h1 : op = 4
  · subst h1
    go_enter Try.func100, Try.ntmps100
    go_wp2_with fail
    go_ret
    exact ⟨rfl, rfl⟩
  by_cases h2 : op = 21
  · subst h2
    go_enter Try.func100, Try.ntmps100
    go_wp2_with fail
    go_ret
    exact ⟨rfl, rfl⟩
  have t1 : (op == 4) = false := by simpa using h1
  have t2 : (op == 21) = false := by simpa using h2
  have HE : Aside0 (isMove op = (op == 22)) := ⟨by unfold isMove; rw [t1, t2]; rfl⟩
  rw [HE.out]
  clear h1 h2
  go_enter Try.func100, Try.ntmps100
  go_wp2_with fail
  go_ret
  exact ⟨rfl, rfl⟩
set_option maxHeartbeats 1000000 in
theorem take_but {W0 w : World} {b : Nat} {sb : Value} {m : M} (h : Mach W0 w b sb m) (n : Nat) (hn : n ≤ 2147483648) :
    Calls Try.prog 96 #[.pointer (some ⟨b, 0, none⟩), .int .i64 n] w (fun e w' => Took W0 w b sb m n e w' ∧ But b w w') := by
  have H0 := Aside0.mk h
  obtain ⟨hB, hb, vs, vt, vk, A, c, vp, h⟩ := h
  have hok := h.ok
  have HV := Aside0.mk h
  have HB := Aside0.mk hB
  have HB8 := Aside0.mk hb
  obtain ⟨Ak, ck, rfl⟩ := own_slice h.stack
  obtain ⟨_, hk1, hk2⟩ := own_len h.stack
  have c8 : w.cell? ⟨b, 8, none⟩ = some (.slice Ak m.stack.length ck) := h.cell 8
  have h24 := hok.stack
  by_cases hf : m.stack.length < n
  · have HF := Aside0.mk hf
    have t : decide ((m.stack.length : Int) - (n : Int) < 0) = true := decide_eq_true (by omega)
    clear h hB
    go_enter Try.func96, Try.ntmps96
    go_wp2_with fail
    go_ret2
    refine ⟨?_, But.refl _ _⟩
    unfold Took
    rw [if_pos HF.out]
    exact ⟨rfl, rfl⟩
  · have HF := Aside0.mk hf
    obtain ⟨k, hk⟩ : ∃ k : Nat, m.stack.length - n = k := ⟨_, rfl⟩
    have e : (m.stack.length : Int) - (n : Int) = (k : Int) := by omega
    have t : decide ((k : Int) < 0) = false := decide_eq_false (by omega)
    obtain ⟨A', hcut, hA', hints, hoff⟩ := cutL Ak m.stack.length ck k (by omega) hk2
    have hcut2 := cutH Ak m.stack.length ck k (by omega)
    have hl : (m.stack.drop k).length = n := by rw [List.length_drop]; omega
    have hn2 : m.stack.length - k = n := by omega
    rw [hn2] at hcut
    have hr := ints_reads (hints w m.stack rfl hk1 (own_ints h.stack)) (by omega)
    rw [hl] at hr
    have HCL : Aside0 (Calls Try.prog 105 #[.slice A' n (ck - k)] w fun e w' => ∃ v, e = .returned v ∧ w'.ownsRow w.heap.size 3 1 v n (nums .i64 (m.stack.drop k)) ∧ Below w.heap.size w w') := ⟨by
      have := clone_call (w := w) (A := A') (c := ck - k) (xs := m.stack.drop k) (by rw [hl]; exact hr) (by omega) hA' (by omega)
      rw [hl] at this
      exact this⟩
    have HOK : Aside0 (Ok { m with stack := m.stack.take k }) := ⟨⟨by rw [List.length_take]; omega, hok.small.take k, hok.res, hok.rsmall, hok.steps, hok.stems, hok.points, hok.x, hok.y, hok.side, hok.width, hok.count⟩⟩
    have HTK : Aside0 (w.ownsRow W0.heap.size 3 1 (.slice Ak k ck) (m.stack.take k).length (nums .i64 (m.stack.take k))) := ⟨by
      by_cases h0 : m.stack.length = 0
      · obtain rfl : k = 0 := by omega
        have := h.stack
        rw [h0] at this
        simp only [List.take_zero, List.length_nil]
        have h00 : m.stack = [] := List.eq_nil_of_length_eq_zero h0
        rw [h00] at this
        exact this
      · have := own_take h.stack k (by omega) (by omega)
        rw [List.length_take, Nat.min_eq_left (by omega)]
        rw [Nat.mul_one] at this
        unfold nums at this ⊢
        rw [List.map_take]
        exact this⟩
    have HSZ := Aside0.mk (show m.stack.length ≤ 24 ∧ n ≤ m.stack.length ∧ k ≤ ck ∧ n ≤ ck - k from ⟨h24, by omega, by omega, by omega⟩)
    have HL := Aside0.mk hl
    clear h hB hr hints hoff hok hA' hk1 hk2 hn2
    have HK := Aside0.mk hk
    clear hk
    go_enter Try.func96, Try.ntmps96
    go_wp2_with fail
    refine (HCL.out).mono ?_
    rintro e w1 ⟨v, rfl, ho, hb1⟩
    obtain ⟨A2, c2, rfl⟩ := own_slice ho
    have HO := Aside0.mk ho
    have HB1 := Aside0.mk hb1
    have HV1 := Aside0.mk (HV.out.below hb1)
    have c8' : w1.cell? ⟨b, 8, none⟩ = some (.slice Ak m.stack.length ck) := HV1.out.cell 8
    have f8 : w1.frozen? ⟨b, 8, none⟩ = false := HV1.out.frz 8
    clear ho hb1 c8
    go_wp2_with fail
    go_ret2
    obtain ⟨q1, q2, q3⟩ := own_len HO.out
    refine ⟨?_, But.set (but_below HB1.out) 8 _⟩
    unfold Took
    rw [if_neg HF.out, HK.out]
    refine ⟨A2, c2, rfl, q2, q3, ⟨below_set (below_then HB.out HB.out.size HB1.out) HB8.out, HB8.out, vs, vt, _, A, c, vp, HV1.out.put_stack (pw_own_below HTK.out HB1.out) (World.grownBy.refl _ _) (.inl (by cases Ak <;> rfl)) HOK.out, ?_, ?_⟩, (keeps_below HB1.out).trans (keeps_set HV1.out.blk (by decide) 8 _), ?_⟩
    · refine ints_set (own_ints (B := w.heap.size) (n := n) (c := c2) (by rw [HL.out]; exact HO.out)) HV1.out.blk (by decide) 8 _
    · have := own_off (w := w) (w' := w1) (n := n) (c := c2) (xs := m.stack.drop k) (by rw [HL.out]; exact HO.out) HV.out.stack
      rcases this with h | h
      · exact .inl h
      · exact .inr fun a ha hk => h a ha (by rw [← hk]; cases Ak <;> rfl)
    · rcases HO.out.2 with ⟨e, h0⟩ | ⟨g, cap, cur, e, h1, _⟩
      · exact .inl h0
      · refine .inr fun a ha => ?_
        cases e
        injection ha with ha
        subst ha
        exact Nat.le_trans HB.out.size h1
/-- A path operator runs. -/
theorem do_call {W0 w : World} {b : Nat} {sb : Value} {m : M} {A : Option Addr} {l : List Int} {op : Int} {n : Nat} (hn : need op = some n) (hl : l.length = n) (h : MachL W0 w b sb m A l) (c : Nat) (hc : n ≤ c) (hs : Small l) :
    Calls Try.prog (opFn op) #[.pointer (some ⟨b, 0, none⟩), .slice A n c] w (Did W0 b sb (doOp op m l)) := by
  have hk : op = 1 ∨ op = 3 ∨ op = 4 ∨ op = 5 ∨ op = 6 ∨ op = 7 ∨ op = 8 ∨ op = 9 ∨ op = 13 ∨ op = 14 ∨ op = 21 ∨ op = 22 ∨ op = 30 ∨ op = 31 ∨ op = 256 ∨ op = 257 ∨ op = 258 ∨ op = 289 := by
    unfold need at hn
    repeat' split at hn
    all_goals first | omega | cases hn
  rcases hk with rfl | rfl | rfl | rfl | rfl | rfl | rfl | rfl | rfl | rfl | rfl | rfl | rfl | rfl | rfl | rfl | rfl | rfl
  · obtain rfl : n = 2 := by simp [need] at hn; omega
    have := hstem_call h c (by omega) (by omega) (by omega) hs
    rw [hl] at this
    exact this
  · obtain rfl : n = 2 := by simp [need] at hn; omega
    have := vstem_call h c (by omega) (by omega) (by omega) hs
    rw [hl] at this
    exact this
  · obtain rfl : n = 1 := by simp [need] at hn; omega
    obtain ⟨x0, rfl⟩ : ∃ x0, l = [x0] := by
      rcases l with _ | ⟨x0, _ | ⟨x, l⟩⟩
      all_goals first | (simp at hl; done) | (simp at hl; omega) | exact ⟨_, rfl⟩
    exact vmove_call h c hc hs
  · obtain rfl : n = 2 := by simp [need] at hn; omega
    obtain ⟨x0, x1, rfl⟩ : ∃ x0 x1, l = [x0, x1] := by
      rcases l with _ | ⟨x0, _ | ⟨x1, _ | ⟨x, l⟩⟩⟩
      all_goals first | (simp at hl; done) | (simp at hl; omega) | exact ⟨_, _, rfl⟩
    exact line_call h c hc hs
  · obtain rfl : n = 1 := by simp [need] at hn; omega
    obtain ⟨x0, rfl⟩ : ∃ x0, l = [x0] := by
      rcases l with _ | ⟨x0, _ | ⟨x, l⟩⟩
      all_goals first | (simp at hl; done) | (simp at hl; omega) | exact ⟨_, rfl⟩
    exact hline_call h c hc hs
  · obtain rfl : n = 1 := by simp [need] at hn; omega
    obtain ⟨x0, rfl⟩ : ∃ x0, l = [x0] := by
      rcases l with _ | ⟨x0, _ | ⟨x, l⟩⟩
      all_goals first | (simp at hl; done) | (simp at hl; omega) | exact ⟨_, rfl⟩
    exact vline_call h c hc hs
  · obtain rfl : n = 6 := by simp [need] at hn; omega
    obtain ⟨x0, x1, x2, x3, x4, x5, rfl⟩ : ∃ x0 x1 x2 x3 x4 x5, l = [x0, x1, x2, x3, x4, x5] := by
      rcases l with _ | ⟨x0, _ | ⟨x1, _ | ⟨x2, _ | ⟨x3, _ | ⟨x4, _ | ⟨x5, _ | ⟨x, l⟩⟩⟩⟩⟩⟩⟩
      all_goals first | (simp at hl; done) | (simp at hl; omega) | exact ⟨_, _, _, _, _, _, rfl⟩
    exact curve_call h c hc hs
  · obtain rfl : n = 0 := by simp [need] at hn; omega
    exact closing_call h.mach _
  · obtain rfl : n = 2 := by simp [need] at hn; omega
    obtain ⟨x0, x1, rfl⟩ : ∃ x0 x1, l = [x0, x1] := by
      rcases l with _ | ⟨x0, _ | ⟨x1, _ | ⟨x, l⟩⟩⟩
      all_goals first | (simp at hl; done) | (simp at hl; omega) | exact ⟨_, _, rfl⟩
    exact begin_call h c hc hs
  · obtain rfl : n = 0 := by simp [need] at hn; omega
    exact end_call h.mach _
  · obtain rfl : n = 2 := by simp [need] at hn; omega
    obtain ⟨x0, x1, rfl⟩ : ∃ x0 x1, l = [x0, x1] := by
      rcases l with _ | ⟨x0, _ | ⟨x1, _ | ⟨x, l⟩⟩⟩
      all_goals first | (simp at hl; done) | (simp at hl; omega) | exact ⟨_, _, rfl⟩
    exact move_call h c hc hs
  · obtain rfl : n = 1 := by simp [need] at hn; omega
    obtain ⟨x0, rfl⟩ : ∃ x0, l = [x0] := by
      rcases l with _ | ⟨x0, _ | ⟨x, l⟩⟩
      all_goals first | (simp at hl; done) | (simp at hl; omega) | exact ⟨_, rfl⟩
    exact hmove_call h c hc hs
  · obtain rfl : n = 4 := by simp [need] at hn; omega
    obtain ⟨x0, x1, x2, x3, rfl⟩ : ∃ x0 x1 x2 x3, l = [x0, x1, x2, x3] := by
      rcases l with _ | ⟨x0, _ | ⟨x1, _ | ⟨x2, _ | ⟨x3, _ | ⟨x, l⟩⟩⟩⟩⟩
      all_goals first | (simp at hl; done) | (simp at hl; omega) | exact ⟨_, _, _, _, rfl⟩
    exact vhcurve_call h c hc hs
  · obtain rfl : n = 4 := by simp [need] at hn; omega
    obtain ⟨x0, x1, x2, x3, rfl⟩ : ∃ x0 x1 x2 x3, l = [x0, x1, x2, x3] := by
      rcases l with _ | ⟨x0, _ | ⟨x1, _ | ⟨x2, _ | ⟨x3, _ | ⟨x, l⟩⟩⟩⟩⟩
      all_goals first | (simp at hl; done) | (simp at hl; omega) | exact ⟨_, _, _, _, rfl⟩
    exact hvcurve_call h c hc hs
  · obtain rfl : n = 0 := by simp [need] at hn; omega
    exact nothing_call h.mach _
  · obtain rfl : n = 6 := by simp [need] at hn; omega
    have := vstem_call h c (by omega) (by omega) (by omega) hs
    rw [hl] at this
    exact this
  · obtain rfl : n = 6 := by simp [need] at hn; omega
    have := hstem_call h c (by omega) (by omega) (by omega) hs
    rw [hl] at this
    exact this
  · obtain rfl : n = 2 := by simp [need] at hn; omega
    obtain ⟨x0, x1, rfl⟩ : ∃ x0 x1, l = [x0, x1] := by
      rcases l with _ | ⟨x0, _ | ⟨x1, _ | ⟨x, l⟩⟩⟩
      all_goals first | (simp at hl; done) | (simp at hl; omega) | exact ⟨_, _, rfl⟩
    exact confirm_call h c hc
end Go.Proofs.Ytimnohaalccdkaa.G33j
/- path of the machine (chapter 33): function 73. -/
namespace Go.Proofs.Ytimnohaalccdkaa.G33k
open Go.Proofs.Ytimnohaalccdkaa Go.Proofs.Ytimnohaalccdkaa.K33 Go.Proofs.Ytimnohaalccdkaa.M33 Go.Proofs.Ytimnohaalccdkaa.G33a Go.Proofs.Ytimnohaalccdkaa.G33b Go.Proofs.Ytimnohaalccdkaa.G33c Go.Proofs.Ytimnohaalccdkaa.G33d Go.Proofs.Ytimnohaalccdkaa.G33r Go.Proofs.Ytimnohaalccdkaa.G33h Go.Proofs.Ytimnohaalccdkaa.O33 Go.Proofs.Ytimnohaalccdkaa.N33 Go.Proofs.Ytimnohaalccdkaa.G33i Go.Proofs.Ytimnohaalccdkaa.G33j Go.Proofs.Ytimnohaalccdkaa.P33a
open Go.RowKit Go.Proofs.YtimnohaalccdkaaW.PrintWords Go.Proofs.YtimnohaalccdkaaW.PrintLast Go.Proofs.YtimnohaalccdkaaW.PrintMore
set_option linter.unusedVariables false
set_option linter.unusedSimpArgs false
set_option maxRecDepth 100000
theorem op_func {op : Int} {n : Nat} (hn : need op = some n) : ∃ fn, Try.prog.funcs[opFn op]? = some fn ∧ (fn.name == "runtime.NumGoroutine") = false ∧ fn.body.isSome = true := by
  have hk : op = 1 ∨ op = 3 ∨ op = 4 ∨ op = 5 ∨ op = 6 ∨ op = 7 ∨ op = 8 ∨ op = 9 ∨ op = 13 ∨ op = 14 ∨ op = 21 ∨ op = 22 ∨ op = 30 ∨ op = 31 ∨ op = 256 ∨ op = 257 ∨ op = 258 ∨ op = 289 := by
    unfold need at hn
    repeat' split at hn
    all_goals first | omega | cases hn
  rcases hk with rfl | rfl | rfl | rfl | rfl | rfl | rfl | rfl | rfl | rfl | rfl | rfl | rfl | rfl | rfl | rfl | rfl | rfl
  · exact ⟨_, Try.func80, rfl, rfl⟩
  · exact ⟨_, Try.func81, rfl, rfl⟩
  · exact ⟨_, Try.func82, rfl, rfl⟩
  · exact ⟨_, Try.func83, rfl, rfl⟩
  · exact ⟨_, Try.func84, rfl, rfl⟩
  · exact ⟨_, Try.func85, rfl, rfl⟩
  · exact ⟨_, Try.func86, rfl, rfl⟩
  · exact ⟨_, Try.func87, rfl, rfl⟩
  · exact ⟨_, Try.func88, rfl, rfl⟩
  · exact ⟨_, Try.func89, rfl, rfl⟩
  · exact ⟨_, Try.func90, rfl, rfl⟩
  · exact ⟨_, Try.func91, rfl, rfl⟩
  · exact ⟨_, Try.func92, rfl, rfl⟩
  · exact ⟨_, Try.func93, rfl, rfl⟩
  · exact ⟨_, Try.func94, rfl, rfl⟩
  · exact ⟨_, Try.func81, rfl, rfl⟩
  · exact ⟨_, Try.func80, rfl, rfl⟩
  · exact ⟨_, Try.func95, rfl, rfl⟩
set_option maxHeartbeats 4000000 in
theorem path_call {W0 w : World} {b : Nat} {sb : Value} {m : M} (h : Mach W0 w b sb m) {op : Int} (h0 : 0 ≤ op) (h1 : op ≤ 511) {n : Nat} (hn : need op = some n) :
    Calls Try.prog 73 #[.pointer (some ⟨b, 0, none⟩), .int .i64 op] w (Did W0 b sb (pathM m op)) := by
  have HM := Aside0.mk h
  have HN := Aside0.mk hn
  have HR := Aside0.mk (And.intro h0 h1)
  clear h hn h0 h1
  go_enter Try.func73, Try.ntmps73
  go_wp2_with fail
  refine (operators_call _).mono ?_
  rintro e w1 ⟨g, rfl, hb1, hg, hmap⟩
  have hlk := look_some hmap (by have := HR.out.1; omega) (by have := HR.out.2; omega) HN.out false
  simp only [Bool.false_eq_true, if_false, opV] at hlk
  have hA : (w1.alloc (.cells #[.int .i64 (n : Int), .nilFunc] 146)).heap[w1.heap.size]? = some (.cells #[.int .i64 (n : Int), .nilFunc] 146 (0, 0)) := blk_new _ _
  have k1 : (w1.alloc (.cells #[.int .i64 (n : Int), .nilFunc] 146)).cell? ⟨w1.heap.size, 1, none⟩ = some .nilFunc := (blk_cell hA 1).trans rfl
  have f1 : (w1.alloc (.cells #[.int .i64 (n : Int), .nilFunc] 146)).frozen? ⟨w1.heap.size, 1, none⟩ = false := blk_frozen hA 1
  have HB1 := Aside0.mk hb1
  clear hmap hb1 hg hA
  go_wp2_with fail
  have hM2 := HM.out.below (below_then HB1.out HB1.out.size (Below.alloc (Below.refl _ w1) (Nat.le_refl _) (.cells #[.int .i64 (n : Int), .func (.func (opFn op)) #[] #[]] 146)))
  have hL : (w1.alloc (.cells #[.int .i64 (n : Int), .func (.func (opFn op)) #[] #[]] 146)).heap[w1.heap.size]? = some (.cells #[.int .i64 (n : Int), .func (.func (opFn op)) #[] #[]] 146 (0, 0)) := blk_new _ _
  clear hlk k1 f1 HB1
  obtain ⟨q, hq⟩ : ∃ q, w1.heap.size = q := ⟨_, rfl⟩
  obtain ⟨w2, hw2⟩ : ∃ w2, w1.alloc (.cells #[.int .i64 (n : Int), .func (.func (opFn op)) #[] #[]] 146) = w2 := ⟨_, rfl⟩
  rw [hw2] at hM2 hL ⊢
  rw [hq] at hL ⊢
  clear hq hw2 HM
  have HM := Aside0.mk hM2
  have HLL := Aside0.mk (Mach.left hM2)
  have HLB := Aside0.mk hL
  have d0 : w2.cell? ⟨q, 0, none⟩ = some (.int .i64 (n : Int)) := (blk_cell hL 0).trans rfl
  obtain ⟨hB, hb, vs, vt, vk, Ar, cr, vp, hv⟩ := hM2
  have hqb : q ≠ b := blk_ne hL hv.blk (by decide)
  obtain ⟨Ak, ck, rfl⟩ := own_slice hv.stack
  have c8 : w2.cell? ⟨b, 8, none⟩ = some (.slice Ak m.stack.length ck) := hv.cell 8
  have c10 : w2.cell? ⟨b, 10, none⟩ = some (.bool m.begun) := hv.cell 10
  have c11 : w2.cell? ⟨b, 11, none⟩ = some (.bool m.flex) := hv.cell 11
  have hok := hv.ok
  have HOK := Aside0.mk hok
  have HQB := Aside0.mk hqb
  clear hB hb hv hL hqb hok
  by_cases hs : m.stack.length = n
  · have t1 : ((m.stack.length : Int) != (n : Int)) = false := by rw [hs]; simp
    have HS := Aside0.mk hs
    obtain ⟨bg, hbg⟩ : ∃ bg, m.begun = bg := ⟨_, rfl⟩
    obtain ⟨b13, h13⟩ : ∃ b13, (op == 13) = b13 := ⟨_, rfl⟩
    rw [hbg] at c10
    by_cases hbb : bg = b13
    · have HE : Aside0 (pathM m op = .error 39) := ⟨by unfold pathM; rw [if_pos (.inr (.inl (by rw [hbg, hbb, ← h13]; by_cases h : op = 13 <;> simp [h])))]⟩
      have t2 : (bg == b13) = true := by rw [hbb]; simp
      clear hs hbg
      subst hbb
      go_quiet (fail)
      go_wp2_with fail
      go_ret
      rw [HE.out]
      exact ⟨rfl, .inr rfl, HLL.out.below (pw_below_drewN (Below.refl _ _) _)⟩
    · have t2 : (bg == b13) = false := by simpa using hbb
      cases hf : m.flex with
      | true =>
        rw [hf] at c11
        obtain ⟨mv, hmv⟩ : ∃ mv, isMove op = mv := ⟨_, rfl⟩
        have HC : Aside0 (∀ W : World, Calls Try.prog 100 #[.int .i64 op] W fun e w' => e = .returned (.bool mv) ∧ w' = W) := ⟨fun W => by rw [← hmv]; exact moves_call op W⟩
        cases mv with
        | false =>
          have HE : Aside0 (pathM m op = .error 39) := ⟨by unfold pathM; rw [if_pos (.inr (.inr ⟨hf, hmv⟩))]⟩
          clear hs hbg hbb hf hmv
          go_quiet ((go_at_call 100; exact Calls.quiet_of_same (HC.out _)))
          go_wp2_with fail
          go_ret
          rw [HE.out]
          exact ⟨rfl, .inr rfl, HLL.out.below (pw_below_drewN (Below.refl _ _) _)⟩
        | true =>
          have HE : Aside0 (pathM m op = doOp op { m with stack := [] } m.stack) := ⟨by unfold pathM; rw [if_neg (by rintro (h | h | ⟨h, h'⟩); exact h (by rw [HN.out, hs]); (have : (op == 13) = decide (op = 13) := rfl); rw [hbg, ← this, h13] at h; exact hbb h; rw [hmv] at h'; cases h')]⟩
          clear hs hbb hbg hf hmv
          go_quiet ((go_at_call 100; exact Calls.quiet_of_same (HC.out _)))
          clear HC
          have HM3 := Aside0.mk (HM.out.below (pw_below_drewN (Below.refl _ _) nq))
          have hL3 : (w2.drewN nq).heap[q]? = some (.cells #[.int .i64 (n : Int), .func (.func (opFn op)) #[] #[]] 146 (0, 0)) := HLB.out
          obtain ⟨w3, hw3⟩ : ∃ w3, w2.drewN nq = w3 := ⟨_, rfl⟩
          rw [hw3] at HM3 hL3 ⊢
          have e0 : w3.cell? ⟨q, 0, none⟩ = some (.int .i64 (n : Int)) := (blk_cell hL3 0).trans rfl
          have h24 := HOK.out.stack
          have HT := Aside0.mk (take_but HM3.out n (by have := HS.out; omega))
          have HL3 := Aside0.mk hL3
          clear hL3 h24 hw3 d0 c8 c10 c11 t1 t2 h13
          go_wp2_with fail
          refine HT.out.mono ?_
          rintro e w4 ⟨ht, hbt⟩
          unfold Took at ht
          have hS := HS.out
          rw [if_neg (by omega), show m.stack.length - n = 0 by omega] at ht
          obtain ⟨A, c, rfl, hc, hA, hml, _, _⟩ := ht
          have hml : MachL W0 w4 b sb { m with stack := [] } A m.stack := hml
          have l1 : w4.cell? ⟨q, 1, none⟩ = some (.func (.func (opFn op)) #[] #[]) := (blk_cell ((hbt.2.2.2.2 q (blk_lt HL3.out) HQB.out).trans HL3.out) 1).trans rfl
          have HC := Aside0.mk (do_call HN.out HS.out hml c hc HOK.out.small)
          obtain ⟨fn, hf1, hf2, hf3⟩ := op_func HN.out
          have he := enters_ hf1 hf2 hf3 #[.pointer (some ⟨b, 0, none⟩), .slice A n c] w4
          clear hml hS hc hA hbt e0 HT HM3 hf1 hf2 hf3
          go_wp2_with fail
          refine HC.out.mono ?_
          intro e w5 hd
          obtain ⟨rfl, hfin⟩ := did_split hd
          have HF := Aside0.mk hfin
          clear hd hfin he
          go_wp2_with fail
          go_ret
          rw [HE.out]
          exact did_join HF.out
      | false =>
        rw [hf] at c11
        have HE : Aside0 (pathM m op = doOp op { m with stack := [] } m.stack) := ⟨by unfold pathM; rw [if_neg (by rintro (h | h | ⟨h, h'⟩); exact h (by rw [HN.out, hs]); (have : (op == 13) = decide (op = 13) := rfl); rw [hbg, ← this, h13] at h; exact hbb h; rw [hf] at h; cases h)]⟩
        clear hs hbb hbg hf
        go_quiet (fail)
        have HM3 := Aside0.mk (HM.out.below (pw_below_drewN (Below.refl _ _) nq))
        have hL3 : (w2.drewN nq).heap[q]? = some (.cells #[.int .i64 (n : Int), .func (.func (opFn op)) #[] #[]] 146 (0, 0)) := HLB.out
        obtain ⟨w3, hw3⟩ : ∃ w3, w2.drewN nq = w3 := ⟨_, rfl⟩
        rw [hw3] at HM3 hL3 ⊢
        have e0 : w3.cell? ⟨q, 0, none⟩ = some (.int .i64 (n : Int)) := (blk_cell hL3 0).trans rfl
        have h24 := HOK.out.stack
        have HT := Aside0.mk (take_but HM3.out n (by have := HS.out; omega))
        have HL3 := Aside0.mk hL3
        clear hL3 h24 hw3 d0 c8 c10 c11 t1 t2 h13
        go_wp2_with fail
        refine HT.out.mono ?_
        rintro e w4 ⟨ht, hbt⟩
        unfold Took at ht
        have hS := HS.out
        rw [if_neg (by omega), show m.stack.length - n = 0 by omega] at ht
        obtain ⟨A, c, rfl, hc, hA, hml, _, _⟩ := ht
        have hml : MachL W0 w4 b sb { m with stack := [] } A m.stack := hml
        have l1 : w4.cell? ⟨q, 1, none⟩ = some (.func (.func (opFn op)) #[] #[]) := (blk_cell ((hbt.2.2.2.2 q (blk_lt HL3.out) HQB.out).trans HL3.out) 1).trans rfl
        have HC := Aside0.mk (do_call HN.out HS.out hml c hc HOK.out.small)
        obtain ⟨fn, hf1, hf2, hf3⟩ := op_func HN.out
        have he := enters_ hf1 hf2 hf3 #[.pointer (some ⟨b, 0, none⟩), .slice A n c] w4
        clear hml hS hc hA hbt e0 HT HM3 hf1 hf2 hf3
        go_wp2_with fail
        refine HC.out.mono ?_
        intro e w5 hd
        obtain ⟨rfl, hfin⟩ := did_split hd
        have HF := Aside0.mk hfin
        clear hd hfin he
        go_wp2_with fail
        go_ret
        rw [HE.out]
        exact did_join HF.out
  · have t1 : ((m.stack.length : Int) != (n : Int)) = true := by simp; omega
    have HE : Aside0 (pathM m op = .error 39) := ⟨by unfold pathM; rw [if_pos (.inl (by rw [HN.out]; intro e; injection e with e; exact hs e))]⟩
    clear hs
    go_quiet (fail)
    go_wp2_with fail
    go_ret
    rw [HE.out]
    exact ⟨rfl, .inr rfl, HLL.out.below (pw_below_drewN (Below.refl _ _) _)⟩
end Go.Proofs.Ytimnohaalccdkaa.G33k
/- Subroutines of the machine (chapter 33): subr 69. -/
namespace Go.Proofs.Ytimnohaalccdkaa.G33l
open Go.Proofs.Ytimnohaalccdkaa Go.Proofs.Ytimnohaalccdkaa.K33 Go.Proofs.Ytimnohaalccdkaa.M33 Go.Proofs.Ytimnohaalccdkaa.G33a Go.Proofs.Ytimnohaalccdkaa.G33b Go.Proofs.Ytimnohaalccdkaa.G33c Go.Proofs.Ytimnohaalccdkaa.G33d Go.Proofs.Ytimnohaalccdkaa.G33r Go.Proofs.Ytimnohaalccdkaa.G33h Go.Proofs.Ytimnohaalccdkaa.O33 Go.Proofs.Ytimnohaalccdkaa.N33 Go.Proofs.Ytimnohaalccdkaa.G33i Go.Proofs.Ytimnohaalccdkaa.G33j Go.Proofs.Ytimnohaalccdkaa.P33a
open Go.RowKit Go.Proofs.YtimnohaalccdkaaW.PrintWords Go.Proofs.YtimnohaalccdkaaW.PrintLast Go.Proofs.YtimnohaalccdkaaW.PrintMore
set_option linter.unusedVariables false
set_option linter.unusedSimpArgs false
set_option maxRecDepth 100000
/-- A slice of strings that lies there for good. -/
def Strs (W0 : World) (sb : Value) (ss : List ByteArray) : Prop :=
  ∃ A c, sb = .slice A ss.length c ∧ ss.length ≤ 200 ∧ (∀ s ∈ ss, s.size ≤ 4000) ∧ ∀ W, Below W0.heap.size W0 W → ∀ (i : Nat) (s : ByteArray), ss[i]? = some s → ∃ g off, A = some ⟨g, off, none⟩ ∧ W.cell? ⟨g, off + i, none⟩ = some (.string s)
def goM (go : Option (M → List Int → Except Int M)) (m : M) (l : List Int) : Except Int M := match go with | none => .error 26 | some g => g m l
/-- What a subroutine of the next depth does. -/
def Deeper (W0 : World) (b : Nat) (sb : Value) (deep : Int) (g : M → List Int → Except Int M) : Prop :=
  ∀ (w : World) (m : M) (s : ByteArray), Mach W0 w b sb m → m.done = false → s.size ≤ 4000 → Calls Try.prog 37 #[.pointer (some ⟨b, 0, none⟩), .string s, .int .i64 (deep + 1)] w (Did W0 b sb (g m (bytesOf s)))
set_option maxHeartbeats 8000000 in
theorem subr_call {W0 w : World} {b : Nat} {sb : Value} {m : M} {ss : List ByteArray} (hs : Strs W0 sb ss) (h : Mach W0 w b sb m) (hd : m.done = false) (deep : Int) (hd0 : 0 ≤ deep) (go : Option (M → List Int → Except Int M))
    (hgo : (deep = 10 ∧ go = none) ∨ (deep < 10 ∧ ∃ g, go = some g ∧ Deeper W0 b sb deep g)) :
    Calls Try.prog 69 #[.pointer (some ⟨b, 0, none⟩), .int .i64 deep] w (Did W0 b sb (subrM (ss.map bytesOf) go m)) := by
  have HT := Aside0.mk (take_call h 1 (by decide))
  have HL := Aside0.mk (Mach.left h)
  have HOK := Aside0.mk (Mach.ok h)
  have HGO := Aside0.mk hgo
  have HS := Aside0.mk hs
  have HD := Aside0.mk hd
  clear h hgo hs hd
  by_cases hl : m.stack.length = 0
  · have HE : Aside0 (subrM (ss.map bytesOf) go m = .error 39) := ⟨by unfold subrM; simp only; rw [if_pos (.inl hl)]⟩
    have HF : Aside0 (m.stack.length < 1) := ⟨by omega⟩
    rw [HE.out]
    clear hl HE
    go_enter Try.func69, Try.ntmps69
    go_wp2_with fail
    refine HT.out.mono ?_
    intro e w1 ht
    unfold Took at ht
    rw [if_pos HF.out] at ht
    obtain ⟨rfl, rfl⟩ := ht
    go_wp2_with fail
    go_quiet (fail)
    go_wp2_with fail
    go_ret
    exact ⟨rfl, .inr rfl, HL.out.below (pw_below_drewN (Below.refl _ _) _)⟩
  have HF : Aside0 (¬ m.stack.length < 1) := ⟨by omega⟩
  have HLL := Aside0.mk hl
  obtain ⟨i, hi⟩ : ∃ i, m.stack.getD (m.stack.length - 1) 0 = i := ⟨_, rfl⟩
  have hd1 : m.stack.drop (m.stack.length - 1) = [i] := by
    have hlt : m.stack.length - 1 < m.stack.length := by omega
    rw [List.drop_eq_getElem_cons hlt, List.drop_eq_nil_of_le (by omega), ← hi, List.getD_eq_getElem?_getD, List.getElem?_eq_getElem hlt]
    rfl
  have hsi := getD_small HOK.out.small (m.stack.length - 1)
  rw [hi] at hsi
  have HD1 := Aside0.mk hd1
  have HE : Aside0 (subrM (ss.map bytesOf) go m = if m.stack.length = 0 ∨ i < 0 ∨ (ss.length : Int) ≤ i then .error 39 else goM go { m with stack := m.stack.take (m.stack.length - 1) } ((ss.map bytesOf).getD i.toNat [])) := ⟨by unfold subrM goM; simp only; rw [hi, List.length_map]; cases go <;> rfl⟩
  clear hl hi hd1
  obtain ⟨As, cs, rfl, hs200, hs4, hcell⟩ := HS.out
  have HCE := Aside0.mk hcell
  have HS4 := Aside0.mk hs4
  clear hcell hs4
  go_enter Try.func69, Try.ntmps69
  go_wp2_with fail
  refine HT.out.mono ?_
  intro e w1 ht
  unfold Took at ht
  rw [if_neg HF.out, HD1.out] at ht
  obtain ⟨A, c, rfl, hc, hA, hml, _, _⟩ := ht
  have HM := Aside0.mk hml.mach
  obtain ⟨g, off, rfl, hxx⟩ := ints_cells hml.ints (by simp)
  have l0 : w1.cell? ⟨g, off, none⟩ = some (.int .i64 i) := by simpa using hxx 0 (by simp)
  obtain ⟨c7, _⟩ := MachL.cell hml 7 (.slice As ss.length cs) (fun _ _ _ _ _ => rfl)
  have HLM := Aside0.mk (Mach.left hml.mach)
  clear hml hxx hA hc HT
  by_cases hi0 : i < 0
  · have t0 : decide (i < 0) = true := decide_eq_true hi0
    have HE2 : Aside0 (subrM (ss.map bytesOf) go m = .error 39) := ⟨by rw [HE.out, if_pos (.inr (.inl hi0))]⟩
    clear hi0
    go_wp2_with fail
    go_quiet (fail)
    go_wp2_with fail
    go_ret
    rw [HE2.out]
    exact ⟨rfl, .inr rfl, HLM.out.below (pw_below_drewN (Below.refl _ _) _)⟩
  have t0 : decide (i < 0) = false := decide_eq_false hi0
  by_cases hi1 : (ss.length : Int) ≤ i
  · have t1 : decide ((ss.length : Int) ≤ i) = true := decide_eq_true hi1
    have HE2 : Aside0 (subrM (ss.map bytesOf) go m = .error 39) := ⟨by rw [HE.out, if_pos (.inr (.inr hi1))]⟩
    clear hi0 hi1
    go_wp2_with fail
    go_quiet (fail)
    go_wp2_with fail
    go_ret
    rw [HE2.out]
    exact ⟨rfl, .inr rfl, HLM.out.below (pw_below_drewN (Below.refl _ _) _)⟩
  have t1 : decide ((ss.length : Int) ≤ i) = false := decide_eq_false hi1
  obtain ⟨j, rfl⟩ := Int.eq_ofNat_of_zero_le (show 0 ≤ i by omega)
  have hj : j < ss.length := by omega
  have t1n : decide (ss.length ≤ j) = false := decide_eq_false (by omega)
  have HE2 : Aside0 (subrM (ss.map bytesOf) go m = goM go { m with stack := m.stack.take (m.stack.length - 1) } (bytesOf (ss[j]'hj))) := ⟨by
    rw [HE.out, if_neg (by have := HLL.out; omega)]
    congr 1; simp [List.getD_eq_getElem?_getD, List.getElem?_map, List.getElem?_eq_getElem hj]⟩
  clear HE hi0 hi1
  rcases HGO.out with ⟨rfl, rfl⟩ | ⟨hlt, gg, rfl, hdeep⟩
  · clear hd0 hsi hs200
    go_wp2_with fail
    go_quiet (fail)
    go_wp2_with fail
    go_ret
    rw [HE2.out]
    exact ⟨rfl, .inl rfl, HLM.out.below (pw_below_drewN (Below.refl _ _) _)⟩
  · have t10 : (deep == 10) = false := by simp; omega
    have HDP := Aside0.mk hdeep
    have hcc : ∀ q : Nat, ∃ g2 off2, As = some ⟨g2, off2, none⟩ ∧ (w1.drewN q).cell? ⟨g2, off2 + j, none⟩ = some (.string (ss[j]'hj)) := fun q => HCE.out _ (below_then HM.out.1 HM.out.1.size (pw_below_drewN (Below.refl _ _) _)) j _ (List.getElem?_eq_getElem hj)
    obtain ⟨g2, off2, rfl, _⟩ := hcc 0
    have hcd : w1.cell? ⟨g2, off2 + j, none⟩ = some (.string (ss[j]'hj)) := by
      obtain ⟨g3, off3, e3, h3⟩ := hcc 0
      cases e3
      exact h3
    have HZ := Aside0.mk (HS4.out _ (List.getElem_mem hj))
    obtain ⟨sj, hsj⟩ : ∃ sj, ss[j]'hj = sj := ⟨_, rfl⟩
    rw [hsj] at hcd HE2 HZ
    clear hcc hsj
    go_wp2_with fail
    go_quiet (fail)
    go_wp2_with fail
    have HMQ := Aside0.mk (HM.out.below (pw_below_drewN (Below.refl _ _) nq))
    have l0' : (w1.drewN nq).cell? ⟨g, off, none⟩ = some (.int .i64 j) := l0
    have c7' : (w1.drewN nq).cell? ⟨b, 7, none⟩ = some (.slice (some ⟨g2, off2, none⟩) ss.length cs) := c7
    have hcd' : (w1.drewN nq).cell? ⟨g2, off2 + j, none⟩ = some (.string sj) := hcd
    clear l0 c7 hcd
    obtain ⟨w5, hw5⟩ : ∃ w5, w1.drewN nq = w5 := ⟨_, rfl⟩
    rw [hw5] at HMQ l0' c7' hcd' ⊢
    clear hw5
    have hjj : (j < ss.length) = True := eq_true hj
    have hjn : ((j : Int)).toNat = j := by simp
    go_still_tail 12, (by kernel_rfl)
    change wpList _ _ _ _ _ w5.drew
    have HC := Aside0.mk (HDP.out w5.drew { m with stack := m.stack.take (m.stack.length - 1) } sj (Mach.drew HMQ.out) HD.out HZ.out)
    have kw : IntKind.i64.wrap (deep + 1) = deep + 1 := by rw [IntKind.wrap_i64]; omega
    generalize w5.drew = w6 at HC ⊢
    clear l0' c7' hcd' hjj hjn t0 t1 t1n t10 hd0 hlt hsi HMQ
    go_wp2_with fail
    refine HC.out.mono ?_
    intro e w2 hdid
    obtain ⟨rfl, hfin⟩ := did_split hdid
    have HFI := Aside0.mk hfin
    clear hdid hfin
    go_wp2_with fail
    go_ret
    rw [HE2.out]
    exact did_join HFI.out
end Go.Proofs.Ytimnohaalccdkaa.G33l
/- operate of the machine (chapter 33): function 56. -/
namespace Go.Proofs.Ytimnohaalccdkaa.G33m
open Go.Proofs.Ytimnohaalccdkaa Go.Proofs.Ytimnohaalccdkaa.K33 Go.Proofs.Ytimnohaalccdkaa.M33 Go.Proofs.Ytimnohaalccdkaa.G33a Go.Proofs.Ytimnohaalccdkaa.G33b Go.Proofs.Ytimnohaalccdkaa.G33c Go.Proofs.Ytimnohaalccdkaa.G33d Go.Proofs.Ytimnohaalccdkaa.G33h Go.Proofs.Ytimnohaalccdkaa.G33k Go.Proofs.Ytimnohaalccdkaa.G33l Go.Proofs.Ytimnohaalccdkaa.P33a
open Go.RowKit Go.Proofs.YtimnohaalccdkaaW.PrintWords Go.Proofs.YtimnohaalccdkaaW.PrintLast Go.Proofs.YtimnohaalccdkaaW.PrintMore
set_option linter.unusedVariables false
set_option linter.unusedSimpArgs false
set_option maxRecDepth 100000
theorem push_done {m m' : M} {n : Int} (h : push m n = .ok m') : m'.done = m.done := by
  unfold push at h
  split at h
  · cases h
  · injection h with h; subst h; rfl
theorem divM_done {m m' : M} (h : divM m = .ok m') : m'.done = m.done := by
  unfold divM at h
  split at h
  · cases h
  · have := push_done h; exact this
theorem popM_done {m m' : M} (h : popM m = .ok m') : m'.done = m.done := by
  unfold popM at h
  split at h
  · cases h
  · have := push_done h; exact this
theorem otherM_done {m m' : M} (h : otherM m = .ok m') : m'.done = m.done := by
  unfold otherM at h
  simp only at h
  split at h
  · cases h
  · unfold otherK bendM at h
    repeat' split at h
    all_goals first | (cases h; done) | (injection h with h; subst h; rfl)
/-- What operate answers. -/
def DidO (W0 : World) (b : Nat) (sb : Value) (r : Except Int (Bool × M)) (e : Ending) (w' : World) : Prop :=
  match r with
  | .error c => (∃ v, e = .returned (.tuple #[v, .int .i64 c])) ∧ (c = 26 ∨ c = 39) ∧ M33.Left W0 w' b
  | .ok (d, m) => e = .returned (.tuple #[.bool d, .int .i64 0]) ∧ Mach W0 w' b sb m
def tell (r : Except Int M) : Except Int (Bool × M) := match r with | .error c => .error c | .ok m => .ok (m.done, m)
def operL (call : M → Except Int M) (deep op : Int) (m : M) : Except Int (Bool × M) :=
  if 4000 ≤ m.count then .error 26
  else if op = 11 then (if deep = 0 then .error 39 else .ok (true, { m with count := m.count + 1 }))
  else tell (if op = 10 then call { m with count := m.count + 1 } else operM op { m with count := m.count + 1 })
set_option maxHeartbeats 8000000 in
theorem operate_call {W0 w : World} {b : Nat} {sb : Value} {m : M} {ss : List ByteArray} (hs : Strs W0 sb ss) (h : Mach W0 w b sb m) (hd : m.done = false) (deep op : Int) (hd0 : 0 ≤ deep) (go : Option (M → List Int → Except Int M))
    (hgo : (deep = 10 ∧ go = none) ∨ (deep < 10 ∧ ∃ g, go = some g ∧ Deeper W0 b sb deep g)) (ho0 : 0 ≤ op) (ho1 : op ≤ 511) (hop : isOp op = true) :
    Calls Try.prog 56 #[.pointer (some ⟨b, 0, none⟩), .int .i64 op, .int .i64 deep] w (DidO W0 b sb (operL (subrM (ss.map bytesOf) go) deep op m)) := by
  have hok := Mach.ok h
  obtain ⟨c14, f14⟩ := Mach.cell h 14 (.int .i64 m.count) (fun _ _ _ _ _ => rfl)
  obtain ⟨n0, n1⟩ := hok.count
  have HL := Aside0.mk (Left.set (Mach.left h) 14 (.int .i64 (m.count + 1)))
  by_cases h40 : 4000 ≤ m.count
  · have HE : Aside0 (operL (subrM (ss.map bytesOf) go) deep op m = .error 26) := ⟨by unfold operL; rw [if_pos h40]⟩
    have t0 : decide (4000 < m.count + 1) = true := decide_eq_true (by omega)
    clear hs h hgo hok hop hd
    go_enter Try.func56, Try.ntmps56
    go_wp2_with fail
    go_ret2
    rw [HE.out]
    exact ⟨⟨_, rfl⟩, .inl rfl, HL.out⟩
  have t0 : decide (4000 < m.count + 1) = false := decide_eq_false (by omega)
  obtain ⟨m1, hm1⟩ : ∃ m1, ({ m with count := m.count + 1 } : M) = m1 := ⟨_, rfl⟩
  have hM1 := Mach.set h 14 (.int .i64 (m.count + 1)) { m with count := m.count + 1 } (fun _ _ _ _ _ => rfl) rfl rfl rfl rfl rfl ⟨hok.stack, hok.small, hok.res, hok.rsmall, hok.steps, hok.stems, hok.points, hok.x, hok.y, hok.side, hok.width, ⟨by show 0 ≤ m.count + 1; omega, by show m.count + 1 ≤ 4000; omega⟩⟩
  have hd1 : m1.done = false := by rw [← hm1]; exact hd
  rw [hm1] at hM1
  have HM1 := Aside0.mk hM1
  have HE0 : Aside0 (operL (subrM (ss.map bytesOf) go) deep op m = if op = 11 then (if deep = 0 then .error 39 else .ok (true, m1)) else tell (if op = 10 then subrM (ss.map bytesOf) go m1 else operM op m1)) := ⟨by unfold operL; rw [if_neg h40, hm1]⟩
  have HD1 := Aside0.mk hd1
  have HS := Aside0.mk hs
  have HGO := Aside0.mk hgo
  clear h hok hd hm1 hM1 hd1 hs hgo h40
  by_cases k10 : op = 10
  · subst k10
    have HC := Aside0.mk (subr_call HS.out HM1.out HD1.out deep hd0 go HGO.out)
    have HE : Aside0 (operL (subrM (ss.map bytesOf) go) deep 10 m = tell (subrM (ss.map bytesOf) go m1)) := ⟨HE0.out⟩
    clear hop HE0
    go_enter Try.func56, Try.ntmps56
    go_wp2_with fail
    refine HC.out.mono ?_
    intro e w1 hdid
    cases hr : subrM (ss.map bytesOf) go m1 with
    | error c =>
      have HEE := Aside0.mk (HE.out.trans (show tell _ = .error c by rw [hr]; rfl))
      rw [hr] at hdid
      obtain ⟨rfl, hc, hl⟩ := hdid
      obtain ⟨v13, c13⟩ := Left.cell hl 13 (by decide)
      have HLL := Aside0.mk hl
      have HCC := Aside0.mk hc
      clear hl hc hr c14 f14
      go_wp2_with fail
      go_ret2
      rw [HEE.out]
      exact ⟨⟨_, rfl⟩, HCC.out, HLL.out⟩
    | ok m2 =>
      have HEE := Aside0.mk (HE.out.trans (show tell _ = .ok (m2.done, m2) by rw [hr]; rfl))
      rw [hr] at hdid
      obtain ⟨rfl, hm⟩ := hdid
      obtain ⟨c13, _⟩ := Mach.cell hm 13 (.bool m2.done) (fun _ _ _ _ _ => rfl)
      have HMM := Aside0.mk hm
      clear hm hr c14 f14
      go_wp2_with fail
      go_ret2
      rw [HEE.out]
      exact ⟨rfl, HMM.out⟩
  have t10 : (op == 10) = false := by simpa using k10
  by_cases k11 : op = 11
  · subst k11
    by_cases kd : deep = 0
    · subst kd
      have HE : Aside0 (operL (subrM (ss.map bytesOf) go) 0 11 m = .error 39) := ⟨HE0.out⟩
      clear hop HE0 k10
      go_enter Try.func56, Try.ntmps56
      go_wp2_with fail
      go_ret2
      rw [HE.out]
      exact ⟨⟨_, rfl⟩, .inr rfl, HL.out⟩
    · have td : (deep == 0) = false := by simpa using kd
      have HE : Aside0 (operL (subrM (ss.map bytesOf) go) deep 11 m = .ok (true, m1)) := ⟨by rw [HE0.out, if_pos rfl, if_neg kd]⟩
      clear hop HE0 k10 kd
      go_enter Try.func56, Try.ntmps56
      go_wp2_with fail
      go_ret2
      rw [HE.out]
      exact ⟨rfl, HM1.out⟩
  have t11 : (op == 11) = false := by simpa using k11
  have HE1 : Aside0 (operL (subrM (ss.map bytesOf) go) deep op m = tell (operM op m1)) := ⟨by rw [HE0.out, if_neg k11, if_neg k10]⟩
  clear HE0
  by_cases k268 : op = 268
  · subst k268
    have HC := Aside0.mk (divide_call HM1.out)
    have HE : Aside0 (operL (subrM (ss.map bytesOf) go) deep 268 m = tell (divM m1)) := ⟨HE1.out⟩
    clear hop HE1 k10 k11
    go_enter Try.func56, Try.ntmps56
    go_wp2_with fail
    refine HC.out.mono ?_
    intro e w1 hdid
    cases hr : divM m1 with
    | error c =>
      have HEE := Aside0.mk (HE.out.trans (show tell _ = .error c by rw [hr]; rfl))
      rw [hr] at hdid
      obtain ⟨rfl, hc, hl⟩ := hdid
      have HLL := Aside0.mk hl
      have HCC := Aside0.mk hc
      clear hl hc hr c14 f14
      go_wp2_with fail
      go_ret2
      rw [HEE.out]
      exact ⟨⟨_, rfl⟩, HCC.out, HLL.out⟩
    | ok m2 =>
      have HEE := Aside0.mk (HE.out.trans (show tell _ = .ok (m2.done, m2) by rw [hr]; rfl))
      rw [hr] at hdid
      obtain ⟨rfl, hm⟩ := hdid
      have HMM := Aside0.mk hm
      have HDD : Aside0 (m2.done = false) := ⟨by rw [divM_done hr]; exact HD1.out⟩
      clear hm hr c14 f14
      go_wp2_with fail
      go_ret2
      rw [HEE.out]
      exact ⟨by rw [HDD.out]; rfl, HMM.out⟩
  have t268 : (op == 268) = false := by simpa using k268
  by_cases k272 : op = 272
  · subst k272
    have HC := Aside0.mk (other_call HM1.out)
    have HE : Aside0 (operL (subrM (ss.map bytesOf) go) deep 272 m = tell (otherM m1)) := ⟨HE1.out⟩
    clear hop HE1 k10 k11 k268
    go_enter Try.func56, Try.ntmps56
    go_wp2_with fail
    refine HC.out.mono ?_
    intro e w1 hdid
    cases hr : otherM m1 with
    | error c =>
      have HEE := Aside0.mk (HE.out.trans (show tell _ = .error c by rw [hr]; rfl))
      rw [hr] at hdid
      obtain ⟨rfl, hc, hl⟩ := hdid
      have HLL := Aside0.mk hl
      have HCC := Aside0.mk hc
      clear hl hc hr c14 f14
      go_wp2_with fail
      go_ret2
      rw [HEE.out]
      exact ⟨⟨_, rfl⟩, HCC.out, HLL.out⟩
    | ok m2 =>
      have HEE := Aside0.mk (HE.out.trans (show tell _ = .ok (m2.done, m2) by rw [hr]; rfl))
      rw [hr] at hdid
      obtain ⟨rfl, hm⟩ := hdid
      have HMM := Aside0.mk hm
      have HDD : Aside0 (m2.done = false) := ⟨by rw [otherM_done hr]; exact HD1.out⟩
      clear hm hr c14 f14
      go_wp2_with fail
      go_ret2
      rw [HEE.out]
      exact ⟨by rw [HDD.out]; rfl, HMM.out⟩
  have t272 : (op == 272) = false := by simpa using k272
  by_cases k273 : op = 273
  · subst k273
    have HC := Aside0.mk (pop_call HM1.out)
    have HE : Aside0 (operL (subrM (ss.map bytesOf) go) deep 273 m = tell (popM m1)) := ⟨HE1.out⟩
    clear hop HE1 k10 k11 k268 k272
    go_enter Try.func56, Try.ntmps56
    go_wp2_with fail
    refine HC.out.mono ?_
    intro e w1 hdid
    cases hr : popM m1 with
    | error c =>
      have HEE := Aside0.mk (HE.out.trans (show tell _ = .error c by rw [hr]; rfl))
      rw [hr] at hdid
      obtain ⟨rfl, hc, hl⟩ := hdid
      have HLL := Aside0.mk hl
      have HCC := Aside0.mk hc
      clear hl hc hr c14 f14
      go_wp2_with fail
      go_ret2
      rw [HEE.out]
      exact ⟨⟨_, rfl⟩, HCC.out, HLL.out⟩
    | ok m2 =>
      have HEE := Aside0.mk (HE.out.trans (show tell _ = .ok (m2.done, m2) by rw [hr]; rfl))
      rw [hr] at hdid
      obtain ⟨rfl, hm⟩ := hdid
      have HMM := Aside0.mk hm
      have HDD : Aside0 (m2.done = false) := ⟨by rw [popM_done hr]; exact HD1.out⟩
      clear hm hr c14 f14
      go_wp2_with fail
      go_ret2
      rw [HEE.out]
      exact ⟨by rw [HDD.out]; rfl, HMM.out⟩
  have t273 : (op == 273) = false := by simpa using k273
  obtain ⟨n, hn⟩ : ∃ n, need op = some n := by
    unfold isOp at hop
    cases hn : need op with
    | some n => exact ⟨n, rfl⟩
    | none => rw [hn] at hop; simp at hop; omega
  have HC := Aside0.mk (path_call HM1.out ho0 ho1 hn)
  have HE : Aside0 (operL (subrM (ss.map bytesOf) go) deep op m = tell (pathM m1 op)) := ⟨by rw [HE1.out]; unfold operM; rw [if_neg k268, if_neg k272, if_neg k273]⟩
  clear hop HE1 k10 k11 k268 k272 k273 hn
  go_enter Try.func56, Try.ntmps56
  go_wp2_with fail
  refine HC.out.mono ?_
  intro e w1 hdid
  cases hr : pathM m1 op with
  | error c =>
    have HEE := Aside0.mk (HE.out.trans (show tell _ = .error c by rw [hr]; rfl))
    rw [hr] at hdid
    obtain ⟨rfl, hc, hl⟩ := hdid
    obtain ⟨v13, c13⟩ := Left.cell hl 13 (by decide)
    have HLL := Aside0.mk hl
    have HCC := Aside0.mk hc
    clear hl hc hr c14 f14
    go_wp2_with fail
    go_ret2
    rw [HEE.out]
    exact ⟨⟨_, rfl⟩, HCC.out, HLL.out⟩
  | ok m2 =>
    have HEE := Aside0.mk (HE.out.trans (show tell _ = .ok (m2.done, m2) by rw [hr]; rfl))
    rw [hr] at hdid
    obtain ⟨rfl, hm⟩ := hdid
    obtain ⟨c13, _⟩ := Mach.cell hm 13 (.bool m2.done) (fun _ _ _ _ _ => rfl)
    have HMM := Aside0.mk hm
    clear hm hr c14 f14
    go_wp2_with fail
    go_ret2
    rw [HEE.out]
    exact ⟨rfl, HMM.out⟩
end Go.Proofs.Ytimnohaalccdkaa.G33m
/- run of the machine (chapter 33): function 37; all depths. -/
namespace Go.Proofs.Ytimnohaalccdkaa.G33n
open Go.Proofs.Ytimnohaalccdkaa Go.Proofs.Ytimnohaalccdkaa.K33 Go.Proofs.Ytimnohaalccdkaa.M33 Go.Proofs.Ytimnohaalccdkaa.G33a Go.Proofs.Ytimnohaalccdkaa.G33b Go.Proofs.Ytimnohaalccdkaa.G33c Go.Proofs.Ytimnohaalccdkaa.G33d Go.Proofs.Ytimnohaalccdkaa.N33 Go.Proofs.Ytimnohaalccdkaa.G33i Go.Proofs.Ytimnohaalccdkaa.G33l Go.Proofs.Ytimnohaalccdkaa.G33m Go.Proofs.Ytimnohaalccdkaa.P33a
open Go.RowKit Go.Proofs.YtimnohaalccdkaaW.PrintWords Go.Proofs.YtimnohaalccdkaaW.PrintLast Go.Proofs.YtimnohaalccdkaaW.PrintMore
set_option linter.unusedVariables false
set_option linter.unusedSimpArgs false
set_option maxRecDepth 100000
def strLen : Value → Nat
  | .string s => s.size
  | _ => 0
theorem runL_num {call : M → Except Int M} {top : Bool} {f : Nat} {m : M} {l r : List Int} {n : Int} (h : readN l = some (n, r)) : runL call top (f + 1) m l = match push m n with | .error e => .error e | .ok m => runL call top f m r := by
  rcases l with _ | ⟨v, l⟩
  · cases h
  · show (match readN (v :: l) with | some (n, r) => _ | none => _) = _
    rw [h]
    rfl
theorem runL_none {call : M → Except Int M} {top : Bool} {f : Nat} {m : M} {l : List Int} (h : readN l = none) (h2 : codeN l = none) : runL call top (f + 1) m l = .error 39 := by
  rcases l with _ | ⟨v, l⟩
  · rfl
  · show (match readN (v :: l) with | some (n, r) => _ | none => _) = _
    rw [h]
    simp only
    rw [h2]
theorem runL_op {call : M → Except Int M} {deep : Int} {f : Nat} {m : M} {l r : List Int} {op : Int} (h : readN l = none) (h2 : codeN l = some (op, r)) :
    runL call (deep == 0) (f + 1) m l = match operL call deep op m with | .error e => .error e | .ok (d, m) => if d then .ok m else runL call (deep == 0) f m r := by
  rcases l with _ | ⟨v, l⟩
  · cases h2
  · show (match readN (v :: l) with | some (n, r) => _ | none => _) = _
    rw [h]
    simp only
    rw [h2]
    simp only
    unfold operL
    by_cases k1 : 4000 ≤ m.count
    · rw [if_pos k1, if_pos k1]
    rw [if_neg k1, if_neg k1]
    by_cases k2 : op = 11
    · rw [if_pos k2, if_pos k2]
      by_cases k3 : deep = 0
      · rw [if_pos (by simpa using k3), if_pos k3]
      · rw [if_neg (by simpa using k3), if_neg k3]; rfl
    rw [if_neg k2, if_neg k2]
    generalize (if op = 10 then call { m with count := m.count + 1 } else operM op { m with count := m.count + 1 }) = x
    rcases x with c | m2 <;> rfl
theorem operL_done {call : M → Except Int M} {deep op : Int} {m m2 : M} (h : operL call deep op m = .ok (false, m2)) : m2.done = false := by
  unfold operL at h
  split at h
  · cases h
  split at h
  · split at h
    · cases h
    · injection h with h; injection h with h1 h2; cases h1
  · unfold tell at h
    split at h
    · cases h
    · injection h with h; injection h with h1 h2; rw [← h2]; exact h1
theorem codeN_op {l : List Int} {n : Int} {r : List Int} (h : codeN l = some (n, r)) : isOp n = true := by
  unfold codeN at h
  repeat' split at h
  all_goals first
    | (cases h; done)
    | (injection h with h; injection h with h1 h2; subst h1; assumption)
theorem cutS (t : ByteArray) (k : Nat) (hk : k ≤ t.size) (W : World) : (Instr.slice 9 (.string t) (some (.int .i64 (k : Int))) none none).run Try.prog W = .ok (.string (t.extract k t.size)) W := by
  have := run_slice_string_l (P := Try.prog) W 9 t Try.underlying9 .i64 (k : Int) (by omega) (by omega)
  simpa using this
theorem ext_bytes (t : ByteArray) (k : Nat) : bytesOf (t.extract k t.size) = (bytesOf t).drop k := by
  rw [bytesOf_extract, List.take_of_length_le]
  rw [List.length_drop, bytesOf_len]
  exact Nat.le_refl _
theorem ext_size (t : ByteArray) (k : Nat) (h : k ≤ t.size) : (t.extract k t.size).size = t.size - k := by
  rw [← bytesOf_len, ext_bytes, List.length_drop, bytesOf_len]
set_option maxHeartbeats 8000000 in
theorem run_call {W0 w : World} {b : Nat} {sb : Value} {m : M} {ss : List ByteArray} (hs : Strs W0 sb ss) (h : Mach W0 w b sb m) (hd : m.done = false) (deep : Int) (hd0 : 0 ≤ deep) (go : Option (M → List Int → Except Int M))
    (hgo : (deep = 10 ∧ go = none) ∨ (deep < 10 ∧ ∃ g, go = some g ∧ Deeper W0 b sb deep g)) (s : ByteArray) (hsz : s.size ≤ 4000) :
    Calls Try.prog 37 #[.pointer (some ⟨b, 0, none⟩), .string s, .int .i64 deep] w (Did W0 b sb (runL (subrM (ss.map bytesOf) go) (deep == 0) (s.size + 1) m (bytesOf s))) := by
  have HM0 := Aside0.mk h
  have HD0 := Aside0.mk hd
  have HS := Aside0.mk hs
  have HGO := Aside0.mk hgo
  clear h hd hs hgo
  obtain ⟨call, hcall⟩ : ∃ call, subrM (ss.map bytesOf) go = call := ⟨_, rfl⟩
  have HOP : Aside0 (∀ (w : World) (m : M) (op : Int), Mach W0 w b sb m → m.done = false → 0 ≤ op → op ≤ 511 → isOp op = true → Calls Try.prog 56 #[.pointer (some ⟨b, 0, none⟩), .int .i64 op, .int .i64 deep] w (DidO W0 b sb (operL call deep op m))) := ⟨fun w m op h hd h0 h1 h2 => by rw [← hcall]; exact operate_call HS.out h hd deep op hd0 go HGO.out h0 h1 h2⟩
  rw [hcall]
  obtain ⟨res, hres⟩ : ∃ res, runL call (deep == 0) (s.size + 1) m (bytesOf s) = res := ⟨_, rfl⟩
  have HR := Aside0.mk hres
  rw [hres]
  clear hres hcall HGO HS
  go_enter Try.func37, Try.ntmps37
  go_wp2_with fail
  go_step3
  go_wp2_with fail
  go_step3
  go_wp2_with fail
  go_loopw [1, 7] (fun v1 v7 wr => ∃ (t : ByteArray) (m1 : M) (f : Nat), v1 = .string t ∧ v7 = .bool false ∧ t.size ≤ 4000 ∧ t.size < f ∧ Aside0 (m1.done = false) ∧ Aside0 (runL call (deep == 0) f m1 (bytesOf t) = res) ∧ Aside0 (Mach W0 wr b sb m1)) (fun v1 _ _ => strLen v1)
  case atStart => exact ⟨s, m, s.size + 1, rfl, rfl, hsz, by omega, HD0, HR, HM0⟩
  case round =>
    clear HD0 HR HM0 hsz
    obtain ⟨t, m1, f, rfl, rfl, hts, hf, HD, HR, HM⟩ := hrel
    obtain ⟨f, rfl⟩ : ∃ f', f = f' + 1 := ⟨f - 1, by omega⟩
    have HF := Aside0.mk hf
    by_cases h0 : t.size = 0
    · have hb0 : bytesOf t = [] := List.eq_nil_of_length_eq_zero (by rw [bytesOf_len]; exact h0)
      have tz : decide (0 < (t.size : Int)) = false := decide_eq_false (by omega)
      have tz2 : decide (0 < t.size) = false := decide_eq_false (by omega)
      have HE : Aside0 (res = .error 39) := ⟨by rw [← HR.out, hb0]; rfl⟩
      have HL := Aside0.mk (Mach.left HM.out)
      clear hb0 h0 hf
      go_wp2_with fail
      go_ret
      rw [HE.out]
      exact ⟨rfl, .inr rfl, HL.out⟩
    have tz : decide (0 < (t.size : Int)) = true := decide_eq_true (by omega)
    have tz2 : decide (0 < t.size) = true := decide_eq_true (by omega)
    have hne : ∃ v r, bytesOf t = v :: r := by
      cases hb : bytesOf t with
      | nil => have := bytesOf_len t; rw [hb] at this; simp at this; omega
      | cons v r => exact ⟨v, r, rfl⟩
    have hoct := bytesOf_range t
    have hbl := bytesOf_len t
    cases hrd : readN (bytesOf t) with
    | some p =>
      obtain ⟨n, r⟩ := p
      obtain ⟨k, hk0, hkl, hrk⟩ := readN_drop hrd
      rw [hbl] at hkl
      have hsm := readN_small hoct hrd
      have hrl : (t.size : Int) - r.length = (k : Int) := by rw [hrk, List.length_drop, hbl]; omega
      have HNUM : Aside0 (∀ W, Calls Try.prog 53 #[.string t] W fun e w' => e = .returned (.tuple #[.int .i64 n, .int .i64 (k : Int)]) ∧ Drawn0 W w') := ⟨fun W => outline_number.calls 4 t n (k : Int) W (by rw [number_eq t (by omega), hrd]; simp only [headV]; rw [hrl])⟩
      have hcut := cutS t k hkl
      have tk : decide (0 < (k : Int)) = true := decide_eq_true (by omega)
      have tk2 : decide (0 < k) = true := decide_eq_true hk0
      have HE : Aside0 (res = match push m1 n with | .error e => .error e | .ok m => runL call (deep == 0) f m r) := ⟨by rw [← HR.out]; exact runL_num hrd⟩
      have HSM := Aside0.mk hsm
      have HX := Aside0.mk (show bytesOf (t.extract k t.size) = r by rw [ext_bytes, hrk])
      have HXS := Aside0.mk (ext_size t k hkl)
      have HK := Aside0.mk (And.intro hk0 hkl)
      clear hrd hrk hrl hsm hoct hbl hne h0 hf hk0 hkl HR
      go_wp2_with fail
      refine (HNUM.out _).mono ?_
      rintro e w1 ⟨rfl, ⟨nd, rfl⟩⟩
      go_wp2_with fail
      refine (push_call (HM.out.below (pw_below_drewN (Below.refl _ _) nd)) n HSM.out).mono ?_
      intro e w2 hdid
      cases hp : push m1 n with
      | error c =>
        rw [hp] at hdid
        obtain ⟨rfl, hc, hl⟩ := hdid
        have HEE : Aside0 (res = .error c) := ⟨by rw [HE.out, hp]⟩
        have HC := Aside0.mk hc
        have HL := Aside0.mk hl
        have tc : (c != 0) = true := by rcases hc with rfl | rfl <;> rfl
        clear hc hl hp HNUM HM HE
        go_wp2_with fail
        go_ret
        rw [HEE.out]
        exact ⟨rfl, HC.out, HL.out⟩
      | ok m2 =>
        rw [hp] at hdid
        obtain ⟨rfl, hm⟩ := hdid
        have HM2 := Aside0.mk hm
        have HD2 : Aside0 (m2.done = false) := ⟨by rw [push_done hp]; exact HD.out⟩
        have HEE : Aside0 (runL call (deep == 0) f m2 (bytesOf (t.extract k t.size)) = res) := ⟨by rw [HE.out, hp, HX.out]⟩
        clear hm hp HNUM HM HE
        go_wp2_with fail
        refine ⟨⟨t.extract k t.size, m2, f, rfl, rfl, by rw [HXS.out]; omega, by rw [HXS.out]; have := HF.out; have := HK.out; omega, HD2, HEE, HM2⟩, ?_⟩
        show (t.extract k t.size).size < t.size
        rw [HXS.out]
        have := HK.out
        omega
    | none =>
      have HNUM : Aside0 (∀ W, Calls Try.prog 53 #[.string t] W fun e w' => e = .returned (.tuple #[.int .i64 0, .int .i64 0]) ∧ Drawn0 W w') := ⟨fun W => outline_number.calls 4 t 0 0 W (by rw [number_eq t (by omega), hrd]; rfl)⟩
      have HCODE := Aside0.mk (fun W => code_call t (by omega) (by omega) W)
      cases hcd : codeN (bytesOf t) with
      | none =>
        rw [hcd] at HCODE
        have HE : Aside0 (res = .error 39) := ⟨by rw [← HR.out]; exact runL_none hrd hcd⟩
        have HL := Aside0.mk (Mach.left HM.out)
        clear hrd hcd hoct hbl hne h0 hf HR
        go_wp2_with fail
        refine (HNUM.out _).mono ?_
        rintro e w1 ⟨rfl, ⟨nd, rfl⟩⟩
        go_wp2_with fail
        refine (HCODE.out _).mono ?_
        rintro e w2 ⟨rfl, hb2⟩
        have HB2 := Aside0.mk hb2
        clear hb2
        simp only [headV]
        go_wp2_with fail
        go_ret
        rw [HE.out]
        exact ⟨rfl, .inr rfl, HL.out.below (below_then (pw_below_drewN (Below.refl _ _) nd) (by simp) HB2.out)⟩
      | some p =>
        obtain ⟨op, r⟩ := p
        obtain ⟨k, hk0, hkl, hrk⟩ := codeN_drop hcd
        rw [hbl] at hkl
        have hrg := codeN_range hoct hcd
        have hop := codeN_op hcd
        have hrl : (t.size : Int) - r.length = (k : Int) := by rw [hrk, List.length_drop, hbl]; omega
        have HCD : Aside0 (∀ W, Calls Try.prog 55 #[.string t] W fun e w' => e = .returned (.tuple #[.int .i64 op, .int .i64 (k : Int)]) ∧ Below W.heap.size W w') := ⟨fun W => by
          have := HCODE.out W
          rw [hcd] at this
          simp only [headV] at this
          rw [hrl] at this
          exact this⟩
        have hcut := cutS t k hkl
        have tk : ((k : Int) == 0) = false := by simp; omega
        have HE : Aside0 (res = match operL call deep op m1 with | .error e => .error e | .ok (d, m) => if d then .ok m else runL call (deep == 0) f m r) := ⟨by rw [← HR.out]; exact runL_op hrd hcd⟩
        have HX := Aside0.mk (show bytesOf (t.extract k t.size) = r by rw [ext_bytes, hrk])
        have HXS := Aside0.mk (ext_size t k hkl)
        have HK := Aside0.mk (And.intro hk0 hkl)
        have HOPR := Aside0.mk (And.intro hrg hop)
        clear hrd hcd hrk hrl hoct hbl hne h0 hf hk0 hkl HR hrg hop HCODE
        go_wp2_with fail
        refine (HNUM.out _).mono ?_
        rintro e w1 ⟨rfl, ⟨nd, rfl⟩⟩
        go_wp2_with fail
        refine (HCD.out _).mono ?_
        rintro e w2 ⟨rfl, hb2⟩
        have HB2 := Aside0.mk hb2
        have HMM := Aside0.mk (HM.out.below (below_then (pw_below_drewN (Below.refl _ _) nd) (by simp) hb2))
        clear hb2
        go_wp2_with fail
        refine (HOP.out _ m1 op HMM.out HD.out HOPR.out.1.1 HOPR.out.1.2 HOPR.out.2).mono ?_
        intro e w3 hdid
        cases hp : operL call deep op m1 with
        | error c =>
          rw [hp] at hdid
          obtain ⟨⟨v, rfl⟩, hc, hl⟩ := hdid
          have HEE : Aside0 (res = .error c) := ⟨by rw [HE.out, hp]⟩
          have HC := Aside0.mk hc
          have HL := Aside0.mk hl
          have tc : (c != 0) = true := by rcases hc with rfl | rfl <;> rfl
          clear hc hl hp HNUM HM HE
          go_wp2_with fail
          go_ret
          rw [HEE.out]
          exact ⟨rfl, HC.out, HL.out⟩
        | ok p =>
          obtain ⟨d, m2⟩ := p
          rw [hp] at hdid
          obtain ⟨rfl, hm⟩ := hdid
          have HM2 := Aside0.mk hm
          cases d with
          | true =>
            have HEE : Aside0 (res = .ok m2) := ⟨by rw [HE.out, hp]; rfl⟩
            clear hm hp HNUM HM HE
            go_wp2_with fail
            go_ret
            rw [HEE.out]
            exact ⟨rfl, HM2.out⟩
          | false =>
            have HD2 : Aside0 (m2.done = false) := ⟨operL_done hp⟩
            have HEE : Aside0 (runL call (deep == 0) f m2 (bytesOf (t.extract k t.size)) = res) := ⟨by rw [HE.out, hp, HX.out]; rfl⟩
            clear hm hp HNUM HM HE
            go_wp2_with fail
            refine ⟨⟨t.extract k t.size, m2, f, rfl, rfl, by rw [HXS.out]; omega, by rw [HXS.out]; have := HF.out; have := HK.out; omega, HD2, HEE, HM2⟩, ?_⟩
            show (t.extract k t.size).size < t.size
            rw [HXS.out]
            have := HK.out
            omega
/-- A string runs at a depth. -/
theorem runD_call {W0 : World} {b : Nat} {sb : Value} {ss : List ByteArray} (hs : Strs W0 sb ss) : ∀ (d : Nat) (deep : Int), 0 ≤ deep → deep + d = 10 → ∀ (w : World) (m : M) (s : ByteArray), Mach W0 w b sb m → m.done = false → s.size ≤ 4000 →
    Calls Try.prog 37 #[.pointer (some ⟨b, 0, none⟩), .string s, .int .i64 deep] w (Did W0 b sb (runD (ss.map bytesOf) d (deep == 0) m (bytesOf s)))
  | 0, deep, h0, hd, w, m, s, hm, hdn, hsz => by
    have := run_call hs hm hdn deep h0 none (.inl ⟨by omega, rfl⟩) s hsz
    unfold runD
    rw [bytesOf_len]
    exact this
  | d + 1, deep, h0, hd, w, m, s, hm, hdn, hsz => by
    have := run_call hs hm hdn deep h0 (some fun m s => runD (ss.map bytesOf) d false m s) (.inr ⟨by omega, _, rfl, fun w m s hm hdn hsz => by
      have h1 := runD_call hs d (deep + 1) (by omega) (by omega) w m s hm hdn hsz
      have e : (deep + 1 == 0) = false := by simp; omega
      rw [e] at h1
      exact h1⟩) s hsz
    unfold runD
    rw [bytesOf_len]
    exact this
end Go.Proofs.Ytimnohaalccdkaa.G33n
