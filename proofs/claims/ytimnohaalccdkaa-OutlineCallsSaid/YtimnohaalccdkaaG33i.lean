/- code of the machine (chapter 33): code 55 of the program, Code 58 of the reference against codeN. -/
import Derived.Test.YtimnohaalccdkaaN33
import Derived.Laws.EntriesVeiled
namespace Go.Proofs.Ytimnohaalccdkaa.G33i
open Go.Proofs.Ytimnohaalccdkaa Go.Proofs.Ytimnohaalccdkaa.K33 Go.Proofs.Ytimnohaalccdkaa.M33 Go.Proofs.Ytimnohaalccdkaa.G33a Go.Proofs.Ytimnohaalccdkaa.O33 Go.Proofs.Ytimnohaalccdkaa.N33 Go.Proofs.Ytimnohaalccdkaa.P33a
open Go.RowKit Go.Proofs.YtimnohaalccdkaaW.PrintWords Go.Proofs.YtimnohaalccdkaaW.PrintLast Go.Proofs.YtimnohaalccdkaaW.PrintMore
set_option linter.unusedVariables false
set_option linter.unusedSimpArgs false
set_option maxRecDepth 100000
theorem info146 : (Try.prog.info? 146).map (fun i => (i.zero, i.size, i.bytes)) = some (some (.agg #[.int .i64 0, .nilFunc]), 2, 16) := by kernel_rfl
set_option maxHeartbeats 4000000 in
theorem code_call (s : ByteArray) (h : 0 < s.size) (hs : s.size ≤ 100000) (w : World) :
    Calls Try.prog 55 #[.string s] w fun e w' => e = .returned (.tuple #[.int .i64 (headV s.size (codeN (bytesOf s))).1, .int .i64 (headV s.size (codeN (bytesOf s))).2]) ∧ Below w.heap.size w w' := by
  have hl := bytesOf_len s
  have ho := bytesOf_range s
  obtain ⟨l, hl'⟩ : ∃ l, bytesOf s = l := ⟨_, rfl⟩
  have b0 : bt s 0 = l.getD 0 0 := bt_of hl' 0
  have b1 : bt s 1 = l.getD 1 0 := bt_of hl' 1
  rw [hl'] at hl ho ⊢
  clear hl'
  obtain ⟨v, r, rfl⟩ : ∃ v r, l = v :: r := by
    rcases l with _ | ⟨v, r⟩
    · simp at hl; omega
    · exact ⟨v, r, rfl⟩
  have hv := ho v (by simp)
  have e0 : bt s 0 = v := b0
  have ev : wrap64 (bt s 0) = v := by rw [e0]; exact wid (by omega) (by omega)
  have hx3 : ∀ h : 0 < s.size, ((s[0]'h).toNat : Int) = bt s 0 := bt_at s 0
  have q3 : (0 < s.size) = True := eq_true h
  have qi3 : (0 < (s.size : Int)) = True := eq_true (by omega)
  have c00 : decide (0 < (s.size : Int)) = true := decide_eq_true (by omega)
  obtain ⟨X, hXX⟩ : ∃ X, wrap64 (bt s 0) = X := ⟨_, rfl⟩
  have HEV := Aside0.mk ev
  by_cases c12 : v = 12
  · subst c12
    have p12 : (wrap64 (bt s 0) == 12) = true := by rw [ev]; rfl
    rcases r with _ | ⟨b, r⟩
    · have hl1 : s.size = 1 := by rw [← hl]; rfl
      have l1 : decide (1 < (s.size : Int)) = false := decide_eq_false (by omega)
      have l2 : decide ((s.size : Int) > 1) = false := decide_eq_false (by omega)
      have HE : Aside0 (headV s.size (codeN [12]) = (0, 0)) := ⟨rfl⟩
      have HN : Aside0 (need (wrap64 (bt s 0)) = none) := ⟨by rw [ev]; decide⟩
      have HB : Aside0 (-9223372036854775808 ≤ wrap64 (bt s 0) ∧ wrap64 (bt s 0) ≤ 9223372036854775807) := ⟨by rw [ev]; decide⟩
      have n10 : wrap64 (bt s 0) ≠ 10 := by rw [ev]; decide
      have n11 : wrap64 (bt s 0) ≠ 11 := by rw [ev]; decide
      have n268 : wrap64 (bt s 0) ≠ 268 := by rw [ev]; decide
      have n272 : wrap64 (bt s 0) ≠ 272 := by rw [ev]; decide
      have n273 : wrap64 (bt s 0) ≠ 273 := by rw [ev]; decide
      clear hl1 hl ho b0 b1 hv e0 ev hXX
      have q10 : (wrap64 (bt s 0) == 10) = false := by simpa using n10
      have q11 : (wrap64 (bt s 0) == 11) = false := by simpa using n11
      have q268 : (wrap64 (bt s 0) == 268) = false := by simpa using n268
      have q272 : (wrap64 (bt s 0) == 272) = false := by simpa using n272
      have q273 : (wrap64 (bt s 0) == 273) = false := by simpa using n273
      clear n10 n11 n268 n272 n273
      go_enter Try.func55, Try.ntmps55
      go_wp2_with fail
      refine (operators_call _).mono ?_
      rintro e w1 ⟨g, rfl, hb, hg, hmap⟩
      have hlk := look_none hmap HB.out.1 HB.out.2 HN.out true
      simp only [if_true, opV] at hlk
      have HBW := Aside0.mk hb
      have hA : (w1.alloc (.cells #[.int .i64 0, .nilFunc] 146)).heap[w1.heap.size]? = some (.cells #[.int .i64 0, .nilFunc] 146 (0, 0)) := blk_new _ _
      have k1 : (w1.alloc (.cells #[.int .i64 0, .nilFunc] 146)).cell? ⟨w1.heap.size, 1, none⟩ = some .nilFunc := (blk_cell hA 1).trans rfl
      have f1 : (w1.alloc (.cells #[.int .i64 0, .nilFunc] 146)).frozen? ⟨w1.heap.size, 1, none⟩ = false := blk_frozen hA 1
      clear hmap hb hg hA
      go_wp2_with fail
      go_ret2
      rw [HE.out]
      exact ⟨rfl, below_then HBW.out HBW.out.size (Below.alloc (Below.refl _ _) (Nat.le_refl _) _)⟩
    · have l1 : decide (1 < (s.size : Int)) = true := decide_eq_true (by rw [← hl]; simp; omega)
      have q4 : (1 < s.size) = True := eq_true (by rw [← hl]; simp)
      have qi4 : (1 < (s.size : Int)) = True := eq_true (by rw [← hl]; simp; omega)
      have hx4 : ∀ h : 1 < s.size, ((s[1]'h).toNat : Int) = bt s 1 := bt_at s 1
      have hb := ho b (by simp)
      have e1 : bt s 1 = b := b1
      have ev1 : wrap64 (bt s 1) = b := by rw [e1]; exact wid (by omega) (by omega)
      have evX : wrap64 (256 + wrap64 (bt s 1)) = 256 + b := by rw [ev1]; exact wid (by omega) (by omega)
      have hcN : codeN (12 :: b :: r) = if isOp (256 + b) = true then some (256 + b, r) else none := by simp [codeN]
      by_cases s268 : 256 + b = 268
      · have hX : wrap64 (256 + wrap64 (bt s 1)) = 268 := by rw [evX]; exact s268
        have HX := Aside0.mk hX
        have HE : Aside0 (headV s.size (codeN (12 :: b :: r)) = (268, 2)) := ⟨by rw [hcN, if_pos (show isOp (256 + b) = true by rw [s268]; decide), s268]; simp only [headV]; congr 1; rw [← hl]; simp; omega⟩
        clear hcN hl ho b0 b1 hv e0 ev hXX evX hb e1 ev1
        have q10 : (wrap64 (256 + wrap64 (bt s 1)) == 10) = false := by rw [hX]; decide
        have q11 : (wrap64 (256 + wrap64 (bt s 1)) == 11) = false := by rw [hX]; decide
        have q268 : (wrap64 (256 + wrap64 (bt s 1)) == 268) = true := by rw [hX]; decide
        clear hX
        go_enter Try.func55, Try.ntmps55
        go_wp2_with fail
        go_ret2
        rw [HE.out]
        exact ⟨by rw [HX.out]; rfl, Below.refl _ _⟩
      by_cases s272 : 256 + b = 272
      · have hX : wrap64 (256 + wrap64 (bt s 1)) = 272 := by rw [evX]; exact s272
        have HX := Aside0.mk hX
        have HE : Aside0 (headV s.size (codeN (12 :: b :: r)) = (272, 2)) := ⟨by rw [hcN, if_pos (show isOp (256 + b) = true by rw [s272]; decide), s272]; simp only [headV]; congr 1; rw [← hl]; simp; omega⟩
        clear hcN hl ho b0 b1 hv e0 ev hXX evX hb e1 ev1
        have q10 : (wrap64 (256 + wrap64 (bt s 1)) == 10) = false := by rw [hX]; decide
        have q11 : (wrap64 (256 + wrap64 (bt s 1)) == 11) = false := by rw [hX]; decide
        have q268 : (wrap64 (256 + wrap64 (bt s 1)) == 268) = false := by rw [hX]; decide
        have q272 : (wrap64 (256 + wrap64 (bt s 1)) == 272) = true := by rw [hX]; decide
        clear hX
        go_enter Try.func55, Try.ntmps55
        go_wp2_with fail
        go_ret2
        rw [HE.out]
        exact ⟨by rw [HX.out]; rfl, Below.refl _ _⟩
      by_cases s273 : 256 + b = 273
      · have hX : wrap64 (256 + wrap64 (bt s 1)) = 273 := by rw [evX]; exact s273
        have HX := Aside0.mk hX
        have HE : Aside0 (headV s.size (codeN (12 :: b :: r)) = (273, 2)) := ⟨by rw [hcN, if_pos (show isOp (256 + b) = true by rw [s273]; decide), s273]; simp only [headV]; congr 1; rw [← hl]; simp; omega⟩
        clear hcN hl ho b0 b1 hv e0 ev hXX evX hb e1 ev1
        have q10 : (wrap64 (256 + wrap64 (bt s 1)) == 10) = false := by rw [hX]; decide
        have q11 : (wrap64 (256 + wrap64 (bt s 1)) == 11) = false := by rw [hX]; decide
        have q268 : (wrap64 (256 + wrap64 (bt s 1)) == 268) = false := by rw [hX]; decide
        have q272 : (wrap64 (256 + wrap64 (bt s 1)) == 272) = false := by rw [hX]; decide
        have q273 : (wrap64 (256 + wrap64 (bt s 1)) == 273) = true := by rw [hX]; decide
        clear hX
        go_enter Try.func55, Try.ntmps55
        go_wp2_with fail
        go_ret2
        rw [HE.out]
        exact ⟨by rw [HX.out]; rfl, Below.refl _ _⟩
      have n268 : wrap64 (256 + wrap64 (bt s 1)) ≠ 268 := by rw [evX]; exact s268
      have n272 : wrap64 (256 + wrap64 (bt s 1)) ≠ 272 := by rw [evX]; exact s272
      have n273 : wrap64 (256 + wrap64 (bt s 1)) ≠ 273 := by rw [evX]; exact s273
      have n10 : wrap64 (256 + wrap64 (bt s 1)) ≠ 10 := by rw [evX]; omega
      have n11 : wrap64 (256 + wrap64 (bt s 1)) ≠ 11 := by rw [evX]; omega
      have HB : Aside0 (-9223372036854775808 ≤ wrap64 (256 + wrap64 (bt s 1)) ∧ wrap64 (256 + wrap64 (bt s 1)) ≤ 9223372036854775807) := ⟨by rw [evX]; omega⟩
      cases hn : need (256 + b) with
      | none =>
        have HN : Aside0 (need (wrap64 (256 + wrap64 (bt s 1))) = none) := ⟨by rw [evX]; exact hn⟩
        have HE : Aside0 (headV s.size (codeN (12 :: b :: r)) = (0, 0)) := ⟨by rw [hcN, if_neg (by unfold isOp; rw [hn]; simp; omega)]; rfl⟩
        clear hn hcN hl ho b0 b1 hv e0 ev hXX evX hb e1 ev1 s268 s272 s273
        have q10 : (wrap64 (256 + wrap64 (bt s 1)) == 10) = false := by simpa using n10
        have q11 : (wrap64 (256 + wrap64 (bt s 1)) == 11) = false := by simpa using n11
        have q268 : (wrap64 (256 + wrap64 (bt s 1)) == 268) = false := by simpa using n268
        have q272 : (wrap64 (256 + wrap64 (bt s 1)) == 272) = false := by simpa using n272
        have q273 : (wrap64 (256 + wrap64 (bt s 1)) == 273) = false := by simpa using n273
        clear n10 n11 n268 n272 n273
        go_enter Try.func55, Try.ntmps55
        go_wp2_with fail
        refine (operators_call _).mono ?_
        rintro e w1 ⟨g, rfl, hb, hg, hmap⟩
        have hlk := look_none hmap HB.out.1 HB.out.2 HN.out true
        simp only [if_true, opV] at hlk
        have HBW := Aside0.mk hb
        have hA : (w1.alloc (.cells #[.int .i64 0, .nilFunc] 146)).heap[w1.heap.size]? = some (.cells #[.int .i64 0, .nilFunc] 146 (0, 0)) := blk_new _ _
        have k1 : (w1.alloc (.cells #[.int .i64 0, .nilFunc] 146)).cell? ⟨w1.heap.size, 1, none⟩ = some .nilFunc := (blk_cell hA 1).trans rfl
        have f1 : (w1.alloc (.cells #[.int .i64 0, .nilFunc] 146)).frozen? ⟨w1.heap.size, 1, none⟩ = false := blk_frozen hA 1
        clear hmap hb hg hA
        go_wp2_with fail
        go_ret2
        rw [HE.out]
        exact ⟨rfl, below_then HBW.out HBW.out.size (Below.alloc (Below.refl _ _) (Nat.le_refl _) _)⟩
      | some n =>
        have HN : Aside0 (need (wrap64 (256 + wrap64 (bt s 1))) = some n) := ⟨by rw [evX]; exact hn⟩
        have HE : Aside0 (headV s.size (codeN (12 :: b :: r)) = (wrap64 (256 + wrap64 (bt s 1)), 2)) := ⟨by rw [hcN, if_pos (by unfold isOp; rw [hn]; simp), evX]; simp only [headV]; congr 1; rw [← hl]; simp; omega⟩
        clear hn hcN hl ho b0 b1 hv e0 ev hXX evX hb e1 ev1 s268 s272 s273
        have q10 : (wrap64 (256 + wrap64 (bt s 1)) == 10) = false := by simpa using n10
        have q11 : (wrap64 (256 + wrap64 (bt s 1)) == 11) = false := by simpa using n11
        have q268 : (wrap64 (256 + wrap64 (bt s 1)) == 268) = false := by simpa using n268
        have q272 : (wrap64 (256 + wrap64 (bt s 1)) == 272) = false := by simpa using n272
        have q273 : (wrap64 (256 + wrap64 (bt s 1)) == 273) = false := by simpa using n273
        clear n10 n11 n268 n272 n273
        go_enter Try.func55, Try.ntmps55
        go_wp2_with fail
        refine (operators_call _).mono ?_
        rintro e w1 ⟨g, rfl, hb, hg, hmap⟩
        have hlk := look_some hmap HB.out.1 HB.out.2 HN.out true
        simp only [if_true, opV] at hlk
        have HBW := Aside0.mk hb
        have hA : (w1.alloc (.cells #[.int .i64 (n : Int), .nilFunc] 146)).heap[w1.heap.size]? = some (.cells #[.int .i64 (n : Int), .nilFunc] 146 (0, 0)) := blk_new _ _
        have k1 : (w1.alloc (.cells #[.int .i64 (n : Int), .nilFunc] 146)).cell? ⟨w1.heap.size, 1, none⟩ = some .nilFunc := (blk_cell hA 1).trans rfl
        have f1 : (w1.alloc (.cells #[.int .i64 (n : Int), .nilFunc] 146)).frozen? ⟨w1.heap.size, 1, none⟩ = false := blk_frozen hA 1
        clear hmap hb hg hA
        go_wp2_with fail
        go_ret2
        rw [HE.out]
        exact ⟨rfl, below_then HBW.out HBW.out.size (Below.alloc (Below.refl _ _) (Nat.le_refl _) _)⟩
  · have p12 : (wrap64 (bt s 0) == 12) = false := by rw [ev]; simpa using c12
    have evX := ev
    have hcN : codeN (v :: r) = if isOp v = true then some (v, r) else none := by show (if v = 12 then _ else _) = _; rw [if_neg c12]
    by_cases s10 : v = 10
    · have hX : wrap64 (bt s 0) = 10 := by rw [evX]; exact s10
      have HX := Aside0.mk hX
      have HE : Aside0 (headV s.size (codeN (v :: r)) = (10, 1)) := ⟨by rw [hcN, if_pos (show isOp (v) = true by rw [s10]; decide), s10]; simp only [headV]; congr 1; rw [← hl]; simp; omega⟩
      clear hcN hl ho b0 b1 hv e0 ev hXX evX 
      have q10 : (wrap64 (bt s 0) == 10) = true := by rw [hX]; decide
      clear hX
      go_enter Try.func55, Try.ntmps55
      go_wp2_with fail
      go_ret2
      rw [HE.out]
      exact ⟨by rw [HX.out]; rfl, Below.refl _ _⟩
    by_cases s11 : v = 11
    · have hX : wrap64 (bt s 0) = 11 := by rw [evX]; exact s11
      have HX := Aside0.mk hX
      have HE : Aside0 (headV s.size (codeN (v :: r)) = (11, 1)) := ⟨by rw [hcN, if_pos (show isOp (v) = true by rw [s11]; decide), s11]; simp only [headV]; congr 1; rw [← hl]; simp; omega⟩
      clear hcN hl ho b0 b1 hv e0 ev hXX evX 
      have q10 : (wrap64 (bt s 0) == 10) = false := by rw [hX]; decide
      have q11 : (wrap64 (bt s 0) == 11) = true := by rw [hX]; decide
      clear hX
      go_enter Try.func55, Try.ntmps55
      go_wp2_with fail
      go_ret2
      rw [HE.out]
      exact ⟨by rw [HX.out]; rfl, Below.refl _ _⟩
    have n10 : wrap64 (bt s 0) ≠ 10 := by rw [evX]; exact s10
    have n11 : wrap64 (bt s 0) ≠ 11 := by rw [evX]; exact s11
    have n268 : wrap64 (bt s 0) ≠ 268 := by rw [evX]; omega
    have n272 : wrap64 (bt s 0) ≠ 272 := by rw [evX]; omega
    have n273 : wrap64 (bt s 0) ≠ 273 := by rw [evX]; omega
    have HB : Aside0 (-9223372036854775808 ≤ wrap64 (bt s 0) ∧ wrap64 (bt s 0) ≤ 9223372036854775807) := ⟨by rw [evX]; omega⟩
    cases hn : need (v) with
    | none =>
      have HN : Aside0 (need (wrap64 (bt s 0)) = none) := ⟨by rw [evX]; exact hn⟩
      have HE : Aside0 (headV s.size (codeN (v :: r)) = (0, 0)) := ⟨by rw [hcN, if_neg (by unfold isOp; rw [hn]; simp; omega)]; rfl⟩
      clear hn hcN hl ho b0 b1 hv e0 ev hXX evX  s10 s11
      have q10 : (wrap64 (bt s 0) == 10) = false := by simpa using n10
      have q11 : (wrap64 (bt s 0) == 11) = false := by simpa using n11
      have q268 : (wrap64 (bt s 0) == 268) = false := by simpa using n268
      have q272 : (wrap64 (bt s 0) == 272) = false := by simpa using n272
      have q273 : (wrap64 (bt s 0) == 273) = false := by simpa using n273
      clear n10 n11 n268 n272 n273
      go_enter Try.func55, Try.ntmps55
      go_wp2_with fail
      refine (operators_call _).mono ?_
      rintro e w1 ⟨g, rfl, hb, hg, hmap⟩
      have hlk := look_none hmap HB.out.1 HB.out.2 HN.out true
      simp only [if_true, opV] at hlk
      have HBW := Aside0.mk hb
      have hA : (w1.alloc (.cells #[.int .i64 0, .nilFunc] 146)).heap[w1.heap.size]? = some (.cells #[.int .i64 0, .nilFunc] 146 (0, 0)) := blk_new _ _
      have k1 : (w1.alloc (.cells #[.int .i64 0, .nilFunc] 146)).cell? ⟨w1.heap.size, 1, none⟩ = some .nilFunc := (blk_cell hA 1).trans rfl
      have f1 : (w1.alloc (.cells #[.int .i64 0, .nilFunc] 146)).frozen? ⟨w1.heap.size, 1, none⟩ = false := blk_frozen hA 1
      clear hmap hb hg hA
      go_wp2_with fail
      go_ret2
      rw [HE.out]
      exact ⟨rfl, below_then HBW.out HBW.out.size (Below.alloc (Below.refl _ _) (Nat.le_refl _) _)⟩
    | some n =>
      have HN : Aside0 (need (wrap64 (bt s 0)) = some n) := ⟨by rw [evX]; exact hn⟩
      have HE : Aside0 (headV s.size (codeN (v :: r)) = (wrap64 (bt s 0), 1)) := ⟨by rw [hcN, if_pos (by unfold isOp; rw [hn]; simp), evX]; simp only [headV]; congr 1; rw [← hl]; simp; omega⟩
      clear hn hcN hl ho b0 b1 hv e0 ev hXX evX  s10 s11
      have q10 : (wrap64 (bt s 0) == 10) = false := by simpa using n10
      have q11 : (wrap64 (bt s 0) == 11) = false := by simpa using n11
      have q268 : (wrap64 (bt s 0) == 268) = false := by simpa using n268
      have q272 : (wrap64 (bt s 0) == 272) = false := by simpa using n272
      have q273 : (wrap64 (bt s 0) == 273) = false := by simpa using n273
      clear n10 n11 n268 n272 n273
      go_enter Try.func55, Try.ntmps55
      go_wp2_with fail
      refine (operators_call _).mono ?_
      rintro e w1 ⟨g, rfl, hb, hg, hmap⟩
      have hlk := look_some hmap HB.out.1 HB.out.2 HN.out true
      simp only [if_true, opV] at hlk
      have HBW := Aside0.mk hb
      have hA : (w1.alloc (.cells #[.int .i64 (n : Int), .nilFunc] 146)).heap[w1.heap.size]? = some (.cells #[.int .i64 (n : Int), .nilFunc] 146 (0, 0)) := blk_new _ _
      have k1 : (w1.alloc (.cells #[.int .i64 (n : Int), .nilFunc] 146)).cell? ⟨w1.heap.size, 1, none⟩ = some .nilFunc := (blk_cell hA 1).trans rfl
      have f1 : (w1.alloc (.cells #[.int .i64 (n : Int), .nilFunc] 146)).frozen? ⟨w1.heap.size, 1, none⟩ = false := blk_frozen hA 1
      clear hmap hb hg hA
      go_wp2_with fail
      go_ret2
      rw [HE.out]
      exact ⟨rfl, below_then HBW.out HBW.out.size (Below.alloc (Below.refl _ _) (Nat.le_refl _) _)⟩
theorem ref_need_eq (op : Int) : chaseref33_need.f 5 op = some (match need op with | some n => (n : Int) | none => -1) := by
  by_cases h : op = 9 ∨ op = 14 ∨ op = 256 ∨ op = 4 ∨ op = 6 ∨ op = 7 ∨ op = 22 ∨ op = 1 ∨ op = 3 ∨ op = 5 ∨ op = 13 ∨ op = 21 ∨ op = 289 ∨ op = 30 ∨ op = 31 ∨ op = 8 ∨ op = 257 ∨ op = 258
  · rcases h with rfl | rfl | rfl | rfl | rfl | rfl | rfl | rfl | rfl | rfl | rfl | rfl | rfl | rfl | rfl | rfl | rfl | rfl <;> rfl
  · have hn : need op = none := by unfold need; rw [if_neg (by omega), if_neg (by omega), if_neg (by omega), if_neg (by omega), if_neg (by omega)]
    rw [hn]
    simp only [not_or] at h
    obtain ⟨g0, g1, g2, g3, g4, g5, g6, g7, g8, g9, g10, g11, g12, g13, g14, g15, g16, g17⟩ := h
    simp [chaseref33_need.f, chaseref33_need.j0, chaseref33_need.j1, chaseref33_need.j2, chaseref33_need.j3, *]
theorem ref_code_eq (s : ByteArray) (h : 0 < s.size) : chaseref33_Code.f 5 s = some (headV s.size (codeN (bytesOf s))) := by
  have hl := bytesOf_len s
  have ho := bytesOf_range s
  obtain ⟨l, hl'⟩ : ∃ l, bytesOf s = l := ⟨_, rfl⟩
  have b0 : bt s 0 = l.getD 0 0 := bt_of hl' 0
  have b1 : bt s 1 = l.getD 1 0 := bt_of hl' 1
  rw [hl'] at hl ho ⊢
  clear hl'
  obtain ⟨v, r, rfl⟩ : ∃ v r, l = v :: r := by
    rcases l with _ | ⟨v, r⟩
    · simp at hl; omega
    · exact ⟨v, r, rfl⟩
  have hv := ho v (by simp)
  have e0 : bt s 0 = v := b0
  have ev : wrap64 (bt s 0) = v := by rw [e0]; exact wid (by omega) (by omega)
  unfold chaseref33_Code.f
  rw [if_pos (by omega), ev]
  by_cases c12 : v = 12
  · subst c12
    rw [if_pos rfl]
    rcases r with _ | ⟨b, r⟩
    · rw [if_pos (by rw [← hl]; simp)]
      rfl
    · have hb := ho b (by simp)
      have e1 : bt s 1 = b := b1
      have ev1 : wrap64 (bt s 1) = b := by rw [e1]; exact wid (by omega) (by omega)
      have evX : wrap64 (256 + b) = 256 + b := wid (by omega) (by omega)
      have hsz : (s.size : Int) = 2 + r.length := by rw [← hl]; simp; omega
      have hcN : codeN (12 :: b :: r) = if isOp (256 + b) = true then some (256 + b, r) else none := by simp [codeN]
      rw [if_neg (by omega), if_pos (by omega), ev1, evX, ref_need_eq, hcN]
      simp only [Option.bind_some]
      cases hn : need (256 + b) with
      | some n =>
        simp only
        rw [if_pos (by omega), if_pos (by unfold isOp; rw [hn]; simp)]
        simp only [headV]
        congr 2; omega
      | none =>
        simp only
        rw [if_neg (by decide)]
        by_cases s1 : 256 + b = 10 ∨ 256 + b = 11 ∨ 256 + b = 268 ∨ 256 + b = 272 ∨ 256 + b = 273
        · rw [if_pos (show isOp (256 + b) = true by unfold isOp; rcases s1 with h | h | h | h | h <;> rw [h] <;> rfl)]
          have hh : headV s.size (some (256 + b, r)) = (256 + b, 2) := by simp only [headV]; congr 1; omega
          rw [hh]
          repeat' split
          all_goals first | rfl | omega
        · rw [if_neg (show ¬ isOp (256 + b) = true by unfold isOp; rw [hn]; simp; omega)]
          rw [if_neg (by omega), if_neg (by omega), if_neg (by omega), if_neg (by omega), if_neg (by omega)]
          rfl
  · have hcN : codeN (v :: r) = if isOp v = true then some (v, r) else none := by show (if v = 12 then _ else _) = _; rw [if_neg c12]
    have hsz : (s.size : Int) = 1 + r.length := by rw [← hl]; simp; omega
    rw [if_neg c12, ref_need_eq, hcN]
    simp only [Option.bind_some]
    cases hn : need v with
    | some n =>
      simp only
      rw [if_pos (by omega), if_pos (by unfold isOp; rw [hn]; simp)]
      simp only [headV]
      congr 2; omega
    | none =>
      simp only
      rw [if_neg (by decide)]
      by_cases s1 : v = 10 ∨ v = 11 ∨ v = 268 ∨ v = 272 ∨ v = 273
      · rw [if_pos (show isOp v = true by unfold isOp; rcases s1 with h | h | h | h | h <;> rw [h] <;> rfl)]
        have hh : headV s.size (some (v, r)) = (v, 1) := by simp only [headV]; congr 1; omega
        rw [hh]
        repeat' split
        all_goals first | rfl | omega
      · rw [if_neg (show ¬ isOp v = true by unfold isOp; rw [hn]; simp; omega)]
        rw [if_neg (by omega), if_neg (by omega), if_neg (by omega), if_neg (by omega), if_neg (by omega)]
        rfl
theorem codeN_drop {l : List Int} {n : Int} {r : List Int} (h : codeN l = some (n, r)) : ∃ k, 0 < k ∧ k ≤ l.length ∧ r = l.drop k := by
  unfold codeN at h
  repeat' split at h
  all_goals first | (cases h; done) | (injection h with h; injection h with h1 h2; subst h2; first | exact ⟨1, by decide, by simp, rfl⟩ | exact ⟨2, by decide, by simp, rfl⟩)
theorem codeN_range {l : List Int} (ho : Oct l) {n : Int} {r : List Int} (h : codeN l = some (n, r)) : 0 ≤ n ∧ n ≤ 511 := by
  rcases l with _ | ⟨v, l⟩
  · cases h
  have hv := ho v (by simp)
  unfold codeN at h
  repeat' split at h
  all_goals first
    | (cases h; done)
    | (injection h with h; injection h with h1 h2; subst h1; omega)
    | (rename_i n1 _ r1 w1 r2 heq hop; rw [heq] at ho; have hb := ho w1 (by simp); simp at h; omega)
    | (simp at *; omega)
end Go.Proofs.Ytimnohaalccdkaa.G33i
