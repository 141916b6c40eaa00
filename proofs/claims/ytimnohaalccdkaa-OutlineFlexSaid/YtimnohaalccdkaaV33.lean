/- The chapter's examples hold: works returns true (chapter 33). -/
import Derived.Test.YtimnohaalccdkaaE33
namespace Go.Proofs.Ytimnohaalccdkaa.V33
open Go.Proofs.Ytimnohaalccdkaa Go.Proofs.Ytimnohaalccdkaa.K33 Go.Proofs.Ytimnohaalccdkaa.L33 Go.Proofs.Ytimnohaalccdkaa.M33 Go.Proofs.Ytimnohaalccdkaa.G33a Go.Proofs.Ytimnohaalccdkaa.G33b Go.Proofs.Ytimnohaalccdkaa.G33c Go.Proofs.Ytimnohaalccdkaa.G33o Go.Proofs.Ytimnohaalccdkaa.G33p Go.Proofs.Ytimnohaalccdkaa.W33 Go.Proofs.Ytimnohaalccdkaa.D33 Go.Proofs.Ytimnohaalccdkaa.E33 Go.Proofs.Ytimnohaalccdkaa.P33a
open Go.RowKit Go.Proofs.YtimnohaalccdkaaW.PrintWords Go.Proofs.YtimnohaalccdkaaW.PrintLast Go.Proofs.YtimnohaalccdkaaW.PrintMore
open Go.Maps (Keyed)
set_option linter.unusedVariables false
set_option linter.unusedSimpArgs false
set_option maxRecDepth 100000
theorem draws_ok {w : World} {sb gv : Value} {ss : List ByteArray} {g : Gl} (h : StrsAt w sb ss) (hl : ss.length ≤ 1000000) (s : ByteArray) (hg : GlR w gv g) (l1 : g.2.2.1.length ≤ 100000) (l2 : g.2.2.2.length ≤ 100000) (hr : runG (ss.map bytesOf) (bytesOf s) = (g, 0)) :
    Calls Try.prog 23 #[.string s, gv, sb] w fun e w' => e = .returned (.bool true) ∧ Below w.heap.size w w' :=
  (draws_call h hl s hg l1 l2).mono fun e w' h => ⟨by rw [h.1, decide_eq_true hr], h.2⟩
theorem fails_ok {w : World} {sb : Value} {ss : List ByteArray} (h : StrsAt w sb ss) (hl : ss.length ≤ 1000000) (s : ByteArray) (x : Int) (hr : runG (ss.map bytesOf) (bytesOf s) = (g0, x)) :
    Calls Try.prog 31 #[.string s, .int .i64 x, sb] w fun e w' => e = .returned (.bool true) ∧ Below w.heap.size w w' :=
  (fails_call h hl s x).mono fun e w' h => ⟨by rw [h.1, decide_eq_true hr], h.2⟩
theorem strs_nil (w : World) : StrsAt w (.slice none 0 0) [] := ⟨none, 0, rfl, fun W _ i s h => by cases h⟩
theorem strs_new (w : World) (ss : List ByteArray) (c : Nat) (cs : Array Value) (hcs : cs = (ss.map Value.string).toArray) : StrsAt (w.alloc (.cells cs 9)) (.slice (some ⟨w.heap.size, 0, none⟩) ss.length c) ss := by
  subst hcs
  refine ⟨_, _, rfl, fun W hW i s hi => ⟨_, _, rfl, ?_⟩⟩
  rw [blk_cell (blk_below (blk_new _ _) hW)]
  simp [hi]
theorem rd_new (w : World) (xs : List Value) (t : TypeId) (n c : Nat) (cs : Array Value) (hcs : cs = xs.toArray) : Rd (w.alloc (.cells cs t)) (.slice (some ⟨w.heap.size, 0, none⟩) n c) n xs := by
  subst hcs
  refine ⟨_, _, rfl, fun W hW i s hi => ⟨_, _, rfl, ?_⟩⟩
  rw [blk_cell (blk_below (blk_new _ _) hW)]
  simp [hi]
theorem rd_nil (w : World) : Rd w (.slice none 0 0) 0 [] := ⟨none, 0, rfl, fun W _ i s h => by cases h⟩
def G1 : Gl := (50, 600, [(1, (50, 100), (0, 0), (0, 0)), (2, (250, 100), (0, 0), (0, 0)), (4, (0, 0), (0, 0), (0, 0))], [])
def G2 : Gl := (0, 0, [], [(false, 10, 9)])
theorem glr0 (w : World) : GlR w (.agg #[.int .i64 0, .int .i64 0, .slice none 0 0, .slice none 0 0]) g0 := ⟨_, _, rfl, rd_nil _, rd_nil _⟩
/-- Seen from below: what a proof of a map's walk needs. -/
theorem grown_of_below {w w1 : World} (hb : Below w.heap.size w w1) (row : Option Nat) : w.grownBy w1 row :=
  ⟨hb.os, hb.tape, hb.output, hb.size, fun i hi _ => hb.block i hi⟩
structure Brk (p : Prop) : Prop where
  out : p
theorem brkO {P : Program} {W : World} {ops : Array Oper} {rest : List Oper} {o : Oper} {a : Act} {Q : Exit → Act → World → Prop} {x : Op} (_ho : o.op = x) (h : Brk (wpList P ops Q (o :: rest) a W)) : wpList P ops Q (o :: rest) a W := h.out
set_option maxHeartbeats 8000000 in
theorem works_call (w : World) : Calls Try.prog 12 #[] w fun e w' => e = .returned (.bool true) ∧ Below w.heap.size w w' := by
  have hmm := @run_makeMap Try.prog
  go_enter Try.func12, Try.ntmps12
  go_wp2_with (first
    | (refine insert_own (H := Unit) rfl (.tmp 6) (.const (.int .i64 0)) (.const (.string ⟨#[139]⟩)) 81 rfl 3 9 keyed3 Try.underlying81 RE w.heap.size 0 (.map []) rfl (World.ownsMap_made w _ _ _) (by unfold maxLen; omega) _ _ (.int .i64 0) rfl rfl (Go.Maps.keyOf_int_mk Try.underlying3 (by decide)) _ _ (RE_mk _) ?_; intro wA ho1 hg1)
    | (refine insert_own (H := Unit) rfl (.tmp 6) (.const (.int .i64 108)) (.const (.string ⟨#[247, 0]⟩)) 81 rfl 3 9 keyed3 Try.underlying81 RE w.heap.size 1 _ rfl ho1 (by unfold maxLen; omega) _ _ (.int .i64 108) rfl rfl (Go.Maps.keyOf_int_mk Try.underlying3 (by decide)) _ _ (RE_mk _) ?_; intro wB ho2 hg2)
    | (refine insert_own (H := Unit) rfl (.tmp 6) (.const (.int .i64 (-1131))) (.const (.string ⟨#[254, 255]⟩)) 81 rfl 3 9 keyed3 Try.underlying81 RE w.heap.size 2 _ rfl ho2 (by unfold maxLen; omega) _ _ (.int .i64 (-1131)) rfl rfl (Go.Maps.keyOf_int_mk Try.underlying3 (by decide)) _ _ (RE_mk _) ?_; intro wC ho3 hg3)
    | (refine insert_own (H := Unit) rfl (.tmp 6) (.const (.int .i64 1132)) (.const (.string ⟨#[255, 0, 0, 4, 108]⟩)) 81 rfl 3 9 keyed3 Try.underlying81 RE w.heap.size 3 _ rfl ho3 (by unfold maxLen; omega) _ _ (.int .i64 1132) rfl rfl (Go.Maps.keyOf_int_mk Try.underlying3 (by decide)) _ _ (RE_mk _) ?_; intro wD ho4 hg4)
    | (at_range; refine wpList_range_own _ rfl (.tmp 7) 81 rfl 3 9 keyed3 Try.underlying81 RE w.heap.size 4 D4 rfl ho4 ?_; intro wE hrg hg5 hs5))
  have HRG := Aside0.mk hrg
  have hgE : w.grownBy wE (some w.heap.size) := (((((World.grownBy_alloc w (.map #[] 0) (some w.heap.size)).trans hg1).trans hg2).trans hg3).trans hg4).trans (hg5.but _)
  have HWE := Aside0.mk ((Below.refl w.heap.size w).grown hgE (Nat.le_refl _) (fun k e => by cases e; exact Nat.le_refl _))
  obtain ⟨bm, hbm⟩ : ∃ bm, w.heap.size = bm := ⟨_, rfl⟩
  obtain ⟨rr, hrr⟩ : ∃ rr, wD.heap.size = rr := ⟨_, rfl⟩
  have hrr8 : w.heap.size ≤ rr ∧ w.heap.size ≤ bm := by have := hg1.size; have := hg2.size; have := hg3.size; have := hg4.size; simp at *; omega
  rw [hbm, hrr] at HRG
  rw [hbm, hrr]
  clear hgE hrg ho1 ho2 ho3 ho4 hg1 hg2 hg3 hg4 hg5 hs5 hrr hmm
  go_loopw [] (fun wr => ∃ (left : Lit → Bool) (cnt : Nat), Aside0 (wr.ranges Try.prog 3 RE bm rr 4 D4 left cnt) ∧ Aside0 (∀ z, left z = true → Maps.has D4 z = true) ∧ Aside0 (Below w.heap.size w wr)) (fun wr => wr.rangeLeft bm rr)
  case atStart => exact ⟨_, _, HRG, ⟨fun _ h => h⟩, HWE⟩
  case round =>
    clear HRG HWE
    obtain ⟨left, cnt, HRG, HLE, HB⟩ := hrel
    go_wp2_with (refine brkO (x := .next (.tmp 8) false) rfl ?_)
    refine ⟨?_⟩
    refine wpList_next_ranges _ rfl _ rfl 3 keyed3 RE (Value.int .i64) (fun s : ByteArray => .string s) (fun key kl hk => by obtain ⟨x, rfl, _⟩ := Go.Maps.keyOf_int_inv Try.underlying3 hk; exact ⟨x, rfl⟩) RE_inv bm rr 4 D4 left cnt rfl HRG.out ?_ ?_
    · intro _ _
      clear HRG HLE
      go_frame
      go_wp2_with fail
      have hb1 : Below wr.heap.size wr _ := below_alloc (Below.refl _ _) (.cells (G1.2.2.1.flatMap stp).toArray 60)
      refine (draws_ok (strs_nil _) (by decide) ⟨#[189, 248, 236, 13, 239, 4, 247, 92, 6, 9, 14]⟩ (g := G1) ⟨_, _, rfl, rd_new wr (G1.2.2.1.flatMap stp) 60 3 3 _ rfl, rd_nil _⟩ (by decide) (by decide) ex1).mono ?_
      rintro e w1 ⟨rfl, hb2⟩
      have HB1 := Aside0.mk (below_step HB.out (below_step hb1 hb2))
      clear hb1 hb2 HB
      go_wp2_with fail
      have hb1 : Below w1.heap.size w1 _ := below_alloc (Below.refl _ _) (.cells (G2.2.2.2.flatMap stm).toArray 69)
      refine (draws_ok (strs_nil _) (by decide) ⟨#[139, 139, 13, 149, 148, 1, 14]⟩ (g := G2) ⟨_, _, rfl, rd_nil _, rd_new w1 (G2.2.2.2.flatMap stm) 69 1 1 _ rfl⟩ (by decide) (by decide) ex2).mono ?_
      rintro e w2 ⟨rfl, hb2⟩
      have HB2 := Aside0.mk (below_step HB1.out (below_step hb1 hb2))
      clear hb1 hb2 HB1
      go_wp2_with fail
      refine (draws_ok (strs_nil _) (by decide) ⟨#[139, 139, 13, 14, 14]⟩ (glr0 _) (by decide) (by decide) ex3).mono ?_
      rintro e w3 ⟨rfl, hb2⟩
      have HB3 := Aside0.mk (below_step HB2.out hb2)
      clear hb2 HB2
      go_wp2_with fail
      have hb1 : Below w3.heap.size w3 _ := below_alloc (Below.refl _ _) (.cells #[.string ⟨#[139, 139, 13, 11]⟩] 9)
      refine (draws_ok (strs_new w3 [⟨#[139, 139, 13, 11]⟩] 1 _ rfl) (by decide) ⟨#[139, 10, 14]⟩ (glr0 _) (by decide) (by decide) ex4).mono ?_
      rintro e w4 ⟨rfl, hb2⟩
      have HB4 := Aside0.mk (below_step HB3.out (below_step hb1 hb2))
      clear hb1 hb2 HB3
      go_wp2_with fail
      refine (fails_ok (strs_nil _) (by decide) ⟨#[139, 13]⟩ 39 ex5).mono ?_
      rintro e w5 ⟨rfl, hb2⟩
      have HB5 := Aside0.mk (below_step HB4.out hb2)
      clear hb2 HB4
      go_wp2_with fail
      refine (fails_ok (strs_nil _) (by decide) ⟨#[14]⟩ 39 ex6).mono ?_
      rintro e w6 ⟨rfl, hb2⟩
      have HB6 := Aside0.mk (below_step HB5.out hb2)
      clear hb2 HB5
      go_wp2_with fail
      have hb1 : Below w6.heap.size w6 _ := below_alloc (Below.refl _ _) (.cells #[.string ⟨#[139, 10]⟩] 9)
      refine (fails_ok (strs_new w6 [⟨#[139, 10]⟩] 1 _ rfl) (by decide) ⟨#[139, 139, 13, 139, 10, 14]⟩ 26 ex7).mono ?_
      rintro e w7 ⟨rfl, hb2⟩
      have HB7 := Aside0.mk (below_step HB6.out (below_step hb1 hb2))
      clear hb1 hb2 HB6
      go_wp2_with fail
      refine (check0 _).mono ?_
      rintro e w8 ⟨rfl, hb2⟩
      have HB8 := Aside0.mk (below_step HB7.out hb2)
      clear hb2 HB7
      go_wp2_with fail
      go_ret
      exact ⟨rfl, HB8.out⟩
    · intro x c kl y w1 cnt1 hkey hlk hRy hat hrg1 hlt hg1 hs1 hen
      obtain ⟨x', ex, rfl, hwx⟩ := Go.Maps.keyOf_int_inv Try.underlying3 hkey
      cases ex
      obtain ⟨hx32, rfl⟩ := entry x c y (HLE.out _ hlk) hRy hat
      have HRG1 := Aside0.mk hrg1
      have HLT := Aside0.mk hlt
      have HB1 := Aside0.mk (HB.out.grown hg1 HB.out.size (fun k e => by cases e; exact hrr8.1))
      clear hrg1 hlt hkey hlk hRy hat hg1 hs1 HB
      go_frame
      go_wp2_with fail
      refine (num_call hx32 _).mono ?_
      rintro e w2 ⟨rfl, hb2⟩
      have HRG2 := Aside0.mk (HRG1.out.kept (grown_of_below hb2 none) (by simp) (by simp))
      have HB2 := Aside0.mk (below_step HB1.out hb2)
      clear hb2
      dsimp only
      go_wp2_with fail
      exact ⟨⟨_, _, HRG2, ⟨fun z hz => HLE.out z (by simp only [Bool.and_eq_true] at hz; exact hz.1)⟩, HB2⟩, by have := HLT.out; rw [HRG2.out.left_eq, HRG.out.left_eq]; omega⟩
end Go.Proofs.Ytimnohaalccdkaa.V33
