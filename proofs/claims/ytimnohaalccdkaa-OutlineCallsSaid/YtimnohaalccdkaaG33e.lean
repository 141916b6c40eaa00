/- More path operators of the machine (chapter 33): closing 87, begin 88, end 89, nothing 94, confirm 95. -/
import Derived.Test.YtimnohaalccdkaaG33d
import Derived.BigRegion
import Derived.BigQuiet
namespace Go.Proofs.Ytimnohaalccdkaa.G33e
open Go.Proofs.Ytimnohaalccdkaa.K33 Go.Proofs.Ytimnohaalccdkaa.M33 Go.Proofs.Ytimnohaalccdkaa.G33a Go.Proofs.Ytimnohaalccdkaa.G33b Go.Proofs.Ytimnohaalccdkaa.G33c Go.Proofs.Ytimnohaalccdkaa.G33d Go.Proofs.Ytimnohaalccdkaa.P33a
open Go.RowKit Go.Proofs.YtimnohaalccdkaaW.PrintWords Go.Proofs.YtimnohaalccdkaaW.PrintLast Go.Proofs.YtimnohaalccdkaaW.PrintMore
set_option linter.unusedVariables false
set_option linter.unusedSimpArgs false
set_option maxRecDepth 100000
theorem MachL.none {W0 w : World} {b : Nat} {sb : Value} {m : M} (h : Mach W0 w b sb m) : MachL W0 w b sb m none [] := by
  obtain ⟨h1, h2, vs, vt, vk, A, c, vp, h3⟩ := h
  exact ⟨h1, h2, vs, vt, vk, A, c, vp, h3, .inl rfl, .inl rfl⟩
set_option maxHeartbeats 1000000 in
theorem closing_call {W0 w : World} {b : Nat} {sb : Value} {m : M} (h : Mach W0 w b sb m) (v : Value) :
    Calls Try.prog 87 #[.pointer (some ⟨b, 0, none⟩), v] w (Did W0 b sb (closeM m)) := by
  have HC : Aside0 (Calls Try.prog 103 #[.pointer (some ⟨b, 0, none⟩), .int .i64 4, .slice none 0 0] w (Did W0 b sb (drawM m 4 []))) := ⟨(draw_call (MachL.none h) 4 (by decide) (by decide) 0 (by simp) (by simp) (by simp) (fun x hx => by cases hx)).mono fun _ _ h => h.1⟩
  have HE : Aside0 (closeM m = match drawM m 4 [] with | .ok m => .ok { m with opn := false } | .error e => .error e) := ⟨by unfold closeM drawM; cases m.opn <;> rfl⟩
  clear h
  go_enter Try.func87, Try.ntmps87
  go_wp2_with fail
  refine HC.out.mono ?_
  intro e w3 hd
  obtain ⟨rfl, hf⟩ := did_split hd
  have HF := Aside0.mk hf
  clear hf hd
  cases hr : drawM m 4 [] with
  | error c3 =>
    rw [hr] at HF HE
    obtain ⟨o, c6⟩ := Left.cell HF.out.2 6 (by decide)
    have f6 := Left.frz HF.out.2 6
    go_wp2_with fail
    go_ret
    rw [HE.out]
    exact ⟨rfl, HF.out.1, Left.set HF.out.2 6 _⟩
  | ok m3 =>
    rw [hr] at HF HE
    obtain ⟨c6, f6⟩ := Mach.cell (show Mach W0 w3 b sb m3 from HF.out) 6 (.bool m3.opn) (fun _ _ _ _ _ => rfl)
    go_wp2_with fail
    go_ret
    rw [HE.out]
    have k0 := Mach.ok (show Mach W0 w3 b sb m3 from HF.out)
    exact ⟨rfl, Mach.set (show Mach W0 w3 b sb m3 from HF.out) 6 (.bool false) { m3 with opn := false } (fun _ _ _ _ _ => rfl) rfl rfl rfl rfl rfl ⟨k0.stack, k0.small, k0.res, k0.rsmall, k0.steps, k0.stems, k0.points, k0.x, k0.y, k0.side, k0.width, k0.count⟩⟩
set_option maxHeartbeats 1000000 in
theorem end_call {W0 w : World} {b : Nat} {sb : Value} {m : M} (h : Mach W0 w b sb m) (v : Value) :
    Calls Try.prog 89 #[.pointer (some ⟨b, 0, none⟩), v] w (Did W0 b sb (.ok { m with done := true })) := by
  obtain ⟨c13, f13⟩ := Mach.cell h 13 (.bool m.done) (fun _ _ _ _ _ => rfl)
  have HM := Aside0.mk h
  clear h
  go_enter Try.func89, Try.ntmps89
  go_wp2_with fail
  go_ret
  have k0 := Mach.ok HM.out
  exact ⟨rfl, Mach.set HM.out 13 (.bool true) { m with done := true } (fun _ _ _ _ _ => rfl) rfl rfl rfl rfl rfl ⟨k0.stack, k0.small, k0.res, k0.rsmall, k0.steps, k0.stems, k0.points, k0.x, k0.y, k0.side, k0.width, k0.count⟩⟩
theorem nothing_call {W0 w : World} {b : Nat} {sb : Value} {m : M} (h : Mach W0 w b sb m) (v : Value) :
    Calls Try.prog 94 #[.pointer (some ⟨b, 0, none⟩), v] w (Did W0 b sb (.ok m)) := by
  have HM := Aside0.mk h
  clear h
  go_enter Try.func94, Try.ntmps94
  go_wp2_with fail
  go_ret
  exact ⟨rfl, HM.out⟩
set_option maxHeartbeats 2000000 in
theorem confirm_call {W0 w : World} {b : Nat} {sb : Value} {m : M} {A : Option Addr} {x y : Int} (h : MachL W0 w b sb m A [x, y]) (c : Nat) (hc : 2 ≤ c) :
    Calls Try.prog 95 #[.pointer (some ⟨b, 0, none⟩), .slice A 2 c] w (Did W0 b sb (if x = m.x ∧ y = m.y then .ok m else .error 39)) := by
  obtain ⟨c4, f4⟩ := MachL.cell h 4 (.int .i64 m.x) (fun _ _ _ _ _ => rfl)
  obtain ⟨c5, f5⟩ := MachL.cell h 5 (.int .i64 m.y) (fun _ _ _ _ _ => rfl)
  obtain ⟨g, off, rfl, hcell⟩ := ints_cells h.ints (by simp)
  have l0 : w.cell? ⟨g, off, none⟩ = some (.int .i64 x) := by simpa using hcell 0 (by simp)
  have l1 : w.cell? ⟨g, off + 1, none⟩ = some (.int .i64 y) := by simpa using hcell 1 (by simp)
  have HM := Aside0.mk h.mach
  clear h hcell f4 f5
  by_cases hx : x = m.x
  · subst hx
    by_cases hy : y = m.y
    · subst hy
      rw [if_pos ⟨rfl, rfl⟩]
      go_enter Try.func95, Try.ntmps95
      go_wp2_with fail
      go_quiet (fail)
      go_wp2_with fail
      go_ret
      exact ⟨rfl, Mach.below HM.out (pw_below_drewN (Below.refl _ _) _)⟩
    · have HE : Aside0 ((if m.x = m.x ∧ y = m.y then (.ok m : Except Int M) else .error 39) = .error 39) := ⟨if_neg fun h => hy h.2⟩
      rw [HE.out]
      have t : (m.y == y) = false := by simp; exact fun e => hy e.symm
      have t2 : ¬ m.y = y := fun e => hy e.symm
      clear hy
      go_enter Try.func95, Try.ntmps95
      go_wp2_with fail
      go_quiet (fail)
      go_wp2_with fail
      go_ret
      exact ⟨rfl, .inr rfl, (Mach.left HM.out).below (pw_below_drewN (Below.refl _ _) _)⟩
  · have HE : Aside0 ((if x = m.x ∧ y = m.y then (.ok m : Except Int M) else .error 39) = .error 39) := ⟨if_neg fun h => hx h.1⟩
    rw [HE.out]
    have t : (m.x == x) = false := by simp; exact fun e => hx e.symm
    have t2 : ¬ m.x = x := fun e => hx e.symm
    clear hx
    go_enter Try.func95, Try.ntmps95
    go_wp2_with fail
    go_quiet (fail)
    go_wp2_with fail
    go_ret
    exact ⟨rfl, .inr rfl, (Mach.left HM.out).below (pw_below_drewN (Below.refl _ _) _)⟩
set_option maxHeartbeats 4000000 in
theorem begin_call {W0 w : World} {b : Nat} {sb : Value} {m : M} {A : Option Addr} {x y : Int} (h : MachL W0 w b sb m A [x, y]) (c : Nat) (hc : 2 ≤ c) (hs : Small [x, y]) :
    Calls Try.prog 88 #[.pointer (some ⟨b, 0, none⟩), .slice A 2 c] w (Did W0 b sb (beginM m x y)) := by
  have hok := Mach.ok h.mach
  have HM := Aside0.mk h
  have HL := Aside0.mk (Mach.left h.mach)
  have hi := h.ints
  obtain ⟨_, _, vs, vt, vk, Ar, cr, vp, hv, _⟩ := h
  have HBK := Aside0.mk hv.blk
  rcases hi with h0 | ⟨g, off, cs, rfl, hg, hx⟩
  · cases h0
  have hgb : g ≠ b := blk_ne hg hv.blk (by decide)
  obtain ⟨ws, hws⟩ : ∃ ws, w.setCell ⟨b, 10, none⟩ (.bool true) = ws := ⟨_, rfl⟩
  have HB1 : Aside0 (ws.heap[b]? = some (.cells ((mcells m sb vs vt vk (.slice Ar m.results.length cr) vp).setIfInBounds 10 (.bool true)) 96 (0, 0))) := ⟨by rw [← hws]; exact blk_set hv.blk 10 (.bool true)⟩
  have hg1 : ws.heap[g]? = some (.cells cs 3 (0, 0)) := by rw [← hws]; exact blk_far hg hgb _
  have c10 : w.cell? ⟨b, 10, none⟩ = some (.bool m.begun) := hv.cell 10
  have f10 : w.frozen? ⟨b, 10, none⟩ = false := hv.frz 10
  have l0 : ws.cell? ⟨g, off, none⟩ = some (.int .i64 x) := (blk_cell hg1 _).trans (hx 0 x rfl)
  have l1 : ws.cell? ⟨g, off + 1, none⟩ = some (.int .i64 y) := (blk_cell hg1 _).trans (hx 1 y rfl)
  have d0 : ws.cell? ⟨b, 0, none⟩ = some (.int .i64 m.side) := (blk_cell HB1.out 0).trans rfl
  have d1 : ws.cell? ⟨b, 1, none⟩ = some (.int .i64 m.width) := (blk_cell HB1.out 1).trans rfl
  have d4 : ws.cell? ⟨b, 4, none⟩ = some (.int .i64 m.x) := (blk_cell HB1.out 4).trans rfl
  have d5 : ws.cell? ⟨b, 5, none⟩ = some (.int .i64 m.y) := (blk_cell HB1.out 5).trans rfl
  have e0 : ws.frozen? ⟨b, 0, none⟩ = false := blk_frozen HB1.out 0
  have e1 : ws.frozen? ⟨b, 1, none⟩ = false := blk_frozen HB1.out 1
  have e4 : ws.frozen? ⟨b, 4, none⟩ = false := blk_frozen HB1.out 4
  have e5 : ws.frozen? ⟨b, 5, none⟩ = false := blk_frozen HB1.out 5
  have HG1 := Aside0.mk hg1
  have HX := Aside0.mk hx
  have HOK := Aside0.mk hok
  have HGB := Aside0.mk hgb
  have HMS : Aside0 (Mach W0 ws b sb { m with begun := true }) := ⟨by rw [← hws]; exact Mach.set HM.out.mach 10 (.bool true) { m with begun := true } (fun _ _ _ _ _ => rfl) rfl rfl rfl rfl rfl ⟨hok.stack, hok.small, hok.res, hok.rsmall, hok.steps, hok.stems, hok.points, hok.x, hok.y, hok.side, hok.width, hok.count⟩⟩
  clear hx hg hg1 hv hok hgb
  go_enter Try.func88, Try.ntmps88
  go_wp2_with fail
  clear hws c10 f10
  go_region
  have HGZ : Aside0 (((((ws.setCell ⟨b, 0, none⟩ (.int .i64 x)).setCell ⟨b, 1, none⟩ (.int .i64 y)).setCell ⟨b, 4, none⟩ (.int .i64 x)).setCell ⟨b, 5, none⟩ (.int .i64 0)).drew.heap[g]? = some (.cells cs 3 (0, 0))) := ⟨blk_far (blk_far (blk_far (blk_far HG1.out HGB.out _) HGB.out _) HGB.out _) HGB.out _⟩
  have HLZ : Aside0 (M33.Left W0 ((((ws.setCell ⟨b, 0, none⟩ (.int .i64 x)).setCell ⟨b, 1, none⟩ (.int .i64 y)).setCell ⟨b, 4, none⟩ (.int .i64 x)).setCell ⟨b, 5, none⟩ (.int .i64 0)).drew b) := ⟨Left.below ((((Mach.left HMS.out).set 0 _).set 1 _ |>.set 4 _).set 5 _) (Below.drew (Below.refl _ _))⟩
  have HMZ : Aside0 ((inn x && inn y) = true → Mach W0 ((((ws.setCell ⟨b, 0, none⟩ (.int .i64 x)).setCell ⟨b, 1, none⟩ (.int .i64 y)).setCell ⟨b, 4, none⟩ (.int .i64 x)).setCell ⟨b, 5, none⟩ (.int .i64 0)).drew b sb { m with begun := true, side := x, width := y, x := x, y := 0 }) := ⟨fun hin => by
    have hin2 : inn x = true ∧ inn y = true := by simpa using hin
    have k0 := HOK.out
    have ix := inn_bd hin2.1
    have iy := inn_bd hin2.2
    have m1 := Mach.set HMS.out 0 (.int .i64 x) { m with begun := true, side := x } (fun _ _ _ _ _ => rfl) rfl rfl rfl rfl rfl ⟨k0.stack, k0.small, k0.res, k0.rsmall, k0.steps, k0.stems, k0.points, k0.x, k0.y, ix, k0.width, k0.count⟩
    have m2 := Mach.set m1 1 (.int .i64 y) { m with begun := true, side := x, width := y } (fun _ _ _ _ _ => rfl) rfl rfl rfl rfl rfl ⟨k0.stack, k0.small, k0.res, k0.rsmall, k0.steps, k0.stems, k0.points, k0.x, k0.y, ix, iy, k0.count⟩
    have m3 := Mach.set m2 4 (.int .i64 x) { m with begun := true, side := x, width := y, x := x } (fun _ _ _ _ _ => rfl) rfl rfl rfl rfl rfl ⟨k0.stack, k0.small, k0.res, k0.rsmall, k0.steps, k0.stems, k0.points, ix, k0.y, ix, iy, k0.count⟩
    have m4 := Mach.set m3 5 (.int .i64 0) { m with begun := true, side := x, width := y, x := x, y := 0 } (fun _ _ _ _ _ => rfl) rfl rfl rfl rfl rfl ⟨k0.stack, k0.small, k0.res, k0.rsmall, k0.steps, k0.stems, k0.points, ix, ⟨by show (-32000 : Int) ≤ 0; decide, by show (0 : Int) ≤ 32000; decide⟩, ix, iy, k0.count⟩
    exact Mach.drew m4⟩
  generalize ((((ws.setCell ⟨b, 0, none⟩ (.int .i64 x)).setCell ⟨b, 1, none⟩ (.int .i64 y)).setCell ⟨b, 4, none⟩ (.int .i64 x)).setCell ⟨b, 5, none⟩ (.int .i64 0)).drew = wz at HGZ HLZ HMZ ⊢
  have HR : ReadsInt wz .i64 (some ⟨g, off, none⟩) [x, y].length [x, y] := ints_reads (.inr ⟨g, off, cs, rfl, HGZ.out, HX.out⟩) (by simp)
  have HC := Aside0.mk (outline_within_int.calls 3 (some ⟨g, off, none⟩) c [x, y] _ _ (kd_of_reads HR) (by simpa using hc) (within_eq x y))
  clear l0 l1 d0 d1 d4 d5 e0 e1 e4 e5 HR
  go_wp2_with fail
  refine HC.out.mono ?_
  rintro e w5 ⟨rfl, hd5⟩
  have HB5 := Aside0.mk hd5.below
  clear hd5
  by_cases hin : (inn x && inn y) = true
  · rw [if_pos hin]
    have HE : Aside0 (beginM m x y = .ok { m with begun := true, side := x, width := y, x := x, y := 0 }) := ⟨by unfold beginM; rw [if_pos hin]⟩
    have HIN := Aside0.mk hin
    clear hin
    go_wp2_with fail
    go_ret
    rw [HE.out]
    exact ⟨rfl, Mach.below (HMZ.out HIN.out) HB5.out⟩
  · rw [if_neg hin]
    have HE : Aside0 (beginM m x y = .error 26) := ⟨by unfold beginM; rw [if_neg hin]⟩
    clear hin
    go_wp2_with fail
    go_ret
    rw [HE.out]
    exact ⟨rfl, .inl rfl, HLZ.out.below HB5.out⟩
end Go.Proofs.Ytimnohaalccdkaa.G33e
