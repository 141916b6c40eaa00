/- Several texts of this claim, one behind the other. -/
import Derived.Test.YtimnohaalccdkaaG33c
import Derived.Deep.RegionHeld3
import Derived.BigRegion
import Derived.BigQuiet
/- Path operators of the machine (chapter 33): draw 103, line 83, hline 84, vline 85, curve 86, vhcurve 92, hvcurve 93, move 90, hmove 91, vmove 82. -/
namespace Go.Proofs.Ytimnohaalccdkaa.G33d
open Go.Proofs.Ytimnohaalccdkaa.K33 Go.Proofs.Ytimnohaalccdkaa.M33 Go.Proofs.Ytimnohaalccdkaa.G33a Go.Proofs.Ytimnohaalccdkaa.G33b Go.Proofs.Ytimnohaalccdkaa.G33c Go.Proofs.Ytimnohaalccdkaa.P33a
open Go.RowKit Go.Proofs.YtimnohaalccdkaaW.PrintWords Go.Proofs.YtimnohaalccdkaaW.PrintLast Go.Proofs.YtimnohaalccdkaaW.PrintMore
set_option linter.unusedVariables false
set_option linter.unusedSimpArgs false
set_option maxRecDepth 100000
/-- A new list of whole numbers beside the machine. -/
theorem MachL.lit {W0 w : World} {b : Nat} {sb : Value} {m : M} (h : Mach W0 w b sb m) (xs : List Int) : MachL W0 (w.alloc (.cells (nums .i64 xs).toArray 3)) b sb m (some ⟨w.heap.size, 0, none⟩) xs := by
  obtain ⟨h1, h2, vs, vt, vk, A, c, vp, h3⟩ := h
  refine ⟨below_alloc h1 _, h2, vs, vt, vk, A, c, vp, h3.below (below_alloc (Below.refl _ _) _), .inr ⟨w.heap.size, 0, _, rfl, blk_new _ _, fun i x hx => ?_⟩, .inr fun a ha hk => ?_⟩
  · simp [nums, hx]
  · injection ha with ha
    subst ha
    have := own_lt h3.stack _ hk
    simp only at this
    omega
theorem MachL.small {W0 w : World} {b : Nat} {sb : Value} {m : M} {A : Option Addr} {l : List Int} (h : MachL W0 w b sb m A l) (w' : World) (hb : Below w.heap.size w w') : MachL W0 w' b sb m A l := by
  obtain ⟨h1, h2, vs, vt, vk, Ar, c, vp, h3, h4, h5⟩ := h
  exact ⟨below_then h1 h1.size hb, h2, vs, vt, vk, Ar, c, vp, h3.below hb, h4.below hb, h5⟩
/-- The number of an error, 0 if there is none. -/
def ec : Except Int M → Int
  | .error c => c
  | .ok _ => 0
def Fin (W0 : World) (b : Nat) (sb : Value) (r : Except Int M) (w' : World) : Prop :=
  match r with
  | .error c => (c = 26 ∨ c = 39) ∧ M33.Left W0 w' b
  | .ok m => Mach W0 w' b sb m
theorem did_split {W0 w' : World} {b : Nat} {sb : Value} {r : Except Int M} {e : Ending} (h : Did W0 b sb r e w') : e = .returned (.int .i64 (ec r)) ∧ Fin W0 b sb r w' := by
  cases r with
  | error c => exact ⟨h.1, h.2⟩
  | ok m => exact h
theorem did_join {W0 w' : World} {b : Nat} {sb : Value} {r : Except Int M} (h : Fin W0 b sb r w') : Did W0 b sb r (.returned (.int .i64 (ec r))) w' := by
  cases r with
  | error c => exact ⟨rfl, h⟩
  | ok m => exact ⟨rfl, h⟩
/-- A field that is no list is stored. -/
theorem MachL.set {W0 w : World} {b : Nat} {sb : Value} {m : M} {A : Option Addr} {l : List Int} (h : MachL W0 w b sb m A l) (i : Nat) (u : Value) (m' : M)
    (hc : ∀ vs vt vk vr vp, (mcells m sb vs vt vk vr vp).setIfInBounds i u = mcells m' sb vs vt vk vr vp)
    (e1 : m'.steps = m.steps) (e2 : m'.stems = m.stems) (e3 : m'.points = m.points) (e4 : m'.stack = m.stack) (e5 : m'.results = m.results) (ok : Ok m') :
    MachL W0 (w.setCell ⟨b, i, none⟩ u) b sb m' A l := by
  obtain ⟨h1, h2, vs, vt, vk, Ar, c, vp, h3, h4, h5⟩ := h
  exact ⟨below_set h1 h2, h2, vs, vt, vk, Ar, c, vp, h3.set i u m' (by rw [hc, e5]) e1 e2 e3 e4 e5 ok, ints_set h4 h3.blk (by decide) i u, h5⟩
theorem MachL.cell {W0 w : World} {b : Nat} {sb : Value} {m : M} {A : Option Addr} {l : List Int} (h : MachL W0 w b sb m A l) (i : Nat) (u : Value) (hc : ∀ vs vt vk vr vp, (mcells m sb vs vt vk vr vp)[i]? = some u) : w.cell? ⟨b, i, none⟩ = some u ∧ w.frozen? ⟨b, i, none⟩ = false := by
  obtain ⟨h1, h2, vs, vt, vk, Ar, c, vp, h3, h4, h5⟩ := h
  exact ⟨(h3.cell i).trans (hc _ _ _ _ _), h3.frz i⟩
theorem Mach.cell {W0 w : World} {b : Nat} {sb : Value} {m : M} (h : Mach W0 w b sb m) (i : Nat) (u : Value) (hc : ∀ vs vt vk vr vp, (mcells m sb vs vt vk vr vp)[i]? = some u) : w.cell? ⟨b, i, none⟩ = some u ∧ w.frozen? ⟨b, i, none⟩ = false := by
  obtain ⟨h1, h2, vs, vt, vk, Ar, c, vp, h3⟩ := h
  exact ⟨(h3.cell i).trans (hc _ _ _ _ _), h3.frz i⟩
theorem Mach.set {W0 w : World} {b : Nat} {sb : Value} {m : M} (h : Mach W0 w b sb m) (i : Nat) (u : Value) (m' : M)
    (hc : ∀ vs vt vk vr vp, (mcells m sb vs vt vk vr vp).setIfInBounds i u = mcells m' sb vs vt vk vr vp)
    (e1 : m'.steps = m.steps) (e2 : m'.stems = m.stems) (e3 : m'.points = m.points) (e4 : m'.stack = m.stack) (e5 : m'.results = m.results) (ok : Ok m') :
    Mach W0 (w.setCell ⟨b, i, none⟩ u) b sb m' := by
  obtain ⟨h1, h2, vs, vt, vk, Ar, c, vp, h3⟩ := h
  exact ⟨below_set h1 h2, h2, vs, vt, vk, Ar, c, vp, h3.set i u m' (by rw [hc, e5]) e1 e2 e3 e4 e5 ok⟩
set_option maxHeartbeats 1000000 in
theorem draw_call {W0 w : World} {b : Nat} {sb : Value} {m : M} {A : Option Addr} {l : List Int} (h : MachL W0 w b sb m A l) (k : Int) (hk1 : 1 ≤ k) (hk2 : k ≤ 4) (c : Nat) (hc : l.length ≤ c) (h2 : l.length % 2 = 0) (h6 : l.length ≤ 6) (hs : Small l) :
    Calls Try.prog 103 #[.pointer (some ⟨b, 0, none⟩), .int .i64 k, .slice A l.length c] w (fun e w' => Did W0 b sb (drawM m k l) e w' ∧ Keeps w w') := by
  have c6 := (MachL.cell h 6 (.bool m.opn) (fun _ _ _ _ _ => rfl)).1
  have HB := Aside0.mk (Mach.left h.mach)
  have HC := Aside0.mk (step_call h k hk1 hk2 c hc h2 h6 hs)
  cases ho : m.opn with
  | false =>
    have HE : Aside0 (drawM m k l = .error 39) := ⟨by unfold drawM; rw [ho]; rfl⟩
    rw [ho] at c6
    rw [HE.out]
    clear h HC ho
    go_enter Try.func103, Try.ntmps103
    go_wp2_with fail
    go_ret
    exact ⟨⟨rfl, .inr rfl, HB.out⟩, keeps_below (Below.refl _ _)⟩
  | true =>
    have HE : Aside0 (drawM m k l = stepM m k l) := ⟨by unfold drawM; rw [ho]; rfl⟩
    rw [ho] at c6
    rw [HE.out]
    clear h ho
    go_enter Try.func103, Try.ntmps103
    go_wp2_with fail
    refine HC.out.mono ?_
    rintro e w3 ⟨hd, hk⟩
    obtain ⟨rfl, hf⟩ := did_split hd
    have HF := Aside0.mk hf
    have HK := Aside0.mk hk
    clear hf hd hk
    go_wp2_with fail
    go_ret
    exact ⟨did_join HF.out, HK.out⟩
set_option maxHeartbeats 2000000 in
theorem move_call {W0 w : World} {b : Nat} {sb : Value} {m : M} {A : Option Addr} {x y : Int} (h : MachL W0 w b sb m A [x, y]) (c : Nat) (hc : 2 ≤ c) (hs : Small [x, y]) :
    Calls Try.prog 90 #[.pointer (some ⟨b, 0, none⟩), .slice A 2 c] w (Did W0 b sb (moveM m x y)) := by
  have hok := Mach.ok h.mach
  have c11 := (MachL.cell h 11 (.bool m.flex) (fun _ _ _ _ _ => rfl)).1
  have HM := Aside0.mk h
  have hs' := hs
  unfold Small at hs'
  simp only [List.mem_cons, List.not_mem_nil, or_false, forall_eq_or_imp, forall_eq] at hs'
  cases ho : m.flex with
  | true =>
    rw [ho] at c11
    obtain ⟨c4, f4⟩ := MachL.cell h 4 (.int .i64 m.x) (fun _ _ _ _ _ => rfl)
    obtain ⟨c5, f5⟩ := MachL.cell h 5 (.int .i64 m.y) (fun _ _ _ _ _ => rfl)
    obtain ⟨g, off, rfl, hcell⟩ := ints_cells h.ints (by simp)
    have l0 : w.cell? ⟨g, off, none⟩ = some (.int .i64 x) := by simpa using hcell 0 (by simp)
    have l1 : w.cell? ⟨g, off + 1, none⟩ = some (.int .i64 y) := by simpa using hcell 1 (by simp)
    have k1 : IntKind.i64.wrap (m.x + x) = m.x + x := IntWalk.i64_in _ (by have := hok.x; omega)
    have k2 : IntKind.i64.wrap (m.y + y) = m.y + y := IntWalk.i64_in _ (by have := hok.y; omega)
    have HE : Aside0 (moveM m x y = if (inn (m.x + x) && inn (m.y + y)) = true then .ok { m with x := m.x + x, y := m.y + y } else .error 26) := ⟨by unfold moveM; rw [ho]; rfl⟩
    have HOK := Aside0.mk hok
    obtain ⟨X, hX⟩ : ∃ X, m.x + x = X := ⟨_, rfl⟩
    obtain ⟨Y, hY⟩ : ∃ Y, m.y + y = Y := ⟨_, rfl⟩
    rw [hX, hY] at HE
    rw [hX] at k1
    rw [hY] at k2
    clear hs hs' hcell hok ho h
    go_enter Try.func90, Try.ntmps90
    go_wp2_with fail
    go_still_tail 25, (by kernel_rfl)
    change wpList _ _ _ _ _ w.drew
    have HM2 := Aside0.mk (MachL.small HM.out w.drew (Below.drew (Below.refl _ _)))
    have c4 : w.drew.cell? ⟨b, 4, none⟩ = some (.int .i64 m.x) := c4
    have c5 : w.drew.cell? ⟨b, 5, none⟩ = some (.int .i64 m.y) := c5
    have f4 : w.drew.frozen? ⟨b, 4, none⟩ = false := f4
    have f5 : w.drew.frozen? ⟨b, 5, none⟩ = false := f5
    generalize w.drew = w2 at HM2 c4 c5 f4 f5 ⊢
    clear hX hY
    have HB3 : Aside0 (M33.Left W0 ((w2.setCell ⟨b, 4, none⟩ (.int .i64 X)).setCell ⟨b, 5, none⟩ (.int .i64 Y)) b) := ⟨((Mach.left HM2.out.mach).set 4 _).set 5 _⟩
    have HM3 : Aside0 ((inn X && inn Y) = true → Mach W0 ((w2.setCell ⟨b, 4, none⟩ (.int .i64 X)).setCell ⟨b, 5, none⟩ (.int .i64 Y)) b sb { m with x := X, y := Y }) := ⟨fun hin => by
      have hin2 : inn X = true ∧ inn Y = true := by simpa using hin
      have k0 := HOK.out
      have kk : Ok { m with x := X } := ⟨k0.stack, k0.small, k0.res, k0.rsmall, k0.steps, k0.stems, k0.points, inn_bd hin2.1, k0.y, k0.side, k0.width, k0.count⟩
      have kk2 : Ok { m with x := X, y := Y } := ⟨k0.stack, k0.small, k0.res, k0.rsmall, k0.steps, k0.stems, k0.points, inn_bd hin2.1, inn_bd hin2.2, k0.side, k0.width, k0.count⟩
      exact Mach.set (Mach.set HM2.out.mach 4 (.int .i64 X) { m with x := X } (fun _ _ _ _ _ => rfl) rfl rfl rfl rfl rfl kk) 5 (.int .i64 Y) { m with x := X, y := Y } (fun _ _ _ _ _ => rfl) rfl rfl rfl rfl rfl kk2⟩
    obtain ⟨_, _, vs, vt, vk, Ar, cr, vp, hv, _⟩ := HM2.out
    have d4 : ((w2.setCell ⟨b, 4, none⟩ (.int .i64 X)).setCell ⟨b, 5, none⟩ (.int .i64 Y)).cell? ⟨b, 4, none⟩ = some (.int .i64 X) := blk_cell (blk_set (blk_set hv.blk 4 _) 5 _) 4
    have d5 : ((w2.setCell ⟨b, 4, none⟩ (.int .i64 X)).setCell ⟨b, 5, none⟩ (.int .i64 Y)).cell? ⟨b, 5, none⟩ = some (.int .i64 Y) := blk_cell (blk_set (blk_set hv.blk 4 _) 5 _) 5
    have f5' : (w2.setCell ⟨b, 4, none⟩ (.int .i64 X)).frozen? ⟨b, 5, none⟩ = false := blk_frozen (blk_set hv.blk 4 _) 5
    have c5' : (w2.setCell ⟨b, 4, none⟩ (.int .i64 X)).cell? ⟨b, 5, none⟩ = some (.int .i64 m.y) := blk_cell (blk_set hv.blk 4 _) 5
    clear hv HM2
    go_wp2_with fail
    generalize (w2.setCell ⟨b, 4, none⟩ (.int .i64 X)).setCell ⟨b, 5, none⟩ (.int .i64 Y) = w3 at HB3 HM3 d4 d5 ⊢
    clear c4 c5 f4 f5 f5' c5' k1 k2
    go_still_tail 12, (by kernel_rfl)
    change wpList _ _ _ _ _ w3.drew
    have HB4 := Aside0.mk (HB3.out.below (Below.drew (Below.refl _ _)))
    have HM4 := Aside0.mk (fun h => Mach.drew (HM3.out h))
    generalize w3.drew = w4 at HB4 HM4 ⊢
    clear d4 d5 HB3 HM3
    go_wp2_with fail
    refine (within_two X Y w4).mono ?_
    rintro e w5 ⟨rfl, hd5⟩
    have hb5 := below_step (below_alloc (Below.refl _ w4) (.cells #[.int .i64 X, .int .i64 Y] 3)) hd5.below
    have HB5 := Aside0.mk hb5
    clear hd5 hb5
    by_cases hin : (inn X && inn Y) = true
    · rw [if_pos hin] at HE ⊢
      have HIN := Aside0.mk hin
      clear hin
      go_wp2_with fail
      go_ret
      rw [HE.out]
      exact ⟨rfl, Mach.below (HM4.out HIN.out) HB5.out⟩
    · rw [if_neg hin] at HE ⊢
      clear hin
      go_wp2_with fail
      go_ret
      rw [HE.out]
      exact ⟨rfl, .inl rfl, HB4.out.below HB5.out⟩
  | false =>
    rw [ho] at c11
    have HE : Aside0 (moveM m x y = stepM { m with opn := true } 1 [x, y]) := ⟨by unfold moveM; rw [ho]; rfl⟩
    obtain ⟨c6, f6⟩ := MachL.cell h 6 (.bool m.opn) (fun _ _ _ _ _ => rfl)
    have HOK : Aside0 (Ok { m with opn := true }) := ⟨⟨hok.stack, hok.small, hok.res, hok.rsmall, hok.steps, hok.stems, hok.points, hok.x, hok.y, hok.side, hok.width, hok.count⟩⟩
    have HM2 := Aside0.mk (MachL.set h 6 (.bool true) { m with opn := true } (fun _ _ _ _ _ => rfl) rfl rfl rfl rfl rfl HOK.out)
    have HC := Aside0.mk ((step_call HM2.out 1 (by decide) (by decide) c hc (by simp) (by simp) hs).mono fun _ _ h => h.1)
    rw [HE.out]
    clear h hs hs' hok ho
    go_enter Try.func90, Try.ntmps90
    go_wp2_with fail
    refine HC.out.mono ?_
    intro e w3 hd
    obtain ⟨rfl, hf⟩ := did_split hd
    have HF := Aside0.mk hf
    clear hf hd
    go_wp2_with fail
    go_ret
    exact did_join HF.out
set_option maxHeartbeats 1000000 in
theorem line_call {W0 w : World} {b : Nat} {sb : Value} {m : M} {A : Option Addr} {p0 p1 : Int} (h : MachL W0 w b sb m A [p0, p1]) (c : Nat) (hc : 2 ≤ c) (hs : Small [p0, p1]) :
    Calls Try.prog 83 #[.pointer (some ⟨b, 0, none⟩), .slice A 2 c] w (Did W0 b sb (drawM m 2 [p0, p1])) := by
  have HC := Aside0.mk ((draw_call h 2 (by decide) (by decide) c hc (by simp) (by simp) hs).mono fun _ _ h => h.1)
  clear h hs
  go_enter Try.func83, Try.ntmps83
  go_wp2_with fail
  refine HC.out.mono ?_
  intro e w3 hd
  obtain ⟨rfl, hf⟩ := did_split hd
  have HF := Aside0.mk hf
  clear hf hd
  go_wp2_with fail
  go_ret
  exact did_join HF.out
set_option maxHeartbeats 1000000 in
theorem curve_call {W0 w : World} {b : Nat} {sb : Value} {m : M} {A : Option Addr} {p0 p1 p2 p3 p4 p5 : Int} (h : MachL W0 w b sb m A [p0, p1, p2, p3, p4, p5]) (c : Nat) (hc : 6 ≤ c) (hs : Small [p0, p1, p2, p3, p4, p5]) :
    Calls Try.prog 86 #[.pointer (some ⟨b, 0, none⟩), .slice A 6 c] w (Did W0 b sb (drawM m 3 [p0, p1, p2, p3, p4, p5])) := by
  have HC := Aside0.mk ((draw_call h 3 (by decide) (by decide) c hc (by simp) (by simp) hs).mono fun _ _ h => h.1)
  clear h hs
  go_enter Try.func86, Try.ntmps86
  go_wp2_with fail
  refine HC.out.mono ?_
  intro e w3 hd
  obtain ⟨rfl, hf⟩ := did_split hd
  have HF := Aside0.mk hf
  clear hf hd
  go_wp2_with fail
  go_ret
  exact did_join HF.out
set_option maxHeartbeats 1000000 in
theorem hline_call {W0 w : World} {b : Nat} {sb : Value} {m : M} {A : Option Addr} {p0 : Int} (h : MachL W0 w b sb m A [p0]) (c : Nat) (hc : 1 ≤ c) (hs : Small [p0]) :
    Calls Try.prog 84 #[.pointer (some ⟨b, 0, none⟩), .slice A 1 c] w (Did W0 b sb (drawM m 2 [p0, 0])) := by
  have hsl : Small [p0, 0] := fun x hx => by
    simp only [List.mem_cons, List.not_mem_nil, or_false] at hx
    have k0 := hs
    unfold Small at k0
    simp only [List.mem_cons, List.not_mem_nil, or_false, forall_eq_or_imp, forall_eq] at k0
    omega
  have HSL := Aside0.mk hsl
  have HM := Aside0.mk h
  obtain ⟨g, off, rfl, hcell⟩ := ints_cells h.ints (by simp)
  have l0 : w.cell? ⟨g, off, none⟩ = some (.int .i64 p0) := by simpa using hcell 0 (by simp)
  clear hcell hs hsl h
  go_enter Try.func84, Try.ntmps84
  go_wp2_with fail
  have HC : Aside0 (Calls Try.prog 103 #[.pointer (some ⟨b, 0, none⟩), .int .i64 2, .slice (some ⟨w.heap.size, 0, none⟩) 2 2] (w.alloc (.cells #[.int .i64 p0, .int .i64 0] 3)) (Did W0 b sb (drawM m 2 [p0, 0]))) := ⟨(draw_call (MachL.lit HM.out.mach [p0, 0]) 2 (by decide) (by decide) 2 (by simp) (by simp) (by simp) HSL.out).mono fun _ _ h => h.1⟩
  refine HC.out.mono ?_
  intro e w3 hd
  obtain ⟨rfl, hf⟩ := did_split hd
  have HF := Aside0.mk hf
  clear hf hd
  go_wp2_with fail
  go_ret
  exact did_join HF.out
set_option maxHeartbeats 1000000 in
theorem vline_call {W0 w : World} {b : Nat} {sb : Value} {m : M} {A : Option Addr} {p0 : Int} (h : MachL W0 w b sb m A [p0]) (c : Nat) (hc : 1 ≤ c) (hs : Small [p0]) :
    Calls Try.prog 85 #[.pointer (some ⟨b, 0, none⟩), .slice A 1 c] w (Did W0 b sb (drawM m 2 [0, p0])) := by
  have hsl : Small [0, p0] := fun x hx => by
    simp only [List.mem_cons, List.not_mem_nil, or_false] at hx
    have k0 := hs
    unfold Small at k0
    simp only [List.mem_cons, List.not_mem_nil, or_false, forall_eq_or_imp, forall_eq] at k0
    omega
  have HSL := Aside0.mk hsl
  have HM := Aside0.mk h
  obtain ⟨g, off, rfl, hcell⟩ := ints_cells h.ints (by simp)
  have l0 : w.cell? ⟨g, off, none⟩ = some (.int .i64 p0) := by simpa using hcell 0 (by simp)
  clear hcell hs hsl h
  go_enter Try.func85, Try.ntmps85
  go_wp2_with fail
  have HC : Aside0 (Calls Try.prog 103 #[.pointer (some ⟨b, 0, none⟩), .int .i64 2, .slice (some ⟨w.heap.size, 0, none⟩) 2 2] (w.alloc (.cells #[.int .i64 0, .int .i64 p0] 3)) (Did W0 b sb (drawM m 2 [0, p0]))) := ⟨(draw_call (MachL.lit HM.out.mach [0, p0]) 2 (by decide) (by decide) 2 (by simp) (by simp) (by simp) HSL.out).mono fun _ _ h => h.1⟩
  refine HC.out.mono ?_
  intro e w3 hd
  obtain ⟨rfl, hf⟩ := did_split hd
  have HF := Aside0.mk hf
  clear hf hd
  go_wp2_with fail
  go_ret
  exact did_join HF.out
set_option maxHeartbeats 1000000 in
theorem hmove_call {W0 w : World} {b : Nat} {sb : Value} {m : M} {A : Option Addr} {p0 : Int} (h : MachL W0 w b sb m A [p0]) (c : Nat) (hc : 1 ≤ c) (hs : Small [p0]) :
    Calls Try.prog 91 #[.pointer (some ⟨b, 0, none⟩), .slice A 1 c] w (Did W0 b sb (moveM m p0 0)) := by
  have hsl : Small [p0, 0] := fun x hx => by
    simp only [List.mem_cons, List.not_mem_nil, or_false] at hx
    have k0 := hs
    unfold Small at k0
    simp only [List.mem_cons, List.not_mem_nil, or_false, forall_eq_or_imp, forall_eq] at k0
    omega
  have HSL := Aside0.mk hsl
  have HM := Aside0.mk h
  obtain ⟨g, off, rfl, hcell⟩ := ints_cells h.ints (by simp)
  have l0 : w.cell? ⟨g, off, none⟩ = some (.int .i64 p0) := by simpa using hcell 0 (by simp)
  clear hcell hs hsl h
  go_enter Try.func91, Try.ntmps91
  go_wp2_with fail
  have HC : Aside0 (Calls Try.prog 90 #[.pointer (some ⟨b, 0, none⟩), .slice (some ⟨w.heap.size, 0, none⟩) 2 2] (w.alloc (.cells #[.int .i64 p0, .int .i64 0] 3)) (Did W0 b sb (moveM m p0 0))) := ⟨move_call (MachL.lit HM.out.mach [p0, 0]) 2 (by decide) HSL.out⟩
  refine HC.out.mono ?_
  intro e w3 hd
  obtain ⟨rfl, hf⟩ := did_split hd
  have HF := Aside0.mk hf
  clear hf hd
  go_wp2_with fail
  go_ret
  exact did_join HF.out
set_option maxHeartbeats 1000000 in
theorem vmove_call {W0 w : World} {b : Nat} {sb : Value} {m : M} {A : Option Addr} {p0 : Int} (h : MachL W0 w b sb m A [p0]) (c : Nat) (hc : 1 ≤ c) (hs : Small [p0]) :
    Calls Try.prog 82 #[.pointer (some ⟨b, 0, none⟩), .slice A 1 c] w (Did W0 b sb (moveM m 0 p0)) := by
  have hsl : Small [0, p0] := fun x hx => by
    simp only [List.mem_cons, List.not_mem_nil, or_false] at hx
    have k0 := hs
    unfold Small at k0
    simp only [List.mem_cons, List.not_mem_nil, or_false, forall_eq_or_imp, forall_eq] at k0
    omega
  have HSL := Aside0.mk hsl
  have HM := Aside0.mk h
  obtain ⟨g, off, rfl, hcell⟩ := ints_cells h.ints (by simp)
  have l0 : w.cell? ⟨g, off, none⟩ = some (.int .i64 p0) := by simpa using hcell 0 (by simp)
  clear hcell hs hsl h
  go_enter Try.func82, Try.ntmps82
  go_wp2_with fail
  have HC : Aside0 (Calls Try.prog 90 #[.pointer (some ⟨b, 0, none⟩), .slice (some ⟨w.heap.size, 0, none⟩) 2 2] (w.alloc (.cells #[.int .i64 0, .int .i64 p0] 3)) (Did W0 b sb (moveM m 0 p0))) := ⟨move_call (MachL.lit HM.out.mach [0, p0]) 2 (by decide) HSL.out⟩
  refine HC.out.mono ?_
  intro e w3 hd
  obtain ⟨rfl, hf⟩ := did_split hd
  have HF := Aside0.mk hf
  clear hf hd
  go_wp2_with fail
  go_ret
  exact did_join HF.out
set_option maxHeartbeats 2000000 in
theorem vhcurve_call {W0 w : World} {b : Nat} {sb : Value} {m : M} {A : Option Addr} {p0 p1 p2 p3 : Int} (h : MachL W0 w b sb m A [p0, p1, p2, p3]) (c : Nat) (hc : 4 ≤ c) (hs : Small [p0, p1, p2, p3]) :
    Calls Try.prog 92 #[.pointer (some ⟨b, 0, none⟩), .slice A 4 c] w (Did W0 b sb (drawM m 3 [0, p0, p1, p2, p3, 0])) := by
  have hsl : Small [0, p0, p1, p2, p3, 0] := fun x hx => by
    simp only [List.mem_cons, List.not_mem_nil, or_false] at hx
    have k0 := hs
    unfold Small at k0
    simp only [List.mem_cons, List.not_mem_nil, or_false, forall_eq_or_imp, forall_eq] at k0
    omega
  have HSL := Aside0.mk hsl
  have HM := Aside0.mk h
  rcases h.ints with h0 | ⟨g, off, cs, rfl, hg, hx⟩
  · cases h0
  have HC0 : ∀ W : World, W.heap[g]? = some (.cells cs 3 (0, 0)) → W.cell? ⟨g, off, none⟩ = some (.int .i64 p0) ∧ W.cell? ⟨g, off + 1, none⟩ = some (.int .i64 p1) ∧ W.cell? ⟨g, off + 2, none⟩ = some (.int .i64 p2) ∧ W.cell? ⟨g, off + 3, none⟩ = some (.int .i64 p3) := fun W hW => ⟨(blk_cell hW _).trans (hx 0 p0 rfl), (blk_cell hW _).trans (hx 1 p1 rfl), (blk_cell hW _).trans (hx 2 p2 rfl), (blk_cell hW _).trans (hx 3 p3 rfl)⟩
  have HG := Aside0.mk hg
  have HCC := Aside0.mk HC0
  obtain ⟨l0, l1, l2, l3⟩ := HC0 w hg
  clear hx hs hsl h hg HC0
  go_enter Try.func92, Try.ntmps92
  go_wp2_with fail
  have HC : Aside0 (Calls Try.prog 103 #[.pointer (some ⟨b, 0, none⟩), .int .i64 3, .slice (some ⟨w.heap.size, 0, none⟩) 6 6] (w.drew.alloc (.cells #[.int .i64 0, .int .i64 p0, .int .i64 p1, .int .i64 p2, .int .i64 p3, .int .i64 0] 3)) (fun e w' => Did W0 b sb (drawM m 3 [0, p0, p1, p2, p3, 0]) e w' ∧ Keeps (w.drew.alloc (.cells #[.int .i64 0, .int .i64 p0, .int .i64 p1, .int .i64 p2, .int .i64 p3, .int .i64 0] 3)) w')) := ⟨draw_call (MachL.lit (MachL.small HM.out w.drew (Below.drew (Below.refl _ _))).mach [0, p0, p1, p2, p3, 0]) 3 (by decide) (by decide) 6 (by simp) (by simp) (by simp) HSL.out⟩
  go_region_held3 (fun wz => wz.cell? ⟨g, off, none⟩ = some (.int .i64 p0) ∧ wz.cell? ⟨g, off + 1, none⟩ = some (.int .i64 p1) ∧ wz.cell? ⟨g, off + 2, none⟩ = some (.int .i64 p2) ∧ wz.cell? ⟨g, off + 3, none⟩ = some (.int .i64 p3)) (first | exact ⟨l0, l1, l2, l3⟩ | exact ⟨m0, m1, m2, m3⟩ | exact HCC.out _ (blk_alloc HG.out _) | go_keep) (first | (go_at_call 103; refine HC.out.mono ?_; rintro e w3 ⟨hd, hk⟩; obtain ⟨rfl, hf⟩ := did_split hd; have HF := Aside0.mk hf; obtain ⟨m0, m1, m2, m3⟩ := HCC.out w3 (hk _ _ (blk_alloc HG.out _)); clear hf hd hk))
  go_wp2_with fail
  go_ret
  exact did_join HF.out
set_option maxHeartbeats 2000000 in
theorem hvcurve_call {W0 w : World} {b : Nat} {sb : Value} {m : M} {A : Option Addr} {p0 p1 p2 p3 : Int} (h : MachL W0 w b sb m A [p0, p1, p2, p3]) (c : Nat) (hc : 4 ≤ c) (hs : Small [p0, p1, p2, p3]) :
    Calls Try.prog 93 #[.pointer (some ⟨b, 0, none⟩), .slice A 4 c] w (Did W0 b sb (drawM m 3 [p0, 0, p1, p2, 0, p3])) := by
  have hsl : Small [p0, 0, p1, p2, 0, p3] := fun x hx => by
    simp only [List.mem_cons, List.not_mem_nil, or_false] at hx
    have k0 := hs
    unfold Small at k0
    simp only [List.mem_cons, List.not_mem_nil, or_false, forall_eq_or_imp, forall_eq] at k0
    omega
  have HSL := Aside0.mk hsl
  have HM := Aside0.mk h
  rcases h.ints with h0 | ⟨g, off, cs, rfl, hg, hx⟩
  · cases h0
  have HC0 : ∀ W : World, W.heap[g]? = some (.cells cs 3 (0, 0)) → W.cell? ⟨g, off, none⟩ = some (.int .i64 p0) ∧ W.cell? ⟨g, off + 1, none⟩ = some (.int .i64 p1) ∧ W.cell? ⟨g, off + 2, none⟩ = some (.int .i64 p2) ∧ W.cell? ⟨g, off + 3, none⟩ = some (.int .i64 p3) := fun W hW => ⟨(blk_cell hW _).trans (hx 0 p0 rfl), (blk_cell hW _).trans (hx 1 p1 rfl), (blk_cell hW _).trans (hx 2 p2 rfl), (blk_cell hW _).trans (hx 3 p3 rfl)⟩
  have HG := Aside0.mk hg
  have HCC := Aside0.mk HC0
  obtain ⟨l0, l1, l2, l3⟩ := HC0 w hg
  clear hx hs hsl h hg HC0
  go_enter Try.func93, Try.ntmps93
  go_wp2_with fail
  have HC : Aside0 (Calls Try.prog 103 #[.pointer (some ⟨b, 0, none⟩), .int .i64 3, .slice (some ⟨w.heap.size, 0, none⟩) 6 6] (w.drew.alloc (.cells #[.int .i64 p0, .int .i64 0, .int .i64 p1, .int .i64 p2, .int .i64 0, .int .i64 p3] 3)) (fun e w' => Did W0 b sb (drawM m 3 [p0, 0, p1, p2, 0, p3]) e w' ∧ Keeps (w.drew.alloc (.cells #[.int .i64 p0, .int .i64 0, .int .i64 p1, .int .i64 p2, .int .i64 0, .int .i64 p3] 3)) w')) := ⟨draw_call (MachL.lit (MachL.small HM.out w.drew (Below.drew (Below.refl _ _))).mach [p0, 0, p1, p2, 0, p3]) 3 (by decide) (by decide) 6 (by simp) (by simp) (by simp) HSL.out⟩
  go_region_held3 (fun wz => wz.cell? ⟨g, off, none⟩ = some (.int .i64 p0) ∧ wz.cell? ⟨g, off + 1, none⟩ = some (.int .i64 p1) ∧ wz.cell? ⟨g, off + 2, none⟩ = some (.int .i64 p2) ∧ wz.cell? ⟨g, off + 3, none⟩ = some (.int .i64 p3)) (first | exact ⟨l0, l1, l2, l3⟩ | exact ⟨m0, m1, m2, m3⟩ | exact HCC.out _ (blk_alloc HG.out _) | go_keep) (first | (go_at_call 103; refine HC.out.mono ?_; rintro e w3 ⟨hd, hk⟩; obtain ⟨rfl, hf⟩ := did_split hd; have HF := Aside0.mk hf; obtain ⟨m0, m1, m2, m3⟩ := HCC.out w3 (hk _ _ (blk_alloc HG.out _)); clear hf hd hk))
  go_wp2_with fail
  go_ret
  exact did_join HF.out
end Go.Proofs.Ytimnohaalccdkaa.G33d
/- More path operators of the machine (chapter 33): closing 87, begin 88, end 89, nothing 94, confirm 95. -/
namespace Go.Proofs.Ytimnohaalccdkaa.G33e
open Go.Proofs.Ytimnohaalccdkaa.K33 Go.Proofs.Ytimnohaalccdkaa.M33 Go.Proofs.Ytimnohaalccdkaa.G33a Go.Proofs.Ytimnohaalccdkaa.G33b Go.Proofs.Ytimnohaalccdkaa.G33c Go.Proofs.Ytimnohaalccdkaa.G33d Go.Proofs.Ytimnohaalccdkaa.P33a
open Go.RowKit Go.Proofs.YtimnohaalccdkaaW.PrintWords Go.Proofs.YtimnohaalccdkaaW.PrintLast Go.Proofs.YtimnohaalccdkaaW.PrintMore
set_option linter.unusedVariables false
set_option linter.unusedSimpArgs false
set_option maxRecDepth 100000
theorem MachL.none {W0 w : World} {b : Nat} {sb : Value} {m : M} (h : Mach W0 w b sb m) : MachL W0 w b sb m none [] := by
  obtain ⟨h1, h2, vs, vt, vk, A, c, vp, h3⟩ := h
  exact ⟨h1, h2, vs, vt, vk, A, c, vp, h3, .inl rfl, .inl rfl⟩
set_option maxHeartbeats 1000000 in
theorem closing_call {W0 w : World} {b : Nat} {sb : Value} {m : M} (h : Mach W0 w b sb m) (v : Value) :
    Calls Try.prog 87 #[.pointer (some ⟨b, 0, none⟩), v] w (Did W0 b sb (closeM m)) := by
  have HC : Aside0 (Calls Try.prog 103 #[.pointer (some ⟨b, 0, none⟩), .int .i64 4, .slice none 0 0] w (Did W0 b sb (drawM m 4 []))) := ⟨(draw_call (MachL.none h) 4 (by decide) (by decide) 0 (by simp) (by simp) (by simp) (fun x hx => by cases hx)).mono fun _ _ h => h.1⟩
  have HE : Aside0 (closeM m = match drawM m 4 [] with | .ok m => .ok { m with opn := false } | .error e => .error e) := ⟨by unfold closeM drawM; cases m.opn <;> rfl⟩
  clear h
  go_enter Try.func87, Try.ntmps87
  go_wp2_with fail
  refine HC.out.mono ?_
  intro e w3 hd
  obtain ⟨rfl, hf⟩ := did_split hd
  have HF := Aside0.mk hf
  clear hf hd
  cases hr : drawM m 4 [] with
  | error c3 =>
    rw [hr] at HF HE
    obtain ⟨o, c6⟩ := Left.cell HF.out.2 6 (by decide)
    have f6 := Left.frz HF.out.2 6
    go_wp2_with fail
    go_ret
    rw [HE.out]
    exact ⟨rfl, HF.out.1, Left.set HF.out.2 6 _⟩
  | ok m3 =>
    rw [hr] at HF HE
    obtain ⟨c6, f6⟩ := Mach.cell (show Mach W0 w3 b sb m3 from HF.out) 6 (.bool m3.opn) (fun _ _ _ _ _ => rfl)
    go_wp2_with fail
    go_ret
    rw [HE.out]
    have k0 := Mach.ok (show Mach W0 w3 b sb m3 from HF.out)
    exact ⟨rfl, Mach.set (show Mach W0 w3 b sb m3 from HF.out) 6 (.bool false) { m3 with opn := false } (fun _ _ _ _ _ => rfl) rfl rfl rfl rfl rfl ⟨k0.stack, k0.small, k0.res, k0.rsmall, k0.steps, k0.stems, k0.points, k0.x, k0.y, k0.side, k0.width, k0.count⟩⟩
set_option maxHeartbeats 1000000 in
theorem end_call {W0 w : World} {b : Nat} {sb : Value} {m : M} (h : Mach W0 w b sb m) (v : Value) :
    Calls Try.prog 89 #[.pointer (some ⟨b, 0, none⟩), v] w (Did W0 b sb (.ok { m with done := true })) := by
  obtain ⟨c13, f13⟩ := Mach.cell h 13 (.bool m.done) (fun _ _ _ _ _ => rfl)
  have HM := Aside0.mk h
  clear h
  go_enter Try.func89, Try.ntmps89
  go_wp2_with fail
  go_ret
  have k0 := Mach.ok HM.out
  exact ⟨rfl, Mach.set HM.out 13 (.bool true) { m with done := true } (fun _ _ _ _ _ => rfl) rfl rfl rfl rfl rfl ⟨k0.stack, k0.small, k0.res, k0.rsmall, k0.steps, k0.stems, k0.points, k0.x, k0.y, k0.side, k0.width, k0.count⟩⟩
theorem nothing_call {W0 w : World} {b : Nat} {sb : Value} {m : M} (h : Mach W0 w b sb m) (v : Value) :
    Calls Try.prog 94 #[.pointer (some ⟨b, 0, none⟩), v] w (Did W0 b sb (.ok m)) := by
  have HM := Aside0.mk h
  clear h
  go_enter Try.func94, Try.ntmps94
  go_wp2_with fail
  go_ret
  exact ⟨rfl, HM.out⟩
set_option maxHeartbeats 2000000 in
theorem confirm_call {W0 w : World} {b : Nat} {sb : Value} {m : M} {A : Option Addr} {x y : Int} (h : MachL W0 w b sb m A [x, y]) (c : Nat) (hc : 2 ≤ c) :
    Calls Try.prog 95 #[.pointer (some ⟨b, 0, none⟩), .slice A 2 c] w (Did W0 b sb (if x = m.x ∧ y = m.y then .ok m else .error 39)) := by
  obtain ⟨c4, f4⟩ := MachL.cell h 4 (.int .i64 m.x) (fun _ _ _ _ _ => rfl)
  obtain ⟨c5, f5⟩ := MachL.cell h 5 (.int .i64 m.y) (fun _ _ _ _ _ => rfl)
  obtain ⟨g, off, rfl, hcell⟩ := ints_cells h.ints (by simp)
  have l0 : w.cell? ⟨g, off, none⟩ = some (.int .i64 x) := by simpa using hcell 0 (by simp)
  have l1 : w.cell? ⟨g, off + 1, none⟩ = some (.int .i64 y) := by simpa using hcell 1 (by simp)
  have HM := Aside0.mk h.mach
  clear h hcell f4 f5
  by_cases hx : x = m.x
  · subst hx
    by_cases hy : y = m.y
    · subst hy
      rw [if_pos ⟨rfl, rfl⟩]
      go_enter Try.func95, Try.ntmps95
      go_wp2_with fail
      go_quiet (fail)
      go_wp2_with fail
      go_ret
      exact ⟨rfl, Mach.below HM.out (pw_below_drewN (Below.refl _ _) _)⟩
    · have HE : Aside0 ((if m.x = m.x ∧ y = m.y then (.ok m : Except Int M) else .error 39) = .error 39) := ⟨if_neg fun h => hy h.2⟩
      rw [HE.out]
      have t : (m.y == y) = false := by simp; exact fun e => hy e.symm
      have t2 : ¬ m.y = y := fun e => hy e.symm
      clear hy
      go_enter Try.func95, Try.ntmps95
      go_wp2_with fail
      go_quiet (fail)
      go_wp2_with fail
      go_ret
      exact ⟨rfl, .inr rfl, (Mach.left HM.out).below (pw_below_drewN (Below.refl _ _) _)⟩
  · have HE : Aside0 ((if x = m.x ∧ y = m.y then (.ok m : Except Int M) else .error 39) = .error 39) := ⟨if_neg fun h => hx h.1⟩
    rw [HE.out]
    have t : (m.x == x) = false := by simp; exact fun e => hx e.symm
    have t2 : ¬ m.x = x := fun e => hx e.symm
    clear hx
    go_enter Try.func95, Try.ntmps95
    go_wp2_with fail
    go_quiet (fail)
    go_wp2_with fail
    go_ret
    exact ⟨rfl, .inr rfl, (Mach.left HM.out).below (pw_below_drewN (Below.refl _ _) _)⟩
set_option maxHeartbeats 4000000 in
theorem begin_call {W0 w : World} {b : Nat} {sb : Value} {m : M} {A : Option Addr} {x y : Int} (h : MachL W0 w b sb m A [x, y]) (c : Nat) (hc : 2 ≤ c) (hs : Small [x, y]) :
    Calls Try.prog 88 #[.pointer (some ⟨b, 0, none⟩), .slice A 2 c] w (Did W0 b sb (beginM m x y)) := by
  have hok := Mach.ok h.mach
  have HM := Aside0.mk h
  have HL := Aside0.mk (Mach.left h.mach)
  have hi := h.ints
  obtain ⟨_, _, vs, vt, vk, Ar, cr, vp, hv, _⟩ := h
  have HBK := Aside0.mk hv.blk
  rcases hi with h0 | ⟨g, off, cs, rfl, hg, hx⟩
  · cases h0
  have hgb : g ≠ b := blk_ne hg hv.blk (by decide)
  obtain ⟨ws, hws⟩ : ∃ ws, w.setCell ⟨b, 10, none⟩ (.bool true) = ws := ⟨_, rfl⟩
  have HB1 : Aside0 (ws.heap[b]? = some (.cells ((mcells m sb vs vt vk (.slice Ar m.results.length cr) vp).setIfInBounds 10 (.bool true)) 96 (0, 0))) := ⟨by rw [← hws]; exact blk_set hv.blk 10 (.bool true)⟩
  have hg1 : ws.heap[g]? = some (.cells cs 3 (0, 0)) := by rw [← hws]; exact blk_far hg hgb _
  have c10 : w.cell? ⟨b, 10, none⟩ = some (.bool m.begun) := hv.cell 10
  have f10 : w.frozen? ⟨b, 10, none⟩ = false := hv.frz 10
  have l0 : ws.cell? ⟨g, off, none⟩ = some (.int .i64 x) := (blk_cell hg1 _).trans (hx 0 x rfl)
  have l1 : ws.cell? ⟨g, off + 1, none⟩ = some (.int .i64 y) := (blk_cell hg1 _).trans (hx 1 y rfl)
  have d0 : ws.cell? ⟨b, 0, none⟩ = some (.int .i64 m.side) := (blk_cell HB1.out 0).trans rfl
  have d1 : ws.cell? ⟨b, 1, none⟩ = some (.int .i64 m.width) := (blk_cell HB1.out 1).trans rfl
  have d4 : ws.cell? ⟨b, 4, none⟩ = some (.int .i64 m.x) := (blk_cell HB1.out 4).trans rfl
  have d5 : ws.cell? ⟨b, 5, none⟩ = some (.int .i64 m.y) := (blk_cell HB1.out 5).trans rfl
  have e0 : ws.frozen? ⟨b, 0, none⟩ = false := blk_frozen HB1.out 0
  have e1 : ws.frozen? ⟨b, 1, none⟩ = false := blk_frozen HB1.out 1
  have e4 : ws.frozen? ⟨b, 4, none⟩ = false := blk_frozen HB1.out 4
  have e5 : ws.frozen? ⟨b, 5, none⟩ = false := blk_frozen HB1.out 5
  have HG1 := Aside0.mk hg1
  have HX := Aside0.mk hx
  have HOK := Aside0.mk hok
  have HGB := Aside0.mk hgb
  have HMS : Aside0 (Mach W0 ws b sb { m with begun := true }) := ⟨by rw [← hws]; exact Mach.set HM.out.mach 10 (.bool true) { m with begun := true } (fun _ _ _ _ _ => rfl) rfl rfl rfl rfl rfl ⟨hok.stack, hok.small, hok.res, hok.rsmall, hok.steps, hok.stems, hok.points, hok.x, hok.y, hok.side, hok.width, hok.count⟩⟩
  clear hx hg hg1 hv hok hgb
  go_enter Try.func88, Try.ntmps88
  go_wp2_with fail
  clear hws c10 f10
  go_region
  have HGZ : Aside0 (((((ws.setCell ⟨b, 0, none⟩ (.int .i64 x)).setCell ⟨b, 1, none⟩ (.int .i64 y)).setCell ⟨b, 4, none⟩ (.int .i64 x)).setCell ⟨b, 5, none⟩ (.int .i64 0)).drew.heap[g]? = some (.cells cs 3 (0, 0))) := ⟨blk_far (blk_far (blk_far (blk_far HG1.out HGB.out _) HGB.out _) HGB.out _) HGB.out _⟩
  have HLZ : Aside0 (M33.Left W0 ((((ws.setCell ⟨b, 0, none⟩ (.int .i64 x)).setCell ⟨b, 1, none⟩ (.int .i64 y)).setCell ⟨b, 4, none⟩ (.int .i64 x)).setCell ⟨b, 5, none⟩ (.int .i64 0)).drew b) := ⟨Left.below ((((Mach.left HMS.out).set 0 _).set 1 _ |>.set 4 _).set 5 _) (Below.drew (Below.refl _ _))⟩
  have HMZ : Aside0 ((inn x && inn y) = true → Mach W0 ((((ws.setCell ⟨b, 0, none⟩ (.int .i64 x)).setCell ⟨b, 1, none⟩ (.int .i64 y)).setCell ⟨b, 4, none⟩ (.int .i64 x)).setCell ⟨b, 5, none⟩ (.int .i64 0)).drew b sb { m with begun := true, side := x, width := y, x := x, y := 0 }) := ⟨fun hin => by
    have hin2 : inn x = true ∧ inn y = true := by simpa using hin
    have k0 := HOK.out
    have ix := inn_bd hin2.1
    have iy := inn_bd hin2.2
    have m1 := Mach.set HMS.out 0 (.int .i64 x) { m with begun := true, side := x } (fun _ _ _ _ _ => rfl) rfl rfl rfl rfl rfl ⟨k0.stack, k0.small, k0.res, k0.rsmall, k0.steps, k0.stems, k0.points, k0.x, k0.y, ix, k0.width, k0.count⟩
    have m2 := Mach.set m1 1 (.int .i64 y) { m with begun := true, side := x, width := y } (fun _ _ _ _ _ => rfl) rfl rfl rfl rfl rfl ⟨k0.stack, k0.small, k0.res, k0.rsmall, k0.steps, k0.stems, k0.points, k0.x, k0.y, ix, iy, k0.count⟩
    have m3 := Mach.set m2 4 (.int .i64 x) { m with begun := true, side := x, width := y, x := x } (fun _ _ _ _ _ => rfl) rfl rfl rfl rfl rfl ⟨k0.stack, k0.small, k0.res, k0.rsmall, k0.steps, k0.stems, k0.points, ix, k0.y, ix, iy, k0.count⟩
    have m4 := Mach.set m3 5 (.int .i64 0) { m with begun := true, side := x, width := y, x := x, y := 0 } (fun _ _ _ _ _ => rfl) rfl rfl rfl rfl rfl ⟨k0.stack, k0.small, k0.res, k0.rsmall, k0.steps, k0.stems, k0.points, ix, ⟨by show (-32000 : Int) ≤ 0; decide, by show (0 : Int) ≤ 32000; decide⟩, ix, iy, k0.count⟩
    exact Mach.drew m4⟩
  generalize ((((ws.setCell ⟨b, 0, none⟩ (.int .i64 x)).setCell ⟨b, 1, none⟩ (.int .i64 y)).setCell ⟨b, 4, none⟩ (.int .i64 x)).setCell ⟨b, 5, none⟩ (.int .i64 0)).drew = wz at HGZ HLZ HMZ ⊢
  have HR : ReadsInt wz .i64 (some ⟨g, off, none⟩) [x, y].length [x, y] := ints_reads (.inr ⟨g, off, cs, rfl, HGZ.out, HX.out⟩) (by simp)
  have HC := Aside0.mk (outline_within_int.calls 3 (some ⟨g, off, none⟩) c [x, y] _ _ (kd_of_reads HR) (by simpa using hc) (within_eq x y))
  clear l0 l1 d0 d1 d4 d5 e0 e1 e4 e5 HR
  go_wp2_with fail
  refine HC.out.mono ?_
  rintro e w5 ⟨rfl, hd5⟩
  have HB5 := Aside0.mk hd5.below
  clear hd5
  by_cases hin : (inn x && inn y) = true
  · rw [if_pos hin]
    have HE : Aside0 (beginM m x y = .ok { m with begun := true, side := x, width := y, x := x, y := 0 }) := ⟨by unfold beginM; rw [if_pos hin]⟩
    have HIN := Aside0.mk hin
    clear hin
    go_wp2_with fail
    go_ret
    rw [HE.out]
    exact ⟨rfl, Mach.below (HMZ.out HIN.out) HB5.out⟩
  · rw [if_neg hin]
    have HE : Aside0 (beginM m x y = .error 26) := ⟨by unfold beginM; rw [if_neg hin]⟩
    clear hin
    go_wp2_with fail
    go_ret
    rw [HE.out]
    exact ⟨rfl, .inl rfl, HLZ.out.below HB5.out⟩
end Go.Proofs.Ytimnohaalccdkaa.G33e
/- Stems (chapter 33): stems 102, hstem 80, vstem 81. -/
namespace Go.Proofs.Ytimnohaalccdkaa.G33f
open Go.Proofs.Ytimnohaalccdkaa.K33 Go.Proofs.Ytimnohaalccdkaa.M33 Go.Proofs.Ytimnohaalccdkaa.G33a Go.Proofs.Ytimnohaalccdkaa.G33b Go.Proofs.Ytimnohaalccdkaa.G33c Go.Proofs.Ytimnohaalccdkaa.G33d Go.Proofs.Ytimnohaalccdkaa.G33e Go.Proofs.Ytimnohaalccdkaa.P33a
open Go.RowKit Go.Proofs.YtimnohaalccdkaaW.PrintWords Go.Proofs.YtimnohaalccdkaaW.PrintLast Go.Proofs.YtimnohaalccdkaaW.PrintMore
set_option linter.unusedVariables false
set_option linter.unusedSimpArgs false
set_option maxRecDepth 100000
def stemsS (m : M) (v : Bool) (sh : Int) (l : List Int) : Except Int M :=
  if badStem l then .error 39 else match stemsL v sh m.stems l with | none => .error 26 | some s => .ok { m with stems := s }
theorem drop_two (l : List Int) (j : Nat) (h : 2 * j + 1 < l.length) : l.drop (2 * j) = l.getD (2 * j) 0 :: l.getD (2 * j + 1) 0 :: l.drop (2 * (j + 1)) := by
  rw [List.drop_eq_getElem_cons (show 2 * j < l.length by omega), List.drop_eq_getElem_cons h, show 2 * j + 1 + 1 = 2 * (j + 1) by omega]
  have e1 : l.getD (2 * j) 0 = l[2 * j] := by rw [List.getD_eq_getElem?_getD, List.getElem?_eq_getElem (show 2 * j < l.length by omega)]; rfl
  have e2 : l.getD (2 * j + 1) 0 = l[2 * j + 1] := by rw [List.getD_eq_getElem?_getD, List.getElem?_eq_getElem h]; rfl
  rw [e1, e2]
theorem stm_len (s : Stm) : (stm s).length = 3 := rfl
theorem info69 : (Try.prog.info? 69).map (fun i => (i.zero, i.size, i.bytes)) = some (some (.agg #[.bool false, .int .i64 0, .int .i64 0]), 3, 24) := by kernel_rfl
theorem lit_cells {w : World} {A : Option Addr} {l : List Int} (h : Ints w A l) (i : Nat) (hi : i < l.length) : ∃ g off : Nat, A = some ⟨g, off, none⟩ ∧ w.cell? ⟨g, off + i, none⟩ = some (.int .i64 (l.getD i 0)) := by
  obtain ⟨g, off, hA, hc⟩ := ints_cells h (by intro e; rw [e] at hi; simp at hi)
  exact ⟨g, off, hA, hc i hi⟩
set_option maxHeartbeats 4000000 in
theorem stems_call {W0 w : World} {b : Nat} {sb : Value} {m : M} {A : Option Addr} {l : List Int} (h : MachL W0 w b sb m A l) (v : Bool) (sh : Int) (hsh : -32000 ≤ sh ∧ sh ≤ 32000) (c : Nat) (hc : l.length ≤ c) (h2 : l.length % 2 = 0) (h6 : l.length ≤ 6) (hs : Small l) :
    Calls Try.prog 102 #[.pointer (some ⟨b, 0, none⟩), .bool v, .int .i64 sh, .slice A l.length c] w (Did W0 b sb (stemsS m v sh l)) := by
  have HM := Aside0.mk h
  have HI := Aside0.mk h.ints
  have HL := Aside0.mk (Mach.left h.mach)
  clear h
  go_enter Try.func102, Try.ntmps102
  go_wp2_with fail
  go_loop [9] (fun v9 => ∃ j : Nat, v9 = .int .i64 (2 * (j : Int) + 1) ∧ 2 * j ≤ l.length ∧ Aside0 (badStem l = badStem (l.drop (2 * j)))) (fun v9 => 20 - (intOf v9).toNat)
  case atStart => exact ⟨0, rfl, by omega, ⟨by simp⟩⟩
  case round =>
    obtain ⟨j, rfl, hj, HBS⟩ := hrel
    by_cases hlt : 2 * j + 1 < l.length
    · obtain ⟨g, off, hA, c1⟩ := lit_cells HI.out (2 * j + 1) hlt
      subst hA
      have t0 : decide (2 * (j : Int) + 1 < (l.length : Int)) = true := decide_eq_true (by omega)
      have hbs := HBS.out
      rw [drop_two l j hlt] at hbs
      obtain ⟨y, hy⟩ : ∃ y, l.getD (2 * j + 1) 0 = y := ⟨_, rfl⟩
      rw [hy] at hbs c1
      have i1 : (2 * (j : Int) + 1).toNat = 2 * j + 1 := by omega
      have b0 : (0 : Int) ≤ 2 * (j : Int) + 1 := by omega
      have b1 : 2 * (j : Int) + 1 < (l.length : Int) := by omega
      have k1 : IntKind.i64.wrap (2 * (j : Int) + 1 + 2) = 2 * (j : Int) + 1 + 2 := IntWalk.i64_in _ (by omega)
      by_cases hy0 : y = 0
      · have HE : Aside0 (stemsS m v sh l = .error 39) := ⟨by unfold stemsS; rw [hbs, hy0]; rfl⟩
        subst hy0
        clear hbs hy
        go_wp2_with fail
        go_ret
        rw [HE.out]
        exact ⟨rfl, .inr rfl, HL.out⟩
      · have t1 : (y == 0) = false := by simpa using hy0
        have HBS2 : Aside0 (badStem l = badStem (l.drop (2 * (j + 1)))) := ⟨by rw [hbs]; simp only [badStem, t1, Bool.false_or]⟩
        clear hbs hy hy0
        go_wp2_with fail
        go_round
        case measure => simp [intOf]; omega
        case rel => exact ⟨j + 1, by go_num, by omega, HBS2⟩
    · have hj2 : 2 * j = l.length := by omega
      have t0 : decide (2 * (j : Int) + 1 < (l.length : Int)) = false := decide_eq_false (by omega)
      have HST : Aside0 (stemsS m v sh l = match stemsL v sh m.stems l with | none => .error 26 | some s => .ok { m with stems := s }) := ⟨by unfold stemsS; rw [HBS.out, hj2, List.drop_length]; rfl⟩
      clear hlt hj2 HBS
      go_wp2_with fail
      clear t0 hj
      go_loopw [10] (fun v10 wr => ∃ (i : Nat) (acc : List Stm), v10 = .int .i64 (2 * (i : Int)) ∧ 2 * i ≤ l.length ∧ Aside0 (stemsL v sh m.stems l = stemsL v sh acc (l.drop (2 * i))) ∧ Aside0 (MachL W0 wr b sb { m with stems := acc } A l)) (fun v10 _ => 20 - (intOf v10).toNat)
      case atStart => exact ⟨0, m.stems, rfl, by omega, ⟨by simp⟩, HM⟩
      case round =>
        obtain ⟨i, acc, rfl, hi, HSL, HM2⟩ := hrel
        by_cases hlt : 2 * i < l.length
        · have hlt1 : 2 * i + 1 < l.length := by omega
          obtain ⟨g, off, hA, c0⟩ := lit_cells HM2.out.ints (2 * i) hlt
          subst hA
          obtain ⟨g', off', hA, c1⟩ := lit_cells HM2.out.ints (2 * i + 1) hlt1
          injection hA with hA
          injection hA with hA1 hA2 _
          subst hA1
          subst hA2
          have t0 : decide (2 * (i : Int) < (l.length : Int)) = true := decide_eq_true (by omega)
          have hsl := HSL.out
          rw [drop_two l i hlt1] at hsl
          have sx := getD_small hs (2 * i)
          have sy := getD_small hs (2 * i + 1)
          obtain ⟨x, hx⟩ : ∃ x, l.getD (2 * i) 0 = x := ⟨_, rfl⟩
          obtain ⟨y, hy⟩ : ∃ y, l.getD (2 * i + 1) 0 = y := ⟨_, rfl⟩
          rw [hx] at c0 sx hsl
          rw [hy] at c1 sy hsl
          have i1 : (2 * (i : Int) + 1).toNat = 2 * i + 1 := by omega
          have i0 : (2 * (i : Int)).toNat = 2 * i := by omega
          have b0 : (0 : Int) ≤ 2 * (i : Int) := by omega
          have b1 : 2 * (i : Int) < (l.length : Int) := by omega
          have b2 : (0 : Int) ≤ 2 * (i : Int) + 1 := by omega
          have b3 : 2 * (i : Int) + 1 < (l.length : Int) := by omega
          have k0 : IntKind.i64.wrap (2 * (i : Int) + 1) = 2 * (i : Int) + 1 := IntWalk.i64_in _ (by omega)
          have k1 : IntKind.i64.wrap (2 * (i : Int) + 2) = 2 * (i : Int) + 2 := IntWalk.i64_in _ (by omega)
          have k2 : IntKind.i64.wrap (sh + x) = sh + x := IntWalk.i64_in _ (by omega)
          have k3 : IntKind.i64.wrap (sh + x + y) = sh + x + y := IntWalk.i64_in _ (by omega)
          obtain ⟨a, ha⟩ : ∃ a, sh + x = a := ⟨_, rfl⟩
          obtain ⟨e, he⟩ : ∃ e, a + y = e := ⟨_, rfl⟩
          have hsl2 : stemsL v sh acc (x :: y :: l.drop (2 * (i + 1))) = if inn a && inn e && decide (acc.length < 40) then stemsL v sh (acc ++ [(v, min a e, max a e - min a e)]) (l.drop (2 * (i + 1))) else none := by
            rw [← he, ← ha]; rfl
          have HSL2 : Aside0 (stemsL v sh m.stems l = if inn a && inn e && decide (acc.length < 40) then stemsL v sh (acc ++ [(v, min a e, max a e - min a e)]) (l.drop (2 * (i + 1))) else none) := ⟨hsl.trans hsl2⟩
          rw [ha] at k2 k3
          rw [he] at k3
          have hae : -6442450944 ≤ a ∧ a ≤ 6442450944 ∧ -6442450944 ≤ e ∧ e ≤ 6442450944 := by omega
          have HLT := Aside0.mk hlt
          clear hsl hsl2 hx hy hlt hlt1 HSL sx sy
          go_wp2_with fail
          go_quiet (fail)
          have HM3 := Aside0.mk (MachL.small HM2.out (wr.drewN nq) (pw_below_drewN (Below.refl _ _) _))
          generalize wr.drewN nq = w2 at HM3 ⊢
          clear c0 c1 i1 i0 b0 b1 b2 b3 k0 k2 k3 t0
          go_wp2_with fail
          refine (within_two a e w2).mono ?_
          rintro e0 w4 ⟨rfl, hd4⟩
          have hb4 := below_step (below_alloc (Below.refl _ w2) (.cells #[.int .i64 a, .int .i64 e] 3)) hd4.below
          have HM4 := Aside0.mk (MachL.small HM3.out w4 hb4)
          clear hd4 hb4 HM3 HM2 ha he
          by_cases hin : (inn a && inn e) = true
          · rw [if_pos hin]
            have HIN := Aside0.mk hin
            obtain ⟨hB, hb, vs, vt, vk, Ar, cr, vp, hv, hi4, ho4⟩ := HM4.out
            obtain ⟨At, ct, rfl⟩ := own_slice hv.stems
            have hvs : w4.ownsRow W0.heap.size 69 3 (.slice At acc.length ct) acc.length (acc.flatMap stm) := hv.stems
            have HV := Aside0.mk hv
            have HVS := Aside0.mk hvs
            have HB := Aside0.mk hB
            have HB8 := Aside0.mk hb
            have HI4 := Aside0.mk (show Ints w4 (some ⟨g, off, none⟩) l ∧ Off (some ⟨g, off, none⟩) l vk from ⟨hi4, ho4⟩)
            have c3 : w4.cell? ⟨b, 3, none⟩ = some (.slice At acc.length ct) := hv.cell 3
            have h40 : acc.length ≤ 40 := hv.ok.stems
            by_cases hfull : acc.length = 40
            · have t8 : ((acc.length : Int) == 40) = true := by rw [hfull]; rfl
              have HE : Aside0 (stemsS m v sh l = .error 26) := ⟨by rw [HST.out, HSL2.out, if_neg (by simp [hfull])]⟩
              clear hin hv hvs hB hb hi4 ho4 hfull h40
              go_wp2_with fail
              go_ret
              rw [HE.out]
              exact ⟨rfl, .inl rfl, Mach.left HM4.out.mach⟩
            · have t8 : ((acc.length : Int) == 40) = false := by simp; omega
              have HL40 := Aside0.mk (show acc.length < 40 by omega)
              obtain ⟨lo, hlo⟩ : ∃ lo, (if e < a then e else a) = lo := ⟨_, rfl⟩
              obtain ⟨hi, hhi⟩ : ∃ hi, (if a < e then e else a) = hi := ⟨_, rfl⟩
              have em : min a e = lo := by rw [← hlo]; split <;> omega
              have eM : max a e = hi := by rw [← hhi]; split <;> omega
              have k9 : IntKind.i64.wrap (hi - lo) = hi - lo := IntWalk.i64_in _ (by omega)
              have HS2 : Aside0 (stemsL v sh m.stems l = stemsL v sh (acc ++ [(v, lo, hi - lo)]) (l.drop (2 * (i + 1)))) := ⟨by rw [HSL2.out, if_pos (by rw [hin]; simp; exact HL40.out), em, eM]⟩
              clear hin hv hvs hB hb hi4 ho4 hfull h40 em eM hae
              go_wp2_with (at_builtin; refine print_append_cells (w0 := W0) W0.heap.size rfl (.tmp 70) (.tmp 83) 41 69 _ 3 24 rfl Try.underlying41 info69 rfl (by decide) (by decide) (.slice At acc.length ct) acc.length (acc.flatMap stm) [.bool v, .int .i64 lo, .int .i64 (hi - lo)] rfl rfl rfl (by simp [Value.oneCell']) HVS.out HB.out HB.out.size (by have := HL40.out; omega) ?_; intro v1 w1 ho1 hb1 hg1 hat1; obtain ⟨A1, k1, rfl⟩ := own_slice ho1; have HO1 := Aside0.mk ho1; have HB1 := Aside0.mk hb1; have HG1 := Aside0.mk hg1; have hbk := blk_grown HV.out.blk hg1 (own_ne HVS.out HV.out.blk (by decide)); have f3 : w1.frozen? ⟨b, 3, none⟩ = false := blk_frozen hbk 3; have c3' : w1.cell? ⟨b, 3, none⟩ = some (.slice At acc.length ct) := blk_cell hbk 3; clear ho1 hb1 hg1 hat1 hbk c3)
              have e1 : (acc ++ [(v, lo, hi - lo)]).length = acc.length + 1 := by simp
              have k0' := HV.out.ok
              have hown : w1.ownsRow W0.heap.size 69 3 (.slice A1 (acc.length + 1) k1) (acc ++ [(v, lo, hi - lo)]).length ((acc ++ [(v, lo, hi - lo)]).flatMap stm) := by
                rw [e1, List.flatMap_append]
                simpa [stm] using HO1.out
              have hput := HV.out.put_stems hown HG1.out ⟨k0'.stack, k0'.small, k0'.res, k0'.rsmall, k0'.steps, by show (acc ++ [(v, lo, hi - lo)]).length ≤ 40; rw [e1]; exact HL40.out, k0'.points, k0'.x, k0'.y, k0'.side, k0'.width, k0'.count⟩
              have hbk := blk_grown HV.out.blk HG1.out (own_ne HVS.out HV.out.blk (by decide))
              have HM9 : Aside0 (MachL W0 (w1.setCell ⟨b, 3, none⟩ (.slice A1 (acc.length + 1) k1)) b sb { m with stems := acc ++ [(v, lo, hi - lo)] } (some ⟨g, off, none⟩) l) := ⟨below_set HB1.out HB8.out, HB8.out, vs, _, vk, Ar, cr, vp, hput, ints_set (ints_grown_ne HI4.out.1 HVS.out (by decide) HG1.out) hbk (by decide) 3 _, HI4.out.2⟩
              clear hown hput hbk k0' e1
              have hlt := HLT.out
              go_roundw
              case measure => simp [intOf]; omega
              case rel => exact ⟨i + 1, acc ++ [(v, lo, hi - lo)], by go_num, by omega, HS2, HM9⟩
          · rw [if_neg hin]
            have HE : Aside0 (stemsS m v sh l = .error 26) := ⟨by rw [HST.out, HSL2.out, if_neg (by intro h; rw [Bool.and_eq_true] at h; exact hin h.1)]⟩
            clear hin
            go_wp2_with fail
            go_ret
            rw [HE.out]
            exact ⟨rfl, .inl rfl, Mach.left HM4.out.mach⟩
        · have hi2 : 2 * i = l.length := by omega
          have t0 : decide (2 * (i : Int) < (l.length : Int)) = false := decide_eq_false (by omega)
          have HE : Aside0 (stemsS m v sh l = .ok { m with stems := acc }) := ⟨by rw [HST.out, HSL.out, hi2, List.drop_length]; rfl⟩
          clear hlt hi2
          go_wp2_with fail
          go_ret
          rw [HE.out]
          exact ⟨rfl, HM2.out.mach⟩
theorem hstem_call {W0 w : World} {b : Nat} {sb : Value} {m : M} {A : Option Addr} {l : List Int} (h : MachL W0 w b sb m A l) (c : Nat) (hc : l.length ≤ c) (h2 : l.length % 2 = 0) (h6 : l.length ≤ 6) (hs : Small l) :
    Calls Try.prog 80 #[.pointer (some ⟨b, 0, none⟩), .slice A l.length c] w (Did W0 b sb (stemsM m false l)) := by
  have HC := Aside0.mk (stems_call h false 0 (by decide) c hc h2 h6 hs)
  have HE : Aside0 (stemsM m false l = stemsS m false 0 l) := ⟨rfl⟩
  rw [HE.out]
  clear h
  go_enter Try.func80, Try.ntmps80
  go_wp2_with fail
  refine HC.out.mono ?_
  intro e w3 hd
  obtain ⟨rfl, hf⟩ := did_split hd
  have HF := Aside0.mk hf
  clear hf hd
  go_wp2_with fail
  go_ret
  exact did_join HF.out
theorem vstem_call {W0 w : World} {b : Nat} {sb : Value} {m : M} {A : Option Addr} {l : List Int} (h : MachL W0 w b sb m A l) (c : Nat) (hc : l.length ≤ c) (h2 : l.length % 2 = 0) (h6 : l.length ≤ 6) (hs : Small l) :
    Calls Try.prog 81 #[.pointer (some ⟨b, 0, none⟩), .slice A l.length c] w (Did W0 b sb (stemsM m true l)) := by
  have HC := Aside0.mk (stems_call h true m.side (Mach.ok h.mach).side c hc h2 h6 hs)
  have HE : Aside0 (stemsM m true l = stemsS m true m.side l) := ⟨rfl⟩
  obtain ⟨c0, f0⟩ := MachL.cell h 0 (.int .i64 m.side) (fun _ _ _ _ _ => rfl)
  rw [HE.out]
  clear h
  go_enter Try.func81, Try.ntmps81
  go_wp2_with fail
  refine HC.out.mono ?_
  intro e w3 hd
  obtain ⟨rfl, hf⟩ := did_split hd
  have HF := Aside0.mk hf
  clear hf hd
  go_wp2_with fail
  go_ret
  exact did_join HF.out
end Go.Proofs.Ytimnohaalccdkaa.G33f
