/- Path operators of the machine (chapter 33): draw 103, line 83, hline 84, vline 85, curve 86, vhcurve 92, hvcurve 93, move 90, hmove 91, vmove 82. -/
import Derived.Test.YtimnohaalccdkaaG33c
import Derived.Deep.RegionHeld3
namespace Go.Proofs.Ytimnohaalccdkaa.G33d
open Go.Proofs.Ytimnohaalccdkaa.K33 Go.Proofs.Ytimnohaalccdkaa.M33 Go.Proofs.Ytimnohaalccdkaa.G33a Go.Proofs.Ytimnohaalccdkaa.G33b Go.Proofs.Ytimnohaalccdkaa.G33c Go.Proofs.Ytimnohaalccdkaa.P33a
open Go.RowKit Go.Proofs.YtimnohaalccdkaaW.PrintWords Go.Proofs.YtimnohaalccdkaaW.PrintLast Go.Proofs.YtimnohaalccdkaaW.PrintMore
set_option linter.unusedVariables false
set_option linter.unusedSimpArgs false
set_option maxRecDepth 100000
/-- A new list of whole numbers beside the machine. -/
theorem MachL.lit {W0 w : World} {b : Nat} {sb : Value} {m : M} (h : Mach W0 w b sb m) (xs : List Int) : MachL W0 (w.alloc (.cells (nums .i64 xs).toArray 3)) b sb m (some ⟨w.heap.size, 0, none⟩) xs := by
  obtain ⟨h1, h2, vs, vt, vk, A, c, vp, h3⟩ := h
  refine ⟨below_alloc h1 _, h2, vs, vt, vk, A, c, vp, h3.below (below_alloc (Below.refl _ _) _), .inr ⟨w.heap.size, 0, _, rfl, blk_new _ _, fun i x hx => ?_⟩, .inr fun a ha hk => ?_⟩
  · simp [nums, hx]
  · injection ha with ha
    subst ha
    have := own_lt h3.stack _ hk
    simp only at this
    omega
theorem MachL.small {W0 w : World} {b : Nat} {sb : Value} {m : M} {A : Option Addr} {l : List Int} (h : MachL W0 w b sb m A l) (w' : World) (hb : Below w.heap.size w w') : MachL W0 w' b sb m A l := by
  obtain ⟨h1, h2, vs, vt, vk, Ar, c, vp, h3, h4, h5⟩ := h
  exact ⟨below_then h1 h1.size hb, h2, vs, vt, vk, Ar, c, vp, h3.below hb, h4.below hb, h5⟩
/-- The number of an error, 0 if there is none. -/
def ec : Except Int M → Int
  | .error c => c
  | .ok _ => 0
def Fin (W0 : World) (b : Nat) (sb : Value) (r : Except Int M) (w' : World) : Prop :=
  match r with
  | .error c => (c = 26 ∨ c = 39) ∧ M33.Left W0 w' b
  | .ok m => Mach W0 w' b sb m
theorem did_split {W0 w' : World} {b : Nat} {sb : Value} {r : Except Int M} {e : Ending} (h : Did W0 b sb r e w') : e = .returned (.int .i64 (ec r)) ∧ Fin W0 b sb r w' := by
  cases r with
  | error c => exact ⟨h.1, h.2⟩
  | ok m => exact h
theorem did_join {W0 w' : World} {b : Nat} {sb : Value} {r : Except Int M} (h : Fin W0 b sb r w') : Did W0 b sb r (.returned (.int .i64 (ec r))) w' := by
  cases r with
  | error c => exact ⟨rfl, h⟩
  | ok m => exact ⟨rfl, h⟩
/-- A field that is no list is stored. -/
theorem MachL.set {W0 w : World} {b : Nat} {sb : Value} {m : M} {A : Option Addr} {l : List Int} (h : MachL W0 w b sb m A l) (i : Nat) (u : Value) (m' : M)
    (hc : ∀ vs vt vk vr vp, (mcells m sb vs vt vk vr vp).setIfInBounds i u = mcells m' sb vs vt vk vr vp)
    (e1 : m'.steps = m.steps) (e2 : m'.stems = m.stems) (e3 : m'.points = m.points) (e4 : m'.stack = m.stack) (e5 : m'.results = m.results) (ok : Ok m') :
    MachL W0 (w.setCell ⟨b, i, none⟩ u) b sb m' A l := by
  obtain ⟨h1, h2, vs, vt, vk, Ar, c, vp, h3, h4, h5⟩ := h
  exact ⟨below_set h1 h2, h2, vs, vt, vk, Ar, c, vp, h3.set i u m' (by rw [hc, e5]) e1 e2 e3 e4 e5 ok, ints_set h4 h3.blk (by decide) i u, h5⟩
theorem MachL.cell {W0 w : World} {b : Nat} {sb : Value} {m : M} {A : Option Addr} {l : List Int} (h : MachL W0 w b sb m A l) (i : Nat) (u : Value) (hc : ∀ vs vt vk vr vp, (mcells m sb vs vt vk vr vp)[i]? = some u) : w.cell? ⟨b, i, none⟩ = some u ∧ w.frozen? ⟨b, i, none⟩ = false := by
  obtain ⟨h1, h2, vs, vt, vk, Ar, c, vp, h3, h4, h5⟩ := h
  exact ⟨(h3.cell i).trans (hc _ _ _ _ _), h3.frz i⟩
theorem Mach.cell {W0 w : World} {b : Nat} {sb : Value} {m : M} (h : Mach W0 w b sb m) (i : Nat) (u : Value) (hc : ∀ vs vt vk vr vp, (mcells m sb vs vt vk vr vp)[i]? = some u) : w.cell? ⟨b, i, none⟩ = some u ∧ w.frozen? ⟨b, i, none⟩ = false := by
  obtain ⟨h1, h2, vs, vt, vk, Ar, c, vp, h3⟩ := h
  exact ⟨(h3.cell i).trans (hc _ _ _ _ _), h3.frz i⟩
theorem Mach.set {W0 w : World} {b : Nat} {sb : Value} {m : M} (h : Mach W0 w b sb m) (i : Nat) (u : Value) (m' : M)
    (hc : ∀ vs vt vk vr vp, (mcells m sb vs vt vk vr vp).setIfInBounds i u = mcells m' sb vs vt vk vr vp)
    (e1 : m'.steps = m.steps) (e2 : m'.stems = m.stems) (e3 : m'.points = m.points) (e4 : m'.stack = m.stack) (e5 : m'.results = m.results) (ok : Ok m') :
    Mach W0 (w.setCell ⟨b, i, none⟩ u) b sb m' := by
  obtain ⟨h1, h2, vs, vt, vk, Ar, c, vp, h3⟩ := h
  exact ⟨below_set h1 h2, h2, vs, vt, vk, Ar, c, vp, h3.set i u m' (by rw [hc, e5]) e1 e2 e3 e4 e5 ok⟩
set_option maxHeartbeats 1000000 in
theorem draw_call {W0 w : World} {b : Nat} {sb : Value} {m : M} {A : Option Addr} {l : List Int} (h : MachL W0 w b sb m A l) (k : Int) (hk1 : 1 ≤ k) (hk2 : k ≤ 4) (c : Nat) (hc : l.length ≤ c) (h2 : l.length % 2 = 0) (h6 : l.length ≤ 6) (hs : Small l) :
    Calls Try.prog 103 #[.pointer (some ⟨b, 0, none⟩), .int .i64 k, .slice A l.length c] w (fun e w' => Did W0 b sb (drawM m k l) e w' ∧ Keeps w w') := by
  have c6 := (MachL.cell h 6 (.bool m.opn) (fun _ _ _ _ _ => rfl)).1
  have HB := Aside0.mk (Mach.left h.mach)
  have HC := Aside0.mk (step_call h k hk1 hk2 c hc h2 h6 hs)
  cases ho : m.opn with
  | false =>
    have HE : Aside0 (drawM m k l = .error 39) := ⟨by unfold drawM; rw [ho]; rfl⟩
    rw [ho] at c6
    rw [HE.out]
    clear h HC ho
    go_enter Try.func103, Try.ntmps103
    go_wp2_with fail
    go_ret
    exact ⟨⟨rfl, .inr rfl, HB.out⟩, keeps_below (Below.refl _ _)⟩
  | true =>
    have HE : Aside0 (drawM m k l = stepM m k l) := ⟨by unfold drawM; rw [ho]; rfl⟩
    rw [ho] at c6
    rw [HE.out]
    clear h ho
    go_enter Try.func103, Try.ntmps103
    go_wp2_with fail
    refine HC.out.mono ?_
    rintro e w3 ⟨hd, hk⟩
    obtain ⟨rfl, hf⟩ := did_split hd
    have HF := Aside0.mk hf
    have HK := Aside0.mk hk
    clear hf hd hk
    go_wp2_with fail
    go_ret
    exact ⟨did_join HF.out, HK.out⟩
set_option maxHeartbeats 2000000 in
theorem move_call {W0 w : World} {b : Nat} {sb : Value} {m : M} {A : Option Addr} {x y : Int} (h : MachL W0 w b sb m A [x, y]) (c : Nat) (hc : 2 ≤ c) (hs : Small [x, y]) :
    Calls Try.prog 90 #[.pointer (some ⟨b, 0, none⟩), .slice A 2 c] w (Did W0 b sb (moveM m x y)) := by
  have hok := Mach.ok h.mach
  have c11 := (MachL.cell h 11 (.bool m.flex) (fun _ _ _ _ _ => rfl)).1
  have HM := Aside0.mk h
  have hs' := hs
  unfold Small at hs'
  simp only [List.mem_cons, List.not_mem_nil, or_false, forall_eq_or_imp, forall_eq] at hs'
  cases ho : m.flex with
  | true =>
    rw [ho] at c11
    obtain ⟨c4, f4⟩ := MachL.cell h 4 (.int .i64 m.x) (fun _ _ _ _ _ => rfl)
    obtain ⟨c5, f5⟩ := MachL.cell h 5 (.int .i64 m.y) (fun _ _ _ _ _ => rfl)
    obtain ⟨g, off, rfl, hcell⟩ := ints_cells h.ints (by simp)
    have l0 : w.cell? ⟨g, off, none⟩ = some (.int .i64 x) := by simpa using hcell 0 (by simp)
    have l1 : w.cell? ⟨g, off + 1, none⟩ = some (.int .i64 y) := by simpa using hcell 1 (by simp)
    have k1 : IntKind.i64.wrap (m.x + x) = m.x + x := IntWalk.i64_in _ (by have := hok.x; omega)
    have k2 : IntKind.i64.wrap (m.y + y) = m.y + y := IntWalk.i64_in _ (by have := hok.y; omega)
    have HE : Aside0 (moveM m x y = if (inn (m.x + x) && inn (m.y + y)) = true then .ok { m with x := m.x + x, y := m.y + y } else .error 26) := ⟨by unfold moveM; rw [ho]; rfl⟩
    have HOK := Aside0.mk hok
    obtain ⟨X, hX⟩ : ∃ X, m.x + x = X := ⟨_, rfl⟩
    obtain ⟨Y, hY⟩ : ∃ Y, m.y + y = Y := ⟨_, rfl⟩
    rw [hX, hY] at HE
    rw [hX] at k1
    rw [hY] at k2
    clear hs hs' hcell hok ho h
    go_enter Try.func90, Try.ntmps90
    go_wp2_with fail
    go_still_tail 25, (by kernel_rfl)
    change wpList _ _ _ _ _ w.drew
    have HM2 := Aside0.mk (MachL.small HM.out w.drew (Below.drew (Below.refl _ _)))
    have c4 : w.drew.cell? ⟨b, 4, none⟩ = some (.int .i64 m.x) := c4
    have c5 : w.drew.cell? ⟨b, 5, none⟩ = some (.int .i64 m.y) := c5
    have f4 : w.drew.frozen? ⟨b, 4, none⟩ = false := f4
    have f5 : w.drew.frozen? ⟨b, 5, none⟩ = false := f5
    generalize w.drew = w2 at HM2 c4 c5 f4 f5 ⊢
    clear hX hY
    have HB3 : Aside0 (M33.Left W0 ((w2.setCell ⟨b, 4, none⟩ (.int .i64 X)).setCell ⟨b, 5, none⟩ (.int .i64 Y)) b) := ⟨((Mach.left HM2.out.mach).set 4 _).set 5 _⟩
    have HM3 : Aside0 ((inn X && inn Y) = true → Mach W0 ((w2.setCell ⟨b, 4, none⟩ (.int .i64 X)).setCell ⟨b, 5, none⟩ (.int .i64 Y)) b sb { m with x := X, y := Y }) := ⟨fun hin => by
      have hin2 : inn X = true ∧ inn Y = true := by simpa using hin
      have k0 := HOK.out
      have kk : Ok { m with x := X } := ⟨k0.stack, k0.small, k0.res, k0.rsmall, k0.steps, k0.stems, k0.points, inn_bd hin2.1, k0.y, k0.side, k0.width, k0.count⟩
      have kk2 : Ok { m with x := X, y := Y } := ⟨k0.stack, k0.small, k0.res, k0.rsmall, k0.steps, k0.stems, k0.points, inn_bd hin2.1, inn_bd hin2.2, k0.side, k0.width, k0.count⟩
      exact Mach.set (Mach.set HM2.out.mach 4 (.int .i64 X) { m with x := X } (fun _ _ _ _ _ => rfl) rfl rfl rfl rfl rfl kk) 5 (.int .i64 Y) { m with x := X, y := Y } (fun _ _ _ _ _ => rfl) rfl rfl rfl rfl rfl kk2⟩
    obtain ⟨_, _, vs, vt, vk, Ar, cr, vp, hv, _⟩ := HM2.out
    have d4 : ((w2.setCell ⟨b, 4, none⟩ (.int .i64 X)).setCell ⟨b, 5, none⟩ (.int .i64 Y)).cell? ⟨b, 4, none⟩ = some (.int .i64 X) := blk_cell (blk_set (blk_set hv.blk 4 _) 5 _) 4
    have d5 : ((w2.setCell ⟨b, 4, none⟩ (.int .i64 X)).setCell ⟨b, 5, none⟩ (.int .i64 Y)).cell? ⟨b, 5, none⟩ = some (.int .i64 Y) := blk_cell (blk_set (blk_set hv.blk 4 _) 5 _) 5
    have f5' : (w2.setCell ⟨b, 4, none⟩ (.int .i64 X)).frozen? ⟨b, 5, none⟩ = false := blk_frozen (blk_set hv.blk 4 _) 5
    have c5' : (w2.setCell ⟨b, 4, none⟩ (.int .i64 X)).cell? ⟨b, 5, none⟩ = some (.int .i64 m.y) := blk_cell (blk_set hv.blk 4 _) 5
    clear hv HM2
    go_wp2_with fail
    generalize (w2.setCell ⟨b, 4, none⟩ (.int .i64 X)).setCell ⟨b, 5, none⟩ (.int .i64 Y) = w3 at HB3 HM3 d4 d5 ⊢
    clear c4 c5 f4 f5 f5' c5' k1 k2
    go_still_tail 12, (by kernel_rfl)
    change wpList _ _ _ _ _ w3.drew
    have HB4 := Aside0.mk (HB3.out.below (Below.drew (Below.refl _ _)))
    have HM4 := Aside0.mk (fun h => Mach.drew (HM3.out h))
    generalize w3.drew = w4 at HB4 HM4 ⊢
    clear d4 d5 HB3 HM3
    go_wp2_with fail
    refine (within_two X Y w4).mono ?_
    rintro e w5 ⟨rfl, hd5⟩
    have hb5 := below_step (below_alloc (Below.refl _ w4) (.cells #[.int .i64 X, .int .i64 Y] 3)) hd5.below
    have HB5 := Aside0.mk hb5
    clear hd5 hb5
    by_cases hin : (inn X && inn Y) = true
    · rw [if_pos hin] at HE ⊢
      have HIN := Aside0.mk hin
      clear hin
      go_wp2_with fail
      go_ret
      rw [HE.out]
      exact ⟨rfl, Mach.below (HM4.out HIN.out) HB5.out⟩
    · rw [if_neg hin] at HE ⊢
      clear hin
      go_wp2_with fail
      go_ret
      rw [HE.out]
      exact ⟨rfl, .inl rfl, HB4.out.below HB5.out⟩
  | false =>
    rw [ho] at c11
    have HE : Aside0 (moveM m x y = stepM { m with opn := true } 1 [x, y]) := ⟨by unfold moveM; rw [ho]; rfl⟩
    obtain ⟨c6, f6⟩ := MachL.cell h 6 (.bool m.opn) (fun _ _ _ _ _ => rfl)
    have HOK : Aside0 (Ok { m with opn := true }) := ⟨⟨hok.stack, hok.small, hok.res, hok.rsmall, hok.steps, hok.stems, hok.points, hok.x, hok.y, hok.side, hok.width, hok.count⟩⟩
    have HM2 := Aside0.mk (MachL.set h 6 (.bool true) { m with opn := true } (fun _ _ _ _ _ => rfl) rfl rfl rfl rfl rfl HOK.out)
    have HC := Aside0.mk ((step_call HM2.out 1 (by decide) (by decide) c hc (by simp) (by simp) hs).mono fun _ _ h => h.1)
    rw [HE.out]
    clear h hs hs' hok ho
    go_enter Try.func90, Try.ntmps90
    go_wp2_with fail
    refine HC.out.mono ?_
    intro e w3 hd
    obtain ⟨rfl, hf⟩ := did_split hd
    have HF := Aside0.mk hf
    clear hf hd
    go_wp2_with fail
    go_ret
    exact did_join HF.out
set_option maxHeartbeats 1000000 in
theorem line_call {W0 w : World} {b : Nat} {sb : Value} {m : M} {A : Option Addr} {p0 p1 : Int} (h : MachL W0 w b sb m A [p0, p1]) (c : Nat) (hc : 2 ≤ c) (hs : Small [p0, p1]) :
    Calls Try.prog 83 #[.pointer (some ⟨b, 0, none⟩), .slice A 2 c] w (Did W0 b sb (drawM m 2 [p0, p1])) := by
  have HC := Aside0.mk ((draw_call h 2 (by decide) (by decide) c hc (by simp) (by simp) hs).mono fun _ _ h => h.1)
  clear h hs
  go_enter Try.func83, Try.ntmps83
  go_wp2_with fail
  refine HC.out.mono ?_
  intro e w3 hd
  obtain ⟨rfl, hf⟩ := did_split hd
  have HF := Aside0.mk hf
  clear hf hd
  go_wp2_with fail
  go_ret
  exact did_join HF.out
set_option maxHeartbeats 1000000 in
theorem curve_call {W0 w : World} {b : Nat} {sb : Value} {m : M} {A : Option Addr} {p0 p1 p2 p3 p4 p5 : Int} (h : MachL W0 w b sb m A [p0, p1, p2, p3, p4, p5]) (c : Nat) (hc : 6 ≤ c) (hs : Small [p0, p1, p2, p3, p4, p5]) :
    Calls Try.prog 86 #[.pointer (some ⟨b, 0, none⟩), .slice A 6 c] w (Did W0 b sb (drawM m 3 [p0, p1, p2, p3, p4, p5])) := by
  have HC := Aside0.mk ((draw_call h 3 (by decide) (by decide) c hc (by simp) (by simp) hs).mono fun _ _ h => h.1)
  clear h hs
  go_enter Try.func86, Try.ntmps86
  go_wp2_with fail
  refine HC.out.mono ?_
  intro e w3 hd
  obtain ⟨rfl, hf⟩ := did_split hd
  have HF := Aside0.mk hf
  clear hf hd
  go_wp2_with fail
  go_ret
  exact did_join HF.out
set_option maxHeartbeats 1000000 in
theorem hline_call {W0 w : World} {b : Nat} {sb : Value} {m : M} {A : Option Addr} {p0 : Int} (h : MachL W0 w b sb m A [p0]) (c : Nat) (hc : 1 ≤ c) (hs : Small [p0]) :
    Calls Try.prog 84 #[.pointer (some ⟨b, 0, none⟩), .slice A 1 c] w (Did W0 b sb (drawM m 2 [p0, 0])) := by
  have hsl : Small [p0, 0] := fun x hx => by
    simp only [List.mem_cons, List.not_mem_nil, or_false] at hx
    have k0 := hs
    unfold Small at k0
    simp only [List.mem_cons, List.not_mem_nil, or_false, forall_eq_or_imp, forall_eq] at k0
    omega
  have HSL := Aside0.mk hsl
  have HM := Aside0.mk h
  obtain ⟨g, off, rfl, hcell⟩ := ints_cells h.ints (by simp)
  have l0 : w.cell? ⟨g, off, none⟩ = some (.int .i64 p0) := by simpa using hcell 0 (by simp)
  clear hcell hs hsl h
  go_enter Try.func84, Try.ntmps84
  go_wp2_with fail
  have HC : Aside0 (Calls Try.prog 103 #[.pointer (some ⟨b, 0, none⟩), .int .i64 2, .slice (some ⟨w.heap.size, 0, none⟩) 2 2] (w.alloc (.cells #[.int .i64 p0, .int .i64 0] 3)) (Did W0 b sb (drawM m 2 [p0, 0]))) := ⟨(draw_call (MachL.lit HM.out.mach [p0, 0]) 2 (by decide) (by decide) 2 (by simp) (by simp) (by simp) HSL.out).mono fun _ _ h => h.1⟩
  refine HC.out.mono ?_
  intro e w3 hd
  obtain ⟨rfl, hf⟩ := did_split hd
  have HF := Aside0.mk hf
  clear hf hd
  go_wp2_with fail
  go_ret
  exact did_join HF.out
set_option maxHeartbeats 1000000 in
theorem vline_call {W0 w : World} {b : Nat} {sb : Value} {m : M} {A : Option Addr} {p0 : Int} (h : MachL W0 w b sb m A [p0]) (c : Nat) (hc : 1 ≤ c) (hs : Small [p0]) :
    Calls Try.prog 85 #[.pointer (some ⟨b, 0, none⟩), .slice A 1 c] w (Did W0 b sb (drawM m 2 [0, p0])) := by
  have hsl : Small [0, p0] := fun x hx => by
    simp only [List.mem_cons, List.not_mem_nil, or_false] at hx
    have k0 := hs
    unfold Small at k0
    simp only [List.mem_cons, List.not_mem_nil, or_false, forall_eq_or_imp, forall_eq] at k0
    omega
  have HSL := Aside0.mk hsl
  have HM := Aside0.mk h
  obtain ⟨g, off, rfl, hcell⟩ := ints_cells h.ints (by simp)
  have l0 : w.cell? ⟨g, off, none⟩ = some (.int .i64 p0) := by simpa using hcell 0 (by simp)
  clear hcell hs hsl h
  go_enter Try.func85, Try.ntmps85
  go_wp2_with fail
  have HC : Aside0 (Calls Try.prog 103 #[.pointer (some ⟨b, 0, none⟩), .int .i64 2, .slice (some ⟨w.heap.size, 0, none⟩) 2 2] (w.alloc (.cells #[.int .i64 0, .int .i64 p0] 3)) (Did W0 b sb (drawM m 2 [0, p0]))) := ⟨(draw_call (MachL.lit HM.out.mach [0, p0]) 2 (by decide) (by decide) 2 (by simp) (by simp) (by simp) HSL.out).mono fun _ _ h => h.1⟩
  refine HC.out.mono ?_
  intro e w3 hd
  obtain ⟨rfl, hf⟩ := did_split hd
  have HF := Aside0.mk hf
  clear hf hd
  go_wp2_with fail
  go_ret
  exact did_join HF.out
set_option maxHeartbeats 1000000 in
theorem hmove_call {W0 w : World} {b : Nat} {sb : Value} {m : M} {A : Option Addr} {p0 : Int} (h : MachL W0 w b sb m A [p0]) (c : Nat) (hc : 1 ≤ c) (hs : Small [p0]) :
    Calls Try.prog 91 #[.pointer (some ⟨b, 0, none⟩), .slice A 1 c] w (Did W0 b sb (moveM m p0 0)) := by
  have hsl : Small [p0, 0] := fun x hx => by
    simp only [List.mem_cons, List.not_mem_nil, or_false] at hx
    have k0 := hs
    unfold Small at k0
    simp only [List.mem_cons, List.not_mem_nil, or_false, forall_eq_or_imp, forall_eq] at k0
    omega
  have HSL := Aside0.mk hsl
  have HM := Aside0.mk h
  obtain ⟨g, off, rfl, hcell⟩ := ints_cells h.ints (by simp)
  have l0 : w.cell? ⟨g, off, none⟩ = some (.int .i64 p0) := by simpa using hcell 0 (by simp)
  clear hcell hs hsl h
  go_enter Try.func91, Try.ntmps91
  go_wp2_with fail
  have HC : Aside0 (Calls Try.prog 90 #[.pointer (some ⟨b, 0, none⟩), .slice (some ⟨w.heap.size, 0, none⟩) 2 2] (w.alloc (.cells #[.int .i64 p0, .int .i64 0] 3)) (Did W0 b sb (moveM m p0 0))) := ⟨move_call (MachL.lit HM.out.mach [p0, 0]) 2 (by decide) HSL.out⟩
  refine HC.out.mono ?_
  intro e w3 hd
  obtain ⟨rfl, hf⟩ := did_split hd
  have HF := Aside0.mk hf
  clear hf hd
  go_wp2_with fail
  go_ret
  exact did_join HF.out
set_option maxHeartbeats 1000000 in
theorem vmove_call {W0 w : World} {b : Nat} {sb : Value} {m : M} {A : Option Addr} {p0 : Int} (h : MachL W0 w b sb m A [p0]) (c : Nat) (hc : 1 ≤ c) (hs : Small [p0]) :
    Calls Try.prog 82 #[.pointer (some ⟨b, 0, none⟩), .slice A 1 c] w (Did W0 b sb (moveM m 0 p0)) := by
  have hsl : Small [0, p0] := fun x hx => by
    simp only [List.mem_cons, List.not_mem_nil, or_false] at hx
    have k0 := hs
    unfold Small at k0
    simp only [List.mem_cons, List.not_mem_nil, or_false, forall_eq_or_imp, forall_eq] at k0
    omega
  have HSL := Aside0.mk hsl
  have HM := Aside0.mk h
  obtain ⟨g, off, rfl, hcell⟩ := ints_cells h.ints (by simp)
  have l0 : w.cell? ⟨g, off, none⟩ = some (.int .i64 p0) := by simpa using hcell 0 (by simp)
  clear hcell hs hsl h
  go_enter Try.func82, Try.ntmps82
  go_wp2_with fail
  have HC : Aside0 (Calls Try.prog 90 #[.pointer (some ⟨b, 0, none⟩), .slice (some ⟨w.heap.size, 0, none⟩) 2 2] (w.alloc (.cells #[.int .i64 0, .int .i64 p0] 3)) (Did W0 b sb (moveM m 0 p0))) := ⟨move_call (MachL.lit HM.out.mach [0, p0]) 2 (by decide) HSL.out⟩
  refine HC.out.mono ?_
  intro e w3 hd
  obtain ⟨rfl, hf⟩ := did_split hd
  have HF := Aside0.mk hf
  clear hf hd
  go_wp2_with fail
  go_ret
  exact did_join HF.out
set_option maxHeartbeats 2000000 in
theorem vhcurve_call {W0 w : World} {b : Nat} {sb : Value} {m : M} {A : Option Addr} {p0 p1 p2 p3 : Int} (h : MachL W0 w b sb m A [p0, p1, p2, p3]) (c : Nat) (hc : 4 ≤ c) (hs : Small [p0, p1, p2, p3]) :
    Calls Try.prog 92 #[.pointer (some ⟨b, 0, none⟩), .slice A 4 c] w (Did W0 b sb (drawM m 3 [0, p0, p1, p2, p3, 0])) := by
  have hsl : Small [0, p0, p1, p2, p3, 0] := fun x hx => by
    simp only [List.mem_cons, List.not_mem_nil, or_false] at hx
    have k0 := hs
    unfold Small at k0
    simp only [List.mem_cons, List.not_mem_nil, or_false, forall_eq_or_imp, forall_eq] at k0
    omega
  have HSL := Aside0.mk hsl
  have HM := Aside0.mk h
  rcases h.ints with h0 | ⟨g, off, cs, rfl, hg, hx⟩
  · cases h0
  have HC0 : ∀ W : World, W.heap[g]? = some (.cells cs 3 (0, 0)) → W.cell? ⟨g, off, none⟩ = some (.int .i64 p0) ∧ W.cell? ⟨g, off + 1, none⟩ = some (.int .i64 p1) ∧ W.cell? ⟨g, off + 2, none⟩ = some (.int .i64 p2) ∧ W.cell? ⟨g, off + 3, none⟩ = some (.int .i64 p3) := fun W hW => ⟨(blk_cell hW _).trans (hx 0 p0 rfl), (blk_cell hW _).trans (hx 1 p1 rfl), (blk_cell hW _).trans (hx 2 p2 rfl), (blk_cell hW _).trans (hx 3 p3 rfl)⟩
  have HG := Aside0.mk hg
  have HCC := Aside0.mk HC0
  obtain ⟨l0, l1, l2, l3⟩ := HC0 w hg
  clear hx hs hsl h hg HC0
  go_enter Try.func92, Try.ntmps92
  go_wp2_with fail
  have HC : Aside0 (Calls Try.prog 103 #[.pointer (some ⟨b, 0, none⟩), .int .i64 3, .slice (some ⟨w.heap.size, 0, none⟩) 6 6] (w.drew.alloc (.cells #[.int .i64 0, .int .i64 p0, .int .i64 p1, .int .i64 p2, .int .i64 p3, .int .i64 0] 3)) (fun e w' => Did W0 b sb (drawM m 3 [0, p0, p1, p2, p3, 0]) e w' ∧ Keeps (w.drew.alloc (.cells #[.int .i64 0, .int .i64 p0, .int .i64 p1, .int .i64 p2, .int .i64 p3, .int .i64 0] 3)) w')) := ⟨draw_call (MachL.lit (MachL.small HM.out w.drew (Below.drew (Below.refl _ _))).mach [0, p0, p1, p2, p3, 0]) 3 (by decide) (by decide) 6 (by simp) (by simp) (by simp) HSL.out⟩
  go_region_held3 (fun wz => wz.cell? ⟨g, off, none⟩ = some (.int .i64 p0) ∧ wz.cell? ⟨g, off + 1, none⟩ = some (.int .i64 p1) ∧ wz.cell? ⟨g, off + 2, none⟩ = some (.int .i64 p2) ∧ wz.cell? ⟨g, off + 3, none⟩ = some (.int .i64 p3)) (first | exact ⟨l0, l1, l2, l3⟩ | exact ⟨m0, m1, m2, m3⟩ | exact HCC.out _ (blk_alloc HG.out _) | go_keep) (first | (go_at_call 103; refine HC.out.mono ?_; rintro e w3 ⟨hd, hk⟩; obtain ⟨rfl, hf⟩ := did_split hd; have HF := Aside0.mk hf; obtain ⟨m0, m1, m2, m3⟩ := HCC.out w3 (hk _ _ (blk_alloc HG.out _)); clear hf hd hk))
  go_wp2_with fail
  go_ret
  exact did_join HF.out
set_option maxHeartbeats 2000000 in
theorem hvcurve_call {W0 w : World} {b : Nat} {sb : Value} {m : M} {A : Option Addr} {p0 p1 p2 p3 : Int} (h : MachL W0 w b sb m A [p0, p1, p2, p3]) (c : Nat) (hc : 4 ≤ c) (hs : Small [p0, p1, p2, p3]) :
    Calls Try.prog 93 #[.pointer (some ⟨b, 0, none⟩), .slice A 4 c] w (Did W0 b sb (drawM m 3 [p0, 0, p1, p2, 0, p3])) := by
  have hsl : Small [p0, 0, p1, p2, 0, p3] := fun x hx => by
    simp only [List.mem_cons, List.not_mem_nil, or_false] at hx
    have k0 := hs
    unfold Small at k0
    simp only [List.mem_cons, List.not_mem_nil, or_false, forall_eq_or_imp, forall_eq] at k0
    omega
  have HSL := Aside0.mk hsl
  have HM := Aside0.mk h
  rcases h.ints with h0 | ⟨g, off, cs, rfl, hg, hx⟩
  · cases h0
  have HC0 : ∀ W : World, W.heap[g]? = some (.cells cs 3 (0, 0)) → W.cell? ⟨g, off, none⟩ = some (.int .i64 p0) ∧ W.cell? ⟨g, off + 1, none⟩ = some (.int .i64 p1) ∧ W.cell? ⟨g, off + 2, none⟩ = some (.int .i64 p2) ∧ W.cell? ⟨g, off + 3, none⟩ = some (.int .i64 p3) := fun W hW => ⟨(blk_cell hW _).trans (hx 0 p0 rfl), (blk_cell hW _).trans (hx 1 p1 rfl), (blk_cell hW _).trans (hx 2 p2 rfl), (blk_cell hW _).trans (hx 3 p3 rfl)⟩
  have HG := Aside0.mk hg
  have HCC := Aside0.mk HC0
  obtain ⟨l0, l1, l2, l3⟩ := HC0 w hg
  clear hx hs hsl h hg HC0
  go_enter Try.func93, Try.ntmps93
  go_wp2_with fail
  have HC : Aside0 (Calls Try.prog 103 #[.pointer (some ⟨b, 0, none⟩), .int .i64 3, .slice (some ⟨w.heap.size, 0, none⟩) 6 6] (w.drew.alloc (.cells #[.int .i64 p0, .int .i64 0, .int .i64 p1, .int .i64 p2, .int .i64 0, .int .i64 p3] 3)) (fun e w' => Did W0 b sb (drawM m 3 [p0, 0, p1, p2, 0, p3]) e w' ∧ Keeps (w.drew.alloc (.cells #[.int .i64 p0, .int .i64 0, .int .i64 p1, .int .i64 p2, .int .i64 0, .int .i64 p3] 3)) w')) := ⟨draw_call (MachL.lit (MachL.small HM.out w.drew (Below.drew (Below.refl _ _))).mach [p0, 0, p1, p2, 0, p3]) 3 (by decide) (by decide) 6 (by simp) (by simp) (by simp) HSL.out⟩
  go_region_held3 (fun wz => wz.cell? ⟨g, off, none⟩ = some (.int .i64 p0) ∧ wz.cell? ⟨g, off + 1, none⟩ = some (.int .i64 p1) ∧ wz.cell? ⟨g, off + 2, none⟩ = some (.int .i64 p2) ∧ wz.cell? ⟨g, off + 3, none⟩ = some (.int .i64 p3)) (first | exact ⟨l0, l1, l2, l3⟩ | exact ⟨m0, m1, m2, m3⟩ | exact HCC.out _ (blk_alloc HG.out _) | go_keep) (first | (go_at_call 103; refine HC.out.mono ?_; rintro e w3 ⟨hd, hk⟩; obtain ⟨rfl, hf⟩ := did_split hd; have HF := Aside0.mk hf; obtain ⟨m0, m1, m2, m3⟩ := HCC.out w3 (hk _ _ (blk_alloc HG.out _)); clear hf hd hk))
  go_wp2_with fail
  go_ret
  exact did_join HF.out
end Go.Proofs.Ytimnohaalccdkaa.G33d
