/- callothersubr of the machine (chapter 33): bend 98, Reverse 99, other 71. -/
import Derived.Test.YtimnohaalccdkaaG33f
import Derived.Test.YtimnohaalccdkaaH33
namespace Go.Proofs.Ytimnohaalccdkaa.G33g
open Go.Proofs.Ytimnohaalccdkaa Go.Proofs.Ytimnohaalccdkaa.K33 Go.Proofs.Ytimnohaalccdkaa.M33 Go.Proofs.Ytimnohaalccdkaa.G33a Go.Proofs.Ytimnohaalccdkaa.G33b Go.Proofs.Ytimnohaalccdkaa.G33c Go.Proofs.Ytimnohaalccdkaa.G33d Go.Proofs.Ytimnohaalccdkaa.G33e Go.Proofs.Ytimnohaalccdkaa.G33f Go.Proofs.Ytimnohaalccdkaa.P33a
open Go.RowKit Go.Proofs.YtimnohaalccdkaaW.PrintWords Go.Proofs.YtimnohaalccdkaaW.PrintLast Go.Proofs.YtimnohaalccdkaaW.PrintMore
set_option linter.unusedVariables false
set_option linter.unusedSimpArgs false
set_option maxRecDepth 100000
theorem pnt_len (p : Pt) : (pnt p).length = 2 := rfl
theorem info55 : (Try.prog.info? 55).map (fun i => (i.zero, i.size, i.bytes)) = some (some (.agg #[.int .i64 0, .int .i64 0]), 2, 16) := by kernel_rfl
def curves (m : M) : List Stp := [(3, m.points.getD 1 (0, 0), m.points.getD 2 (0, 0), m.points.getD 3 (0, 0)), (3, m.points.getD 4 (0, 0), m.points.getD 5 (0, 0), m.points.getD 6 (0, 0))]
theorem cut94 (gp n cp lo hi : Nat) (h1 : lo < hi) (h2 : hi ≤ cp) (W : World) : (Instr.slice 94 (.slice (some ⟨gp, 0, none⟩) n cp) (some (.int .i64 (lo : Int))) (some (.int .i64 (hi : Int))) none).run Try.prog W = .ok (.slice (some ⟨gp, lo * 2, none⟩) (hi - lo) (cp - lo)) W := by
  have hu : Try.prog.underlying 94 = some (.slice (Try.prog.elem 94)) := by kernel_rfl
  have hel : Try.prog.elem 94 = 55 := by kernel_rfl
  obtain ⟨i, hi', hs⟩ := Option.map_eq_some_iff.1 info55
  rw [run_slice_lh W 94 (some ⟨gp, 0, none⟩) n cp hu .i64 .i64 (lo : Int) (hi : Int) (Int.natCast_nonneg _) (by omega) (by omega), hel]
  have hsz : i.size = 2 := congrArg (fun p => p.2.1) hs
  simp [sizeOf, typeInfo, hi', hsz, sliced, Result.andThen]
  rw [if_neg (by omega)]
  unfold Addr.add
  rcases Nat.eq_zero_or_pos lo with h0 | h0
  · subst h0; simp
  · rw [if_neg (by omega)]; simp
theorem pts_cells {w : World} {B n c : Nat} {A : Option Addr} {l : List Pt} (h : w.ownsRow B 55 2 (.slice A n c) l.length (l.flatMap pnt)) (h0 : 0 < l.length) :
    ∃ g cs, A = some ⟨g, 0, none⟩ ∧ w.heap[g]? = some (.cells cs 55 (0, 0)) ∧ ∀ i, i < l.length → cs[i * 2]? = some (.int .i64 (l.getD i (0, 0)).1) ∧ cs[i * 2 + 1]? = some (.int .i64 (l.getD i (0, 0)).2) := by
  rcases h.2 with ⟨e, h1⟩ | ⟨g, cap, cur, e, h1, h2, h3, h4, h5, h6⟩
  · omega
  · cases e
    refine ⟨g, cur, rfl, h2, fun i hi => ?_⟩
    have hg : l.getD i (0, 0) = l[i] := by rw [List.getD_eq_getElem?_getD, List.getElem?_eq_getElem hi]; rfl
    rw [hg]
    have f := flatMap_get pnt_len l i
    constructor
    · rw [← Array.getElem?_toList, ← List.getElem?_take_of_lt (show i * 2 < l.length * 2 by omega), h6]
      exact f 0 hi (by decide)
    · rw [← Array.getElem?_toList, ← List.getElem?_take_of_lt (show i * 2 + 1 < l.length * 2 by omega), h6]
      exact f 1 hi (by decide)
set_option maxHeartbeats 8000000 in
theorem bend_call {W0 w : World} {b : Nat} {sb : Value} {m : M} {A : Option Addr} {l : List Int} (h : MachL W0 w b sb m A l) (c : Nat) (hc : l.length ≤ c) (hA : A = none → c = 0) (hs : Small l) :
    Calls Try.prog 98 #[.pointer (some ⟨b, 0, none⟩), .slice A l.length c] w (Did W0 b sb (bendM m l)) := by
  have HM := Aside0.mk h
  have HL := Aside0.mk (Mach.left h.mach)
  have hok := Mach.ok h.mach
  obtain ⟨c11, f11⟩ := MachL.cell h 11 (.bool m.flex) (fun _ _ _ _ _ => rfl)
  obtain ⟨hB, hb, vs, vt, vk, Ar, cr, vp, hv, hi, ho⟩ := h
  obtain ⟨Ap, cp, rfl⟩ := own_slice hv.pts
  have c12 : w.cell? ⟨b, 12, none⟩ = some (.slice Ap m.points.length cp) := hv.cell 12
  by_cases h3 : l.length = 3
  · by_cases hfl : m.flex = true
    · by_cases h7 : m.points.length = 7
      · rw [h7] at c12
        rw [hfl] at c11
        obtain ⟨A', hcut, _, hints, hoffs⟩ := cutL A 3 c 1 (by omega) hA
        have HK1 : Aside0 (Ok { m with flex := false }) := ⟨⟨hok.stack, hok.small, hok.res, hok.rsmall, hok.steps, hok.stems, hok.points, hok.x, hok.y, hok.side, hok.width, hok.count⟩⟩
        have HK2 : Aside0 (Ok { m with flex := false, results := l.drop 1 }) := ⟨⟨hok.stack, hok.small, by show (l.drop 1).length ≤ 24; rw [List.length_drop]; omega, Small.drop hs 1, hok.steps, hok.stems, hok.points, hok.x, hok.y, hok.side, hok.width, hok.count⟩⟩
        have hcut2 : ∀ W : World, (Instr.slice 93 (.slice A 3 c) (some (.int .i64 1)) none none).run Try.prog W = .ok (.slice A' 2 (c - 1)) W := fun W => by simpa using hcut W
        have hv1 := hv.set 11 (.bool false) { m with flex := false } rfl rfl rfl rfl rfl rfl HK1.out
        have hl2 : (l.drop 1).length = 2 := by rw [List.length_drop, h3]
        have hi1 := ints_set (hints w l h3 (by omega) hi) hv.blk (by decide) 11 (.bool false)
        have hv2 := hv1.put_res (l := l.drop 1) (c' := c - 1) hi1 (hoffs l vk h3 (by omega) ho) (by omega) HK2.out
        rw [hl2] at hv2
        have c9 : (w.setCell ⟨b, 11, none⟩ (.bool false)).cell? ⟨b, 9, none⟩ = some (.slice Ar m.results.length cr) := hv1.cell 9
        have f9 : (w.setCell ⟨b, 11, none⟩ (.bool false)).frozen? ⟨b, 9, none⟩ = false := hv1.frz 9
        obtain ⟨As, n, cs, hvs⟩ : ∃ As n cs, vs = .slice As n cs := by obtain ⟨a, b, e⟩ := own_slice hv.steps; exact ⟨a, _, b, e⟩
        subst hvs
        obtain ⟨hn, _, _⟩ := own_len hv.steps
        have c2 : ((w.setCell ⟨b, 11, none⟩ (.bool false)).setCell ⟨b, 9, none⟩ (.slice A' 2 (c - 1))).cell? ⟨b, 2, none⟩ = some (.slice As n cs) := hv2.cell 2
        have HM2 : Aside0 (Mach W0 ((w.setCell ⟨b, 11, none⟩ (.bool false)).setCell ⟨b, 9, none⟩ (.slice A' 2 (c - 1))) b sb { m with flex := false, results := l.drop 1 }) := ⟨below_set (below_set hB hb) hb, hb, _, _, _, _, _, _, hv2⟩
        have HE : Aside0 (bendM m l = if 298 < m.steps.length then .error 26 else .ok { m with flex := false, results := l.drop 1, x := (m.points.getD 6 (0, 0)).1, y := (m.points.getD 6 (0, 0)).2, steps := m.steps ++ curves m }) := ⟨by unfold bendM; rw [if_neg (by rintro (h | h | h); exact h h3; rw [hfl] at h; cases h; exact h h7)]; rfl⟩
        have H7 := Aside0.mk h7
        have HN := Aside0.mk hn
        rw [h3]
        clear hB hv hv1 hv2 hi hi1 ho hints hoffs hcut hok hA hs h7 hfl
        by_cases hbig : 298 < n
        · have t2 : decide (298 < (n : Int)) = true := decide_eq_true (by omega)
          have HE2 : Aside0 (bendM m l = .error 26) := ⟨by rw [HE.out, if_pos (by omega)]⟩
          clear hn hbig h3
          go_enter Try.func98, Try.ntmps98
          go_wp2_with fail
          go_ret
          rw [HE2.out]
          exact ⟨rfl, .inl rfl, Mach.left HM2.out⟩
        · have t2 : decide (298 < (n : Int)) = false := decide_eq_false (by omega)
          have HE2 : Aside0 (bendM m l = .ok { m with flex := false, results := l.drop 1, x := (m.points.getD 6 (0, 0)).1, y := (m.points.getD 6 (0, 0)).2, steps := m.steps ++ curves m }) := ⟨by rw [HE.out, if_neg (by omega)]⟩
          have HBG := Aside0.mk (show m.steps.length ≤ 298 by omega)
          clear hn hbig h3
          go_enter Try.func98, Try.ntmps98
          go_wp2_with fail
          generalize (w.setCell ⟨b, 11, none⟩ (.bool false)).setCell ⟨b, 9, none⟩ (.slice A' 2 (c - 1)) = w2 at HM2 ⊢
          go_loopw [5] (fun v5 wr => ∃ (j : Nat) (acc : List Stp), v5 = .int .i64 (1 + 3 * (j : Int)) ∧ j ≤ 2 ∧ acc.length < 299 + j ∧ Aside0 (acc = m.steps ++ (curves m).take j) ∧ Aside0 (Mach W0 wr b sb { m with flex := false, results := l.drop 1, steps := acc })) (fun v5 _ => 20 - (intOf v5).toNat)
          case atStart => exact ⟨0, m.steps, rfl, by omega, by have := HBG.out; omega, ⟨by simp⟩, HM2⟩
          case round =>
            clear HM2
            obtain ⟨j, acc, rfl, hj, hacc, HACC, HM3⟩ := hrel
            rcases (show j = 0 ∨ j = 1 ∨ j = 2 by omega) with rfl | rfl | rfl
            · have HM3 := HM3
              obtain ⟨hB, hb2, vs3, vt3, vk3, Ar3, cr3, vp3, hv⟩ := HM3.out
              obtain ⟨As, n, cs, hvs⟩ : ∃ As n cs, vs3 = .slice As n cs := by obtain ⟨a, b, e⟩ := own_slice hv.steps; exact ⟨a, _, b, e⟩
              subst hvs
              obtain ⟨Ap, cp, hvp⟩ := own_slice hv.pts
              subst hvp
              have hpl : ({ m with flex := false, results := l.drop 1, steps := acc } : M).points.length = 7 := H7.out
              obtain ⟨gp, pcs, hAp, hpb, hpc⟩ := pts_cells hv.pts (by rw [hpl]; decide)
              subst hAp
              obtain ⟨hn, _, _⟩ := own_len hv.steps
              have HV := Aside0.mk hv
              have HB := Aside0.mk (below_drew hB)
              have HO : Aside0 (wr.drew.ownsRow W0.heap.size 60 7 (.slice As n cs) n (acc.flatMap stp)) := ⟨by have h0 := hv.steps; rw [← hn] at h0; exact h0⟩
              have HN56 : Aside0 ((n + 1) * 56 ≤ 140737488355328) := ⟨by have h300 : acc.length < 300 := (by omega); have : n = acc.length := hn; omega⟩
              have HN := Aside0.mk (show n < 300 by rw [hn]; show acc.length < 300; omega)
              have e1 := hpc 1 (by rw [hpl]; decide)
              have e2 := hpc 2 (by rw [hpl]; decide)
              have e3 := hpc 3 (by rw [hpl]; decide)
              obtain ⟨p0, hp0⟩ : ∃ p, m.points.getD 1 (0, 0) = p := ⟨_, rfl⟩
              obtain ⟨p1, hp1⟩ : ∃ p, m.points.getD 2 (0, 0) = p := ⟨_, rfl⟩
              obtain ⟨p2, hp2⟩ : ∃ p, m.points.getD 3 (0, 0) = p := ⟨_, rfl⟩
              rw [show ({ m with flex := false, results := l.drop 1, steps := acc } : M).points = m.points from rfl, hp0] at e1
              rw [show ({ m with flex := false, results := l.drop 1, steps := acc } : M).points = m.points from rfl, hp1] at e2
              rw [show ({ m with flex := false, results := l.drop 1, steps := acc } : M).points = m.points from rfl, hp2] at e3
              have hlen7 : (Value.slice (some ⟨gp, 0, none⟩) ({ m with flex := false, results := l.drop 1, steps := acc } : M).points.length cp) = .slice (some ⟨gp, 0, none⟩) 7 cp := by rw [hpl]
              have hblk := hv.blk
              rw [hlen7] at hblk
              have HSS : Aside0 (∀ w1 : World, wr.drew.grownBy w1 (Value.slice As n cs).ownBlock → w1.cell? ⟨b, 2, none⟩ = some (.slice As n cs) ∧ w1.cell? ⟨b, 12, none⟩ = some (.slice (some ⟨gp, 0, none⟩) 7 cp) ∧ w1.cell? ⟨gp, 2, none⟩ = some (.int .i64 p0.1) ∧ w1.cell? ⟨gp, 3, none⟩ = some (.int .i64 p0.2) ∧ w1.cell? ⟨gp, 4, none⟩ = some (.int .i64 p1.1) ∧ w1.cell? ⟨gp, 5, none⟩ = some (.int .i64 p1.2) ∧ w1.cell? ⟨gp, 6, none⟩ = some (.int .i64 p2.1) ∧ w1.cell? ⟨gp, 7, none⟩ = some (.int .i64 p2.2)) := ⟨fun w1 hg => by
                have q1 := blk_grown (w := wr.drew) hblk hg (own_ne hv.steps hv.blk (by decide))
                have q2 := blk_grown (w := wr.drew) hpb hg (own_ne hv.steps hpb (by decide))
                exact ⟨(blk_cell q1 2).trans rfl, (blk_cell q1 12).trans rfl, (blk_cell q2 _).trans e1.1, (blk_cell q2 _).trans e1.2, (blk_cell q2 _).trans e2.1, (blk_cell q2 _).trans e2.2, (blk_cell q2 _).trans e3.1, (blk_cell q2 _).trans e3.2⟩⟩
              have HKB : Aside0 (∀ w1 : World, wr.drew.grownBy w1 (Value.slice As n cs).ownBlock → w1.frozen? ⟨b, 2, none⟩ = false ∧ True) := ⟨fun w1 hg => ⟨blk_frozen (blk_grown (w := wr.drew) hblk hg (own_ne hv.steps hv.blk (by decide))) 2, trivial⟩⟩
              have k4 : IntKind.i64.wrap 4 = 4 := by kernel_rfl
              have hcp : 7 ≤ cp := by have := (own_len HV.out.pts).2.1; rw [hpl] at this; exact this
              have hcut4 : ∀ W : World, (Instr.slice 94 (.slice (some ⟨gp, 0, none⟩) 7 cp) (some (.int .i64 1)) (some (.int .i64 4)) none).run Try.prog W = .ok (.slice (some ⟨gp, 2, none⟩) 3 (cp - 1)) W := fun W => cut94 gp 7 cp 1 4 (by decide) (by omega) W
              have hat4 : ∀ W : World, (Instr.arrayAt 58 (.slice (some ⟨gp, 2, none⟩) 3 (cp - 1))).run Try.prog W = .ok (.pointer (some ⟨gp, 2, none⟩)) W := fun W => by kernel_rfl
              have hS0 := HSS.out wr.drew (World.grownBy.refl _ _)
              have hS1 := HSS.out (wr.drew.alloc (.cells #[.int .i64 3, .int .i64 p0.1, .int .i64 p0.2, .int .i64 p1.1, .int .i64 p1.2, .int .i64 p2.1, .int .i64 p2.2] 60)) (World.grownBy_alloc _ _ _)
              have HNN := Aside0.mk hn
              clear hn hpb hpc hblk hlen7 hB hv e1 e2 e3 hpl
              go_wp2_with fail
              refine H33.region_held (fun W => W.cell? ⟨b, 2, none⟩ = some (.slice As n cs) ∧ W.cell? ⟨b, 12, none⟩ = some (.slice (some ⟨gp, 0, none⟩) 7 cp) ∧ W.cell? ⟨gp, 2, none⟩ = some (.int .i64 p0.1) ∧ W.cell? ⟨gp, 3, none⟩ = some (.int .i64 p0.2) ∧ W.cell? ⟨gp, 4, none⟩ = some (.int .i64 p1.1) ∧ W.cell? ⟨gp, 5, none⟩ = some (.int .i64 p1.2) ∧ W.cell? ⟨gp, 6, none⟩ = some (.int .i64 p2.1) ∧ W.cell? ⟨gp, 7, none⟩ = some (.int .i64 p2.2)) 24 (by kernel_rfl) ?_
              refine H33.held_take (i := 0) (v := ?_) (some 44) rfl rfl (by kernel_rfl) (by kernel_rfl) (by kernel_rfl) (by kernel_rfl) (fun _ _ _ h => h) (Or.inl ⟨by rfl, ?_⟩) (hS0) ?_
              rotate_left
              · (intro W hW; obtain ⟨hW0, hW1, hW2, hW3, hW4, hW5, hW6, hW7⟩ := hW; go_simp <;> with_reducible rfl)
              try simp only [Act.put, List.setIfInBounds_toArray, List.set_cons_zero, List.set_cons_succ]
              refine H33.held_take (i := 1) (v := ?_) (some 45) rfl rfl (by kernel_rfl) (by kernel_rfl) (by kernel_rfl) (by kernel_rfl) (fun _ _ _ h => h) (Or.inl ⟨by rfl, ?_⟩) (hS0) ?_
              rotate_left
              · (intro W hW; obtain ⟨hW0, hW1, hW2, hW3, hW4, hW5, hW6, hW7⟩ := hW; go_simp <;> with_reducible rfl)
              try simp only [Act.put, List.setIfInBounds_toArray, List.set_cons_zero, List.set_cons_succ]
              refine H33.held_take (i := 2) (v := ?_) (some 46) rfl rfl (by kernel_rfl) (by kernel_rfl) (by kernel_rfl) (by kernel_rfl) (fun _ _ _ h => h) (Or.inl ⟨by rfl, ?_⟩) (hS0) ?_
              rotate_left
              · (intro W hW; obtain ⟨hW0, hW1, hW2, hW3, hW4, hW5, hW6, hW7⟩ := hW; go_simp <;> with_reducible rfl)
              try simp only [Act.put, List.setIfInBounds_toArray, List.set_cons_zero, List.set_cons_succ]
              refine H33.held_take (i := 3) (v := ?_) (some 47) rfl rfl (by kernel_rfl) (by kernel_rfl) (by kernel_rfl) (by kernel_rfl) (fun _ _ _ h => h) (Or.inl ⟨by rfl, ?_⟩) (hS0) ?_
              rotate_left
              · (intro W hW; obtain ⟨hW0, hW1, hW2, hW3, hW4, hW5, hW6, hW7⟩ := hW; go_simp <;> with_reducible rfl)
              try simp only [Act.put, List.setIfInBounds_toArray, List.set_cons_zero, List.set_cons_succ]
              refine H33.held_take (i := 4) (v := ?_) (some 48) rfl rfl (by kernel_rfl) (by kernel_rfl) (by kernel_rfl) (by kernel_rfl) (fun _ _ _ h => h) (Or.inl ⟨by rfl, ?_⟩) (hS0) ?_
              rotate_left
              · (intro W hW; obtain ⟨hW0, hW1, hW2, hW3, hW4, hW5, hW6, hW7⟩ := hW; go_simp <;> with_reducible rfl)
              try simp only [Act.put, List.setIfInBounds_toArray, List.set_cons_zero, List.set_cons_succ]
              refine H33.held_take (i := 5) (v := ?_) (some 49) rfl rfl (by kernel_rfl) (by kernel_rfl) (by kernel_rfl) (by kernel_rfl) (fun _ _ _ h => h) (Or.inl ⟨by rfl, ?_⟩) (hS0) ?_
              rotate_left
              · (intro W hW; obtain ⟨hW0, hW1, hW2, hW3, hW4, hW5, hW6, hW7⟩ := hW; go_simp <;> with_reducible rfl)
              try simp only [Act.put, List.setIfInBounds_toArray, List.set_cons_zero, List.set_cons_succ]
              refine H33.held_take (i := 6) (v := ?_) (some 50) rfl rfl (by kernel_rfl) (by kernel_rfl) (by kernel_rfl) (by kernel_rfl) (fun _ _ _ h => h) (Or.inl ⟨by rfl, ?_⟩) (hS0) ?_
              rotate_left
              · (intro W hW; obtain ⟨hW0, hW1, hW2, hW3, hW4, hW5, hW6, hW7⟩ := hW; go_simp <;> with_reducible rfl)
              try simp only [Act.put, List.setIfInBounds_toArray, List.set_cons_zero, List.set_cons_succ]
              refine H33.held_take (i := 7) (v := ?_) (some 51) rfl rfl (by kernel_rfl) (by kernel_rfl) (by kernel_rfl) (by kernel_rfl) (fun _ _ _ h => h) (Or.inl ⟨by rfl, ?_⟩) (hS0) ?_
              rotate_left
              · (intro W hW; obtain ⟨hW0, hW1, hW2, hW3, hW4, hW5, hW6, hW7⟩ := hW; go_simp <;> with_reducible rfl)
              try simp only [Act.put, List.setIfInBounds_toArray, List.set_cons_zero, List.set_cons_succ]
              refine H33.held_take (i := 8) (v := ?_) (some 52) rfl rfl (by kernel_rfl) (by kernel_rfl) (by kernel_rfl) (by kernel_rfl) (fun _ _ _ h => h) (Or.inl ⟨by rfl, ?_⟩) (hS0) ?_
              rotate_left
              · (intro W hW; obtain ⟨hW0, hW1, hW2, hW3, hW4, hW5, hW6, hW7⟩ := hW; go_simp <;> with_reducible rfl)
              try simp only [Act.put, List.setIfInBounds_toArray, List.set_cons_zero, List.set_cons_succ]
              refine H33.held_take (i := 9) (v := ?_) (some 53) rfl rfl (by kernel_rfl) (by kernel_rfl) (by kernel_rfl) (by kernel_rfl) (fun _ _ _ h => h) (Or.inl ⟨by rfl, ?_⟩) (hS0) ?_
              rotate_left
              · (intro W hW; obtain ⟨hW0, hW1, hW2, hW3, hW4, hW5, hW6, hW7⟩ := hW; go_simp <;> with_reducible rfl)
              try simp only [Act.put, List.setIfInBounds_toArray, List.set_cons_zero, List.set_cons_succ]
              refine H33.held_take (i := 10) (v := ?_) (some 54) rfl rfl (by kernel_rfl) (by kernel_rfl) (by kernel_rfl) (by kernel_rfl) (fun _ _ _ h => h) (Or.inl ⟨by rfl, ?_⟩) (hS0) ?_
              rotate_left
              · (intro W hW; obtain ⟨hW0, hW1, hW2, hW3, hW4, hW5, hW6, hW7⟩ := hW; go_simp <;> with_reducible rfl)
              try simp only [Act.put, List.setIfInBounds_toArray, List.set_cons_zero, List.set_cons_succ]
              refine H33.held_take (i := 11) (v := ?_) (some 55) rfl rfl (by kernel_rfl) (by kernel_rfl) (by kernel_rfl) (by kernel_rfl) (fun _ _ _ h => h) (Or.inl ⟨by rfl, ?_⟩) (hS0) ?_
              rotate_left
              · (intro W hW; obtain ⟨hW0, hW1, hW2, hW3, hW4, hW5, hW6, hW7⟩ := hW; go_simp <;> with_reducible rfl)
              try simp only [Act.put, List.setIfInBounds_toArray, List.set_cons_zero, List.set_cons_succ]
              refine H33.held_take (i := 12) (v := ?_) (some 56) rfl rfl (by kernel_rfl) (by kernel_rfl) (by kernel_rfl) (by kernel_rfl) (fun _ _ _ h => h) (Or.inl ⟨by rfl, ?_⟩) (hS0) ?_
              rotate_left
              · (intro W hW; obtain ⟨hW0, hW1, hW2, hW3, hW4, hW5, hW6, hW7⟩ := hW; go_simp <;> with_reducible rfl)
              try simp only [Act.put, List.setIfInBounds_toArray, List.set_cons_zero, List.set_cons_succ]
              refine H33.held_take (i := 13) (v := ?_) (some 57) rfl rfl (by kernel_rfl) (by kernel_rfl) (by kernel_rfl) (by kernel_rfl) (fun _ _ _ h => h) (Or.inl ⟨by rfl, ?_⟩) (hS0) ?_
              rotate_left
              · (intro W hW; obtain ⟨hW0, hW1, hW2, hW3, hW4, hW5, hW6, hW7⟩ := hW; go_simp <;> with_reducible rfl)
              try simp only [Act.put, List.setIfInBounds_toArray, List.set_cons_zero, List.set_cons_succ]
              refine H33.held_take (i := 14) (v := ?_) (some 58) rfl rfl (by kernel_rfl) (by kernel_rfl) (by kernel_rfl) (by kernel_rfl) (fun _ _ _ h => h) (Or.inl ⟨by rfl, ?_⟩) (hS0) ?_
              rotate_left
              · (intro W hW; obtain ⟨hW0, hW1, hW2, hW3, hW4, hW5, hW6, hW7⟩ := hW; go_simp <;> with_reducible rfl)
              try simp only [Act.put, List.setIfInBounds_toArray, List.set_cons_zero, List.set_cons_succ]
              refine H33.held_take (i := 15) (v := ?_) (some 59) rfl rfl (by kernel_rfl) (by kernel_rfl) (by kernel_rfl) (by kernel_rfl) (fun _ _ _ h => h) (Or.inl ⟨by rfl, ?_⟩) (hS0) ?_
              rotate_left
              · (intro W hW; obtain ⟨hW0, hW1, hW2, hW3, hW4, hW5, hW6, hW7⟩ := hW; go_simp <;> with_reducible rfl)
              try simp only [Act.put, List.setIfInBounds_toArray, List.set_cons_zero, List.set_cons_succ]
              refine H33.held_take (i := 16) (v := ?_) (some 60) rfl rfl (by kernel_rfl) (by kernel_rfl) (by kernel_rfl) (by kernel_rfl) (fun _ _ _ h => h) (Or.inl ⟨by rfl, ?_⟩) (hS0) ?_
              rotate_left
              · (intro W hW; obtain ⟨hW0, hW1, hW2, hW3, hW4, hW5, hW6, hW7⟩ := hW; go_simp <;> with_reducible rfl)
              try simp only [Act.put, List.setIfInBounds_toArray, List.set_cons_zero, List.set_cons_succ]
              refine H33.held_take (i := 17) (v := ?_) (some 61) rfl rfl (by kernel_rfl) (by kernel_rfl) (by kernel_rfl) (by kernel_rfl) (fun _ _ _ h => h) (Or.inl ⟨by rfl, ?_⟩) (hS0) ?_
              rotate_left
              · (intro W hW; obtain ⟨hW0, hW1, hW2, hW3, hW4, hW5, hW6, hW7⟩ := hW; go_simp <;> with_reducible rfl)
              try simp only [Act.put, List.setIfInBounds_toArray, List.set_cons_zero, List.set_cons_succ]
              refine H33.held_one (j := 18) (by kernel_rfl) rfl (fun K hK => ?_)
              go_simp
              refine hK.out _ _ (fun _ => hS1) ?_
              clear hK
              try simp only [Act.put, List.setIfInBounds_toArray, List.set_cons_zero, List.set_cons_succ]
              refine H33.held_one (j := 19) (by kernel_rfl) rfl (fun K hK => ?_)
              refine step_append_cells (w0 := W0) W0.heap.size (by rfl) (.tmp 50) (.tmp 62) 40 60 _ 7 56 (by rfl) Try.underlying40 info60 rfl (by decide) (by decide) (.slice As n cs) n (acc.flatMap stp) [.int .i64 3, .int .i64 p0.1, .int .i64 p0.2, .int .i64 p1.1, .int .i64 p1.2, .int .i64 p2.1, .int .i64 p2.2] (by rfl) (by rfl) rfl (by simp [Value.oneCell']) HO.out HB.out HB.out.size HN56.out ?_
              intro v1 w1 ho1 hb1 hg1 hat1
              obtain ⟨A1, k1, rfl⟩ := own_slice ho1
              have HO1 := Aside0.mk ho1
              have HB1 := Aside0.mk hb1
              have HG1 := Aside0.mk hg1
              have HAT1 := Aside0.mk hat1
              have hb9 := HKB.out w1 hg1
              have hS2 := HSS.out w1 hg1
              have f2 : w1.frozen? ⟨b, 2, none⟩ = false := hb9.1
              clear ho1 hb1 hg1 hat1 hb9
              refine hK.out _ _ (fun _ => hS2) ?_
              clear hK
              try simp only [Act.put, List.setIfInBounds_toArray, List.set_cons_zero, List.set_cons_succ]
              refine H33.held_one (j := 20) (by kernel_rfl) rfl (fun K hK => ?_)
              go_simp
              refine hK.out _ _ (fun _ => hS2) ?_
              clear hK
              try simp only [Act.put, List.setIfInBounds_toArray, List.set_cons_zero, List.set_cons_succ]
              refine H33.held_one (j := 21) (by kernel_rfl) rfl (fun K hK => ?_)
              go_simp
              refine hK.out _ _ (fun _ => hS2) ?_
              clear hK
              try simp only [Act.put, List.setIfInBounds_toArray, List.set_cons_zero, List.set_cons_succ]
              refine H33.held_one (j := 22) (by kernel_rfl) rfl (fun K hK => ?_)
              go_simp
              refine hK.out _ _ (fun _ => hS2) ?_
              clear hK
              try simp only [Act.put, List.setIfInBounds_toArray, List.set_cons_zero, List.set_cons_succ]
              refine H33.held_one (j := 23) (by kernel_rfl) rfl (fun K hK => ?_)
              go_simp
              refine hK.out _ _ (fun _ => hS2) ?_
              clear hK
              try simp only [Act.put, List.setIfInBounds_toArray, List.set_cons_zero, List.set_cons_succ]
              refine H33.held_one (j := 24) (by kernel_rfl) rfl (fun K hK => ?_)
              go_simp
              refine hK.out _ _ (fun h => absurd rfl h) ?_
              clear hK
              try simp only [Act.put, List.setIfInBounds_toArray, List.set_cons_zero, List.set_cons_succ]
              refine H33.held_done (by kernel_rfl) ?_ _
              go_wp2_with fail
              have e1 : (acc ++ [((3 : Int), p0, p1, p2)]).length = acc.length + 1 := by simp
              have hnn : n = acc.length := HNN.out
              have k0 := HV.out.ok
              have hown : w1.ownsRow W0.heap.size 60 7 (.slice A1 (n + 1) k1) (acc ++ [((3 : Int), p0, p1, p2)]).length ((acc ++ [((3 : Int), p0, p1, p2)]).flatMap stp) := by
                rw [e1, List.flatMap_append, ← hnn]
                simpa [stp] using HO1.out
              have hput := (HV.out.below (Below.drew (Below.refl _ _))).put_steps hown HG1.out ⟨k0.stack, k0.small, k0.res, k0.rsmall, by show (acc ++ [((3 : Int), p0, p1, p2)]).length ≤ 300; rw [e1]; omega, k0.stems, k0.points, k0.x, k0.y, k0.side, k0.width, k0.count⟩
              have HM9 : Aside0 (Mach W0 (w1.setCell ⟨b, 2, none⟩ (.slice A1 (n + 1) k1)) b sb { m with flex := false, results := l.drop 1, steps := acc ++ [((3 : Int), p0, p1, p2)] }) := ⟨below_set HB1.out hb2, hb2, _, vt3, vk3, Ar3, cr3, _, hput⟩
              have HAC2 : Aside0 (acc ++ [((3 : Int), p0, p1, p2)] = m.steps ++ (curves m).take 1) := ⟨by rw [HACC.out, ← hp0, ← hp1, ← hp2, List.append_assoc]; rfl⟩
              clear hput hown k0
              go_roundw
              case measure => simp [intOf]
              case rel => exact ⟨1, _, by go_num, by omega, by rw [e1]; omega, HAC2, HM9⟩
            · have HM3 := HM3
              obtain ⟨hB, hb2, vs3, vt3, vk3, Ar3, cr3, vp3, hv⟩ := HM3.out
              obtain ⟨As, n, cs, hvs⟩ : ∃ As n cs, vs3 = .slice As n cs := by obtain ⟨a, b, e⟩ := own_slice hv.steps; exact ⟨a, _, b, e⟩
              subst hvs
              obtain ⟨Ap, cp, hvp⟩ := own_slice hv.pts
              subst hvp
              have hpl : ({ m with flex := false, results := l.drop 1, steps := acc } : M).points.length = 7 := H7.out
              obtain ⟨gp, pcs, hAp, hpb, hpc⟩ := pts_cells hv.pts (by rw [hpl]; decide)
              subst hAp
              obtain ⟨hn, _, _⟩ := own_len hv.steps
              have HV := Aside0.mk hv
              have HB := Aside0.mk (below_drew hB)
              have HO : Aside0 (wr.drew.ownsRow W0.heap.size 60 7 (.slice As n cs) n (acc.flatMap stp)) := ⟨by have h0 := hv.steps; rw [← hn] at h0; exact h0⟩
              have HN56 : Aside0 ((n + 1) * 56 ≤ 140737488355328) := ⟨by have h300 : acc.length < 300 := (by omega); have : n = acc.length := hn; omega⟩
              have HN := Aside0.mk (show n < 300 by rw [hn]; show acc.length < 300; omega)
              have e4 := hpc 4 (by rw [hpl]; decide)
              have e5 := hpc 5 (by rw [hpl]; decide)
              have e6 := hpc 6 (by rw [hpl]; decide)
              obtain ⟨p0, hp0⟩ : ∃ p, m.points.getD 4 (0, 0) = p := ⟨_, rfl⟩
              obtain ⟨p1, hp1⟩ : ∃ p, m.points.getD 5 (0, 0) = p := ⟨_, rfl⟩
              obtain ⟨p2, hp2⟩ : ∃ p, m.points.getD 6 (0, 0) = p := ⟨_, rfl⟩
              rw [show ({ m with flex := false, results := l.drop 1, steps := acc } : M).points = m.points from rfl, hp0] at e4
              rw [show ({ m with flex := false, results := l.drop 1, steps := acc } : M).points = m.points from rfl, hp1] at e5
              rw [show ({ m with flex := false, results := l.drop 1, steps := acc } : M).points = m.points from rfl, hp2] at e6
              have hlen7 : (Value.slice (some ⟨gp, 0, none⟩) ({ m with flex := false, results := l.drop 1, steps := acc } : M).points.length cp) = .slice (some ⟨gp, 0, none⟩) 7 cp := by rw [hpl]
              have hblk := hv.blk
              rw [hlen7] at hblk
              have HSS : Aside0 (∀ w1 : World, wr.drew.grownBy w1 (Value.slice As n cs).ownBlock → w1.cell? ⟨b, 2, none⟩ = some (.slice As n cs) ∧ w1.cell? ⟨b, 12, none⟩ = some (.slice (some ⟨gp, 0, none⟩) 7 cp) ∧ w1.cell? ⟨gp, 8, none⟩ = some (.int .i64 p0.1) ∧ w1.cell? ⟨gp, 9, none⟩ = some (.int .i64 p0.2) ∧ w1.cell? ⟨gp, 10, none⟩ = some (.int .i64 p1.1) ∧ w1.cell? ⟨gp, 11, none⟩ = some (.int .i64 p1.2) ∧ w1.cell? ⟨gp, 12, none⟩ = some (.int .i64 p2.1) ∧ w1.cell? ⟨gp, 13, none⟩ = some (.int .i64 p2.2)) := ⟨fun w1 hg => by
                have q1 := blk_grown (w := wr.drew) hblk hg (own_ne hv.steps hv.blk (by decide))
                have q2 := blk_grown (w := wr.drew) hpb hg (own_ne hv.steps hpb (by decide))
                exact ⟨(blk_cell q1 2).trans rfl, (blk_cell q1 12).trans rfl, (blk_cell q2 _).trans e4.1, (blk_cell q2 _).trans e4.2, (blk_cell q2 _).trans e5.1, (blk_cell q2 _).trans e5.2, (blk_cell q2 _).trans e6.1, (blk_cell q2 _).trans e6.2⟩⟩
              have HKB : Aside0 (∀ w1 : World, wr.drew.grownBy w1 (Value.slice As n cs).ownBlock → w1.frozen? ⟨b, 2, none⟩ = false ∧ True) := ⟨fun w1 hg => ⟨blk_frozen (blk_grown (w := wr.drew) hblk hg (own_ne hv.steps hv.blk (by decide))) 2, trivial⟩⟩
              have k4 : IntKind.i64.wrap 7 = 7 := by kernel_rfl
              have hcp : 7 ≤ cp := by have := (own_len HV.out.pts).2.1; rw [hpl] at this; exact this
              have hcut4 : ∀ W : World, (Instr.slice 94 (.slice (some ⟨gp, 0, none⟩) 7 cp) (some (.int .i64 4)) (some (.int .i64 7)) none).run Try.prog W = .ok (.slice (some ⟨gp, 8, none⟩) 3 (cp - 4)) W := fun W => cut94 gp 7 cp 4 7 (by decide) (by omega) W
              have hat4 : ∀ W : World, (Instr.arrayAt 58 (.slice (some ⟨gp, 8, none⟩) 3 (cp - 4))).run Try.prog W = .ok (.pointer (some ⟨gp, 8, none⟩)) W := fun W => by kernel_rfl
              have hS0 := HSS.out wr.drew (World.grownBy.refl _ _)
              have hS1 := HSS.out (wr.drew.alloc (.cells #[.int .i64 3, .int .i64 p0.1, .int .i64 p0.2, .int .i64 p1.1, .int .i64 p1.2, .int .i64 p2.1, .int .i64 p2.2] 60)) (World.grownBy_alloc _ _ _)
              have HNN := Aside0.mk hn
              clear hn hpb hpc hblk hlen7 hB hv e4 e5 e6 hpl
              go_wp2_with fail
              refine H33.region_held (fun W => W.cell? ⟨b, 2, none⟩ = some (.slice As n cs) ∧ W.cell? ⟨b, 12, none⟩ = some (.slice (some ⟨gp, 0, none⟩) 7 cp) ∧ W.cell? ⟨gp, 8, none⟩ = some (.int .i64 p0.1) ∧ W.cell? ⟨gp, 9, none⟩ = some (.int .i64 p0.2) ∧ W.cell? ⟨gp, 10, none⟩ = some (.int .i64 p1.1) ∧ W.cell? ⟨gp, 11, none⟩ = some (.int .i64 p1.2) ∧ W.cell? ⟨gp, 12, none⟩ = some (.int .i64 p2.1) ∧ W.cell? ⟨gp, 13, none⟩ = some (.int .i64 p2.2)) 24 (by kernel_rfl) ?_
              refine H33.held_take (i := 0) (v := ?_) (some 44) rfl rfl (by kernel_rfl) (by kernel_rfl) (by kernel_rfl) (by kernel_rfl) (fun _ _ _ h => h) (Or.inl ⟨by rfl, ?_⟩) (hS0) ?_
              rotate_left
              · (intro W hW; obtain ⟨hW0, hW1, hW2, hW3, hW4, hW5, hW6, hW7⟩ := hW; go_simp <;> with_reducible rfl)
              try simp only [Act.put, List.setIfInBounds_toArray, List.set_cons_zero, List.set_cons_succ]
              refine H33.held_take (i := 1) (v := ?_) (some 45) rfl rfl (by kernel_rfl) (by kernel_rfl) (by kernel_rfl) (by kernel_rfl) (fun _ _ _ h => h) (Or.inl ⟨by rfl, ?_⟩) (hS0) ?_
              rotate_left
              · (intro W hW; obtain ⟨hW0, hW1, hW2, hW3, hW4, hW5, hW6, hW7⟩ := hW; go_simp <;> with_reducible rfl)
              try simp only [Act.put, List.setIfInBounds_toArray, List.set_cons_zero, List.set_cons_succ]
              refine H33.held_take (i := 2) (v := ?_) (some 46) rfl rfl (by kernel_rfl) (by kernel_rfl) (by kernel_rfl) (by kernel_rfl) (fun _ _ _ h => h) (Or.inl ⟨by rfl, ?_⟩) (hS0) ?_
              rotate_left
              · (intro W hW; obtain ⟨hW0, hW1, hW2, hW3, hW4, hW5, hW6, hW7⟩ := hW; go_simp <;> with_reducible rfl)
              try simp only [Act.put, List.setIfInBounds_toArray, List.set_cons_zero, List.set_cons_succ]
              refine H33.held_take (i := 3) (v := ?_) (some 47) rfl rfl (by kernel_rfl) (by kernel_rfl) (by kernel_rfl) (by kernel_rfl) (fun _ _ _ h => h) (Or.inl ⟨by rfl, ?_⟩) (hS0) ?_
              rotate_left
              · (intro W hW; obtain ⟨hW0, hW1, hW2, hW3, hW4, hW5, hW6, hW7⟩ := hW; go_simp <;> with_reducible rfl)
              try simp only [Act.put, List.setIfInBounds_toArray, List.set_cons_zero, List.set_cons_succ]
              refine H33.held_take (i := 4) (v := ?_) (some 48) rfl rfl (by kernel_rfl) (by kernel_rfl) (by kernel_rfl) (by kernel_rfl) (fun _ _ _ h => h) (Or.inl ⟨by rfl, ?_⟩) (hS0) ?_
              rotate_left
              · (intro W hW; obtain ⟨hW0, hW1, hW2, hW3, hW4, hW5, hW6, hW7⟩ := hW; go_simp <;> with_reducible rfl)
              try simp only [Act.put, List.setIfInBounds_toArray, List.set_cons_zero, List.set_cons_succ]
              refine H33.held_take (i := 5) (v := ?_) (some 49) rfl rfl (by kernel_rfl) (by kernel_rfl) (by kernel_rfl) (by kernel_rfl) (fun _ _ _ h => h) (Or.inl ⟨by rfl, ?_⟩) (hS0) ?_
              rotate_left
              · (intro W hW; obtain ⟨hW0, hW1, hW2, hW3, hW4, hW5, hW6, hW7⟩ := hW; go_simp <;> with_reducible rfl)
              try simp only [Act.put, List.setIfInBounds_toArray, List.set_cons_zero, List.set_cons_succ]
              refine H33.held_take (i := 6) (v := ?_) (some 50) rfl rfl (by kernel_rfl) (by kernel_rfl) (by kernel_rfl) (by kernel_rfl) (fun _ _ _ h => h) (Or.inl ⟨by rfl, ?_⟩) (hS0) ?_
              rotate_left
              · (intro W hW; obtain ⟨hW0, hW1, hW2, hW3, hW4, hW5, hW6, hW7⟩ := hW; go_simp <;> with_reducible rfl)
              try simp only [Act.put, List.setIfInBounds_toArray, List.set_cons_zero, List.set_cons_succ]
              refine H33.held_take (i := 7) (v := ?_) (some 51) rfl rfl (by kernel_rfl) (by kernel_rfl) (by kernel_rfl) (by kernel_rfl) (fun _ _ _ h => h) (Or.inl ⟨by rfl, ?_⟩) (hS0) ?_
              rotate_left
              · (intro W hW; obtain ⟨hW0, hW1, hW2, hW3, hW4, hW5, hW6, hW7⟩ := hW; go_simp <;> with_reducible rfl)
              try simp only [Act.put, List.setIfInBounds_toArray, List.set_cons_zero, List.set_cons_succ]
              refine H33.held_take (i := 8) (v := ?_) (some 52) rfl rfl (by kernel_rfl) (by kernel_rfl) (by kernel_rfl) (by kernel_rfl) (fun _ _ _ h => h) (Or.inl ⟨by rfl, ?_⟩) (hS0) ?_
              rotate_left
              · (intro W hW; obtain ⟨hW0, hW1, hW2, hW3, hW4, hW5, hW6, hW7⟩ := hW; go_simp <;> with_reducible rfl)
              try simp only [Act.put, List.setIfInBounds_toArray, List.set_cons_zero, List.set_cons_succ]
              refine H33.held_take (i := 9) (v := ?_) (some 53) rfl rfl (by kernel_rfl) (by kernel_rfl) (by kernel_rfl) (by kernel_rfl) (fun _ _ _ h => h) (Or.inl ⟨by rfl, ?_⟩) (hS0) ?_
              rotate_left
              · (intro W hW; obtain ⟨hW0, hW1, hW2, hW3, hW4, hW5, hW6, hW7⟩ := hW; go_simp <;> with_reducible rfl)
              try simp only [Act.put, List.setIfInBounds_toArray, List.set_cons_zero, List.set_cons_succ]
              refine H33.held_take (i := 10) (v := ?_) (some 54) rfl rfl (by kernel_rfl) (by kernel_rfl) (by kernel_rfl) (by kernel_rfl) (fun _ _ _ h => h) (Or.inl ⟨by rfl, ?_⟩) (hS0) ?_
              rotate_left
              · (intro W hW; obtain ⟨hW0, hW1, hW2, hW3, hW4, hW5, hW6, hW7⟩ := hW; go_simp <;> with_reducible rfl)
              try simp only [Act.put, List.setIfInBounds_toArray, List.set_cons_zero, List.set_cons_succ]
              refine H33.held_take (i := 11) (v := ?_) (some 55) rfl rfl (by kernel_rfl) (by kernel_rfl) (by kernel_rfl) (by kernel_rfl) (fun _ _ _ h => h) (Or.inl ⟨by rfl, ?_⟩) (hS0) ?_
              rotate_left
              · (intro W hW; obtain ⟨hW0, hW1, hW2, hW3, hW4, hW5, hW6, hW7⟩ := hW; go_simp <;> with_reducible rfl)
              try simp only [Act.put, List.setIfInBounds_toArray, List.set_cons_zero, List.set_cons_succ]
              refine H33.held_take (i := 12) (v := ?_) (some 56) rfl rfl (by kernel_rfl) (by kernel_rfl) (by kernel_rfl) (by kernel_rfl) (fun _ _ _ h => h) (Or.inl ⟨by rfl, ?_⟩) (hS0) ?_
              rotate_left
              · (intro W hW; obtain ⟨hW0, hW1, hW2, hW3, hW4, hW5, hW6, hW7⟩ := hW; go_simp <;> with_reducible rfl)
              try simp only [Act.put, List.setIfInBounds_toArray, List.set_cons_zero, List.set_cons_succ]
              refine H33.held_take (i := 13) (v := ?_) (some 57) rfl rfl (by kernel_rfl) (by kernel_rfl) (by kernel_rfl) (by kernel_rfl) (fun _ _ _ h => h) (Or.inl ⟨by rfl, ?_⟩) (hS0) ?_
              rotate_left
              · (intro W hW; obtain ⟨hW0, hW1, hW2, hW3, hW4, hW5, hW6, hW7⟩ := hW; go_simp <;> with_reducible rfl)
              try simp only [Act.put, List.setIfInBounds_toArray, List.set_cons_zero, List.set_cons_succ]
              refine H33.held_take (i := 14) (v := ?_) (some 58) rfl rfl (by kernel_rfl) (by kernel_rfl) (by kernel_rfl) (by kernel_rfl) (fun _ _ _ h => h) (Or.inl ⟨by rfl, ?_⟩) (hS0) ?_
              rotate_left
              · (intro W hW; obtain ⟨hW0, hW1, hW2, hW3, hW4, hW5, hW6, hW7⟩ := hW; go_simp <;> with_reducible rfl)
              try simp only [Act.put, List.setIfInBounds_toArray, List.set_cons_zero, List.set_cons_succ]
              refine H33.held_take (i := 15) (v := ?_) (some 59) rfl rfl (by kernel_rfl) (by kernel_rfl) (by kernel_rfl) (by kernel_rfl) (fun _ _ _ h => h) (Or.inl ⟨by rfl, ?_⟩) (hS0) ?_
              rotate_left
              · (intro W hW; obtain ⟨hW0, hW1, hW2, hW3, hW4, hW5, hW6, hW7⟩ := hW; go_simp <;> with_reducible rfl)
              try simp only [Act.put, List.setIfInBounds_toArray, List.set_cons_zero, List.set_cons_succ]
              refine H33.held_take (i := 16) (v := ?_) (some 60) rfl rfl (by kernel_rfl) (by kernel_rfl) (by kernel_rfl) (by kernel_rfl) (fun _ _ _ h => h) (Or.inl ⟨by rfl, ?_⟩) (hS0) ?_
              rotate_left
              · (intro W hW; obtain ⟨hW0, hW1, hW2, hW3, hW4, hW5, hW6, hW7⟩ := hW; go_simp <;> with_reducible rfl)
              try simp only [Act.put, List.setIfInBounds_toArray, List.set_cons_zero, List.set_cons_succ]
              refine H33.held_take (i := 17) (v := ?_) (some 61) rfl rfl (by kernel_rfl) (by kernel_rfl) (by kernel_rfl) (by kernel_rfl) (fun _ _ _ h => h) (Or.inl ⟨by rfl, ?_⟩) (hS0) ?_
              rotate_left
              · (intro W hW; obtain ⟨hW0, hW1, hW2, hW3, hW4, hW5, hW6, hW7⟩ := hW; go_simp <;> with_reducible rfl)
              try simp only [Act.put, List.setIfInBounds_toArray, List.set_cons_zero, List.set_cons_succ]
              refine H33.held_one (j := 18) (by kernel_rfl) rfl (fun K hK => ?_)
              go_simp
              refine hK.out _ _ (fun _ => hS1) ?_
              clear hK
              try simp only [Act.put, List.setIfInBounds_toArray, List.set_cons_zero, List.set_cons_succ]
              refine H33.held_one (j := 19) (by kernel_rfl) rfl (fun K hK => ?_)
              refine step_append_cells (w0 := W0) W0.heap.size (by rfl) (.tmp 50) (.tmp 62) 40 60 _ 7 56 (by rfl) Try.underlying40 info60 rfl (by decide) (by decide) (.slice As n cs) n (acc.flatMap stp) [.int .i64 3, .int .i64 p0.1, .int .i64 p0.2, .int .i64 p1.1, .int .i64 p1.2, .int .i64 p2.1, .int .i64 p2.2] (by rfl) (by rfl) rfl (by simp [Value.oneCell']) HO.out HB.out HB.out.size HN56.out ?_
              intro v1 w1 ho1 hb1 hg1 hat1
              obtain ⟨A1, k1, rfl⟩ := own_slice ho1
              have HO1 := Aside0.mk ho1
              have HB1 := Aside0.mk hb1
              have HG1 := Aside0.mk hg1
              have HAT1 := Aside0.mk hat1
              have hb9 := HKB.out w1 hg1
              have hS2 := HSS.out w1 hg1
              have f2 : w1.frozen? ⟨b, 2, none⟩ = false := hb9.1
              clear ho1 hb1 hg1 hat1 hb9
              refine hK.out _ _ (fun _ => hS2) ?_
              clear hK
              try simp only [Act.put, List.setIfInBounds_toArray, List.set_cons_zero, List.set_cons_succ]
              refine H33.held_one (j := 20) (by kernel_rfl) rfl (fun K hK => ?_)
              go_simp
              refine hK.out _ _ (fun _ => hS2) ?_
              clear hK
              try simp only [Act.put, List.setIfInBounds_toArray, List.set_cons_zero, List.set_cons_succ]
              refine H33.held_one (j := 21) (by kernel_rfl) rfl (fun K hK => ?_)
              go_simp
              refine hK.out _ _ (fun _ => hS2) ?_
              clear hK
              try simp only [Act.put, List.setIfInBounds_toArray, List.set_cons_zero, List.set_cons_succ]
              refine H33.held_one (j := 22) (by kernel_rfl) rfl (fun K hK => ?_)
              go_simp
              refine hK.out _ _ (fun _ => hS2) ?_
              clear hK
              try simp only [Act.put, List.setIfInBounds_toArray, List.set_cons_zero, List.set_cons_succ]
              refine H33.held_one (j := 23) (by kernel_rfl) rfl (fun K hK => ?_)
              go_simp
              refine hK.out _ _ (fun _ => hS2) ?_
              clear hK
              try simp only [Act.put, List.setIfInBounds_toArray, List.set_cons_zero, List.set_cons_succ]
              refine H33.held_one (j := 24) (by kernel_rfl) rfl (fun K hK => ?_)
              go_simp
              refine hK.out _ _ (fun h => absurd rfl h) ?_
              clear hK
              try simp only [Act.put, List.setIfInBounds_toArray, List.set_cons_zero, List.set_cons_succ]
              refine H33.held_done (by kernel_rfl) ?_ _
              go_wp2_with fail
              have e1 : (acc ++ [((3 : Int), p0, p1, p2)]).length = acc.length + 1 := by simp
              have hnn : n = acc.length := HNN.out
              have k0 := HV.out.ok
              have hown : w1.ownsRow W0.heap.size 60 7 (.slice A1 (n + 1) k1) (acc ++ [((3 : Int), p0, p1, p2)]).length ((acc ++ [((3 : Int), p0, p1, p2)]).flatMap stp) := by
                rw [e1, List.flatMap_append, ← hnn]
                simpa [stp] using HO1.out
              have hput := (HV.out.below (Below.drew (Below.refl _ _))).put_steps hown HG1.out ⟨k0.stack, k0.small, k0.res, k0.rsmall, by show (acc ++ [((3 : Int), p0, p1, p2)]).length ≤ 300; rw [e1]; omega, k0.stems, k0.points, k0.x, k0.y, k0.side, k0.width, k0.count⟩
              have HM9 : Aside0 (Mach W0 (w1.setCell ⟨b, 2, none⟩ (.slice A1 (n + 1) k1)) b sb { m with flex := false, results := l.drop 1, steps := acc ++ [((3 : Int), p0, p1, p2)] }) := ⟨below_set HB1.out hb2, hb2, _, vt3, vk3, Ar3, cr3, _, hput⟩
              have HAC2 : Aside0 (acc ++ [((3 : Int), p0, p1, p2)] = m.steps ++ (curves m).take 2) := ⟨by rw [HACC.out, ← hp0, ← hp1, ← hp2, List.append_assoc]; rfl⟩
              clear hput hown k0
              go_roundw
              case measure => simp [intOf]
              case rel => exact ⟨2, _, by go_num, by omega, by rw [e1]; omega, HAC2, HM9⟩
            · obtain ⟨hB, hb2, vs3, vt3, vk3, Ar3, cr3, vp3, hv⟩ := HM3.out
              obtain ⟨Ap, cp, hvp⟩ := own_slice hv.pts
              subst hvp
              have hpl : ({ m with flex := false, results := l.drop 1, steps := acc } : M).points.length = 7 := H7.out
              obtain ⟨gp, pcs, hAp, hpb, hpc⟩ := pts_cells hv.pts (by rw [hpl]; decide)
              subst hAp
              have e6 := hpc 6 (by rw [hpl]; decide)
              have hin := hv.ok.points.2 (m.points.getD 6 (0, 0)) (by
                have h6 : 6 < m.points.length := by rw [H7.out]; decide
                rw [List.getD_eq_getElem?_getD, List.getElem?_eq_getElem h6]
                exact List.getElem_mem h6)
              have c12' : wr.cell? ⟨b, 12, none⟩ = some (.slice (some ⟨gp, 0, none⟩) 7 cp) := (hv.cell 12).trans (by rw [hpl]; rfl)
              have q0 : wr.cell? ⟨gp, 12, none⟩ = some (.int .i64 (m.points.getD 6 (0, 0)).1) := (blk_cell hpb 12).trans e6.1
              have q1 : wr.cell? ⟨gp, 13, none⟩ = some (.int .i64 (m.points.getD 6 (0, 0)).2) := (blk_cell hpb 13).trans e6.2
              have c4 : wr.cell? ⟨b, 4, none⟩ = some (.int .i64 m.x) := hv.cell 4
              have f4 : wr.frozen? ⟨b, 4, none⟩ = false := hv.frz 4
              have HIN := Aside0.mk hin
              have HAC : Aside0 (acc = m.steps ++ curves m) := HACC
              obtain ⟨p6, hp6⟩ : ∃ p, m.points.getD 6 (0, 0) = p := ⟨_, rfl⟩
              rw [hp6] at q0 q1 HIN HE2
              have c5 : (wr.setCell ⟨b, 4, none⟩ (.int .i64 p6.1)).cell? ⟨b, 5, none⟩ = some (.int .i64 m.y) := blk_cell (blk_set hv.blk 4 _) 5
              have f5 : (wr.setCell ⟨b, 4, none⟩ (.int .i64 p6.1)).frozen? ⟨b, 5, none⟩ = false := blk_frozen (blk_set hv.blk 4 _) 5
              clear hv hpb hpc e6 hpl hB hin hp6
              go_wp2_with fail
              go_ret
              rw [HE2.out, ← HAC.out]
              have k0 := Mach.ok HM3.out
              have m1 := Mach.set HM3.out 4 (.int .i64 p6.1) { m with flex := false, results := l.drop 1, steps := acc, x := p6.1 } (fun _ _ _ _ _ => rfl) rfl rfl rfl rfl rfl ⟨k0.stack, k0.small, k0.res, k0.rsmall, k0.steps, k0.stems, k0.points, HIN.out.1, k0.y, k0.side, k0.width, k0.count⟩
              have m2 := Mach.set m1 5 (.int .i64 p6.2) { m with flex := false, results := l.drop 1, steps := acc, x := p6.1, y := p6.2 } (fun _ _ _ _ _ => rfl) rfl rfl rfl rfl rfl ⟨k0.stack, k0.small, k0.res, k0.rsmall, k0.steps, k0.stems, k0.points, HIN.out.1, HIN.out.2, k0.side, k0.width, k0.count⟩
              exact ⟨rfl, m2⟩
      · have t1 : ((m.points.length : Int) != 7) = true := by simp; omega
        have HE : Aside0 (bendM m l = .error 39) := ⟨by unfold bendM; rw [if_pos (.inr (.inr h7))]⟩
        rw [hfl] at c11
        rw [h3]
        clear hB hv hi ho hA hs h7 hfl h3 hok
        go_enter Try.func98, Try.ntmps98
        go_wp2_with fail
        go_ret
        rw [HE.out]
        exact ⟨rfl, .inr rfl, HL.out⟩
    · have hf2 : m.flex = false := by simpa using hfl
      have HE : Aside0 (bendM m l = .error 39) := ⟨by unfold bendM; rw [if_pos (.inr (.inl hf2))]⟩
      rw [hf2] at c11
      rw [h3]
      clear hB hv hi ho hA hs hfl h3 hf2 hok
      go_enter Try.func98, Try.ntmps98
      go_wp2_with fail
      go_ret
      rw [HE.out]
      exact ⟨rfl, .inr rfl, HL.out⟩
  · have HE : Aside0 (bendM m l = .error 39) := ⟨by unfold bendM; rw [if_pos (.inl h3)]⟩
    have t0 : ((l.length : Int) != 3) = true := by simp; omega
    clear hB hv hi ho hA hs h3 hok
    go_enter Try.func98, Try.ntmps98
    go_wp2_with fail
    go_ret
    rw [HE.out]
    exact ⟨rfl, .inr rfl, HL.out⟩
end Go.Proofs.Ytimnohaalccdkaa.G33g
