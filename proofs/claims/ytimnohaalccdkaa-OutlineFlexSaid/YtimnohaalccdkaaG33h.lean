/- callothersubr of the machine (chapter 33): other 71. -/
import Derived.Test.YtimnohaalccdkaaG33g
import Derived.Test.YtimnohaalccdkaaG33r
namespace Go.Proofs.Ytimnohaalccdkaa.G33h
open Go.Proofs.Ytimnohaalccdkaa Go.Proofs.Ytimnohaalccdkaa.K33 Go.Proofs.Ytimnohaalccdkaa.M33 Go.Proofs.Ytimnohaalccdkaa.G33a Go.Proofs.Ytimnohaalccdkaa.G33b Go.Proofs.Ytimnohaalccdkaa.G33c Go.Proofs.Ytimnohaalccdkaa.G33d Go.Proofs.Ytimnohaalccdkaa.G33e Go.Proofs.Ytimnohaalccdkaa.G33f Go.Proofs.Ytimnohaalccdkaa.G33g Go.Proofs.Ytimnohaalccdkaa.G33r Go.Proofs.Ytimnohaalccdkaa.P33a
open Go.RowKit Go.Proofs.YtimnohaalccdkaaW.PrintWords Go.Proofs.YtimnohaalccdkaaW.PrintLast Go.Proofs.YtimnohaalccdkaaW.PrintMore
set_option linter.unusedVariables false
set_option linter.unusedSimpArgs false
set_option maxRecDepth 100000
theorem But.grown {g : Nat} {w w' : World} (h : But g w w') : w.grownBy w' (some g) := ⟨h.1, h.2.1, h.2.2.1, h.2.2.2.1, fun k hk hne => h.2.2.2.2 k hk (fun e => hne (by rw [e]))⟩
/-- The machine stays while a row of whole numbers beside it is turned. -/
theorem MachV.but {B b c g : Nat} {w w' : World} {sb vs vt vk vp : Value} {A : Option Addr} {m : M} (h : MachV B w b sb m vs vt vk A c vp) {cs : Array Value} (hg : w.heap[g]? = some (.cells cs 3 (0, 0))) (hk : vk.ownBlock ≠ some g) (hr : m.results = []) (hb : But g w w') : MachV B w' b sb m vs vt vk A c vp := by
  have hw := But.grown hb
  exact ⟨blk_grown h.blk hw (fun e => by injection e with e; exact blk_ne h.blk hg (by decide) e), own_other h.steps hw (.inr fun e => own_ne h.steps hg (by decide) e.symm), own_other h.stems hw (.inr fun e => own_ne h.stems hg (by decide) e.symm),
    own_other h.pts hw (.inr fun e => own_ne h.pts hg (by decide) e.symm), own_other h.stack hw (.inr hk), h.cap, .inl hr, h.off, h.ok⟩
set_option maxHeartbeats 1000000 in
theorem reverse_nil {w : World} {A : Option Addr} {c : Nat} : Calls Try.prog 99 #[.slice A 0 c] w fun e w' => e = .returned (.tuple #[]) ∧ w' = w := by
  go_enter Try.func99, Try.ntmps99
  go_wp2_with fail
  go_loop [2, 3] (fun v2 v3 => v2 = .int .i64 0 ∧ v3 = .int .i64 (-1)) (fun _ _ => 0)
  case atStart => exact ⟨rfl, rfl⟩
  case round =>
    obtain ⟨rfl, rfl⟩ := hrel
    go_wp2_with fail
    go_end0
    exact ⟨rfl, rfl⟩
theorem okRes {m : M} (h : Ok m) (l : List Int) (h1 : l.length ≤ 24) (h2 : Small l) : Ok { m with results := l } := ⟨h.stack, h.small, h1, h2, h.steps, h.stems, h.points, h.x, h.y, h.side, h.width, h.count⟩
theorem drop_split (st : List Int) (n : Nat) (h : n + 2 ≤ st.length) : (st.take (st.length - 2)).drop ((st.take (st.length - 2)).length - n) = (st.take (st.length - 2)).drop (st.length - 2 - n) ∧ (st.take (st.length - 2)).take ((st.take (st.length - 2)).length - n) = st.take (st.length - 2 - n) := by
  have e : (st.take (st.length - 2)).length = st.length - 2 := by rw [List.length_take]; omega
  rw [e]
  exact ⟨rfl, by rw [List.take_take]; congr 1; omega⟩
/-- The operands of callothersubr are taken: what is left to do. -/
def OtherK (W0 w : World) (b : Nat) (sb : Value) (m : M) (A : Option Addr) (c : Nat) (l : List Int) : Prop :=
  l.length ≤ c ∧ (A = none → c = 0) ∧ MachL W0 w b sb m A l ∧ (l.length = 0 ∨ ∀ a, A = some a → W0.heap.size ≤ a.block) ∧ Small l ∧ l.length ≤ 24
set_option maxHeartbeats 8000000 in
theorem other_call {W0 w : World} {b : Nat} {sb : Value} {m : M} (h : Mach W0 w b sb m) :
    Calls Try.prog 71 #[.pointer (some ⟨b, 0, none⟩)] w (Did W0 b sb (otherM m)) := by
  have HT := Aside0.mk (take_call h 2 (by decide))
  have hok := Mach.ok h
  have HL := Aside0.mk (Mach.left h)
  have HOK := Aside0.mk hok
  clear h
  by_cases hl : m.stack.length < 2
  · have HE : Aside0 (otherM m = .error 39) := ⟨by unfold otherM; simp only; rw [if_pos (.inl hl)]⟩
    have HF : Aside0 (m.stack.length < 2) := ⟨hl⟩
    rw [HE.out]
    clear hl hok HE
    go_enter Try.func71, Try.ntmps71
    go_wp2_with fail
    refine HT.out.mono ?_
    intro e w1 ht
    unfold Took at ht
    rw [if_pos HF.out] at ht
    obtain ⟨rfl, rfl⟩ := ht
    go_wp2_with fail
    go_ret
    exact ⟨rfl, .inr rfl, HL.out⟩
  have sn := getD_small hok.small (m.stack.length - 2)
  obtain ⟨n, hn⟩ : ∃ n, m.stack.getD (m.stack.length - 2) 0 = n := ⟨_, rfl⟩
  obtain ⟨k, hk⟩ : ∃ k, m.stack.getD (m.stack.length - 1) 0 = k := ⟨_, rfl⟩
  rw [hn] at sn
  have hOM : otherM m = if m.stack.length < 2 ∨ n < 0 ∨ (m.stack.length : Int) - 2 < n then .error 39 else otherK { m with stack := m.stack.take (m.stack.length - 2 - n.toNat), results := [] } k ((m.stack.take (m.stack.length - 2)).drop (m.stack.length - 2 - n.toNat)) := by
    unfold otherM; simp only; rw [hn, hk]
  have HOM := Aside0.mk hOM
  have HLL := Aside0.mk hl
  have hst : m.stack.length ≤ 24 := hok.stack
  clear hOM
  go_enter Try.func71, Try.ntmps71
  go_wp2_with fail
  refine HT.out.mono ?_
  intro e w1 ht
  unfold Took at ht
  rw [if_neg hl, drop2 _ (by omega), hn, hk] at ht
  obtain ⟨A, c, rfl, hc, hA, hm, hkp, hge⟩ := ht
  obtain ⟨m2, hm2⟩ : ∃ m2, ({ m with stack := m.stack.take (m.stack.length - 2) } : M) = m2 := ⟨_, rfl⟩
  rw [hm2] at hm
  have HM := Aside0.mk hm
  rcases hm.ints with h0 | ⟨g, off, cs, rfl, hg, hx⟩
  · cases h0
  have HG := Aside0.mk hg
  have HX := Aside0.mk hx
  have c0 : w1.cell? ⟨g, off, none⟩ = some (.int .i64 n) := (blk_cell hg _).trans (hx 0 n rfl)
  clear hm hg hx hge hkp hA
  by_cases hneg : n < 0
  · have t0 : decide (n < 0) = true := decide_eq_true hneg
    have HE : Aside0 (otherM m = .error 39) := ⟨by rw [HOM.out, if_pos (.inr (.inl hneg))]⟩
    clear hl hok hn hk sn hst hneg HOM
    go_wp2_with fail
    go_ret
    rw [HE.out]
    exact ⟨rfl, .inr rfl, Mach.left HM.out.mach⟩
  obtain ⟨nn, rfl⟩ := Int.eq_ofNat_of_zero_le (show 0 ≤ n by omega)
  have t0 : decide ((nn : Int) < 0) = false := decide_eq_false (by omega)
  have HT2 := Aside0.mk (take_call HM.out.mach nn (by omega))
  have hlen2 : m2.stack.length = m.stack.length - 2 := by rw [← hm2]; show (m.stack.take (m.stack.length - 2)).length = _; rw [List.length_take]; omega
  by_cases hbig : m2.stack.length < nn
  · have HE : Aside0 (otherM m = .error 39) := ⟨by rw [HOM.out, if_pos (.inr (.inr (by omega)))]⟩
    have HF := Aside0.mk hbig
    clear hl hok hn hk sn hst hneg HOM hbig hlen2 hm2
    go_wp2_with fail
    refine HT2.out.mono ?_
    intro e w2 ht
    unfold Took at ht
    rw [if_pos HF.out] at ht
    obtain ⟨rfl, rfl⟩ := ht
    go_wp2_with fail
    go_ret
    rw [HE.out]
    exact ⟨rfl, .inr rfl, Mach.left HM.out.mach⟩
  have HF := Aside0.mk hbig
  have HE : Aside0 (otherM m = otherK { m with stack := m.stack.take (m.stack.length - 2 - nn), results := [] } k ((m.stack.take (m.stack.length - 2)).drop (m.stack.length - 2 - nn))) := ⟨by rw [HOM.out, if_neg (by omega)]; rfl⟩
  have hds := drop_split m.stack nn (by omega)
  obtain ⟨l, hll⟩ : ∃ l, (m.stack.take (m.stack.length - 2)).drop (m.stack.length - 2 - nn) = l := ⟨_, rfl⟩
  have hlenl : l.length = nn := by rw [← hll, List.length_drop, List.length_take]; omega
  have hsml : Small l := by rw [← hll]; exact Small.drop (Small.take hok.small _) _
  obtain ⟨m3, hm3⟩ : ∃ m3, ({ m with stack := m.stack.take (m.stack.length - 2 - nn) } : M) = m3 := ⟨_, rfl⟩
  have hm4 : ({ m with stack := m.stack.take (m.stack.length - 2 - nn), results := [] } : M) = { m3 with results := [] } := by rw [← hm3]
  have hst2 : m2.stack = m.stack.take (m.stack.length - 2) := by rw [← hm2]
  have hm23 : ({ m2 with stack := m2.stack.take (m2.stack.length - nn) } : M) = m3 := by rw [← hm2, ← hm3]; simp only; rw [hds.2]
  have hdl : m2.stack.drop (m2.stack.length - nn) = l := by rw [hst2, hds.1, hll]
  have HEE : Aside0 (otherM m = otherK { m3 with results := [] } k l) := ⟨by rw [HE.out, hm4, hll]⟩
  have HSM := Aside0.mk hsml
  have HNN := Aside0.mk (show nn ≤ 22 by omega)
  have HLN := Aside0.mk hlenl
  have HM23 := Aside0.mk (show ({ m2 with stack := m2.stack.take (m2.stack.length - nn) } : M) = m3 ∧ m2.stack.drop (m2.stack.length - nn) = l from ⟨hm23, hdl⟩)
  clear hl hok hn hk sn hst hneg HE HOM hbig hlen2 hm2 hds hll hlenl hsml hm3 hm4 hst2 hm23 hdl
  go_wp2_with fail
  refine HT2.out.mono ?_
  intro e w2 ht
  unfold Took at ht
  rw [if_neg HF.out, HM23.out.1, HM23.out.2] at ht
  obtain ⟨A2, c2, rfl, hc2, hA2, hmm, hkp2, hge2⟩ := ht
  have hg2 := hkp2 g cs HG.out
  have c1 : w2.cell? ⟨g, off + 1, none⟩ = some (.int .i64 k) := (blk_cell hg2 _).trans (HX.out 1 k rfl)
  have hgb : g ≠ b := by
    obtain ⟨_, _, vs, vt, vk, Ar, cr, vp, hv, _⟩ := hmm
    exact blk_ne hg2 hv.blk (by decide)
  have HM5 : Aside0 (OtherK W0 (w2.setCell ⟨b, 9, none⟩ (.slice none 0 0)) b sb { m3 with results := [] } A2 c2 l) := ⟨by
    refine ⟨by rw [HLN.out]; exact hc2, hA2, ?_, by rw [HLN.out]; exact hge2, HSM.out, by rw [HLN.out]; have := HNN.out; omega⟩
    obtain ⟨hB, hb, vs, vt, vk, Ar, cr, vp, hv, hi, ho⟩ := hmm
    exact ⟨below_set hB hb, hb, vs, vt, vk, none, 0, vp, hv.put_res (l := []) (A' := none) (c' := 0) (.inl rfl) (.inl rfl) (by simp) (okRes hv.ok [] (by simp) (fun x hx => by cases hx)), ints_set hi hv.blk (by decide) 9 _, ho⟩⟩
  have c1' : (w2.setCell ⟨b, 9, none⟩ (.slice none 0 0)).cell? ⟨g, off + 1, none⟩ = some (.int .i64 k) := (blk_cell (blk_far hg2 hgb _) _).trans (HX.out 1 k rfl)
  obtain ⟨o9, c9⟩ := Left.cell (Mach.left hmm.mach) 9 (by decide)
  have f9 := Left.frz (Mach.left hmm.mach) 9
  clear hmm hkp2 hge2 hg2 hgb c0 HT HT2
  obtain ⟨w3, hw3⟩ : ∃ w3, w2.setCell ⟨b, 9, none⟩ (.slice none 0 0) = w3 := ⟨_, rfl⟩
  rw [hw3] at HM5 c1'
  rw [← HLN.out]
  obtain ⟨m4, hm4⟩ : ∃ m4, ({ m3 with results := [] } : M) = m4 := ⟨_, rfl⟩
  have HR4 : Aside0 (m4.results = []) := ⟨by rw [← hm4]⟩
  rw [hm4] at HM5 HEE
  clear hm4 HM23 HF HM HG HX HNN
  have hml := HM5.out.2.2.1
  have HML := Aside0.mk hml
  have HL4 := Aside0.mk (Mach.left hml.mach)
  have hok4 := Mach.ok hml.mach
  obtain ⟨c10, _⟩ := MachL.cell hml 10 (.bool m4.begun) (fun _ _ _ _ _ => rfl)
  obtain ⟨c6, _⟩ := MachL.cell hml 6 (.bool m4.opn) (fun _ _ _ _ _ => rfl)
  obtain ⟨c11, f11⟩ := MachL.cell hml 11 (.bool m4.flex) (fun _ _ _ _ _ => rfl)
  have hn22 : l.length ≤ 24 := HM5.out.2.2.2.2.2
  by_cases hk0 : k = 0
  · subst hk0
    have HC := Aside0.mk (bend_call hml c2 HM5.out.1 HM5.out.2.1 HM5.out.2.2.2.2.1)
    have HK : Aside0 (otherK m4 0 l = bendM m4 l) := ⟨rfl⟩
    clear hml hok4 hn22
    go_wp2_with fail
    refine HC.out.mono ?_
    intro e w4 hd
    obtain ⟨rfl, hf⟩ := did_split hd
    have HF := Aside0.mk hf
    clear hf hd
    go_wp2_with fail
    go_ret
    rw [HEE.out, HK.out]
    exact did_join HF.out
  have k0 : (k == 0) = false := by simpa using hk0
  by_cases hk1 : k = 1
  · subst hk1
    by_cases hl0 : l.length = 0
    · have hnil : l = [] := List.eq_nil_of_length_eq_zero hl0
      have tl : ((l.length : Int) == 0) = true := by rw [hl0]; rfl
      cases hb : m4.begun with
      | false =>
        rw [hb] at c10
        have HK : Aside0 (otherK m4 1 l = .error 39) := ⟨by unfold otherK; rw [if_neg (by decide), if_pos rfl, if_neg (by rintro ⟨_, h, _⟩; rw [hb] at h; cases h)]⟩
        clear hml hok4 hn22 hk0 hl0 hnil hb
        go_wp2_with fail
        go_ret
        rw [HEE.out, HK.out]
        exact ⟨rfl, .inr rfl, HL4.out⟩
      | true =>
        rw [hb] at c10
        cases ho : m4.opn with
        | false =>
          rw [ho] at c6
          have HK : Aside0 (otherK m4 1 l = .error 39) := ⟨by unfold otherK; rw [if_neg (by decide), if_pos rfl, if_neg (by rintro ⟨_, _, h, _⟩; rw [ho] at h; cases h)]⟩
          clear hml hok4 hn22 hk0 hl0 hnil hb ho
          go_wp2_with fail
          go_ret
          rw [HEE.out, HK.out]
          exact ⟨rfl, .inr rfl, HL4.out⟩
        | true =>
          rw [ho] at c6
          cases hf : m4.flex with
          | true =>
            rw [hf] at c11
            have HK : Aside0 (otherK m4 1 l = .error 39) := ⟨by unfold otherK; rw [if_neg (by decide), if_pos rfl, if_neg (by rintro ⟨_, _, _, h⟩; rw [hf] at h; cases h)]⟩
            clear hml hok4 hn22 hk0 hl0 hnil hb ho hf
            go_wp2_with fail
            go_ret
            rw [HEE.out, HK.out]
            exact ⟨rfl, .inr rfl, HL4.out⟩
          | false =>
            rw [hf] at c11
            have HK : Aside0 (otherK m4 1 l = .ok { m4 with flex := true, points := [] }) := ⟨by unfold otherK; rw [if_neg (by decide), if_pos rfl, if_pos ⟨hnil, hb, ho, hf⟩]⟩
            have o1 : Ok { m4 with flex := true } := ⟨hok4.stack, hok4.small, hok4.res, hok4.rsmall, hok4.steps, hok4.stems, hok4.points, hok4.x, hok4.y, hok4.side, hok4.width, hok4.count⟩
            have m5 := Mach.set hml.mach 11 (.bool true) { m4 with flex := true } (fun _ _ _ _ _ => rfl) rfl rfl rfl rfl rfl o1
            obtain ⟨o12, c12⟩ := Left.cell (Mach.left m5) 12 (by decide)
            have f12 := Left.frz (Mach.left m5) 12
            have HM6 : Aside0 (Mach W0 ((w3.setCell ⟨b, 11, none⟩ (.bool true)).setCell ⟨b, 12, none⟩ (.slice none 0 0)) b sb { m4 with flex := true, points := [] }) := ⟨by
              obtain ⟨hB, hb, vs, vt, vk, Ar, cr, vp, hv⟩ := m5
              exact ⟨below_set hB hb, hb, vs, vt, vk, Ar, cr, _, hv.put_pts (l := []) (own_nil _ _ _ _) (World.grownBy.refl _ _) ⟨o1.stack, o1.small, o1.res, o1.rsmall, o1.steps, o1.stems, ⟨by simp, fun p hp => by cases hp⟩, o1.x, o1.y, o1.side, o1.width, o1.count⟩⟩⟩
            clear hml hok4 hn22 hk0 hl0 hnil hb ho hf o1 m5
            go_wp2_with fail
            go_ret
            rw [HEE.out, HK.out]
            exact ⟨rfl, HM6.out⟩
    · have tl : ((l.length : Int) == 0) = false := by simpa using hl0
      have HK : Aside0 (otherK m4 1 l = .error 39) := ⟨by unfold otherK; rw [if_neg (by decide), if_pos rfl, if_neg (by rintro ⟨h, _⟩; rw [h] at hl0; exact hl0 rfl)]⟩
      clear hml hok4 hn22 hk0 hl0
      go_wp2_with fail
      go_ret
      rw [HEE.out, HK.out]
      exact ⟨rfl, .inr rfl, HL4.out⟩
  have k1 : (k == 1) = false := by simpa using hk1
  by_cases hk2 : k = 2
  · subst hk2
    by_cases hl0 : l.length = 0
    · have hnil : l = [] := List.eq_nil_of_length_eq_zero hl0
      have tl : ((l.length : Int) == 0) = true := by rw [hl0]; rfl
      cases hf : m4.flex with
      | false =>
        rw [hf] at c11
        have HK : Aside0 (otherK m4 2 l = .error 39) := ⟨by unfold otherK; rw [if_neg (by decide), if_neg (by decide), if_pos rfl, if_neg (by rintro ⟨_, h, _⟩; rw [hf] at h; cases h)]⟩
        clear hml hok4 hn22 hk0 hk1 hl0 hnil hf
        go_wp2_with fail
        go_ret
        rw [HEE.out, HK.out]
        exact ⟨rfl, .inr rfl, HL4.out⟩
      | true =>
        rw [hf] at c11
        obtain ⟨hB, hb, vs, vt, vk, Ar, cr, vp, hv, hi, ho⟩ := hml
        obtain ⟨As, n, cs, hvs⟩ : ∃ As n cs, vp = .slice As n cs := by obtain ⟨a, b, e⟩ := own_slice hv.pts; exact ⟨a, _, b, e⟩
        subst hvs
        obtain ⟨hn, _, _⟩ := own_len hv.pts
        have c12 : w3.cell? ⟨b, 12, none⟩ = some (.slice As n cs) := hv.cell 12
        by_cases h7 : m4.points.length < 7
        · have t7 : decide ((n : Int) < 7) = true := decide_eq_true (by omega)
          have HK : Aside0 (otherK m4 2 l = .ok { m4 with points := m4.points ++ [(m4.x, m4.y)] }) := ⟨by unfold otherK; rw [if_neg (by decide), if_neg (by decide), if_pos rfl, if_pos ⟨hnil, hf, h7⟩]⟩
          have HV := Aside0.mk hv
          have HB := Aside0.mk (below_drew hB)
          have HO : Aside0 (w3.drew.ownsRow W0.heap.size 55 2 (.slice As n cs) n (m4.points.flatMap pnt)) := ⟨by have h0 := hv.pts; rw [← hn] at h0; exact h0⟩
          have HN56 : Aside0 ((n + 1) * 16 ≤ 140737488355328) := ⟨by omega⟩
          have HSS : Aside0 (∀ w1 : World, w3.drew.grownBy w1 (Value.slice As n cs).ownBlock → w1.cell? ⟨b, 12, none⟩ = some (.slice As n cs) ∧ w1.cell? ⟨b, 4, none⟩ = some (.int .i64 m4.x) ∧ w1.cell? ⟨b, 5, none⟩ = some (.int .i64 m4.y)) := ⟨fun w1 hg => by
            have q1 := blk_grown (w := w3.drew) hv.blk hg (own_ne hv.pts hv.blk (by decide))
            exact ⟨(blk_cell q1 12).trans rfl, (blk_cell q1 4).trans rfl, (blk_cell q1 5).trans rfl⟩⟩
          have HKB : Aside0 (∀ w1 : World, w3.drew.grownBy w1 (Value.slice As n cs).ownBlock → w1.frozen? ⟨b, 12, none⟩ = false ∧ True) := ⟨fun w1 hg => ⟨blk_frozen (blk_grown (w := w3.drew) hv.blk hg (own_ne hv.pts hv.blk (by decide))) 12, trivial⟩⟩
          have hS0 := HSS.out w3.drew (World.grownBy.refl _ _)
          have hS1 := HSS.out (w3.drew.alloc (.cells #[.int .i64 m4.x, .int .i64 m4.y] 55)) (World.grownBy_alloc _ _ _)
          have HNN := Aside0.mk hn
          have H7 := Aside0.mk h7
          have HOK4 := Aside0.mk hok4
          obtain ⟨xs, hxs⟩ : ∃ xs, m4.points.flatMap pnt = xs := ⟨_, rfl⟩
          rw [hxs] at HO
          have HXS := Aside0.mk hxs
          clear hB hv hi ho hn hok4 hn22 hk0 hk1 hl0 hnil hf hxs h7
          go_wp2_with fail
          refine H33.region_held (fun W => W.cell? ⟨b, 12, none⟩ = some (.slice As n cs) ∧ W.cell? ⟨b, 4, none⟩ = some (.int .i64 m4.x) ∧ W.cell? ⟨b, 5, none⟩ = some (.int .i64 m4.y)) 14 (by kernel_rfl) ?_
          refine H33.held_take (i := 0) (v := ?_) (some 104) rfl rfl (by kernel_rfl) (by kernel_rfl) (by kernel_rfl) (by kernel_rfl) (fun _ _ _ h => h) (Or.inl ⟨by rfl, ?_⟩) (hS0) ?_
          rotate_left
          · (intro W hW; obtain ⟨hW0, hW1, hW2⟩ := hW; go_simp <;> with_reducible rfl)
          try simp only [Act.put, List.setIfInBounds_toArray, List.set_cons_zero, List.set_cons_succ]
          refine H33.held_take (i := 1) (v := ?_) (some 105) rfl rfl (by kernel_rfl) (by kernel_rfl) (by kernel_rfl) (by kernel_rfl) (fun _ _ _ h => h) (Or.inl ⟨by rfl, ?_⟩) (hS0) ?_
          rotate_left
          · (intro W hW; obtain ⟨hW0, hW1, hW2⟩ := hW; go_simp <;> with_reducible rfl)
          try simp only [Act.put, List.setIfInBounds_toArray, List.set_cons_zero, List.set_cons_succ]
          refine H33.held_take (i := 2) (v := ?_) (some 106) rfl rfl (by kernel_rfl) (by kernel_rfl) (by kernel_rfl) (by kernel_rfl) (fun _ _ _ h => h) (Or.inl ⟨by rfl, ?_⟩) (hS0) ?_
          rotate_left
          · (intro W hW; obtain ⟨hW0, hW1, hW2⟩ := hW; go_simp <;> with_reducible rfl)
          try simp only [Act.put, List.setIfInBounds_toArray, List.set_cons_zero, List.set_cons_succ]
          refine H33.held_take (i := 3) (v := ?_) (some 107) rfl rfl (by kernel_rfl) (by kernel_rfl) (by kernel_rfl) (by kernel_rfl) (fun _ _ _ h => h) (Or.inl ⟨by rfl, ?_⟩) (hS0) ?_
          rotate_left
          · (intro W hW; obtain ⟨hW0, hW1, hW2⟩ := hW; go_simp <;> with_reducible rfl)
          try simp only [Act.put, List.setIfInBounds_toArray, List.set_cons_zero, List.set_cons_succ]
          refine H33.held_take (i := 4) (v := ?_) (some 108) rfl rfl (by kernel_rfl) (by kernel_rfl) (by kernel_rfl) (by kernel_rfl) (fun _ _ _ h => h) (Or.inl ⟨by rfl, ?_⟩) (hS0) ?_
          rotate_left
          · (intro W hW; obtain ⟨hW0, hW1, hW2⟩ := hW; go_simp <;> with_reducible rfl)
          try simp only [Act.put, List.setIfInBounds_toArray, List.set_cons_zero, List.set_cons_succ]
          refine H33.held_take (i := 5) (v := ?_) (some 109) rfl rfl (by kernel_rfl) (by kernel_rfl) (by kernel_rfl) (by kernel_rfl) (fun _ _ _ h => h) (Or.inl ⟨by rfl, ?_⟩) (hS0) ?_
          rotate_left
          · (intro W hW; obtain ⟨hW0, hW1, hW2⟩ := hW; go_simp <;> with_reducible rfl)
          try simp only [Act.put, List.setIfInBounds_toArray, List.set_cons_zero, List.set_cons_succ]
          refine H33.held_take (i := 6) (v := ?_) (some 110) rfl rfl (by kernel_rfl) (by kernel_rfl) (by kernel_rfl) (by kernel_rfl) (fun _ _ _ h => h) (Or.inl ⟨by rfl, ?_⟩) (hS0) ?_
          rotate_left
          · (intro W hW; obtain ⟨hW0, hW1, hW2⟩ := hW; go_simp <;> with_reducible rfl)
          try simp only [Act.put, List.setIfInBounds_toArray, List.set_cons_zero, List.set_cons_succ]
          refine H33.held_take (i := 7) (v := ?_) (some 111) rfl rfl (by kernel_rfl) (by kernel_rfl) (by kernel_rfl) (by kernel_rfl) (fun _ _ _ h => h) (Or.inl ⟨by rfl, ?_⟩) (hS0) ?_
          rotate_left
          · (intro W hW; obtain ⟨hW0, hW1, hW2⟩ := hW; go_simp <;> with_reducible rfl)
          try simp only [Act.put, List.setIfInBounds_toArray, List.set_cons_zero, List.set_cons_succ]
          refine H33.held_take (i := 8) (v := ?_) (some 112) rfl rfl (by kernel_rfl) (by kernel_rfl) (by kernel_rfl) (by kernel_rfl) (fun _ _ _ h => h) (Or.inl ⟨by rfl, ?_⟩) (hS0) ?_
          rotate_left
          · (intro W hW; obtain ⟨hW0, hW1, hW2⟩ := hW; go_simp <;> with_reducible rfl)
          try simp only [Act.put, List.setIfInBounds_toArray, List.set_cons_zero, List.set_cons_succ]
          refine H33.held_take (i := 9) (v := ?_) (some 113) rfl rfl (by kernel_rfl) (by kernel_rfl) (by kernel_rfl) (by kernel_rfl) (fun _ _ _ h => h) (Or.inl ⟨by rfl, ?_⟩) (hS0) ?_
          rotate_left
          · (intro W hW; obtain ⟨hW0, hW1, hW2⟩ := hW; go_simp <;> with_reducible rfl)
          try simp only [Act.put, List.setIfInBounds_toArray, List.set_cons_zero, List.set_cons_succ]
          refine H33.held_one (j := 10) (by kernel_rfl) rfl (fun K hK => ?_)
          go_simp
          refine hK.out _ _ (fun _ => hS1) ?_
          clear hK
          try simp only [Act.put, List.setIfInBounds_toArray, List.set_cons_zero, List.set_cons_succ]
          refine H33.held_one (j := 11) (by kernel_rfl) rfl (fun K hK => ?_)
          refine step_append_cells (w0 := W0) W0.heap.size (by rfl) (.tmp 108) (.tmp 114) 94 55 _ 2 16 (by rfl) Try.underlying94 info55 rfl (by decide) (by decide) (.slice As n cs) n xs [.int .i64 m4.x, .int .i64 m4.y] (by rfl) (by rfl) rfl (by simp [Value.oneCell']) HO.out HB.out HB.out.size HN56.out ?_
          intro v1 w1 ho1 hb1 hg1 hat1
          obtain ⟨A1, k1, rfl⟩ := own_slice ho1
          have HO1 := Aside0.mk ho1
          have HB1 := Aside0.mk hb1
          have HG1 := Aside0.mk hg1
          have hb9 := HKB.out w1 hg1
          have hS2 := HSS.out w1 hg1
          have f2 : w1.frozen? ⟨b, 12, none⟩ = false := hb9.1
          clear ho1 hb1 hg1 hat1 hb9
          refine hK.out _ _ (fun _ => hS2) ?_
          clear hK
          try simp only [Act.put, List.setIfInBounds_toArray, List.set_cons_zero, List.set_cons_succ]
          refine H33.held_one (j := 12) (by kernel_rfl) rfl (fun K hK => ?_)
          go_simp
          refine hK.out _ _ (fun _ => hS2) ?_
          clear hK
          try simp only [Act.put, List.setIfInBounds_toArray, List.set_cons_zero, List.set_cons_succ]
          refine H33.held_one (j := 13) (by kernel_rfl) rfl (fun K hK => ?_)
          go_simp
          refine hK.out _ _ (fun _ => hS2) ?_
          clear hK
          try simp only [Act.put, List.setIfInBounds_toArray, List.set_cons_zero, List.set_cons_succ]
          refine H33.held_one (j := 14) (by kernel_rfl) rfl (fun K hK => ?_)
          go_simp
          refine hK.out _ _ (fun h => absurd rfl h) ?_
          clear hK
          try simp only [Act.put, List.setIfInBounds_toArray, List.set_cons_zero, List.set_cons_succ]
          refine H33.held_done (by kernel_rfl) ?_ _
          go_wp2_with fail
          go_ret
          have e1 : (m4.points ++ [(m4.x, m4.y)]).length = m4.points.length + 1 := by simp
          have hnn : n = m4.points.length := HNN.out
          have k0 := HOK4.out
          have h7 := H7.out
          have hown : w1.ownsRow W0.heap.size 55 2 (.slice A1 (n + 1) k1) (m4.points ++ [(m4.x, m4.y)]).length ((m4.points ++ [(m4.x, m4.y)]).flatMap pnt) := by
            rw [e1, List.flatMap_append, HXS.out, ← hnn]
            simpa [pnt] using HO1.out
          have hput := (HV.out.below (Below.drew (Below.refl _ _))).put_pts hown HG1.out ⟨k0.stack, k0.small, k0.res, k0.rsmall, k0.steps, k0.stems, ⟨by rw [e1]; omega, fun p hp => (List.mem_append.1 hp).elim (k0.points.2 p) (fun hp => by rw [List.mem_singleton] at hp; subst hp; exact ⟨k0.x, k0.y⟩)⟩, k0.x, k0.y, k0.side, k0.width, k0.count⟩
          rw [HEE.out, HK.out]
          exact ⟨rfl, below_set HB1.out hb, hb, _, _, _, _, _, _, hput⟩
        · have t7 : decide ((n : Int) < 7) = false := decide_eq_false (by omega)
          have HK : Aside0 (otherK m4 2 l = .error 39) := ⟨by unfold otherK; rw [if_neg (by decide), if_neg (by decide), if_pos rfl, if_neg (by rintro ⟨_, _, h⟩; exact h7 h)]⟩
          clear hB hv hi ho hn hok4 hn22 hk0 hk1 hl0 hnil hf h7
          go_wp2_with fail
          go_ret
          rw [HEE.out, HK.out]
          exact ⟨rfl, .inr rfl, HL4.out⟩
    · have tl : ((l.length : Int) == 0) = false := by simpa using hl0
      have HK : Aside0 (otherK m4 2 l = .error 39) := ⟨by unfold otherK; rw [if_neg (by decide), if_neg (by decide), if_pos rfl, if_neg (by rintro ⟨h, _⟩; rw [h] at hl0; exact hl0 rfl)]⟩
      clear hml hok4 hn22 hk0 hk1 hl0
      go_wp2_with fail
      go_ret
      rw [HEE.out, HK.out]
      exact ⟨rfl, .inr rfl, HL4.out⟩
  have k2 : (k == 2) = false := by simpa using hk2
  obtain ⟨o9', c9'⟩ := Left.cell HL4.out 9 (by decide)
  have f9' := Left.frz HL4.out 9
  by_cases hk3 : k = 3
  · subst hk3
    by_cases hl1 : l.length = 1
    · have tl : ((l.length : Int) == 1) = true := by rw [hl1]; rfl
      have HK : Aside0 (otherK m4 3 l = .ok { m4 with results := [3] }) := ⟨by unfold otherK; rw [if_neg (by decide), if_neg (by decide), if_neg (by decide), if_pos rfl, if_pos hl1]⟩
      have HM6 : Aside0 (Mach W0 ((w3.alloc (.cells #[.int .i64 3] 3)).setCell ⟨b, 9, none⟩ (.slice (some ⟨w3.heap.size, 0, none⟩) 1 1)) b sb { m4 with results := [3] }) := ⟨by
        obtain ⟨hB, hb, vs, vt, vk, Ar, cr, vp, hv, _⟩ := hml
        have hv1 := hv.below (Below.alloc (Below.refl _ w3) (Nat.le_refl _) (.cells #[.int .i64 3] 3))
        have hgn : (w3.alloc (.cells #[.int .i64 3] 3)).heap[w3.heap.size]? = some (.cells #[.int .i64 3] 3 (0, 0)) := blk_new _ _
        refine ⟨below_set (below_then hB hB.size (Below.alloc (Below.refl _ w3) (Nat.le_refl _) _)) hb, hb, vs, vt, vk, _, _, vp, hv1.put_res (l := [3]) (c' := 1) (.inr ⟨w3.heap.size, 0, _, rfl, hgn, fun i x hx => ?_⟩) (.inr fun a e h => ?_) (by decide) (okRes hv.ok [3] (by decide) (fun x hx => by rw [List.mem_singleton] at hx; subst hx; decide))⟩
        · rcases i with _ | i
          · injection hx with hx; subst hx; rfl
          · cases hx
        · injection e with e
          subst e
          rcases hv.stack.2 with ⟨e, _⟩ | ⟨g, cap, cur, e, h1, h2, _⟩
          · rw [e] at h; cases h
          · rw [e] at h
            injection h with h
            have := blk_lt h2
            simp only at h
            omega⟩
      have f9a : (w3.alloc (.cells #[.int .i64 3] 3)).frozen? ⟨b, 9, none⟩ = false := by
        obtain ⟨_, _, vs, vt, vk, Ar, cr, vp, hv, _⟩ := hml
        exact (hv.below (Below.alloc (Below.refl _ w3) (Nat.le_refl _) (.cells #[.int .i64 3] 3))).frz 9
      obtain ⟨o9a, c9a⟩ : ∃ v, (w3.alloc (.cells #[.int .i64 3] 3)).cell? ⟨b, 9, none⟩ = some v := by
        obtain ⟨_, _, vs, vt, vk, Ar, cr, vp, hv, _⟩ := hml
        exact ⟨_, (hv.below (Below.alloc (Below.refl _ w3) (Nat.le_refl _) (.cells #[.int .i64 3] 3))).cell 9⟩
      clear hml hok4 hn22 hk0 hk1 hk2 hl1
      go_wp2_with fail
      go_ret
      rw [HEE.out, HK.out]
      exact ⟨rfl, HM6.out⟩
    · have tl : ((l.length : Int) == 1) = false := by simp; omega
      have HK : Aside0 (otherK m4 3 l = .error 39) := ⟨by unfold otherK; rw [if_neg (by decide), if_neg (by decide), if_neg (by decide), if_pos rfl, if_neg hl1]⟩
      clear hml hok4 hn22 hk0 hk1 hk2 hl1
      go_wp2_with fail
      go_ret
      rw [HEE.out, HK.out]
      exact ⟨rfl, .inr rfl, HL4.out⟩
  have k3 : (k == 3) = false := by simpa using hk3
  have HK : Aside0 (otherK m4 k l = .ok { m4 with results := l.reverse }) := ⟨by unfold otherK; rw [if_neg hk0, if_neg hk1, if_neg hk2, if_neg hk3]⟩
  have kout : k < 1 ∨ 3 < k := by omega
  obtain ⟨b1, hb1⟩ : ∃ b1, decide (1 ≤ k) = b1 := ⟨_, rfl⟩
  obtain ⟨b2, hb2⟩ : ∃ b2, decide (k ≤ 3) = b2 := ⟨_, rfl⟩
  have hbb : b1 = false ∨ b2 = false := by
    rcases kout with h | h
    · left; rw [← hb1]; exact decide_eq_false (by omega)
    · right; rw [← hb2]; exact decide_eq_false (by omega)
  by_cases hl0 : l = []
  · subst hl0
    have HC := Aside0.mk (reverse_nil (w := w3) (A := A2) (c := c2))
    have HM6 : Aside0 (Mach W0 (w3.setCell ⟨b, 9, none⟩ (.slice A2 0 c2)) b sb { m4 with results := [] }) := ⟨by
      obtain ⟨hB, hb, vs, vt, vk, Ar, cr, vp, hv, _⟩ := hml
      exact ⟨below_set hB hb, hb, vs, vt, vk, _, _, vp, hv.put_res (l := []) (A' := A2) (c' := c2) (.inl rfl) (.inl rfl) (by simp) (okRes hv.ok [] (by simp) (fun x hx => by cases hx))⟩⟩
    have hz : ([] : List Int).length = 0 := rfl
    rw [hz]
    clear hml hok4 hn22 hk0 hk1 hk2 hk3 kout hz
    rcases b1 with _ | _
    · clear hbb
      go_wp2_with fail
      refine HC.out.mono ?_
      rintro e w4 ⟨rfl, rfl⟩
      go_wp2_with fail
      go_ret
      rw [HEE.out, HK.out]
      exact ⟨rfl, HM6.out⟩
    · obtain rfl : b2 = false := by simpa using hbb
      clear hbb
      go_wp2_with fail
      refine HC.out.mono ?_
      rintro e w4 ⟨rfl, rfl⟩
      go_wp2_with fail
      go_ret
      rw [HEE.out, HK.out]
      exact ⟨rfl, HM6.out⟩
  · rcases hml.ints with h0 | ⟨g, off, cs, rfl, hg, hx⟩
    · exact absurd h0 hl0
    have HC := Aside0.mk (reverse_call (c := c2) ⟨cs, hg, hx⟩ (by omega) hl0)
    have HM6 : Aside0 (∀ w4 : World, RowAt w4 g off l.reverse → But g w3 w4 → (∃ v, w4.cell? ⟨b, 9, none⟩ = some v) ∧ w4.frozen? ⟨b, 9, none⟩ = false ∧ Mach W0 (w4.setCell ⟨b, 9, none⟩ (.slice (some ⟨g, off, none⟩) l.length c2)) b sb { m4 with results := l.reverse }) := ⟨fun w4 hr hb4 => by
      obtain ⟨hB, hb, vs, vt, vk, Ar, cr, vp, hv, hi, ho⟩ := hml
      have hko : vk.ownBlock ≠ some g := by
        rcases ho with ho | ho
        · exact absurd ho hl0
        · exact ho _ rfl
      have hge : W0.heap.size ≤ g := by
        rcases HM5.out.2.2.2.1 with h | h
        · exact absurd (List.eq_nil_of_length_eq_zero h) hl0
        · exact h _ rfl
      have hv4 := MachV.but hv hg hko HR4.out hb4
      obtain ⟨cs4, hg4, hx4⟩ := hr
      have hlr : l.length = l.reverse.length := by simp
      have hm := hv4.put_res (l := l.reverse) (A' := some ⟨g, off, none⟩) (c' := c2) (.inr ⟨g, off, cs4, rfl, hg4, hx4⟩) (.inr fun a e => by injection e with e; subst e; exact hko) (by rw [← hlr]; exact HM5.out.1) (okRes hv.ok l.reverse (by rw [← hlr]; exact hn22) (fun x hx => HM5.out.2.2.2.2.1 x (List.mem_reverse.1 hx)))
      rw [← hlr] at hm
      exact ⟨⟨_, hv4.cell 9⟩, hv4.frz 9, below_set (hB.grown (But.grown hb4) hB.size (fun k hk => by injection hk with hk; omega)) hb, hb, vs, vt, vk, _, _, vp, hm⟩⟩
    clear hml hok4 hn22 hk0 hk1 hk2 hk3 kout hg hx
    rcases b1 with _ | _
    · clear hbb
      go_wp2_with fail
      refine HC.out.mono ?_
      rintro e w4 ⟨rfl, hr, hbt⟩
      obtain ⟨⟨o9b, c9b⟩, f9b, HM7⟩ := HM6.out w4 hr hbt
      have HM7 := Aside0.mk HM7
      clear hr hbt c6 c10 c11 f11 c9' f9'
      go_wp2_with fail
      go_ret
      rw [HEE.out, HK.out]
      exact ⟨rfl, HM7.out⟩
    · obtain rfl : b2 = false := by simpa using hbb
      clear hbb
      go_wp2_with fail
      refine HC.out.mono ?_
      rintro e w4 ⟨rfl, hr, hbt⟩
      obtain ⟨⟨o9b, c9b⟩, f9b, HM7⟩ := HM6.out w4 hr hbt
      have HM7 := Aside0.mk HM7
      clear hr hbt c6 c10 c11 f11 c9' f9'
      go_wp2_with fail
      go_ret
      rw [HEE.out, HK.out]
      exact ⟨rfl, HM7.out⟩
end Go.Proofs.Ytimnohaalccdkaa.G33h
