/- Arithmetic of the machine (chapter 33): floor 97, divide 70, pop 72. -/
import Derived.Test.YtimnohaalccdkaaG33a
import Derived.StillTailTactics
namespace Go.Proofs.Ytimnohaalccdkaa.G33b
open Go.Proofs.Ytimnohaalccdkaa.K33 Go.Proofs.Ytimnohaalccdkaa.M33 Go.Proofs.Ytimnohaalccdkaa.G33a
open Go.RowKit Go.Proofs.YtimnohaalccdkaaW.PrintWords Go.Proofs.YtimnohaalccdkaaW.PrintLast Go.Proofs.YtimnohaalccdkaaW.PrintMore
set_option linter.unusedVariables false
set_option linter.unusedSimpArgs false
set_option maxRecDepth 100000
theorem fl_unique {a d z : Int} (hd : 0 < d) (h : z * d ≤ a) (h2 : a < (z + 1) * d) : a / d = z := by
  have h1' := (Int.le_ediv_iff_mul_le hd).2 h
  have h2' := (Int.ediv_lt_iff_lt_mul hd).2 h2
  omega
theorem fl_eq (a d : Int) (hd : 0 < d) : a / d = if a.tmod d < 0 then a.tdiv d - 1 else a.tdiv d := by
  have e1 := Int.tdiv_mul_add_tmod a d
  have e2 := Int.tmod_lt_of_pos a hd
  have e3 : -d < a.tmod d := by
    have := Int.tmod_lt_of_pos (-a) hd
    rw [Int.neg_tmod] at this
    omega
  by_cases hn : a.tmod d < 0
  · rw [if_pos hn]
    refine fl_unique hd ?_ ?_
    · rw [Int.sub_mul]; omega
    · rw [Int.sub_add_cancel]; omega
  · rw [if_neg hn]
    refine fl_unique hd (by omega) ?_
    rw [Int.add_mul]; omega
theorem td_bd (a d m : Int) (h1 : -m ≤ a) (h2 : a ≤ m) : -m ≤ a.tdiv d ∧ a.tdiv d ≤ m := by
  have := Int.natAbs_tdiv_le_natAbs a d
  omega
theorem flo_small (a b : Int) (ha : -2147483648 ≤ a ∧ a ≤ 2147483648) (hb : b ≠ 0) : -2147483648 ≤ flo a b ∧ flo a b ≤ 2147483648 := by
  have key : ∀ x d : Int, 0 < d → -2147483648 ≤ x ∧ x ≤ 2147483648 → -2147483648 ≤ x / d ∧ x / d ≤ 2147483648 := fun x d hd hx => by
    constructor
    · refine (Int.le_ediv_iff_mul_le hd).2 ?_
      have : 2147483648 * 1 ≤ 2147483648 * d := Int.mul_le_mul_of_nonneg_left hd (by decide)
      omega
    · refine Int.le_of_lt_add_one ((Int.ediv_lt_iff_lt_mul hd).2 ?_)
      have : 2147483649 * 1 ≤ 2147483649 * d := Int.mul_le_mul_of_nonneg_left hd (by decide)
      omega
  unfold flo
  split
  · exact key _ _ (by omega) (by omega)
  · exact key _ _ (by omega) ha
set_option maxHeartbeats 1000000 in
theorem floor_call (a b : Int) (hb : b ≠ 0) (ha1 : -2147483648 ≤ a) (ha2 : a ≤ 2147483648) (hb1 : -2147483648 ≤ b) (hb2 : b ≤ 2147483648) (w : World) :
    Calls Try.prog 97 #[.int .i64 a, .int .i64 b] w fun e w' => e = .returned (.int .i64 (flo a b)) ∧ w' = w := by
  by_cases hneg : b < 0
  · have HA : Aside0 (flo a b = if (-a).tmod (-b) < 0 then (-a).tdiv (-b) - 1 else (-a).tdiv (-b)) := ⟨by unfold flo; rw [if_pos hneg]; exact fl_eq (-a) (-b) (by omega)⟩
    have t0 : decide (b < 0) = true := decide_eq_true hneg
    obtain ⟨x, hx⟩ : ∃ x, -a = x := ⟨_, rfl⟩
    obtain ⟨d, hd⟩ : ∃ d, -b = d := ⟨_, rfl⟩
    have hbd := td_bd x d 2147483648 (by omega) (by omega)
    have hd0 : (d == 0) = false := by simp; omega
    rw [hx, hd] at HA
    by_cases hn : x.tmod d < 0
    · have HN := Aside0.mk hn
      have d1 : decide (x.tmod d < 0) = true := decide_eq_true hn
      go_enter Try.func97, Try.ntmps97
      go_wp2
      go_ret
      exact ⟨by rw [HA.out, if_pos HN.out]; rfl, rfl⟩
    · have HN := Aside0.mk hn
      have d1 : decide (x.tmod d < 0) = false := decide_eq_false hn
      go_enter Try.func97, Try.ntmps97
      go_wp2
      go_ret
      exact ⟨by rw [HA.out, if_neg (by have := HN.out; omega)]; rfl, rfl⟩
  · have HA : Aside0 (flo a b = if a.tmod b < 0 then a.tdiv b - 1 else a.tdiv b) := ⟨by unfold flo; rw [if_neg hneg]; exact fl_eq a b (by omega)⟩
    have t0 : decide (b < 0) = false := decide_eq_false hneg
    have hbd := td_bd a b 2147483648 (by omega) (by omega)
    have hd0 : (b == 0) = false := by simpa using hb
    by_cases hn : a.tmod b < 0
    · have HN := Aside0.mk hn
      have d1 : decide (a.tmod b < 0) = true := decide_eq_true hn
      go_enter Try.func97, Try.ntmps97
      go_wp2
      go_ret
      exact ⟨by rw [HA.out, if_pos HN.out]; rfl, rfl⟩
    · have HN := Aside0.mk hn
      have d1 : decide (a.tmod b < 0) = false := decide_eq_false hn
      go_enter Try.func97, Try.ntmps97
      go_wp2
      go_ret
      exact ⟨by rw [HA.out, if_neg (by have := HN.out; omega)]; rfl, rfl⟩
theorem ints_cells {w : World} {A : Option Addr} {l : List Int} (h : Ints w A l) (hl : l ≠ []) : ∃ g off : Nat, A = some ⟨g, off, none⟩ ∧ ∀ (i : Nat), i < l.length → w.cell? ⟨g, off + i, none⟩ = some (.int .i64 (l.getD i 0)) := by
  rcases h with h | ⟨g, off, cs, h1, h2, h3⟩
  · exact absurd h hl
  · refine ⟨g, off, h1, fun i hi => ?_⟩
    rw [blk_cell h2, h3 i _ (List.getElem?_eq_getElem hi), List.getD_eq_getElem?_getD, List.getElem?_eq_getElem hi]
    rfl
theorem drop2 (l : List Int) (h : 2 ≤ l.length) : l.drop (l.length - 2) = [l.getD (l.length - 2) 0, l.getD (l.length - 1) 0] := by
  refine List.ext_getElem (by simp; omega) fun i h1 h2 => ?_
  simp only [List.length_cons, List.length_nil] at h2
  rcases (show i = 0 ∨ i = 1 by omega) with rfl | rfl
  · simp [List.getD_eq_getElem?_getD, List.getElem?_eq_getElem (show l.length - 2 < l.length by omega)]
  · simp only [List.getElem_drop, List.getElem_cons_succ, List.getElem_cons_zero, List.getD_eq_getElem?_getD]
    rw [List.getElem?_eq_getElem (show l.length - 1 < l.length by omega)]
    simp only [Option.getD_some]
    congr 1
    omega
theorem getD_small {l : List Int} (h : Small l) (i : Nat) : -2147483648 ≤ l.getD i 0 ∧ l.getD i 0 ≤ 2147483648 := by
  rw [List.getD_eq_getElem?_getD]
  rcases Nat.lt_or_ge i l.length with hi | hi
  · rw [List.getElem?_eq_getElem hi]; exact h _ (List.getElem_mem hi)
  · rw [List.getElem?_eq_none hi]; simp
theorem Mach.ok {W0 w : World} {b : Nat} {sb : Value} {m : M} (h : Mach W0 w b sb m) : Ok m := by
  obtain ⟨_, _, vs, vt, vk, A, c, vp, h⟩ := h
  exact h.ok
theorem Mach.drew {W0 w : World} {b : Nat} {sb : Value} {m : M} (h : Mach W0 w b sb m) : Mach W0 w.drew b sb m := h.below (Below.drew (Below.refl _ _))
set_option maxHeartbeats 2000000 in
theorem divide_call {W0 w : World} {b : Nat} {sb : Value} {m : M} (h : Mach W0 w b sb m) :
    Calls Try.prog 70 #[.pointer (some ⟨b, 0, none⟩)] w (Did W0 b sb (divM m)) := by
  have HT := Aside0.mk (take_call h 2 (by decide))
  have hok := Mach.ok h
  have HB := Aside0.mk (Mach.left h)
  have HS := Aside0.mk hok.small
  clear hok
  go_enter Try.func70, Try.ntmps70
  go_wp2_with fail
  refine HT.out.mono ?_
  intro e w1 ht
  unfold Took at ht
  by_cases hl : m.stack.length < 2
  · rw [if_pos hl] at ht
    obtain ⟨rfl, rfl⟩ := ht
    have HE : Aside0 (divM m = .error 39) := ⟨by unfold divM; rw [if_pos (.inl hl)]⟩
    clear hl h HT HS
    go_wp2_with fail
    go_ret
    rw [HE.out]
    exact ⟨rfl, .inr rfl, HB.out⟩
  · rw [if_neg hl, drop2 _ (by omega)] at ht
    obtain ⟨A, c, rfl, hc, hA, hm, _⟩ := ht
    have hdiv : divM m = if m.stack.getD (m.stack.length - 1) 0 = 0 then .error 39 else push { m with stack := m.stack.take (m.stack.length - 2) } (flo (m.stack.getD (m.stack.length - 2) 0) (m.stack.getD (m.stack.length - 1) 0)) := by
      unfold divM
      by_cases h0 : m.stack.getD (m.stack.length - 1) 0 = 0
      · rw [if_pos (.inr h0), if_pos h0]
      · rw [if_neg (by rintro (h | h); exact hl h; exact h0 h), if_neg h0]
    have sx := getD_small HS.out (m.stack.length - 2)
    have sy := getD_small HS.out (m.stack.length - 1)
    obtain ⟨x, hx⟩ : ∃ x, m.stack.getD (m.stack.length - 2) 0 = x := ⟨_, rfl⟩
    obtain ⟨y, hy⟩ : ∃ y, m.stack.getD (m.stack.length - 1) 0 = y := ⟨_, rfl⟩
    rw [hx, hy] at hdiv hm
    rw [hx] at sx
    rw [hy] at sy
    obtain ⟨m2, hm2⟩ : ∃ m2, ({ m with stack := m.stack.take (m.stack.length - 2) } : M) = m2 := ⟨_, rfl⟩
    rw [hm2] at hm hdiv
    have HD := Aside0.mk hdiv
    have HMM := Aside0.mk hm.mach
    obtain ⟨g, off, rfl, hcell⟩ := ints_cells hm.ints (by simp)
    have c0 : w1.cell? ⟨g, off, none⟩ = some (.int .i64 x) := by simpa using hcell 0 (by simp)
    have c1 : w1.cell? ⟨g, off + 1, none⟩ = some (.int .i64 y) := by simpa using hcell 1 (by simp)
    clear hcell hm hdiv hx hy hm2 hl hA HT HS h
    by_cases hy0 : y = 0
    · subst hy0
      rw [if_pos rfl] at HD
      clear sx sy
      go_wp2_with fail
      go_ret
      rw [HD.out]
      exact ⟨rfl, .inr rfl, Mach.left HMM.out⟩
    · rw [if_neg hy0] at HD
      have t0 : (y == 0) = false := by simpa using hy0
      have HF := Aside0.mk (fun W => floor_call x y hy0 sx.1 sx.2 sy.1 sy.2 W)
      have HFS := Aside0.mk (flo_small x y sx hy0)
      clear sx sy hy0
      go_wp2_with fail
      go_still_tail 8, (by kernel_rfl)
      still_call (HF.out _)
      refine wpStill_nil ?_
      change wpList _ _ _ _ _ w1.drew
      have HM3 := Aside0.mk (push_call (Mach.drew HMM.out) (flo x y) HFS.out)
      generalize w1.drew = w2 at HM3 ⊢
      clear c0 c1
      go_wp2_with fail
      refine HM3.out.mono ?_
      intro e w3 hd
      rw [← HD.out] at hd
      have HDD := Aside0.mk hd
      clear hd
      cases hr : divM m with
      | error c3 =>
        have hd := HDD.out
        rw [hr] at hd
        obtain ⟨rfl, q1, q2⟩ := hd
        go_wp2_with fail
        go_ret
        rw [hr]
        exact ⟨rfl, q1, q2⟩
      | ok m3 =>
        have hd := HDD.out
        rw [hr] at hd
        obtain ⟨rfl, q1⟩ := hd
        go_wp2_with fail
        go_ret
        rw [hr]
        exact ⟨rfl, q1⟩
set_option maxHeartbeats 2000000 in
theorem pop_call {W0 w : World} {b : Nat} {sb : Value} {m : M} (h : Mach W0 w b sb m) :
    Calls Try.prog 72 #[.pointer (some ⟨b, 0, none⟩)] w (Did W0 b sb (popM m)) := by
  have HMM := Aside0.mk h
  obtain ⟨hB, hb, vs, vt, vk, A, c, vp, h⟩ := h
  have hok := h.ok
  have HV := Aside0.mk h
  have HB := Aside0.mk hB
  have HB8 := Aside0.mk hb
  have c9 : w.cell? ⟨b, 9, none⟩ = some (.slice A m.results.length c) := h.cell 9
  have f9 : w.frozen? ⟨b, 9, none⟩ = false := h.frz 9
  cases hres : m.results with
  | nil =>
    have HE : Aside0 (popM m = .error 39) := ⟨by unfold popM; rw [hres]⟩
    rw [hres] at c9
    simp only [List.length_nil] at c9
    clear h hB hok
    go_enter Try.func72, Try.ntmps72
    go_wp2_with fail
    go_ret
    rw [HE.out]
    exact ⟨rfl, .inr rfl, Mach.left HMM.out⟩
  | cons n r =>
    have HE : Aside0 (popM m = push { m with results := r } n) := ⟨by unfold popM; rw [hres]⟩
    have hcap := h.cap
    have hint := h.res
    have hoff := h.off
    have hsm := hok.rsmall
    have hrl := hok.res
    rw [hres] at c9 hcap hint hoff hsm hrl
    simp only [List.length_cons] at c9 hcap hrl
    have hnn := hsm n List.mem_cons_self
    obtain ⟨g, off, hA, hcell⟩ := ints_cells hint (by simp)
    have c0 : w.cell? ⟨g, off, none⟩ = some (.int .i64 n) := by simpa using hcell 0 (by simp)
    obtain ⟨A', hcut, _, hints, hoffs⟩ := cutL A (r.length + 1) c 1 (by omega) (by rw [hA]; intro h; cases h)
    have HI := Aside0.mk (hints w (n :: r) (by simp) hcap hint)
    have HO := Aside0.mk (hoffs (n :: r) vk (by simp) hcap hoff)
    subst hA
    have t0 : (((r.length : Int) + 1) == 0) = false := by simp; omega
    have e1 : r.length + 1 - 1 = r.length := by omega
    have hcut2 : ∀ W : World, (Instr.slice 93 (.slice (some ⟨g, off, none⟩) (r.length + 1) c) (some (.int .i64 1)) none none).run Try.prog W = .ok (.slice A' r.length (c - 1)) W := by
      intro W
      have := hcut W
      rw [e1] at this
      simpa using this
    have HOK : Aside0 (Ok { m with results := r }) := ⟨⟨hok.stack, hok.small, by show r.length ≤ 24; omega, fun x hx => hsm x (List.mem_cons_of_mem _ hx), hok.steps, hok.stems, hok.points, hok.x, hok.y, hok.side, hok.width, hok.count⟩⟩
    have HC := Aside0.mk (show r.length ≤ c - 1 by omega)
    have HN := Aside0.mk hnn
    have q0 : (0 : Int) < (r.length : Int) + 1 := by omega
    have HNX : Aside0 (Mach W0 (w.setCell ⟨b, 9, none⟩ (.slice A' r.length (c - 1))) b sb { m with results := r }) := ⟨below_set HB.out HB8.out, HB8.out, vs, vt, vk, A', c - 1, vp, HV.out.put_res HI.out HO.out HC.out HOK.out⟩
    have HP := Aside0.mk (push_call HNX.out n HN.out)
    clear h hB hok hcut hints hoffs hint hoff hsm hrl hcap hcell hnn
    go_enter Try.func72, Try.ntmps72
    go_wp2_with fail
    refine HP.out.mono ?_
    intro e w3 hd
    rw [← HE.out] at hd
    have HDD := Aside0.mk hd
    clear hd
    cases hr : popM m with
    | error c3 =>
      have hd := HDD.out
      rw [hr] at hd
      obtain ⟨rfl, q1, q2⟩ := hd
      go_wp2_with fail
      go_ret
      rw [hr]
      exact ⟨rfl, q1, q2⟩
    | ok m3 =>
      have hd := HDD.out
      rw [hr] at hd
      obtain ⟨rfl, q1⟩ := hd
      go_wp2_with fail
      go_ret
      rw [hr]
      exact ⟨rfl, q1⟩
end Go.Proofs.Ytimnohaalccdkaa.G33b
