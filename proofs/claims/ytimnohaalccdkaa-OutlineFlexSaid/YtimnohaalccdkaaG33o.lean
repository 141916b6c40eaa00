/- Run of the program (chapter 33): IndexFunc 52, ContainsFunc 36, Run 18. -/
import Derived.Test.YtimnohaalccdkaaG33n
namespace Go.Proofs.Ytimnohaalccdkaa.G33o
open Go.Proofs.Ytimnohaalccdkaa Go.Proofs.Ytimnohaalccdkaa.K33 Go.Proofs.Ytimnohaalccdkaa.M33 Go.Proofs.Ytimnohaalccdkaa.G33a Go.Proofs.Ytimnohaalccdkaa.G33b Go.Proofs.Ytimnohaalccdkaa.G33c Go.Proofs.Ytimnohaalccdkaa.G33d Go.Proofs.Ytimnohaalccdkaa.N33 Go.Proofs.Ytimnohaalccdkaa.G33i Go.Proofs.Ytimnohaalccdkaa.G33l Go.Proofs.Ytimnohaalccdkaa.G33m Go.Proofs.Ytimnohaalccdkaa.G33n Go.Proofs.Ytimnohaalccdkaa.P33a
open Go.RowKit Go.Proofs.YtimnohaalccdkaaW.PrintWords Go.Proofs.YtimnohaalccdkaaW.PrintLast Go.Proofs.YtimnohaalccdkaaW.PrintMore
set_option linter.unusedVariables false
set_option linter.unusedSimpArgs false
set_option maxRecDepth 100000
theorem long_call (s : ByteArray) (w : World) : Calls Try.prog 35 #[.string s] w fun e w' => e = .returned (.bool (decide (4000 < s.size))) ∧ w' = w := by
  have e : decide (4000 < (s.size : Int)) = decide (4000 < s.size) := by by_cases h : 4000 < s.size <;> simp [h] <;> omega
  obtain ⟨d, hd⟩ : ∃ d, decide (4000 < s.size) = d := ⟨_, rfl⟩
  rw [hd] at e
  rw [hd]
  go_enter Try.func35, Try.ntmps35
  go_wp2_with fail
  go_ret
  exact ⟨rfl, rfl⟩
/-- Strings at an address. -/
def StrRow (w : World) (A : Option Addr) (ss : List ByteArray) : Prop :=
  ∀ (i : Nat) (s : ByteArray), ss[i]? = some s → ∃ g off, A = some ⟨g, off, none⟩ ∧ w.cell? ⟨g, off + i, none⟩ = some (.string s)
def idxF : Nat → List ByteArray → Int
  | _, [] => -1
  | k, s :: r => if 4000 < s.size then k else idxF (k + 1) r
theorem idxF_any : ∀ (ss : List ByteArray) (k : Nat), (0 ≤ idxF k ss ∧ (ss.any fun s => decide (4000 < s.size)) = true) ∨ (idxF k ss = -1 ∧ (ss.any fun s => decide (4000 < s.size)) = false)
  | [], k => .inr ⟨rfl, rfl⟩
  | s :: r, k => by
    unfold idxF
    rw [List.any_cons]
    by_cases h : 4000 < s.size
    · rw [if_pos h]; left; exact ⟨by omega, by simp [h]⟩
    · rw [if_neg h]
      simp only [h, decide_false, Bool.false_or]
      exact idxF_any r (k + 1)
set_option maxHeartbeats 4000000 in
theorem index_call {w : World} {A : Option Addr} {c : Nat} {ss : List ByteArray} (h : StrRow w A ss) (hl : ss.length ≤ 1000000) :
    Calls Try.prog 52 #[.slice A ss.length c, .func (.func 35) #[] #[]] w fun e w' => e = .returned (.int .i64 (idxF 0 ss)) ∧ w' = w := by
  have HS := Aside0.mk h
  obtain ⟨res, hres⟩ : ∃ res, idxF 0 ss = res := ⟨_, rfl⟩
  have HR : Aside0 (idxF 0 (ss.drop 0) = res) := ⟨hres⟩
  rw [hres]
  clear h hres
  go_enter Try.func52, Try.ntmps52
  go_wp2_with fail
  go_loopw [8] (fun v8 wr => ∃ j : Nat, v8 = .int .i64 (j : Int) ∧ j ≤ ss.length ∧ Aside0 (idxF j (ss.drop j) = res) ∧ wr = w) (fun v8 _ => ss.length - (intOf v8).toNat)
  case atStart => exact ⟨0, rfl, by omega, HR, rfl⟩
  case round =>
    clear HR
    obtain ⟨j, rfl, hj, HR, rfl⟩ := hrel
    by_cases hjl : j < ss.length
    · have t1 : decide ((j : Int) < (ss.length : Int)) = true := decide_eq_true (by omega)
      have t2 : decide (j < ss.length) = true := decide_eq_true hjl
      obtain ⟨g, off, rfl, hcell⟩ := HS.out j _ (List.getElem?_eq_getElem hjl)
      have hdrop : ss.drop j = ss[j]'hjl :: ss.drop (j + 1) := List.drop_eq_getElem_cons hjl
      have HR2 : Aside0 ((if 4000 < (ss[j]'hjl).size then (j : Int) else idxF (j + 1) (ss.drop (j + 1))) = res) := ⟨by rw [← HR.out, hdrop]; rfl⟩
      obtain ⟨s, hs⟩ : ∃ s, ss[j]'hjl = s := ⟨_, rfl⟩
      rw [hs] at hcell HR2
      have hq : (j < ss.length) = True := eq_true hjl
      have HC := Aside0.mk (long_call s wr)
      clear hdrop hs HR
      by_cases h4 : 4000 < s.size
      · rw [decide_eq_true h4] at HC
        rw [if_pos h4] at HR2
        clear h4
        go_wp2_with fail
        refine HC.out.mono ?_
        rintro e w1 ⟨rfl, rfl⟩
        go_wp2_with fail
        go_ret
        exact ⟨by rw [← HR2.out]; rfl, rfl⟩
      · rw [decide_eq_false h4] at HC
        rw [if_neg h4] at HR2
        have hjj := Aside0.mk hjl
        clear h4
        go_wp2_with fail
        refine HC.out.mono ?_
        rintro e w1 ⟨rfl, rfl⟩
        go_wp2_with fail
        exact ⟨⟨j + 1, by simp, by have := hjj.out; omega, HR2, trivial⟩, by have := hjj.out; simp [intOf]; omega⟩
    · have t1 : decide ((j : Int) < (ss.length : Int)) = false := decide_eq_false (by omega)
      have t2 : decide (j < ss.length) = false := decide_eq_false hjl
      have HE : Aside0 (res = -1) := ⟨by rw [← HR.out, List.drop_eq_nil_of_le (by omega)]; rfl⟩
      clear hjl hj HR
      go_wp2_with fail
      go_ret
      exact ⟨by rw [HE.out]; rfl, rfl⟩
theorem contains_call {w : World} {A : Option Addr} {c : Nat} {ss : List ByteArray} (h : StrRow w A ss) (hl : ss.length ≤ 1000000) :
    Calls Try.prog 36 #[.slice A ss.length c, .func (.func 35) #[] #[]] w fun e w' => e = .returned (.bool (ss.any fun s => decide (4000 < s.size))) ∧ w' = w := by
  have HC := Aside0.mk (index_call (c := c) h hl)
  obtain ⟨bb, hbb⟩ : ∃ bb, (ss.any fun s => decide (4000 < s.size)) = bb := ⟨_, rfl⟩
  have hd : decide (0 ≤ idxF 0 ss) = bb := by
    rw [← hbb]
    rcases idxF_any ss 0 with ⟨h1, h2⟩ | ⟨h1, h2⟩
    · rw [h2]; exact decide_eq_true h1
    · rw [h2, h1]; rfl
  rw [hbb]
  clear h hl hbb
  obtain ⟨ix, hix⟩ : ∃ ix, idxF 0 ss = ix := ⟨_, rfl⟩
  rw [hix] at HC hd
  clear hix
  go_enter Try.func36, Try.ntmps36
  go_wp2_with fail
  refine HC.out.mono ?_
  rintro e w1 ⟨rfl, rfl⟩
  go_wp2_with fail
  go_ret
  exact ⟨rfl, rfl⟩
/-- Strings that lie there for good. -/
def StrsAt (w : World) (sb : Value) (ss : List ByteArray) : Prop := ∃ A c, sb = .slice A ss.length c ∧ ∀ W, Below w.heap.size w W → StrRow W A ss
/-- A glyph as a value. -/
def GlV (B : Nat) (w : World) (v : Value) (g : Gl) : Prop := ∃ vs vt, v = .agg #[.int .i64 g.1, .int .i64 g.2.1, vs, vt] ∧ w.ownsRow B 60 7 vs g.2.2.1.length (g.2.2.1.flatMap stp) ∧ w.ownsRow B 69 3 vt g.2.2.2.length (g.2.2.2.flatMap stm)
theorem glv_zero (B : Nat) (w : World) : GlV B w (.agg #[.int .i64 0, .int .i64 0, .slice none 0 0, .slice none 0 0]) g0 := ⟨_, _, rfl, own_nil _ _ _ _, own_nil _ _ _ _⟩
/-- What Run answers. -/
def RanTo (w : World) (r : Gl × Int) (e : Ending) (w' : World) : Prop := ∃ v, e = .returned (.tuple #[v, .int .i64 r.2]) ∧ GlV w.heap.size w' v r.1 ∧ Below w.heap.size w w' ∧ r.1.2.2.1.length ≤ 300 ∧ r.1.2.2.2.length ≤ 40
theorem any_map (ss : List ByteArray) : ((ss.map bytesOf).any fun s => decide (4000 < s.length)) = ss.any fun s => decide (4000 < s.size) := by
  rw [List.any_map]
  congr 1
  funext s
  simp [bytesOf_len]
theorem info43 : (Try.prog.info? 43).map (·.size) = some 4 := by kernel_rfl
theorem results_gl {fn : Func} {p u : Tmp} (h : fn.results = #[.cell p 43, .tmp u]) (tmps : Array Value) (w : World) (g : Nat) (cs : Array Value) (hp : tmps.getD p undef = .pointer (some ⟨g, 0, none⟩)) (hg : w.heap[g]? = some (.cells cs 43 (0, 0))) (hl : cs.size = 4) :
    (results fn tmps).run Try.prog w = .ok (.tuple #[.agg cs, tmps.getD u undef]) w := by
  have e : (asAddr (.pointer (some (⟨g, 0, none⟩ : Addr)))).run Try.prog w = .ok ⟨g, 0, none⟩ w := rfl
  have e2 := run_loadVar_row (P := Try.prog) w g 43 43 cs (0, 0) _ hg Try.underlying43 rfl (info43.trans (by rw [hl]))
  have hp' : tmps[p]?.getD undef = .pointer (some ⟨g, 0, none⟩) := by simpa using hp
  simp [results, h, hp', e, e2, Result.andThen]
theorem own_low {w : World} {B B' n size : Nat} {e : TypeId} {v : Value} {xs : List Value} (h : w.ownsRow B' e size v n xs) (hb : B ≤ B') : w.ownsRow B e size v n xs := by
  obtain ⟨h1, h2⟩ := h
  rcases h2 with h2 | ⟨g, cap, cur, a1, a2, a3⟩
  · exact ⟨h1, .inl h2⟩
  · exact ⟨h1, .inr ⟨g, cap, cur, a1, Nat.le_trans hb a2, a3⟩⟩
theorem ok0 : Ok m0 := ⟨by decide, fun x hx => (by cases hx), by decide, fun x hx => (by cases hx), by decide, by decide, ⟨by decide, fun x hx => (by cases hx)⟩, by decide, by decide, by decide, by decide, by decide⟩
set_option maxHeartbeats 8000000 in
theorem run_prog {w : World} {sb : Value} {ss : List ByteArray} (h : StrsAt w sb ss) (hl : ss.length ≤ 1000000) (s : ByteArray) :
    Calls Try.prog 18 #[sb, .string s] w (RanTo w (runG (ss.map bytesOf) (bytesOf s))) := by
  obtain ⟨A, c, rfl, hrow⟩ := h
  have HROW := Aside0.mk hrow
  have hsz := bytesOf_len s
  have HE0 : Aside0 (runG (ss.map bytesOf) (bytesOf s) = if 200 < ss.length ∨ (ss.any fun s => decide (4000 < s.size)) = true ∨ 4000 < s.size then (g0, 3) else match runD (ss.map bytesOf) 10 true m0 (bytesOf s) with | .error e => (g0, e) | .ok m => (m.gl, 0)) := ⟨by unfold runG; rw [any_map, List.length_map, hsz]; rfl⟩
  clear hrow hsz
  by_cases h2 : 200 < ss.length
  · have t1 : decide (200 < (ss.length : Int)) = true := decide_eq_true (by omega)
    have t1n : decide (200 < ss.length) = true := decide_eq_true h2
    have HE : Aside0 (runG (ss.map bytesOf) (bytesOf s) = (g0, 3)) := ⟨by rw [HE0.out, if_pos (.inl h2)]⟩
    clear h2 hl HE0
    go_enter Try.func18, Try.ntmps18
    go_wp2_with fail
    refine bodyPost_ret (results_gl rfl _ _ _ _ rfl (blk_new _ _) rfl) rfl ?_
    rw [HE.out]
    exact ⟨_, rfl, glv_zero _ _, below_alloc (Below.refl _ _) _, by decide, by decide⟩
  have t1 : decide (200 < (ss.length : Int)) = false := decide_eq_false (by omega)
  have t1n : decide (200 < ss.length) = false := decide_eq_false h2
  have HC := Aside0.mk (contains_call (c := c) (HROW.out (w.alloc (.cells #[.int .i64 0, .int .i64 0, .slice none 0 0, .slice none 0 0] 43)) (below_alloc (Below.refl _ _) _)) hl)
  cases ha : (ss.any fun s => decide (4000 < s.size)) with
  | true =>
    rw [ha] at HC
    have HE : Aside0 (runG (ss.map bytesOf) (bytesOf s) = (g0, 3)) := ⟨by rw [HE0.out, if_pos (.inr (.inl ha))]⟩
    clear h2 hl HE0 ha
    go_enter Try.func18, Try.ntmps18
    go_wp2_with fail
    refine HC.out.mono ?_
    rintro e w1 ⟨rfl, rfl⟩
    go_wp2_with fail
    refine bodyPost_ret (results_gl rfl _ _ _ _ rfl (blk_new _ _) rfl) rfl ?_
    rw [HE.out]
    exact ⟨_, rfl, glv_zero _ _, below_alloc (Below.refl _ _) _, by decide, by decide⟩
  | false =>
    rw [ha] at HC
    have HL4 := Aside0.mk (long_call s (w.alloc (.cells #[.int .i64 0, .int .i64 0, .slice none 0 0, .slice none 0 0] 43)))
    by_cases h4 : 4000 < s.size
    · rw [decide_eq_true h4] at HL4
      have HE : Aside0 (runG (ss.map bytesOf) (bytesOf s) = (g0, 3)) := ⟨by rw [HE0.out, if_pos (.inr (.inr h4))]⟩
      clear h2 hl HE0 ha h4
      go_enter Try.func18, Try.ntmps18
      go_wp2_with fail
      refine HC.out.mono ?_
      rintro e w1 ⟨rfl, rfl⟩
      go_wp2_with fail
      refine HL4.out.mono ?_
      rintro e w1 ⟨rfl, rfl⟩
      go_wp2_with fail
      refine bodyPost_ret (results_gl rfl _ _ _ _ rfl (blk_new _ _) rfl) rfl ?_
      rw [HE.out]
      exact ⟨_, rfl, glv_zero _ _, below_alloc (Below.refl _ _) _, by decide, by decide⟩
    · rw [decide_eq_false h4] at HL4
      have HE : Aside0 (runG (ss.map bytesOf) (bytesOf s) = match runD (ss.map bytesOf) 10 true m0 (bytesOf s) with | .error e => (g0, e) | .ok m => (m.gl, 0)) := ⟨by rw [HE0.out, if_neg (by rw [ha]; simp; omega)]⟩
      have HS4 : Aside0 (∀ s ∈ ss, s.size ≤ 4000) := ⟨fun x hx => by
        have := List.any_eq_false.1 ha x hx
        simpa using this⟩
      have H2 := Aside0.mk (show ss.length ≤ 200 by omega)
      have H4 := Aside0.mk (show s.size ≤ 4000 by omega)
      clear h2 hl HE0 ha h4
      go_enter Try.func18, Try.ntmps18
      go_wp2_with fail
      refine HC.out.mono ?_
      rintro e w1 ⟨rfl, rfl⟩
      go_wp2_with fail
      refine HL4.out.mono ?_
      rintro e w1 ⟨rfl, rfl⟩
      go_wp2_with fail
      obtain ⟨w1, hw1⟩ : ∃ w1, w.alloc (.cells #[.int .i64 0, .int .i64 0, .slice none 0 0, .slice none 0 0] 43) = w1 := ⟨_, rfl⟩
      have hsz1 : w1.heap.size = w.heap.size + 1 := by rw [← hw1]; simp
      have hbw : Below w.heap.size w w1 := by rw [← hw1]; exact below_alloc (Below.refl _ _) _
      have hR : w1.heap[w.heap.size]? = some (.cells #[.int .i64 0, .int .i64 0, .slice none 0 0, .slice none 0 0] 43 (0, 0)) := by rw [← hw1]; exact blk_new _ _
      rw [hw1, ← hsz1]
      have hst : Strs w1 (.slice A ss.length c) ss := ⟨A, c, rfl, H2.out, HS4.out, fun W hW i s hs => HROW.out W (below_then hbw hbw.size hW) i s hs⟩
      have hm : Mach w1 (w1.alloc (.cells (mcells m0 (.slice A ss.length c) (.slice none 0 0) (.slice none 0 0) (.slice none 0 0) (.slice none 0 0) (.slice none 0 0)) 96)) w1.heap.size (.slice A ss.length c) m0 :=
        ⟨below_alloc (Below.refl _ _) _, Nat.le_refl _, .slice none 0 0, .slice none 0 0, .slice none 0 0, none, 0, .slice none 0 0, ⟨blk_new _ _, own_nil _ _ _ _, own_nil _ _ _ _, own_nil _ _ _ _, own_nil _ _ _ _, Nat.le_refl _, .inl rfl, .inl rfl, ok0⟩⟩
      obtain ⟨r, hr⟩ : ∃ r, w.heap.size = r := ⟨_, rfl⟩
      have HRB := Aside0.mk (And.intro (show r < w1.heap.size by omega) hr)
      rw [hr] at hR ⊢
      have HRR := Aside0.mk hR
      have HBW := Aside0.mk hbw
      clear hw1 hsz1 hbw hR hr HC HL4
      refine (runD_call hst 10 0 (by decide) (by decide) _ m0 s hm rfl H4.out).mono ?_
      clear hm hst
      intro e w3 hdid
      have hdid : Did w1 w1.heap.size (.slice A ss.length c) (runD (ss.map bytesOf) 10 true m0 (bytesOf s)) e w3 := hdid
      cases hrr : runD (ss.map bytesOf) 10 true m0 (bytesOf s) with
      | error ec =>
        rw [hrr] at hdid
        obtain ⟨rfl, hc, hl⟩ := hdid
        have HEE : Aside0 (runG (ss.map bytesOf) (bytesOf s) = (g0, ec)) := ⟨by rw [HE.out, hrr]⟩
        have tc : (ec != 0) = true := by rcases hc with rfl | rfl <;> rfl
        have hR3 : w3.heap[r]? = some (.cells #[.int .i64 0, .int .i64 0, .slice none 0 0, .slice none 0 0] 43 (0, 0)) := (hl.1.block r HRB.out.1).trans HRR.out
        have HB3 := Aside0.mk (below_then HBW.out HBW.out.size hl.1)
        have q0 := hR3
        have k0 : (w3).cell? ⟨r, 0, none⟩ = some (.int .i64 0) := (blk_cell q0 0).trans rfl
        have f0 : (w3).frozen? ⟨r, 0, none⟩ = false := blk_frozen q0 0
        have q1 := blk_set q0 0 (.int .i64 0)
        have k1 : ((w3).setCell ⟨r, 0, none⟩ (.int .i64 0)).cell? ⟨r, 1, none⟩ = some (.int .i64 0) := (blk_cell q1 1).trans rfl
        have f1 : ((w3).setCell ⟨r, 0, none⟩ (.int .i64 0)).frozen? ⟨r, 1, none⟩ = false := blk_frozen q1 1
        have q2 := blk_set q1 1 (.int .i64 0)
        have k2 : (((w3).setCell ⟨r, 0, none⟩ (.int .i64 0)).setCell ⟨r, 1, none⟩ (.int .i64 0)).cell? ⟨r, 2, none⟩ = some (.slice none 0 0) := (blk_cell q2 2).trans rfl
        have f2 : (((w3).setCell ⟨r, 0, none⟩ (.int .i64 0)).setCell ⟨r, 1, none⟩ (.int .i64 0)).frozen? ⟨r, 2, none⟩ = false := blk_frozen q2 2
        have q3 := blk_set q2 2 (.slice none 0 0)
        have k3 : ((((w3).setCell ⟨r, 0, none⟩ (.int .i64 0)).setCell ⟨r, 1, none⟩ (.int .i64 0)).setCell ⟨r, 2, none⟩ (.slice none 0 0)).cell? ⟨r, 3, none⟩ = some (.slice none 0 0) := (blk_cell q3 3).trans rfl
        have f3 : ((((w3).setCell ⟨r, 0, none⟩ (.int .i64 0)).setCell ⟨r, 1, none⟩ (.int .i64 0)).setCell ⟨r, 2, none⟩ (.slice none 0 0)).frozen? ⟨r, 3, none⟩ = false := blk_frozen q3 3
        have q4 := blk_set q3 3 (.slice none 0 0)
        have HQ4 := Aside0.mk q4
        clear hc hl hrr hdid hR3 q0 q1 q2 q3 q4
        go_wp2_with fail
        refine bodyPost_ret (results_gl rfl _ _ _ _ rfl HQ4.out rfl) rfl ?_
        rw [HEE.out]
        have hge : w.heap.size ≤ r := by have := HRB.out.2; omega
        exact ⟨_, rfl, glv_zero _ _, below_set (below_set (below_set (below_set HB3.out hge) hge) hge) hge, by show ([] : List Stp).length ≤ 300; decide, by show ([] : List Stm).length ≤ 40; decide⟩
      | ok m2 =>
        rw [hrr] at hdid
        obtain ⟨rfl, hB, hb, vs2, vt2, vk2, A2, c2, vp2, hv⟩ := hdid
        have HEE : Aside0 (runG (ss.map bytesOf) (bytesOf s) = (m2.gl, 0)) := ⟨by rw [HE.out, hrr]⟩
        have hR3 : w3.heap[r]? = some (.cells #[.int .i64 0, .int .i64 0, .slice none 0 0, .slice none 0 0] 43 (0, 0)) := (hB.block r HRB.out.1).trans HRR.out
        have HB3 := Aside0.mk (below_then HBW.out HBW.out.size hB)
        obtain ⟨As, cs, rfl⟩ := own_slice hv.steps
        obtain ⟨At, ct, rfl⟩ := own_slice hv.stems
        have g0' : w3.cell? ⟨w1.heap.size, 0, none⟩ = some (.int .i64 m2.side) := hv.cell 0
        have g1' : w3.cell? ⟨w1.heap.size, 1, none⟩ = some (.int .i64 m2.width) := hv.cell 1
        have g2' : w3.cell? ⟨w1.heap.size, 2, none⟩ = some (.slice As m2.steps.length cs) := hv.cell 2
        have g3' : w3.cell? ⟨w1.heap.size, 3, none⟩ = some (.slice At m2.stems.length ct) := hv.cell 3
        have q0 := hR3
        have k0 : (w3).cell? ⟨r, 0, none⟩ = some (.int .i64 0) := (blk_cell q0 0).trans rfl
        have f0 : (w3).frozen? ⟨r, 0, none⟩ = false := blk_frozen q0 0
        have q1 := blk_set q0 0 (.int .i64 m2.side)
        have k1 : ((w3).setCell ⟨r, 0, none⟩ (.int .i64 m2.side)).cell? ⟨r, 1, none⟩ = some (.int .i64 0) := (blk_cell q1 1).trans rfl
        have f1 : ((w3).setCell ⟨r, 0, none⟩ (.int .i64 m2.side)).frozen? ⟨r, 1, none⟩ = false := blk_frozen q1 1
        have q2 := blk_set q1 1 (.int .i64 m2.width)
        have k2 : (((w3).setCell ⟨r, 0, none⟩ (.int .i64 m2.side)).setCell ⟨r, 1, none⟩ (.int .i64 m2.width)).cell? ⟨r, 2, none⟩ = some (.slice none 0 0) := (blk_cell q2 2).trans rfl
        have f2 : (((w3).setCell ⟨r, 0, none⟩ (.int .i64 m2.side)).setCell ⟨r, 1, none⟩ (.int .i64 m2.width)).frozen? ⟨r, 2, none⟩ = false := blk_frozen q2 2
        have q3 := blk_set q2 2 (.slice As m2.steps.length cs)
        have k3 : ((((w3).setCell ⟨r, 0, none⟩ (.int .i64 m2.side)).setCell ⟨r, 1, none⟩ (.int .i64 m2.width)).setCell ⟨r, 2, none⟩ (.slice As m2.steps.length cs)).cell? ⟨r, 3, none⟩ = some (.slice none 0 0) := (blk_cell q3 3).trans rfl
        have f3 : ((((w3).setCell ⟨r, 0, none⟩ (.int .i64 m2.side)).setCell ⟨r, 1, none⟩ (.int .i64 m2.width)).setCell ⟨r, 2, none⟩ (.slice As m2.steps.length cs)).frozen? ⟨r, 3, none⟩ = false := blk_frozen q3 3
        have q4 := blk_set q3 3 (.slice At m2.stems.length ct)
        have HQ4 := Aside0.mk q4
        have HOW : Aside0 (GlV w.heap.size (((((w3).setCell ⟨r, 0, none⟩ (.int .i64 m2.side)).setCell ⟨r, 1, none⟩ (.int .i64 m2.width)).setCell ⟨r, 2, none⟩ (.slice As m2.steps.length cs)).setCell ⟨r, 3, none⟩ (.slice At m2.stems.length ct)) (.agg #[.int .i64 m2.side, .int .i64 m2.width, .slice As m2.steps.length cs, .slice At m2.stems.length ct]) m2.gl) := ⟨by
          have hge : w.heap.size ≤ w1.heap.size := HBW.out.size
          have s1 := own_setCell hv.steps (own_ne hv.steps q0 (by decide)) (p := ⟨r, 0, none⟩) (Value.int .i64 m2.side)
          have s2 := own_setCell s1 (own_ne s1 q1 (by decide)) (p := ⟨r, 1, none⟩) (Value.int .i64 m2.width)
          have s3 := own_setCell s2 (own_ne s2 q2 (by decide)) (p := ⟨r, 2, none⟩) (Value.slice As m2.steps.length cs)
          have s4 := own_setCell s3 (own_ne s3 q3 (by decide)) (p := ⟨r, 3, none⟩) (Value.slice At m2.stems.length ct)
          have u1 := own_setCell hv.stems (own_ne hv.stems q0 (by decide)) (p := ⟨r, 0, none⟩) (Value.int .i64 m2.side)
          have u2 := own_setCell u1 (own_ne u1 q1 (by decide)) (p := ⟨r, 1, none⟩) (Value.int .i64 m2.width)
          have u3 := own_setCell u2 (own_ne u2 q2 (by decide)) (p := ⟨r, 2, none⟩) (Value.slice As m2.steps.length cs)
          have u4 := own_setCell u3 (own_ne u3 q3 (by decide)) (p := ⟨r, 3, none⟩) (Value.slice At m2.stems.length ct)
          exact ⟨_, _, rfl, own_low s4 hge, own_low u4 hge⟩⟩
        have HOK2 := Aside0.mk hv.ok
        clear hB hb hv hrr hR3 q0 q1 q2 q3 q4
        go_wp2_with fail
        refine bodyPost_ret (results_gl rfl _ _ _ _ rfl HQ4.out rfl) rfl ?_
        rw [HEE.out]
        have hge : w.heap.size ≤ r := by have := HRB.out.2; omega
        exact ⟨_, rfl, HOW.out, below_set (below_set (below_set (below_set HB3.out hge) hge) hge) hge, HOK2.out.steps, HOK2.out.stems⟩
end Go.Proofs.Ytimnohaalccdkaa.G33o
