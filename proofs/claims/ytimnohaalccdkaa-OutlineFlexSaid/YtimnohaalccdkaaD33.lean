/- Several texts of this claim, one behind the other. -/
import Derived.Test.YtimnohaalccdkaaG33p
import Derived.Laws.StructEq
import Derived.Laws.Tables
import Derived.Maps.RangeWalk
import Derived.Maps.Own
import Derived.Maps.Keyed
/- Words for the laws of chapter 33: glyphs stored and loaded; entries of a map literal. -/
namespace Go.Proofs.Ytimnohaalccdkaa.W33
open Go.Proofs.Ytimnohaalccdkaa Go.Proofs.Ytimnohaalccdkaa.K33 Go.Proofs.Ytimnohaalccdkaa.M33 Go.Proofs.Ytimnohaalccdkaa.G33a Go.Proofs.Ytimnohaalccdkaa.G33b Go.Proofs.Ytimnohaalccdkaa.G33c Go.Proofs.Ytimnohaalccdkaa.G33o Go.Proofs.Ytimnohaalccdkaa.G33p
open Go.RowKit Go.Proofs.YtimnohaalccdkaaW.PrintWords Go.Proofs.YtimnohaalccdkaaW.PrintLast Go.Proofs.YtimnohaalccdkaaW.PrintMore
open Go.Maps (Keyed)
set_option linter.unusedVariables false
set_option linter.unusedSimpArgs false
set_option maxRecDepth 100000
theorem below_row {B : Nat} {u w : World} (h : Below B u w) {g : Nat} (hg : B ≤ g) (cs : Array Value) : Below B u (w.setRow g cs) :=
  ⟨h.os, h.tape, h.output, by have := h.size; simpa [World.setRow] using this, fun k hk => (setRow_other w g k cs (by omega)).trans (h.block k hk)⟩
/-- A fresh variable that was stored into. -/
def mkG (w : World) (o : Obj) (cs : Array Value) : World := (w.alloc o).setRow w.heap.size cs
theorem mkG_below (w : World) (o : Obj) (cs : Array Value) : Below w.heap.size w (mkG w o cs) := below_row (below_alloc (Below.refl _ _) _) (Nat.le_refl _) _
theorem mkG_new (w : World) (cs0 cs : Array Value) (t : TypeId) : (mkG w (.cells cs0 t (0, 0)) cs).heap[w.heap.size]? = some (.cells cs t (0, 0)) := setRow_heap _ _ _ _ _ _ (blk_new _ _)
theorem mkG_size (w : World) (o : Obj) (cs : Array Value) : (mkG w o cs).heap.size = w.heap.size + 1 := by simp [mkG, World.setRow]
section
variable {ops : Array Oper} {rest : List Oper} {o : Oper} {a : Act} {w : World} {Q : Exit → Act → World → Prop}
theorem want {P : Program} (hw : Region.wanted o (yielded ops a.tmps) = true)
    (h : ∀ K : Act → World → Prop, (∀ a w, wpList P ops Q rest a w → K a w) → o.wp P a w K Q) : wpList P ops Q (o :: rest) a w :=
  wpList_step fun K hK => by rw [if_pos hw]; exact h K hK
theorem store_gl (hgd : o.guard = none) (x y : Operand) (ho : o.op = .store 43 x y) (g : Nat) (hx : a.eval x = .pointer (some ⟨g, 0, none⟩)) (old cs : Array Value) (hy : a.eval y = .agg cs) (hold : w.heap[g]? = some (.cells old 43 (0, 0))) (ho2 : old.size = 4) (hl : cs.size = 4) (h1 : cs.all (·.oneCell') = true)
    (h : wpList Try.prog ops Q rest (a.put o.dst undef) (w.setRow g cs)) : wpList Try.prog ops Q (o :: rest) a w :=
  wpList_store_row hgd 43 x y ho g cs hx hy 43 old hold (info43.trans (by rw [hl])) (by rw [hl, ho2]) h1 h
theorem load_gl (hw : Region.wanted o (yielded ops a.tmps) = true) (x : Operand) (ho : o.op = .load 43 x)
    (g : Nat) (hx : a.eval x = .pointer (some ⟨g, 0, none⟩)) (cs : Array Value) (hb : cs.size = 4) (hg : w.heap[g]? = some (.cells cs 43 (0, 0)))
    (h : wpList Try.prog ops Q rest (a.put o.dst (.agg cs)) w) : wpList Try.prog ops Q (o :: rest) a w :=
  want hw fun _ hK => wp_load_row 43 x ho g hx 43 cs (0, 0) _ hg Try.underlying43 rfl (info43.trans (by rw [hb])) (hK _ _ h)
/-- An entry of a map literal. -/
theorem insert_own {H : Type} (hg : o.guard = none) (m x v : Operand) (t : TypeId) (hop : o.op = Op.insert t m x v)
    (k e : TypeId) (K : Keyed Try.prog k) (ht : Try.prog.underlying t = some (.map k e)) (R : Value → Option (DataW H × List MemPlace)) (b n : Nat) (D : DataW H)
    (hm : a.eval m = .map (some b)) (hown : w.ownsMap Try.prog k R b n D) (hn : n < maxLen) (key val : Value) (kl : Lit) (hx : a.eval x = key) (hv : a.eval v = val) (hkey : keyOf Try.prog k key = some kl)
    (d : DataW H) (ps : List MemPlace) (hval : R val = some (d, ps))
    (hK : ∀ w', w'.ownsMap Try.prog k R b (n + 1) (D.put kl d) → w.grownBy w' (some b) → wpList Try.prog ops Q rest (a.put o.dst undef) w') :
    wpList Try.prog ops Q (o :: rest) a w := by
  refine wpList_plain hg fun K' hK' => ?_
  obtain ⟨w', hrun, r1, r2⟩ := hown.update K ht hn hkey hval
  unfold Oper.wp
  simp [execOp, hop, hm, hx, hv, hrun, Result.andThen]
  exact hK' _ _ (hK w' r1 r2)
end
theorem rd_slice {w : World} {v : Value} {n : Nat} {xs : List Value} (h : Rd w v n xs) : v.oneCell' = true := by
  obtain ⟨A, c, rfl, _⟩ := h
  rfl
theorem glr_one {w : World} {cs : Array Value} {g : Gl} (h : GlR w (.agg cs) g) : cs.size = 4 ∧ cs.all (·.oneCell') = true := by
  obtain ⟨vs, vt, e, h1, h2⟩ := h
  injection e with e
  subst e
  obtain ⟨A1, c1, rfl, _⟩ := h1
  obtain ⟨A2, c2, rfl, _⟩ := h2
  exact ⟨rfl, by simp [Value.oneCell']⟩
end Go.Proofs.Ytimnohaalccdkaa.W33
/- draws 23, fails 31 (chapter 33): what a charstring draws, by Run and Same. -/
namespace Go.Proofs.Ytimnohaalccdkaa.D33
open Go.Proofs.Ytimnohaalccdkaa Go.Proofs.Ytimnohaalccdkaa.K33 Go.Proofs.Ytimnohaalccdkaa.M33 Go.Proofs.Ytimnohaalccdkaa.G33a Go.Proofs.Ytimnohaalccdkaa.G33b Go.Proofs.Ytimnohaalccdkaa.G33c Go.Proofs.Ytimnohaalccdkaa.G33d Go.Proofs.Ytimnohaalccdkaa.N33 Go.Proofs.Ytimnohaalccdkaa.G33i Go.Proofs.Ytimnohaalccdkaa.G33l Go.Proofs.Ytimnohaalccdkaa.G33m Go.Proofs.Ytimnohaalccdkaa.G33n Go.Proofs.Ytimnohaalccdkaa.G33o Go.Proofs.Ytimnohaalccdkaa.G33p Go.Proofs.Ytimnohaalccdkaa.W33 Go.Proofs.Ytimnohaalccdkaa.P33a
open Go.RowKit Go.Proofs.YtimnohaalccdkaaW.PrintWords Go.Proofs.YtimnohaalccdkaaW.PrintLast Go.Proofs.YtimnohaalccdkaaW.PrintMore
set_option linter.unusedVariables false
set_option linter.unusedSimpArgs false
set_option maxRecDepth 100000
theorem StrsAt.below {w w' : World} {sb : Value} {ss : List ByteArray} (h : StrsAt w sb ss) (hb : Below w.heap.size w w') : StrsAt w' sb ss := by
  obtain ⟨A, c, rfl, hr⟩ := h
  exact ⟨A, c, rfl, fun W hW => hr W (below_then hb hb.size hW)⟩
theorem glv_r {B : Nat} {w : World} {v : Value} {g : Gl} (h : GlV B w v g) : ∃ cs, v = .agg cs ∧ GlR w (.agg cs) g := by
  have h' := GlR.of h
  obtain ⟨vs, vt, rfl, _⟩ := h
  exact ⟨_, rfl, h'⟩
theorem glr_agg {w : World} {v : Value} {g : Gl} (h : GlR w v g) : ∃ cs, v = .agg cs := by
  obtain ⟨vs, vt, rfl, _⟩ := h
  exact ⟨_, rfl⟩
theorem build_g0 {ops : Array Oper} {rest : List Oper} {o : Oper} {a : Act} {w : World} {Q : Exit → Act → World → Prop} (hw : Region.wanted o (yielded ops a.tmps) = true) (ho : o.op = .build 43 #[])
    (h : wpList Try.prog ops Q rest (a.put o.dst (.agg #[.int .i64 0, .int .i64 0, .slice none 0 0, .slice none 0 0])) w) : wpList Try.prog ops Q (o :: rest) a w :=
  want hw fun _ hK => wp_build 43 _ ho (by kernel_rfl) (by
    have e : Try.prog.built 43 (Array.map (fun x => (x.1, a.eval x.2)) (#[] : Array (Nat × Operand))).toList = some #[.int .i64 0, .int .i64 0, .slice none 0 0, .slice none 0 0] := by kernel_rfl
    rw [e]
    exact hK _ _ h)
set_option maxHeartbeats 4000000 in
theorem draws_call {w : World} {sb gv : Value} {ss : List ByteArray} {g : Gl} (h : StrsAt w sb ss) (hl : ss.length ≤ 1000000) (s : ByteArray) (hg : GlR w gv g) (l1 : g.2.2.1.length ≤ 100000) (l2 : g.2.2.2.length ≤ 100000) :
    Calls Try.prog 23 #[.string s, gv, sb] w fun e w' => e = .returned (.bool (decide (runG (ss.map bytesOf) (bytesOf s) = (g, 0)))) ∧ Below w.heap.size w w' := by
  obtain ⟨A, c, rfl, hrow⟩ := h
  obtain ⟨vs, vt, rfl, h1, h2⟩ := hg
  obtain ⟨r, hr⟩ : ∃ r, runG (ss.map bytesOf) (bytesOf s) = r := ⟨_, rfl⟩
  have HRUN : ∀ W, Below w.heap.size w W → Calls Try.prog 18 #[.slice A ss.length c, .string s] W (RanTo W r) := fun W hW => by
    rw [← hr]; exact run_prog (StrsAt.below ⟨A, c, rfl, hrow⟩ hW) hl s
  have HR := Aside0.mk HRUN
  rw [hr]
  have HG : Aside0 (∀ W, Below w.heap.size w W → GlR W (.agg #[.int .i64 g.1, .int .i64 g.2.1, vs, vt]) g) := ⟨fun W hW => GlR.below ⟨vs, vt, rfl, h1, h2⟩ hW⟩
  have HL := Aside0.mk (And.intro l1 l2)
  obtain ⟨ans, hans⟩ : ∃ ans, decide (r = (g, 0)) = ans := ⟨_, rfl⟩
  rw [hans]
  have HA := Aside0.mk hans
  clear hrow h1 h2 HRUN hr l1 l2 hl hans
  go_enter Try.func23, Try.ntmps23
  go_wp2_with fail
  refine (HR.out _ (below_alloc (Below.refl _ _) _)).mono ?_
  rintro e w1 ⟨v, rfl, hgl, hb1, k1, k2⟩
  obtain ⟨cs, rfl, hgr⟩ := glv_r hgl
  obtain ⟨hc4, hc1⟩ := glr_one hgr
  have HC4 := Aside0.mk hc4
  have HC1 := Aside0.mk hc1
  have HB1 := Aside0.mk (below_step (below_alloc (Below.refl _ _) _) hb1)
  have HK := Aside0.mk (And.intro k1 k2)
  have HB2 : Aside0 (Below w.heap.size w (mkG w1 (.cells #[.int .i64 0, .int .i64 0, .slice none 0 0, .slice none 0 0] 43) cs)) := ⟨below_step HB1.out (mkG_below _ _ _)⟩
  have HBN : Aside0 ((mkG w1 (.cells #[.int .i64 0, .int .i64 0, .slice none 0 0, .slice none 0 0] 43) cs).heap[w1.heap.size]? = some (.cells cs 43 (0, 0))) := ⟨mkG_new _ _ _ _⟩
  have HQ : Aside0 (GlR (mkG w1 (.cells #[.int .i64 0, .int .i64 0, .slice none 0 0, .slice none 0 0] 43) cs) (.agg cs) r.1) := ⟨hgr.below (mkG_below _ _ _)⟩
  have HBO : Aside0 ((mkG w1 (.cells #[.int .i64 0, .int .i64 0, .slice none 0 0, .slice none 0 0] 43) cs).heap[w.heap.size]? = some (.cells #[.int .i64 g.1, .int .i64 g.2.1, vs, vt] 43 (0, 0))) := ⟨blk_below (blk_below (blk_new w _) hb1) (mkG_below _ _ _)⟩
  clear hgl hgr hb1 k1 k2 hc4 hc1
  by_cases he : r.2 = 0
  · rw [he]
    have hd : decide (r = (g, 0)) = decide (r.1 = g) := by
      by_cases hh : r.1 = g
      · rw [decide_eq_true hh, decide_eq_true]; exact Prod.ext hh he
      · rw [decide_eq_false hh, decide_eq_false]; intro h; exact hh (by rw [h])
    have t0 : decide ((0 : Int) = 0) = true := by decide
    have HA2 := Aside0.mk (hd.symm.trans HA.out)
    clear he hd HA
    go_wp2_with (first | (refine store_gl rfl _ _ rfl _ rfl #[.int .i64 0, .int .i64 0, .slice none 0 0, .slice none 0 0] cs rfl (blk_new _ _) rfl HC4.out HC1.out ?_) | (refine load_gl rfl _ rfl w1.heap.size rfl cs HC4.out HBN.out ?_) | (refine load_gl rfl _ rfl w.heap.size rfl #[.int .i64 g.1, .int .i64 g.2.1, vs, vt] rfl HBO.out ?_))
    refine (same_call HQ.out (HG.out _ HB2.out) (by have := HK.out.1; omega) (by have := HK.out.2; omega) HL.out.1 HL.out.2).mono ?_
    rintro e w2 ⟨rfl, hb2⟩
    rw [HA2.out]
    have HB3 := Aside0.mk (below_step HB2.out hb2)
    clear hb2
    go_wp2_with fail
    go_ret
    exact ⟨rfl, HB3.out⟩
  · have hd : decide (r = (g, 0)) = false := decide_eq_false (by intro h; exact he (by rw [h]))
    have t0 : (r.2 == 0) = false := by simpa using he
    have t1 : decide (r.2 = 0) = false := decide_eq_false he
    have HA2 := Aside0.mk (hd.symm.trans HA.out)
    clear hd HA
    go_wp2_with (first | (refine store_gl rfl _ _ rfl _ rfl #[.int .i64 0, .int .i64 0, .slice none 0 0, .slice none 0 0] cs rfl (blk_new _ _) rfl HC4.out HC1.out ?_) | (refine load_gl rfl _ rfl w1.heap.size rfl cs HC4.out HBN.out ?_) | (refine load_gl rfl _ rfl w.heap.size rfl #[.int .i64 g.1, .int .i64 g.2.1, vs, vt] rfl HBO.out ?_))
    go_ret
    exact ⟨by rw [← HA2.out]; rfl, HB2.out⟩
set_option maxHeartbeats 4000000 in
theorem fails_call {w : World} {sb : Value} {ss : List ByteArray} (h : StrsAt w sb ss) (hl : ss.length ≤ 1000000) (s : ByteArray) (x : Int) :
    Calls Try.prog 31 #[.string s, .int .i64 x, sb] w fun e w' => e = .returned (.bool (decide (runG (ss.map bytesOf) (bytesOf s) = (g0, x)))) ∧ Below w.heap.size w w' := by
  obtain ⟨A, c, rfl, hrow⟩ := h
  obtain ⟨r, hr⟩ : ∃ r, runG (ss.map bytesOf) (bytesOf s) = r := ⟨_, rfl⟩
  have HRUN : ∀ W, Below w.heap.size w W → Calls Try.prog 18 #[.slice A ss.length c, .string s] W (RanTo W r) := fun W hW => by
    rw [← hr]; exact run_prog (StrsAt.below ⟨A, c, rfl, hrow⟩ hW) hl s
  have HR := Aside0.mk HRUN
  rw [hr]
  have HG : Aside0 (∀ W, GlR W (.agg #[.int .i64 0, .int .i64 0, .slice none 0 0, .slice none 0 0]) g0) := ⟨fun W => GlR.of (glv_zero 0 W)⟩
  obtain ⟨ans, hans⟩ : ∃ ans, decide (r = (g0, x)) = ans := ⟨_, rfl⟩
  rw [hans]
  have HA := Aside0.mk hans
  clear hrow HRUN hr hl hans
  go_enter Try.func31, Try.ntmps31
  go_wp2_with fail
  refine (HR.out _ (Below.refl _ _)).mono ?_
  rintro e w1 ⟨v, rfl, hgl, hb1, k1, k2⟩
  obtain ⟨cs, rfl, hgr⟩ := glv_r hgl
  obtain ⟨hc4, hc1⟩ := glr_one hgr
  have HC4 := Aside0.mk hc4
  have HC1 := Aside0.mk hc1
  have HB1 := Aside0.mk (below_step (Below.refl _ _) hb1)
  have HK := Aside0.mk (And.intro k1 k2)
  have HB2 : Aside0 (Below w.heap.size w (mkG w1 (.cells #[.int .i64 0, .int .i64 0, .slice none 0 0, .slice none 0 0] 43) cs)) := ⟨below_step HB1.out (mkG_below _ _ _)⟩
  have HBN : Aside0 ((mkG w1 (.cells #[.int .i64 0, .int .i64 0, .slice none 0 0, .slice none 0 0] 43) cs).heap[w1.heap.size]? = some (.cells cs 43 (0, 0))) := ⟨mkG_new _ _ _ _⟩
  have HQ : Aside0 (GlR (mkG w1 (.cells #[.int .i64 0, .int .i64 0, .slice none 0 0, .slice none 0 0] 43) cs) (.agg cs) r.1) := ⟨hgr.below (mkG_below _ _ _)⟩
  clear hgl hgr hb1 k1 k2 hc4 hc1
  by_cases he : r.2 = x
  · rw [he]
    have hd : decide (r = (g0, x)) = decide (r.1 = g0) := by
      by_cases hh : r.1 = g0
      · rw [decide_eq_true hh, decide_eq_true]; exact Prod.ext hh he
      · rw [decide_eq_false hh, decide_eq_false]; intro h; exact hh (by rw [h])
    have t0 : decide (x = x) = true := decide_eq_true rfl
    have HA2 := Aside0.mk (hd.symm.trans HA.out)
    clear he hd HA
    go_wp2_with (first | (refine store_gl rfl _ _ rfl _ rfl #[.int .i64 0, .int .i64 0, .slice none 0 0, .slice none 0 0] cs rfl (blk_new _ _) rfl HC4.out HC1.out ?_) | (refine load_gl rfl _ rfl w1.heap.size rfl cs HC4.out HBN.out ?_) | (refine build_g0 rfl rfl ?_))
    refine (same_call HQ.out (HG.out _) (by have := HK.out.1; omega) (by have := HK.out.2; omega) (Nat.zero_le _) (Nat.zero_le _)).mono ?_
    rintro e w2 ⟨rfl, hb2⟩
    rw [HA2.out]
    have HB3 := Aside0.mk (below_step HB2.out hb2)
    clear hb2
    go_wp2_with fail
    go_ret
    exact ⟨rfl, HB3.out⟩
  · have hd : decide (r = (g0, x)) = false := decide_eq_false (by intro h; exact he (by rw [h]))
    have t0 : (r.2 == x) = false := by simpa using he
    have t1 : decide (r.2 = x) = false := decide_eq_false he
    have HA2 := Aside0.mk (hd.symm.trans HA.out)
    clear hd HA
    go_wp2_with (first | (refine store_gl rfl _ _ rfl _ rfl #[.int .i64 0, .int .i64 0, .slice none 0 0, .slice none 0 0] cs rfl (blk_new _ _) rfl HC4.out HC1.out ?_) | (refine load_gl rfl _ rfl w1.heap.size rfl cs HC4.out HBN.out ?_) | (refine build_g0 rfl rfl ?_))
    go_ret
    exact ⟨by rw [← HA2.out]; rfl, HB2.out⟩
end Go.Proofs.Ytimnohaalccdkaa.D33
