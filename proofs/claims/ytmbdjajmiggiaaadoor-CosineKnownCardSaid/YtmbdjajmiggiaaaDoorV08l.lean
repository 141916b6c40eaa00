/- CosineLinear walked (chapter 08). -/
import Derived.Test.YtmbdjajmiggiaaaDoorV08
import Derived.Test.YtmbdjajmiggiaaaDoorP08
namespace Go.Proofs.YtmbdjajmiggiaaaDoor.V08l
open Go.Proofs.YtmbdjajmiggiaaaDoor.K08 Go.Proofs.YtmbdjajmiggiaaaDoor.G08 Go.Proofs.YtmbdjajmiggiaaaDoor.G08f Go.Proofs.YtmbdjajmiggiaaaDoor.Z08 Go.Proofs.YtmbdjajmiggiaaaDoor.O08 Go.Proofs.YtmbdjajmiggiaaaDoor.L08 Go.Proofs.YtmbdjajmiggiaaaDoor.W08 Go.Proofs.YtmbdjajmiggiaaaDoor.P08 Go.Proofs.YtmbdjajmiggiaaaDoor.V08
open Go.RowKit Go.Proofs.YtmbdjajmiggiaaaDoorW.PrintWords Go.Proofs.YtmbdjajmiggiaaaDoorW.PrintLast Go.Proofs.YtmbdjajmiggiaaaDoorW.PrintMore
set_option linter.unusedVariables false
set_option linter.unusedSimpArgs false
set_option maxRecDepth 100000
section
variable {ops : Array Oper} {o : Oper} {a : Act} {w : World} {K : Act → World → Prop} {Q : Exit → Act → World → Prop} {N : Option Tmp}
/-- A step of a region that draws: an array is loaded. -/
theorem st_load (hw : Region.wanted o (yielded ops a.tmps) = true) (x : Operand) (ho : o.op = .load 22 x) (g : Nat) (hx : a.eval x = .pointer (some ⟨g, 0, none⟩)) (b : List Int) (hb : b.length = 64) (hg : Blk w g b)
    (h : K (a.put o.dst (ar b)) w) : if Region.wanted o (yielded ops a.tmps) = true then Oper.wp Tryd.prog o a w K Q else K (a.put o.dst undef) w := by
  rw [if_pos hw]
  exact wp_load_row 22 x ho g hx 22 (nums .i64 b).toArray (0, 0) _ hg Tryd.underlying22 rfl (info22.trans (by simp [nums_length, hb])) h
/-- A step of a region that draws: an array is stored. -/
theorem st_store (hw : Region.wanted o (yielded ops a.tmps) = true) (x y : Operand) (ho : o.op = .store 22 x y) (g : Nat) (hx : a.eval x = .pointer (some ⟨g, 0, none⟩)) (old l : List Int) (hy : a.eval y = ar l) (hold : Blk w g old) (ho2 : old.length = 64) (hl : l.length = 64)
    (h : K (a.put o.dst undef) (w.setRow g (nums .i64 l).toArray)) : if Region.wanted o (yielded ops a.tmps) = true then Oper.wp Tryd.prog o a w K Q else K (a.put o.dst undef) w := by
  rw [if_pos hw]
  exact wp_store_row 22 x y ho g (nums .i64 l).toArray hx hy 22 (nums .i64 old).toArray hold (info22.trans (by simp [nums_length, hl])) (by simp [nums_length, hl, ho2]) (nums_one l) h
end
theorem getD_set_self (l : List Int) (k : Nat) (x : Int) (h : k < l.length) : (l.set k x).getD k 0 = x := by simp [List.getD, h]
theorem tdiv2_bd (x : Int) (m : Int) (h : -(2 * m) ≤ x ∧ x ≤ 2 * m) : -m ≤ x.tdiv 2 ∧ x.tdiv 2 ≤ m := by
  by_cases h0 : 0 ≤ x
  · rw [Int.tdiv_eq_ediv_of_nonneg h0]; omega
  · have e : x.tdiv 2 = -((-x).tdiv 2) := by rw [Int.neg_tdiv, Int.neg_neg]
    rw [e, Int.tdiv_eq_ediv_of_nonneg (by omega : 0 ≤ -x)]; omega
theorem setRow_far {w : World} {g k : Nat} {l : List Int} (h : Blk w g l) (hne : g ≠ k) (cs : Array Value) : Blk (w.setRow k cs) g l := (heap_setRow_far w k g cs hne).trans h
/-- The first k of l, then the rest of x. -/
def mix (l x : List Int) (k : Nat) : List Int := l.take k ++ x.drop k
theorem mix_len (l x : List Int) (k : Nat) (h : l.length = x.length) : (mix l x k).length = x.length := by unfold mix; simp; omega
theorem mix_zero (l x : List Int) : mix l x 0 = x := by simp [mix]
theorem mix_all (l x : List Int) (k : Nat) (h : l.length ≤ k) (h2 : x.length ≤ k) : mix l x k = l := by unfold mix; rw [List.take_of_length_le h, List.drop_of_length_le h2, List.append_nil]
theorem mix_get (l x : List Int) (k : Nat) (h : k < x.length) (h2 : l.length = x.length) : (mix l x k).getD k 0 = x.getD k 0 := by
  unfold mix
  rw [List.getD_eq_getElem?_getD, List.getElem?_append_right (by simp; omega), List.getD_eq_getElem?_getD]
  simp [Nat.min_eq_left (show k ≤ l.length by omega)]
theorem mix_set (l x : List Int) (k : Nat) (h : k < x.length) (h2 : l.length = x.length) : (mix l x k).set k (l.getD k 0) = mix l x (k + 1) := by
  have hk : k < l.length := by omega
  have e : l.getD k 0 = l[k] := by rw [List.getD_eq_getElem?_getD, List.getElem?_eq_getElem hk]; rfl
  rw [e]
  unfold mix
  have e2 : k - (l.take k).length = 0 := by simp; omega
  rw [List.set_append_right _ _ (by simp; omega), e2, List.take_succ_eq_append_getElem hk, List.append_assoc]
  congr 1
  conv => lhs; rw [List.drop_eq_getElem_cons h, List.set_cons_zero]
  rfl
def halfL (a : List Int) : List Int := a.map fun x => x.tdiv 2
def addL (a b : List Int) : List Int := (List.range 64).map fun k => a.getD k 0 + b.getD k 0
theorem halfL_len (a : List Int) : (halfL a).length = a.length := by simp [halfL]
theorem halfL_get (a : List Int) (k : Nat) (h : k < a.length) : (halfL a).getD k 0 = (a.getD k 0).tdiv 2 := by
  simp [halfL, List.getD, h]
theorem addL_get (a b : List Int) (k : Nat) (h : k < 64) : (addL a b).getD k 0 = a.getD k 0 + b.getD k 0 := by
  simp [addL, List.getD, h]
theorem addL_len (a b : List Int) : (addL a b).length = 64 := by simp [addL]
theorem wthn_mono {m n : Int} (h : m ≤ n) {l : List Int} (hl : wthn m l = true) : wthn n l = true := by
  unfold wthn at *
  rw [List.all_eq_true] at *
  intro x hx
  have := hl x hx
  simp only [decide_eq_true_eq] at *
  omega
theorem half_in (A : List Int) (hA : A.length = 64) (h : wthn 1048576 A = true) : wthn 524288 (halfL A) = true := wthn_yes fun k hk => by
  rw [halfL_len] at hk
  rw [halfL_get A k hk]
  exact tdiv2_bd _ 524288 (getD_all (G08f.wthn_bd h) k hk)
theorem add_in (A B : List Int) (hA : A.length = 64) (hB : B.length = 64) (h1 : wthn 524288 A = true) (h2 : wthn 524288 B = true) : wthn 1048576 (addL A B) = true := wthn_yes fun k hk => by
  rw [addL_len] at hk
  rw [addL_get A B k hk]
  have e1 := getD_all (G08f.wthn_bd h1) k (by omega)
  have e2 := getD_all (G08f.wthn_bd h2) k (by omega)
  omega
/-- The transform of a sum is the sum of the transforms. -/
theorem fwd_addL (A B : List Int) (hA : A.length = 64) (hB : B.length = 64) : addL (fwdL A) (fwdL B) = fwdL (addL A B) := by
  apply List.ext_getElem
  · rw [addL_len, fwdL_len]
  · intro k h1 h2
    have hk : k < 64 := by rw [addL_len] at h1; exact h1
    have e : (addL (fwdL A) (fwdL B)).getD k 0 = (fwdL (addL A B)).getD k 0 := by
      rw [addL_get _ _ k hk, fwdL_eq, fwdL_eq, fwdL_eq, blk8_get _ _ hk, blk8_get _ _ hk, blk8_get _ _ hk, outF_eq _ _ _ (by omega) (by omega), outF_eq _ _ _ (by omega) (by omega), outF_eq _ _ _ (by omega) (by omega), ← fwd_add]
      exact fwd_congr (fun j hj => (addL_get A B j hj).symm) _ _
    rw [List.getD_eq_getElem?_getD, List.getElem?_eq_getElem h1, List.getD_eq_getElem?_getD, List.getElem?_eq_getElem h2] at e
    exact e
set_option maxHeartbeats 8000000 in
theorem linear_walk (b : List Int) (hb : b.length = 64) (hwf : ∀ x ∈ b, (Lit.int .i64 x).wf = true) (c : List Int) (hc : c.length = 64) (hwf2 : ∀ x ∈ c, (Lit.int .i64 x).wf = true) (w : World) (hm : Mat w) :
    Calls Tryd.prog 10 #[ar b, ar c] w fun e w' => e = .returned (.bool true) ∧ Below w.heap.size w w' := by
  have HL := Aside0.mk hb
  have HL2 := Aside0.mk hc
  have HM := Aside0.mk hm
  clear hb hm hc hwf hwf2
  unfold ar
  go_enter Tryd.func10, Tryd.ntmps10
  go_wp2_with fail
  refine (works_call _ (HM.out.below (below_alloc (below_alloc (Below.refl _ _) _) _))).mono ?_
  rintro e w1 ⟨rfl, hb1⟩
  have HB1 := Aside0.mk (below_step (below_alloc (below_alloc (Below.refl _ w) (.cells (nums .i64 b).toArray 22)) (.cells (nums .i64 c).toArray 22)) hb1)
  have HX1 := Aside0.mk (Blk.below (blk_alloc (Blk.new w b) (.cells (nums .i64 c).toArray 22)) hb1)
  have HY1 : Aside0 (Blk w1 (w.heap.size + 1) c) := ⟨by
    have := (Blk.new (w.alloc (.cells (nums .i64 b).toArray 22)) c).below hb1
    simpa using this⟩
  clear hb1
  go_wp2_with fail
  go_cut [] (fun wc => Aside0 (Below w.heap.size w wc) ∧ Aside0 (Blk wc w.heap.size (madeL b)) ∧ Aside0 (Blk wc (w.heap.size + 1) (madeL c)))
  case first =>
    refine wp_region_any (by kernel_rfl) ?_
    change wpAny _ _ _ _ _ _ _ (World.drew _)
    have HB2 : Aside0 (Below w.heap.size w w1.drew) := ⟨HB1.out.drew⟩
    have HX2 : Aside0 (Blk w1.drew w.heap.size b) := ⟨HX1.out⟩
    have HY2 : Aside0 (Blk w1.drew (w.heap.size + 1) c) := ⟨HY1.out⟩
    refine wpAny_ready (rs := [0, 2]) (by kernel_rfl) (by simp) ?_
    refine AllReady.cons rfl (fun K hK => ?_) (AllReady.cons rfl (fun K hK => ?_) AllReady.nil)
    · refine st_load rfl (.tmp 2) rfl w.heap.size rfl b HL.out HX2.out ?_
      try go_simp
      refine hK _ _ ?_
      clear hK
      refine wpAny_ready (rs := [1, 2]) (by kernel_rfl) (by simp) ?_
      refine AllReady.cons rfl (fun K hK => ?_) (AllReady.cons rfl (fun K hK => ?_) AllReady.nil)
      · refine goes_ Tryd.func27 (by kernel_rfl) rfl #[ar b] (by rfl) rfl rfl (by simp only [List.map_toArray, List.map_cons, List.map_nil]; rfl) ?_
        refine (made_call b HL.out _).mono ?_
        rintro e p1 ⟨rfl, hb1⟩
        have PB1 := Aside0.mk (below_step HB2.out hb1)
        have PX1 := Aside0.mk (HX2.out.below hb1)
        have PY1 := Aside0.mk (HY2.out.below hb1)
        clear hb1
        refine ⟨_, rfl, ?_⟩
        try go_simp
        refine hK _ _ ?_
        clear hK
        refine wpAny_ready (rs := [2]) (by kernel_rfl) (by simp) ?_
        refine AllReady.cons rfl (fun K hK => ?_) AllReady.nil
        refine st_load rfl (.tmp 3) rfl (w.heap.size + 1) rfl c HL2.out PY1.out ?_
        try go_simp
        refine hK _ _ ?_
        clear hK
        refine wpAny_ready (rs := [3]) (by kernel_rfl) (by simp) ?_
        refine AllReady.cons rfl (fun K hK => ?_) AllReady.nil
        refine goes_ Tryd.func27 (by kernel_rfl) rfl #[ar c] (by rfl) rfl rfl (by simp only [List.map_toArray, List.map_cons, List.map_nil]; rfl) ?_
        refine (made_call c HL2.out _).mono ?_
        rintro e p2 ⟨rfl, hb2⟩
        have PB2 := Aside0.mk (below_step PB1.out hb2)
        have PX2 := Aside0.mk (PX1.out.below hb2)
        have PY2 := Aside0.mk (PY1.out.below hb2)
        clear hb2
        refine ⟨_, rfl, ?_⟩
        try go_simp
        refine hK _ _ ?_
        clear hK
        refine wpAny_ready (rs := [4]) (by kernel_rfl) (by simp) ?_
        refine AllReady.cons rfl (fun K hK => ?_) AllReady.nil
        have PB3 := Aside0.mk (G08.below_setRow PB2.out (Nat.le_refl _) (nums .i64 (madeL b)).toArray)
        have PX3 := Aside0.mk (Blk.setRow PX2.out (madeL b))
        have PY3 := Aside0.mk (setRow_far (k := w.heap.size) PY2.out (by omega) (nums .i64 (madeL b)).toArray)
        refine st_store rfl (.tmp 2) (.tmp 17) rfl w.heap.size rfl b (madeL b) rfl PX2.out HL.out (by rw [madeL_len]; exact HL.out) ?_
        try go_simp
        refine hK _ _ ?_
        clear hK
        refine wpAny_ready (rs := [5]) (by kernel_rfl) (by simp) ?_
        refine AllReady.cons rfl (fun K hK => ?_) AllReady.nil
        have PB4 := Aside0.mk (G08.below_setRow PB3.out (by omega : w.heap.size ≤ w.heap.size + 1) (nums .i64 (madeL c)).toArray)
        have PY4 := Aside0.mk (Blk.setRow PY3.out (madeL c))
        have PX4 := Aside0.mk (setRow_far (k := w.heap.size + 1) PX3.out (by omega) (nums .i64 (madeL c)).toArray)
        refine st_store rfl (.tmp 3) (.tmp 19) rfl (w.heap.size + 1) rfl c (madeL c) rfl PY3.out HL2.out (by rw [madeL_len]; exact HL2.out) ?_
        try go_simp
        refine hK _ _ ?_
        clear hK
        refine wpAny_done (by kernel_rfl) ?_ _
        go_wp2_with fail
        go_meet
        exact ⟨PB4, PX4, PY4⟩
      · refine st_load rfl (.tmp 3) rfl (w.heap.size + 1) rfl c HL2.out HY2.out ?_
        try go_simp
        refine hK _ _ ?_
        clear hK
        refine wpAny_ready (rs := [1]) (by kernel_rfl) (by simp) ?_
        refine AllReady.cons rfl (fun K hK => ?_) AllReady.nil
        refine goes_ Tryd.func27 (by kernel_rfl) rfl #[ar b] (by rfl) rfl rfl (by simp only [List.map_toArray, List.map_cons, List.map_nil]; rfl) ?_
        refine (made_call b HL.out _).mono ?_
        rintro e p1 ⟨rfl, hb1⟩
        have PB1 := Aside0.mk (below_step HB2.out hb1)
        have PX1 := Aside0.mk (HX2.out.below hb1)
        have PY1 := Aside0.mk (HY2.out.below hb1)
        clear hb1
        refine ⟨_, rfl, ?_⟩
        try go_simp
        refine hK _ _ ?_
        clear hK
        refine wpAny_ready (rs := [3]) (by kernel_rfl) (by simp) ?_
        refine AllReady.cons rfl (fun K hK => ?_) AllReady.nil
        refine goes_ Tryd.func27 (by kernel_rfl) rfl #[ar c] (by rfl) rfl rfl (by simp only [List.map_toArray, List.map_cons, List.map_nil]; rfl) ?_
        refine (made_call c HL2.out _).mono ?_
        rintro e p2 ⟨rfl, hb2⟩
        have PB2 := Aside0.mk (below_step PB1.out hb2)
        have PX2 := Aside0.mk (PX1.out.below hb2)
        have PY2 := Aside0.mk (PY1.out.below hb2)
        clear hb2
        refine ⟨_, rfl, ?_⟩
        try go_simp
        refine hK _ _ ?_
        clear hK
        refine wpAny_ready (rs := [4]) (by kernel_rfl) (by simp) ?_
        refine AllReady.cons rfl (fun K hK => ?_) AllReady.nil
        have PB3 := Aside0.mk (G08.below_setRow PB2.out (Nat.le_refl _) (nums .i64 (madeL b)).toArray)
        have PX3 := Aside0.mk (Blk.setRow PX2.out (madeL b))
        have PY3 := Aside0.mk (setRow_far (k := w.heap.size) PY2.out (by omega) (nums .i64 (madeL b)).toArray)
        refine st_store rfl (.tmp 2) (.tmp 17) rfl w.heap.size rfl b (madeL b) rfl PX2.out HL.out (by rw [madeL_len]; exact HL.out) ?_
        try go_simp
        refine hK _ _ ?_
        clear hK
        refine wpAny_ready (rs := [5]) (by kernel_rfl) (by simp) ?_
        refine AllReady.cons rfl (fun K hK => ?_) AllReady.nil
        have PB4 := Aside0.mk (G08.below_setRow PB3.out (by omega : w.heap.size ≤ w.heap.size + 1) (nums .i64 (madeL c)).toArray)
        have PY4 := Aside0.mk (Blk.setRow PY3.out (madeL c))
        have PX4 := Aside0.mk (setRow_far (k := w.heap.size + 1) PX3.out (by omega) (nums .i64 (madeL c)).toArray)
        refine st_store rfl (.tmp 3) (.tmp 19) rfl (w.heap.size + 1) rfl c (madeL c) rfl PY3.out HL2.out (by rw [madeL_len]; exact HL2.out) ?_
        try go_simp
        refine hK _ _ ?_
        clear hK
        refine wpAny_done (by kernel_rfl) ?_ _
        go_wp2_with fail
        go_meet
        exact ⟨PB4, PX4, PY4⟩
    · refine st_load rfl (.tmp 3) rfl (w.heap.size + 1) rfl c HL2.out HY2.out ?_
      try go_simp
      refine hK _ _ ?_
      clear hK
      refine wpAny_ready (rs := [0]) (by kernel_rfl) (by simp) ?_
      refine AllReady.cons rfl (fun K hK => ?_) AllReady.nil
      refine st_load rfl (.tmp 2) rfl w.heap.size rfl b HL.out HX2.out ?_
      try go_simp
      refine hK _ _ ?_
      clear hK
      refine wpAny_ready (rs := [1]) (by kernel_rfl) (by simp) ?_
      refine AllReady.cons rfl (fun K hK => ?_) AllReady.nil
      refine goes_ Tryd.func27 (by kernel_rfl) rfl #[ar b] (by rfl) rfl rfl (by simp only [List.map_toArray, List.map_cons, List.map_nil]; rfl) ?_
      refine (made_call b HL.out _).mono ?_
      rintro e p1 ⟨rfl, hb1⟩
      have PB1 := Aside0.mk (below_step HB2.out hb1)
      have PX1 := Aside0.mk (HX2.out.below hb1)
      have PY1 := Aside0.mk (HY2.out.below hb1)
      clear hb1
      refine ⟨_, rfl, ?_⟩
      try go_simp
      refine hK _ _ ?_
      clear hK
      refine wpAny_ready (rs := [3]) (by kernel_rfl) (by simp) ?_
      refine AllReady.cons rfl (fun K hK => ?_) AllReady.nil
      refine goes_ Tryd.func27 (by kernel_rfl) rfl #[ar c] (by rfl) rfl rfl (by simp only [List.map_toArray, List.map_cons, List.map_nil]; rfl) ?_
      refine (made_call c HL2.out _).mono ?_
      rintro e p2 ⟨rfl, hb2⟩
      have PB2 := Aside0.mk (below_step PB1.out hb2)
      have PX2 := Aside0.mk (PX1.out.below hb2)
      have PY2 := Aside0.mk (PY1.out.below hb2)
      clear hb2
      refine ⟨_, rfl, ?_⟩
      try go_simp
      refine hK _ _ ?_
      clear hK
      refine wpAny_ready (rs := [4]) (by kernel_rfl) (by simp) ?_
      refine AllReady.cons rfl (fun K hK => ?_) AllReady.nil
      have PB3 := Aside0.mk (G08.below_setRow PB2.out (Nat.le_refl _) (nums .i64 (madeL b)).toArray)
      have PX3 := Aside0.mk (Blk.setRow PX2.out (madeL b))
      have PY3 := Aside0.mk (setRow_far (k := w.heap.size) PY2.out (by omega) (nums .i64 (madeL b)).toArray)
      refine st_store rfl (.tmp 2) (.tmp 17) rfl w.heap.size rfl b (madeL b) rfl PX2.out HL.out (by rw [madeL_len]; exact HL.out) ?_
      try go_simp
      refine hK _ _ ?_
      clear hK
      refine wpAny_ready (rs := [5]) (by kernel_rfl) (by simp) ?_
      refine AllReady.cons rfl (fun K hK => ?_) AllReady.nil
      have PB4 := Aside0.mk (G08.below_setRow PB3.out (by omega : w.heap.size ≤ w.heap.size + 1) (nums .i64 (madeL c)).toArray)
      have PY4 := Aside0.mk (Blk.setRow PY3.out (madeL c))
      have PX4 := Aside0.mk (setRow_far (k := w.heap.size + 1) PX3.out (by omega) (nums .i64 (madeL c)).toArray)
      refine st_store rfl (.tmp 3) (.tmp 19) rfl (w.heap.size + 1) rfl c (madeL c) rfl PY3.out HL2.out (by rw [madeL_len]; exact HL2.out) ?_
      try go_simp
      refine hK _ _ ?_
      clear hK
      refine wpAny_done (by kernel_rfl) ?_ _
      go_wp2_with fail
      go_meet
      exact ⟨PB4, PX4, PY4⟩
  case rest =>
    obtain ⟨HB, HX, HY⟩ := hcut
    clear HB1 HX1 HY1
    obtain ⟨A, hA⟩ : ∃ A, madeL b = A := ⟨_, rfl⟩
    obtain ⟨B, hB⟩ : ∃ B, madeL c = B := ⟨_, rfl⟩
    have HAL : Aside0 (A.length = 64) := ⟨by rw [← hA, madeL_len]; exact HL.out⟩
    have HBL : Aside0 (B.length = 64) := ⟨by rw [← hB, madeL_len]; exact HL2.out⟩
    have HAI : Aside0 (wthn 1048576 A = true) := ⟨by rw [← hA]; exact madeL_in b⟩
    have HBI : Aside0 (wthn 1048576 B = true) := ⟨by rw [← hB]; exact madeL_in c⟩
    rw [hA] at HX
    rw [hB] at HY
    clear hA hB
    have hlt1 : w.heap.size + 1 < wc.heap.size := HY.out.lt
    go_wp2_with (refine alloc_ar rfl rfl ?_)
    go_loopw [20] (fun v20 wr => ∃ k : Nat, v20 = .int .i64 k ∧ k ≤ 64 ∧ Aside0 (Below w.heap.size w wr) ∧ Aside0 (Blk wr w.heap.size (mix (halfL A) A k)) ∧ Aside0 (Blk wr (w.heap.size + 1) (mix (halfL B) B k)) ∧ Aside0 (Blk wr wc.heap.size (mix (addL (halfL A) (halfL B)) z64 k))) (fun v20 _ => 64 - (intOf v20).toNat)
    case atStart =>
      refine ⟨0, rfl, by omega, ⟨below_alloc HB.out _⟩, ⟨by rw [mix_zero]; exact blk_alloc HX.out _⟩, ⟨by rw [mix_zero]; exact blk_alloc HY.out _⟩, ⟨by rw [mix_zero]; exact Blk.new _ _⟩⟩
    case round =>
      obtain ⟨k, rfl, hk, HBr, HXr, HYr, HZr⟩ := hrel
      by_cases hlt : k < 64
      · have t : decide ((k : Int) < 64) = true := decide_eq_true (by omega)
        have c1 := HXr.out.cell k (by rw [mix_len _ _ _ (halfL_len A), HAL.out]; exact hlt)
        rw [mix_get _ _ _ (by rw [HAL.out]; exact hlt) (halfL_len A)] at c1
        have c2 := HYr.out.cell k (by rw [mix_len _ _ _ (halfL_len B), HBL.out]; exact hlt)
        rw [mix_get _ _ _ (by rw [HBL.out]; exact hlt) (halfL_len B)] at c2
        have hs1 := mix_set (halfL A) A k (by rw [HAL.out]; exact hlt) (halfL_len A)
        have hs2 := mix_set (halfL B) B k (by rw [HBL.out]; exact hlt) (halfL_len B)
        have hs3 := mix_set (addL (halfL A) (halfL B)) z64 k hlt (addL_len _ _)
        rw [halfL_get A k (by rw [HAL.out]; exact hlt)] at hs1
        rw [halfL_get B k (by rw [HBL.out]; exact hlt)] at hs2
        rw [addL_get _ _ k hlt, halfL_get A k (by rw [HAL.out]; exact hlt), halfL_get B k (by rw [HBL.out]; exact hlt)] at hs3
        obtain ⟨x, hx⟩ : ∃ x, A.getD k 0 = x := ⟨_, rfl⟩
        obtain ⟨y, hy⟩ : ∃ y, B.getD k 0 = y := ⟨_, rfl⟩
        have bx : -1048576 ≤ x ∧ x ≤ 1048576 := by rw [← hx]; exact getD_all (G08f.wthn_bd HAI.out) k (by rw [HAL.out]; exact hlt)
        have by' : -1048576 ≤ y ∧ y ≤ 1048576 := by rw [← hy]; exact getD_all (G08f.wthn_bd HBI.out) k (by rw [HBL.out]; exact hlt)
        rw [hx] at c1 hs1 hs3
        rw [hy] at c2 hs2 hs3
        have HS1 := Aside0.mk hs1
        have HS2 := Aside0.mk hs2
        have HS3 := Aside0.mk hs3
        have f1 : wr.frozen? ⟨w.heap.size, k, none⟩ = false := blk_frozen HXr.out k
        have f2 : wr.frozen? ⟨w.heap.size + 1, k, none⟩ = false := blk_frozen HYr.out k
        have f3 : wr.frozen? ⟨wc.heap.size, k, none⟩ = false := blk_frozen HZr.out k
        clear hs1 hs2 hs3 hx hy
        go_wp2_with fail
        have HXw := Aside0.mk ((HXr.out.set k (x.tdiv 2)).far (b := w.heap.size + 1) (by omega) k (.int .i64 (y.tdiv 2)))
        have HYw := Aside0.mk ((HYr.out.far (b := w.heap.size) (by omega) k (.int .i64 (x.tdiv 2))).set k (y.tdiv 2))
        have HZw := Aside0.mk ((HZr.out.far (b := w.heap.size) (by omega) k (.int .i64 (x.tdiv 2))).far (b := w.heap.size + 1) (by omega) k (.int .i64 (y.tdiv 2)))
        have HBw := Aside0.mk (below_set (j := k) (v := .int .i64 (y.tdiv 2)) (below_set (j := k) (v := .int .i64 (x.tdiv 2)) HBr.out (Nat.le_refl _)) (show w.heap.size ≤ w.heap.size + 1 by omega))
        rw [HS1.out] at HXw
        rw [HS2.out] at HYw
        clear HBr HXr HYr HZr c1 c2 f1 f2 f3
        generalize (wr.setCell { block := w.heap.size, off := k } (Value.int IntKind.i64 (x.tdiv 2))).setCell { block := w.heap.size + 1, off := k } (Value.int IntKind.i64 (y.tdiv 2)) = wb at HXw HYw HZw HBw ⊢
        have c1 := HXw.out.cell k (by rw [mix_len _ _ _ (halfL_len A), HAL.out]; exact hlt)
        have e1 : (mix (halfL A) A (k + 1)).getD k 0 = x.tdiv 2 := by rw [← HS1.out, getD_set_self _ _ _ (by rw [mix_len _ _ _ (halfL_len A), HAL.out]; exact hlt)]
        have c2 := HYw.out.cell k (by rw [mix_len _ _ _ (halfL_len B), HBL.out]; exact hlt)
        have e2 : (mix (halfL B) B (k + 1)).getD k 0 = y.tdiv 2 := by rw [← HS2.out, getD_set_self _ _ _ (by rw [mix_len _ _ _ (halfL_len B), HBL.out]; exact hlt)]
        rw [e1] at c1
        rw [e2] at c2
        clear e1 e2
        have f3 : wb.frozen? ⟨wc.heap.size, k, none⟩ = false := blk_frozen HZw.out k
        have c3 := HZw.out.cell k (by rw [mix_len _ _ _ (addL_len _ _)]; exact hlt)
        generalize (mix (addL (halfL A) (halfL B)) z64 k).getD k 0 = z0 at c3
        have tx := tdiv2_bd x 524288 (by omega)
        have ty := tdiv2_bd y 524288 (by omega)
        have k3 : (0 : Int) ≤ (k : Int) := by omega
        have k4 : (k : Int) < 64 := by omega
        have ks : IntKind.i64.wrap (x.tdiv 2 + y.tdiv 2) = x.tdiv 2 + y.tdiv 2 := IntWalk.i64_in _ (by omega)
        have KA : Aside0 (∀ v, (wb.setCell ⟨wc.heap.size, k, none⟩ v).drew.cell? ⟨w.heap.size, k, none⟩ = some (.int .i64 (x.tdiv 2))) := ⟨fun v => (cell_far (w := wb) (by simp; omega) v).trans c1⟩
        have KB : Aside0 (∀ v, (wb.setCell ⟨wc.heap.size, k, none⟩ v).drew.cell? ⟨w.heap.size + 1, k, none⟩ = some (.int .i64 (y.tdiv 2))) := ⟨fun v => (cell_far (w := wb) (by simp; omega) v).trans c2⟩
        go_region_held3 (fun w' => w'.cell? ⟨w.heap.size, k, none⟩ = some (.int .i64 (x.tdiv 2)) ∧ w'.cell? ⟨w.heap.size + 1, k, none⟩ = some (.int .i64 (y.tdiv 2))) (first | exact ⟨KA.out _, KB.out _⟩ | go_keep) (first | fail)
        go_wp2_with fail
        go_roundw
        case measure => simp [intOf]; omega
        case rel =>
          have HZz := HZw.out.set k (x.tdiv 2 + y.tdiv 2)
          rw [HS3.out] at HZz
          exact ⟨k + 1, by go_num, by omega, ⟨(below_set HBw.out (by omega)).drew⟩, ⟨HXw.out.far (by omega) k _⟩, ⟨HYw.out.far (by omega) k _⟩, ⟨HZz⟩⟩
      · obtain rfl : k = 64 := by omega
        have t : decide (((64 : Nat) : Int) < 64) = false := by decide
        rw [mix_all _ _ _ (by rw [halfL_len, HAL.out]; omega) (by rw [HAL.out]; omega)] at HXr
        rw [mix_all _ _ _ (by rw [halfL_len, HBL.out]; omega) (by rw [HBL.out]; omega)] at HYr
        rw [mix_all _ _ _ (by rw [addL_len]; omega) (by decide)] at HZr
        have hin1 := half_in A HAL.out HAI.out
        have hin2 := half_in B HBL.out HBI.out
        have hin3 := add_in _ _ (by rw [halfL_len]; exact HAL.out) (by rw [halfL_len]; exact HBL.out) hin1 hin2
        have HC := Aside0.mk (fwd_addL _ _ (by rw [halfL_len]; exact HAL.out) (by rw [halfL_len]; exact HBL.out))
        have hal : (halfL A).length = 64 := by rw [halfL_len]; exact HAL.out
        have hbl : (halfL B).length = 64 := by rw [halfL_len]; exact HBL.out
        have hcl := addL_len (halfL A) (halfL B)
        generalize addL (halfL A) (halfL B) = C at HZr hin3 HC hcl
        generalize halfL A = A2 at HXr hin1 hin3 HC hal
        generalize halfL B = B2 at HYr hin2 hin3 HC hbl
        have hF1 := fwd_in A2 hal (wthn_mono (by omega) hin1)
        have hF2 := fwd_in B2 hbl (wthn_mono (by omega) hin2)
        have hF3 := fwd_in C hcl hin3
        have HI1 := Aside0.mk (wthn_mono (show (524288 : Int) ≤ 1048576 by omega) hin1)
        have HI2 := Aside0.mk (wthn_mono (show (524288 : Int) ≤ 1048576 by omega) hin2)
        have HI3 := Aside0.mk hin3
        have HF3 := Aside0.mk hF3
        have HA2 := Aside0.mk hal
        have HB2 := Aside0.mk hbl
        have HC2 := Aside0.mk hcl
        clear hin1 hin2 hin3 hF1 hF2 hF3 hal hbl hcl HAI HBI HAL HBL HX HY HB
        go_wp2_with (first | (refine load_ar rfl _ rfl _ rfl A2 HA2.out HXr.out ?_))
        refine (forward_call A2 HA2.out _ (HM.out.below HBr.out) HI1.out).mono ?_
        rintro e w6 ⟨rfl, hb6⟩
        have HB6 := Aside0.mk (mk_below (below_step HBr.out hb6) (fwdL A2))
        have HY6 := Aside0.mk (mk_old (HYr.out.below hb6) (fwdL A2))
        have HZ6 := Aside0.mk (mk_old (HZr.out.below hb6) (fwdL A2))
        have HP6 := Aside0.mk (mk_new w6 (fwdL A2))
        have hs6 : wc.heap.size < w6.heap.size := Nat.lt_of_lt_of_le HZr.out.lt hb6.size
        clear hb6 HBr HXr HYr HZr
        go_wp2_with (first
          | (refine alloc_ar rfl rfl ?_)
          | (refine store_ar rfl _ _ rfl _ rfl z64 (fwdL A2) rfl (blk_new _ _) rfl (fwdL_len _) ?_)
          | (refine load_ar rfl _ rfl _ rfl B2 HB2.out HY6.out ?_))
        refine (forward_call B2 HB2.out _ (HM.out.below HB6.out) HI2.out).mono ?_
        rintro e w7 ⟨rfl, hb7⟩
        have HB7 := Aside0.mk (mk_below (below_step HB6.out hb7) (fwdL B2))
        have HZ7 := Aside0.mk (mk_old (HZ6.out.below hb7) (fwdL B2))
        have HP7 := Aside0.mk (mk_old (HP6.out.below hb7) (fwdL B2))
        have HQ7 := Aside0.mk (mk_new w7 (fwdL B2))
        have hs7 : w6.heap.size < w7.heap.size := by have := HP6.out.below hb7; exact this.lt
        clear hb7 HB6 HY6 HZ6 HP6
        go_wp2_with (first
          | (refine alloc_ar rfl rfl ?_)
          | (refine store_ar rfl _ _ rfl _ rfl z64 (fwdL B2) rfl (blk_new _ _) rfl (fwdL_len _) ?_)
          | (refine load_ar rfl _ rfl _ rfl C HC2.out HZ7.out ?_))
        refine (forward_call C HC2.out _ (HM.out.below HB7.out) HI3.out).mono ?_
        rintro e w8 ⟨rfl, hb8⟩
        have HB8 := Aside0.mk (mk_below (below_step HB7.out hb8) (fwdL C))
        have HP8 := Aside0.mk (mk_old (HP7.out.below hb8) (fwdL C))
        have HQ8 := Aside0.mk (mk_old (HQ7.out.below hb8) (fwdL C))
        have HR8 := Aside0.mk (mk_new w8 (fwdL C))
        have hs8 : w7.heap.size < w8.heap.size := by have := HQ7.out.below hb8; exact this.lt
        clear hb8 HB7 HZ7 HP7 HQ7
        go_wp2_with (first
          | (refine alloc_ar rfl rfl ?_)
          | (refine store_ar rfl _ _ rfl _ rfl z64 (fwdL C) rfl (blk_new _ _) rfl (fwdL_len _) ?_))
        go_loopw [58] (fun v58 wr => ∃ k : Nat, v58 = .int .i64 k ∧ k ≤ 64 ∧ Aside0 (Below w.heap.size w wr) ∧ Aside0 (Blk wr w6.heap.size (mix (fwdL C) (fwdL A2) k)) ∧ Aside0 (Blk wr w7.heap.size (fwdL B2)) ∧ Aside0 (Blk wr w8.heap.size (fwdL C))) (fun v58 _ => 64 - (intOf v58).toNat)
        case atStart => exact ⟨0, rfl, by omega, HB8, ⟨by rw [mix_zero]; exact HP8.out⟩, HQ8, HR8⟩
        case round =>
          clear HB8 HP8 HQ8 HR8
          obtain ⟨k, rfl, hk, HBr, HXr, HYr, HZr⟩ := hrel
          by_cases hlt : k < 64
          · have t : decide ((k : Int) < 64) = true := decide_eq_true (by omega)
            have c1 := HXr.out.cell k (by rw [mix_len _ _ _ (by rw [fwdL_len, fwdL_len]), fwdL_len]; exact hlt)
            rw [mix_get _ _ _ (by rw [fwdL_len]; exact hlt) (by rw [fwdL_len, fwdL_len])] at c1
            have c2 := HYr.out.cell k (by rw [fwdL_len]; exact hlt)
            have hs3 := mix_set (fwdL C) (fwdL A2) k (by rw [fwdL_len]; exact hlt) (by rw [fwdL_len, fwdL_len])
            have hz := getD_all (G08f.wthn_bd HF3.out) k (by rw [fwdL_len]; exact hlt)
            have he : (fwdL C).getD k 0 = (fwdL A2).getD k 0 + (fwdL B2).getD k 0 := by rw [← HC.out, addL_get _ _ k hlt]
            rw [he] at hs3 hz
            obtain ⟨x, hx⟩ : ∃ x, (fwdL A2).getD k 0 = x := ⟨_, rfl⟩
            obtain ⟨y, hy⟩ : ∃ y, (fwdL B2).getD k 0 = y := ⟨_, rfl⟩
            rw [hx] at c1 hs3 hz
            rw [hy] at c2 hs3 hz
            have HS3 := Aside0.mk hs3
            have f1 : wr.frozen? ⟨w6.heap.size, k, none⟩ = false := blk_frozen HXr.out k
            have k3 : (0 : Int) ≤ (k : Int) := by omega
            have k4 : (k : Int) < 64 := by omega
            have ks : IntKind.i64.wrap (x + y) = x + y := IntWalk.i64_in _ (by omega)
            clear hs3 hz he hx hy
            go_wp2_with fail
            go_region
            all_goals
              go_wp2_with fail
              go_roundw
              case measure => simp [intOf]; omega
              case rel =>
                have HZz := HXr.out.set k (x + y)
                rw [HS3.out] at HZz
                exact ⟨k + 1, by go_num, by omega, ⟨(below_set HBr.out (by omega)).drew⟩, ⟨HZz⟩, ⟨HYr.out.far (by omega) k _⟩, ⟨HZr.out.far (by omega) k _⟩⟩
          · obtain rfl : k = 64 := by omega
            have t : decide (((64 : Nat) : Int) < 64) = false := by decide
            rw [mix_all _ _ _ (by rw [fwdL_len]; omega) (by rw [fwdL_len]; omega)] at HXr
            go_wp2_with (first
              | (refine load_arG rfl _ rfl w6.heap.size rfl (fwdL C) (fwdL_len _) HXr.out ?_)
              | (refine load_arG rfl _ rfl w8.heap.size rfl (fwdL C) (fwdL_len _) HZr.out ?_)
              | (refine eq_ar rfl _ _ rfl (fwdL C) (fwdL C) rfl rfl (fwdL_len _) (fwdL_len _) ?_))
            go_ret
            exact ⟨rfl, HBr.out⟩
end Go.Proofs.YtmbdjajmiggiaaaDoor.V08l
