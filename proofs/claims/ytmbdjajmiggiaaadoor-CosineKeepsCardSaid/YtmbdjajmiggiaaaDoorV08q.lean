/- CosineKeeps walked (chapter 08). -/
import Derived.Test.YtmbdjajmiggiaaaDoorV08
import Derived.Test.YtmbdjajmiggiaaaDoorV08l
namespace Go.Proofs.YtmbdjajmiggiaaaDoor.V08q
open Go.Proofs.YtmbdjajmiggiaaaDoor.K08 Go.Proofs.YtmbdjajmiggiaaaDoor.G08 Go.Proofs.YtmbdjajmiggiaaaDoor.G08f Go.Proofs.YtmbdjajmiggiaaaDoor.Z08 Go.Proofs.YtmbdjajmiggiaaaDoor.O08 Go.Proofs.YtmbdjajmiggiaaaDoor.L08 Go.Proofs.YtmbdjajmiggiaaaDoor.W08 Go.Proofs.YtmbdjajmiggiaaaDoor.P08 Go.Proofs.YtmbdjajmiggiaaaDoor.V08
open Go.RowKit Go.Proofs.YtmbdjajmiggiaaaDoorW.PrintWords Go.Proofs.YtmbdjajmiggiaaaDoorW.PrintLast Go.Proofs.YtmbdjajmiggiaaaDoorW.PrintMore
set_option linter.unusedVariables false
set_option linter.unusedSimpArgs false
set_option maxRecDepth 100000
theorem bytes_bd {b : List Int} (h : ∀ x ∈ b, (Lit.int .i8 x).wf = true) (k : Nat) (hk : k < b.length) : -128 ≤ b.getD k 0 ∧ b.getD k 0 ≤ 127 := by
  refine getD_all (p := fun x => -128 ≤ x ∧ x ≤ 127) ?_ k hk
  intro x hx
  have := h x hx
  simp [Lit.wf] at this
  have e1 : IntKind.i8.min = -128 := by decide
  have e2 : IntKind.i8.max = 127 := by decide
  omega
theorem size36 : (sizeOf 36).run Tryd.prog = fun w => .ok 1 w := by funext w; kernel_rfl
theorem agg36 : (isAgg 36).run Tryd.prog = fun w => .ok false w := by funext w; kernel_rfl
theorem info54 : (Tryd.prog.info? 54).map (·.size) = some 64 := by kernel_rfl
theorem run_index_a8 (b : List Int) (hb : b.length = 64) (k : Nat) (hk : k < 64) (w : World) :
    (Instr.index 54 (.agg (nums .i8 b).toArray) (.int .i64 k)).run Tryd.prog w = .ok (.int .i8 (b.getD k 0)) w := by
  have h3 : k < b.length := by omega
  simp [Instr.index, run_underlying Tryd.underlying54, asIntOf, size36, agg36, hk, nums, h3, go_sem]
theorem load_a8 {ops : Array Oper} {rest : List Oper} {o : Oper} {a : Act} {w : World} {Q : Exit → Act → World → Prop} (hgd : o.guard = none) (x : Operand) (ho : o.op = .load 54 x)
    (g : Nat) (hx : a.eval x = .pointer (some ⟨g, 0, none⟩)) (b : List Int) (hb : b.length = 64) (hg : w.heap[g]? = some (.cells (nums .i8 b).toArray 54 (0, 0)))
    (h : wpList Tryd.prog ops Q rest (a.put o.dst (.agg (nums .i8 b).toArray)) w) : wpList Tryd.prog ops Q (o :: rest) a w :=
  wpList_load_row hgd 54 x ho g hx 54 (nums .i8 b).toArray (0, 0) _ hg Tryd.underlying54 rfl (info54.trans (by simp [nums_length, hb])) h
theorem info55 : (Tryd.prog.info? 55).map (·.size) = some 8 := by kernel_rfl
theorem store_wl {ops : Array Oper} {rest : List Oper} {o : Oper} {a : Act} {w : World} {Q : Exit → Act → World → Prop} (hgd : o.guard = none) (x y : Operand) (ho : o.op = .store 55 x y)
    (g : Nat) (hx : a.eval x = .pointer (some ⟨g, 0, none⟩)) (old l : List Int) (hy : a.eval y = .agg (nums .i64 l).toArray) (hold : WB w g old) (ho2 : old.length = 8) (hl : l.length = 8)
    (h : wpList Tryd.prog ops Q rest (a.put o.dst undef) (w.setRow g (nums .i64 l).toArray)) : wpList Tryd.prog ops Q (o :: rest) a w :=
  wpList_store_row hgd 55 x y ho g (nums .i64 l).toArray hx hy 55 (nums .i64 old).toArray hold (info55.trans (by simp [nums_length, hl])) (by simp [nums_length, hl, ho2]) (nums_one l) h
/-- The sum of squares, as far as k. -/
def sq (b : List Int) (k : Nat) : Int := sm k fun i => 78145600 * b.getD i 0 * b.getD i 0
theorem sq_bd (b : List Int) (h : ∀ k, k < 64 → -128 ≤ b.getD k 0 ∧ b.getD k 0 ≤ 127) : ∀ k, k ≤ 64 → 0 ≤ sq b k ∧ sq b k ≤ (k : Int) * 1280337510400
  | 0, _ => by simp [sq, sm]
  | k + 1, hk => by
    have ih := sq_bd b h k (by omega)
    have hx := h k (by omega)
    have e : sq b (k + 1) = sq b k + 78145600 * b.getD k 0 * b.getD k 0 := rfl
    have h1 : 0 ≤ b.getD k 0 * b.getD k 0 := by
      by_cases h0 : 0 ≤ b.getD k 0
      · exact Int.mul_nonneg h0 h0
      · have := Int.mul_nonneg (show 0 ≤ -b.getD k 0 by omega) (show 0 ≤ -b.getD k 0 by omega)
        rwa [Int.neg_mul_neg] at this
    have h2 := ab_mul (t := b.getD k 0) (x := b.getD k 0) (m := 128) (by omega) (by omega)
    have h3 : ab (b.getD k 0) ≤ 128 := by unfold ab; split <;> omega
    rw [e, Int.mul_assoc]
    have h4 : ((k + 1 : Nat) : Int) * 1280337510400 = (k : Int) * 1280337510400 + 1280337510400 := by push_cast; omega
    omega
theorem a8_in (b : List Int) (hb : b.length = 64) (h : ∀ k, k < b.length → -128 ≤ b.getD k 0 ∧ b.getD k 0 ≤ 127) : wthn 1048576 b = true := wthn_yes fun k hk => by
  have := h k hk
  omega
/-- The weighted sum of squares, as far as k. -/
def wsq (y : List Int) (k : Nat) : Int := sm k fun i => wt (i / 8) * wt (i % 8) * y.getD i 0 * y.getD i 0
theorem wsq_all (b : List Int) (hb : b.length = 64) : wsq (fwdL b) 64 = sq b 64 := by
  unfold wsq sq
  rw [keeps (fun k => b.getD k 0) (fun k => (fwdL b).getD k 0) (fun i hi j hj => by
    rw [fwdL_eq, blk8_get _ _ (by omega), div8 i j hj, mod8 i j hj, outF_eq _ _ _ hi hj]), sm_mul]
  exact sm_congr fun i _ => (Int.mul_assoc _ _ _).symm
theorem wt_nonneg (i : Nat) : 0 ≤ wt i := by
  by_cases h : i < 8
  · have := wt_bd i h; omega
  · unfold wt
    rw [List.getD_eq_getElem?_getD, List.getElem?_eq_none (by simp; omega)]
    decide
theorem sqr_nonneg (x : Int) : 0 ≤ x * x := by
  by_cases h0 : 0 ≤ x
  · exact Int.mul_nonneg h0 h0
  · have := Int.mul_nonneg (show 0 ≤ -x by omega) (show 0 ≤ -x by omega)
    rwa [Int.neg_mul_neg] at this
theorem wterm_nonneg (y : List Int) (i : Nat) : 0 ≤ wt (i / 8) * wt (i % 8) * y.getD i 0 * y.getD i 0 := by
  rw [Int.mul_assoc]
  exact Int.mul_nonneg (Int.mul_nonneg (wt_nonneg _) (wt_nonneg _)) (sqr_nonneg _)
theorem wsq_mono (y : List Int) (k : Nat) : ∀ n, wsq y k ≤ wsq y (k + n)
  | 0 => Int.le_refl _
  | n + 1 => by
    have ih := wsq_mono y k n
    have e : wsq y (k + (n + 1)) = wsq y (k + n) + wt ((k + n) / 8) * wt ((k + n) % 8) * y.getD (k + n) 0 * y.getD (k + n) 0 := rfl
    have := wterm_nonneg y (k + n)
    omega
theorem wsq_nonneg (y : List Int) (k : Nat) : 0 ≤ wsq y k := by
  have := wsq_mono y 0 k
  rw [Nat.zero_add] at this
  exact this
theorem ab_le {x m : Int} (h : -m ≤ x ∧ x ≤ m) : ab x ≤ m := by unfold ab; split <;> omega
theorem term_bd (u v y : Int) (hu : 0 ≤ u ∧ u ≤ 1105) (hv : 0 ≤ v ∧ v ≤ 1105) (hy : -373248 ≤ y ∧ y ≤ 373248) :
    0 ≤ u * v ∧ u * v ≤ 1221025 ∧ -455745139200 ≤ u * v * y ∧ u * v * y ≤ 455745139200 ∧ 0 ≤ u * v * y * y ∧ u * v * y * y ≤ 170105961716121600 := by
  have h0 := Int.mul_nonneg hu.1 hv.1
  have h1 := ab_mul (t := u) (x := v) (m := 1105) (by omega) (by omega)
  have h2 : ab u ≤ 1105 := ab_le (by omega)
  have h3 : u * v ≤ 1221025 := by omega
  have h4 := ab_mul (t := u * v) (x := y) (m := 373248) (by omega) (by omega)
  have h5 : ab (u * v) ≤ 1221025 := ab_le (by omega)
  have h6 := ab_mul (t := y) (x := y) (m := 373248) (by omega) (by omega)
  have h7 : ab y ≤ 373248 := ab_le hy
  have h8 := sqr_nonneg y
  have h9 := Int.mul_le_mul_of_nonneg_right h3 h8
  have h10 := Int.mul_nonneg h0 h8
  rw [Int.mul_assoc (u * v) y y]
  refine ⟨h0, h3, by omega, by omega, h10, by omega⟩
theorem fwd_a8 (b : List Int) (hb : b.length = 64) (h : ∀ k, k < b.length → -128 ≤ b.getD k 0 ∧ b.getD k 0 ≤ 127) (k : Nat) (hk : k < 64) : -373248 ≤ (fwdL b).getD k 0 ∧ (fwdL b).getD k 0 ≤ 373248 := by
  rw [fwdL_eq, blk8_get _ _ hk, outF_eq _ _ _ (by omega) (by omega)]
  have := fwd_bd (fun k => b.getD k 0) 128 (by omega) (fun k hk => by have := h k (by omega); omega) (k / 8) (k % 8) (by omega) (by omega)
  omega
theorem wl_get (k : Nat) (hk : k < 8) : (wl 8).getD k 0 = wt k := by
  simp [wl, List.getD, hk]
set_option maxHeartbeats 8000000 in
theorem keeps_walk (b : List Int) (hb : b.length = 64) (hwf : ∀ x ∈ b, (Lit.int .i8 x).wf = true) (w : World) (hm : Mat w) :
    Calls Tryd.prog 8 #[.agg (nums .i8 b).toArray] w fun e w' => e = .returned (.bool true) ∧ Below w.heap.size w w' := by
  have HL := Aside0.mk hb
  have HM := Aside0.mk hm
  have HBD := Aside0.mk (bytes_bd hwf)
  clear hb hm hwf
  go_enter Tryd.func8, Tryd.ntmps8
  go_wp2_with fail
  refine (works_call _ (HM.out.below (below_alloc (Below.refl _ _) _))).mono ?_
  rintro e w1 ⟨rfl, hb1⟩
  have HB1 := Aside0.mk (below_step (below_alloc (Below.refl _ w) (.cells (nums .i8 b).toArray 54)) hb1)
  have HX1 : Aside0 (w1.heap[w.heap.size]? = some (.cells (nums .i8 b).toArray 54 (0, 0))) := ⟨blk_below (blk_new w _) hb1⟩
  have hlt0 : w.heap.size < w1.heap.size := by have := hb1.size; simp at this; omega
  clear hb1
  go_wp2_with (first | (refine alloc_ar rfl rfl ?_) | (refine load_a8 rfl _ rfl w.heap.size rfl b HL.out (blk_alloc HX1.out _) ?_))
  go_loopw [4, 16] (fun v4 v16 wr => ∃ k : Nat, v16 = .int .i64 k ∧ k ≤ 64 ∧ v4 = .int .i64 (sq b k) ∧ Aside0 (Below w.heap.size w wr) ∧ Aside0 (Blk wr w1.heap.size (V08l.mix b z64 k))) (fun _ v16 _ => 64 - (intOf v16).toNat)
  case atStart => exact ⟨0, rfl, by omega, rfl, ⟨below_alloc HB1.out _⟩, ⟨by rw [V08l.mix_zero]; exact Blk.new _ _⟩⟩
  case round =>
    obtain ⟨k, rfl, hk, rfl, HBr, HXr⟩ := hrel
    by_cases hlt : k < 64
    · have t : decide ((k : Int) < 64) = true := decide_eq_true (by omega)
      have c1 := HXr.out.cell k (by rw [V08l.mix_len _ _ _ HL.out]; exact hlt)
      generalize (V08l.mix b z64 k).getD k 0 = z0 at c1
      have f1 : wr.frozen? ⟨w1.heap.size, k, none⟩ = false := blk_frozen HXr.out k
      have hs1 := V08l.mix_set b z64 k hlt HL.out
      have hix : ∀ W, _ := run_index_a8 b HL.out k hlt
      have hbd := HBD.out k (by rw [HL.out]; exact hlt)
      have q1 := sq_bd b (fun j hj => HBD.out j (by rw [HL.out]; exact hj)) k hk
      have q2 := sq_bd b (fun j hj => HBD.out j (by rw [HL.out]; exact hj)) (k + 1) (by omega)
      have e2 : sq b (k + 1) = sq b k + 78145600 * b.getD k 0 * b.getD k 0 := rfl
      generalize hS2 : sq b (k + 1) = s2 at e2 q2
      have HS2 := Aside0.mk hS2
      clear hS2
      generalize sq b k = s1 at e2 q1 ⊢
      generalize b.getD k 0 = x at hs1 hix hbd e2
      have HS1 := Aside0.mk hs1
      have kx : IntKind.i64.wrap x = x := IntWalk.i64_in _ (by omega)
      have ky : IntKind.i64.wrap (78145600 * x) = 78145600 * x := IntWalk.i64_in _ (by omega)
      have kz : IntKind.i64.wrap (78145600 * x * x) = 78145600 * x * x := IntWalk.i64_in _ (by omega)
      have kw : IntKind.i64.wrap (s1 + 78145600 * x * x) = s2 := by rw [← e2]; exact IntWalk.i64_in _ (by omega)
      have HE2 := Aside0.mk e2
      clear hs1 e2 q1 q2 hbd
      go_wp2_with fail
      go_roundw
      case measure => simp [intOf]; omega
      case rel => exact ⟨k + 1, by go_num, by omega, by rw [HS2.out], ⟨below_set HBr.out (by omega)⟩, ⟨by rw [← HS1.out]; exact HXr.out.set k x⟩⟩
    · obtain rfl : k = 64 := by omega
      have t : decide (((64 : Nat) : Int) < 64) = false := by decide
      rw [V08l.mix_all _ _ _ (by rw [HL.out]; omega) (by decide)] at HXr
      have HIN := Aside0.mk (a8_in b HL.out HBD.out)
      have HSQ := Aside0.mk (wsq_all b HL.out)
      have HTOT := Aside0.mk (sq_bd b (fun j hj => HBD.out j (by rw [HL.out]; exact hj)) 64 (Nat.le_refl _))
      generalize sq b 64 = tot at HSQ HTOT ⊢
      go_wp2_with (first | (refine load_ar rfl _ rfl _ rfl b HL.out HXr.out ?_))
      refine (forward_call b HL.out _ (HM.out.below HBr.out) HIN.out).mono ?_
      rintro e w6 ⟨rfl, hb6⟩
      have HB6 := Aside0.mk (mk_below (below_step HBr.out hb6) (fwdL b))
      have HP6 := Aside0.mk (mk_new w6 (fwdL b))
      have hs6 : w.heap.size < w6.heap.size := by have := hb6.size; have := HBr.out.size; have := HXr.out.lt; omega
      clear hb6 HBr HXr
      go_wp2_with (first
          | (refine alloc_ar rfl rfl ?_)
          | (refine alloc_wl rfl rfl ?_)
          | (refine store_ar rfl _ _ rfl _ rfl z64 (fwdL b) rfl (blk_new _ _) rfl (fwdL_len _) ?_)
          | (refine store_wl rfl _ _ rfl _ rfl (wl 0) (wl 8) rfl (blk_new _ _) (wl_len _) (wl_len _) ?_)
          | (refine load_ar rfl _ rfl w6.heap.size rfl (fwdL b) (fwdL_len _) ((heap_setRow_far _ _ _ _ (by simp)).trans (blk_alloc HP6.out _)) ?_))
      go_loopw [9, 40] (fun v9 v40 wr => ∃ k : Nat, v40 = .int .i64 k ∧ k ≤ 64 ∧ v9 = .int .i64 (wsq (fwdL b) k) ∧ Aside0 (Below w.heap.size w wr) ∧ Aside0 (WB wr (w6.heap.size + 1) (wl 8))) (fun _ v40 _ => 64 - (intOf v40).toNat)
      case atStart =>
        refine ⟨0, rfl, by omega, rfl, ⟨G08.below_setRow (below_alloc HB6.out _) (by omega) _⟩, ⟨?_⟩⟩
        have : WB (((mk w6 (fwdL b)).alloc (Obj.cells (nums IntKind.i64 (wl 0)).toArray 55)).setRow (mk w6 (fwdL b)).heap.size (nums IntKind.i64 (wl 8)).toArray) (mk w6 (fwdL b)).heap.size (wl 8) := setRow_heap _ _ _ _ _ _ (blk_new _ (Obj.cells (nums IntKind.i64 (wl 0)).toArray 55))
        simpa [mk] using this
      case round =>
        clear HB6 HP6
        obtain ⟨k, rfl, hk, rfl, HBr, HWr⟩ := hrel
        by_cases hlt : k < 64
        · have t : decide ((k : Int) < 64) = true := decide_eq_true (by omega)
          have hix : ∀ W, _ := run_index_ar Tryd.underlying22 size3 agg3 (fwdL b) (fwdL_len _) k hlt
          have hy := fwd_a8 b HL.out HBD.out k hlt
          have q0 := wsq_nonneg (fwdL b) k
          have q1 := wsq_mono (fwdL b) (k + 1) (64 - (k + 1))
          rw [show k + 1 + (64 - (k + 1)) = 64 by omega, HSQ.out] at q1
          have e2 : wsq (fwdL b) (k + 1) = wsq (fwdL b) k + wt (k / 8) * wt (k % 8) * (fwdL b).getD k 0 * (fwdL b).getD k 0 := rfl
          have c1 := HWr.out.cell (k / 8) (by rw [wl_len]; omega)
          have c2 := HWr.out.cell (k % 8) (by rw [wl_len]; omega)
          rw [wl_get _ (by omega)] at c1 c2
          have u1 := wt_bd (k / 8) (by omega)
          have u2 := wt_bd (k % 8) (by omega)
          generalize hS2 : wsq (fwdL b) (k + 1) = s2 at e2 q1
          have HS2 := Aside0.mk hS2
          clear hS2
          generalize wsq (fwdL b) k = s1 at e2 q0 ⊢
          generalize (fwdL b).getD k 0 = y at hix hy e2
          generalize wt (k / 8) = m at c1 u1 e2
          generalize wt (k % 8) = n at c2 u2 e2
          obtain ⟨b1, b2, b3, b4, b5, b6⟩ := term_bd m n y (by omega) (by omega) hy
          have htot := HTOT.out
          have kq : (k : Int).tdiv 8 = ((k / 8 : Nat) : Int) := by rw [Int.tdiv_eq_ediv_of_nonneg (by omega)]; omega
          have kr : (k : Int).tmod 8 = ((k % 8 : Nat) : Int) := by rw [Int.tmod_eq_emod_of_nonneg (by omega)]; omega
          generalize hi : k / 8 = i at c1 kq
          generalize hj : k % 8 = j at c2 kr
          have i1 : (0 : Int) ≤ (i : Int) := by omega
          have i2 : (i : Int) < 8 := by omega
          have j1 : (0 : Int) ≤ (j : Int) := by omega
          have j2 : (j : Int) < 8 := by omega
          clear hi hj
          have k1 : IntKind.i64.wrap (m * n) = m * n := IntWalk.i64_in _ (by omega)
          have k2 : IntKind.i64.wrap (m * n * y) = m * n * y := IntWalk.i64_in _ (by omega)
          have k3 : IntKind.i64.wrap (m * n * y * y) = m * n * y * y := IntWalk.i64_in _ (by omega)
          have k4 : IntKind.i64.wrap (s1 + m * n * y * y) = s2 := by rw [← e2]; exact IntWalk.i64_in _ (by omega)
          clear e2 q0 q1 b1 b2 b3 b4 b5 b6 u1 u2 htot hy
          go_wp2_with fail
          go_quiet (fail)
          go_wp2_with fail
          go_roundw
          case measure => simp [intOf]; omega
          case rel => exact ⟨k + 1, by go_num, by omega, by rw [HS2.out], ⟨pw_below_drewN HBr.out _⟩, HWr⟩
        · obtain rfl : k = 64 := by omega
          have t : decide (((64 : Nat) : Int) < 64) = false := by decide
          rw [HSQ.out]
          go_wp2_with fail
          go_ret
          exact ⟨rfl, HBr.out⟩
end Go.Proofs.YtmbdjajmiggiaaaDoor.V08q
