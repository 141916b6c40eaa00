/- Several texts of this claim, one behind the other. -/
import Derived.Test.YtmbdjajmiggiaaaDoorProg
import Derived.Test.YtmbdjajmiggiaaaDoorK08
import Derived.WalkSpells
import Derived.Laws.Rows
import Derived.WalkKit
import Derived.KernelRfl
import Derived.Deep.LoopGhost
import Derived.Deep.QuietTactic
import Derived.Deep.RegionHeld3
import Derived.BigQuiet
import Derived.BigRegion
import Derived.Deep.DeepCutAuto
import Derived.Test.YtmbdjajmiggiaaaDoorWWords
import Derived.Test.YtmbdjajmiggiaaaDoorWLast
import Derived.Test.YtmbdjajmiggiaaaDoorWMore
import Derived.Deep.RegionWith
import Derived.Deep.RegionLaw
/- The inner functions of the transform (chapter 08): within, floor, sum over closures, norm; words for blocks of 64 numbers in memory. -/
namespace Go.Proofs.YtmbdjajmiggiaaaDoor.G08
open Go.Proofs.YtmbdjajmiggiaaaDoor.K08
open Go.RowKit Go.Proofs.YtmbdjajmiggiaaaDoorW.PrintWords Go.Proofs.YtmbdjajmiggiaaaDoorW.PrintLast Go.Proofs.YtmbdjajmiggiaaaDoorW.PrintMore
set_option linter.unusedVariables false
set_option maxRecDepth 100000
/-- An array of whole numbers. -/
def ar (l : List Int) : Value := .agg (nums .i64 l).toArray
theorem info22 : (Tryd.prog.info? 22).map (·.size) = some 64 := by kernel_rfl
theorem run_index_ar {P : Program} {t e : TypeId} {n : Nat} (h : P.underlying t = some (.array n e)) (he : (sizeOf e).run P = fun w => .ok 1 w) (hg : (isAgg e).run P = fun w => .ok false w) (b : List Int) (hb : b.length = n) (k : Nat) (hk : k < n) (w : World) :
    (Instr.index t (ar b) (.int .i64 k)).run P w = .ok (.int .i64 (b.getD k 0)) w := by
  have h3 : k < b.length := by omega
  simp [Instr.index, ar, run_underlying h, asIntOf, he, hg, hk, nums, h3, go_sem]
theorem load_ar {ops : Array Oper} {rest : List Oper} {o : Oper} {a : Act} {w : World} {Q : Exit → Act → World → Prop} (hgd : o.guard = none) (x : Operand) (ho : o.op = .load 22 x)
    (g : Nat) (hx : a.eval x = .pointer (some ⟨g, 0, none⟩)) (b : List Int) (hb : b.length = 64) (hg : w.heap[g]? = some (.cells (nums .i64 b).toArray 22 (0, 0)))
    (h : wpList Tryd.prog ops Q rest (a.put o.dst (ar b)) w) : wpList Tryd.prog ops Q (o :: rest) a w :=
  wpList_load_row hgd 22 x ho g hx 22 (nums .i64 b).toArray (0, 0) _ hg Tryd.underlying22 rfl (info22.trans (by simp [nums_length, hb])) h
def z64 : List Int := List.replicate 64 0
theorem alloc22 (w : World) : (Instr.alloc 22 true (.tuple #[])).run Tryd.prog w = .ok (.pointer (some ⟨w.heap.size, 0, none⟩)) (w.alloc (.cells (nums .i64 z64).toArray 22)) := by kernel_rfl
theorem alloc_ar {ops : Array Oper} {rest : List Oper} {o : Oper} {a : Act} {w : World} {Q : Exit → Act → World → Prop} (hgd : o.guard = none) (ho : o.op = .alloc 22)
    (h : wpList Tryd.prog ops Q rest (a.put o.dst (.pointer (some ⟨w.heap.size, 0, none⟩))) (w.alloc (.cells (nums .i64 z64).toArray 22))) : wpList Tryd.prog ops Q (o :: rest) a w :=
  wpList_plain hgd fun K hK => by
    unfold Oper.wp execOp
    simp only [ho]
    simp only [Sem.run_bind, alloc22, Sem.run_pure, Result.andThen_ok]
    exact hK _ _ h
theorem size3 : (sizeOf 3).run Tryd.prog = fun w => .ok 1 w := by funext w; kernel_rfl
theorem agg3 : (isAgg 3).run Tryd.prog = fun w => .ok false w := by funext w; kernel_rfl
theorem size55 : (sizeOf 55).run Tryd.prog = fun w => .ok 8 w := by funext w; kernel_rfl
def wthn (m : Int) (b : List Int) : Bool := b.all fun x => decide (-m ≤ x ∧ x ≤ m)
theorem wthn_no {m : Int} {b : List Int} {k : Nat} (hk : k < b.length) (h : ¬ (-m ≤ b.getD k 0 ∧ b.getD k 0 ≤ m)) : wthn m b = false := by
  unfold wthn
  rw [List.all_eq_false]
  refine ⟨b.getD k 0, ?_, by simpa using h⟩
  rw [List.getD_eq_getElem?_getD, List.getElem?_eq_getElem hk]
  exact List.getElem_mem _
theorem wthn_yes {m : Int} {b : List Int} (h : ∀ k, k < b.length → -m ≤ b.getD k 0 ∧ b.getD k 0 ≤ m) : wthn m b = true := by
  unfold wthn
  rw [List.all_eq_true]
  intro x hx
  obtain ⟨k, hk, rfl⟩ := List.mem_iff_getElem.1 hx
  have := h k hk
  rw [List.getD_eq_getElem?_getD, List.getElem?_eq_getElem hk] at this
  simpa using this
set_option maxHeartbeats 1000000 in
theorem within_call (b : List Int) (m : Int) (hb : b.length = 64) (hm : 0 ≤ m) (hm2 : m ≤ 4294967296) (w : World) :
    Calls Tryd.prog 29 #[ar b, .int .i64 m] w fun e w' => e = .returned (.bool (wthn m b)) ∧ Below w.heap.size w w' := by
  have hbel : Below w.heap.size w (w.alloc (.cells (nums .i64 b).toArray 22)) := below_alloc (Below.refl _ _) _
  have HB := Aside0.mk hbel
  have HL := Aside0.mk hb
  clear hbel hb
  unfold ar
  go_enter Tryd.func29, Tryd.ntmps29
  go_wp2_with (refine load_ar rfl _ rfl _ rfl b HL.out (blk_new _ _) ?_)
  go_loop [8] (fun v8 => ∃ k : Nat, v8 = .int .i64 k ∧ k ≤ 64 ∧ Aside0 (∀ j, j < k → -m ≤ b.getD j 0 ∧ b.getD j 0 ≤ m)) (fun v8 => 64 - (intOf v8).toNat)
  case atStart => exact ⟨0, rfl, by omega, ⟨fun j hj => by omega⟩⟩
  case round =>
    obtain ⟨k, rfl, hk, HA⟩ := hrel
    by_cases hlt : k < 64
    · obtain ⟨x, hx⟩ : ∃ x, b.getD k 0 = x := ⟨_, rfl⟩
      have hix := run_index_ar Tryd.underlying22 size3 agg3 b HL.out k hlt (w.alloc (.cells (nums .i64 b).toArray 22))
      rw [hx] at hix
      have HX := Aside0.mk hx
      clear hx
      have d0 : decide ((k : Int) < 64) = true := decide_eq_true (by omega)
      by_cases h1 : x < -m
      · have d1 : decide (x < -m) = true := decide_eq_true h1
        have HF := Aside0.mk (wthn_no (m := m) (b := b) (k := k) (by rw [HL.out]; exact hlt) (by rw [HX.out]; omega))
        go_wp2
        go_ret
        exact ⟨by rw [HF.out]; rfl, HB.out⟩
      · have d1 : decide (x < -m) = false := decide_eq_false h1
        by_cases h2 : m < x
        · have d2 : decide (m < x) = true := decide_eq_true h2
          have HF := Aside0.mk (wthn_no (m := m) (b := b) (k := k) (by rw [HL.out]; exact hlt) (by rw [HX.out]; omega))
          go_wp2
          go_ret
          exact ⟨by rw [HF.out]; rfl, HB.out⟩
        · have d2 : decide (m < x) = false := decide_eq_false h2
          go_wp2
          go_round
          case measure => simp [intOf]; omega
          case rel =>
            refine ⟨k + 1, by go_num, by omega, ⟨fun j hj => ?_⟩⟩
            rcases Nat.lt_or_ge j k with h | h
            · exact HA.out j h
            · obtain rfl : j = k := by omega
              rw [HX.out]; omega
    · have d0 : decide ((k : Int) < 64) = false := decide_eq_false (by omega)
      have HF := Aside0.mk (wthn_yes (m := m) (b := b) (fun j hj => HA.out j (by rw [HL.out] at hj; omega)))
      go_wp2
      go_ret
      exact ⟨by rw [HF.out]; rfl, HB.out⟩
theorem fl_unique {a d z : Int} (hd : 0 < d) (h : z * d ≤ a) (h2 : a < (z + 1) * d) : a / d = z := by
  have h1' := (Int.le_ediv_iff_mul_le hd).2 h
  have h2' := (Int.ediv_lt_iff_lt_mul hd).2 h2
  omega
theorem fl_eq (a d : Int) (hd : 0 < d) : a / d = if a.tmod d < 0 then a.tdiv d - 1 else a.tdiv d := by
  have e1 := Int.tdiv_mul_add_tmod a d
  have e2 := Int.tmod_lt_of_pos a hd
  have e3 : -d < a.tmod d := by
    have := Int.tmod_lt_of_pos (-a) hd
    rw [Int.neg_tmod] at this
    omega
  by_cases hn : a.tmod d < 0
  · rw [if_pos hn]
    refine fl_unique hd ?_ ?_
    · rw [Int.sub_mul]; omega
    · rw [Int.sub_add_cancel]; omega
  · rw [if_neg hn]
    refine fl_unique hd (by omega) ?_
    rw [Int.add_mul]; omega
theorem td_bd (a d : Int) (hd : 0 < d) (h1 : -4611686018427387904 ≤ a) (h2 : a ≤ 4611686018427387904) : -4611686018427387904 ≤ a.tdiv d ∧ a.tdiv d ≤ 4611686018427387904 := by
  have := Int.natAbs_tdiv_le_natAbs a d
  omega
set_option maxHeartbeats 1000000 in
theorem floor_call (a d : Int) (hd : 0 < d) (h1 : -4611686018427387904 ≤ a) (h2 : a ≤ 4611686018427387904) (w : World) :
    Calls Tryd.prog 36 #[.int .i64 a, .int .i64 d] w fun e w' => e = .returned (.int .i64 (a / d)) ∧ w = w' := by
  have HA := Aside0.mk (fl_eq a d hd)
  have hb := td_bd a d hd h1 h2
  have hd0 : (d == 0) = false := by simp; omega
  by_cases hn : a.tmod d < 0
  · have d1 : decide (a.tmod d < 0) = true := decide_eq_true hn
    go_enter Tryd.func36, Tryd.ntmps36
    go_wp2
    go_ret
    exact ⟨by rw [HA.out, if_pos hn]; rfl, rfl⟩
  · have d1 : decide (a.tmod d < 0) = false := decide_eq_false hn
    go_enter Tryd.func36, Tryd.ntmps36
    go_wp2
    go_ret
    exact ⟨by rw [HA.out, if_neg (by omega)]; rfl, rfl⟩
/-- The matrix lies in memory. -/
structure Mat (w : World) : Prop where
  pos : 0 < w.heap.size
  at_ : ∀ i r, i < 8 → r < 8 → w.cell? ⟨0, i * 8 + r, none⟩ = some (.int .i64 (T i r))
theorem Mat.below {w w' : World} (h : Mat w) (hb : Below w.heap.size w w') : Mat w' :=
  ⟨Nat.lt_of_lt_of_le h.pos hb.size, fun i r hi hr => (hb.cell (p := ⟨0, i * 8 + r, none⟩) h.pos).trans (h.at_ i r hi hr)⟩
theorem Mat.drewN {w : World} (h : Mat w) (n : Nat) : Mat (w.drewN n) := ⟨h.pos, h.at_⟩
/-- A function value that only reads. -/
def Reads (F : Nat) (caps : List Value) (f : Nat → Int) (w : World) : Prop :=
  ∀ i, i < 8 → ∀ q, Calls Tryd.prog F (.int .i64 i :: caps).toArray (w.drewN q) fun e w' => e = .returned (.int .i64 (f i)) ∧ ∃ q', w' = w.drewN q'
set_option maxHeartbeats 1000000 in
theorem sum_call (F : Nat) (caps : List Value) (f : Nat → Int) (w : World) (hcf : ∀ (args : Array Value) (W : World), (callFunc F args).run Tryd.prog W = .ok (.enter F args) W) (hF : Reads F caps f w) (hb : ∀ k, k ≤ 8 → -4611686018427387904 ≤ sm k f ∧ sm k f ≤ 4611686018427387904) :
    Calls Tryd.prog 30 #[.int .i64 8, .func (.func F) #[] caps.toArray] w fun e w' => e = .returned (.int .i64 (sm 8 f)) ∧ ∃ q, w' = w.drewN q := by
  have HF := Aside0.mk hF
  have HB := Aside0.mk hb
  clear hF hb
  go_enter Tryd.func30, Tryd.ntmps30
  go_wp2
  go_loopw [5, 8] (fun v5 v8 wr => ∃ k q : Nat, v8 = .int .i64 k ∧ k ≤ 8 ∧ v5 = .int .i64 (sm k f) ∧ wr = w.drewN q) (fun v5 v8 wr => 8 - (intOf v8).toNat)
  case atStart => exact ⟨0, 0, rfl, by omega, rfl, rfl⟩
  case round =>
    obtain ⟨k, q, rfl, hk, rfl, rfl⟩ := hrel
    by_cases hlt : k < 8
    · have b1 := HB.out k (by omega)
      have b2 := HB.out (k + 1) (by omega)
      have e : sm (k + 1) f = sm k f + f k := rfl
      rw [e] at b2
      have HE := Aside0.mk e
      clear e
      obtain ⟨s, hs⟩ : ∃ s, sm k f = s := ⟨_, rfl⟩
      obtain ⟨x, hx⟩ : ∃ x, f k = x := ⟨_, rfl⟩
      have HC := Aside0.mk (HF.out k hlt q)
      rw [hx] at HC
      rw [hs, hx] at HE b2
      rw [hs] at b1 ⊢
      clear hs hx
      have d0 : decide ((k : Int) < 8) = true := decide_eq_true (by omega)
      go_wp2
      refine HC.out.mono ?_
      rintro e w1 ⟨rfl, q', rfl⟩
      go_wp2
      go_roundw
      case measure => simp [intOf]; omega
      case rel => exact ⟨k + 1, q', by go_num, by omega, by rw [HE.out], rfl⟩
    · obtain rfl : k = 8 := by omega
      go_wp2
      go_ret
      exact ⟨rfl, q, rfl⟩
theorem cf31 (args : Array Value) (W : World) : (callFunc 31 args).run Tryd.prog W = .ok (.enter 31 args) W := by kernel_rfl
theorem cf32 (args : Array Value) (W : World) : (callFunc 32 args).run Tryd.prog W = .ok (.enter 32 args) W := by kernel_rfl
theorem cf34 (args : Array Value) (W : World) : (callFunc 34 args).run Tryd.prog W = .ok (.enter 34 args) W := by kernel_rfl
theorem cf35 (args : Array Value) (W : World) : (callFunc 35 args).run Tryd.prog W = .ok (.enter 35 args) W := by kernel_rfl
theorem cf53 (args : Array Value) (W : World) : (callFunc 53 args).run Tryd.prog W = .ok (.enter 53 args) W := by kernel_rfl
/-- A block of whole numbers in memory. -/
def Blk (w : World) (g : Nat) (l : List Int) : Prop := w.heap[g]? = some (.cells (nums .i64 l).toArray 22 (0, 0))
theorem Blk.cell {w : World} {g : Nat} {l : List Int} (h : Blk w g l) (k : Nat) (hk : k < l.length) : w.cell? ⟨g, k, none⟩ = some (.int .i64 (l.getD k 0)) := by
  rw [blk_cell h k]
  simp [nums, hk]
theorem T_mul {j c : Nat} (hj : j < 8) (hc : c < 8) {y : Int} (hy : -4611686018427387 ≤ y ∧ y ≤ 4611686018427387) : -46116860184273870 ≤ T j c * y ∧ T j c * y ≤ 46116860184273870 := by
  have hx := T_bd j hj c hc
  have := ab_mul (t := T j c) hy.1 hy.2
  have : ab (T j c) * 4611686018427387 ≤ 46116860184273870 := by unfold ab; split <;> omega
  omega
theorem Tw_mul {j c : Nat} (hj : j < 8) (hc : c < 8) {y : Int} (hy : -461168601842738 ≤ y ∧ y ≤ 461168601842738) : -509591305036225490 ≤ T j c * wt j * y ∧ T j c * wt j * y ≤ 509591305036225490 := by
  have hx := Tw_bd j hj c hc
  have := ab_mul (t := T j c * wt j) hy.1 hy.2
  have : ab (T j c * wt j) * 461168601842738 ≤ 509591305036225490 := by unfold ab; split <;> omega
  omega
theorem getD_all {p : Int → Prop} {l : List Int} (h : ∀ x ∈ l, p x) (k : Nat) (hk : k < l.length) : p (l.getD k 0) := by
  refine h _ ?_
  rw [List.getD_eq_getElem?_getD, List.getElem?_eq_getElem hk]
  exact List.getElem_mem _
set_option maxHeartbeats 1000000 in
theorem f31_reads (b : List Int) (hb : b.length = 64) (hbd : ∀ x ∈ b, -4611686018427387 ≤ x ∧ x ≤ 4611686018427387) (gj gb gr : Nat) (j r : Nat) (hj : j < 8) (hr : r < 8) (w : World) (hm : Mat w) (h1 : w.cell? ⟨gj, 0, none⟩ = some (.int .i64 j)) (h2 : Blk w gb b) (h3 : w.cell? ⟨gr, 0, none⟩ = some (.int .i64 r)) :
    Reads 31 [.pointer (some ⟨gj, 0, none⟩), .pointer (some ⟨gb, 0, none⟩), .pointer (some ⟨gr, 0, none⟩)] (fun c => T j c * b.getD (8 * r + c) 0) w := by
  intro c hc q
  have m1 : w.cell? ⟨0, j * 8 + c, none⟩ = some (.int .i64 (T j c)) := hm.at_ j c hj hc
  have m2 : w.cell? ⟨gb, 8 * r + c, none⟩ = some (.int .i64 (b.getD (8 * r + c) 0)) := h2.cell _ (by omega)
  have p1 := T_mul hj hc (getD_all hbd (8 * r + c) (by omega))
  dsimp only
  generalize T j c = x at *
  generalize b.getD (8 * r + c) 0 = y at *
  clear hbd hm h2
  go_enter Tryd.func31, Tryd.ntmps31
  go_wp2
  go_quiet (fail)
  go_wp2
  go_ret
  exact ⟨rfl, q + nq, by simp⟩
set_option maxHeartbeats 1000000 in
theorem f32_reads (b : List Int) (hb : b.length = 64) (hbd : ∀ x ∈ b, -4611686018427387 ≤ x ∧ x ≤ 4611686018427387) (gi gb gj : Nat) (i j : Nat) (hi : i < 8) (hj : j < 8) (w : World) (hm : Mat w) (h1 : w.cell? ⟨gi, 0, none⟩ = some (.int .i64 i)) (h2 : Blk w gb b) (h3 : w.cell? ⟨gj, 0, none⟩ = some (.int .i64 j)) :
    Reads 32 [.pointer (some ⟨gi, 0, none⟩), .pointer (some ⟨gb, 0, none⟩), .pointer (some ⟨gj, 0, none⟩)] (fun r => T i r * b.getD (8 * r + j) 0) w := by
  intro c hc q
  have m1 : w.cell? ⟨0, i * 8 + c, none⟩ = some (.int .i64 (T i c)) := hm.at_ i c hi hc
  have m2 : w.cell? ⟨gb, 8 * c + j, none⟩ = some (.int .i64 (b.getD (8 * c + j) 0)) := h2.cell _ (by omega)
  have p1 := T_mul hi hc (getD_all hbd (8 * c + j) (by omega))
  dsimp only
  generalize T i c = x at *
  generalize b.getD (8 * c + j) 0 = y at *
  clear hbd hm h2
  go_enter Tryd.func32, Tryd.ntmps32
  go_wp2
  go_quiet (fail)
  go_wp2
  go_ret
  exact ⟨rfl, q + nq, by simp⟩
/-- The weights in memory. -/
def Wts (w : World) (g : Nat) : Prop := ∀ j, j < 8 → w.cell? ⟨g, j, none⟩ = some (.int .i64 (wt j))
set_option maxHeartbeats 1000000 in
theorem f34_reads (y : List Int) (hy : y.length = 64) (hbd : ∀ x ∈ y, -461168601842738 ≤ x ∧ x ≤ 461168601842738) (gc gw gy gi : Nat) (d i : Nat) (hd : d < 8) (hi : i < 8) (w : World) (hm : Mat w) (h1 : w.cell? ⟨gc, 0, none⟩ = some (.int .i64 d)) (hw : Wts w gw) (h2 : Blk w gy y) (h3 : w.cell? ⟨gi, 0, none⟩ = some (.int .i64 i)) :
    Reads 34 [.pointer (some ⟨gc, 0, none⟩), .pointer (some ⟨gw, 0, none⟩), .pointer (some ⟨gy, 0, none⟩), .pointer (some ⟨gi, 0, none⟩)] (fun j => T j d * wt j * y.getD (8 * i + j) 0) w := by
  intro c hc q
  have m1 : w.cell? ⟨0, c * 8 + d, none⟩ = some (.int .i64 (T c d)) := hm.at_ c d hc hd
  have m2 : w.cell? ⟨gy, 8 * i + c, none⟩ = some (.int .i64 (y.getD (8 * i + c) 0)) := h2.cell _ (by omega)
  have m3 : w.cell? ⟨gw, c, none⟩ = some (.int .i64 (wt c)) := hw c hc
  have p1 := Tw_mul hc hd (getD_all hbd (8 * i + c) (by omega))
  have p2 := Tw_bd c hc d hd
  dsimp only
  generalize T c d = x at *
  generalize wt c = z at *
  generalize y.getD (8 * i + c) 0 = v at *
  clear hbd hm h2 hw
  go_enter Tryd.func34, Tryd.ntmps34
  go_wp2
  go_quiet (fail)
  go_wp2
  go_ret
  exact ⟨rfl, q + nq, by simp⟩
set_option maxHeartbeats 1000000 in
theorem f35_reads (y : List Int) (hy : y.length = 64) (hbd : ∀ x ∈ y, -461168601842738 ≤ x ∧ x ≤ 461168601842738) (gr gw gy gc : Nat) (r d : Nat) (hr : r < 8) (hd : d < 8) (w : World) (hm : Mat w) (h1 : w.cell? ⟨gr, 0, none⟩ = some (.int .i64 r)) (hw : Wts w gw) (h2 : Blk w gy y) (h3 : w.cell? ⟨gc, 0, none⟩ = some (.int .i64 d)) :
    Reads 35 [.pointer (some ⟨gr, 0, none⟩), .pointer (some ⟨gw, 0, none⟩), .pointer (some ⟨gy, 0, none⟩), .pointer (some ⟨gc, 0, none⟩)] (fun i => T i r * wt i * y.getD (8 * i + d) 0) w := by
  intro c hc q
  have m1 : w.cell? ⟨0, c * 8 + r, none⟩ = some (.int .i64 (T c r)) := hm.at_ c r hc hr
  have m2 : w.cell? ⟨gy, 8 * c + d, none⟩ = some (.int .i64 (y.getD (8 * c + d) 0)) := h2.cell _ (by omega)
  have m3 : w.cell? ⟨gw, c, none⟩ = some (.int .i64 (wt c)) := hw c hc
  have p1 := Tw_mul hc hr (getD_all hbd (8 * c + d) (by omega))
  have p2 := Tw_bd c hc r hr
  dsimp only
  generalize T c r = x at *
  generalize wt c = z at *
  generalize y.getD (8 * c + d) 0 = v at *
  clear hbd hm h2 hw
  go_enter Tryd.func35, Tryd.ntmps35
  go_wp2
  go_quiet (fail)
  go_wp2
  go_ret
  exact ⟨rfl, q + nq, by simp⟩
set_option maxHeartbeats 1000000 in
theorem f53_reads (gi : Nat) (i : Nat) (hi : i < 8) (w : World) (hm : Mat w) (h1 : w.cell? ⟨gi, 0, none⟩ = some (.int .i64 i)) :
    Reads 53 [.pointer (some ⟨gi, 0, none⟩)] (fun r => T i r * T i r) w := by
  intro c hc q
  have m1 : w.cell? ⟨0, i * 8 + c, none⟩ = some (.int .i64 (T i c)) := hm.at_ i c hi hc
  have p1 := T_mul hi hc (y := T i c) (by have := T_bd i hi c hc; omega)
  dsimp only
  generalize T i c = x at *
  clear hm
  go_enter Tryd.func53, Tryd.ntmps53
  go_wp2
  go_quiet (fail)
  go_wp2
  go_ret
  exact ⟨rfl, q + nq, by simp⟩
theorem sm_sq_bd : ∀ i, i < 8 → ∀ k, k ≤ 8 → 0 ≤ sm k (fun r => T i r * T i r) ∧ sm k (fun r => T i r * T i r) ≤ 1000 := by decide
set_option maxHeartbeats 1000000 in
theorem norm_call (i : Nat) (hi : i < 8) (w : World) (hm : Mat w) :
    Calls Tryd.prog 33 #[.int .i64 i] w fun e w' => e = .returned (.int .i64 (nrm i)) ∧ Below w.heap.size w w' := by
  have HB : Below w.heap.size w (w.alloc (.cells #[.int .i64 i] 3)) := below_alloc (Below.refl _ _) _
  have HM : Mat (w.alloc (.cells #[.int .i64 i] 3)) := hm.below HB
  have HC := Aside0.mk (sum_call 53 _ _ _ cf53 (f53_reads w.heap.size i hi _ HM (blk_cell (blk_new _ _) 0)) (fun k hk => by have := sm_sq_bd i hi k hk; omega))
  have HBA := Aside0.mk HB
  clear HB HM
  go_enter Tryd.func33, Tryd.ntmps33
  go_wp2_with fail
  refine HC.out.mono ?_
  rintro e w1 ⟨rfl, q, rfl⟩
  rw [nrm_eq i hi]
  go_wp2
  go_ret
  exact ⟨rfl, pw_below_drewN HBA.out _⟩
/-- A block's elements by a function of rows and columns. -/
def blk8 (f : Nat → Nat → Int) : List Int := (List.range 64).map fun k => f (k / 8) (k % 8)
theorem blk8_len (f : Nat → Nat → Int) : (blk8 f).length = 64 := by simp [blk8]
theorem blk8_get (f : Nat → Nat → Int) (k : Nat) (hk : k < 64) : (blk8 f).getD k 0 = f (k / 8) (k % 8) := by simp [blk8, List.getD_eq_getElem?_getD, hk]
/-- The first k elements are done. -/
def upto (f : Nat → Nat → Int) (k : Nat) : List Int := (List.range 64).map fun l => if l < k then f (l / 8) (l % 8) else 0
theorem upto_len (f : Nat → Nat → Int) (k : Nat) : (upto f k).length = 64 := by simp [upto]
theorem upto_zero (f : Nat → Nat → Int) : upto f 0 = z64 := by
  unfold upto z64
  apply List.ext_getElem
  · simp
  · intro n h1 h2
    rw [List.getElem_map, List.getElem_replicate, if_neg (by omega)]
theorem upto_all (f : Nat → Nat → Int) : upto f 64 = blk8 f := by
  unfold upto blk8
  apply List.map_congr_left
  intro l hl
  rw [if_pos (by simpa using hl)]
theorem upto_set (f : Nat → Nat → Int) (i j : Nat) (hi : i < 8) (hj : j < 8) : (upto f (8 * i + j)).set (8 * i + j) (f i j) = upto f (8 * i + j + 1) := by
  apply List.ext_getElem
  · simp [upto]
  · intro n h1 h2
    simp only [upto, List.getElem_set, List.getElem_map, List.getElem_range]
    split
    · rename_i h; rw [← h, if_pos (by omega), show (8 * i + j) / 8 = i by omega, show (8 * i + j) % 8 = j by omega]
    · by_cases h3 : n < 8 * i + j
      · rw [if_pos h3, if_pos (by omega)]
      · rw [if_neg h3, if_neg (by omega)]
theorem Blk.set {w : World} {g : Nat} {l : List Int} (h : Blk w g l) (k : Nat) (x : Int) : Blk (w.setCell ⟨g, k, none⟩ (.int .i64 x)) g (l.set k x) := by
  unfold Blk at *
  rw [blk_set h k]
  congr 2
  simp [nums]
theorem Blk.lt {w : World} {g : Nat} {l : List Int} (h : Blk w g l) : g < w.heap.size := blk_lt h
theorem Blk.far {w : World} {g b : Nat} {l : List Int} (h : Blk w g l) (hne : g ≠ b) (k : Nat) (v : Value) : Blk (w.setCell ⟨b, k, none⟩ v) g l := blk_far h hne v
theorem Blk.below {w w' : World} {g : Nat} {l : List Int} (h : Blk w g l) (hb : Below w.heap.size w w') : Blk w' g l := blk_below h hb
theorem Blk.of_below {B : Nat} {w w' : World} {g : Nat} {l : List Int} (h : Blk w g l) (hb : Below B w w') (hg : g < B) : Blk w' g l := (hb.block g hg).trans h
theorem Blk.new (w : World) (l : List Int) : Blk (w.alloc (.cells (nums .i64 l).toArray 22)) w.heap.size l := blk_new _ _
def Cel (w : World) (g : Nat) (i : Nat) : Prop := w.heap[g]? = some (.cells #[.int .i64 i] 3 (0, 0))
theorem Cel.cell {w : World} {g i : Nat} (h : Cel w g i) : w.cell? ⟨g, 0, none⟩ = some (.int .i64 i) := blk_cell h 0
theorem Mat.of_below {B : Nat} {w w' : World} (h : Mat w) (hb : Below B w w') (hB : 0 < B) : Mat w' :=
  ⟨Nat.lt_of_lt_of_le h.pos hb.size, fun i r hi hr => (hb.cell (p := ⟨0, i * 8 + r, none⟩) hB).trans (h.at_ i r hi hr)⟩
theorem heap_setRow_far (w : World) (g k : Nat) (cs : Array Value) (h : k ≠ g) : (w.setRow g cs).heap[k]? = w.heap[k]? := setRow_other w g k cs h
theorem Blk.setRow {w : World} {g : Nat} {old : List Int} (h : Blk w g old) (l : List Int) : Blk (w.setRow g (nums .i64 l).toArray) g l := setRow_heap w g _ _ _ _ h
theorem below_setRow {B : Nat} {u w : World} (h : Below B u w) {g : Nat} (hg : B ≤ g) (cs : Array Value) : Below B u (w.setRow g cs) :=
  ⟨h.os, h.tape, h.output, by have := h.size; simpa [World.setRow] using this, fun k hk => (heap_setRow_far w g k cs (by omega)).trans (h.block k hk)⟩
theorem nums_one (l : List Int) : (nums .i64 l).toArray.all (·.oneCell') = true := by
  simp [nums, Value.oneCell']
theorem store_ar {ops : Array Oper} {rest : List Oper} {o : Oper} {a : Act} {w : World} {Q : Exit → Act → World → Prop} (hgd : o.guard = none) (x y : Operand) (ho : o.op = .store 22 x y)
    (g : Nat) (hx : a.eval x = .pointer (some ⟨g, 0, none⟩)) (old l : List Int) (hy : a.eval y = ar l) (hold : Blk w g old) (ho2 : old.length = 64) (hl : l.length = 64)
    (h : wpList Tryd.prog ops Q rest (a.put o.dst undef) (w.setRow g (nums .i64 l).toArray)) : wpList Tryd.prog ops Q (o :: rest) a w :=
  wpList_store_row hgd 22 x y ho g (nums .i64 l).toArray hx hy 22 (nums .i64 old).toArray hold (info22.trans (by simp [nums_length, hl])) (by simp [nums_length, hl, ho2]) (nums_one l) h
theorem load_var_ar (w : World) (g : Nat) (l : List Int) (h : Blk w g l) (hl : l.length = 64) : (loadVar 22 ⟨g, 0, none⟩).run Tryd.prog w = .ok (ar l) w :=
  run_loadVar_row w g 22 22 (nums .i64 l).toArray (0, 0) _ h Tryd.underlying22 rfl (info22.trans (by simp [nums_length, hl]))
theorem results_ar {fn : Func} {p u : Tmp} (h : fn.results = #[.cell p 22, .tmp u]) (tmps : Array Value) (w : World) (g : Nat) (l : List Int) (hp : tmps.getD p undef = .pointer (some ⟨g, 0, none⟩)) (hg : Blk w g l) (hl : l.length = 64) :
    (results fn tmps).run Tryd.prog w = .ok (.tuple #[ar l, tmps.getD u undef]) w := by
  rw [results_cell_tmp h, hp]
  have e : (asAddr (.pointer (some (⟨g, 0, none⟩ : Addr)))).run Tryd.prog w = .ok ⟨g, 0, none⟩ w := rfl
  rw [e, Result.andThen_ok, load_var_ar w g l hg hl, Result.andThen_ok]
/-- Four blocks made one behind the other. -/
theorem chain4 (w : World) (b l2 l3 l4 : List Int) : let W := (((w.alloc (.cells (nums .i64 b).toArray 22)).alloc (.cells (nums .i64 l2).toArray 22)).alloc (.cells (nums .i64 l3).toArray 22)).alloc (.cells (nums .i64 l4).toArray 22)
    Below w.heap.size w W ∧ Blk W w.heap.size b ∧ Blk W (w.heap.size + 1) l2 ∧ Blk W (w.heap.size + 2) l3 ∧ Blk W (w.heap.size + 3) l4 ∧ W.heap.size = w.heap.size + 4 := by
  refine ⟨below_alloc (below_alloc (below_alloc (below_alloc (Below.refl _ _) _) _) _) _, blk_alloc (blk_alloc (blk_alloc (blk_new _ _) _) _) _, ?_, ?_, ?_, by simp⟩
  · have := blk_alloc (blk_alloc (blk_new (w.alloc (.cells (nums .i64 b).toArray 22)) (.cells (nums .i64 l2).toArray 22)) (.cells (nums .i64 l3).toArray 22)) (.cells (nums .i64 l4).toArray 22)
    simpa [Blk] using this
  · have := blk_alloc (blk_new ((w.alloc (.cells (nums .i64 b).toArray 22)).alloc (.cells (nums .i64 l2).toArray 22)) (.cells (nums .i64 l3).toArray 22)) (.cells (nums .i64 l4).toArray 22)
    simpa [Blk] using this
  · have := blk_new (((w.alloc (.cells (nums .i64 b).toArray 22)).alloc (.cells (nums .i64 l2).toArray 22)).alloc (.cells (nums .i64 l3).toArray 22)) (.cells (nums .i64 l4).toArray 22)
    simpa [Blk] using this
def rowsOf (b : List Int) (r j : Nat) : Int := sm 8 fun c => T j c * b.getD (8 * r + c) 0
def fwdL (b : List Int) : List Int := blk8 fun i j => sm 8 fun r => T i r * (blk8 (rowsOf b)).getD (8 * r + j) 0
end Go.Proofs.YtmbdjajmiggiaaaDoor.G08
/- Forward and Inverse (chapter 08) return what fwdL and invL say. Conditions: the matrix lies in memory, the elements are in bounds. -/
namespace Go.Proofs.YtmbdjajmiggiaaaDoor.G08f
open Go.Proofs.YtmbdjajmiggiaaaDoor.K08 Go.Proofs.YtmbdjajmiggiaaaDoor.G08
open Go.RowKit Go.Proofs.YtmbdjajmiggiaaaDoorW.PrintWords Go.Proofs.YtmbdjajmiggiaaaDoorW.PrintLast Go.Proofs.YtmbdjajmiggiaaaDoorW.PrintMore
set_option linter.unusedVariables false
set_option maxRecDepth 100000
theorem cell_far {w : World} {a b : Addr} (h : a.block ≠ b.block) (v : Value) : (w.setCell b v).cell? a = w.cell? a := World.cell?_of_block (Below.heap_setCell w b v a.block h)
/-- The blocks of both transforms. -/
structure FS (w wr : World) (b rows out : List Int) : Prop where
  bel : Below w.heap.size w wr
  sz : w.heap.size + 4 ≤ wr.heap.size
  x : Blk wr w.heap.size b
  res : Blk wr (w.heap.size + 1) z64
  rows : Blk wr (w.heap.size + 2) rows
  out : Blk wr (w.heap.size + 3) out
theorem FS.step {w wr w2 : World} {b rows out : List Int} (h : FS w wr b rows out) (hb : Below wr.heap.size wr w2) : FS w w2 b rows out :=
  ⟨below_step h.bel hb, Nat.le_trans h.sz hb.size, h.x.below hb, h.res.below hb, h.rows.below hb, h.out.below hb⟩
theorem FS.drewN {w wr : World} {b rows out : List Int} (h : FS w wr b rows out) (n : Nat) : FS w (wr.drewN n) b rows out := h.step (pw_below_drewN (Below.refl _ _) n)
theorem FS.alloc {w wr : World} {b rows out : List Int} (h : FS w wr b rows out) (o : Obj) : FS w (wr.alloc o) b rows out := h.step (below_alloc (Below.refl _ _) o)
theorem FS.setRows {w wr : World} {b rows out : List Int} (h : FS w wr b rows out) (k : Nat) (x : Int) : FS w (wr.setCell ⟨w.heap.size + 1 + 1, k, none⟩ (.int .i64 x)) b (rows.set k x) out :=
  ⟨below_set h.bel (by omega), by simpa using h.sz, h.x.far (by omega) _ _, h.res.far (by omega) _ _, h.rows.set k x, h.out.far (by omega) _ _⟩
theorem FS.setOut {w wr : World} {b rows out : List Int} (h : FS w wr b rows out) (k : Nat) (x : Int) : FS w (wr.setCell ⟨w.heap.size + 1 + 1 + 1, k, none⟩ (.int .i64 x)) b rows (out.set k x) :=
  ⟨below_set h.bel (by omega), by simpa using h.sz, h.x.far (by omega) _ _, h.res.far (by omega) _ _, h.rows.far (by omega) _ _, h.out.set k x⟩
theorem FS.setFar {w wr : World} {b rows out : List Int} (h : FS w wr b rows out) (g k : Nat) (hg : w.heap.size + 4 ≤ g) (v : Value) : FS w (wr.setCell ⟨g, k, none⟩ v) b rows out :=
  ⟨below_set h.bel (by omega), by simpa using h.sz, h.x.far (by omega) _ _, h.res.far (by omega) _ _, h.rows.far (by omega) _ _, h.out.far (by omega) _ _⟩
theorem Cel.step {w w2 : World} {g i : Nat} (h : Cel w g i) (hb : Below w.heap.size w w2) : Cel w2 g i := blk_below h hb
theorem Cel.far {w : World} {g i b : Nat} (h : Cel w g i) (hne : g ≠ b) (k : Nat) (v : Value) : Cel (w.setCell ⟨b, k, none⟩ v) g i := blk_far h hne v
theorem Cel.new (w : World) (i : Nat) : Cel (w.alloc (.cells #[.int .i64 i] 3)) w.heap.size i := blk_new _ _
theorem Wts.step {w w2 : World} {g : Nat} (h : Wts w g) (hb : Below w.heap.size w w2) (hg : g < w.heap.size) : Wts w2 g := fun j hj => (hb.cell (p := ⟨g, j, none⟩) hg).trans (h j hj)
theorem Wts.far {w : World} {g b : Nat} (h : Wts w g) (hne : g ≠ b) (k : Nat) (v : Value) : Wts (w.setCell ⟨b, k, none⟩ v) g := fun j hj => (cell_far hne v).trans (h j hj)
/-- The same with the weights. -/
structure IS (w wr : World) (gw : Nat) (b rows out : List Int) : Prop where
  fs : FS w wr b rows out
  wts : Wts wr gw
  lo : w.heap.size + 4 ≤ gw
  hi : gw < wr.heap.size
theorem IS.step {w wr w2 : World} {gw : Nat} {b rows out : List Int} (h : IS w wr gw b rows out) (hb : Below wr.heap.size wr w2) : IS w w2 gw b rows out := ⟨h.fs.step hb, Wts.step h.wts hb h.hi, h.lo, Nat.lt_of_lt_of_le h.hi hb.size⟩
theorem IS.alloc {w wr : World} {gw : Nat} {b rows out : List Int} (h : IS w wr gw b rows out) (o : Obj) : IS w (wr.alloc o) gw b rows out := h.step (below_alloc (Below.refl _ _) o)
theorem IS.drewN {w wr : World} {gw : Nat} {b rows out : List Int} (h : IS w wr gw b rows out) (n : Nat) : IS w (wr.drewN n) gw b rows out := h.step (pw_below_drewN (Below.refl _ _) n)
theorem IS.setRows {w wr : World} {gw : Nat} {b rows out : List Int} (h : IS w wr gw b rows out) (k : Nat) (x : Int) : IS w (wr.setCell ⟨w.heap.size + 1 + 1, k, none⟩ (.int .i64 x)) gw b (rows.set k x) out :=
  ⟨h.fs.setRows k x, Wts.far h.wts (by have := h.lo; omega) _ _, h.lo, by simpa using h.hi⟩
theorem IS.setOut {w wr : World} {gw : Nat} {b rows out : List Int} (h : IS w wr gw b rows out) (k : Nat) (x : Int) : IS w (wr.setCell ⟨w.heap.size + 1 + 1 + 1, k, none⟩ (.int .i64 x)) gw b rows (out.set k x) :=
  ⟨h.fs.setOut k x, Wts.far h.wts (by have := h.lo; omega) _ _, h.lo, by simpa using h.hi⟩
theorem wthn_bd {m : Int} {b : List Int} (h : wthn m b = true) : ∀ x ∈ b, -m ≤ x ∧ x ≤ m := fun x hx => by
  have := List.all_eq_true.1 h x hx
  simpa using this
theorem reachT_le : ∀ k, k ≤ 8 → ∀ i, i < 8 → sm k (fun r => ab (T i r)) ≤ 54 := by decide
theorem reach_le : ∀ k, k ≤ 8 → ∀ r, r < 8 → sm k (fun i => ab (T i r * wt i)) ≤ 3634 := by decide
theorem part_bd (k i : Nat) (hk : k ≤ 8) (hi : i < 8) (x : Nat → Int) (m : Int) (hm : 0 ≤ m) (h : ∀ j, j < 8 → -m ≤ x j ∧ x j ≤ m) : -(54 * m) ≤ sm k (fun j => T i j * x j) ∧ sm k (fun j => T i j * x j) ≤ 54 * m := by
  have h1 := sm_bd k (fun j => T i j) x m (fun j hj => h j (by omega))
  have h2 := Int.mul_le_mul_of_nonneg_right (reachT_le k hk i hi) hm
  omega
theorem partw_bd (k r : Nat) (hk : k ≤ 8) (hr : r < 8) (x : Nat → Int) (m : Int) (hm : 0 ≤ m) (h : ∀ j, j < 8 → -m ≤ x j ∧ x j ≤ m) : -(3634 * m) ≤ sm k (fun i => T i r * wt i * x i) ∧ sm k (fun i => T i r * wt i * x i) ≤ 3634 * m := by
  have h1 := sm_bd k (fun i => T i r * wt i) x m (fun j hj => h j (by omega))
  have h2 := Int.mul_le_mul_of_nonneg_right (reach_le k hk r hr) hm
  omega
theorem blk8_all {p : Int → Prop} {f : Nat → Nat → Int} (h : ∀ i j, i < 8 → j < 8 → p (f i j)) : ∀ x ∈ blk8 f, p x := by
  intro x hx
  unfold blk8 at hx
  obtain ⟨k, hk, rfl⟩ := List.mem_map.1 hx
  have := List.mem_range.1 hk
  exact h _ _ (by omega) (by omega)
theorem b_at {b : List Int} (hb : b.length = 64) {m : Int} (h : ∀ x ∈ b, -m ≤ x ∧ x ≤ m) (i j : Nat) (hi : i < 8) (hj : j < 8) : -m ≤ b.getD (8 * i + j) 0 ∧ b.getD (8 * i + j) 0 ≤ m := getD_all h _ (by omega)
theorem rows_bd (b : List Int) (hb : b.length = 64) (h : ∀ x ∈ b, -1048576 ≤ x ∧ x ≤ 1048576) (r j : Nat) (hr : r < 8) (hj : j < 8) (k : Nat) (hk : k ≤ 8) :
    -56623104 ≤ sm k (fun c => T j c * b.getD (8 * r + c) 0) ∧ sm k (fun c => T j c * b.getD (8 * r + c) 0) ≤ 56623104 := by
  have := part_bd k j hk hj (fun c => b.getD (8 * r + c) 0) 1048576 (by omega) (fun c hc => b_at hb h r c hr hc)
  omega
def outF (b : List Int) (i j : Nat) : Int := sm 8 fun r => T i r * (blk8 (rowsOf b)).getD (8 * r + j) 0
theorem fwdL_eq (b : List Int) : fwdL b = blk8 (outF b) := rfl
theorem outF_eq (b : List Int) (i j : Nat) (hi : i < 8) (hj : j < 8) : outF b i j = fwd (fun k => b.getD k 0) i j := by
  unfold outF fwd
  refine sm_congr fun r hr => ?_
  rw [blk8_get _ _ (by omega), show (8 * r + j) / 8 = r by omega, show (8 * r + j) % 8 = j by omega]
  rfl
/-- The rows of the inverse, and its elements. -/
def irows (y : List Int) (i c : Nat) : Int := sm 8 fun j => T j c * wt j * y.getD (8 * i + j) 0
def isum (y : List Int) (r c : Nat) : Int := sm 8 fun i => T i r * wt i * (blk8 (irows y)).getD (8 * i + c) 0
def outI (y : List Int) (r c : Nat) : Int := rnd (isum y r c)
def invL (y : List Int) : List Int := blk8 (outI y)
theorem isum_eq (y : List Int) (r c : Nat) (hc : c < 8) : isum y r c = inv (fun k => y.getD k 0) r c := by
  unfold isum inv
  refine sm_congr fun i hi => ?_
  rw [blk8_get _ _ (by omega), show (8 * i + c) / 8 = i by omega, show (8 * i + c) % 8 = c by omega]
  rfl
theorem irows_bd (b : List Int) (hb : b.length = 64) (h : ∀ x ∈ b, -4294967296 ≤ x ∧ x ≤ 4294967296) (i c : Nat) (hi : i < 8) (hc : c < 8) (k : Nat) (hk : k ≤ 8) :
    -15607911153664 ≤ sm k (fun j => T j c * wt j * b.getD (8 * i + j) 0) ∧ sm k (fun j => T j c * wt j * b.getD (8 * i + j) 0) ≤ 15607911153664 := by
  have := partw_bd k c hk hc (fun j => b.getD (8 * i + j) 0) 4294967296 (by omega) (fun j hj => b_at hb h i j hi hj)
  omega
set_option maxHeartbeats 4000000 in
theorem forward_call (b : List Int) (hb : b.length = 64) (w : World) (hm : Mat w) (hin : wthn 1048576 b = true) :
    Calls Tryd.prog 13 #[ar b] w fun e w' => e = .returned (.tuple #[ar (fwdL b), .int .i64 0]) ∧ Below w.heap.size w w' := by
  have HBD : Aside0 (∀ x ∈ b, -1048576 ≤ x ∧ x ≤ 1048576) := ⟨wthn_bd hin⟩
  have HRB : Aside0 (∀ x ∈ blk8 (rowsOf b), -56623104 ≤ x ∧ x ≤ 56623104) := ⟨blk8_all fun i j hi hj => rows_bd b hb HBD.out i j hi hj 8 (Nat.le_refl _)⟩
  have HL := Aside0.mk hb
  have HIN := Aside0.mk hin
  have HM := Aside0.mk hm
  clear hb hin hm
  unfold ar
  go_enter Tryd.func13, Tryd.ntmps13
  go_wp2_with (first | (refine alloc_ar rfl rfl ?_) | (refine load_ar rfl _ rfl _ rfl b HL.out (chain4 w b z64 z64 z64).2.1 ?_))
  refine (within_call b 1048576 HL.out (by omega) (by omega) _).mono ?_
  rintro e w1 ⟨rfl, hb1⟩
  rw [HIN.out]
  obtain ⟨c0, c1, c2, c3, c4, c5⟩ := chain4 w b z64 z64 z64
  have HS : Aside0 (FS w w1 b z64 z64) := ⟨⟨below_step c0 hb1, by have := hb1.size; omega, c1.below hb1, c2.below hb1, c3.below hb1, c4.below hb1⟩⟩
  clear c0 c1 c2 c3 c4 c5 hb1
  go_wp2_with fail
  go_loopw [14] (fun vo wr => ∃ r : Nat, vo = .int .i64 r ∧ r ≤ 8 ∧ Aside0 (FS w wr b (upto (rowsOf b) (8 * r)) z64)) (fun vo _ => 8 - (intOf vo).toNat)
  case atStart => exact ⟨0, rfl, by omega, ⟨by rw [Nat.mul_zero, upto_zero]; exact HS.out⟩⟩
  case round =>
    clear HS
    obtain ⟨r, rfl, hr, HS⟩ := hrel
    by_cases hlt : r < 8
    · have d0 : decide ((r : Int) < 8) = true := decide_eq_true (by omega)
      obtain ⟨wo, rfl⟩ : ∃ wo, wo = wr := ⟨_, rfl⟩
      go_wp2
      go_loopw [17] (fun vi w2 => ∃ j : Nat, vi = .int .i64 j ∧ j ≤ 8 ∧ w.heap.size + 4 ≤ wo.heap.size ∧ Aside0 (FS w w2 b (upto (rowsOf b) (8 * r + j)) z64) ∧ Aside0 (Cel w2 wo.heap.size r)) (fun vi _ => 8 - (intOf vi).toNat)
      case atStart => exact ⟨0, rfl, by omega, HS.out.sz, ⟨HS.out.alloc _⟩, ⟨blk_new _ _⟩⟩
      case round =>
        obtain ⟨j, rfl, hj, hz1, HS2, HC2⟩ := hrel
        by_cases hlt2 : j < 8
        · have d2 : decide ((j : Int) < 8) = true := decide_eq_true (by omega)
          obtain ⟨wa, hwa⟩ : ∃ wa, wr.alloc (.cells #[.int .i64 j] 3) = wa := ⟨_, rfl⟩
          have HBA : Below wr.heap.size wr wa := by rw [← hwa]; exact below_alloc (Below.refl _ _) _
          have hlo : wo.heap.size < wr.heap.size := blk_lt HC2.out
          have cj : wa.cell? ⟨wr.heap.size, 0, none⟩ = some (.int .i64 j) := by rw [← hwa]; exact blk_cell (blk_new _ _) 0
          have HCA : Aside0 (Cel wa wo.heap.size r) := ⟨blk_below HC2.out HBA⟩
          have cr : wa.cell? ⟨wo.heap.size, 0, none⟩ = some (.int .i64 r) := HCA.out.cell
          have HSA := Aside0.mk (HS2.out.step HBA)
          have HMA : Aside0 (Mat wa) := ⟨HM.out.below HSA.out.bel⟩
          have cR : wa.cell? ⟨w.heap.size + 1 + 1, 8 * r + j, none⟩ = some (.int .i64 ((upto (rowsOf b) (8 * r + j)).getD (8 * r + j) 0)) := HSA.out.rows.cell _ (by rw [upto_len]; omega)
          have fR : wa.frozen? ⟨w.heap.size + 1 + 1, 8 * r + j, none⟩ = false := blk_frozen HSA.out.rows _
          have HCALL : ∀ q, Calls Tryd.prog 30 #[.int .i64 8, .func (.func 31) #[] #[.pointer (some ⟨wr.heap.size, 0, none⟩), .pointer (some ⟨w.heap.size, 0, none⟩), .pointer (some ⟨wo.heap.size, 0, none⟩)]] (wa.drewN q) fun e w' => e = .returned (.int .i64 (rowsOf b r j)) ∧ ∃ q', w' = (wa.drewN q).drewN q' := fun q =>
            sum_call 31 _ _ _ cf31 (f31_reads b HL.out (fun x hx => by have := HBD.out x hx; omega) _ _ _ j r hlt2 hlt (wa.drewN q) (HMA.out.drewN q) cj HSA.out.x HCA.out.cell) (fun k hk => by have := rows_bd b HL.out HBD.out r j hlt hlt2 k hk; omega)
          have HCALL' := Aside0.mk HCALL
          clear HCALL HBA
          go_wp2_with fail
          clear hwa
          have k1 : IntKind.i64.wrap (8 * (r : Int)) = 8 * (r : Int) := IntWalk.i64_in _ (by omega)
          have k2 : IntKind.i64.wrap (8 * (r : Int) + (j : Int)) = 8 * (r : Int) + (j : Int) := IntWalk.i64_in _ (by omega)
          have k3 : (0 : Int) ≤ 8 * (r : Int) + (j : Int) := by omega
          have k4 : 8 * (r : Int) + (j : Int) < 64 := by omega
          have k5 : (8 * (r : Int) + (j : Int)).toNat = 8 * r + j := by omega
          go_region_held3 (fun w' => w'.cell? ⟨wo.heap.size, 0, none⟩ = some (.int .i64 r) ∧ w'.cell? ⟨wr.heap.size, 0, none⟩ = some (.int .i64 j)) (first | go_keep | exact ⟨(cell_far (by simp; omega) _).trans cr, (cell_far (by simp; omega) _).trans cj⟩) (first | (go_at_call 30; refine (HCALL'.out 1).mono ?_; rintro e w3 ⟨rfl, q, rfl⟩))
          clear k1 k2 k3 k4 k5
          go_wp2
          go_roundw
          case measure => simp [intOf]; omega
          case rel =>
            refine ⟨j + 1, by go_num, by omega, hz1, ⟨?_⟩, ⟨Cel.far (Cel.step HCA.out (pw_below_drewN (Below.refl _ _) _)) (by omega) _ _⟩⟩
            rw [← Nat.add_assoc, ← upto_set _ r j hlt hlt2]
            exact (HSA.out.drewN _).setRows _ _
        · obtain rfl : j = 8 := by omega
          go_wp2
          go_roundw
          case measure => simp [intOf]; omega
          case rel => exact ⟨r + 1, by go_num, by omega, ⟨by rw [show 8 * (r + 1) = 8 * r + 8 by omega]; exact HS2.out⟩⟩
    · obtain rfl : r = 8 := by omega
      rw [show ((8 : Nat) : Int) = 8 from rfl]
      have HS8 := HS.out
      rw [show 8 * 8 = 64 from rfl, upto_all] at HS8
      have HS := Aside0.mk HS8
      clear HS8
      go_wp2_with fail
      go_loopw [29] (fun vo wr => ∃ r : Nat, vo = .int .i64 r ∧ r ≤ 8 ∧ Aside0 (FS w wr b (blk8 (rowsOf b)) (upto (outF b) (8 * r)))) (fun vo _ => 8 - (intOf vo).toNat)
      case atStart => exact ⟨0, rfl, by omega, ⟨by rw [Nat.mul_zero, upto_zero]; exact HS.out⟩⟩
      case round =>
        clear HS
        obtain ⟨r, rfl, hr, HS⟩ := hrel
        by_cases hlt : r < 8
        · have d0 : decide ((r : Int) < 8) = true := decide_eq_true (by omega)
          obtain ⟨wo, rfl⟩ : ∃ wo, wo = wr := ⟨_, rfl⟩
          go_wp2
          go_loopw [32] (fun vi w2 => ∃ j : Nat, vi = .int .i64 j ∧ j ≤ 8 ∧ w.heap.size + 4 ≤ wo.heap.size ∧ Aside0 (FS w w2 b (blk8 (rowsOf b)) (upto (outF b) (8 * r + j))) ∧ Aside0 (Cel w2 wo.heap.size r)) (fun vi _ => 8 - (intOf vi).toNat)
          case atStart => exact ⟨0, rfl, by omega, HS.out.sz, ⟨HS.out.alloc _⟩, ⟨blk_new _ _⟩⟩
          case round =>
            obtain ⟨j, rfl, hj, hz1, HS2, HC2⟩ := hrel
            by_cases hlt2 : j < 8
            · have d2 : decide ((j : Int) < 8) = true := decide_eq_true (by omega)
              obtain ⟨wa, hwa⟩ : ∃ wa, wr.alloc (.cells #[.int .i64 j] 3) = wa := ⟨_, rfl⟩
              have HBA : Below wr.heap.size wr wa := by rw [← hwa]; exact below_alloc (Below.refl _ _) _
              have hlo : wo.heap.size < wr.heap.size := blk_lt HC2.out
              have cj : wa.cell? ⟨wr.heap.size, 0, none⟩ = some (.int .i64 j) := by rw [← hwa]; exact blk_cell (blk_new _ _) 0
              have HCA : Aside0 (Cel wa wo.heap.size r) := ⟨blk_below HC2.out HBA⟩
              have cr : wa.cell? ⟨wo.heap.size, 0, none⟩ = some (.int .i64 r) := HCA.out.cell
              have HSA := Aside0.mk (HS2.out.step HBA)
              have HMA : Aside0 (Mat wa) := ⟨HM.out.below HSA.out.bel⟩
              have cR : wa.cell? ⟨w.heap.size + 1 + 1 + 1, 8 * r + j, none⟩ = some (.int .i64 ((upto (outF b) (8 * r + j)).getD (8 * r + j) 0)) := HSA.out.out.cell _ (by rw [upto_len]; omega)
              have fR : wa.frozen? ⟨w.heap.size + 1 + 1 + 1, 8 * r + j, none⟩ = false := blk_frozen HSA.out.out _
              have HCALL : ∀ q, Calls Tryd.prog 30 #[.int .i64 8, .func (.func 32) #[] #[.pointer (some ⟨wo.heap.size, 0, none⟩), .pointer (some ⟨w.heap.size + 1 + 1, 0, none⟩), .pointer (some ⟨wr.heap.size, 0, none⟩)]] (wa.drewN q) fun e w' => e = .returned (.int .i64 (outF b r j)) ∧ ∃ q', w' = (wa.drewN q).drewN q' := fun q =>
                sum_call 32 _ _ _ cf32 (f32_reads (blk8 (rowsOf b)) (blk8_len _) (fun x hx => by have := HRB.out x hx; omega) _ _ _ r j hlt hlt2 (wa.drewN q) (HMA.out.drewN q) HCA.out.cell HSA.out.rows cj) (fun k hk => by have := part_bd k r hk hlt (fun c => (blk8 (rowsOf b)).getD (8 * c + j) 0) 56623104 (by omega) (fun c hc => b_at (blk8_len _) HRB.out c j hc hlt2); omega)
              have HCALL' := Aside0.mk HCALL
              clear HCALL HBA
              go_wp2_with fail
              clear hwa
              have k1 : IntKind.i64.wrap (8 * (r : Int)) = 8 * (r : Int) := IntWalk.i64_in _ (by omega)
              have k2 : IntKind.i64.wrap (8 * (r : Int) + (j : Int)) = 8 * (r : Int) + (j : Int) := IntWalk.i64_in _ (by omega)
              have k3 : (0 : Int) ≤ 8 * (r : Int) + (j : Int) := by omega
              have k4 : 8 * (r : Int) + (j : Int) < 64 := by omega
              have k5 : (8 * (r : Int) + (j : Int)).toNat = 8 * r + j := by omega
              go_region_held3 (fun w' => w'.cell? ⟨wo.heap.size, 0, none⟩ = some (.int .i64 r) ∧ w'.cell? ⟨wr.heap.size, 0, none⟩ = some (.int .i64 j)) (first | go_keep | exact ⟨(cell_far (by simp; omega) _).trans cr, (cell_far (by simp; omega) _).trans cj⟩) (first | (go_at_call 30; refine (HCALL'.out 1).mono ?_; rintro e w3 ⟨rfl, q, rfl⟩))
              clear k1 k2 k3 k4 k5
              go_wp2
              go_roundw
              case measure => simp [intOf]; omega
              case rel =>
                refine ⟨j + 1, by go_num, by omega, hz1, ⟨?_⟩, ⟨Cel.far (Cel.step HCA.out (pw_below_drewN (Below.refl _ _) _)) (by omega) _ _⟩⟩
                rw [← Nat.add_assoc, ← upto_set _ r j hlt hlt2]
                exact (HSA.out.drewN _).setOut _ _
            · obtain rfl : j = 8 := by omega
              go_wp2
              go_roundw
              case measure => simp [intOf]; omega
              case rel => exact ⟨r + 1, by go_num, by omega, ⟨by rw [show 8 * (r + 1) = 8 * r + 8 by omega]; exact HS2.out⟩⟩
        · obtain rfl : r = 8 := by omega
          rw [show ((8 : Nat) : Int) = 8 from rfl]
          have HS8 := HS.out
          rw [show 8 * 8 = 64 from rfl, upto_all] at HS8
          have HS := Aside0.mk HS8
          clear HS8
          go_wp2_with (first | (refine load_ar rfl _ rfl _ rfl (blk8 (outF b)) (blk8_len _) HS.out.out ?_) | (refine store_ar rfl _ _ rfl _ rfl z64 (blk8 (outF b)) rfl HS.out.res rfl (blk8_len _) ?_))
          refine bodyPost_ret (results_ar rfl _ _ _ (blk8 (outF b)) rfl (HS.out.res.setRow _) (blk8_len _)) rfl ?_
          exact ⟨rfl, below_setRow HS.out.bel (by omega) _⟩
def wl (k : Nat) : List Int := (List.range 8).map fun l => if l < k then wt l else 0
theorem wl_len (k : Nat) : (wl k).length = 8 := by simp [wl]
theorem wl_set (k : Nat) (hk : k < 8) : (wl k).set k (wt k) = wl (k + 1) := by
  apply List.ext_getElem
  · simp [wl]
  · intro n h1 h2
    simp only [wl, List.getElem_set, List.getElem_map, List.getElem_range]
    split
    · rename_i h; rw [← h, if_pos (by omega)]
    · by_cases h3 : n < k
      · rw [if_pos h3, if_pos (by omega)]
      · rw [if_neg h3, if_neg (by omega)]
def WB (w : World) (g : Nat) (l : List Int) : Prop := w.heap[g]? = some (.cells (nums .i64 l).toArray 55 (0, 0))
theorem WB.cell {w : World} {g : Nat} {l : List Int} (h : WB w g l) (k : Nat) (hk : k < l.length) : w.cell? ⟨g, k, none⟩ = some (.int .i64 (l.getD k 0)) := by
  rw [blk_cell h k]
  simp [nums, hk]
theorem WB.set {w : World} {g : Nat} {l : List Int} (h : WB w g l) (k : Nat) (x : Int) : WB (w.setCell ⟨g, k, none⟩ (.int .i64 x)) g (l.set k x) := by
  unfold WB at *
  rw [blk_set h k]
  congr 2
  simp [nums]
theorem WB.wts {w : World} {g : Nat} (h : WB w g (wl 8)) : Wts w g := fun j hj => by
  rw [h.cell j (by rw [wl_len]; exact hj)]
  simp [wl, hj]
theorem nrm_pos : ∀ k, k < 8 → (nrm k == 0) = false ∧ 0 < nrm k ∧ nrm k ≤ 442 := by decide
theorem alloc55 (w : World) : (Instr.alloc 55 true (.tuple #[])).run Tryd.prog w = .ok (.pointer (some ⟨w.heap.size, 0, none⟩)) (w.alloc (.cells (nums .i64 (wl 0)).toArray 55)) := by kernel_rfl
theorem alloc_wl {ops : Array Oper} {rest : List Oper} {o : Oper} {a : Act} {w : World} {Q : Exit → Act → World → Prop} (hgd : o.guard = none) (ho : o.op = .alloc 55)
    (h : wpList Tryd.prog ops Q rest (a.put o.dst (.pointer (some ⟨w.heap.size, 0, none⟩))) (w.alloc (.cells (nums .i64 (wl 0)).toArray 55))) : wpList Tryd.prog ops Q (o :: rest) a w :=
  wpList_plain hgd fun K hK => by
    unfold Oper.wp execOp
    simp only [ho]
    simp only [Sem.run_bind, alloc55, Sem.run_pure, Result.andThen_ok]
    exact hK _ _ h
set_option maxHeartbeats 4000000 in
theorem inverse_call (b : List Int) (hb : b.length = 64) (w : World) (hm : Mat w) (hin : wthn 4294967296 b = true) :
    Calls Tryd.prog 14 #[ar b] w fun e w' => e = .returned (.tuple #[ar (invL b), .int .i64 0]) ∧ Below w.heap.size w w' := by
  have HBD : Aside0 (∀ x ∈ b, -4294967296 ≤ x ∧ x ≤ 4294967296) := ⟨wthn_bd hin⟩
  have HRB : Aside0 (∀ x ∈ blk8 (irows b), -15607911153664 ≤ x ∧ x ≤ 15607911153664) := ⟨blk8_all fun i j hi hj => irows_bd b hb HBD.out i j hi hj 8 (Nat.le_refl _)⟩
  have HL := Aside0.mk hb
  have HIN := Aside0.mk hin
  have HM := Aside0.mk hm
  clear hb hin hm
  unfold ar
  go_enter Tryd.func14, Tryd.ntmps14
  go_wp2_with (first | (refine alloc_ar rfl rfl ?_) | (refine load_ar rfl _ rfl _ rfl b HL.out (chain4 w b z64 z64 z64).2.1 ?_))
  refine (within_call b 4294967296 HL.out (by omega) (by omega) _).mono ?_
  rintro e w1 ⟨rfl, hb1⟩
  rw [HIN.out]
  obtain ⟨c0, c1, c2, c3, c4, c5⟩ := chain4 w b z64 z64 z64
  have HS : Aside0 (FS w w1 b z64 z64) := ⟨⟨below_step c0 hb1, by have := hb1.size; omega, c1.below hb1, c2.below hb1, c3.below hb1, c4.below hb1⟩⟩
  clear c0 c1 c2 c3 c4 c5 hb1
  go_wp2_with (refine alloc_wl rfl rfl ?_)
  go_loopw [17] (fun vo wr => ∃ k : Nat, vo = .int .i64 k ∧ k ≤ 8 ∧ w1.heap.size < wr.heap.size ∧ Aside0 (Below w1.heap.size w1 wr) ∧ Aside0 (WB wr w1.heap.size (wl k))) (fun vo _ => 8 - (intOf vo).toNat)
  case atStart => exact ⟨0, rfl, by omega, by simp, ⟨below_alloc (Below.refl _ _) _⟩, ⟨blk_new _ _⟩⟩
  case round =>
    obtain ⟨k, rfl, hk, hlo, HBW, HW⟩ := hrel
    by_cases hlt : k < 8
    · have d0 : decide ((k : Int) < 8) = true := decide_eq_true (by omega)
      have HMR : Aside0 (Mat wr) := ⟨(HM.out.below HS.out.bel).below HBW.out⟩
      go_wp2_with fail
      refine (norm_call k hlt _ HMR.out).mono ?_
      rintro e w2 ⟨rfl, hb2⟩
      have HB2 := Aside0.mk hb2
      have HW2 : Aside0 (WB w2 w1.heap.size (wl k)) := ⟨blk_below HW.out hb2⟩
      have hsz := hb2.size
      have hn := nrm_pos k hlt
      have hw := wt_eq k hlt
      obtain ⟨n, hn2⟩ : ∃ n, nrm k = n := ⟨_, rfl⟩
      obtain ⟨x, hx⟩ : ∃ x, wt k = x := ⟨_, rfl⟩
      have hws := wl_set k hlt
      rw [hx] at hws
      rw [hn2] at hn ⊢
      rw [hn2, hx] at hw
      have HWS := Aside0.mk hws
      clear hws
      have cw : w2.cell? ⟨w1.heap.size, k, none⟩ = some (.int .i64 ((wl k).getD k 0)) := HW2.out.cell k (by rw [wl_len]; exact hlt)
      have fw : w2.frozen? ⟨w1.heap.size, k, none⟩ = false := blk_frozen HW2.out _
      have hn0 := hn.1
      have hn1 := hn.2.1
      have e2 : IntKind.i64.wrap ((8840 : Int).tdiv n) = x := by
        rw [Int.tdiv_eq_ediv_of_nonneg (by omega), hw]
        have := wt_bd k hlt
        exact IntWalk.i64_in _ (by omega)
      have e3 : (8840 : Int) / n = x := hw
      clear hb2 hn hn2 hx hw
      go_wp2
      go_roundw
      case measure => simp [intOf]; omega
      case rel =>
        refine ⟨k + 1, by go_num, by omega, by simpa using by omega, ⟨below_set (below_step HBW.out HB2.out) (Nat.le_refl _)⟩, ⟨?_⟩⟩
        rw [← HWS.out]
        exact HW2.out.set k x
    · obtain rfl : k = 8 := by omega
      rw [show ((8 : Nat) : Int) = 8 from rfl]
      have HS0 : Aside0 (IS w wr w1.heap.size b z64 z64) := ⟨⟨HS.out.step HBW.out, HW.out.wts, HS.out.sz, hlo⟩⟩
      clear HS
      have HS := HS0
      clear HS0 HW HBW
      go_wp2_with fail
      go_loopw [26] (fun vo wr => ∃ r : Nat, vo = .int .i64 r ∧ r ≤ 8 ∧ Aside0 (IS w wr w1.heap.size b (upto (irows b) (8 * r)) z64)) (fun vo _ => 8 - (intOf vo).toNat)
      case atStart => exact ⟨0, rfl, by omega, ⟨by rw [Nat.mul_zero, upto_zero]; exact HS.out⟩⟩
      case round =>
        clear HS
        obtain ⟨r, rfl, hr, HS⟩ := hrel
        by_cases hlt : r < 8
        · have d0 : decide ((r : Int) < 8) = true := decide_eq_true (by omega)
          obtain ⟨wo, rfl⟩ : ∃ wo, wo = wr := ⟨_, rfl⟩
          go_wp2
          go_loopw [29] (fun vi w2 => ∃ j : Nat, vi = .int .i64 j ∧ j ≤ 8 ∧ w.heap.size + 4 ≤ wo.heap.size ∧ Aside0 (IS w w2 w1.heap.size b (upto (irows b) (8 * r + j)) z64) ∧ Aside0 (Cel w2 wo.heap.size r)) (fun vi _ => 8 - (intOf vi).toNat)
          case atStart => exact ⟨0, rfl, by omega, HS.out.fs.sz, ⟨HS.out.alloc _⟩, ⟨blk_new _ _⟩⟩
          case round =>
            obtain ⟨j, rfl, hj, hz1, HS2, HC2⟩ := hrel
            by_cases hlt2 : j < 8
            · have d2 : decide ((j : Int) < 8) = true := decide_eq_true (by omega)
              obtain ⟨wa, hwa⟩ : ∃ wa, wr.alloc (.cells #[.int .i64 j] 3) = wa := ⟨_, rfl⟩
              have HBA : Below wr.heap.size wr wa := by rw [← hwa]; exact below_alloc (Below.refl _ _) _
              have hlo : wo.heap.size < wr.heap.size := blk_lt HC2.out
              have cj : wa.cell? ⟨wr.heap.size, 0, none⟩ = some (.int .i64 j) := by rw [← hwa]; exact blk_cell (blk_new _ _) 0
              have HCA : Aside0 (Cel wa wo.heap.size r) := ⟨blk_below HC2.out HBA⟩
              have cr : wa.cell? ⟨wo.heap.size, 0, none⟩ = some (.int .i64 r) := HCA.out.cell
              have HSA := Aside0.mk (HS2.out.step HBA)
              have HMA : Aside0 (Mat wa) := ⟨HM.out.below HSA.out.fs.bel⟩
              have cR : wa.cell? ⟨w.heap.size + 1 + 1, 8 * r + j, none⟩ = some (.int .i64 ((upto (irows b) (8 * r + j)).getD (8 * r + j) 0)) := HSA.out.fs.rows.cell _ (by rw [upto_len]; omega)
              have fR : wa.frozen? ⟨w.heap.size + 1 + 1, 8 * r + j, none⟩ = false := blk_frozen HSA.out.fs.rows _
              have HCALL : ∀ q, Calls Tryd.prog 30 #[.int .i64 8, .func (.func 34) #[] #[.pointer (some ⟨wr.heap.size, 0, none⟩), .pointer (some ⟨w1.heap.size, 0, none⟩), .pointer (some ⟨w.heap.size, 0, none⟩), .pointer (some ⟨wo.heap.size, 0, none⟩)]] (wa.drewN q) fun e w' => e = .returned (.int .i64 (irows b r j)) ∧ ∃ q', w' = (wa.drewN q).drewN q' := fun q =>
                sum_call 34 _ _ _ cf34 (f34_reads b HL.out (fun x hx => by have := HBD.out x hx; omega) _ _ _ _ j r hlt2 hlt (wa.drewN q) (HMA.out.drewN q) cj HSA.out.wts HSA.out.fs.x HCA.out.cell) (fun k hk => by have := irows_bd b HL.out HBD.out r j hlt hlt2 k hk; omega)
              have HCALL' := Aside0.mk HCALL
              clear HCALL HBA
              go_wp2_with fail
              clear hwa
              have k1 : IntKind.i64.wrap (8 * (r : Int)) = 8 * (r : Int) := IntWalk.i64_in _ (by omega)
              have k2 : IntKind.i64.wrap (8 * (r : Int) + (j : Int)) = 8 * (r : Int) + (j : Int) := IntWalk.i64_in _ (by omega)
              have k3 : (0 : Int) ≤ 8 * (r : Int) + (j : Int) := by omega
              have k4 : 8 * (r : Int) + (j : Int) < 64 := by omega
              have k5 : (8 * (r : Int) + (j : Int)).toNat = 8 * r + j := by omega
              go_region_held3 (fun w' => w'.cell? ⟨wo.heap.size, 0, none⟩ = some (.int .i64 r) ∧ w'.cell? ⟨wr.heap.size, 0, none⟩ = some (.int .i64 j)) (first | go_keep | exact ⟨(cell_far (by simp; omega) _).trans cr, (cell_far (by simp; omega) _).trans cj⟩) (first | (go_at_call 30; refine (HCALL'.out 1).mono ?_; rintro e w3 ⟨rfl, q, rfl⟩))
              clear k1 k2 k3 k4 k5
              go_wp2
              go_roundw
              case measure => simp [intOf]; omega
              case rel =>
                refine ⟨j + 1, by go_num, by omega, hz1, ⟨?_⟩, ⟨Cel.far (Cel.step HCA.out (pw_below_drewN (Below.refl _ _) _)) (by omega) _ _⟩⟩
                rw [← Nat.add_assoc, ← upto_set _ r j hlt hlt2]
                exact (HSA.out.drewN _).setRows _ _
            · obtain rfl : j = 8 := by omega
              go_wp2
              go_roundw
              case measure => simp [intOf]; omega
              case rel => exact ⟨r + 1, by go_num, by omega, ⟨by rw [show 8 * (r + 1) = 8 * r + 8 by omega]; exact HS2.out⟩⟩
        · obtain rfl : r = 8 := by omega
          rw [show ((8 : Nat) : Int) = 8 from rfl]
          have HS8 := HS.out
          rw [show 8 * 8 = 64 from rfl, upto_all] at HS8
          have HS := Aside0.mk HS8
          clear HS8
          go_wp2_with fail
          go_loopw [41] (fun vo wr => ∃ r : Nat, vo = .int .i64 r ∧ r ≤ 8 ∧ Aside0 (IS w wr w1.heap.size b (blk8 (irows b)) (upto (outI b) (8 * r)))) (fun vo _ => 8 - (intOf vo).toNat)
          case atStart => exact ⟨0, rfl, by omega, ⟨by rw [Nat.mul_zero, upto_zero]; exact HS.out⟩⟩
          case round =>
            clear HS
            obtain ⟨r, rfl, hr, HS⟩ := hrel
            by_cases hlt : r < 8
            · have d0 : decide ((r : Int) < 8) = true := decide_eq_true (by omega)
              obtain ⟨wo, rfl⟩ : ∃ wo, wo = wr := ⟨_, rfl⟩
              go_wp2
              go_loopw [44] (fun vi w2 => ∃ j : Nat, vi = .int .i64 j ∧ j ≤ 8 ∧ w.heap.size + 4 ≤ wo.heap.size ∧ Aside0 (IS w w2 w1.heap.size b (blk8 (irows b)) (upto (outI b) (8 * r + j))) ∧ Aside0 (Cel w2 wo.heap.size r)) (fun vi _ => 8 - (intOf vi).toNat)
              case atStart => exact ⟨0, rfl, by omega, HS.out.fs.sz, ⟨HS.out.alloc _⟩, ⟨blk_new _ _⟩⟩
              case round =>
                obtain ⟨j, rfl, hj, hz1, HS2, HC2⟩ := hrel
                by_cases hlt2 : j < 8
                · have d2 : decide ((j : Int) < 8) = true := decide_eq_true (by omega)
                  obtain ⟨wa, hwa⟩ : ∃ wa, wr.alloc (.cells #[.int .i64 j] 3) = wa := ⟨_, rfl⟩
                  have HBA : Below wr.heap.size wr wa := by rw [← hwa]; exact below_alloc (Below.refl _ _) _
                  have hlo : wo.heap.size < wr.heap.size := blk_lt HC2.out
                  have cj : wa.cell? ⟨wr.heap.size, 0, none⟩ = some (.int .i64 j) := by rw [← hwa]; exact blk_cell (blk_new _ _) 0
                  have HCA : Aside0 (Cel wa wo.heap.size r) := ⟨blk_below HC2.out HBA⟩
                  have cr : wa.cell? ⟨wo.heap.size, 0, none⟩ = some (.int .i64 r) := HCA.out.cell
                  have HSA := Aside0.mk (HS2.out.step HBA)
                  have HMA : Aside0 (Mat wa) := ⟨HM.out.below HSA.out.fs.bel⟩
                  have cR : wa.cell? ⟨w.heap.size + 1 + 1 + 1, 8 * r + j, none⟩ = some (.int .i64 ((upto (outI b) (8 * r + j)).getD (8 * r + j) 0)) := HSA.out.fs.out.cell _ (by rw [upto_len]; omega)
                  have fR : wa.frozen? ⟨w.heap.size + 1 + 1 + 1, 8 * r + j, none⟩ = false := blk_frozen HSA.out.fs.out _
                  have HCALL : ∀ q, Calls Tryd.prog 30 #[.int .i64 8, .func (.func 35) #[] #[.pointer (some ⟨wo.heap.size, 0, none⟩), .pointer (some ⟨w1.heap.size, 0, none⟩), .pointer (some ⟨w.heap.size + 1 + 1, 0, none⟩), .pointer (some ⟨wr.heap.size, 0, none⟩)]] (wa.drewN q) fun e w' => e = .returned (.int .i64 (isum b r j)) ∧ ∃ q', w' = (wa.drewN q).drewN q' := fun q =>
                    sum_call 35 _ _ _ cf35 (f35_reads (blk8 (irows b)) (blk8_len _) (fun x hx => by have := HRB.out x hx; omega) _ _ _ _ r j hlt hlt2 (wa.drewN q) (HMA.out.drewN q) HCA.out.cell HSA.out.wts HSA.out.fs.rows cj) (fun k hk => by have := partw_bd k r hk hlt (fun i => (blk8 (irows b)).getD (8 * i + j) 0) 15607911153664 (by omega) (fun i hi => b_at (blk8_len _) HRB.out i j hi hlt2); omega)
                  have HCALL' := Aside0.mk HCALL
                  clear HCALL HBA
                  go_wp2_with fail
                  clear hwa
                  refine (HCALL'.out 0).mono ?_
                  rintro e w3 ⟨rfl, q, rfl⟩
                  obtain ⟨n, hn⟩ : ∃ n, isum b r j = n := ⟨_, rfl⟩
                  have hnb := partw_bd 8 r (by omega) hlt (fun i => (blk8 (irows b)).getD (8 * i + j) 0) 15607911153664 (by omega) (fun i hi => b_at (blk8_len _) HRB.out i j hi hlt2)
                  have HNB : -(3634 * 15607911153664) ≤ n ∧ n ≤ 3634 * 15607911153664 := by rw [← hn]; exact hnb
                  have HN : Aside0 (rnd n = outI b r j) := ⟨by rw [← hn]; rfl⟩
                  clear hnb
                  rw [hn]
                  clear hn HCALL'
                  go_wp2
                  have k6 : IntKind.i64.wrap (2 * n) = 2 * n := IntWalk.i64_in _ (by omega)
                  have k7 : IntKind.i64.wrap (2 * n + 78145600) = 2 * n + 78145600 := IntWalk.i64_in _ (by omega)
                  have HFL := Aside0.mk (fun W => floor_call (2 * n + 78145600) 156291200 (by omega) (by omega) (by omega) W)
                  have k1 : IntKind.i64.wrap (8 * (r : Int)) = 8 * (r : Int) := IntWalk.i64_in _ (by omega)
                  have k2 : IntKind.i64.wrap (8 * (r : Int) + (j : Int)) = 8 * (r : Int) + (j : Int) := IntWalk.i64_in _ (by omega)
                  have k3 : (0 : Int) ≤ 8 * (r : Int) + (j : Int) := by omega
                  have k4 : 8 * (r : Int) + (j : Int) < 64 := by omega
                  have k5 : (8 * (r : Int) + (j : Int)).toNat = 8 * r + j := by omega
                  go_region_held3 (fun w' => w'.cell? ⟨wo.heap.size, 0, none⟩ = some (.int .i64 r) ∧ w'.cell? ⟨wr.heap.size, 0, none⟩ = some (.int .i64 j)) (first | go_keep | exact ⟨(cell_far (by simp; omega) _).trans cr, (cell_far (by simp; omega) _).trans cj⟩) (first | (go_at_call 36; refine (HFL.out _).mono ?_; rintro e w3 ⟨rfl, rfl⟩))
                  clear k1 k2 k3 k4 k5
                  go_wp2
                  go_roundw
                  case measure => simp [intOf]; omega
                  case rel =>
                    refine ⟨j + 1, by go_num, by omega, hz1, ⟨?_⟩, ⟨Cel.far (Cel.step HCA.out (pw_below_drewN (Below.refl _ _) _)) (by omega) _ _⟩⟩
                    rw [← Nat.add_assoc, ← upto_set _ r j hlt hlt2]
                    rw [← HN.out]
                    exact (HSA.out.drewN _).setOut _ _
                · obtain rfl : j = 8 := by omega
                  go_wp2
                  go_roundw
                  case measure => simp [intOf]; omega
                  case rel => exact ⟨r + 1, by go_num, by omega, ⟨by rw [show 8 * (r + 1) = 8 * r + 8 by omega]; exact HS2.out⟩⟩
            · obtain rfl : r = 8 := by omega
              rw [show ((8 : Nat) : Int) = 8 from rfl]
              have HS8 := HS.out
              rw [show 8 * 8 = 64 from rfl, upto_all] at HS8
              have HS := Aside0.mk HS8
              clear HS8
              go_wp2_with (first | (refine load_ar rfl _ rfl _ rfl (blk8 (outI b)) (blk8_len _) HS.out.fs.out ?_) | (refine store_ar rfl _ _ rfl _ rfl z64 (blk8 (outI b)) rfl HS.out.fs.res rfl (blk8_len _) ?_))
              refine bodyPost_ret (results_ar rfl _ _ _ (blk8 (outI b)) rfl (HS.out.fs.res.setRow _) (blk8_len _)) rfl ?_
              exact ⟨rfl, below_setRow HS.out.fs.bel (by omega) _⟩
set_option maxHeartbeats 4000000 in
theorem forward_bad (b : List Int) (hb : b.length = 64) (w : World) (hm : Mat w) (hin : wthn 1048576 b = false) :
    Calls Tryd.prog 13 #[ar b] w fun e w' => e = .returned (.tuple #[ar z64, .int .i64 2]) ∧ Below w.heap.size w w' := by
  have HL := Aside0.mk hb
  have HIN := Aside0.mk hin
  have HM := Aside0.mk hm
  clear hb hin hm
  unfold ar
  go_enter Tryd.func13, Tryd.ntmps13
  go_wp2_with (first | (refine alloc_ar rfl rfl ?_) | (refine load_ar rfl _ rfl _ rfl b HL.out (chain4 w b z64 z64 z64).2.1 ?_))
  refine (within_call b 1048576 HL.out (by omega) (by omega) _).mono ?_
  rintro e w1 ⟨rfl, hb1⟩
  rw [HIN.out]
  obtain ⟨c0, c1, c2, c3, c4, c5⟩ := chain4 w b z64 z64 z64
  have HS : Aside0 (FS w w1 b z64 z64) := ⟨⟨below_step c0 hb1, by have := hb1.size; omega, c1.below hb1, c2.below hb1, c3.below hb1, c4.below hb1⟩⟩
  clear c0 c1 c2 c3 c4 c5 hb1
  go_wp2_with (first | (refine load_ar rfl _ rfl _ rfl z64 rfl HS.out.out ?_) | (refine store_ar rfl _ _ rfl _ rfl z64 z64 rfl HS.out.res rfl rfl ?_))
  refine bodyPost_ret (results_ar rfl _ _ _ z64 rfl (HS.out.res.setRow _) rfl) rfl ?_
  exact ⟨rfl, below_setRow HS.out.bel (by omega) _⟩
set_option maxHeartbeats 4000000 in
theorem inverse_bad (b : List Int) (hb : b.length = 64) (w : World) (hm : Mat w) (hin : wthn 4294967296 b = false) :
    Calls Tryd.prog 14 #[ar b] w fun e w' => e = .returned (.tuple #[ar z64, .int .i64 2]) ∧ Below w.heap.size w w' := by
  have HL := Aside0.mk hb
  have HIN := Aside0.mk hin
  have HM := Aside0.mk hm
  clear hb hin hm
  unfold ar
  go_enter Tryd.func14, Tryd.ntmps14
  go_wp2_with (first | (refine alloc_ar rfl rfl ?_) | (refine load_ar rfl _ rfl _ rfl b HL.out (chain4 w b z64 z64 z64).2.1 ?_))
  refine (within_call b 4294967296 HL.out (by omega) (by omega) _).mono ?_
  rintro e w1 ⟨rfl, hb1⟩
  rw [HIN.out]
  obtain ⟨c0, c1, c2, c3, c4, c5⟩ := chain4 w b z64 z64 z64
  have HS : Aside0 (FS w w1 b z64 z64) := ⟨⟨below_step c0 hb1, by have := hb1.size; omega, c1.below hb1, c2.below hb1, c3.below hb1, c4.below hb1⟩⟩
  clear c0 c1 c2 c3 c4 c5 hb1
  go_wp2_with (first | (refine load_ar rfl _ rfl _ rfl z64 rfl HS.out.out ?_) | (refine store_ar rfl _ _ rfl _ rfl z64 z64 rfl HS.out.res rfl rfl ?_))
  refine bodyPost_ret (results_ar rfl _ _ _ z64 rfl (HS.out.res.setRow _) rfl) rfl ?_
  exact ⟨rfl, below_setRow HS.out.bel (by omega) _⟩
end Go.Proofs.YtmbdjajmiggiaaaDoor.G08f

