/- CosineBlocks walked (chapter 08). -/
import Derived.Test.YtmbdjajmiggiaaaDoorU08b
namespace Go.Proofs.YtmbdjajmiggiaaaDoor.V08b
open Go.Proofs.YtmbdjajmiggiaaaDoor.K08 Go.Proofs.YtmbdjajmiggiaaaDoor.G08 Go.Proofs.YtmbdjajmiggiaaaDoor.G08f Go.Proofs.YtmbdjajmiggiaaaDoor.Z08 Go.Proofs.YtmbdjajmiggiaaaDoor.O08 Go.Proofs.YtmbdjajmiggiaaaDoor.L08 Go.Proofs.YtmbdjajmiggiaaaDoor.W08 Go.Proofs.YtmbdjajmiggiaaaDoor.P08 Go.Proofs.YtmbdjajmiggiaaaDoor.V08 Go.Proofs.YtmbdjajmiggiaaaDoor.V08l Go.Proofs.YtmbdjajmiggiaaaDoor.T08 Go.Proofs.YtmbdjajmiggiaaaDoor.U08 Go.Proofs.YtmbdjajmiggiaaaDoor.U08b
open Go.RowKit Go.Proofs.YtmbdjajmiggiaaaDoorW.PrintWords Go.Proofs.YtmbdjajmiggiaaaDoorW.PrintLast Go.Proofs.YtmbdjajmiggiaaaDoorW.PrintMore
set_option linter.unusedVariables false
set_option linter.unusedSimpArgs false
set_option maxRecDepth 100000
section
variable {o : Oper} {a : Act} {S : World → Prop}
theorem y_load (x : Operand) (ho : o.op = .load 22 x) (g : Nat) (hx : a.eval x = .pointer (some ⟨g, 0, none⟩)) (l : List Int) (hl : l.length = 64) (hS : ∀ W, S W → Blk W g l) :
    ∀ W, S W → (execOp a.eval o).run Tryd.prog W = .ok (.value (ar l)) W := by
  intro W hW
  unfold execOp
  simp only [ho, hx, Instr.loadAt, Instr.sureAddr, Sem.run_bind, Sem.run_pure, Result.andThen_ok, run_loadVar_row W g 22 22 (nums .i64 l).toArray (0, 0) _ (hS W hW) Tryd.underlying22 rfl (info22.trans (by simp [nums_length, hl]))]
  rfl
theorem y_neq (x y : Operand) (ho : o.op = .binOp .neq 22 x y 22) (l1 l2 : List Int) (hx : a.eval x = ar l1) (hy : a.eval y = ar l2) (h1 : l1.length = 64) (h2 : l2.length = 64) :
    ∀ W, S W → (execOp a.eval o).run Tryd.prog W = .ok (.value (.bool (!(l1 == l2)))) W := by
  intro W _
  unfold execOp
  have e := run_equalIn_ints 9998 22 3 64 Tryd.underlying22 Tryd.underlying3 size3' l1 l2 h1 h2 W
  simp only [ho, hx, hy, ar, Sem.run_bind, run_eqGuard_agg (hm := guard22), Result.andThen_ok, run_neq_struct, e, Sem.run_pure]
theorem y_eq (x y : Operand) (ho : o.op = .binOp .eql 22 x y 22) (l1 l2 : List Int) (hx : a.eval x = ar l1) (hy : a.eval y = ar l2) (h1 : l1.length = 64) (h2 : l2.length = 64) :
    ∀ W, S W → (execOp a.eval o).run Tryd.prog W = .ok (.value (.bool (l1 == l2))) W := by
  intro W _
  unfold execOp
  have e := run_equalIn_ints 9998 22 3 64 Tryd.underlying22 Tryd.underlying3 size3' l1 l2 h1 h2 W
  simp only [ho, hx, hy, ar, Sem.run_bind, run_eqGuard_agg (hm := guard22), Result.andThen_ok, run_eql_struct, e, Sem.run_pure]
theorem y_neq_same (x y : Operand) (ho : o.op = .binOp .neq 22 x y 22) (l1 : List Int) (hx : a.eval x = ar l1) (hy : a.eval y = ar l1) (h1 : l1.length = 64) :
    ∀ W, S W → (execOp a.eval o).run Tryd.prog W = .ok (.value (.bool false)) W := by
  have := y_neq (S := S) x y ho l1 l1 hx hy h1 h1
  simpa using this
theorem y_eq_same (x y : Operand) (ho : o.op = .binOp .eql 22 x y 22) (l1 : List Int) (hx : a.eval x = ar l1) (hy : a.eval y = ar l1) (h1 : l1.length = 64) :
    ∀ W, S W → (execOp a.eval o).run Tryd.prog W = .ok (.value (.bool true)) W := by
  have := y_eq (S := S) x y ho l1 l1 hx hy h1 h1
  simpa using this
end
set_option maxHeartbeats 16000000 in
theorem blocks_walk (b : List Int) (hb : b.length = 64) (hwf : ∀ x ∈ b, (Lit.int .i64 x).wf = true) (sm : Bool) (w : World) (hm : Mat w) :
    Calls Tryd.prog 3 #[ar b, .bool sm] w fun e w' => e = .returned (.bool true) ∧ Below w.heap.size w w' := by
  have HL := Aside0.mk hb
  have HM := Aside0.mk hm
  clear hb hm hwf
  unfold ar
  go_enter Tryd.func3, Tryd.ntmps3
  go_wp2_with fail
  refine (works_call _ (HM.out.below (below_alloc (Below.refl _ _) _))).mono ?_
  rintro e w1 ⟨rfl, hb1⟩
  have HB1 := Aside0.mk (below_step (below_alloc (Below.refl _ w) (.cells (nums .i64 b).toArray 22)) hb1)
  have HX1 := Aside0.mk (Blk.below (Blk.new w b) hb1)
  clear hb1
  have key : ∀ (b : List Int) (W : World), Aside0 (b.length = 64) → Aside0 (Below w.heap.size w W) → Aside0 (Blk W w.heap.size b) →
    ∃ (X Y : List Int) (ex ey : Int) (p1 p2 : Bool), True := fun _ _ _ _ _ => ⟨[], [], 0, 0, true, true, trivial⟩
  clear key
  cases sm
  case' true =>
    go_wp2_with fail
    go_loopw [13] (fun v13 wr => ∃ k : Nat, v13 = .int .i64 k ∧ k ≤ 64 ∧ Aside0 (Below w.heap.size w wr) ∧ Aside0 (Blk wr w.heap.size (partL (fun x => x.tmod 1048577) b k))) (fun v13 _ => 64 - (intOf v13).toNat)
    case atStart => exact ⟨0, rfl, by omega, HB1, ⟨by rw [partL_zero]; exact HX1.out⟩⟩
    case' round =>
      clear HB1 HX1
      obtain ⟨k, rfl, hk, HB1, HX1⟩ := hrel
      by_cases hlt : k < 64
      case' pos =>
        have t : decide ((k : Int) < 64) = true := decide_eq_true (by omega)
        have c1 := HX1.out.cell k (by rw [partL_len, HL.out]; exact hlt)
        rw [partL_get _ _ _ (by rw [HL.out]; exact hlt)] at c1
        have hset := partL_set (fun x => x.tmod 1048577) b k (by rw [HL.out]; exact hlt)
        obtain ⟨x, hx⟩ : ∃ x, b.getD k 0 = x := ⟨_, rfl⟩
        rw [hx] at c1 hset
        have HSET := Aside0.mk hset
        have f1 : wr.frozen? ⟨w.heap.size, k, none⟩ = false := blk_frozen HX1.out k
        clear hset hx
        go_wp2_with fail
        go_roundw
        case measure => simp [intOf]; omega
        case rel => exact ⟨k + 1, by go_num, by omega, ⟨below_set HB1.out (Nat.le_refl _)⟩, ⟨by rw [← HSET.out]; exact HX1.out.set k _⟩⟩
      case' neg =>
        obtain rfl : k = 64 := by omega
        have t : decide (((64 : Nat) : Int) < 64) = false := by decide
        rw [partL_all _ _ _ (Nat.le_of_eq HL.out)] at HX1
        have HL2 : Aside0 ((b.map fun x => x.tmod 1048577).length = 64) := ⟨by rw [List.length_map]; exact HL.out⟩
        generalize (b.map fun x => x.tmod 1048577) = m at HX1 HL2
        generalize wr = wq at HB1 HX1 ⊢
  case' false =>
    have HL2 : Aside0 (∃ m : List Int, m = b ∧ m.length = 64) := ⟨b, rfl, HL.out⟩
    obtain ⟨m, rfl, hl2⟩ := HL2.out
    have HL2 := Aside0.mk hl2
    clear hl2
    generalize w1 = wq at HB1 HX1 ⊢
  all_goals
    by_cases h1 : wthn 1048576 m = true
    · have H1 := Aside0.mk h1
      have H2 := Aside0.mk (wthn_mono (show (1048576 : Int) ≤ 4294967296 by omega) h1)
      clear h1
      go_wp2_with (first | (refine load_ar rfl _ rfl w.heap.size rfl m HL2.out HX1.out ?_))
      refine (forward_call m HL2.out _ (HM.out.below HB1.out) H1.out).mono ?_
      rintro e w6 ⟨rfl, hb6⟩
      have HB6 := Aside0.mk (mk_below (below_step HB1.out hb6) (fwdL m))
      have HX6 := Aside0.mk (mk_old (HX1.out.below hb6) (fwdL m))
      have HP6 := Aside0.mk (mk_new w6 (fwdL m))
      have hs6 : w.heap.size < w6.heap.size := Nat.lt_of_lt_of_le HX1.out.lt hb6.size
      clear hb6 HB1 HX1
      go_wp2_with (first
        | (refine alloc_ar rfl rfl ?_)
        | (refine store_ar rfl _ _ rfl _ rfl z64 (fwdL m) rfl (blk_new _ _) rfl (fwdL_len _) ?_)
        | (refine load_ar rfl _ rfl w.heap.size rfl m HL2.out HX6.out ?_))
      refine (inverse_call m HL2.out _ (HM.out.below HB6.out) H2.out).mono ?_
      rintro e w7 ⟨rfl, hb7⟩
      have HB7 := Aside0.mk (mk_below (below_step HB6.out hb7) (invL m))
      have HX7 := Aside0.mk (mk_old (HX6.out.below hb7) (invL m))
      have HP7 := Aside0.mk (mk_old (HP6.out.below hb7) (invL m))
      have HQ7 := Aside0.mk (mk_new w7 (invL m))
      have hs7 : w6.heap.size < w7.heap.size := by have := HP6.out.below hb7; exact this.lt
      clear hb7 HB6 HX6 HP6
      go_wp2_with (first
        | (refine alloc_ar rfl rfl ?_)
        | (refine store_ar rfl _ _ rfl _ rfl z64 (invL m) rfl (blk_new _ _) rfl (invL_len _) ?_)
        | (refine load_ar rfl _ rfl w.heap.size rfl m HL2.out HX7.out ?_))
      refine (within_ref m 1048576 HL2.out (by omega) (by omega) _).mono ?_
      rintro e w8 ⟨rfl, hb8⟩
      rw [H1.out]
      have HB8 := Aside0.mk (below_step HB7.out hb8)
      have HX8 := Aside0.mk (HX7.out.below hb8)
      have HP8 := Aside0.mk (HP7.out.below hb8)
      have HQ8 := Aside0.mk (HQ7.out.below hb8)
      clear hb8 HB7 HX7 HP7 HQ7
      go_wp2_with fail
      refine H08.region_held (fun W => Blk W w6.heap.size (fwdL m) ∧ Blk W w.heap.size m) 1000 (by kernel_rfl) ?_
      refine H08.held_take (i := 0) (v := ?_) (some 34) rfl rfl (by kernel_rfl) (by kernel_rfl) (by kernel_rfl) (by kernel_rfl) (fun _ _ _ h => h) (Or.inl ⟨by rfl, ?_⟩) (⟨HP8.out, HX8.out⟩) ?_
      rotate_left
      · (intro W hW; obtain ⟨hW0, hW1⟩ := hW; go_simp <;> with_reducible rfl)
      try simp only [Act.put, List.setIfInBounds_toArray, List.set_cons_zero, List.set_cons_succ]
      refine H08.held_take (i := 1) (v := ?_) (some 35) rfl rfl (by kernel_rfl) (by kernel_rfl) (by kernel_rfl) (by kernel_rfl) (fun _ _ _ h => h) (Or.inl ⟨by rfl, ?_⟩) (⟨HP8.out, HX8.out⟩) ?_
      rotate_left
      · (intro W hW; obtain ⟨hW0, hW1⟩ := hW; go_simp <;> with_reducible rfl)
      try simp only [Act.put, List.setIfInBounds_toArray, List.set_cons_zero, List.set_cons_succ]
      refine H08.held_take (i := 2) (v := ?_) (some 36) rfl rfl (by kernel_rfl) (by kernel_rfl) (by kernel_rfl) (by kernel_rfl) (fun _ _ _ h => h) (Or.inl ⟨by rfl, ?_⟩) (⟨HP8.out, HX8.out⟩) ?_
      rotate_left
      · (intro W hW; obtain ⟨hW0, hW1⟩ := hW; go_simp <;> with_reducible rfl)
      try simp only [Act.put, List.setIfInBounds_toArray, List.set_cons_zero, List.set_cons_succ]
      refine H08.held_take (i := 3) (v := ar (fwdL m)) (some 37) rfl rfl (by kernel_rfl) (by kernel_rfl) (by kernel_rfl) (by kernel_rfl) (fun _ _ _ h => h) (Or.inl ⟨by rfl, y_load (.tmp 6) rfl w6.heap.size rfl (fwdL m) (fwdL_len _) (fun W hW => hW.1)⟩) (⟨HP8.out, HX8.out⟩) ?_
      try simp only [Act.put, List.setIfInBounds_toArray, List.set_cons_zero, List.set_cons_succ]
      refine H08.held_take (i := 4) (v := ar m) (some 38) rfl rfl (by kernel_rfl) (by kernel_rfl) (by kernel_rfl) (by kernel_rfl) (fun _ _ _ h => h) (Or.inl ⟨by rfl, y_load (.tmp 2) rfl w.heap.size rfl m HL2.out (fun W hW => hW.2)⟩) (⟨HP8.out, HX8.out⟩) ?_
      try simp only [Act.put, List.setIfInBounds_toArray, List.set_cons_zero, List.set_cons_succ]
      refine H08.held_one (j := 5) (by kernel_rfl) rfl (fun K hK => ?_)
      refine goes_ (N := some 39) (f := 16) Tryd.func16 (by kernel_rfl) rfl #[ar m] (by rfl) rfl rfl (by simp only [List.map_toArray, List.map_cons, List.map_nil]; rfl) ?_
      refine (coefs_ref m HL2.out H1.out _).mono ?_
      rintro e w9 ⟨rfl, hb9⟩
      refine ⟨_, rfl, ?_⟩
      have HB9 := Aside0.mk (below_step HB8.out.drew hb9)
      have HX9 := Aside0.mk (Blk.below (w := w8.drew) HX8.out hb9)
      have HP9 := Aside0.mk (Blk.below (w := w8.drew) HP8.out hb9)
      have HQ9 := Aside0.mk (Blk.below (w := w8.drew) HQ8.out hb9)
      clear hb9 HB8 HX8 HP8 HQ8
      refine hK.out _ _ (fun _ => ⟨HP9.out, HX9.out⟩) ?_
      clear hK
      try simp only [Act.put, List.setIfInBounds_toArray, List.set_cons_zero, List.set_cons_succ]
      refine H08.held_take (i := 6) (v := .bool false) (some 40) rfl rfl (by kernel_rfl) (by kernel_rfl) (by kernel_rfl) (by kernel_rfl) (fun _ _ _ h => h) (Or.inl ⟨by rfl, y_neq_same (.tmp 37) (.tmp 39) rfl (fwdL m) rfl rfl (fwdL_len _)⟩) (⟨HP9.out, HX9.out⟩) ?_
      try simp only [Act.put, List.setIfInBounds_toArray, List.set_cons_zero, List.set_cons_succ]
      refine H08.held_take (i := 7) (v := ?_) (some 41) rfl rfl (by kernel_rfl) (by kernel_rfl) (by kernel_rfl) (by kernel_rfl) (fun _ _ _ h => h) (Or.inl ⟨by rfl, ?_⟩) (⟨HP9.out, HX9.out⟩) ?_
      rotate_left
      · (intro W hW; obtain ⟨hW0, hW1⟩ := hW; go_simp <;> with_reducible rfl)
      try simp only [Act.put, List.setIfInBounds_toArray, List.set_cons_zero, List.set_cons_succ]
      refine H08.held_done (by kernel_rfl) ?_ _
      go_wp2_with (first
        | (refine load_ar rfl _ rfl w.heap.size rfl m HL2.out HX9.out ?_))
      refine (within_ref m 4294967296 HL2.out (by omega) (by omega) _).mono ?_
      rintro e w10 ⟨rfl, hb10⟩
      rw [H2.out]
      have HB10 := Aside0.mk (below_step HB9.out hb10)
      have HX10 := Aside0.mk (HX9.out.below hb10)
      have HP10 := Aside0.mk (HP9.out.below hb10)
      have HQ10 := Aside0.mk (HQ9.out.below hb10)
      clear hb10 HB9 HX9 HP9 HQ9
      go_wp2_with fail
      refine H08.region_held (fun W => Blk W w7.heap.size (invL m) ∧ Blk W w.heap.size m) 1000 (by kernel_rfl) ?_
      refine H08.held_take (i := 0) (v := ?_) (some 51) rfl rfl (by kernel_rfl) (by kernel_rfl) (by kernel_rfl) (by kernel_rfl) (fun _ _ _ h => h) (Or.inl ⟨by rfl, ?_⟩) (⟨HQ10.out, HX10.out⟩) ?_
      rotate_left
      · (intro W hW; obtain ⟨hW0, hW1⟩ := hW; go_simp <;> with_reducible rfl)
      try simp only [Act.put, List.setIfInBounds_toArray, List.set_cons_zero, List.set_cons_succ]
      refine H08.held_take (i := 1) (v := ?_) (some 52) rfl rfl (by kernel_rfl) (by kernel_rfl) (by kernel_rfl) (by kernel_rfl) (fun _ _ _ h => h) (Or.inl ⟨by rfl, ?_⟩) (⟨HQ10.out, HX10.out⟩) ?_
      rotate_left
      · (intro W hW; obtain ⟨hW0, hW1⟩ := hW; go_simp <;> with_reducible rfl)
      try simp only [Act.put, List.setIfInBounds_toArray, List.set_cons_zero, List.set_cons_succ]
      refine H08.held_take (i := 2) (v := ?_) (some 53) rfl rfl (by kernel_rfl) (by kernel_rfl) (by kernel_rfl) (by kernel_rfl) (fun _ _ _ h => h) (Or.inl ⟨by rfl, ?_⟩) (⟨HQ10.out, HX10.out⟩) ?_
      rotate_left
      · (intro W hW; obtain ⟨hW0, hW1⟩ := hW; go_simp <;> with_reducible rfl)
      try simp only [Act.put, List.setIfInBounds_toArray, List.set_cons_zero, List.set_cons_succ]
      refine H08.held_take (i := 3) (v := ar (invL m)) (some 54) rfl rfl (by kernel_rfl) (by kernel_rfl) (by kernel_rfl) (by kernel_rfl) (fun _ _ _ h => h) (Or.inl ⟨by rfl, y_load (.tmp 8) rfl w7.heap.size rfl (invL m) (invL_len _) (fun W hW => hW.1)⟩) (⟨HQ10.out, HX10.out⟩) ?_
      try simp only [Act.put, List.setIfInBounds_toArray, List.set_cons_zero, List.set_cons_succ]
      refine H08.held_take (i := 4) (v := ar m) (some 55) rfl rfl (by kernel_rfl) (by kernel_rfl) (by kernel_rfl) (by kernel_rfl) (fun _ _ _ h => h) (Or.inl ⟨by rfl, y_load (.tmp 2) rfl w.heap.size rfl m HL2.out (fun W hW => hW.2)⟩) (⟨HQ10.out, HX10.out⟩) ?_
      try simp only [Act.put, List.setIfInBounds_toArray, List.set_cons_zero, List.set_cons_succ]
      refine H08.held_one (j := 5) (by kernel_rfl) rfl (fun K hK => ?_)
      refine goes_ (N := some 56) (f := 17) Tryd.func17 (by kernel_rfl) rfl #[ar m] (by rfl) rfl rfl (by simp only [List.map_toArray, List.map_cons, List.map_nil]; rfl) ?_
      refine (block_ref m HL2.out H2.out _).mono ?_
      rintro e w11 ⟨rfl, hb11⟩
      refine ⟨_, rfl, ?_⟩
      have HB11 := Aside0.mk (below_step HB10.out.drew hb11)
      have HX11 := Aside0.mk (Blk.below (w := w10.drew) HX10.out hb11)
      have HQ11 := Aside0.mk (Blk.below (w := w10.drew) HQ10.out hb11)
      clear hb11 HB10 HX10 HQ10
      refine hK.out _ _ (fun _ => ⟨HQ11.out, HX11.out⟩) ?_
      clear hK
      try simp only [Act.put, List.setIfInBounds_toArray, List.set_cons_zero, List.set_cons_succ]
      refine H08.held_take (i := 6) (v := .bool true) (some 57) rfl rfl (by kernel_rfl) (by kernel_rfl) (by kernel_rfl) (by kernel_rfl) (fun _ _ _ h => h) (Or.inl ⟨by rfl, y_eq_same (.tmp 54) (.tmp 56) rfl (invL m) rfl rfl (invL_len _)⟩) (⟨HQ11.out, HX11.out⟩) ?_
      try simp only [Act.put, List.setIfInBounds_toArray, List.set_cons_zero, List.set_cons_succ]
      refine H08.held_take (i := 7) (v := ?_) (some 58) rfl rfl (by kernel_rfl) (by kernel_rfl) (by kernel_rfl) (by kernel_rfl) (fun _ _ _ h => h) (Or.inl ⟨by rfl, ?_⟩) (⟨HQ11.out, HX11.out⟩) ?_
      rotate_left
      · (intro W hW; obtain ⟨hW0, hW1⟩ := hW; go_simp <;> with_reducible rfl)
      try simp only [Act.put, List.setIfInBounds_toArray, List.set_cons_zero, List.set_cons_succ]
      refine H08.held_take (i := 8) (v := ?_) (some 4) rfl rfl (by kernel_rfl) (by kernel_rfl) (by kernel_rfl) (by kernel_rfl) (fun _ _ _ h => h) (Or.inl ⟨by rfl, ?_⟩) (⟨HQ11.out, HX11.out⟩) ?_
      rotate_left
      · (intro W hW; obtain ⟨hW0, hW1⟩ := hW; go_simp <;> with_reducible rfl)
      try simp only [Act.put, List.setIfInBounds_toArray, List.set_cons_zero, List.set_cons_succ]
      refine H08.held_done (by kernel_rfl) ?_ _
      go_wp2_with fail
      go_ret
      exact ⟨rfl, HB11.out⟩
    · have h1' : wthn 1048576 m = false := by simpa using h1
      by_cases h2 : wthn 4294967296 m = true
      · have H1 := Aside0.mk h1'
        have H2 := Aside0.mk h2
        clear h1 h1' h2
        go_wp2_with (first | (refine load_ar rfl _ rfl w.heap.size rfl m HL2.out HX1.out ?_))
        refine (forward_bad m HL2.out _ (HM.out.below HB1.out) H1.out).mono ?_
        rintro e w6 ⟨rfl, hb6⟩
        have HB6 := Aside0.mk (mk_below (below_step HB1.out hb6) (z64))
        have HX6 := Aside0.mk (mk_old (HX1.out.below hb6) (z64))
        have HP6 := Aside0.mk (mk_new w6 (z64))
        have hs6 : w.heap.size < w6.heap.size := Nat.lt_of_lt_of_le HX1.out.lt hb6.size
        clear hb6 HB1 HX1
        go_wp2_with (first
          | (refine alloc_ar rfl rfl ?_)
          | (refine store_ar rfl _ _ rfl _ rfl z64 (z64) rfl (blk_new _ _) rfl (rfl) ?_)
          | (refine load_ar rfl _ rfl w.heap.size rfl m HL2.out HX6.out ?_))
        refine (inverse_call m HL2.out _ (HM.out.below HB6.out) H2.out).mono ?_
        rintro e w7 ⟨rfl, hb7⟩
        have HB7 := Aside0.mk (mk_below (below_step HB6.out hb7) (invL m))
        have HX7 := Aside0.mk (mk_old (HX6.out.below hb7) (invL m))
        have HP7 := Aside0.mk (mk_old (HP6.out.below hb7) (invL m))
        have HQ7 := Aside0.mk (mk_new w7 (invL m))
        have hs7 : w6.heap.size < w7.heap.size := by have := HP6.out.below hb7; exact this.lt
        clear hb7 HB6 HX6 HP6
        go_wp2_with (first
          | (refine alloc_ar rfl rfl ?_)
          | (refine store_ar rfl _ _ rfl _ rfl z64 (invL m) rfl (blk_new _ _) rfl (invL_len _) ?_)
          | (refine load_ar rfl _ rfl w.heap.size rfl m HL2.out HX7.out ?_))
        refine (within_ref m 1048576 HL2.out (by omega) (by omega) _).mono ?_
        rintro e w8 ⟨rfl, hb8⟩
        rw [H1.out]
        have HB8 := Aside0.mk (below_step HB7.out hb8)
        have HX8 := Aside0.mk (HX7.out.below hb8)
        have HP8 := Aside0.mk (HP7.out.below hb8)
        have HQ8 := Aside0.mk (HQ7.out.below hb8)
        clear hb8 HB7 HX7 HP7 HQ7
        go_wp2_with (first
          | (refine load_ar rfl _ rfl w.heap.size rfl m HL2.out HX8.out ?_)
          | (refine load_arG rfl _ rfl w6.heap.size rfl z64 rfl HP8.out ?_)
          | (refine build_zero rfl rfl ?_)
          | (refine ne_ar rfl _ _ rfl z64 z64 rfl rfl rfl rfl ?_))
        refine (within_ref m 4294967296 HL2.out (by omega) (by omega) _).mono ?_
        rintro e w10 ⟨rfl, hb10⟩
        rw [H2.out]
        have HB10 := Aside0.mk (below_step HB8.out hb10)
        have HX10 := Aside0.mk (HX8.out.below hb10)
        have HP10 := Aside0.mk (HP8.out.below hb10)
        have HQ10 := Aside0.mk (HQ8.out.below hb10)
        clear hb10 HB8 HX8 HP8 HQ8
        go_wp2_with fail
        refine H08.region_held (fun W => Blk W w7.heap.size (invL m) ∧ Blk W w.heap.size m) 1000 (by kernel_rfl) ?_
        refine H08.held_take (i := 0) (v := ?_) (some 51) rfl rfl (by kernel_rfl) (by kernel_rfl) (by kernel_rfl) (by kernel_rfl) (fun _ _ _ h => h) (Or.inl ⟨by rfl, ?_⟩) (⟨HQ10.out, HX10.out⟩) ?_
        rotate_left
        · (intro W hW; obtain ⟨hW0, hW1⟩ := hW; go_simp <;> with_reducible rfl)
        try simp only [Act.put, List.setIfInBounds_toArray, List.set_cons_zero, List.set_cons_succ]
        refine H08.held_take (i := 1) (v := ?_) (some 52) rfl rfl (by kernel_rfl) (by kernel_rfl) (by kernel_rfl) (by kernel_rfl) (fun _ _ _ h => h) (Or.inl ⟨by rfl, ?_⟩) (⟨HQ10.out, HX10.out⟩) ?_
        rotate_left
        · (intro W hW; obtain ⟨hW0, hW1⟩ := hW; go_simp <;> with_reducible rfl)
        try simp only [Act.put, List.setIfInBounds_toArray, List.set_cons_zero, List.set_cons_succ]
        refine H08.held_take (i := 2) (v := ?_) (some 53) rfl rfl (by kernel_rfl) (by kernel_rfl) (by kernel_rfl) (by kernel_rfl) (fun _ _ _ h => h) (Or.inl ⟨by rfl, ?_⟩) (⟨HQ10.out, HX10.out⟩) ?_
        rotate_left
        · (intro W hW; obtain ⟨hW0, hW1⟩ := hW; go_simp <;> with_reducible rfl)
        try simp only [Act.put, List.setIfInBounds_toArray, List.set_cons_zero, List.set_cons_succ]
        refine H08.held_take (i := 3) (v := ar (invL m)) (some 54) rfl rfl (by kernel_rfl) (by kernel_rfl) (by kernel_rfl) (by kernel_rfl) (fun _ _ _ h => h) (Or.inl ⟨by rfl, y_load (.tmp 8) rfl w7.heap.size rfl (invL m) (invL_len _) (fun W hW => hW.1)⟩) (⟨HQ10.out, HX10.out⟩) ?_
        try simp only [Act.put, List.setIfInBounds_toArray, List.set_cons_zero, List.set_cons_succ]
        refine H08.held_take (i := 4) (v := ar m) (some 55) rfl rfl (by kernel_rfl) (by kernel_rfl) (by kernel_rfl) (by kernel_rfl) (fun _ _ _ h => h) (Or.inl ⟨by rfl, y_load (.tmp 2) rfl w.heap.size rfl m HL2.out (fun W hW => hW.2)⟩) (⟨HQ10.out, HX10.out⟩) ?_
        try simp only [Act.put, List.setIfInBounds_toArray, List.set_cons_zero, List.set_cons_succ]
        refine H08.held_one (j := 5) (by kernel_rfl) rfl (fun K hK => ?_)
        refine goes_ (N := some 56) (f := 17) Tryd.func17 (by kernel_rfl) rfl #[ar m] (by rfl) rfl rfl (by simp only [List.map_toArray, List.map_cons, List.map_nil]; rfl) ?_
        refine (block_ref m HL2.out H2.out _).mono ?_
        rintro e w11 ⟨rfl, hb11⟩
        refine ⟨_, rfl, ?_⟩
        have HB11 := Aside0.mk (below_step HB10.out.drew hb11)
        have HX11 := Aside0.mk (Blk.below (w := w10.drew) HX10.out hb11)
        have HQ11 := Aside0.mk (Blk.below (w := w10.drew) HQ10.out hb11)
        clear hb11 HB10 HX10 HQ10
        refine hK.out _ _ (fun _ => ⟨HQ11.out, HX11.out⟩) ?_
        clear hK
        try simp only [Act.put, List.setIfInBounds_toArray, List.set_cons_zero, List.set_cons_succ]
        refine H08.held_take (i := 6) (v := .bool true) (some 57) rfl rfl (by kernel_rfl) (by kernel_rfl) (by kernel_rfl) (by kernel_rfl) (fun _ _ _ h => h) (Or.inl ⟨by rfl, y_eq_same (.tmp 54) (.tmp 56) rfl (invL m) rfl rfl (invL_len _)⟩) (⟨HQ11.out, HX11.out⟩) ?_
        try simp only [Act.put, List.setIfInBounds_toArray, List.set_cons_zero, List.set_cons_succ]
        refine H08.held_take (i := 7) (v := ?_) (some 58) rfl rfl (by kernel_rfl) (by kernel_rfl) (by kernel_rfl) (by kernel_rfl) (fun _ _ _ h => h) (Or.inl ⟨by rfl, ?_⟩) (⟨HQ11.out, HX11.out⟩) ?_
        rotate_left
        · (intro W hW; obtain ⟨hW0, hW1⟩ := hW; go_simp <;> with_reducible rfl)
        try simp only [Act.put, List.setIfInBounds_toArray, List.set_cons_zero, List.set_cons_succ]
        refine H08.held_take (i := 8) (v := ?_) (some 4) rfl rfl (by kernel_rfl) (by kernel_rfl) (by kernel_rfl) (by kernel_rfl) (fun _ _ _ h => h) (Or.inl ⟨by rfl, ?_⟩) (⟨HQ11.out, HX11.out⟩) ?_
        rotate_left
        · (intro W hW; obtain ⟨hW0, hW1⟩ := hW; go_simp <;> with_reducible rfl)
        try simp only [Act.put, List.setIfInBounds_toArray, List.set_cons_zero, List.set_cons_succ]
        refine H08.held_done (by kernel_rfl) ?_ _
        go_wp2_with fail
        go_ret
        exact ⟨rfl, HB11.out⟩
      · have h2' : wthn 4294967296 m = false := by simpa using h2
        have H1 := Aside0.mk h1'
        have H2 := Aside0.mk h2'
        clear h1 h1' h2 h2'
        go_wp2_with (first | (refine load_ar rfl _ rfl w.heap.size rfl m HL2.out HX1.out ?_))
        refine (forward_bad m HL2.out _ (HM.out.below HB1.out) H1.out).mono ?_
        rintro e w6 ⟨rfl, hb6⟩
        have HB6 := Aside0.mk (mk_below (below_step HB1.out hb6) (z64))
        have HX6 := Aside0.mk (mk_old (HX1.out.below hb6) (z64))
        have HP6 := Aside0.mk (mk_new w6 (z64))
        have hs6 : w.heap.size < w6.heap.size := Nat.lt_of_lt_of_le HX1.out.lt hb6.size
        clear hb6 HB1 HX1
        go_wp2_with (first
          | (refine alloc_ar rfl rfl ?_)
          | (refine store_ar rfl _ _ rfl _ rfl z64 (z64) rfl (blk_new _ _) rfl (rfl) ?_)
          | (refine load_ar rfl _ rfl w.heap.size rfl m HL2.out HX6.out ?_))
        refine (inverse_bad m HL2.out _ (HM.out.below HB6.out) H2.out).mono ?_
        rintro e w7 ⟨rfl, hb7⟩
        have HB7 := Aside0.mk (mk_below (below_step HB6.out hb7) (z64))
        have HX7 := Aside0.mk (mk_old (HX6.out.below hb7) (z64))
        have HP7 := Aside0.mk (mk_old (HP6.out.below hb7) (z64))
        have HQ7 := Aside0.mk (mk_new w7 (z64))
        have hs7 : w6.heap.size < w7.heap.size := by have := HP6.out.below hb7; exact this.lt
        clear hb7 HB6 HX6 HP6
        go_wp2_with (first
          | (refine alloc_ar rfl rfl ?_)
          | (refine store_ar rfl _ _ rfl _ rfl z64 (z64) rfl (blk_new _ _) rfl (rfl) ?_)
          | (refine load_ar rfl _ rfl w.heap.size rfl m HL2.out HX7.out ?_))
        refine (within_ref m 1048576 HL2.out (by omega) (by omega) _).mono ?_
        rintro e w8 ⟨rfl, hb8⟩
        rw [H1.out]
        have HB8 := Aside0.mk (below_step HB7.out hb8)
        have HX8 := Aside0.mk (HX7.out.below hb8)
        have HP8 := Aside0.mk (HP7.out.below hb8)
        have HQ8 := Aside0.mk (HQ7.out.below hb8)
        clear hb8 HB7 HX7 HP7 HQ7
        go_wp2_with (first
          | (refine load_ar rfl _ rfl w.heap.size rfl m HL2.out HX8.out ?_)
          | (refine load_arG rfl _ rfl w6.heap.size rfl z64 rfl HP8.out ?_)
          | (refine build_zero rfl rfl ?_)
          | (refine ne_ar rfl _ _ rfl z64 z64 rfl rfl rfl rfl ?_))
        refine (within_ref m 4294967296 HL2.out (by omega) (by omega) _).mono ?_
        rintro e w10 ⟨rfl, hb10⟩
        rw [H2.out]
        have HB10 := Aside0.mk (below_step HB8.out hb10)
        have HX10 := Aside0.mk (HX8.out.below hb10)
        have HP10 := Aside0.mk (HP8.out.below hb10)
        have HQ10 := Aside0.mk (HQ8.out.below hb10)
        clear hb10 HB8 HX8 HP8 HQ8
        go_wp2_with (first
          | (refine load_arG rfl _ rfl w7.heap.size rfl z64 rfl HQ10.out ?_)
          | (refine build_zero rfl rfl ?_)
          | (refine eq_ar rfl _ _ rfl z64 z64 rfl rfl rfl rfl ?_))
        go_ret
        exact ⟨rfl, HB10.out⟩
end Go.Proofs.YtmbdjajmiggiaaaDoor.V08b
