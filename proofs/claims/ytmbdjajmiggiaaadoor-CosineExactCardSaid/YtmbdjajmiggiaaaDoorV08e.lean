/- CosineExact and CosineLinear walked (chapter 08). -/
import Derived.Test.YtmbdjajmiggiaaaDoorV08
import Derived.Test.YtmbdjajmiggiaaaDoorP08
namespace Go.Proofs.YtmbdjajmiggiaaaDoor.V08e
open Go.Proofs.YtmbdjajmiggiaaaDoor.K08 Go.Proofs.YtmbdjajmiggiaaaDoor.G08 Go.Proofs.YtmbdjajmiggiaaaDoor.G08f Go.Proofs.YtmbdjajmiggiaaaDoor.Z08 Go.Proofs.YtmbdjajmiggiaaaDoor.O08 Go.Proofs.YtmbdjajmiggiaaaDoor.L08 Go.Proofs.YtmbdjajmiggiaaaDoor.W08 Go.Proofs.YtmbdjajmiggiaaaDoor.P08 Go.Proofs.YtmbdjajmiggiaaaDoor.V08
open Go.RowKit Go.Proofs.YtmbdjajmiggiaaaDoorW.PrintWords Go.Proofs.YtmbdjajmiggiaaaDoorW.PrintLast Go.Proofs.YtmbdjajmiggiaaaDoorW.PrintMore
set_option linter.unusedVariables false
set_option linter.unusedSimpArgs false
set_option maxRecDepth 100000
set_option maxHeartbeats 4000000 in
theorem exact_walk (b : List Int) (hb : b.length = 64) (hwf : ∀ x ∈ b, (Lit.int .i64 x).wf = true) (w : World) (hm : Mat w) :
    Calls Tryd.prog 7 #[ar b] w fun e w' => e = .returned (.bool true) ∧ Below w.heap.size w w' := by
  have HL := Aside0.mk hb
  have HM := Aside0.mk hm
  clear hb hm
  unfold ar
  go_enter Tryd.func7, Tryd.ntmps7
  go_wp2_with fail
  refine (works_call _ (HM.out.below (below_alloc (Below.refl _ _) _))).mono ?_
  rintro e w1 ⟨rfl, hb1⟩
  have HB1 := Aside0.mk (below_step (below_alloc (Below.refl _ w) (.cells (nums .i64 b).toArray 22)) hb1)
  have HX1 := Aside0.mk (Blk.below (Blk.new w b) hb1)
  clear hb1
  go_wp2_with (refine load_ar rfl _ rfl _ rfl b HL.out HX1.out ?_)
  refine (made_call b HL.out _).mono ?_
  rintro e w2 ⟨rfl, hb2⟩
  have HB2 := Aside0.mk (below_step HB1.out hb2)
  have HX2 := Aside0.mk (HX1.out.below hb2)
  obtain ⟨m, hmm⟩ : ∃ m, madeL b = m := ⟨_, rfl⟩
  have HML : Aside0 (m.length = 64) := ⟨by rw [← hmm, madeL_len]; exact HL.out⟩
  have HMI : Aside0 (wthn 1048576 m = true) := ⟨by rw [← hmm]; exact madeL_in b⟩
  rw [hmm]
  clear hb2 hmm HB1 HX1
  have HB3 := Aside0.mk (G08.below_setRow HB2.out (Nat.le_refl _) (nums .i64 m).toArray)
  have HX3 : Aside0 (Blk (w2.setRow w.heap.size (nums .i64 m).toArray) w.heap.size m) := ⟨HX2.out.setRow m⟩
  go_wp2_with (first
    | (refine store_ar rfl _ _ rfl _ rfl b m rfl HX2.out HL.out HML.out ?_)
    | (refine load_ar rfl _ rfl _ rfl m HML.out HX3.out ?_))
  refine (forward_call m HML.out _ (HM.out.below HB3.out) HMI.out).mono ?_
  rintro e w4 ⟨rfl, hb4⟩
  have HB4 := Aside0.mk (mk_below (below_step HB3.out hb4) (fwdL m))
  have HX4 := Aside0.mk (mk_old (HX3.out.below hb4) (fwdL m))
  have HY4 := Aside0.mk (mk_new w4 (fwdL m))
  clear hb4 HB3 HX3 HB2 HX2
  go_wp2_with (first
    | (refine alloc_ar rfl rfl ?_)
    | (refine store_ar rfl _ _ rfl _ rfl z64 (fwdL m) rfl (blk_new _ _) rfl (fwdL_len _) ?_)
    | (refine load_ar rfl _ rfl _ rfl (fwdL m) (fwdL_len _) HY4.out ?_))
  refine (inverse_call (fwdL m) (fwdL_len _) _ (HM.out.below HB4.out) (fwd_in m HML.out HMI.out)).mono ?_
  rintro e w5 ⟨rfl, hb5⟩
  rw [inv_fwdL m HML.out]
  have HB5 := Aside0.mk (mk_below (below_step HB4.out hb5) m)
  have HX5 := Aside0.mk (mk_old (HX4.out.below hb5) m)
  have HY5 := Aside0.mk (mk_new w5 m)
  clear hb5 HB4 HX4 HY4
  go_wp2_with (first
    | (refine alloc_ar rfl rfl ?_)
    | (refine store_ar rfl _ _ rfl _ rfl z64 m rfl (blk_new _ _) rfl HML.out ?_)
    | (refine load_arG rfl _ rfl w5.heap.size rfl m HML.out HY5.out ?_)
    | (refine load_arG rfl _ rfl w.heap.size rfl m HML.out HX5.out ?_)
    | (refine eq_ar rfl _ _ rfl m m rfl rfl HML.out HML.out ?_))
  go_ret
  exact ⟨rfl, HB5.out⟩
end Go.Proofs.YtmbdjajmiggiaaaDoor.V08e
