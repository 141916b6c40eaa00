/- CosineEncodes walked (chapter 08). -/
import Derived.Test.YtmbdjajmiggiaaaDoorU08d
import Derived.Test.YtmbdjajmiggiaaaDoorY08
namespace Go.Proofs.YtmbdjajmiggiaaaDoor.V08n
open Go.Proofs.YtmbdjajmiggiaaaDoor.K08 Go.Proofs.YtmbdjajmiggiaaaDoor.G08 Go.Proofs.YtmbdjajmiggiaaaDoor.L08 Go.Proofs.YtmbdjajmiggiaaaDoor.E08 Go.Proofs.YtmbdjajmiggiaaaDoor.N08 Go.Proofs.YtmbdjajmiggiaaaDoor.V08 Go.Proofs.YtmbdjajmiggiaaaDoor.U08d Go.Proofs.YtmbdjajmiggiaaaDoor.Y08
open Go.RowKit Go.Proofs.YtmbdjajmiggiaaaDoorW.PrintWords Go.Proofs.YtmbdjajmiggiaaaDoorW.PrintLast Go.Proofs.YtmbdjajmiggiaaaDoorW.PrintMore
set_option linter.unusedVariables false
set_option linter.unusedSimpArgs false
set_option maxRecDepth 100000
theorem data_size (d : Dr) : d.data.size = d.wn * d.hn := by
  unfold Dr.data strOfNums
  simp [ByteArray.size, dataL_len]
theorem data_size_le (d : Dr) : d.data.size ≤ 576 := by
  rw [data_size]
  exact Nat.le_trans (Nat.mul_le_mul (wn_bd d).2 (hn_bd d).2) (by decide)
theorem info40 : (Tryd.prog.info? 40).map (·.size) = some 7 := by kernel_rfl
theorem load_d {ops : Array Oper} {rest : List Oper} {o : Oper} {a : Act} {w : World} {Q : Exit → Act → World → Prop} (hgd : o.guard = none) (x : Operand) (ho : o.op = .load 40 x)
    (g : Nat) (hx : a.eval x = .pointer (some ⟨g, 0, none⟩)) (d : Dr) (A : Option Addr) (cp : Nat) (hg : w.heap[g]? = some (.cells (d.cells A cp) 40 (0, 0)))
    (h : wpList Tryd.prog ops Q rest (a.put o.dst (.agg (d.cells A cp))) w) : wpList Tryd.prog ops Q (o :: rest) a w :=
  wpList_load_row hgd 40 x ho g hx 40 (d.cells A cp) (0, 0) _ hg Tryd.underlying40 rfl info40 h
attribute [local go_sem] max2_int min2_int max_two min_two
set_option maxHeartbeats 4000000 in
theorem encodes_walk {w0 : World} (s : ByteArray) (hs : s.size ≤ 140737488351232) (p : Int) (hp : (Lit.int .i64 p).wf = true) (h : Int) (hh : (Lit.int .i64 h).wf = true) (q : Int) (hq : (Lit.int .i64 q).wf = true)
    (x : Dr × Option Addr × Nat) (hx : x.1.Ok) (hn : Noise w0 x.1 x.2.1) (w : World) (hm : Mat w) (hw : w0 = w) :
    Calls Tryd.prog 5 #[.string s, .int .i64 p, .int .i64 h, .int .i64 q, .agg (x.1.cells x.2.1 x.2.2)] w fun e w' => e = .returned (.bool true) ∧ Below w.heap.size w w' := by
  subst hw
  obtain ⟨d, A, cp⟩ := x
  have HX := Aside0.mk hx
  have HN := Aside0.mk hn
  have HM := Aside0.mk hm
  have hsz := data_size_le d
  have HS := Aside0.mk (size_call d hx A cp)
  have HD := Aside0.mk (fun W (h : Noise W d A) => data_call d hx A cp W h)
  have HBX : Aside0 ((w0.alloc (.cells (d.cells A cp) 40)).heap[w0.heap.size]? = some (.cells (d.cells A cp) 40 (0, 0))) := ⟨blk_new _ _⟩
  have HEN := Aside0.mk (fun (t : ByteArray) (ht : t.size ≤ 140737488355328) (a b c : Int) W hM => encode_call t a b c ht W hM)
  have HER := Aside0.mk (fun (t : ByteArray) (ht : t.size ≤ 140737488355328) (a b c : Int) W => encode_ref t a b c ht W)
  clear hx hn hm hp hh hq
  obtain ⟨m, hm300⟩ : ∃ m : Nat, (if (300 : Int) < (s.size : Int) then (300 : Int) else (s.size : Int)) = (m : Int) := ⟨min s.size 300, by split <;> omega⟩
  have hml : m ≤ s.size := by split at hm300 <;> omega
  unfold Dr.cells at HBX ⊢
  go_enter Tryd.func5, Tryd.ntmps5
  go_wp2_with fail
  refine (works_call _ (HM.out.below (below_alloc (Below.refl _ _) _))).mono ?_
  rintro e w1 ⟨rfl, hb1⟩
  have HB1 := Aside0.mk (below_step (below_alloc (Below.refl _ w0) _) hb1)
  have HX1 : Aside0 (w1.heap[w0.heap.size]? = some (.cells (d.cells A cp) 40 (0, 0))) := ⟨blk_below HBX.out hb1⟩
  clear hb1
  go_wp2_with fail
  have hex : (s.extract 0 m).size ≤ 140737488355328 := by simp; omega
  have HEX := Aside0.mk hex
  clear hm300 hml hex
  generalize s.extract 0 m = t at HEX ⊢
  refine (HEN.out t HEX.out p h q _ (HM.out.below HB1.out)).mono ?_
  rintro e w2 ⟨rfl, hb2⟩
  have HB2 := Aside0.mk (below_step HB1.out hb2)
  have HX2 : Aside0 (w2.heap[w0.heap.size]? = some (.cells (d.cells A cp) 40 (0, 0))) := ⟨blk_below HX1.out hb2⟩
  obtain ⟨⟨R, E⟩, hR⟩ : ∃ r, encRes t p h q = r := ⟨_, rfl⟩
  have HR := Aside0.mk hR
  rw [hR]
  clear hb2 HB1 HX1 hR
  go_wp2_with fail
  refine (HER.out t HEX.out p h q _).mono ?_
  rintro e w3 ⟨rfl, hb3⟩
  rw [HR.out]
  have HB3 := Aside0.mk (below_step HB2.out hb3)
  have HX3 : Aside0 (w3.heap[w0.heap.size]? = some (.cells (d.cells A cp) 40 (0, 0))) := ⟨blk_below HX2.out hb3⟩
  clear hb3 HB2 HX2
  go_wp2_with (first | (refine load_d rfl _ rfl w0.heap.size rfl d A cp HX3.out ?_))
  refine (HS.out _).mono ?_
  rintro e w4 ⟨rfl, hb4⟩
  have HB4 := Aside0.mk (below_step HB3.out hb4)
  have HX4 : Aside0 (w4.heap[w0.heap.size]? = some (.cells (d.cells A cp) 40 (0, 0))) := ⟨blk_below HX3.out hb4⟩
  clear hb4 HB3 HX3
  go_wp2_with (first | (refine load_d rfl _ rfl w0.heap.size rfl d A cp HX4.out ?_))
  refine (HD.out _ (HN.out.below HB4.out)).mono ?_
  rintro e w5 ⟨rfl, hb5⟩
  have HB5 := Aside0.mk (below_step HB4.out hb5)
  have HX5 : Aside0 (w5.heap[w0.heap.size]? = some (.cells (d.cells A cp) 40 (0, 0))) := ⟨blk_below HX4.out hb5⟩
  have HDS : Aside0 (d.data.size ≤ 140737488355328) := ⟨by omega⟩
  clear hb5 HB4 HX4 hsz HEX HR
  go_wp2_with fail
  refine (HEN.out d.data HDS.out d.wn d.hn d.qn _ (HM.out.below HB5.out)).mono ?_
  rintro e w6 ⟨rfl, hb6⟩
  have HB6 := Aside0.mk (below_step HB5.out hb6)
  have HX6 : Aside0 (w6.heap[w0.heap.size]? = some (.cells (d.cells A cp) 40 (0, 0))) := ⟨blk_below HX5.out hb6⟩
  obtain ⟨⟨R2, E2⟩, hR⟩ : ∃ r, encRes d.data d.wn d.hn d.qn = r := ⟨_, rfl⟩
  have HR := Aside0.mk hR
  rw [hR]
  clear hb6 HB5 HX5 hR
  go_wp2_with (first | (refine load_d rfl _ rfl w0.heap.size rfl d A cp HX6.out ?_))
  refine (HD.out _ (HN.out.below HB6.out)).mono ?_
  rintro e w7 ⟨rfl, hb7⟩
  have HB7 := Aside0.mk (below_step HB6.out hb7)
  clear hb7 HB6 HX6
  go_wp2_with fail
  refine (HER.out d.data HDS.out d.wn d.hn d.qn _).mono ?_
  rintro e w8 ⟨rfl, hb8⟩
  rw [HR.out]
  have HB8 := Aside0.mk (below_step HB7.out hb8)
  clear hb8 HB7
  go_wp2_with fail
  go_ret
  exact ⟨rfl, HB8.out⟩
end Go.Proofs.YtmbdjajmiggiaaaDoor.V08n
