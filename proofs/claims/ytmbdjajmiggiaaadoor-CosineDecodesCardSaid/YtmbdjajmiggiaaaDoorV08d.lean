/- CosineDecodes walked (chapter 08). -/
import Derived.Test.YtmbdjajmiggiaaaDoorU08t
import Derived.Test.YtmbdjajmiggiaaaDoorV08n
namespace Go.Proofs.YtmbdjajmiggiaaaDoor.V08d
open Go.Proofs.YtmbdjajmiggiaaaDoor.K08 Go.Proofs.YtmbdjajmiggiaaaDoor.G08 Go.Proofs.YtmbdjajmiggiaaaDoor.L08 Go.Proofs.YtmbdjajmiggiaaaDoor.E08 Go.Proofs.YtmbdjajmiggiaaaDoor.N08 Go.Proofs.YtmbdjajmiggiaaaDoor.V08 Go.Proofs.YtmbdjajmiggiaaaDoor.U08d Go.Proofs.YtmbdjajmiggiaaaDoor.Y08 Go.Proofs.YtmbdjajmiggiaaaDoor.D08 Go.Proofs.YtmbdjajmiggiaaaDoor.U08t
open Go.Proofs.YtmbdjajmiggiaaaDoor.V08n (data_size data_size_le info40 load_d)
open Go.RowKit Go.Proofs.YtmbdjajmiggiaaaDoorW.PrintWords Go.Proofs.YtmbdjajmiggiaaaDoorW.PrintLast Go.Proofs.YtmbdjajmiggiaaaDoorW.PrintMore
set_option linter.unusedVariables false
set_option linter.unusedSimpArgs false
set_option maxRecDepth 100000
theorem data_len (s : ByteArray) : s.data.toList.length = s.size := rfl
theorem bytesOf_len (s : ByteArray) : (bytesOf s).length = s.size := by unfold bytesOf; simp
theorem strOf_size (l : List Int) : (strOfNums l).size = l.length := by unfold strOfNums; simp [ByteArray.size]
theorem encRes_size (s : ByteArray) (w h q : Int) : (encRes s w h q).1.size ≤ 65536 := by
  unfold encRes
  repeat' split
  all_goals first | (show 0 ≤ 65536; decide) | (rw [strOf_size]; omega)
theorem wf16 {a : Int} (h : (Lit.int .u16 a).wf = true) : 0 ≤ a ∧ a ≤ 65535 := by
  simp only [Lit.wf, Bool.and_eq_true, decide_eq_true_eq] at h
  exact h
theorem wf8 {a : Int} (h : (Lit.int .u8 a).wf = true) : 0 ≤ a ∧ a ≤ 255 := by
  simp only [Lit.wf, Bool.and_eq_true, decide_eq_true_eq] at h
  exact h
theorem bytes_frozen (W : World) (e : TypeId) (s : ByteArray) (j : Nat) (hj : j < s.size) : (Lib.bytesWorld W e s).frozen? ⟨W.heap.size, j, none⟩ = false := by
  have h := Lib.bytesWorld_at_new W e s
  have hl : s.size ≤ (Lib.bytesCells W e s).size := by
    unfold Lib.bytesCells
    rw [Array.size_append, Array.size_map]
    exact Nat.le_add_right _ _
  simp only [World.frozen?, h]
  simp
  omega
theorem bytes_cells (W : World) (e : TypeId) (s : ByteArray) (j : Nat) (hj : j < s.size) : (Lib.bytesWorld W e s).cell? ⟨W.heap.size, j, none⟩ = some (.int .u8 ((bytesOf s).getD j 0)) := by
  rw [Lib.bytesWorld_cell W e s j hj]
  unfold bytesOf
  have hml : j < s.data.toList.length := by rw [data_len]; exact hj
  simp [List.getD_eq_getElem?_getD, List.getElem?_eq_getElem hml]
theorem bytes_set (W : World) (e : TypeId) (s : ByteArray) (m : Nat) (v : Int) (hm : m < s.size) (j : Nat) (hj : j < s.size) :
    ((Lib.bytesWorld W e s).setCell ⟨W.heap.size, m, none⟩ (.int .u8 v)).cell? ⟨W.heap.size, j, none⟩ = some (.int .u8 (((bytesOf s).set m v).getD j 0)) := by
  by_cases h : m = j
  · subst h
    rw [World.cell?_setCell_same' _ _ _ (by rw [bytes_cells W e s m hj]; rfl)]
    rw [List.getD_eq_getElem?_getD, List.getElem?_set_self (by rw [bytesOf_len]; exact hj)]
    rfl
  · rw [World.cell?_setCell_other (h := by simp only [ne_eq, Addr.mk.injEq, not_and]; intro _ h2; exact absurd h2 h), bytes_cells W e s j hj, List.getD_eq_getElem?_getD, List.getD_eq_getElem?_getD, List.getElem?_set_ne h]
attribute [local go_sem] max2_int min2_int max_two min_two
set_option maxHeartbeats 4000000 in
theorem decodes_walk {w0 : World} (s : ByteArray) (hs : s.size ≤ 140737488351232) (p : Int) (hp : (Lit.int .i64 p).wf = true) (h : Int) (hh : (Lit.int .i64 h).wf = true) (q : Int) (hq : (Lit.int .i64 q).wf = true)
    (x : Dr × Option Addr × Nat) (hx : x.1.Ok) (hn : Noise w0 x.1 x.2.1) (a5 : Int) (h5 : (Lit.int .u16 a5).wf = true) (a6 : Int) (h6 : (Lit.int .u8 a6).wf = true) (w : World) (hm : Mat w) (hw : w0 = w) :
    Calls Tryd.prog 6 #[.string s, .int .i64 p, .int .i64 h, .int .i64 q, .agg (x.1.cells x.2.1 x.2.2), .int .u16 a5, .int .u8 a6] w fun e w' => e = .returned (.bool true) ∧ Below w.heap.size w w' := by
  subst hw
  obtain ⟨d, A, cp⟩ := x
  have HX := Aside0.mk hx
  have HN := Aside0.mk hn
  have HM := Aside0.mk hm
  have hsz := data_size_le d
  have HS := Aside0.mk (size_call d hx A cp)
  have HD := Aside0.mk (fun W (h : Noise W d A) => data_call d hx A cp W h)
  have HBX : Aside0 ((w0.alloc (.cells (d.cells A cp) 40)).heap[w0.heap.size]? = some (.cells (d.cells A cp) 40 (0, 0))) := ⟨blk_new _ _⟩
  have HER := Aside0.mk (fun (t : ByteArray) (ht : t.size ≤ 140737488355328) (a b c : Int) W => encode_ref t a b c ht W)
  have HDC := Aside0.mk (fun (t : ByteArray) (ht : t.size ≤ 140737488355328) (a b c : Int) W hM => decode_call t a b c ht W hM)
  have HDR := Aside0.mk (fun (t : ByteArray) (ht : t.size ≤ 140737488355328) (a b c : Int) W => decode_ref t a b c ht W)
  obtain ⟨ha0, ha1⟩ := wf16 h5
  obtain ⟨hc0, hc1⟩ := wf8 h6
  clear hx hn hm hp hh hq h5 h6
  obtain ⟨m, hm300⟩ : ∃ m : Nat, (if (300 : Int) < (s.size : Int) then (300 : Int) else (s.size : Int)) = (m : Int) := ⟨min s.size 300, by split <;> omega⟩
  have hml : m ≤ s.size := by split at hm300 <;> omega
  have hm3 : m ≤ 300 := by split at hm300 <;> omega
  unfold Dr.cells at HBX ⊢
  go_enter Tryd.func6, Tryd.ntmps6
  go_wp2_with fail
  refine (works_call _ (HM.out.below (below_alloc (Below.refl _ _) _))).mono ?_
  rintro e w1 ⟨rfl, hb1⟩
  have HB1 := Aside0.mk (below_step (below_alloc (Below.refl _ w0) _) hb1)
  have HX1 : Aside0 (w1.heap[w0.heap.size]? = some (.cells (d.cells A cp) 40 (0, 0))) := ⟨blk_below HBX.out hb1⟩
  clear hb1
  go_wp2_with (first | (refine load_d rfl _ rfl w0.heap.size rfl d A cp HX1.out ?_))
  have hex : (s.extract 0 m).size ≤ 300 := by simp; omega
  have HEX := Aside0.mk hex
  clear hm300 hml hex hm3 hs
  generalize s.extract 0 m = t at HEX ⊢
  refine (HS.out _).mono ?_
  rintro e w4 ⟨rfl, hb4⟩
  have HB4 := Aside0.mk (below_step HB1.out hb4)
  have HX4 : Aside0 (w4.heap[w0.heap.size]? = some (.cells (d.cells A cp) 40 (0, 0))) := ⟨blk_below HX1.out hb4⟩
  clear hb4 HB1 HX1
  go_wp2_with (first | (refine load_d rfl _ rfl w0.heap.size rfl d A cp HX4.out ?_))
  refine (HD.out _ (HN.out.below HB4.out)).mono ?_
  rintro e w5 ⟨rfl, hb5⟩
  have HB5 := Aside0.mk (below_step HB4.out hb5)
  have HDS : Aside0 (d.data.size ≤ 140737488355328) := ⟨by omega⟩
  clear hb5 HB4 HX4 hsz
  go_wp2_with fail
  refine (HER.out d.data HDS.out d.wn d.hn d.qn _).mono ?_
  rintro e w6 ⟨rfl, hb6⟩
  have HB6 := Aside0.mk (below_step HB5.out hb6)
  have hr6 := encRes_size d.data d.wn d.hn d.qn
  obtain ⟨⟨x0, E⟩, hR⟩ : ∃ r, encRes d.data d.wn d.hn d.qn = r := ⟨_, rfl⟩
  rw [hR] at hr6 ⊢
  simp only at hr6
  clear hb6 HB5 hR
  obtain ⟨b, hb⟩ : ∃ b, x0 ++ ⟨#[64]⟩ = b := ⟨_, rfl⟩
  have h1s : (⟨#[64]⟩ : ByteArray).size = 1 := rfl
  have hbs : b.size = x0.size + 1 := by rw [← hb, ByteArray.size_append, h1s]
  obtain ⟨m, hm, hmn⟩ : ∃ m : Nat, a5 % ((x0.size : Int) + 1) = (m : Int) ∧ m < b.size := ⟨(a5 % ((x0.size : Int) + 1)).toNat, by have := Int.emod_nonneg a5 (show (x0.size : Int) + 1 ≠ 0 by omega); omega, by have := Int.emod_lt_of_pos a5 (show (0 : Int) < (x0.size : Int) + 1 by omega); omega⟩
  have kb := print_bytes (P := Tryd.prog) 9 38 5 Tryd.underlying9 Tryd.underlying38 Tryd.underlying5 b w6
  have hf := bytes_frozen w6 5 b m (by omega)
  have hr := bytes_cells w6 5 b m (by omega)
  have kc := run_convert_bytes_arg (P := Tryd.prog) ((Lib.bytesWorld w6 5 b).setCell ⟨w6.heap.size, m, none⟩ (.int .u8 a6)) 38 5 Tryd.underlying38 Tryd.underlying5 w6.heap.size 0 b.size (grownCap w6 b.size 0 5) ((bytesOf b).set m a6) (by rw [List.length_set, bytesOf_len]) (fun i hi => by rw [Nat.zero_add]; exact bytes_set w6 5 b m _ (by omega) i hi) 9 Tryd.underlying9
  simp only [hbs] at kc
  have hx5 := HEX.out
  have hbel := bytes_below (w := w6) (W := w6) (Below.refl _ _) (Nat.le_refl _) 5 b
  have hbel2 := below_step HB6.out (hbel.setCell (p := ⟨w6.heap.size, m, none⟩) (Nat.le_refl _) (.int .u8 a6))
  clear hbel
  obtain ⟨y, hy⟩ : ∃ y, strOfNums ((bytesOf b).set m a6) = y := ⟨_, rfl⟩
  have hy3 : y.size ≤ 70000 := by rw [← hy, strOf_size, List.length_set, bytesOf_len]; omega
  simp only [hy] at kc
  obtain ⟨z, hz⟩ : ∃ z, x0 ++ t = z := ⟨_, rfl⟩
  have hz3 : z.size ≤ 70000 := by rw [← hz, ByteArray.size_append]; omega
  have HY := Aside0.mk hy3
  have HZ := Aside0.mk hz3
  clear hy
  go_wp2_with fail
  have HB7 := Aside0.mk hbel2
  obtain ⟨wA, hwA⟩ : ∃ wA, (Lib.bytesWorld w6 5 b).setCell ⟨w6.heap.size, m, none⟩ (.int .u8 a6) = wA := ⟨_, rfl⟩
  rw [hwA] at HB7 ⊢
  clear hbel2 hwA kb hf hr kc hm hmn hbs hb hx5 hr6 hy3 hz3 ha0 ha1 hc0 hc1 HB6
  have i0 : ∀ W, (Instr.index 49 (.agg #[.string t, .int .i64 p, .int .i64 h, .int .i64 q, .string z, .int .i64 d.wn, .int .i64 d.hn, .int .i64 d.qn, .string y, .int .i64 d.wn, .int .i64 d.hn, .int .i64 d.qn]) (.int .i64 0)).run Tryd.prog W = .ok (.agg #[.string t, .int .i64 p, .int .i64 h, .int .i64 q]) W := fun _ => by kernel_rfl
  have i1 : ∀ W, (Instr.index 49 (.agg #[.string t, .int .i64 p, .int .i64 h, .int .i64 q, .string z, .int .i64 d.wn, .int .i64 d.hn, .int .i64 d.qn, .string y, .int .i64 d.wn, .int .i64 d.hn, .int .i64 d.qn]) (.int .i64 1)).run Tryd.prog W = .ok (.agg #[.string z, .int .i64 d.wn, .int .i64 d.hn, .int .i64 d.qn]) W := fun _ => by kernel_rfl
  have i2 : ∀ W, (Instr.index 49 (.agg #[.string t, .int .i64 p, .int .i64 h, .int .i64 q, .string z, .int .i64 d.wn, .int .i64 d.hn, .int .i64 d.qn, .string y, .int .i64 d.wn, .int .i64 d.hn, .int .i64 d.qn]) (.int .i64 2)).run Tryd.prog W = .ok (.agg #[.string y, .int .i64 d.wn, .int .i64 d.hn, .int .i64 d.qn]) W := fun _ => by kernel_rfl

  clear hz
  go_loopw [81] (fun v wr => (v = .int .i64 0 ∨ v = .int .i64 1 ∨ v = .int .i64 2 ∨ v = .int .i64 3) ∧ Aside0 (Below w0.heap.size w0 wr)) (fun v _ => 3 - (intOf v).toNat)
  case atStart => exact ⟨.inl rfl, HB7⟩
  case round =>
    obtain ⟨hk, HB⟩ := hrel
    rcases hk with rfl | rfl | rfl | rfl
    · go_wp2_with fail
      have HBA := Aside0.mk (below_alloc HB.out (.cells #[.string t, .int .i64 p, .int .i64 h, .int .i64 q] 48))
      refine (HDC.out t (Nat.le_trans HEX.out (by decide)) p h q _ (HM.out.below HBA.out)).mono ?_
      rintro e wB ⟨rfl, hb1⟩
      obtain ⟨⟨R, N, E2⟩, hR⟩ : ∃ r, decRes t p h q = r := ⟨_, rfl⟩
      have HR := Aside0.mk hR
      rw [hR]
      have HB1 := Aside0.mk (below_step HBA.out hb1)
      have HS1 : Aside0 (wB.heap[wr.heap.size]? = some (.cells #[.string t, .int .i64 p, .int .i64 h, .int .i64 q] 48 (0, 0))) := ⟨blk_below (blk_new _ _) hb1⟩
      have s0 := blk_cell HS1.out 0
      have s1 := blk_cell HS1.out 1
      have s2 := blk_cell HS1.out 2
      have s3 := blk_cell HS1.out 3
      simp only [Array.getElem?_eq_getElem, List.getElem?_toArray, List.getElem?_cons_zero, List.getElem?_cons_succ] at s0 s1 s2 s3
      clear hR hb1
      go_wp2_with fail
      refine (HDR.out t (Nat.le_trans HEX.out (by decide)) p h q _).mono ?_
      rintro e wC ⟨rfl, hb2⟩
      rw [HR.out]
      have HB2 := Aside0.mk (below_step HB1.out hb2)
      clear hb2
      go_wp2_with fail
      exact ⟨⟨by simp, HB2⟩, by decide⟩
    · go_wp2_with fail
      have HBA := Aside0.mk (below_alloc HB.out (.cells #[.string z, .int .i64 d.wn, .int .i64 d.hn, .int .i64 d.qn] 48))
      refine (HDC.out z (Nat.le_trans HZ.out (by decide)) d.wn d.hn d.qn _ (HM.out.below HBA.out)).mono ?_
      rintro e wB ⟨rfl, hb1⟩
      obtain ⟨⟨R, N, E2⟩, hR⟩ : ∃ r, decRes z d.wn d.hn d.qn = r := ⟨_, rfl⟩
      have HR := Aside0.mk hR
      rw [hR]
      have HB1 := Aside0.mk (below_step HBA.out hb1)
      have HS1 : Aside0 (wB.heap[wr.heap.size]? = some (.cells #[.string z, .int .i64 d.wn, .int .i64 d.hn, .int .i64 d.qn] 48 (0, 0))) := ⟨blk_below (blk_new _ _) hb1⟩
      have s0 := blk_cell HS1.out 0
      have s1 := blk_cell HS1.out 1
      have s2 := blk_cell HS1.out 2
      have s3 := blk_cell HS1.out 3
      simp only [Array.getElem?_eq_getElem, List.getElem?_toArray, List.getElem?_cons_zero, List.getElem?_cons_succ] at s0 s1 s2 s3
      clear hR hb1
      go_wp2_with fail
      refine (HDR.out z (Nat.le_trans HZ.out (by decide)) d.wn d.hn d.qn _).mono ?_
      rintro e wC ⟨rfl, hb2⟩
      rw [HR.out]
      have HB2 := Aside0.mk (below_step HB1.out hb2)
      clear hb2
      go_wp2_with fail
      exact ⟨⟨by simp, HB2⟩, by decide⟩
    · go_wp2_with fail
      have HBA := Aside0.mk (below_alloc HB.out (.cells #[.string y, .int .i64 d.wn, .int .i64 d.hn, .int .i64 d.qn] 48))
      refine (HDC.out y (Nat.le_trans HY.out (by decide)) d.wn d.hn d.qn _ (HM.out.below HBA.out)).mono ?_
      rintro e wB ⟨rfl, hb1⟩
      obtain ⟨⟨R, N, E2⟩, hR⟩ : ∃ r, decRes y d.wn d.hn d.qn = r := ⟨_, rfl⟩
      have HR := Aside0.mk hR
      rw [hR]
      have HB1 := Aside0.mk (below_step HBA.out hb1)
      have HS1 : Aside0 (wB.heap[wr.heap.size]? = some (.cells #[.string y, .int .i64 d.wn, .int .i64 d.hn, .int .i64 d.qn] 48 (0, 0))) := ⟨blk_below (blk_new _ _) hb1⟩
      have s0 := blk_cell HS1.out 0
      have s1 := blk_cell HS1.out 1
      have s2 := blk_cell HS1.out 2
      have s3 := blk_cell HS1.out 3
      simp only [Array.getElem?_eq_getElem, List.getElem?_toArray, List.getElem?_cons_zero, List.getElem?_cons_succ] at s0 s1 s2 s3
      clear hR hb1
      go_wp2_with fail
      refine (HDR.out y (Nat.le_trans HY.out (by decide)) d.wn d.hn d.qn _).mono ?_
      rintro e wC ⟨rfl, hb2⟩
      rw [HR.out]
      have HB2 := Aside0.mk (below_step HB1.out hb2)
      clear hb2
      go_wp2_with fail
      exact ⟨⟨by simp, HB2⟩, by decide⟩
    · go_wp2_with fail
      go_ret
      exact ⟨rfl, HB.out⟩
end Go.Proofs.YtmbdjajmiggiaaaDoor.V08d
