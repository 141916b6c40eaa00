/- CosineNear: what Encode and Decode answer (chapter 08), in plain Lean; and its walk. -/
import Derived.Test.YtmbdjajmiggiaaaDoorL08n
import Derived.Test.YtmbdjajmiggiaaaDoorV08n
namespace Go.Proofs.YtmbdjajmiggiaaaDoor.V08w
open Go.Proofs.YtmbdjajmiggiaaaDoor.K08 Go.Proofs.YtmbdjajmiggiaaaDoor.G08 Go.Proofs.YtmbdjajmiggiaaaDoor.L08 Go.Proofs.YtmbdjajmiggiaaaDoor.E08 Go.Proofs.YtmbdjajmiggiaaaDoor.N08 Go.Proofs.YtmbdjajmiggiaaaDoor.V08 Go.Proofs.YtmbdjajmiggiaaaDoor.Y08 Go.Proofs.YtmbdjajmiggiaaaDoor.D08 Go.Proofs.YtmbdjajmiggiaaaDoor.L08n Go.Proofs.YtmbdjajmiggiaaaDoor.O08
open Go.Proofs.YtmbdjajmiggiaaaDoor.V08n (data_size data_size_le info40 load_d)
open Go.RowKit Go.Proofs.YtmbdjajmiggiaaaDoorW.PrintWords Go.Proofs.YtmbdjajmiggiaaaDoorW.PrintLast Go.Proofs.YtmbdjajmiggiaaaDoorW.PrintMore
set_option linter.unusedVariables false
set_option linter.unusedSimpArgs false
set_option maxRecDepth 100000
theorem blkC_oct : ∀ (vs : List Int) (z : Nat), (∀ v ∈ vs, -1048576 ≤ v ∧ v ≤ 1048575) → z + vs.length ≤ 64 → Oct (blkC vs z)
  | [], z, _, _ => Oct.one (by decide) (by decide)
  | v :: vs, z, hv, hz => by
    simp only [List.length_cons] at hz
    have hv2 : ∀ x ∈ vs, -1048576 ≤ x ∧ x ≤ 1048575 := fun x hx => hv x (List.mem_cons_of_mem _ hx)
    unfold blkC
    split
    · exact blkC_oct vs (z + 1) hv2 (by omega)
    · have hb := hv v List.mem_cons_self
      have h1 := digs_range 2 (zig v) (zig_nonneg v) (by have := zig_lt hb.1 hb.2; simp only [bnd]; omega)
      refine fun d hd => ?_
      rcases List.mem_cons.1 hd with rfl | hd
      · omega
      · rcases List.mem_append.1 hd with h | h
        · have := h1 d h; omega
        · exact blkC_oct vs 0 hv2 (by omega) d h
theorem codeL_oct (b : List Int) (hb : b.length = 64) (h : ∀ x ∈ b, -128 ≤ x ∧ x ≤ 128) (q : Int) (hq : 1 ≤ q) : Oct (codeL b q) := by
  unfold codeL
  refine blkC_oct _ 0 (fun v hv => ?_) (by rw [qnt_len]; omega)
  obtain ⟨k, hk, rfl⟩ := List.getElem_of_mem hv
  rw [qnt_len] at hk
  have := qnt_bd b hb h q hq k hk
  rw [List.getD_eq_getElem?_getD, List.getElem?_eq_getElem (by rw [qnt_len]; exact hk)] at this
  simp only [Option.getD_some] at this
  omega
theorem encAll_oct (s : ByteArray) (w h : Nat) (q : Int) (hq : 1 ≤ q) (m : Nat) : Oct (encAll s w h q m) := by
  intro d hd
  unfold encAll encRow at hd
  obtain ⟨i, _, hd⟩ := List.mem_flatMap.1 hd
  obtain ⟨j, _, hd⟩ := List.mem_flatMap.1 hd
  exact codeL_oct _ (encB_len _ _ _ _ _) (encB_bd _ _ _ _ _) q hq d hd
/-- What the law asks of one step. -/
structure NearR (s : ByteArray) (w h q : Int) (x : ByteArray) : Prop where
  enc : encRes s w h q = (x, 0)
  size : x.size ≤ 20000
  dec : ∀ more : ByteArray, more.size ≤ 20 → ∃ y, decRes (x ++ more) w h q = (y, (x.size : Int), 0) ∧ y.size = s.size ∧ (q = 1 → y = s) ∧ ∀ i, i < s.size → bAt s i - (17 * q + 100) / 200 ≤ bAt y i ∧ bAt y i ≤ bAt s i + (17 * q + 100) / 200
  part : ∀ i, i < x.size → decRes (x.extract 0 i) w h q = (⟨#[]⟩, 0, 5)
theorem sizes_zero (n : Nat) (w h q : Int) (hn : n ≤ 65536) (hw1 : 1 ≤ w) (hw2 : w ≤ 128) (hh1 : 1 ≤ h) (hh2 : h ≤ 128) (hq1 : 1 ≤ q) (hq2 : q ≤ 255) : sizes n w h q = 0 := by
  unfold sizes okArgs
  rw [if_neg (by omega), if_pos (by simp only [decide_eq_true_eq]; omega)]
theorem bAt_eq {y s : ByteArray} (hs : y.size = s.size) (h : ∀ i, i < s.size → bAt y i = bAt s i) : y = s := by
  refine bytesOf_inj (List.ext_getElem (by rw [bytesOf_len, bytesOf_len, hs]) fun i h1 h2 => ?_)
  rw [bytesOf_len] at h2
  have := h i h2
  unfold bAt at this
  rw [List.getD_eq_getElem?_getD, List.getD_eq_getElem?_getD, List.getElem?_eq_getElem (by rw [bytesOf_len, hs]; exact h2), List.getElem?_eq_getElem (by rw [bytesOf_len]; exact h2)] at this
  exact this
theorem near_res (s : ByteArray) (w h q : Nat) (hw1 : 1 ≤ w) (hw2 : w ≤ 24) (hh1 : 1 ≤ h) (hh2 : h ≤ 24) (hq1 : 1 ≤ q) (hq2 : q ≤ 255) (hs : s.size = w * h) : ∃ x, NearR s w h q x := by
  have hwh : w * h ≤ 576 := Nat.le_trans (Nat.mul_le_mul hw2 hh2) (by decide)
  obtain ⟨L, hL⟩ : ∃ L, encAll s w h q (nb h) = L := ⟨_, rfl⟩
  have hlen := encAll_len s w h q (by omega) (nb h)
  rw [hL] at hlen
  have hnb : nb h ≤ 3 := by unfold nb; omega
  have hlen2 : L.length ≤ 12336 := Nat.le_trans hlen (Nat.le_trans (Nat.mul_le_mul_left 4112 hnb) (by decide))
  have hoct : Oct L := by rw [← hL]; exact encAll_oct s w h q (by omega) _
  have hxb := bytesOf_strOf L hoct
  have hxs := strOf_size L
  have hz := near_zero w h ((17 * (q : Int) + 100) / 200) s
  refine ⟨strOfNums L, ?_, by omega, fun more hm => ?_, fun i hi => ?_⟩
  · unfold encRes
    rw [sizes_zero _ _ _ _ (by omega) (by omega) (by omega) (by omega) (by omega) (by omega) (by omega), if_neg (by simp), if_neg (by rw [hs]; simp), Int.toNat_natCast, Int.toNat_natCast, hL, if_neg (by omega)]
  · obtain ⟨o, e, ho⟩ := dec_all (q := q) (by omega) s _ hz (nb h) (bytesOf more)
    rw [hL] at e
    have hsz : (strOfNums L ++ more).size = L.length + more.size := by rw [ByteArray.size_append, hxs]
    have hnear : ∀ i, i < s.size → bAt s i - (17 * (q : Int) + 100) / 200 ≤ o.getD i 0 ∧ o.getD i 0 ≤ bAt s i + (17 * (q : Int) + 100) / 200 ∧ 0 ≤ o.getD i 0 ∧ o.getD i 0 ≤ 255 := fun i hi => by
      rw [hs] at hi
      have h1 : i / w < h := Nat.div_lt_of_lt_mul hi
      have h2 : i % w < w := Nat.mod_lt _ (by omega)
      have h3 := ho.2 (i / w) (i % w) h1 h2 (by unfold nb; omega)
      rw [Nat.div_add_mod] at h3
      exact h3
    have hoo : Oct o := fun d hd => by
      obtain ⟨k, hk, rfl⟩ := List.getElem_of_mem hd
      have := hnear k (by rw [hs, ← ho.1]; exact hk)
      rw [List.getD_eq_getElem?_getD, List.getElem?_eq_getElem hk] at this
      simp only [Option.getD_some] at this
      omega
    have hb : ∀ i, bAt (strOfNums o) i = o.getD i 0 := fun i => by unfold bAt; rw [bytesOf_strOf o hoo]
    have hys : (strOfNums o).size = s.size := by rw [strOf_size, ho.1, hs]
    refine ⟨strOfNums o, ?_, hys, fun h1 => bAt_eq hys fun i hi => ?_, fun i hi => ?_⟩
    · unfold decRes
      rw [sizes_zero _ _ _ _ (by omega) (by omega) (by omega) (by omega) (by omega) (by omega) (by omega), if_neg (by simp), Int.toNat_natCast, Int.toNat_natCast, bytesOf_append, hxb, e]
      simp only
      rw [hsz, hxs, bytesOf_len]
      congr 2
      omega
    · rw [hb]
      have := hnear i hi
      omega
    · rw [hb]
      have := hnear i hi
      omega
  · rw [hxs] at hi
    unfold decRes
    rw [sizes_zero _ _ _ _ (by rw [ByteArray.size_extract]; omega) (by omega) (by omega) (by omega) (by omega) (by omega) (by omega), if_neg (by simp), Int.toNat_natCast, Int.toNat_natCast, bytesOf_extract, hxb, List.drop_zero, Nat.sub_zero]
    rw [all_part (q := q) (by omega) s _ hz (nb h) (L.take i) (L.drop i) (by intro e; have := congrArg List.length e; rw [List.length_drop] at this; simp only [List.length_nil] at this; omega) (by rw [hL, List.take_append_drop])]
theorem strAt2 (s : ByteArray) (i : Nat) (h : i < s.size) : ((s[i]'h).toNat : Int) = bAt s i := strAt s i h
attribute [local go_sem] max2_int min2_int max_two min_two
theorem stepAt (q : Nat) (h1 : 1 ≤ q) (h2 : q ≤ 255) (k : Nat) (hk : k < 2) : ∃ st : Nat, 1 ≤ st ∧ st ≤ 255 ∧ ∀ W, (Instr.index 57 (.agg #[.int .i64 (q : Int), .int .i64 1]) (.int .i64 k)).run Tryd.prog W = .ok (.int .i64 (st : Int)) W := by
  rcases (show k = 0 ∨ k = 1 by omega) with rfl | rfl
  · exact ⟨q, h1, h2, fun _ => by kernel_rfl⟩
  · exact ⟨1, by omega, by omega, fun _ => by kernel_rfl⟩
set_option maxHeartbeats 4000000 in
theorem near_walk {w0 : World} (x : Dr × Option Addr × Nat) (hx : x.1.Ok) (hn : Noise w0 x.1 x.2.1) (more : ByteArray) (hs : more.size ≤ 140737488351232) (w : World) (hm : Mat w) (hw : w0 = w) :
    Calls Tryd.prog 9 #[.agg (x.1.cells x.2.1 x.2.2), .string more] w fun e w' => e = .returned (.bool true) ∧ Below w.heap.size w w' := by
  subst hw
  obtain ⟨d, A, cp⟩ := x
  have HX := Aside0.mk hx
  have HN := Aside0.mk hn
  have HM := Aside0.mk hm
  have hsz := data_size_le d
  have HS := Aside0.mk (size_call d hx A cp)
  have HD := Aside0.mk (fun W (h : Noise W d A) => data_call d hx A cp W h)
  have HBX : Aside0 ((w0.alloc (.cells (d.cells A cp) 40)).heap[w0.heap.size]? = some (.cells (d.cells A cp) 40 (0, 0))) := ⟨blk_new _ _⟩
  have HEN := Aside0.mk (fun (t : ByteArray) (ht : t.size ≤ 140737488355328) (a b c : Int) W hM => encode_call t a b c ht W hM)
  have HDC := Aside0.mk (fun (t : ByteArray) (ht : t.size ≤ 140737488355328) (a b c : Int) W hM => decode_call t a b c ht W hM)
  have hq : 1 ≤ d.qn ∧ d.qn ≤ 255 := by have := hx.q; unfold Dr.qn; omega
  have HQ := Aside0.mk hq
  have HNR := Aside0.mk (fun (q : Nat) (h1 : 1 ≤ q) (h2 : q ≤ 255) => near_res d.data d.wn d.hn q (wn_bd d).1 (wn_bd d).2 (hn_bd d).1 (hn_bd d).2 h1 h2 (data_size d))
  clear hx hn hm hq
  obtain ⟨m, hm20⟩ : ∃ m : Nat, (if (20 : Int) < (more.size : Int) then (20 : Int) else (more.size : Int)) = (m : Int) := ⟨min more.size 20, by split <;> omega⟩
  have hml : m ≤ more.size := by split at hm20 <;> omega
  have hm3 : m ≤ 20 := by split at hm20 <;> omega
  have HMO : Aside0 ((more.extract 0 m).size ≤ 20) := ⟨by rw [ByteArray.size_extract]; omega⟩
  have HM3 := Aside0.mk hm3
  unfold Dr.cells at HBX ⊢
  go_enter Tryd.func9, Tryd.ntmps9
  go_wp2_with fail
  refine (works_call _ (HM.out.below (below_alloc (Below.refl _ _) _))).mono ?_
  rintro e w1 ⟨rfl, hb1⟩
  have HB1 := Aside0.mk (below_step (below_alloc (Below.refl _ w0) _) hb1)
  have HX1 : Aside0 (w1.heap[w0.heap.size]? = some (.cells (d.cells A cp) 40 (0, 0))) := ⟨blk_below HBX.out hb1⟩
  clear hb1
  go_wp2_with (first | (refine load_d rfl _ rfl w0.heap.size rfl d A cp HX1.out ?_))
  refine (HD.out _ (HN.out.below HB1.out)).mono ?_
  rintro e w5 ⟨rfl, hb5⟩
  have HB5 := Aside0.mk (below_step HB1.out hb5)
  have HX5 : Aside0 (w5.heap[w0.heap.size]? = some (.cells (d.cells A cp) 40 (0, 0))) := ⟨blk_below HX1.out hb5⟩
  have HDS : Aside0 (d.data.size ≤ 576) := ⟨by omega⟩
  clear hb5 HB1 HX1 hsz HBX
  go_wp2_with (first | (refine load_d rfl _ rfl w0.heap.size rfl d A cp HX5.out ?_))
  refine (HS.out _).mono ?_
  rintro e w6 ⟨rfl, hb6⟩
  have HB6 := Aside0.mk (below_step HB5.out hb6)
  clear hb6 HB5 HX5 HS HD HN HX
  obtain ⟨s, hs0⟩ : ∃ s, d.data = s := ⟨_, rfl⟩
  obtain ⟨q0, hq0⟩ : ∃ q0, d.qn = q0 := ⟨_, rfl⟩
  obtain ⟨wn, hwn⟩ : ∃ wn, d.wn = wn := ⟨_, rfl⟩
  obtain ⟨hn, hhn⟩ : ∃ hn, d.hn = hn := ⟨_, rfl⟩
  rw [hs0, hwn, hhn] at HNR
  rw [hs0] at HDS
  rw [hq0] at HQ
  rw [hs0, hq0, hwn, hhn]
  clear hs0 hq0 hwn hhn
  go_wp2_with fail
  go_loopw [35] (fun v wr => ∃ k : Nat, v = .int .i64 (k : Int) ∧ k ≤ 2 ∧ Aside0 (Below w0.heap.size w0 wr)) (fun v _ => 2 - (intOf v).toNat)
  case atStart => exact ⟨0, rfl, by omega, HB6⟩
  case round =>
    obtain ⟨k, rfl, hk, HB⟩ := hrel
    by_cases hlt : k < 2
    · obtain ⟨st, h1, h2, hix⟩ := stepAt q0 HQ.out.1 HQ.out.2 k hlt
      obtain ⟨x, HR⟩ := HNR.out st h1 h2
      have HB2 := Aside0.mk (bound_call st (by omega) (by omega))
      have t0 : decide ((k : Int) < 2) = true := decide_eq_true (by omega)
      have HK := Aside0.mk hlt
      have HST := Aside0.mk (show 1 ≤ st ∧ st ≤ 255 from ⟨h1, h2⟩)
      clear h1 h2 hk hlt
      go_wp2_with fail
      refine (HEN.out s (Nat.le_trans HDS.out (by decide)) wn hn st _ (HM.out.below HB.out)).mono ?_
      rintro e wB ⟨rfl, hb1⟩
      rw [HR.enc]
      have HB1 := Aside0.mk (below_step HB.out hb1)
      have hxs := HR.size
      clear hb1 hix
      obtain ⟨y, hdec, hys, hy1, hyn⟩ := HR.dec (more.extract 0 m) HMO.out
      have HDEC := Aside0.mk hdec
      have HYN := Aside0.mk hyn
      have HY1 := Aside0.mk hy1
      have HYS := Aside0.mk hys
      have HPA := Aside0.mk HR.part
      obtain ⟨z, hz⟩ : ∃ z, x ++ more.extract 0 m = z := ⟨_, rfl⟩
      have HZ : Aside0 (z.size ≤ 140737488355328) := ⟨by rw [← hz, ByteArray.size_append]; have := HMO.out; omega⟩
      have hmo := HMO.out
      clear hdec hyn hy1 hys HR
      go_wp2_with fail
      rw [hz] at HDEC
      refine (HDC.out z HZ.out wn hn st _ (HM.out.below HB1.out)).mono ?_
      rintro e wC ⟨rfl, hb2⟩
      rw [HDEC.out]
      have HB3 := Aside0.mk (below_step HB1.out hb2)
      clear hb2 hz
      go_wp2_with fail
      refine (HB2.out _).mono ?_
      rintro e wD ⟨rfl, rfl⟩
      have c1 := HYS.out
      have hxs2 := Aside0.mk hxs
      clear hmo hm20 hml hm3 hxs
      obtain ⟨B, hB⟩ : ∃ B : Int, (17 * (st : Int) + 100) / 200 = B := ⟨_, rfl⟩
      have hB2 : 0 ≤ B ∧ B ≤ 30 := by have := HST.out; omega
      rw [hB] at HYN ⊢
      have hst := HST.out
      clear hB
      obtain ⟨u, hu, hu2⟩ : ∃ (u : Bool), (((st : Int) == 1) = u) ∧ (u = true → (y.toList == s.toList) = true) := by
        refine ⟨_, rfl, fun h => ?_⟩
        have h2 : (st : Int) = 1 := by simpa using h
        rw [HY1.out h2]
        simp
      have HHY : Aside0 (∀ i, i < s.size → bAt s i - B ≤ bAt y i ∧ bAt y i ≤ bAt s i + B) := HYN
      have ty : ((y.size : Int) != (s.size : Int)) = false := by rw [c1]; simp
      have tx : ((x.size : Int) != (x.size : Int)) = false := by simp
      have hst2 := HST.out
      clear hst
      have hcont : ∀ u, (((st : Int) == 1) = u) → (u = true → (y.toList == s.toList) = true) → True := fun _ _ _ => trivial
      cases u
      case' true => have hu3 := hu2 rfl
      all_goals
        clear hcont hu2
        go_wp2_with fail
        clear hu ty tx
        go_loopw [100] (fun v w2 => ∃ i : Nat, v = .int .i64 (i : Int) ∧ i ≤ s.size ∧ Aside0 (Below w0.heap.size w0 w2)) (fun v _ => 1000 - (intOf v).toNat)
        case atStart => exact ⟨0, rfl, by omega, HB3⟩
        case round =>
          obtain ⟨i, rfl, hi, HB4⟩ := hrel
          have hds := HDS.out
          by_cases hlt : i < s.size
          · have t1 : decide ((i : Int) < (s.size : Int)) = true := decide_eq_true (by omega)
            have hat := strAt2 s i hlt
            have hat2 := strAt2 y i (by rw [c1]; exact hlt)
            have hn := HHY.out i hlt
            have b1 := bAt_bd s i
            have b2 := bAt_bd y i
            obtain ⟨a, ha⟩ : ∃ a, bAt s i = a := ⟨_, rfl⟩
            obtain ⟨b, hb⟩ : ∃ b, bAt y i = b := ⟨_, rfl⟩
            rw [ha] at hat b1 hn
            rw [hb] at hat2 b2 hn
            have q0 : ∀ h, ((s[i]'h).toNat : Int) = a := fun h => hat
            have q1 : ∀ h, ((y[i]'h).toNat : Int) = b := fun h => hat2
            have q2 : (i : Int) < (y.size : Int) := by omega
            have q3 : (i : Int) < (s.size : Int) := by omega
            have t2 : decide (b + B < a) = false := decide_eq_false (by omega)
            have t3 : decide (a + B < b) = false := decide_eq_false (by omega)
            have k1 : IntKind.i64.wrap a = a := IntWalk.i64_in _ (by omega)
            have k2 : IntKind.i64.wrap b = b := IntWalk.i64_in _ (by omega)
            have k3 : IntKind.i64.wrap (b + B) = b + B := IntWalk.i64_in _ (by omega)
            have k4 : IntKind.i64.wrap (a + B) = a + B := IntWalk.i64_in _ (by omega)
            clear ha hb hat hat2 hn b1 b2
            go_wp2_with fail
            go_quiet (fail)
            have HB5 := Aside0.mk (pw_below_drewN HB4.out nq)
            go_wp2_with fail
            go_roundw
            case measure => simp [intOf]; omega
            case rel => exact ⟨i + 1, by go_num, by omega, HB5⟩
          · obtain rfl : i = s.size := by omega
            have t1 : decide ((s.size : Int) < (s.size : Int)) = false := decide_eq_false (by omega)
            have hxx := hxs2.out
            obtain ⟨n, hn40⟩ : ∃ n : Nat, (if (40 : Int) < (x.size : Int) then (40 : Int) else (x.size : Int)) = (n : Int) := ⟨min x.size 40, by split <;> omega⟩
            have hnl : n ≤ x.size := by split at hn40 <;> omega
            have hn3 : n ≤ 40 := by split at hn40 <;> omega
            have HNL := Aside0.mk hnl
            go_wp2_with fail
            clear hn40 hnl hlt hi t1
            go_loopw [131] (fun v w2 => ∃ j : Nat, v = .int .i64 (j : Int) ∧ j ≤ n ∧ Aside0 (Below w0.heap.size w0 w2)) (fun v _ => 1000 - (intOf v).toNat)
            case atStart => exact ⟨0, rfl, by omega, HB4⟩
            case round =>
              obtain ⟨j, rfl, hj, HB6⟩ := hrel
              by_cases hjn : j < n
              · have t1 : decide ((j : Int) < (n : Int)) = true := decide_eq_true (by omega)
                have hpart := HPA.out j (by have := HNL.out; omega)
                have HP := Aside0.mk hpart
                have HPS : Aside0 ((x.extract 0 j).size ≤ 140737488355328) := ⟨by rw [ByteArray.size_extract]; omega⟩
                have j1 : (j : Int) ≤ (x.size : Int) := by have := HNL.out; omega
                obtain ⟨xj, hxj⟩ : ∃ xj, x.extract 0 j = xj := ⟨_, rfl⟩
                rw [hxj] at HP HPS
                clear hpart
                go_wp2_with fail
                refine (HDC.out xj HPS.out wn hn st _ (HM.out.below HB6.out)).mono ?_
                rintro e wE ⟨rfl, hb7⟩
                rw [HP.out]
                have HB7 := Aside0.mk (below_step HB6.out hb7)
                clear hb7 hxj
                go_wp2_with fail
                go_roundw
                case measure => simp [intOf]; omega
                case rel => exact ⟨j + 1, by go_num, by omega, HB7⟩
              · obtain rfl : j = n := by omega
                have t1 : decide ((j : Int) < (j : Int)) = false := decide_eq_false (by omega)
                have hk := HK.out
                go_wp2_with fail
                go_roundw
                case measure => simp [intOf]; omega
                case rel => exact ⟨k + 1, by go_num, by omega, HB6⟩
    · obtain rfl : k = 2 := by omega
      go_wp2_with fail
      go_ret
      exact ⟨rfl, HB.out⟩
end Go.Proofs.YtmbdjajmiggiaaaDoor.V08w
