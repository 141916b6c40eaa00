/- Several texts of this claim, one behind the other. -/
import Derived.Test.YtmbdjajmiggiaaaDoorU08b
import Derived.Test.YtmbdjajmiggiaaaDoorN08
/- The reference's code of a block (chapter 08): Number 57, code 44. -/
namespace Go.Proofs.YtmbdjajmiggiaaaDoor.U08c
open Go.Proofs.YtmbdjajmiggiaaaDoor.K08 Go.Proofs.YtmbdjajmiggiaaaDoor.G08 Go.Proofs.YtmbdjajmiggiaaaDoor.G08f Go.Proofs.YtmbdjajmiggiaaaDoor.Z08 Go.Proofs.YtmbdjajmiggiaaaDoor.O08 Go.Proofs.YtmbdjajmiggiaaaDoor.L08 Go.Proofs.YtmbdjajmiggiaaaDoor.E08 Go.Proofs.YtmbdjajmiggiaaaDoor.W08 Go.Proofs.YtmbdjajmiggiaaaDoor.P08r Go.Proofs.YtmbdjajmiggiaaaDoor.T08 Go.Proofs.YtmbdjajmiggiaaaDoor.U08
open Go.Proofs.YtmbdjajmiggiaaaDoor.V08o (place_call)
open Go.RowKit Go.Proofs.YtmbdjajmiggiaaaDoorW.PrintWords Go.Proofs.YtmbdjajmiggiaaaDoorW.PrintLast Go.Proofs.YtmbdjajmiggiaaaDoorW.PrintMore
set_option linter.unusedVariables false
set_option linter.unusedSimpArgs false
set_option maxRecDepth 100000
theorem number_eq (v : Int) (h1 : -1000000 ≤ v) (h2 : v ≤ 1000000) : chaseref08_Number.f 2 v = some (numR v) := by
  have hb := zig_bd (m := 1000000) h1 h2
  have key : ∀ u : Int, 0 ≤ u → u ≤ 2000000 → chaseref08_Number.j0 2 u = some (digs 2 u) := fun u h0 h9 => by
    have w1 : wrap64 (Int.tdiv u 128) = u / 128 := by rw [Int.tdiv_eq_ediv_of_nonneg h0]; exact IntWalk.wrap64_in _ (by omega)
    have w2 : wrap64 (128 + Int.tmod u 128) = 128 + u % 128 := by rw [Int.tmod_eq_emod_of_nonneg h0]; exact IntWalk.wrap64_in _ (by omega)
    have w3 : wrap64 (128 + Int.tmod (u / 128) 128) = 128 + u / 128 % 128 := by rw [Int.tmod_eq_emod_of_nonneg (by omega)]; exact IntWalk.wrap64_in _ (by omega)
    have w4 : wrap64 (Int.tdiv u 16384) = u / 16384 := by rw [Int.tdiv_eq_ediv_of_nonneg h0]; exact IntWalk.wrap64_in _ (by omega)
    simp only [chaseref08_Number.j0, w1, w2, w3, w4]
    clear w1 w2 w3 w4
    unfold digs
    by_cases c1 : u < 128
    · rw [if_pos c1, if_pos c1]; congr 2; omega
    · rw [if_neg c1, if_neg c1]
      unfold digs
      by_cases c2 : u < 16384
      · rw [if_pos c2, if_pos (by omega)]; congr 2
        · omega
        · congr 1; omega
      · rw [if_neg c2, if_neg (by omega)]
        unfold digs
        congr 2
        · omega
        · congr 1
          · omega
          · congr 1; omega
  unfold chaseref08_Number.f numR
  by_cases hn : v < 0
  · rw [if_pos hn]
    have w1 : wrap64 (wrap64 (-2 * v) - 1) = zig v := by
      unfold zig; rw [if_pos hn, IntWalk.wrap64_in (-2 * v) (by omega)]; exact IntWalk.wrap64_in _ (by omega)
    rw [w1]
    exact key _ hb.1 hb.2
  · rw [if_neg hn]
    have w1 : wrap64 (2 * v) = zig v := by
      unfold zig; rw [if_neg hn]; exact IntWalk.wrap64_in _ (by omega)
    rw [w1]
    exact key _ hb.1 hb.2
theorem number_ref (v : Int) (h1 : -1000000 ≤ v) (h2 : v ≤ 1000000) (w : World) : Calls Tryd.prog 57 #[.int .i64 v] w (Ret8 w (numR v)) := by
  refine (chaseref08_Number.calls 2 v _ w (number_eq v h1 h2)).mono ?_
  rintro e w' ⟨V, rfl, hR, hB⟩
  obtain ⟨_, inner, ho, hr⟩ := hR
  have hr' : Reps (fun (x : Int) (cs : List Value) => cs = [Value.int .u8 x]) 1 (numR v) inner := hr
  have e := Kd.reps_encs (enc := fun x => Value.int .u8 x) hr'
  subst e
  exact ⟨V, rfl, ho, hB⟩
set_option maxHeartbeats 4000000 in
theorem code_ref (b : List Int) (q : Int) (hb : b.length = 64) (hbd : ∀ x ∈ b, -128 ≤ x ∧ x ≤ 128) (hq1 : 1 ≤ q) (hq2 : q ≤ 255) (w : World) : Calls Tryd.prog 44 #[ar b, .int .i64 q] w (Ret8 w (codeL b q)) := by
  have hin : wthn 1048576 b = true := wthn_yes fun k hk => by have := getD_all hbd k hk; omega
  have HL := Aside0.mk hb
  have HBD := Aside0.mk hbd
  have HIN := Aside0.mk hin
  clear hb hbd hin
  unfold ar
  go_enter Tryd.func44, Tryd.ntmps44
  go_wp2_with (refine load_ar rfl _ rfl _ rfl b HL.out (blk_new _ _) ?_)
  refine (coefs_ref b HL.out HIN.out _).mono ?_
  rintro e w1 ⟨rfl, hb1⟩
  have HB1 := Aside0.mk (below_step (below_alloc (Below.refl _ w) _) hb1)
  have hz1 := HB1.out.size
  clear hb1
  obtain ⟨y, hy⟩ : ∃ y, fwdL b = y := ⟨_, rfl⟩
  have HY := Aside0.mk hy
  have HYL : Aside0 (y.length = 64) := ⟨by rw [← hy]; exact fwdL_len b⟩
  rw [hy]
  clear hy
  go_wp2_with (first | (refine alloc_ar rfl rfl ?_) | (refine store_ar rfl _ _ rfl _ rfl z64 y rfl (blk_new _ _) rfl HYL.out ?_))
  have HB2 := Aside0.mk (G08.below_setRow (below_alloc HB1.out (.cells (nums .i64 z64).toArray 22)) (g := w1.heap.size) hz1 (nums .i64 y).toArray)
  have HY2 : Aside0 (Blk ((w1.alloc (.cells (nums .i64 z64).toArray 22)).setRow w1.heap.size (nums .i64 y).toArray) w1.heap.size y) := ⟨Blk.setRow (Blk.new _ _) _⟩
  obtain ⟨w3, hw2⟩ : ∃ w3, (w1.alloc (.cells (nums .i64 z64).toArray 22)).setRow w1.heap.size (nums .i64 y).toArray = w3 := ⟨_, rfl⟩
  rw [hw2] at HB2 HY2 ⊢
  clear hw2
  have HB3 := HB2
  have HY3 := HY2
  have hgy := HY3.out.lt
  clear HB1 HB2 HY2
  obtain ⟨vs, hvs⟩ : ∃ vs, qnt (fwdL b) q = vs := ⟨_, rfl⟩
  have HVL : Aside0 (vs.length = 64) := ⟨by rw [← hvs]; exact qnt_len _ _⟩
  have HV : Aside0 (∀ k, k < 64 → vs.getD k 0 = (2 * y.getD (8 * (zAt k).1 + (zAt k).2) 0 + q) / (2 * q)) := ⟨fun k hk => by rw [← hvs, ← HY.out]; exact qnt_at _ _ _ hk⟩
  have HVB : Aside0 (∀ k, k < 64 → -373249 ≤ vs.getD k 0 ∧ vs.getD k 0 ≤ 373249) := ⟨fun k hk => by rw [← hvs]; exact qnt_bd b HL.out HBD.out q hq1 k hk⟩
  have HYB : Aside0 (∀ k, k < 64 → -373248 ≤ y.getD k 0 ∧ y.getD k 0 ≤ 373248) := ⟨fun k hk => by rw [← HY.out]; exact fwdL_bd b HL.out HBD.out k hk⟩
  have HC : Aside0 (codeL b q = blkC vs 0) := ⟨by unfold codeL; rw [hvs]⟩
  clear hvs
  go_wp2_with fail
  go_loopw [6, 7, 8] (fun v6 v7 v8 wr => ∃ (k z : Nat) (l : List Int), v7 = .int .i64 z ∧ v8 = .int .i64 k ∧ k ≤ 64 ∧ z ≤ k ∧ l.length ≤ 4 * k ∧ Aside0 (l ++ blkC (vs.drop k) z = blkC vs 0) ∧ Aside0 (Own8 wr w3.heap.size v6 l) ∧ Aside0 (Below w3.heap.size w3 wr)) (fun _ _ v8 _ => 64 - (intOf v8).toNat)
  case atStart => exact ⟨0, 0, [], rfl, rfl, by omega, by omega, by simp, ⟨by simp⟩, ⟨own_nil _ _ _ _⟩, ⟨Below.refl _ _⟩⟩
  case round =>
    obtain ⟨k, z, l, rfl, rfl, hk, hzk, hlk, HE, HO, HBR⟩ := hrel
    have hsz := HBR.out.size
    by_cases hlt : k < 64
    · have t : decide ((k : Int) < 64) = true := decide_eq_true (by omega)
      have HP := Aside0.mk (place_call k hlt)
      have hzz := zAt_lt k hlt
      have hv := HV.out k hlt
      have hvb := HVB.out k hlt
      obtain ⟨p, hp⟩ : ∃ p, 8 * (zAt k).1 + (zAt k).2 = p := ⟨_, rfl⟩
      have hp2 : (8 * ((zAt k).1 : Int) + ((zAt k).2 : Int)) = (p : Int) := by omega
      rw [hp2] at HP
      rw [hp] at hv
      have hp64 : p < 64 := by omega
      have hyb := HYB.out p hp64
      have hcy : wr.cell? ⟨w1.heap.size, p, none⟩ = some (.int .i64 (y.getD p 0)) := (Blk.of_below HY3.out HBR.out hgy).cell p (by rw [HYL.out]; exact hp64)
      obtain ⟨yv, hyv⟩ : ∃ yv, y.getD p 0 = yv := ⟨_, rfl⟩
      obtain ⟨v, hv2⟩ : ∃ v, vs.getD k 0 = v := ⟨_, rfl⟩
      rw [hyv] at hcy hv hyb
      have hE := HE.out
      rw [getD_drop (by rw [HVL.out]; exact hlt), hv2, blkC_cons] at hE
      rw [hv2] at hv hvb
      have HFL := Aside0.mk (fun W => floor_ref (2 * yv + q) (2 * q) (by omega) (by omega) (by omega) W)
      rw [← hv] at HFL
      have hp0 : (0 : Int) ≤ (p : Int) := by omega
      have hp1 : (p : Int) < 64 := by omega
      have m1 : IntKind.i64.wrap (2 * yv) = 2 * yv := IntWalk.i64_in _ (by omega)
      have m2 : IntKind.i64.wrap (2 * yv + q) = 2 * yv + q := IntWalk.i64_in _ (by omega)
      have m3 : IntKind.i64.wrap (2 * q) = 2 * q := IntWalk.i64_in _ (by omega)
      clear hp hyv hv hv2 hzz hp2
      go_wp2_with fail
      refine (HP.out _).mono ?_
      rintro e w4 ⟨rfl, hb4⟩
      have HB4 := Aside0.mk (HBR.out.trans (hb4.mono hsz))
      have HO4 := Aside0.mk (pw_own_below HO.out hb4)
      have hcy4 : w4.cell? ⟨w1.heap.size, p, none⟩ = some (.int .i64 yv) := (hb4.cell (p := ⟨w1.heap.size, p, none⟩) (by have := hsz; show w1.heap.size < wr.heap.size; omega)).trans hcy
      have hsz4 : w3.heap.size ≤ w4.heap.size := by have := hb4.size; omega
      clear hb4 hcy HO HBR hsz
      go_wp2_with fail
      refine (HFL.out _).mono ?_
      rintro e w5 ⟨rfl, rfl⟩
      by_cases hv0 : v = 0
      · rw [if_pos hv0] at hE
        have HE2 := Aside0.mk hE
        have t0 : (v == 0) = true := by simpa using hv0
        clear hE hv0
        go_wp2_with fail
        go_roundw
        case measure => simp [intOf]; omega
        case rel => exact ⟨k + 1, z + 1, l, by go_num, by go_num, by omega, by omega, by omega, HE2, HO4, HB4⟩
      · rw [if_neg hv0, ← List.singleton_append, ← List.append_assoc, ← List.append_assoc] at hE
        have HE2 := Aside0.mk hE
        have t0 : (v == 0) = false := by simpa using hv0
        have e1 : IntKind.u8.wrap (z : Int) = (z : Int) := by rw [IntKind.wrap_u8]; omega
        have HN := Aside0.mk (fun W => number_ref v (by omega) (by omega) W)
        have hnl := digs_len 2 (zig v)
        have hnl2 : (numR v).length ≤ 3 := hnl
        clear hE hv0 hnl
        go_wp2_with (at_builtin; refine print_append_num (w0 := w3) w3.heap.size rfl (.tmp 30) (.tmp 33) 38 5 .u8 1 rfl Tryd.underlying38 E08.info5 (by decide) u6 l (z : Int) rfl rfl HO4.out HB4.out hsz4 (by omega) ?_; intro v1 wA ho1 hb1 hg1 hat1; have HO1 := Aside0.mk ho1; have HB1 := Aside0.mk hb1; have HZA := hb1.size; clear ho1 hb1 hg1 hat1)
        refine (HN.out _).mono ?_
        rintro e wB ⟨V, rfl, hV, hbB⟩
        obtain ⟨A, c, rfl, hrd⟩ := own_reads hV
        have HO2 := Aside0.mk (pw_own_below HO1.out hbB)
        have HB2 := Aside0.mk (HB1.out.trans (hbB.mono HZA))
        have HRD := Aside0.mk hrd
        have hzB := hbB.size
        clear hV hbB hrd HO1 HB1
        go_wp2_with (at_builtin; refine print_append_row (w0 := w3) w3.heap.size rfl (.tmp 35) (.tmp 37) 38 5 .u8 1 rfl Tryd.underlying38 E08.info5 (by decide) v1 (l ++ [(z : Int)]) (numR v) A _ c rfl rfl HO2.out HRD.out HB2.out (by omega) (by rw [List.length_append]; simp; omega) ?_; intro v2 wC ho1 hb1 hg1 hat1; have HO3 := Aside0.mk ho1; have HB3 := Aside0.mk hb1; clear ho1 hb1 hg1 hat1)
        go_roundw
        case measure => simp [intOf]; omega
        case rel => exact ⟨k + 1, 0, l ++ [(z : Int)] ++ numR v, rfl, by go_num, by omega, by omega, by rw [List.length_append, List.length_append]; simp; omega, HE2, HO3, HB3⟩
    · obtain rfl : k = 64 := by omega
      have t : decide (((64 : Nat) : Int) < 64) = false := by decide
      have hE := HE.out
      rw [List.drop_of_length_le (by rw [HVL.out]; exact Nat.le_refl _)] at hE
      have HE2 := Aside0.mk hE
      clear hE
      go_wp2_with (at_builtin; refine print_append_num (w0 := w3) w3.heap.size rfl (.tmp 39) (.tmp 40) 38 5 .u8 1 rfl Tryd.underlying38 E08.info5 (by decide) u6 l 64 rfl rfl HO.out HBR.out hsz (by omega) ?_; intro v1 wA ho1 hb1 hg1 hat1; have HO1 := Aside0.mk ho1; have HB1 := Aside0.mk hb1; clear ho1 hb1 hg1 hat1)
      go_ret
      refine ⟨_, rfl, ?_, below_step HB3.out HB1.out⟩
      rw [HC.out, ← HE2.out]
      exact Own8.raise HO1.out HB3.out.size
end Go.Proofs.YtmbdjajmiggiaaaDoor.U08c
/- The reference's Encode 22 (chapter 08). -/
namespace Go.Proofs.YtmbdjajmiggiaaaDoor.U08d
open Go.Proofs.YtmbdjajmiggiaaaDoor.K08 Go.Proofs.YtmbdjajmiggiaaaDoor.G08 Go.Proofs.YtmbdjajmiggiaaaDoor.G08f Go.Proofs.YtmbdjajmiggiaaaDoor.Z08 Go.Proofs.YtmbdjajmiggiaaaDoor.O08 Go.Proofs.YtmbdjajmiggiaaaDoor.L08 Go.Proofs.YtmbdjajmiggiaaaDoor.E08 Go.Proofs.YtmbdjajmiggiaaaDoor.N08 Go.Proofs.YtmbdjajmiggiaaaDoor.W08 Go.Proofs.YtmbdjajmiggiaaaDoor.P08r Go.Proofs.YtmbdjajmiggiaaaDoor.T08 Go.Proofs.YtmbdjajmiggiaaaDoor.U08 Go.Proofs.YtmbdjajmiggiaaaDoor.U08c
open Go.RowKit Go.Proofs.YtmbdjajmiggiaaaDoorW.PrintWords Go.Proofs.YtmbdjajmiggiaaaDoorW.PrintLast Go.Proofs.YtmbdjajmiggiaaaDoorW.PrintMore
set_option linter.unusedVariables false
set_option linter.unusedSimpArgs false
set_option maxRecDepth 100000
theorem sizes_eq (s : ByteArray) (w h q : Int) : chaseref08_Sizes.f s w h q = some (sizes s.size w h q) := by
  unfold chaseref08_Sizes.f sizes okArgs
  repeat' split
  all_goals first | rfl | (exfalso; simp_all; omega) | simp_all
theorem sizes_ref (s : ByteArray) (w h q : Int) (hs : s.size ≤ 140737488355328) (W : World) : Calls Tryd.prog 43 #[.string s, .int .i64 w, .int .i64 h, .int .i64 q] W fun e w' => e = .returned (.int .i64 (sizes s.size w h q)) ∧ Drawn0 W w' := by
  refine (chaseref08_Sizes.calls s w h q _ W (sizes_eq s w h q)).mono ?_
  rintro e w' ⟨rfl, hd⟩
  exact ⟨rfl, hd⟩
set_option maxHeartbeats 4000000 in
theorem encode_okR (s : ByteArray) (wn hn qn : Nat) (hw1 : 1 ≤ wn) (hw2 : wn ≤ 128) (hh1 : 1 ≤ hn) (hh2 : hn ≤ 128) (hq1 : 1 ≤ qn) (hq2 : qn ≤ 255) (hs : s.size = wn * hn) (W : World) (hz : sizes s.size wn hn qn = 0) (R : ByteArray) (E : Int) (hR : (if (encAll s wn hn qn (nb hn)).length > 65536 then (⟨#[]⟩, 3) else (strOfNums (encAll s wn hn qn (nb hn)), 0) : ByteArray × Int) = (R, E)) :
    Calls Tryd.prog 22 #[.string s, .int .i64 wn, .int .i64 hn, .int .i64 qn] W fun e w' => e = .returned (.tuple #[.string R, .int .i64 E]) ∧ Below W.heap.size W w' := by
  have HRE := Aside0.mk hR
  clear hR
  have HS := Aside0.mk hs
  have hwh : wn * hn ≤ 16384 := Nat.le_trans (Nat.mul_le_mul hw2 hh2) (by decide)
  have hsc := sizes_ref s wn hn qn (by omega)
  rw [hz] at hsc
  have HSC := Aside0.mk hsc
  have t0 : ((s.size : Int) == (wn : Int) * (hn : Int)) = true := by rw [hs]; simp
  have t1 : ((s.size : Int) != (wn : Int) * (hn : Int)) = false := by rw [hs]; simp
  have t2 : (wn : Int) * (hn : Int) ≤ 16384 := by have := Int.ofNat_le.2 hwh; rw [Int.natCast_mul] at this; exact this
  have t3 : 0 ≤ (wn : Int) * (hn : Int) := by rw [← Int.natCast_mul]; omega
  have g1 : IntKind.i64.wrap ((hn : Int) + 7) = (hn : Int) + 7 := IntWalk.i64_in _ (by omega)
  have g2 : ((hn : Int) + 7).tdiv 8 = ((nb hn : Nat) : Int) := by rw [Int.tdiv_eq_ediv_of_nonneg (by omega)]; unfold nb; omega
  have g3 : IntKind.i64.wrap ((nb hn : Nat) : Int) = ((nb hn : Nat) : Int) := IntWalk.i64_in _ (by unfold nb; omega)
  have g4 : IntKind.i64.wrap ((wn : Int) + 7) = (wn : Int) + 7 := IntWalk.i64_in _ (by omega)
  have g5 : ((wn : Int) + 7).tdiv 8 = ((nb wn : Nat) : Int) := by rw [Int.tdiv_eq_ediv_of_nonneg (by omega)]; unfold nb; omega
  have g6 : IntKind.i64.wrap ((nb wn : Nat) : Int) = ((nb wn : Nat) : Int) := IntWalk.i64_in _ (by unfold nb; omega)
  clear hsc hs hz hwh
  go_enter Tryd.func22, Tryd.ntmps22
  go_wp2_with fail
  refine (HSC.out W).mono ?_
  rintro e W1 ⟨rfl, nd, rfl⟩
  go_wp2_with fail
  clear t0 t1 t2 t3
  go_loopw [11, 12] (fun v11 v12 wr => ∃ i : Nat, v12 = .int .i64 (i : Int) ∧ i ≤ nb hn ∧ Aside0 (Own8 wr W.heap.size v11 (encAll s wn hn qn i)) ∧ Aside0 (Below W.heap.size W wr)) (fun _ v12 _ => 1000 - (intOf v12).toNat)
  case atStart => exact ⟨0, rfl, by omega, ⟨own_nil _ _ _ _⟩, ⟨pw_below_drewN (Below.refl _ _) _⟩⟩
  case round =>
    obtain ⟨i, rfl, hi, HO, HB⟩ := hrel
    have hnb : nb hn ≤ 16 := by unfold nb; omega
    by_cases hlt : i < nb hn
    · have t : decide ((i : Int) < (nb hn : Int)) = true := decide_eq_true (by omega)
      obtain ⟨wo, rfl⟩ : ∃ wo, wo = wr := ⟨_, rfl⟩
      go_wp2_with fail
      go_loopw [11, 13] (fun v11 v13 w2 => ∃ j : Nat, v13 = .int .i64 (j : Int) ∧ j ≤ nb wn ∧ Aside0 (Own8 w2 W.heap.size v11 (encAll s wn hn qn i ++ encRow s wn hn qn i j)) ∧ Aside0 (Below W.heap.size W w2)) (fun _ v13 _ => 1000 - (intOf v13).toNat)
      case atStart => exact ⟨0, rfl, by omega, ⟨by rw [show encRow s wn hn qn i 0 = [] from rfl, List.append_nil]; exact HO.out⟩, HB⟩
      case round =>
        obtain ⟨j, rfl, hj, HO2, HB2⟩ := hrel
        have hnbw : nb wn ≤ 16 := by unfold nb; omega
        by_cases hlt2 : j < nb wn
        · have t2 : decide ((j : Int) < (nb wn : Int)) = true := decide_eq_true (by omega)
          obtain ⟨wp, rfl⟩ : ∃ wp, wp = wr := ⟨_, rfl⟩
          go_wp2_with (refine alloc_ar rfl rfl ?_)
          go_loopw [15] (fun v15 w4 => ∃ k : Nat, v15 = .int .i64 k ∧ k ≤ 64 ∧ Aside0 (Blk w4 wp.heap.size (encP s wn hn i j k)) ∧ Aside0 (Below wp.heap.size wp w4)) (fun v15 _ => 64 - (intOf v15).toNat)
          case atStart => exact ⟨0, rfl, by omega, ⟨by rw [encP_zero]; exact Blk.new _ _⟩, ⟨below_alloc (Below.refl _ _) _⟩⟩
          case round =>
            obtain ⟨k, rfl, hk, HBL, HB4⟩ := hrel
            by_cases hlt4 : k < 64
            · have t4 : decide ((k : Int) < 64) = true := decide_eq_true (by omega)
              have hi16 : i < 16 := by omega
              have hj16 : j < 16 := by omega
              have HSET := encP_set s wn hn i j k hlt4
              obtain ⟨r, hr⟩ : ∃ r : Nat, min (8 * i + k / 8) (hn - 1) = r := ⟨_, rfl⟩
              obtain ⟨c, hc⟩ : ∃ c : Nat, min (8 * j + k % 8) (wn - 1) = c := ⟨_, rfl⟩
              have hrl : r < hn := by omega
              have hcl : c < wn := by omega
              have hix := idx_lt wn hn r c s.size HS.out hrl hcl
              rw [hr, hc] at HSET
              obtain ⟨p, hp⟩ : ∃ p : Nat, wn * r = p := ⟨_, rfl⟩
              rw [hp] at hix HSET
              have hp2 : (r : Int) * (wn : Int) = (p : Int) := by rw [← hp, Int.mul_comm]; simp
              have hpb : p ≤ 16384 := by rw [← hp]; exact Nat.le_trans (Nat.mul_le_mul hw2 (show r ≤ 128 by omega)) (by decide)
              have hat := strAt s (p + c) hix
              obtain ⟨x, hx⟩ : ∃ x, bAt s (p + c) = x := ⟨_, rfl⟩
              have hxb := bAt_bd s (p + c)
              rw [hx] at hat hxb HSET
              have HSET' := Aside0.mk HSET
              have q1 : (p : Int) + (c : Int) < (s.size : Int) := by omega
              have q2 : ((p : Int) + (c : Int)).toNat = p + c := by omega
              have q0 : ∀ h, ((s[p + c]'h).toNat : Int) = x := fun h => hat
              have hcell : wr.cell? ⟨wp.heap.size, k, none⟩ = some (.int .i64 ((encP s wn hn i j k).getD k 0)) := HBL.out.cell k (by rw [encP_len]; exact hlt4)
              have hfr : wr.frozen? ⟨wp.heap.size, k, none⟩ = false := blk_frozen HBL.out _
              have HI := Aside0.mk hlt
              have HJ := Aside0.mk hlt2
              have a1 := tdiv8 k
              have a2 := tmod8 k
              have w0 : IntKind.i64.wrap ((k / 8 : Nat) : Int) = ((k / 8 : Nat) : Int) := IntWalk.i64_in _ (by omega)
              have w1 : IntKind.i64.wrap (8 * (i : Int)) = 8 * (i : Int) := IntWalk.i64_in _ (by omega)
              have w2 : IntKind.i64.wrap (8 * (j : Int)) = 8 * (j : Int) := IntWalk.i64_in _ (by omega)
              have e1 : 8 * (i : Int) + ((k / 8 : Nat) : Int) = ((8 * i + k / 8 : Nat) : Int) := by omega
              have e2 : 8 * (j : Int) + ((k % 8 : Nat) : Int) = ((8 * j + k % 8 : Nat) : Int) := by omega
              have w3 : IntKind.i64.wrap ((8 * i + k / 8 : Nat) : Int) = ((8 * i + k / 8 : Nat) : Int) := IntWalk.i64_in _ (by omega)
              have w4 : IntKind.i64.wrap ((8 * j + k % 8 : Nat) : Int) = ((8 * j + k % 8 : Nat) : Int) := IntWalk.i64_in _ (by omega)
              generalize hrow : 8 * i + k / 8 = row at e1 w3 hr
              generalize hcol : 8 * j + k % 8 = col at e2 w4 hc
              generalize k / 8 = k8 at a1 w0 e1
              generalize k % 8 = kr at a2 e2
              have w5 : IntKind.i64.wrap ((hn : Int) - 1) = (hn : Int) - 1 := IntWalk.i64_in _ (by omega)
              have w6 : IntKind.i64.wrap ((wn : Int) - 1) = (wn : Int) - 1 := IntWalk.i64_in _ (by omega)
              have w7 : IntKind.i64.wrap (p : Int) = (p : Int) := IntWalk.i64_in _ (by omega)
              have w8 : IntKind.i64.wrap ((p : Int) + (c : Int)) = (p : Int) + (c : Int) := IntWalk.i64_in _ (by omega)
              have w9 : IntKind.i64.wrap (x - 128) = x - 128 := IntWalk.i64_in _ (by omega)
              have w10 : IntKind.i64.wrap x = x := IntWalk.i64_in _ (by omega)
              have x0 : (0 : Int) ≤ (k : Int) := by omega
              have x1 : (k : Int) < 64 := by omega
              have x2 : (0 : Int) ≤ (p : Int) + (c : Int) := by omega
              by_cases y1 : hn ≤ row
              all_goals by_cases y2 : wn ≤ col
              all_goals
                first
                  | have z3 : (hn : Int) - 1 = (r : Int) := by omega
                  | (obtain rfl : row = r := by omega)
                first
                  | have z4 : (wn : Int) - 1 = (c : Int) := by omega
                  | (obtain rfl : col = c := by omega)
                clear hlt hlt2 hnb hnbw hi hj hk HSET hr hc hp hx hat hix hrow hcol
                go_wp2_with fail
                go_roundw
                case measure => simp [intOf]; omega
                case rel => exact ⟨k + 1, by go_num, by omega, ⟨by rw [← HSET'.out]; exact HBL.out.set k (x - 128)⟩, ⟨below_set HB4.out (Nat.le_refl _)⟩⟩
            · obtain rfl : k = 64 := by omega
              rw [encP_all] at HBL
              have t4 : decide (((64 : Nat) : Int) < 64) = false := by decide
              have HI := Aside0.mk hlt
              have HJ := Aside0.mk hlt2
              have hla := encAll_len s wn hn qn hw2 i
              have hlr := encRow_len s wn hn qn i j
              have hcl := codeL_len (encB s wn hn i j) qn
              have hi16 : i < 16 := by omega
              have hj16 : j < 16 := by omega
              have HLL : Aside0 ((encAll s wn hn qn i ++ encRow s wn hn qn i j).length + (codeL (encB s wn hn i j) qn).length ≤ 140737488355328) := ⟨by rw [List.length_append]; omega⟩
              have HO4 := Aside0.mk (pw_own_below HO2.out HB4.out)
              have HB5 := Aside0.mk (below_step HB2.out HB4.out)
              clear hla hlr hcl hlt hlt2 hnb hnbw hi hj hk
              go_wp2_with (refine load_ar rfl _ rfl _ rfl (encB s wn hn i j) (encB_len _ _ _ _ _) HBL.out ?_)
              refine (code_ref (encB s wn hn i j) qn (encB_len _ _ _ _ _) (encB_bd _ _ _ _ _) (by omega) (by omega) wr).mono ?_
              rintro e w5 ⟨V, rfl, hV, hb5⟩
              obtain ⟨A, c, rfl, hrd⟩ := own_reads hV
              have HO5 := Aside0.mk (pw_own_below HO4.out hb5)
              have HB6 := Aside0.mk (below_step HB5.out hb5)
              have HRD := Aside0.mk hrd
              have HR2 : Aside0 (encRow s wn hn qn i (j + 1) = encRow s wn hn qn i j ++ codeL (encB s wn hn i j) qn) := ⟨encRow_succ _ _ _ _ _ _⟩
              clear hV hb5 hrd
              go_wp2_with (at_builtin; refine print_append_row (w0 := W) W.heap.size rfl (.tmp 81) (.tmp 84) 38 5 .u8 1 rfl Tryd.underlying38 E08.info5 (by decide) u11 (encAll s wn hn qn i ++ encRow s wn hn qn i j) (codeL (encB s wn hn i j) qn) A _ c rfl rfl HO5.out HRD.out HB6.out HB6.out.size (by rw [Nat.mul_one]; exact HLL.out) ?_; intro v2 wC ho1 hb1 hg1 hat1; have HO7 := Aside0.mk ho1; have HB7 := Aside0.mk hb1; clear ho1 hb1 hg1 hat1)
              have hi := HI.out
              have hj := HJ.out
              have hnbw : nb wn ≤ 16 := by unfold nb; omega
              go_roundw
              case measure => simp [intOf]; omega
              case rel => exact ⟨j + 1, by go_num, by omega, ⟨by rw [HR2.out, ← List.append_assoc]; exact HO7.out⟩, HB7⟩
        · obtain rfl : j = nb wn := by omega
          have t2 : decide (((nb wn : Nat) : Int) < ((nb wn : Nat) : Int)) = false := decide_eq_false (by omega)
          have HO3 := HO2.out
          rw [← encAll_succ] at HO3
          have HO4 := Aside0.mk HO3
          have hi16 : i < 16 := by omega
          clear HO3
          go_wp2_with fail
          go_roundw
          case measure => simp [intOf]; omega
          case rel => exact ⟨i + 1, by go_num, by omega, HO4, HB2⟩
    · obtain rfl : i = nb hn := by omega
      have t : decide (((nb hn : Nat) : Int) < ((nb hn : Nat) : Int)) = false := decide_eq_false (by omega)
      have hla := encAll_len s wn hn qn hw2 (nb hn)
      obtain ⟨L, hL⟩ : ∃ L, encAll s wn hn qn (nb hn) = L := ⟨_, rfl⟩
      rw [hL] at hla HO
      have hre := HRE.out
      rw [hL] at hre
      clear hL hlt
      obtain ⟨A, c, rfl⟩ := own_slice HO.out
      by_cases hbig : L.length > 65536
      · have tb : decide (65536 < L.length) = true := decide_eq_true hbig
        rw [if_pos hbig] at hre
        obtain ⟨rfl, rfl⟩ := Prod.mk.inj hre
        clear hre
        go_wp2_with fail
        go_ret2
        exact ⟨rfl, HB.out⟩
      · have tb : decide (65536 < L.length) = false := decide_eq_false hbig
        have hcv := own_string (src := 38) (dst := 9) Tryd.underlying38 Tryd.underlying5 Tryd.underlying9 HO.out
        rw [if_neg hbig] at hre
        obtain ⟨rfl, rfl⟩ := Prod.mk.inj hre
        clear hre
        go_wp2_with fail
        go_ret2
        exact ⟨rfl, HB.out⟩
set_option maxHeartbeats 1000000 in
theorem encode_ref (s : ByteArray) (w h q : Int) (hs : s.size ≤ 140737488355328) (W : World) :
    Calls Tryd.prog 22 #[.string s, .int .i64 w, .int .i64 h, .int .i64 q] W fun e w' => e = .returned (.tuple #[.string (encRes s w h q).1, .int .i64 (encRes s w h q).2]) ∧ Below W.heap.size W w' := by
  obtain ⟨⟨R, E⟩, hR⟩ : ∃ r, encRes s w h q = r := ⟨_, rfl⟩
  rw [hR]
  unfold encRes at hR
  have HSC := Aside0.mk (sizes_ref s w h q hs)
  by_cases hz : sizes s.size w h q = 0
  · have hok : okArgs w h q = true := by
      unfold sizes at hz
      split at hz
      · cases hz
      · split at hz
        · assumption
        · cases hz
    simp only [okArgs, decide_eq_true_eq] at hok
    obtain ⟨wn, rfl⟩ := Int.eq_ofNat_of_zero_le (show 0 ≤ w by omega)
    obtain ⟨hn, rfl⟩ := Int.eq_ofNat_of_zero_le (show 0 ≤ h by omega)
    obtain ⟨qn, rfl⟩ := Int.eq_ofNat_of_zero_le (show 0 ≤ q by omega)
    rw [if_neg (by simpa using hz)] at hR
    by_cases hsz : (s.size : Int) = (wn : Int) * (hn : Int)
    · rw [if_neg (by simpa using hsz)] at hR
      exact encode_okR s wn hn qn (by omega) (by omega) (by omega) (by omega) (by omega) (by omega) (by exact_mod_cast hsz) W hz R E hR
    · rw [if_pos hsz] at hR
      obtain ⟨rfl, rfl⟩ := Prod.mk.inj hR
      have t0 : ((s.size : Int) == (wn : Int) * (hn : Int)) = false := by simpa using hsz
      have t1 : ((s.size : Int) != (wn : Int) * (hn : Int)) = true := by simpa using hsz
      have hwh : wn * hn ≤ 16384 := Nat.le_trans (Nat.mul_le_mul (show wn ≤ 128 by omega) (show hn ≤ 128 by omega)) (by decide)
      have t2 : (wn : Int) * (hn : Int) ≤ 16384 := by have := Int.ofNat_le.2 hwh; rw [Int.natCast_mul] at this; exact this
      have t3 : 0 ≤ (wn : Int) * (hn : Int) := by rw [← Int.natCast_mul]; omega
      rw [hz] at HSC
      clear hR hsz hok hz hwh
      go_enter Tryd.func22, Tryd.ntmps22
      go_wp2_with fail
      refine (HSC.out W).mono ?_
      rintro e W1 ⟨rfl, nd, rfl⟩
      go_wp2_with fail
      go_ret2
      exact ⟨rfl, pw_below_drewN (Below.refl _ _) _⟩
  · rw [if_pos hz] at hR
    obtain ⟨rfl, rfl⟩ := Prod.mk.inj hR
    obtain ⟨z, hzz⟩ : ∃ z, sizes s.size w h q = z := ⟨_, rfl⟩
    rw [hzz] at hz HSC ⊢
    have t0 : (z == 0) = false := by simpa using hz
    have t1 : (z != 0) = true := by simpa using hz
    clear hR hzz hz
    go_enter Tryd.func22, Tryd.ntmps22
    go_wp2_with fail
    refine (HSC.out W).mono ?_
    rintro e W1 ⟨rfl, nd, rfl⟩
    go_wp2_with fail
    go_ret2
    exact ⟨rfl, pw_below_drewN (Below.refl _ _) _⟩
end Go.Proofs.YtmbdjajmiggiaaaDoor.U08d
