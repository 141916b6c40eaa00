/- The reference's code of a block (chapter 08): Number 57, code 44. -/
import Derived.Test.YtmbdjajmiggiaaaDoorU08b
namespace Go.Proofs.YtmbdjajmiggiaaaDoor.U08c
open Go.Proofs.YtmbdjajmiggiaaaDoor.K08 Go.Proofs.YtmbdjajmiggiaaaDoor.G08 Go.Proofs.YtmbdjajmiggiaaaDoor.G08f Go.Proofs.YtmbdjajmiggiaaaDoor.Z08 Go.Proofs.YtmbdjajmiggiaaaDoor.O08 Go.Proofs.YtmbdjajmiggiaaaDoor.L08 Go.Proofs.YtmbdjajmiggiaaaDoor.E08 Go.Proofs.YtmbdjajmiggiaaaDoor.W08 Go.Proofs.YtmbdjajmiggiaaaDoor.P08r Go.Proofs.YtmbdjajmiggiaaaDoor.T08 Go.Proofs.YtmbdjajmiggiaaaDoor.U08
open Go.Proofs.YtmbdjajmiggiaaaDoor.V08o (place_call)
open Go.RowKit Go.Proofs.YtmbdjajmiggiaaaDoorW.PrintWords Go.Proofs.YtmbdjajmiggiaaaDoorW.PrintLast Go.Proofs.YtmbdjajmiggiaaaDoorW.PrintMore
set_option linter.unusedVariables false
set_option linter.unusedSimpArgs false
set_option maxRecDepth 100000
theorem number_eq (v : Int) (h1 : -1000000 ≤ v) (h2 : v ≤ 1000000) : chaseref08_Number.f 2 v = some (numR v) := by
  have hb := zig_bd (m := 1000000) h1 h2
  have key : ∀ u : Int, 0 ≤ u → u ≤ 2000000 → chaseref08_Number.j0 2 u = some (digs 2 u) := fun u h0 h9 => by
    have w1 : wrap64 (Int.tdiv u 128) = u / 128 := by rw [Int.tdiv_eq_ediv_of_nonneg h0]; exact IntWalk.wrap64_in _ (by omega)
    have w2 : wrap64 (128 + Int.tmod u 128) = 128 + u % 128 := by rw [Int.tmod_eq_emod_of_nonneg h0]; exact IntWalk.wrap64_in _ (by omega)
    have w3 : wrap64 (128 + Int.tmod (u / 128) 128) = 128 + u / 128 % 128 := by rw [Int.tmod_eq_emod_of_nonneg (by omega)]; exact IntWalk.wrap64_in _ (by omega)
    have w4 : wrap64 (Int.tdiv u 16384) = u / 16384 := by rw [Int.tdiv_eq_ediv_of_nonneg h0]; exact IntWalk.wrap64_in _ (by omega)
    simp only [chaseref08_Number.j0, w1, w2, w3, w4]
    clear w1 w2 w3 w4
    unfold digs
    by_cases c1 : u < 128
    · rw [if_pos c1, if_pos c1]; congr 2; omega
    · rw [if_neg c1, if_neg c1]
      unfold digs
      by_cases c2 : u < 16384
      · rw [if_pos c2, if_pos (by omega)]; congr 2
        · omega
        · congr 1; omega
      · rw [if_neg c2, if_neg (by omega)]
        unfold digs
        congr 2
        · omega
        · congr 1
          · omega
          · congr 1; omega
  unfold chaseref08_Number.f numR
  by_cases hn : v < 0
  · rw [if_pos hn]
    have w1 : wrap64 (wrap64 (-2 * v) - 1) = zig v := by
      unfold zig; rw [if_pos hn, IntWalk.wrap64_in (-2 * v) (by omega)]; exact IntWalk.wrap64_in _ (by omega)
    rw [w1]
    exact key _ hb.1 hb.2
  · rw [if_neg hn]
    have w1 : wrap64 (2 * v) = zig v := by
      unfold zig; rw [if_neg hn]; exact IntWalk.wrap64_in _ (by omega)
    rw [w1]
    exact key _ hb.1 hb.2
theorem number_ref (v : Int) (h1 : -1000000 ≤ v) (h2 : v ≤ 1000000) (w : World) : Calls Tryd.prog 57 #[.int .i64 v] w (Ret8 w (numR v)) := by
  refine (chaseref08_Number.calls 2 v _ w (number_eq v h1 h2)).mono ?_
  rintro e w' ⟨V, rfl, hR, hB⟩
  obtain ⟨_, inner, ho, hr⟩ := hR
  have hr' : Reps (fun (x : Int) (cs : List Value) => cs = [Value.int .u8 x]) 1 (numR v) inner := hr
  have e := Kd.reps_encs (enc := fun x => Value.int .u8 x) hr'
  subst e
  exact ⟨V, rfl, ho, hB⟩
set_option maxHeartbeats 4000000 in
theorem code_ref (b : List Int) (q : Int) (hb : b.length = 64) (hbd : ∀ x ∈ b, -128 ≤ x ∧ x ≤ 128) (hq1 : 1 ≤ q) (hq2 : q ≤ 255) (w : World) : Calls Tryd.prog 44 #[ar b, .int .i64 q] w (Ret8 w (codeL b q)) := by
  have hin : wthn 1048576 b = true := wthn_yes fun k hk => by have := getD_all hbd k hk; omega
  have HL := Aside0.mk hb
  have HBD := Aside0.mk hbd
  have HIN := Aside0.mk hin
  clear hb hbd hin
  unfold ar
  go_enter Tryd.func44, Tryd.ntmps44
  go_wp2_with (refine load_ar rfl _ rfl _ rfl b HL.out (blk_new _ _) ?_)
  refine (coefs_ref b HL.out HIN.out _).mono ?_
  rintro e w1 ⟨rfl, hb1⟩
  have HB1 := Aside0.mk (below_step (below_alloc (Below.refl _ w) _) hb1)
  have hz1 := HB1.out.size
  clear hb1
  obtain ⟨y, hy⟩ : ∃ y, fwdL b = y := ⟨_, rfl⟩
  have HY := Aside0.mk hy
  have HYL : Aside0 (y.length = 64) := ⟨by rw [← hy]; exact fwdL_len b⟩
  rw [hy]
  clear hy
  go_wp2_with (first | (refine alloc_ar rfl rfl ?_) | (refine store_ar rfl _ _ rfl _ rfl z64 y rfl (blk_new _ _) rfl HYL.out ?_))
  have HB2 := Aside0.mk (G08.below_setRow (below_alloc HB1.out (.cells (nums .i64 z64).toArray 22)) (g := w1.heap.size) hz1 (nums .i64 y).toArray)
  have HY2 : Aside0 (Blk ((w1.alloc (.cells (nums .i64 z64).toArray 22)).setRow w1.heap.size (nums .i64 y).toArray) w1.heap.size y) := ⟨Blk.setRow (Blk.new _ _) _⟩
  obtain ⟨w3, hw2⟩ : ∃ w3, (w1.alloc (.cells (nums .i64 z64).toArray 22)).setRow w1.heap.size (nums .i64 y).toArray = w3 := ⟨_, rfl⟩
  rw [hw2] at HB2 HY2 ⊢
  clear hw2
  have HB3 := HB2
  have HY3 := HY2
  have hgy := HY3.out.lt
  clear HB1 HB2 HY2
  obtain ⟨vs, hvs⟩ : ∃ vs, qnt (fwdL b) q = vs := ⟨_, rfl⟩
  have HVL : Aside0 (vs.length = 64) := ⟨by rw [← hvs]; exact qnt_len _ _⟩
  have HV : Aside0 (∀ k, k < 64 → vs.getD k 0 = (2 * y.getD (8 * (zAt k).1 + (zAt k).2) 0 + q) / (2 * q)) := ⟨fun k hk => by rw [← hvs, ← HY.out]; exact qnt_at _ _ _ hk⟩
  have HVB : Aside0 (∀ k, k < 64 → -373249 ≤ vs.getD k 0 ∧ vs.getD k 0 ≤ 373249) := ⟨fun k hk => by rw [← hvs]; exact qnt_bd b HL.out HBD.out q hq1 k hk⟩
  have HYB : Aside0 (∀ k, k < 64 → -373248 ≤ y.getD k 0 ∧ y.getD k 0 ≤ 373248) := ⟨fun k hk => by rw [← HY.out]; exact fwdL_bd b HL.out HBD.out k hk⟩
  have HC : Aside0 (codeL b q = blkC vs 0) := ⟨by unfold codeL; rw [hvs]⟩
  clear hvs
  go_wp2_with fail
  go_loopw [6, 7, 8] (fun v6 v7 v8 wr => ∃ (k z : Nat) (l : List Int), v7 = .int .i64 z ∧ v8 = .int .i64 k ∧ k ≤ 64 ∧ z ≤ k ∧ l.length ≤ 4 * k ∧ Aside0 (l ++ blkC (vs.drop k) z = blkC vs 0) ∧ Aside0 (Own8 wr w3.heap.size v6 l) ∧ Aside0 (Below w3.heap.size w3 wr)) (fun _ _ v8 _ => 64 - (intOf v8).toNat)
  case atStart => exact ⟨0, 0, [], rfl, rfl, by omega, by omega, by simp, ⟨by simp⟩, ⟨own_nil _ _ _ _⟩, ⟨Below.refl _ _⟩⟩
  case round =>
    obtain ⟨k, z, l, rfl, rfl, hk, hzk, hlk, HE, HO, HBR⟩ := hrel
    have hsz := HBR.out.size
    by_cases hlt : k < 64
    · have t : decide ((k : Int) < 64) = true := decide_eq_true (by omega)
      have HP := Aside0.mk (place_call k hlt)
      have hzz := zAt_lt k hlt
      have hv := HV.out k hlt
      have hvb := HVB.out k hlt
      obtain ⟨p, hp⟩ : ∃ p, 8 * (zAt k).1 + (zAt k).2 = p := ⟨_, rfl⟩
      have hp2 : (8 * ((zAt k).1 : Int) + ((zAt k).2 : Int)) = (p : Int) := by omega
      rw [hp2] at HP
      rw [hp] at hv
      have hp64 : p < 64 := by omega
      have hyb := HYB.out p hp64
      have hcy : wr.cell? ⟨w1.heap.size, p, none⟩ = some (.int .i64 (y.getD p 0)) := (Blk.of_below HY3.out HBR.out hgy).cell p (by rw [HYL.out]; exact hp64)
      obtain ⟨yv, hyv⟩ : ∃ yv, y.getD p 0 = yv := ⟨_, rfl⟩
      obtain ⟨v, hv2⟩ : ∃ v, vs.getD k 0 = v := ⟨_, rfl⟩
      rw [hyv] at hcy hv hyb
      have hE := HE.out
      rw [getD_drop (by rw [HVL.out]; exact hlt), hv2, blkC_cons] at hE
      rw [hv2] at hv hvb
      have HFL := Aside0.mk (fun W => floor_ref (2 * yv + q) (2 * q) (by omega) (by omega) (by omega) W)
      rw [← hv] at HFL
      have hp0 : (0 : Int) ≤ (p : Int) := by omega
      have hp1 : (p : Int) < 64 := by omega
      have m1 : IntKind.i64.wrap (2 * yv) = 2 * yv := IntWalk.i64_in _ (by omega)
      have m2 : IntKind.i64.wrap (2 * yv + q) = 2 * yv + q := IntWalk.i64_in _ (by omega)
      have m3 : IntKind.i64.wrap (2 * q) = 2 * q := IntWalk.i64_in _ (by omega)
      clear hp hyv hv hv2 hzz hp2
      go_wp2_with fail
      refine (HP.out _).mono ?_
      rintro e w4 ⟨rfl, hb4⟩
      have HB4 := Aside0.mk (HBR.out.trans (hb4.mono hsz))
      have HO4 := Aside0.mk (pw_own_below HO.out hb4)
      have hcy4 : w4.cell? ⟨w1.heap.size, p, none⟩ = some (.int .i64 yv) := (hb4.cell (p := ⟨w1.heap.size, p, none⟩) (by have := hsz; show w1.heap.size < wr.heap.size; omega)).trans hcy
      have hsz4 : w3.heap.size ≤ w4.heap.size := by have := hb4.size; omega
      clear hb4 hcy HO HBR hsz
      go_wp2_with fail
      refine (HFL.out _).mono ?_
      rintro e w5 ⟨rfl, rfl⟩
      by_cases hv0 : v = 0
      · rw [if_pos hv0] at hE
        have HE2 := Aside0.mk hE
        have t0 : (v == 0) = true := by simpa using hv0
        clear hE hv0
        go_wp2_with fail
        go_roundw
        case measure => simp [intOf]; omega
        case rel => exact ⟨k + 1, z + 1, l, by go_num, by go_num, by omega, by omega, by omega, HE2, HO4, HB4⟩
      · rw [if_neg hv0, ← List.singleton_append, ← List.append_assoc, ← List.append_assoc] at hE
        have HE2 := Aside0.mk hE
        have t0 : (v == 0) = false := by simpa using hv0
        have e1 : IntKind.u8.wrap (z : Int) = (z : Int) := by rw [IntKind.wrap_u8]; omega
        have HN := Aside0.mk (fun W => number_ref v (by omega) (by omega) W)
        have hnl := digs_len 2 (zig v)
        have hnl2 : (numR v).length ≤ 3 := hnl
        clear hE hv0 hnl
        go_wp2_with (at_builtin; refine print_append_num (w0 := w3) w3.heap.size rfl (.tmp 30) (.tmp 33) 38 5 .u8 1 rfl Tryd.underlying38 E08.info5 (by decide) u6 l (z : Int) rfl rfl HO4.out HB4.out hsz4 (by omega) ?_; intro v1 wA ho1 hb1 hg1 hat1; have HO1 := Aside0.mk ho1; have HB1 := Aside0.mk hb1; have HZA := hb1.size; clear ho1 hb1 hg1 hat1)
        refine (HN.out _).mono ?_
        rintro e wB ⟨V, rfl, hV, hbB⟩
        obtain ⟨A, c, rfl, hrd⟩ := own_reads hV
        have HO2 := Aside0.mk (pw_own_below HO1.out hbB)
        have HB2 := Aside0.mk (HB1.out.trans (hbB.mono HZA))
        have HRD := Aside0.mk hrd
        have hzB := hbB.size
        clear hV hbB hrd HO1 HB1
        go_wp2_with (at_builtin; refine print_append_row (w0 := w3) w3.heap.size rfl (.tmp 35) (.tmp 37) 38 5 .u8 1 rfl Tryd.underlying38 E08.info5 (by decide) v1 (l ++ [(z : Int)]) (numR v) A _ c rfl rfl HO2.out HRD.out HB2.out (by omega) (by rw [List.length_append]; simp; omega) ?_; intro v2 wC ho1 hb1 hg1 hat1; have HO3 := Aside0.mk ho1; have HB3 := Aside0.mk hb1; clear ho1 hb1 hg1 hat1)
        go_roundw
        case measure => simp [intOf]; omega
        case rel => exact ⟨k + 1, 0, l ++ [(z : Int)] ++ numR v, rfl, by go_num, by omega, by omega, by rw [List.length_append, List.length_append]; simp; omega, HE2, HO3, HB3⟩
    · obtain rfl : k = 64 := by omega
      have t : decide (((64 : Nat) : Int) < 64) = false := by decide
      have hE := HE.out
      rw [List.drop_of_length_le (by rw [HVL.out]; exact Nat.le_refl _)] at hE
      have HE2 := Aside0.mk hE
      clear hE
      go_wp2_with (at_builtin; refine print_append_num (w0 := w3) w3.heap.size rfl (.tmp 39) (.tmp 40) 38 5 .u8 1 rfl Tryd.underlying38 E08.info5 (by decide) u6 l 64 rfl rfl HO.out HBR.out hsz (by omega) ?_; intro v1 wA ho1 hb1 hg1 hat1; have HO1 := Aside0.mk ho1; have HB1 := Aside0.mk hb1; clear ho1 hb1 hg1 hat1)
      go_ret
      refine ⟨_, rfl, ?_, below_step HB3.out HB1.out⟩
      rw [HC.out, ← HE2.out]
      exact Own8.raise HO1.out HB3.out.size
end Go.Proofs.YtmbdjajmiggiaaaDoor.U08c
