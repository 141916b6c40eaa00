/- The coder (chapter 08): sized, number, block, Encode. -/
import Derived.Test.YtmbdjajmiggiaaaDoorL08
import Derived.Laws.AppendOwn
import Derived.OwnWalk
import Derived.Deep.AppendLies
namespace Go.Proofs.YtmbdjajmiggiaaaDoor.E08
open Go.Proofs.YtmbdjajmiggiaaaDoor.K08 Go.Proofs.YtmbdjajmiggiaaaDoor.G08 Go.Proofs.YtmbdjajmiggiaaaDoor.G08f Go.Proofs.YtmbdjajmiggiaaaDoor.Z08 Go.Proofs.YtmbdjajmiggiaaaDoor.O08 Go.Proofs.YtmbdjajmiggiaaaDoor.L08
open Go.RowKit Go.Proofs.YtmbdjajmiggiaaaDoorW.PrintWords Go.Proofs.YtmbdjajmiggiaaaDoorW.PrintLast Go.Proofs.YtmbdjajmiggiaaaDoorW.PrintMore
set_option linter.unusedVariables false
set_option linter.unusedSimpArgs false
set_option maxRecDepth 100000
theorem info5 : (Tryd.prog.info? 5).map (fun i => (i.zero, i.size, i.bytes)) = some (some (.int .u8 0), 1, 1) := by kernel_rfl
def Own8 (W : World) (base : Nat) (v : Value) (l : List Int) : Prop := W.ownsRow base 5 1 v l.length (nums .u8 l)
/-- A row of octets is handed back. -/
def Ret8 (w : World) (l : List Int) (e : Ending) (w' : World) : Prop := ∃ V, e = .returned V ∧ Own8 w' w.heap.size V l ∧ Below w.heap.size w w'
theorem Own8.raise {W : World} {b b' : Nat} {v : Value} {l : List Int} (h : Own8 W b v l) (hb : b' ≤ b) : Own8 W b' v l := by
  obtain ⟨h1, h2⟩ := h
  refine ⟨h1, ?_⟩
  rcases h2 with h2 | ⟨g, cap, cur, e1, e2, e3⟩
  · exact .inl h2
  · exact .inr ⟨g, cap, cur, e1, Nat.le_trans hb e2, e3⟩
set_option maxHeartbeats 4000000 in
theorem sized_call (s : ByteArray) (w h q : Int) (hs : s.size ≤ 140737488355328) (W : World) : Calls Tryd.prog 41 #[.string s, .int .i64 w, .int .i64 h, .int .i64 q] W fun e w' => e = .returned (.int .i64 (sizes s.size w h q)) ∧ W = w' := by
  by_cases h0 : s.size > 65536
  · have t : decide (65536 < s.size) = true := decide_eq_true h0
    have e : sizes s.size w h q = 3 := if_pos h0
    rw [e]
    clear e
    go_enter Tryd.func41, Tryd.ntmps41
    go_wp2
    go_ret
    exact ⟨rfl, rfl⟩
  · have t : decide (65536 < s.size) = false := decide_eq_false h0
    obtain ⟨r, hr⟩ : ∃ r, sizes s.size w h q = r := ⟨_, rfl⟩
    have e : r = if okArgs w h q then 0 else 2 := by rw [← hr]; exact if_neg h0
    rw [hr]
    clear hr
    by_cases h1 : w < 1
    · have t1 : decide (w < 1) = true := decide_eq_true h1
      rw [if_neg (by simp [okArgs]; omega)] at e
      subst e
      go_enter Tryd.func41, Tryd.ntmps41
      go_wp2
      go_ret
      exact ⟨rfl, rfl⟩
    have t1 : decide (w < 1) = false := decide_eq_false h1
    by_cases h2 : 128 < w
    · have t2 : decide (128 < w) = true := decide_eq_true h2
      rw [if_neg (by simp [okArgs]; omega)] at e
      subst e
      go_enter Tryd.func41, Tryd.ntmps41
      go_wp2
      go_ret
      exact ⟨rfl, rfl⟩
    have t2 : decide (128 < w) = false := decide_eq_false h2
    by_cases h3 : h < 1
    · have t3 : decide (h < 1) = true := decide_eq_true h3
      rw [if_neg (by simp [okArgs]; omega)] at e
      subst e
      go_enter Tryd.func41, Tryd.ntmps41
      go_wp2
      go_ret
      exact ⟨rfl, rfl⟩
    have t3 : decide (h < 1) = false := decide_eq_false h3
    by_cases h4 : 128 < h
    · have t4 : decide (128 < h) = true := decide_eq_true h4
      rw [if_neg (by simp [okArgs]; omega)] at e
      subst e
      go_enter Tryd.func41, Tryd.ntmps41
      go_wp2
      go_ret
      exact ⟨rfl, rfl⟩
    have t4 : decide (128 < h) = false := decide_eq_false h4
    by_cases h5 : q < 1
    · have t5 : decide (q < 1) = true := decide_eq_true h5
      rw [if_neg (by simp [okArgs]; omega)] at e
      subst e
      go_enter Tryd.func41, Tryd.ntmps41
      go_wp2
      go_ret
      exact ⟨rfl, rfl⟩
    have t5 : decide (q < 1) = false := decide_eq_false h5
    by_cases h6 : 255 < q
    · have t6 : decide (255 < q) = true := decide_eq_true h6
      rw [if_neg (by simp [okArgs]; omega)] at e
      subst e
      go_enter Tryd.func41, Tryd.ntmps41
      go_wp2
      go_ret
      exact ⟨rfl, rfl⟩
    have t6 : decide (255 < q) = false := decide_eq_false h6
    rw [if_pos (by simp [okArgs]; omega)] at e
    subst e
    go_enter Tryd.func41, Tryd.ntmps41
    go_wp2
    go_ret
    exact ⟨rfl, rfl⟩
set_option maxHeartbeats 4000000 in
theorem number_call (v : Int) (h1 : -1000000 ≤ v) (h2 : v ≤ 1000000) (w : World) : Calls Tryd.prog 56 #[.int .i64 v] w (Ret8 w (numR v)) := by
  obtain ⟨l0, hl0⟩ : ∃ l0, numR v = l0 := ⟨_, rfl⟩
  rw [hl0]
  obtain ⟨u0, hu0⟩ : ∃ u0, zig v = u0 := ⟨_, rfl⟩
  have hd : digs 2 u0 = l0 := by rw [← hl0, ← hu0]; rfl
  have hb := zig_bd (m := 1000000) h1 h2
  rw [hu0] at hb
  have HD := Aside0.mk hd
  clear hl0 hd
  have key : ∀ (Q : Prop), Q → Q := fun _ h => h
  by_cases hn : v < 0
  all_goals
    unfold zig at hu0
    first | rw [if_pos hn] at hu0 | rw [if_neg hn] at hu0
    first | have t : decide (v < 0) = true := decide_eq_true hn | have t : decide (v < 0) = false := decide_eq_false hn
    have HU := Aside0.mk hu0
    clear hu0
    go_enter Tryd.func56, Tryd.ntmps56
    go_wp2
    rw [HU.out]
    clear HU t hn
    go_loopw [3, 4] (fun v3 v4 wr => ∃ (k : Nat) (u : Int) (l : List Int), v3 = .int .i64 u ∧ 0 ≤ u ∧ u ≤ 2000000 ∧ k ≤ 2 ∧ l.length + k ≤ 2 ∧ Aside0 (u < bnd k) ∧ Aside0 (l ++ digs k u = l0) ∧ Aside0 (Own8 wr w.heap.size v4 l) ∧ Aside0 (Below w.heap.size w wr)) (fun v3 _ _ => (intOf v3).toNat)
    case atStart => exact ⟨2, u0, [], rfl, by omega, by omega, by omega, by simp, ⟨by simp [bnd]; omega⟩, ⟨HD.out⟩, ⟨own_nil _ _ _ _⟩, ⟨Below.refl _ _⟩⟩
    case round =>
      obtain ⟨k, u, l, rfl, hu, hu2, hk, hlk, HK, HL, HO, HB⟩ := hrel
      by_cases hge : 128 ≤ u
      · have t : decide (128 ≤ u) = true := decide_eq_true hge
        obtain ⟨k, rfl⟩ : ∃ m, k = m + 1 := by
          cases k with
          | zero => have := HK.out; simp [bnd] at this; omega
          | succ m => exact ⟨m, rfl⟩
        have hL2 := HL.out
        unfold digs at hL2
        rw [if_neg (by omega), ← List.singleton_append, ← List.append_assoc] at hL2
        have HL2 := Aside0.mk hL2
        have HK2 : Aside0 (u / 128 < bnd k) := ⟨by have := HK.out; unfold bnd at this; omega⟩
        clear HL HK hL2
        have e1 : IntKind.u8.wrap (u % 128) = u % 128 := by rw [IntKind.wrap_u8]; omega
        have e2 : IntKind.u8.wrap (u % 128 + 128) = u % 128 + 128 := by rw [IntKind.wrap_u8]; omega
        have e3 : IntKind.u8.wrap (IntKind.u8.wrap (u % 128) + 128) = u % 128 + 128 := by rw [e1, e2]
        go_wp2_with (at_builtin; refine print_append_num (w0 := w) w.heap.size rfl (.tmp 16) (.tmp 21) 38 5 .u8 1 rfl Tryd.underlying38 info5 (by decide) u4 l (u % 128 + 128) rfl rfl HO.out HB.out HB.out.size (by omega) ?_; intro v1 w1 ho1 hb1 hg1 hat1; have HO1 := Aside0.mk ho1; have HB1 := Aside0.mk hb1; clear ho1 hb1 hg1 hat1)
        go_roundw
        case measure => simp [intOf]; omega
        case rel => exact ⟨k, u / 128, l ++ [u % 128 + 128], rfl, by omega, by omega, by omega, by rw [List.length_append]; simp; omega, HK2, HL2, HO1, HB1⟩
      · have t : decide (128 ≤ u) = false := decide_eq_false hge
        have hL2 := HL.out
        have e0 : digs k u = [u] := by cases k with
          | zero => rfl
          | succ k => unfold digs; rw [if_pos (by omega)]
        rw [e0] at hL2
        have HL2 := Aside0.mk hL2
        clear hL2 e0 HL HK
        have e1 : IntKind.u8.wrap u = u := by rw [IntKind.wrap_u8]; omega
        go_wp2_with (at_builtin; refine print_append_num (w0 := w) w.heap.size rfl (.tmp 23) (.tmp 26) 38 5 .u8 1 rfl Tryd.underlying38 info5 (by decide) u4 l u rfl rfl HO.out HB.out HB.out.size (by omega) ?_; intro v1 w1 ho1 hb1 hg1 hat1; have HO1 := Aside0.mk ho1; have HB1 := Aside0.mk hb1; clear ho1 hb1 hg1 hat1)
        go_ret
        exact ⟨_, rfl, by rw [← HL2.out]; exact HO1.out, HB1.out⟩
theorem blkC_cons (v : Int) (vs : List Int) (z : Nat) : blkC (v :: vs) z = if v = 0 then blkC vs (z + 1) else (z : Int) :: (numR v ++ blkC vs 0) := rfl
theorem getD_drop {l : List Int} {k : Nat} (h : k < l.length) : l.drop k = l.getD k 0 :: l.drop (k + 1) := by
  rw [List.drop_eq_getElem_cons h, List.getD_eq_getElem?_getD, List.getElem?_eq_getElem h]; rfl
set_option maxHeartbeats 4000000 in
theorem block_call (b : List Int) (q : Int) (hb : b.length = 64) (hbd : ∀ x ∈ b, -128 ≤ x ∧ x ≤ 128) (hq1 : 1 ≤ q) (hq2 : q ≤ 255) (w : World) (hm : Mat w) : Calls Tryd.prog 42 #[ar b, .int .i64 q] w (Ret8 w (codeL b q)) := by
  have hin : wthn 1048576 b = true := wthn_yes fun k hk => by have := getD_all hbd k hk; omega
  have HL := Aside0.mk hb
  have HBD := Aside0.mk hbd
  have HIN := Aside0.mk hin
  have HM := Aside0.mk hm
  clear hb hbd hin hm
  unfold ar
  go_enter Tryd.func42, Tryd.ntmps42
  go_wp2_with (refine load_ar rfl _ rfl _ rfl b HL.out (blk_new _ _) ?_)
  refine (forward_call b HL.out _ (HM.out.below (below_alloc (Below.refl _ _) _)) HIN.out).mono ?_
  rintro e w1 ⟨rfl, hb1⟩
  have HB1 := Aside0.mk (below_step (below_alloc (Below.refl _ w) _) hb1)
  have hz1 := HB1.out.size
  clear hb1
  obtain ⟨y, hy⟩ : ∃ y, fwdL b = y := ⟨_, rfl⟩
  have HY := Aside0.mk hy
  have HYL : Aside0 (y.length = 64) := ⟨by rw [← hy]; exact fwdL_len b⟩
  rw [hy]
  clear hy
  go_wp2_with (first | (refine alloc_ar rfl rfl ?_) | (refine store_ar rfl _ _ rfl _ rfl z64 y rfl (blk_new _ _) rfl HYL.out ?_))
  have HB2 := Aside0.mk (G08.below_setRow (below_alloc HB1.out (.cells (nums .i64 z64).toArray 22)) (g := w1.heap.size) hz1 (nums .i64 y).toArray)
  have HY2 : Aside0 (Blk ((w1.alloc (.cells (nums .i64 z64).toArray 22)).setRow w1.heap.size (nums .i64 y).toArray) w1.heap.size y) := ⟨Blk.setRow (Blk.new _ _) _⟩
  obtain ⟨w2, hw2⟩ : ∃ w2, (w1.alloc (.cells (nums .i64 z64).toArray 22)).setRow w1.heap.size (nums .i64 y).toArray = w2 := ⟨_, rfl⟩
  rw [hw2] at HB2 HY2 ⊢
  clear hw2
  refine (order_call _).mono ?_
  rintro e w3 ⟨rfl, hb3⟩
  have HB3 := Aside0.mk (below_step HB2.out hb3)
  have HY3 := Aside0.mk (HY2.out.below hb3)
  have hgy := HY3.out.lt
  clear hb3 HB1 HB2 HY2
  obtain ⟨vs, hvs⟩ : ∃ vs, qnt (fwdL b) q = vs := ⟨_, rfl⟩
  have HVL : Aside0 (vs.length = 64) := ⟨by rw [← hvs]; exact qnt_len _ _⟩
  have HV : Aside0 (∀ k, k < 64 → vs.getD k 0 = (2 * y.getD (8 * (zAt k).1 + (zAt k).2) 0 + q) / (2 * q)) := ⟨fun k hk => by rw [← hvs, ← HY.out]; exact qnt_at _ _ _ hk⟩
  have HVB : Aside0 (∀ k, k < 64 → -373249 ≤ vs.getD k 0 ∧ vs.getD k 0 ≤ 373249) := ⟨fun k hk => by rw [← hvs]; exact qnt_bd b HL.out HBD.out q hq1 k hk⟩
  have HYB : Aside0 (∀ k, k < 64 → -373248 ≤ y.getD k 0 ∧ y.getD k 0 ≤ 373248) := ⟨fun k hk => by rw [← HY.out]; exact fwdL_bd b HL.out HBD.out k hk⟩
  have HC : Aside0 (codeL b q = blkC vs 0) := ⟨by unfold codeL; rw [hvs]⟩
  clear hvs
  go_wp2_with fail
  go_loopw [7, 8, 18] (fun v7 v8 v18 wr => ∃ (k z : Nat) (l : List Int), v8 = .int .i64 z ∧ v18 = .int .i64 k ∧ k ≤ 64 ∧ z ≤ k ∧ l.length ≤ 4 * k ∧ Aside0 (l ++ blkC (vs.drop k) z = blkC vs 0) ∧ Aside0 (Own8 wr w3.heap.size v7 l) ∧ Aside0 (Below w3.heap.size w3 wr)) (fun _ _ v18 _ => 64 - (intOf v18).toNat)
  case atStart => exact ⟨0, 0, [], rfl, rfl, by omega, by omega, by simp, ⟨by simp⟩, ⟨own_nil _ _ _ _⟩, ⟨Below.refl _ _⟩⟩
  case round =>
    obtain ⟨k, z, l, rfl, rfl, hk, hzk, hlk, HE, HO, HBR⟩ := hrel
    have hsz := HBR.out.size
    by_cases hlt : k < 64
    · have t : decide ((k : Int) < 64) = true := decide_eq_true (by omega)
      have hix := run_index_ar Tryd.underlying22 size3 agg3 orderL orderL_len k hlt wr
      rw [order_at k hlt] at hix
      have hzz := zAt_lt k hlt
      have hv := HV.out k hlt
      have hvb := HVB.out k hlt
      obtain ⟨p, hp⟩ : ∃ p, 8 * (zAt k).1 + (zAt k).2 = p := ⟨_, rfl⟩
      rw [hp] at hix hv
      have hp64 : p < 64 := by omega
      have hyb := HYB.out p hp64
      have hcy : wr.cell? ⟨w1.heap.size, p, none⟩ = some (.int .i64 (y.getD p 0)) := (Blk.of_below HY3.out HBR.out hgy).cell p (by rw [HYL.out]; exact hp64)
      obtain ⟨yv, hyv⟩ : ∃ yv, y.getD p 0 = yv := ⟨_, rfl⟩
      obtain ⟨v, hv2⟩ : ∃ v, vs.getD k 0 = v := ⟨_, rfl⟩
      rw [hyv] at hcy hv hyb
      have hE := HE.out
      rw [getD_drop (by rw [HVL.out]; exact hlt), hv2, blkC_cons] at hE
      rw [hv2] at hv hvb
      have HFL := Aside0.mk (floor_call (2 * yv + q) (2 * q) (by omega) (by omega) (by omega) wr)
      rw [← hv] at HFL
      clear hp hyv hv hv2 hzz
      go_wp2_with fail
      refine HFL.out.mono ?_
      rintro e w5 ⟨rfl, rfl⟩
      by_cases hv0 : v = 0
      · rw [if_pos hv0] at hE
        have HE2 := Aside0.mk hE
        have t0 : (v == 0) = true := by simpa using hv0
        clear hE hv0
        go_wp2_with fail
        go_roundw
        case measure => simp [intOf]; omega
        case rel => exact ⟨k + 1, z + 1, l, by go_num, by go_num, by omega, by omega, by omega, HE2, HO, HBR⟩
      · rw [if_neg hv0, ← List.singleton_append, ← List.append_assoc, ← List.append_assoc] at hE
        have HE2 := Aside0.mk hE
        have t0 : (v == 0) = false := by simpa using hv0
        have e1 : IntKind.u8.wrap (z : Int) = (z : Int) := by rw [IntKind.wrap_u8]; omega
        have HN := Aside0.mk (fun W => number_call v (by omega) (by omega) W)
        have hnl := digs_len 2 (zig v)
        have hnl2 : (numR v).length ≤ 3 := hnl
        clear hE hv0 hnl hix
        go_wp2_with (at_builtin; refine print_append_num (w0 := w3) w3.heap.size rfl (.tmp 34) (.tmp 37) 38 5 .u8 1 rfl Tryd.underlying38 info5 (by decide) u7 l (z : Int) rfl rfl HO.out HBR.out hsz (by omega) ?_; intro v1 wA ho1 hb1 hg1 hat1; have HO1 := Aside0.mk ho1; have HB1 := Aside0.mk hb1; have HZA := hb1.size; clear ho1 hb1 hg1 hat1)
        refine (HN.out _).mono ?_
        rintro e wB ⟨V, rfl, hV, hbB⟩
        obtain ⟨A, c, rfl, hrd⟩ := own_reads hV
        have HO2 := Aside0.mk (pw_own_below HO1.out hbB)
        have HB2 := Aside0.mk (HB1.out.trans (hbB.mono HZA))
        have HRD := Aside0.mk hrd
        have hzB := hbB.size
        clear hV hbB hrd HO1 HB1
        go_wp2_with (at_builtin; refine print_append_row (w0 := w3) w3.heap.size rfl (.tmp 38) (.tmp 40) 38 5 .u8 1 rfl Tryd.underlying38 info5 (by decide) v1 (l ++ [(z : Int)]) (numR v) A _ c rfl rfl HO2.out HRD.out HB2.out (by omega) (by rw [List.length_append]; simp; omega) ?_; intro v2 wC ho1 hb1 hg1 hat1; have HO3 := Aside0.mk ho1; have HB3 := Aside0.mk hb1; clear ho1 hb1 hg1 hat1)
        go_roundw
        case measure => simp [intOf]; omega
        case rel => exact ⟨k + 1, 0, l ++ [(z : Int)] ++ numR v, rfl, by go_num, by omega, by omega, by rw [List.length_append, List.length_append]; simp; omega, HE2, HO3, HB3⟩
    · obtain rfl : k = 64 := by omega
      have t : decide (((64 : Nat) : Int) < 64) = false := by decide
      have hE := HE.out
      rw [List.drop_of_length_le (by rw [HVL.out]; exact Nat.le_refl _)] at hE
      have HE2 := Aside0.mk hE
      clear hE
      go_wp2_with (at_builtin; refine print_append_num (w0 := w3) w3.heap.size rfl (.tmp 43) (.tmp 44) 38 5 .u8 1 rfl Tryd.underlying38 info5 (by decide) u7 l 64 rfl rfl HO.out HBR.out hsz (by omega) ?_; intro v1 wA ho1 hb1 hg1 hat1; have HO1 := Aside0.mk ho1; have HB1 := Aside0.mk hb1; clear ho1 hb1 hg1 hat1)
      go_ret
      refine ⟨_, rfl, ?_, below_step HB3.out HB1.out⟩
      rw [HC.out, ← HE2.out]
      exact Own8.raise HO1.out HB3.out.size
end Go.Proofs.YtmbdjajmiggiaaaDoor.E08
