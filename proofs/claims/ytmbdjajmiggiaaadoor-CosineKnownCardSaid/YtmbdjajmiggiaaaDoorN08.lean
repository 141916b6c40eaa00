/- Encode (chapter 08). -/
import Derived.Test.YtmbdjajmiggiaaaDoorE08
import Derived.WalkLawsBesides
namespace Go.Proofs.YtmbdjajmiggiaaaDoor.N08
open Go.Proofs.YtmbdjajmiggiaaaDoor.K08 Go.Proofs.YtmbdjajmiggiaaaDoor.G08 Go.Proofs.YtmbdjajmiggiaaaDoor.G08f Go.Proofs.YtmbdjajmiggiaaaDoor.Z08 Go.Proofs.YtmbdjajmiggiaaaDoor.O08 Go.Proofs.YtmbdjajmiggiaaaDoor.L08 Go.Proofs.YtmbdjajmiggiaaaDoor.E08
open Go.RowKit Go.Proofs.YtmbdjajmiggiaaaDoorW.PrintWords Go.Proofs.YtmbdjajmiggiaaaDoorW.PrintLast Go.Proofs.YtmbdjajmiggiaaaDoorW.PrintMore
set_option linter.unusedVariables false
set_option linter.unusedSimpArgs false
set_option maxRecDepth 100000
/-- The first n elements of a block are laid. -/
def encP (s : ByteArray) (w h i j n : Nat) : List Int := (List.range 64).map fun k => if k < n then bAt s (w * min (8 * i + k / 8) (h - 1) + min (8 * j + k % 8) (w - 1)) - 128 else 0
theorem encP_len (s : ByteArray) (w h i j n : Nat) : (encP s w h i j n).length = 64 := by simp [encP]
theorem encP_zero (s : ByteArray) (w h i j : Nat) : encP s w h i j 0 = z64 := by
  unfold encP z64
  apply List.ext_getElem
  · simp
  · intro n h1 h2
    rw [List.getElem_map, List.getElem_replicate, if_neg (by omega)]
theorem encP_all (s : ByteArray) (w h i j : Nat) : encP s w h i j 64 = encB s w h i j := by
  unfold encP encB
  apply List.map_congr_left
  intro l hl
  rw [if_pos (by simpa using hl)]
theorem encP_set (s : ByteArray) (w h i j k : Nat) (hk : k < 64) : (encP s w h i j k).set k (bAt s (w * min (8 * i + k / 8) (h - 1) + min (8 * j + k % 8) (w - 1)) - 128) = encP s w h i j (k + 1) := by
  apply List.ext_getElem
  · simp [encP]
  · intro n h1 h2
    simp only [encP, List.getElem_set, List.getElem_map, List.getElem_range]
    split
    · rename_i h; rw [← h, if_pos (by omega)]
    · by_cases h3 : n < k
      · rw [if_pos h3, if_pos (by omega)]
      · rw [if_neg h3, if_neg (by omega)]
theorem idx_lt (w h r c n : Nat) (hn : n = w * h) (hr : r < h) (hc : c < w) : w * r + c < n := by
  subst hn
  have : w * (r + 1) ≤ w * h := Nat.mul_le_mul_left _ (by omega)
  rw [Nat.mul_add] at this
  omega
theorem strAt (s : ByteArray) (k : Nat) (h : k < s.size) : ((s[k]'h).toNat : Int) = bAt s k := by
  unfold bAt bytesOf
  have hml : k < s.data.toList.length := by simpa using h
  simp [List.getD_eq_getElem?_getD, List.getElem?_eq_getElem hml]
  rfl
/-- A mark that stops the walk. -/
structure Brk (p : Prop) : Prop where
  out : p
theorem brkO {P : Program} {W : World} {ops : Array Oper} {rest : List Oper} {o : Oper} {a : Act} {Q : Exit → Act → World → Prop} {x : Op} (_ho : o.op = x) (h : Brk (wpList P ops Q (o :: rest) a W)) : wpList P ops Q (o :: rest) a W := h.out
set_option maxHeartbeats 4000000 in
theorem encode_ok (s : ByteArray) (wn hn qn : Nat) (hw1 : 1 ≤ wn) (hw2 : wn ≤ 128) (hh1 : 1 ≤ hn) (hh2 : hn ≤ 128) (hq1 : 1 ≤ qn) (hq2 : qn ≤ 255) (hs : s.size = wn * hn) (W : World) (hm : Mat W) (hz : sizes s.size wn hn qn = 0) (R : ByteArray) (E : Int) (hR : (if (encAll s wn hn qn (nb hn)).length > 65536 then (⟨#[]⟩, 3) else (strOfNums (encAll s wn hn qn (nb hn)), 0) : ByteArray × Int) = (R, E)) :
    Calls Tryd.prog 21 #[.string s, .int .i64 wn, .int .i64 hn, .int .i64 qn] W fun e w' => e = .returned (.tuple #[.string R, .int .i64 E]) ∧ Below W.heap.size W w' := by
  have HRE := Aside0.mk hR
  clear hR
  have HM := Aside0.mk hm
  have HS := Aside0.mk hs
  have hwh : wn * hn ≤ 16384 := Nat.le_trans (Nat.mul_le_mul hw2 hh2) (by decide)
  have hsc := sized_call s wn hn qn (by omega)
  rw [hz] at hsc
  have HSC := Aside0.mk hsc
  have t0 : ((s.size : Int) == (wn : Int) * (hn : Int)) = true := by rw [hs]; simp
  have t1 : ((s.size : Int) != (wn : Int) * (hn : Int)) = false := by rw [hs]; simp
  have t2 : (wn : Int) * (hn : Int) ≤ 16384 := by have := Int.ofNat_le.2 hwh; rw [Int.natCast_mul] at this; exact this
  have t3 : 0 ≤ (wn : Int) * (hn : Int) := by rw [← Int.natCast_mul]; omega
  clear hsc hm hs hz hwh
  go_enter Tryd.func21, Tryd.ntmps21
  go_wp2_with fail
  refine (HSC.out W).mono ?_
  rintro e W1 ⟨rfl, rfl⟩
  go_wp2_with fail
  clear t0 t1 t2 t3
  go_loopw [11, 12] (fun v11 v12 wr => ∃ i : Nat, v12 = .int .i64 (8 * (i : Int)) ∧ i ≤ nb hn ∧ Aside0 (Own8 wr W.heap.size v11 (encAll s wn hn qn i)) ∧ Aside0 (Below W.heap.size W wr)) (fun _ v12 _ => 1000 - (intOf v12).toNat)
  case atStart => exact ⟨0, rfl, by omega, ⟨own_nil _ _ _ _⟩, ⟨Below.refl _ _⟩⟩
  case round =>
    obtain ⟨i, rfl, hi, HO, HB⟩ := hrel
    have hnb : nb hn ≤ 16 := by unfold nb; omega
    by_cases hlt : i < nb hn
    · have t : decide (8 * (i : Int) < (hn : Int)) = true := decide_eq_true (by unfold nb at hlt; omega)
      obtain ⟨wo, rfl⟩ : ∃ wo, wo = wr := ⟨_, rfl⟩
      go_wp2_with fail
      go_loopw [11, 13] (fun v11 v13 w2 => ∃ j : Nat, v13 = .int .i64 (8 * (j : Int)) ∧ j ≤ nb wn ∧ Aside0 (Own8 w2 W.heap.size v11 (encAll s wn hn qn i ++ encRow s wn hn qn i j)) ∧ Aside0 (Below W.heap.size W w2)) (fun _ v13 _ => 1000 - (intOf v13).toNat)
      case atStart => exact ⟨0, rfl, by omega, ⟨by rw [show encRow s wn hn qn i 0 = [] from rfl, List.append_nil]; exact HO.out⟩, HB⟩
      case round =>
        obtain ⟨j, rfl, hj, HO2, HB2⟩ := hrel
        have hnbw : nb wn ≤ 16 := by unfold nb; omega
        by_cases hlt2 : j < nb wn
        · have t2 : decide (8 * (j : Int) < (wn : Int)) = true := decide_eq_true (by unfold nb at hlt2; omega)
          obtain ⟨wp, rfl⟩ : ∃ wp, wp = wr := ⟨_, rfl⟩
          go_wp2_with (refine alloc_ar rfl rfl ?_)
          go_loopw [42] (fun v42 w4 => ∃ k : Nat, v42 = .int .i64 k ∧ k ≤ 64 ∧ Aside0 (Blk w4 wp.heap.size (encP s wn hn i j k)) ∧ Aside0 (Below wp.heap.size wp w4)) (fun v42 _ => 64 - (intOf v42).toNat)
          case atStart => exact ⟨0, rfl, by omega, ⟨by rw [encP_zero]; exact Blk.new _ _⟩, ⟨below_alloc (Below.refl _ _) _⟩⟩
          case round =>
            obtain ⟨k, rfl, hk, HBL, HB4⟩ := hrel
            by_cases hlt4 : k < 64
            · have t4 : decide ((k : Int) < 64) = true := decide_eq_true (by omega)
              have hi16 : i < 16 := by omega
              have hj16 : j < 16 := by omega
              have HSET := encP_set s wn hn i j k hlt4
              obtain ⟨r, hr⟩ : ∃ r : Nat, min (8 * i + k / 8) (hn - 1) = r := ⟨_, rfl⟩
              obtain ⟨c, hc⟩ : ∃ c : Nat, min (8 * j + k % 8) (wn - 1) = c := ⟨_, rfl⟩
              have m1 : (if (hn : Int) - 1 < 8 * (i : Int) + (k : Int) / 8 then (hn : Int) - 1 else 8 * (i : Int) + (k : Int) / 8) = (r : Int) := by rw [← hr]; split <;> omega
              have m2 : (if (wn : Int) - 1 < 8 * (j : Int) + (k : Int) % 8 then (wn : Int) - 1 else 8 * (j : Int) + (k : Int) % 8) = (c : Int) := by rw [← hc]; split <;> omega
              have hrl : r < hn := by omega
              have hcl : c < wn := by omega
              have hix := idx_lt wn hn r c s.size HS.out hrl hcl
              rw [hr, hc] at HSET
              obtain ⟨p, hp⟩ : ∃ p : Nat, wn * r = p := ⟨_, rfl⟩
              rw [hp] at hix HSET
              have hp2 : (wn : Int) * (r : Int) = (p : Int) := by rw [← hp]; simp
              have hpb : p ≤ 16384 := by rw [← hp]; exact Nat.le_trans (Nat.mul_le_mul hw2 (show r ≤ 128 by omega)) (by decide)
              have hat := strAt s (p + c) hix
              obtain ⟨x, hx⟩ : ∃ x, bAt s (p + c) = x := ⟨_, rfl⟩
              have hxb := bAt_bd s (p + c)
              rw [hx] at hat hxb HSET
              have HSET' := Aside0.mk HSET
              have q1 : (p : Int) + (c : Int) < (s.size : Int) := by omega
              have q2 : ((p : Int) + (c : Int)).toNat = p + c := by omega
              have q0 : ∀ h, ((s[p + c]'h).toNat : Int) = x := fun h => hat
              have hcell : wr.cell? ⟨wp.heap.size, k, none⟩ = some (.int .i64 ((encP s wn hn i j k).getD k 0)) := HBL.out.cell k (by rw [encP_len]; exact hlt4)
              have hfr : wr.frozen? ⟨wp.heap.size, k, none⟩ = false := blk_frozen HBL.out _
              have HI := Aside0.mk hlt
              have HJ := Aside0.mk hlt2
              clear hlt hlt2 hnb hnbw hi hj hk HSET hr hc hp hx hat hix
              go_wp2_with fail
              go_roundw
              case measure => simp [intOf]; omega
              case rel => exact ⟨k + 1, by go_num, by omega, ⟨by rw [← HSET'.out]; exact HBL.out.set k (x - 128)⟩, ⟨below_set HB4.out (Nat.le_refl _)⟩⟩
            · obtain rfl : k = 64 := by omega
              rw [encP_all] at HBL
              have t4 : decide (((64 : Nat) : Int) < 64) = false := by decide
              have HMR : Aside0 (Mat wr) := ⟨(HM.out.below HB2.out).below HB4.out⟩
              have HI := Aside0.mk hlt
              have HJ := Aside0.mk hlt2
              have hla := encAll_len s wn hn qn hw2 i
              have hlr := encRow_len s wn hn qn i j
              have hcl := codeL_len (encB s wn hn i j) qn
              have hi16 : i < 16 := by omega
              have hj16 : j < 16 := by omega
              have HLL : Aside0 ((encAll s wn hn qn i ++ encRow s wn hn qn i j).length + (codeL (encB s wn hn i j) qn).length ≤ 140737488355328) := ⟨by rw [List.length_append]; omega⟩
              have HO4 := Aside0.mk (pw_own_below HO2.out HB4.out)
              have HB5 := Aside0.mk (below_step HB2.out HB4.out)
              clear hla hlr hcl hlt hlt2 hnb hnbw hi hj hk
              go_wp2_with (refine load_ar rfl _ rfl _ rfl (encB s wn hn i j) (encB_len _ _ _ _ _) HBL.out ?_)
              refine (block_call (encB s wn hn i j) qn (encB_len _ _ _ _ _) (encB_bd _ _ _ _ _) (by omega) (by omega) wr HMR.out).mono ?_
              rintro e w5 ⟨V, rfl, hV, hb5⟩
              obtain ⟨A, c, rfl, hrd⟩ := own_reads hV
              have HO5 := Aside0.mk (pw_own_below HO4.out hb5)
              have HB6 := Aside0.mk (below_step HB5.out hb5)
              have HRD := Aside0.mk hrd
              have HR2 : Aside0 (encRow s wn hn qn i (j + 1) = encRow s wn hn qn i j ++ codeL (encB s wn hn i j) qn) := ⟨encRow_succ _ _ _ _ _ _⟩
              clear hV hb5 hrd
              go_wp2_with (at_builtin; refine print_append_row (w0 := W) W.heap.size rfl (.tmp 71) (.tmp 74) 38 5 .u8 1 rfl Tryd.underlying38 info5 (by decide) u11 (encAll s wn hn qn i ++ encRow s wn hn qn i j) (codeL (encB s wn hn i j) qn) A _ c rfl rfl HO5.out HRD.out HB6.out HB6.out.size (by rw [Nat.mul_one]; exact HLL.out) ?_; intro v2 wC ho1 hb1 hg1 hat1; have HO7 := Aside0.mk ho1; have HB7 := Aside0.mk hb1; clear ho1 hb1 hg1 hat1)
              have hi := HI.out
              have hj := HJ.out
              have hnbw : nb wn ≤ 16 := by unfold nb; omega
              go_roundw
              case measure => simp [intOf]; omega
              case rel => exact ⟨j + 1, by go_num, by omega, ⟨by rw [HR2.out, ← List.append_assoc]; exact HO7.out⟩, HB7⟩
        · obtain rfl : j = nb wn := by omega
          have t2 : decide (8 * ((nb wn : Nat) : Int) < (wn : Int)) = false := decide_eq_false (by unfold nb; omega)
          have HO3 := HO2.out
          rw [← encAll_succ] at HO3
          have HO4 := Aside0.mk HO3
          have hi16 : i < 16 := by omega
          clear HO3
          go_wp2_with fail
          go_roundw
          case measure => simp [intOf]; omega
          case rel => exact ⟨i + 1, by go_num, by omega, HO4, HB2⟩
    · obtain rfl : i = nb hn := by omega
      have t : decide (8 * ((nb hn : Nat) : Int) < (hn : Int)) = false := decide_eq_false (by unfold nb; omega)
      have hla := encAll_len s wn hn qn hw2 (nb hn)
      obtain ⟨L, hL⟩ : ∃ L, encAll s wn hn qn (nb hn) = L := ⟨_, rfl⟩
      rw [hL] at hla HO
      have hre := HRE.out
      rw [hL] at hre
      clear hL hlt
      obtain ⟨A, c, rfl⟩ := own_slice HO.out
      by_cases hbig : L.length > 65536
      · have tb : decide (65536 < L.length) = true := decide_eq_true hbig
        rw [if_pos hbig] at hre
        obtain ⟨rfl, rfl⟩ := Prod.mk.inj hre
        clear hre
        go_wp2_with fail
        go_ret2
        exact ⟨rfl, HB.out⟩
      · have tb : decide (65536 < L.length) = false := decide_eq_false hbig
        have hcv := own_string (src := 38) (dst := 9) Tryd.underlying38 Tryd.underlying5 Tryd.underlying9 HO.out
        rw [if_neg hbig] at hre
        obtain ⟨rfl, rfl⟩ := Prod.mk.inj hre
        clear hre
        go_wp2_with fail
        go_ret2
        exact ⟨rfl, HB.out⟩
set_option maxHeartbeats 1000000 in
theorem encode_call (s : ByteArray) (w h q : Int) (hs : s.size ≤ 140737488355328) (W : World) (hm : Mat W) :
    Calls Tryd.prog 21 #[.string s, .int .i64 w, .int .i64 h, .int .i64 q] W fun e w' => e = .returned (.tuple #[.string (encRes s w h q).1, .int .i64 (encRes s w h q).2]) ∧ Below W.heap.size W w' := by
  obtain ⟨⟨R, E⟩, hR⟩ : ∃ r, encRes s w h q = r := ⟨_, rfl⟩
  rw [hR]
  unfold encRes at hR
  have HSC := Aside0.mk (sized_call s w h q hs)
  by_cases hz : sizes s.size w h q = 0
  · have hok : okArgs w h q = true := by
      unfold sizes at hz
      split at hz
      · cases hz
      · split at hz
        · assumption
        · cases hz
    simp only [okArgs, decide_eq_true_eq] at hok
    obtain ⟨wn, rfl⟩ := Int.eq_ofNat_of_zero_le (show 0 ≤ w by omega)
    obtain ⟨hn, rfl⟩ := Int.eq_ofNat_of_zero_le (show 0 ≤ h by omega)
    obtain ⟨qn, rfl⟩ := Int.eq_ofNat_of_zero_le (show 0 ≤ q by omega)
    rw [if_neg (by simpa using hz)] at hR
    by_cases hsz : (s.size : Int) = (wn : Int) * (hn : Int)
    · rw [if_neg (by simpa using hsz)] at hR
      exact encode_ok s wn hn qn (by omega) (by omega) (by omega) (by omega) (by omega) (by omega) (by exact_mod_cast hsz) W hm hz R E hR
    · rw [if_pos hsz] at hR
      obtain ⟨rfl, rfl⟩ := Prod.mk.inj hR
      have t0 : ((s.size : Int) == (wn : Int) * (hn : Int)) = false := by simpa using hsz
      have t1 : ((s.size : Int) != (wn : Int) * (hn : Int)) = true := by simpa using hsz
      have hwh : wn * hn ≤ 16384 := Nat.le_trans (Nat.mul_le_mul (show wn ≤ 128 by omega) (show hn ≤ 128 by omega)) (by decide)
      have t2 : (wn : Int) * (hn : Int) ≤ 16384 := by have := Int.ofNat_le.2 hwh; rw [Int.natCast_mul] at this; exact this
      have t3 : 0 ≤ (wn : Int) * (hn : Int) := by rw [← Int.natCast_mul]; omega
      rw [hz] at HSC
      clear hR hsz hok hz hm hwh
      go_enter Tryd.func21, Tryd.ntmps21
      go_wp2_with fail
      refine (HSC.out W).mono ?_
      rintro e W1 ⟨rfl, rfl⟩
      go_wp2_with fail
      go_ret2
      exact ⟨rfl, Below.refl _ _⟩
  · rw [if_pos hz] at hR
    obtain ⟨rfl, rfl⟩ := Prod.mk.inj hR
    obtain ⟨z, hzz⟩ : ∃ z, sizes s.size w h q = z := ⟨_, rfl⟩
    rw [hzz] at hz HSC ⊢
    have t0 : (z == 0) = false := by simpa using hz
    have t1 : (z != 0) = true := by simpa using hz
    clear hR hzz hz hm
    go_enter Tryd.func21, Tryd.ntmps21
    go_wp2_with fail
    refine (HSC.out W).mono ?_
    rintro e W1 ⟨rfl, rfl⟩
    go_wp2_with fail
    go_ret2
    exact ⟨rfl, Below.refl _ _⟩
end Go.Proofs.YtmbdjajmiggiaaaDoor.N08
