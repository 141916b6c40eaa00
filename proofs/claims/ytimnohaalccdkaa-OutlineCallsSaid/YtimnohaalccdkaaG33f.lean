/- Stems (chapter 33): stems 102, hstem 80, vstem 81. -/
import Derived.Test.YtimnohaalccdkaaG33e
namespace Go.Proofs.Ytimnohaalccdkaa.G33f
open Go.Proofs.Ytimnohaalccdkaa.K33 Go.Proofs.Ytimnohaalccdkaa.M33 Go.Proofs.Ytimnohaalccdkaa.G33a Go.Proofs.Ytimnohaalccdkaa.G33b Go.Proofs.Ytimnohaalccdkaa.G33c Go.Proofs.Ytimnohaalccdkaa.G33d Go.Proofs.Ytimnohaalccdkaa.G33e Go.Proofs.Ytimnohaalccdkaa.P33a
open Go.RowKit Go.Proofs.YtimnohaalccdkaaW.PrintWords Go.Proofs.YtimnohaalccdkaaW.PrintLast Go.Proofs.YtimnohaalccdkaaW.PrintMore
set_option linter.unusedVariables false
set_option linter.unusedSimpArgs false
set_option maxRecDepth 100000
def stemsS (m : M) (v : Bool) (sh : Int) (l : List Int) : Except Int M :=
  if badStem l then .error 39 else match stemsL v sh m.stems l with | none => .error 26 | some s => .ok { m with stems := s }
theorem drop_two (l : List Int) (j : Nat) (h : 2 * j + 1 < l.length) : l.drop (2 * j) = l.getD (2 * j) 0 :: l.getD (2 * j + 1) 0 :: l.drop (2 * (j + 1)) := by
  rw [List.drop_eq_getElem_cons (show 2 * j < l.length by omega), List.drop_eq_getElem_cons h, show 2 * j + 1 + 1 = 2 * (j + 1) by omega]
  have e1 : l.getD (2 * j) 0 = l[2 * j] := by rw [List.getD_eq_getElem?_getD, List.getElem?_eq_getElem (show 2 * j < l.length by omega)]; rfl
  have e2 : l.getD (2 * j + 1) 0 = l[2 * j + 1] := by rw [List.getD_eq_getElem?_getD, List.getElem?_eq_getElem h]; rfl
  rw [e1, e2]
theorem stm_len (s : Stm) : (stm s).length = 3 := rfl
theorem info69 : (Try.prog.info? 69).map (fun i => (i.zero, i.size, i.bytes)) = some (some (.agg #[.bool false, .int .i64 0, .int .i64 0]), 3, 24) := by kernel_rfl
theorem lit_cells {w : World} {A : Option Addr} {l : List Int} (h : Ints w A l) (i : Nat) (hi : i < l.length) : ∃ g off : Nat, A = some ⟨g, off, none⟩ ∧ w.cell? ⟨g, off + i, none⟩ = some (.int .i64 (l.getD i 0)) := by
  obtain ⟨g, off, hA, hc⟩ := ints_cells h (by intro e; rw [e] at hi; simp at hi)
  exact ⟨g, off, hA, hc i hi⟩
set_option maxHeartbeats 4000000 in
theorem stems_call {W0 w : World} {b : Nat} {sb : Value} {m : M} {A : Option Addr} {l : List Int} (h : MachL W0 w b sb m A l) (v : Bool) (sh : Int) (hsh : -32000 ≤ sh ∧ sh ≤ 32000) (c : Nat) (hc : l.length ≤ c) (h2 : l.length % 2 = 0) (h6 : l.length ≤ 6) (hs : Small l) :
    Calls Try.prog 102 #[.pointer (some ⟨b, 0, none⟩), .bool v, .int .i64 sh, .slice A l.length c] w (Did W0 b sb (stemsS m v sh l)) := by
  have HM := Aside0.mk h
  have HI := Aside0.mk h.ints
  have HL := Aside0.mk (Mach.left h.mach)
  clear h
  go_enter Try.func102, Try.ntmps102
  go_wp2_with fail
  go_loop [9] (fun v9 => ∃ j : Nat, v9 = .int .i64 (2 * (j : Int) + 1) ∧ 2 * j ≤ l.length ∧ Aside0 (badStem l = badStem (l.drop (2 * j)))) (fun v9 => 20 - (intOf v9).toNat)
  case atStart => exact ⟨0, rfl, by omega, ⟨by simp⟩⟩
  case round =>
    obtain ⟨j, rfl, hj, HBS⟩ := hrel
    by_cases hlt : 2 * j + 1 < l.length
    · obtain ⟨g, off, hA, c1⟩ := lit_cells HI.out (2 * j + 1) hlt
      subst hA
      have t0 : decide (2 * (j : Int) + 1 < (l.length : Int)) = true := decide_eq_true (by omega)
      have hbs := HBS.out
      rw [drop_two l j hlt] at hbs
      obtain ⟨y, hy⟩ : ∃ y, l.getD (2 * j + 1) 0 = y := ⟨_, rfl⟩
      rw [hy] at hbs c1
      have i1 : (2 * (j : Int) + 1).toNat = 2 * j + 1 := by omega
      have b0 : (0 : Int) ≤ 2 * (j : Int) + 1 := by omega
      have b1 : 2 * (j : Int) + 1 < (l.length : Int) := by omega
      have k1 : IntKind.i64.wrap (2 * (j : Int) + 1 + 2) = 2 * (j : Int) + 1 + 2 := IntWalk.i64_in _ (by omega)
      by_cases hy0 : y = 0
      · have HE : Aside0 (stemsS m v sh l = .error 39) := ⟨by unfold stemsS; rw [hbs, hy0]; rfl⟩
        subst hy0
        clear hbs hy
        go_wp2_with fail
        go_ret
        rw [HE.out]
        exact ⟨rfl, .inr rfl, HL.out⟩
      · have t1 : (y == 0) = false := by simpa using hy0
        have HBS2 : Aside0 (badStem l = badStem (l.drop (2 * (j + 1)))) := ⟨by rw [hbs]; simp only [badStem, t1, Bool.false_or]⟩
        clear hbs hy hy0
        go_wp2_with fail
        go_round
        case measure => simp [intOf]; omega
        case rel => exact ⟨j + 1, by go_num, by omega, HBS2⟩
    · have hj2 : 2 * j = l.length := by omega
      have t0 : decide (2 * (j : Int) + 1 < (l.length : Int)) = false := decide_eq_false (by omega)
      have HST : Aside0 (stemsS m v sh l = match stemsL v sh m.stems l with | none => .error 26 | some s => .ok { m with stems := s }) := ⟨by unfold stemsS; rw [HBS.out, hj2, List.drop_length]; rfl⟩
      clear hlt hj2 HBS
      go_wp2_with fail
      clear t0 hj
      go_loopw [10] (fun v10 wr => ∃ (i : Nat) (acc : List Stm), v10 = .int .i64 (2 * (i : Int)) ∧ 2 * i ≤ l.length ∧ Aside0 (stemsL v sh m.stems l = stemsL v sh acc (l.drop (2 * i))) ∧ Aside0 (MachL W0 wr b sb { m with stems := acc } A l)) (fun v10 _ => 20 - (intOf v10).toNat)
      case atStart => exact ⟨0, m.stems, rfl, by omega, ⟨by simp⟩, HM⟩
      case round =>
        obtain ⟨i, acc, rfl, hi, HSL, HM2⟩ := hrel
        by_cases hlt : 2 * i < l.length
        · have hlt1 : 2 * i + 1 < l.length := by omega
          obtain ⟨g, off, hA, c0⟩ := lit_cells HM2.out.ints (2 * i) hlt
          subst hA
          obtain ⟨g', off', hA, c1⟩ := lit_cells HM2.out.ints (2 * i + 1) hlt1
          injection hA with hA
          injection hA with hA1 hA2 _
          subst hA1
          subst hA2
          have t0 : decide (2 * (i : Int) < (l.length : Int)) = true := decide_eq_true (by omega)
          have hsl := HSL.out
          rw [drop_two l i hlt1] at hsl
          have sx := getD_small hs (2 * i)
          have sy := getD_small hs (2 * i + 1)
          obtain ⟨x, hx⟩ : ∃ x, l.getD (2 * i) 0 = x := ⟨_, rfl⟩
          obtain ⟨y, hy⟩ : ∃ y, l.getD (2 * i + 1) 0 = y := ⟨_, rfl⟩
          rw [hx] at c0 sx hsl
          rw [hy] at c1 sy hsl
          have i1 : (2 * (i : Int) + 1).toNat = 2 * i + 1 := by omega
          have i0 : (2 * (i : Int)).toNat = 2 * i := by omega
          have b0 : (0 : Int) ≤ 2 * (i : Int) := by omega
          have b1 : 2 * (i : Int) < (l.length : Int) := by omega
          have b2 : (0 : Int) ≤ 2 * (i : Int) + 1 := by omega
          have b3 : 2 * (i : Int) + 1 < (l.length : Int) := by omega
          have k0 : IntKind.i64.wrap (2 * (i : Int) + 1) = 2 * (i : Int) + 1 := IntWalk.i64_in _ (by omega)
          have k1 : IntKind.i64.wrap (2 * (i : Int) + 2) = 2 * (i : Int) + 2 := IntWalk.i64_in _ (by omega)
          have k2 : IntKind.i64.wrap (sh + x) = sh + x := IntWalk.i64_in _ (by omega)
          have k3 : IntKind.i64.wrap (sh + x + y) = sh + x + y := IntWalk.i64_in _ (by omega)
          obtain ⟨a, ha⟩ : ∃ a, sh + x = a := ⟨_, rfl⟩
          obtain ⟨e, he⟩ : ∃ e, a + y = e := ⟨_, rfl⟩
          have hsl2 : stemsL v sh acc (x :: y :: l.drop (2 * (i + 1))) = if inn a && inn e && decide (acc.length < 40) then stemsL v sh (acc ++ [(v, min a e, max a e - min a e)]) (l.drop (2 * (i + 1))) else none := by
            rw [← he, ← ha]; rfl
          have HSL2 : Aside0 (stemsL v sh m.stems l = if inn a && inn e && decide (acc.length < 40) then stemsL v sh (acc ++ [(v, min a e, max a e - min a e)]) (l.drop (2 * (i + 1))) else none) := ⟨hsl.trans hsl2⟩
          rw [ha] at k2 k3
          rw [he] at k3
          have hae : -6442450944 ≤ a ∧ a ≤ 6442450944 ∧ -6442450944 ≤ e ∧ e ≤ 6442450944 := by omega
          have HLT := Aside0.mk hlt
          clear hsl hsl2 hx hy hlt hlt1 HSL sx sy
          go_wp2_with fail
          go_quiet (fail)
          have HM3 := Aside0.mk (MachL.small HM2.out (wr.drewN nq) (pw_below_drewN (Below.refl _ _) _))
          generalize wr.drewN nq = w2 at HM3 ⊢
          clear c0 c1 i1 i0 b0 b1 b2 b3 k0 k2 k3 t0
          go_wp2_with fail
          refine (within_two a e w2).mono ?_
          rintro e0 w4 ⟨rfl, hd4⟩
          have hb4 := below_step (below_alloc (Below.refl _ w2) (.cells #[.int .i64 a, .int .i64 e] 3)) hd4.below
          have HM4 := Aside0.mk (MachL.small HM3.out w4 hb4)
          clear hd4 hb4 HM3 HM2 ha he
          by_cases hin : (inn a && inn e) = true
          · rw [if_pos hin]
            have HIN := Aside0.mk hin
            obtain ⟨hB, hb, vs, vt, vk, Ar, cr, vp, hv, hi4, ho4⟩ := HM4.out
            obtain ⟨At, ct, rfl⟩ := own_slice hv.stems
            have hvs : w4.ownsRow W0.heap.size 69 3 (.slice At acc.length ct) acc.length (acc.flatMap stm) := hv.stems
            have HV := Aside0.mk hv
            have HVS := Aside0.mk hvs
            have HB := Aside0.mk hB
            have HB8 := Aside0.mk hb
            have HI4 := Aside0.mk (show Ints w4 (some ⟨g, off, none⟩) l ∧ Off (some ⟨g, off, none⟩) l vk from ⟨hi4, ho4⟩)
            have c3 : w4.cell? ⟨b, 3, none⟩ = some (.slice At acc.length ct) := hv.cell 3
            have h40 : acc.length ≤ 40 := hv.ok.stems
            by_cases hfull : acc.length = 40
            · have t8 : ((acc.length : Int) == 40) = true := by rw [hfull]; rfl
              have HE : Aside0 (stemsS m v sh l = .error 26) := ⟨by rw [HST.out, HSL2.out, if_neg (by simp [hfull])]⟩
              clear hin hv hvs hB hb hi4 ho4 hfull h40
              go_wp2_with fail
              go_ret
              rw [HE.out]
              exact ⟨rfl, .inl rfl, Mach.left HM4.out.mach⟩
            · have t8 : ((acc.length : Int) == 40) = false := by simp; omega
              have HL40 := Aside0.mk (show acc.length < 40 by omega)
              obtain ⟨lo, hlo⟩ : ∃ lo, (if e < a then e else a) = lo := ⟨_, rfl⟩
              obtain ⟨hi, hhi⟩ : ∃ hi, (if a < e then e else a) = hi := ⟨_, rfl⟩
              have em : min a e = lo := by rw [← hlo]; split <;> omega
              have eM : max a e = hi := by rw [← hhi]; split <;> omega
              have k9 : IntKind.i64.wrap (hi - lo) = hi - lo := IntWalk.i64_in _ (by omega)
              have HS2 : Aside0 (stemsL v sh m.stems l = stemsL v sh (acc ++ [(v, lo, hi - lo)]) (l.drop (2 * (i + 1)))) := ⟨by rw [HSL2.out, if_pos (by rw [hin]; simp; exact HL40.out), em, eM]⟩
              clear hin hv hvs hB hb hi4 ho4 hfull h40 em eM hae
              go_wp2_with (at_builtin; refine print_append_cells (w0 := W0) W0.heap.size rfl (.tmp 70) (.tmp 83) 41 69 _ 3 24 rfl Try.underlying41 info69 rfl (by decide) (by decide) (.slice At acc.length ct) acc.length (acc.flatMap stm) [.bool v, .int .i64 lo, .int .i64 (hi - lo)] rfl rfl rfl (by simp [Value.oneCell']) HVS.out HB.out HB.out.size (by have := HL40.out; omega) ?_; intro v1 w1 ho1 hb1 hg1 hat1; obtain ⟨A1, k1, rfl⟩ := own_slice ho1; have HO1 := Aside0.mk ho1; have HB1 := Aside0.mk hb1; have HG1 := Aside0.mk hg1; have hbk := blk_grown HV.out.blk hg1 (own_ne HVS.out HV.out.blk (by decide)); have f3 : w1.frozen? ⟨b, 3, none⟩ = false := blk_frozen hbk 3; have c3' : w1.cell? ⟨b, 3, none⟩ = some (.slice At acc.length ct) := blk_cell hbk 3; clear ho1 hb1 hg1 hat1 hbk c3)
              have e1 : (acc ++ [(v, lo, hi - lo)]).length = acc.length + 1 := by simp
              have k0' := HV.out.ok
              have hown : w1.ownsRow W0.heap.size 69 3 (.slice A1 (acc.length + 1) k1) (acc ++ [(v, lo, hi - lo)]).length ((acc ++ [(v, lo, hi - lo)]).flatMap stm) := by
                rw [e1, List.flatMap_append]
                simpa [stm] using HO1.out
              have hput := HV.out.put_stems hown HG1.out ⟨k0'.stack, k0'.small, k0'.res, k0'.rsmall, k0'.steps, by show (acc ++ [(v, lo, hi - lo)]).length ≤ 40; rw [e1]; exact HL40.out, k0'.points, k0'.x, k0'.y, k0'.side, k0'.width, k0'.count⟩
              have hbk := blk_grown HV.out.blk HG1.out (own_ne HVS.out HV.out.blk (by decide))
              have HM9 : Aside0 (MachL W0 (w1.setCell ⟨b, 3, none⟩ (.slice A1 (acc.length + 1) k1)) b sb { m with stems := acc ++ [(v, lo, hi - lo)] } (some ⟨g, off, none⟩) l) := ⟨below_set HB1.out HB8.out, HB8.out, vs, _, vk, Ar, cr, vp, hput, ints_set (ints_grown_ne HI4.out.1 HVS.out (by decide) HG1.out) hbk (by decide) 3 _, HI4.out.2⟩
              clear hown hput hbk k0' e1
              have hlt := HLT.out
              go_roundw
              case measure => simp [intOf]; omega
              case rel => exact ⟨i + 1, acc ++ [(v, lo, hi - lo)], by go_num, by omega, HS2, HM9⟩
          · rw [if_neg hin]
            have HE : Aside0 (stemsS m v sh l = .error 26) := ⟨by rw [HST.out, HSL2.out, if_neg (by intro h; rw [Bool.and_eq_true] at h; exact hin h.1)]⟩
            clear hin
            go_wp2_with fail
            go_ret
            rw [HE.out]
            exact ⟨rfl, .inl rfl, Mach.left HM4.out.mach⟩
        · have hi2 : 2 * i = l.length := by omega
          have t0 : decide (2 * (i : Int) < (l.length : Int)) = false := decide_eq_false (by omega)
          have HE : Aside0 (stemsS m v sh l = .ok { m with stems := acc }) := ⟨by rw [HST.out, HSL.out, hi2, List.drop_length]; rfl⟩
          clear hlt hi2
          go_wp2_with fail
          go_ret
          rw [HE.out]
          exact ⟨rfl, HM2.out.mach⟩
theorem hstem_call {W0 w : World} {b : Nat} {sb : Value} {m : M} {A : Option Addr} {l : List Int} (h : MachL W0 w b sb m A l) (c : Nat) (hc : l.length ≤ c) (h2 : l.length % 2 = 0) (h6 : l.length ≤ 6) (hs : Small l) :
    Calls Try.prog 80 #[.pointer (some ⟨b, 0, none⟩), .slice A l.length c] w (Did W0 b sb (stemsM m false l)) := by
  have HC := Aside0.mk (stems_call h false 0 (by decide) c hc h2 h6 hs)
  have HE : Aside0 (stemsM m false l = stemsS m false 0 l) := ⟨rfl⟩
  rw [HE.out]
  clear h
  go_enter Try.func80, Try.ntmps80
  go_wp2_with fail
  refine HC.out.mono ?_
  intro e w3 hd
  obtain ⟨rfl, hf⟩ := did_split hd
  have HF := Aside0.mk hf
  clear hf hd
  go_wp2_with fail
  go_ret
  exact did_join HF.out
theorem vstem_call {W0 w : World} {b : Nat} {sb : Value} {m : M} {A : Option Addr} {l : List Int} (h : MachL W0 w b sb m A l) (c : Nat) (hc : l.length ≤ c) (h2 : l.length % 2 = 0) (h6 : l.length ≤ 6) (hs : Small l) :
    Calls Try.prog 81 #[.pointer (some ⟨b, 0, none⟩), .slice A l.length c] w (Did W0 b sb (stemsM m true l)) := by
  have HC := Aside0.mk (stems_call h true m.side (Mach.ok h.mach).side c hc h2 h6 hs)
  have HE : Aside0 (stemsM m true l = stemsS m true m.side l) := ⟨rfl⟩
  obtain ⟨c0, f0⟩ := MachL.cell h 0 (.int .i64 m.side) (fun _ _ _ _ _ => rfl)
  rw [HE.out]
  clear h
  go_enter Try.func81, Try.ntmps81
  go_wp2_with fail
  refine HC.out.mono ?_
  intro e w3 hd
  obtain ⟨rfl, hf⟩ := did_split hd
  have HF := Aside0.mk hf
  clear hf hd
  go_wp2_with fail
  go_ret
  exact did_join HF.out
end Go.Proofs.Ytimnohaalccdkaa.G33f
