/- The law of any sequence of codes against the reference's Decode, walked (chapter 06). -/
import Derived.Test.YtfkiacbjiledcaaV06
import Derived.Test.YtfkiacbjiledcaaG06d
import Derived.Test.YtfkiacbjiledcaaG06f
import Derived.Deep.RegionLaw
import Derived.Deep.AppendLies
namespace Go.Proofs.Ytfkiacbjiledcaa.V06c
open Go.RowKit Go.Proofs.YtfkiacbjiledcaaW.PrintWords Go.Proofs.YtfkiacbjiledcaaW.PrintLast Go.Proofs.YtfkiacbjiledcaaW.PrintMore
open Go.Proofs.Ytfkiacbjiledcaa.K06 Go.Proofs.Ytfkiacbjiledcaa.V06 Go.Proofs.Ytfkiacbjiledcaa.P06 Go.Proofs.Ytfkiacbjiledcaa.R06
open Go.Proofs.Ytfkiacbjiledcaa.L06 (cb_len)
open Go.Proofs.Ytfkiacbjiledcaa.G06d (dec_call)
open Go.Proofs.Ytfkiacbjiledcaa.G06f (refdec)
set_option linter.unusedVariables false
set_option maxRecDepth 100000
/-- A slice of whole numbers that came in. -/
abbrev IsRow (k : IntKind) (w : World) (a : Option Addr) (len cap : Nat) (zs : List Int) : Prop :=
  (a = none ∧ len = 0 ∧ cap = 0 ∧ zs = []) ∨ ∃ x, a = some x ∧ len ≤ cap ∧ cap ≤ maxLen ∧ zs.length = cap ∧ (∀ i, i < zs.length → w.cell? (x.add i) = some (.int k (zs.getD i 0))) ∧ ∀ n ∈ zs, (Lit.int k n).wf = true
theorem cutN (m n : Nat) : ∃ k : Nat, (if (m:Int) < (n:Int) then (m:Int) else (n:Int)) = (k:Int) ∧ k ≤ n ∧ k ≤ m := by
  by_cases h : (m:Int) < (n:Int)
  · exact ⟨m, by rw [if_pos h], by omega, Nat.le_refl _⟩
  · exact ⟨n, by rw [if_neg h], Nat.le_refl _, by omega⟩
theorem info31 : (Try.prog.info? 31).map (fun i => (i.zero, i.size, i.bytes)) = some (some (.int .u16 0), 1, 2) := by kernel_rfl
/-- The bits of codes, in octets. -/
theorem bits_val : ∀ (B : List Bool), ∃ c, c < 2 ^ B.length ∧ L06.bw B.length c = B
  | [] => ⟨0, by decide, rfl⟩
  | b :: B => by
    obtain ⟨c, h1, h2⟩ := bits_val B
    refine ⟨R06d.b01 b * 2 ^ B.length + c, ?_, ?_⟩
    · rw [List.length_cons, Nat.pow_succ]
      have : R06d.b01 b ≤ 1 := by unfold R06d.b01; split <;> omega
      have h3 : R06d.b01 b * 2 ^ B.length ≤ 1 * 2 ^ B.length := Nat.mul_le_mul_right _ this
      omega
    · rw [List.length_cons, Nat.add_comm, L06.bw_split 1 B.length _ c h1, h2]
      cases b <;> rfl
theorem packed : ∀ (n : Nat) (L : List Bool), L.length ≤ 8 * n → ∃ T, IsPack T L ∧ T.length ≤ n := by
  intro n
  induction n with
  | zero =>
    intro L h
    have : L = [] := List.eq_nil_of_length_eq_zero (by omega)
    subst this
    exact ⟨[], ⟨fun b hb => (by cases hb), 0, by decide, rfl⟩, Nat.le_refl _⟩
  | succ n ih =>
    intro L h
    by_cases h8 : 8 ≤ L.length
    · obtain ⟨T, ⟨h1, p, h2, h3⟩, h4⟩ := ih (L.drop 8) (by rw [List.length_drop]; omega)
      obtain ⟨c, c1, c2⟩ := bits_val (L.take 8)
      have hl : (L.take 8).length = 8 := by rw [List.length_take]; omega
      rw [hl] at c1 c2
      refine ⟨(c : Int) :: T, ⟨?_, p, h2, ?_⟩, by simp; omega⟩
      · intro b hb
        rcases List.mem_cons.1 hb with rfl | hb
        · have : (2 : Nat) ^ 8 = 256 := by decide
          omega
        · exact h1 b hb
      · rw [L06.obits_cons, Int.toNat_natCast, c2, h3, ← List.append_assoc, List.take_append_drop]
    · by_cases h0 : L.length = 0
      · have : L = [] := List.eq_nil_of_length_eq_zero h0
        subst this
        exact ⟨[], ⟨fun b hb => (by cases hb), 0, by decide, rfl⟩, Nat.zero_le _⟩
      · obtain ⟨c, c1, c2⟩ := bits_val L
        refine ⟨[((c * 2 ^ (8 - L.length) : Nat) : Int)], ⟨?_, 8 - L.length, by omega, ?_⟩, by simp⟩
        · have h1 : c * 2 ^ (8 - L.length) < 2 ^ L.length * 2 ^ (8 - L.length) := Nat.mul_lt_mul_of_pos_right c1 (Nat.pow_pos (by decide))
          rw [← Nat.pow_add, show L.length + (8 - L.length) = 8 by omega] at h1
          have : (2 : Nat) ^ 8 = 256 := by decide
          exact Oct.one (by omega) (by omega)
        · rw [L06.obits_one, Int.toNat_natCast]
          have := L06.bw_zero_shift L.length (8 - L.length) c
          rw [show L.length + (8 - L.length) = 8 by omega, c2] at this
          exact this
theorem write_row (k : Nat) (ys : List Int) (t : ByteArray) (W : World) (base g cap : Nat) (h : W.ownsRow base 3 1 (.slice (some ⟨g, 0, none⟩) (ys.length + 1) cap) (ys.length + 1) (nums .i64 ys ++ [.int .i64 257])) (hk : chaseref06_Write.f k (ys ++ [257]) = some t) :
    Calls Try.prog 16 #[.slice (some ⟨g, 0, none⟩) (ys.length + 1) cap] W fun e w' => e = .returned (.string t) ∧ Below W.heap.size W w' := by
  have hl : (ys ++ [257]).length = ys.length + 1 := by simp
  have h2 : W.ownsRow base 3 1 (.slice (some ⟨g, 0, none⟩) (ys ++ [257]).length cap) (ys ++ [257]).length (encs (Value.int .i64) (ys ++ [257])) := by
    rw [hl, encs_append]
    exact h
  have h3 := Kd.R_reads' (Kd.R_of_own (enc := Value.int .i64) (h1 := fun _ => rfl) (ok := fun _ => True) h2 (fun _ _ => trivial))
  have h4 := chaseref06_Write.calls k (some ⟨g, 0, none⟩) cap (ys ++ [257]) t W h3.2.2 h3.2.1 hk
  rw [hl] at h4
  exact h4
set_option maxHeartbeats 4000000 in
theorem codes_walk (a0 : Option Addr) (len0 cap0 : Nat) (z0 : List Int) (a1 : ByteArray) (w : World) (w0 : IsRow .u16 w a0 len0 cap0 z0) (y0 : len0 * 2 ≤ 140737488351232) (w1 : a1.size ≤ 140737488351232) :
    Calls Try.prog 5 #[.slice a0 len0 cap0, .string a1] w fun e w' => e = .returned (.bool true) ∧ Below w.heap.size w w' := by
  have hcap : len0 ≤ cap0 := by
    rcases w0 with ⟨_, rfl, rfl, _⟩ | ⟨_, _, h, _⟩
    · exact Nat.le_refl _
    · exact h
  obtain ⟨l, hl, hr, hlm, hwf⟩ := ReadsInt.ofRow w0
  subst hl
  obtain ⟨n, hn, hn1, hn2⟩ := cutN 300 l.length
  simp only [Int.cast_ofNat_Int] at hn
  obtain ⟨i31, hi31, hz31⟩ := Option.map_eq_some_iff.1 info31
  simp only [Prod.mk.injEq] at hz31
  obtain ⟨hsl, hrd, htk⟩ := print_take_int (P := Try.prog) (k := .u16) 37 31 Try.underlying37 hi31 hz31.2.1 a0 cap0 l (n : Int) (by omega) (by omega) hcap
  have hrd0 := hrd w hr
  rw [Int.toNat_natCast] at hsl hrd0 htk
  have htl : (l.take n).length = n := by rw [List.length_take]; omega
  have hwf2 : ∀ x ∈ l.take n, (Lit.int .u16 x).wf = true := fun x hx => hwf x (List.mem_of_mem_take hx)
  obtain ⟨xs, hxs⟩ : ∃ xs, l.take n = xs := ⟨_, rfl⟩
  rw [hxs] at hsl hrd0 htk htl hwf2
  rw [htl] at hsl hrd0 htk
  obtain ⟨m, hm, hm1, hm2⟩ := cutN 20 a1.size
  simp only [Int.cast_ofNat_Int] at hm
  have HRD := Aside0.mk hrd0
  have HWF := Aside0.mk hwf2
  have HN := Aside0.mk hn2
  have HTL := Aside0.mk htl
  clear hr hrd hrd0 hwf hwf2 hxs w0 hi31 hz31 htl
  go_enter Try.func5, Try.ntmps5
  go_wp2_with fail
  refine (works_call _).mono ?_
  rintro e W1 ⟨rfl, hb1⟩
  have HB1 := Aside0.mk hb1
  clear hb1
  go_wp2_with fail
  go_loopg [5, 6, 25] (n + 1) (fun kq v5 v6 v25 w' => ∃ (i j : Nat) (cs : List Nat), v6 = .int .i64 (j : Int) ∧ v25 = .int .i64 (i : Int) ∧ Aside0 (kq + i = n + 1) ∧ Aside0 (cs.length = i) ∧ Aside0 (j ≤ i ∧ i ≤ n) ∧ Aside0 (∀ T, NumOk j T → NumOk 0 (cs ++ T)) ∧ Aside0 (Kd.R (Kd.int .i64) 3 w' w.heap.size (fun _ => True) v5 (ints cs)) ∧ Aside0 (Below w.heap.size w w'))
  case atStart => exact ⟨0, 0, [], rfl, rfl, ⟨rfl⟩, ⟨rfl⟩, ⟨Nat.le_refl _, Nat.zero_le _⟩, ⟨fun T h => h⟩, ⟨Kd.R_nil _ _ _ _ _⟩, HB1⟩
  case round =>
    clear HB1
    obtain ⟨i, j, cs, rfl, rfl, HK, HL, HJ, HT, HO, HB⟩ := hrel
    by_cases hi : i < n
    · have b0 : decide ((i : Int) < (n : Int)) = true := decide_eq_true (by omega)
      have p0 : (0 : Int) ≤ (i : Int) := by omega
      have q0 : (i : Int) < (n : Int) := by omega
      obtain ⟨ad, ea, hx⟩ := (HRD.out.below HB.out).at_ (i : Int) p0 q0
      have hxw : (Lit.int .u16 (rd xs (i : Int))).wf = true := by
        refine HWF.out _ ?_
        unfold rd
        have hil : i < xs.length := by rw [HTL.out]; exact hi
        rw [Int.toNat_natCast, List.getD_eq_getElem?_getD, List.getElem?_eq_getElem hil]
        exact List.getElem_mem hil
      generalize rd xs (i : Int) = x at hx hxw
      cases ea
      rw [Int.toNat_natCast] at hx
      have hx2 : 0 ≤ x ∧ x < 65536 := by simp [Lit.wf, IntKind.min, IntKind.max, IntKind.signed, IntKind.bits] at hxw; omega
      obtain ⟨y, rfl⟩ := Int.eq_ofNat_of_zero_le hx2.1
      have hj := HJ.out.1
      have hn3 := HN.out
      clear hxw
      replace p0 := eq_true p0
      replace q0 := eq_true q0
      obtain ⟨c, hc⟩ : ∃ c, y % (260 + j) = c := ⟨_, rfl⟩
      have hc2 : c < 260 + j := by rw [← hc]; exact Nat.mod_lt _ (by omega)
      have ec : (wrap64 (y : Int)).tmod (260 + (j : Int)) = (c : Int) := by
        rw [wN y (by omega), ← hc]
        exact (Int.ofNat_tmod y (260 + j)).symm
      have d1 : 260 + j < 4611686018427387904 := by omega
      have hlen := HL.out
      have hil : (ints cs).length = i := by rw [ints_len]; exact hlen
      have hL8 : ((ints cs).length + 1) * 8 ≤ 140737488355328 := by rw [ints_len, hlen]; omega
      have ej : wrap64 (260 + (j : Int)) = ((260 + j : Nat) : Int) := wA 260 j d1
      obtain ⟨Ao, co, eo⟩ := Kd.R_slice HO.out
      subst eo
      clear hil hx2
      have HCK := Aside0.mk (And.intro hc2 (And.intro hi (And.intro hj hn3)))
      clear hc hc2 hi hj hn3 d1 hlen
      have hq0 : ((260 + (j : Int)) = 0) = False := eq_false (by clear ej ec; omega)
      have hq1 : (260 + (j : Int) == 0) = false := beq_eq_false_iff_ne.2 (by clear ej ec; omega)
      have hq2 : ((260 + (j : Int)) = -1) = False := eq_false (by clear ej ec; omega)
      have hq3 : (260 + (j : Int) == -1) = false := beq_eq_false_iff_ne.2 (by clear ej ec; omega)
      have EC := Aside0.mk ec
      clear ec
      go_upto_region 9 with (fail)
      rw [EC.out]
      clear ej hq0 hq1 hq2 hq3 EC
      go_upto_region 10 with (first | ((with_reducible refine gate_builtin (b := .append) (xs := #[.tmp 34, .tmp 36]) rfl ?_); at_builtin; refine Kd.R_append (Kd.int .i64) (w0 := w) w.heap.size rfl (.tmp 34) (.tmp 36) 38 3 (.int .i64 0) 8 rfl Try.underlying38 info3 rfl (by decide) (by decide) (.slice Ao (ints cs).length co) (ints cs) (c : Int) [.int .i64 (c : Int)] (fun _ => True) (fun _ => False) rfl rfl ?aP (fun _ hk => hk.elim) ?aF ?aO ?aB ?aS ?aL ?_; (case aP => exact rfl); (case aB => exact (by repeat (first | (with_reducible first | exact HB.out | apply below_alloc | apply pw_below_drewN | apply below_drew1) | exact HB.out))); (case aF => exact (fun _ _ => trivial)); (case aO => exact (by (with_reducible repeat (first | apply Kd.R_alloc | apply Kd.R_drewN | apply Kd.R_drew)); exact HO.out)); (case aS => exact (below_size (by repeat (first | (with_reducible first | exact HB.out | apply below_alloc | apply pw_below_drewN | apply below_drew1) | exact HB.out)))); (case aL => exact hL8); intro v91 wa ho hb hg hat; have n1_ := Aside0.mk ho; have n2_ := Aside0.mk hb; clear HO HB; have HO := n1_; have HB := n2_; clear n1_ n2_ ho hb hg hat))
      obtain ⟨hc2, hi, hj, hn3⟩ := HCK.out
      have d2 : i + 1 < 4611686018427387904 := by omega
      have d3 : j + 1 < 4611686018427387904 := by omega
      have ei : wrap64 ((i : Int) + 1) = ((i + 1 : Nat) : Int) := wA i 1 d2
      have ej1 : wrap64 ((j : Int) + 1) = ((j + 1 : Nat) : Int) := wA j 1 d3
      have hne : ∀ T, NumOk (nextJ j c) T → NumOk 0 ((cs ++ [c]) ++ T) := fun T hT => by
        rw [List.append_assoc]
        exact HT.out _ ⟨by clear ei ej1; omega, by clear ei ej1; omega, hT⟩
      have hlen2 : (cs ++ [c]).length = i + 1 := by rw [List.length_append, List.length_singleton, HL.out]
      have hin : ints (cs ++ [c]) = ints cs ++ [(c : Int)] := ints_app _ _
      have HNE := Aside0.mk hne
      have HL2 := Aside0.mk hlen2
      have HO2 := HO
      rw [← hin] at HO2
      clear d2 d3 hc2 hi hj hn3 hne hlen2 hin
      by_cases c6 : c = 256
      · have b6 : ((c : Int) == 256) = true := beq_iff_eq.2 (by clear ei ej1; omega)
        have hnj : nextJ j c = 0 := if_pos c6
        rw [hnj] at HNE
        clear hnj
        go_wp2_with (fail)
        go_roundg (n + 1 - (i + 1))
        case measure => clear ei ej1; have := HK.out; have := HCK.out; omega
        case rel => exact ⟨i + 1, 0, cs ++ [c], rfl, by rw [ei], ⟨by clear ei ej1; have := HCK.out; omega⟩, HL2, ⟨Nat.zero_le _, by clear ei ej1; have := HCK.out; omega⟩, HNE, HO2, HB⟩
      · have b6 : ((c : Int) == 256) = false := beq_eq_false_iff_ne.2 (by clear ei ej1; omega)
        have hnj : nextJ j c = j + 1 := if_neg c6
        rw [hnj] at HNE
        clear hnj
        go_wp2_with (fail)
        go_roundg (n + 1 - (i + 1))
        case measure => clear ei ej1; have := HK.out; have := HCK.out; omega
        case rel => exact ⟨i + 1, j + 1, cs ++ [c], by rw [ej1], by rw [ei], ⟨by clear ei ej1; have := HCK.out; omega⟩, HL2, ⟨by clear ei ej1; have := HCK.out; omega, by clear ei ej1; have := HCK.out; omega⟩, HNE, HO2, HB⟩
    · have b0 : decide ((i : Int) < (n : Int)) = false := decide_eq_false (by omega)
      have hj := HJ.out.1
      have hn3 := HN.out
      have hlen := HL.out
      have hin := HJ.out.2
      have hno : NumOk 0 (cs ++ [257]) := HT.out [257] ⟨by omega, by omega, trivial⟩
      have hcl := cb_len (cs ++ [257]) 0
      have hl2 : (cs ++ [257]).length = cs.length + 1 := by rw [List.length_append, List.length_singleton]
      obtain ⟨T, hT, hTl⟩ := packed 500 (L06.cb 0 (cs ++ [257])) (by omega)
      obtain ⟨k, hk⟩ := (write_ev hno (by omega) hT).get
      obtain ⟨t, ht⟩ : ∃ t, strOfNums T = t := ⟨_, rfl⟩
      have hts : t.size ≤ 500 := by rw [← ht, strOf_size]; exact hTl
      rw [ht] at hk
      have hie : ints (cs ++ [257]) = ints cs ++ [257] := ints_app _ _
      rw [hie] at hk
      have hil : (ints cs).length = cs.length := ints_len _
      generalize ints cs = ys at hk HO hil
      have hyl : ys.length ≤ 300 := by omega
      obtain ⟨X, hX⟩ : ∃ X, t ++ a1.extract 0 m = X := ⟨_, rfl⟩
      have hXs : X.size ≤ 65536 := by rw [← hX, ByteArray.size_append, ByteArray.size_extract]; omega
      have hms : (9223372036854775807 < t.size + m) = False := eq_false (by omega)
      have HTT := Aside0.mk hk
      clear hj hn3 hlen hin hno hcl hl2 hT hTl hk ht hie hil
      have ho5 := Kd.own_of_R HO.out
      obtain ⟨i3, hi3, hz3⟩ := Option.map_eq_some_iff.1 info3
      simp only [Prod.mk.injEq] at hz3
      obtain ⟨hz0, hz1, hz2⟩ := hz3
      have hsz := below_size HB.out
      go_upto_region 14 with (fail)
      go_cut [10] (fun v10 wc => v10 = .string X ∧ Aside0 (Below w.heap.size w wc))
      case first =>
        go_region_law (first
          | (refine step_append_lies _ (by rfl) _ _ _ (by rfl) w.heap.size 3 i3 _ 1 8 Try.underlying38 hi3 hz0 hz1 hz2 rfl (by omega) u5 ys.length (nums .i64 ys) (by rfl) ((ho5.alloc _).drew) ⟨wr.heap.size, 0, none⟩ 1 1 [.int .i64 257] (by rfl) (by rfl) (World.news_of_block (cs := #[.int .i64 257]) (t := 3) (fr := (0, 0)) (heap_alloc_new wr _)) (by simp [Value.oneCell']) (by omega) (by unfold maxLen; omega) (by omega) (by simp; omega) (wr.heap.size + 1) (by simp) ?_; intro g cap w4 hown4 hgrow hat hlt; have HO4 := Aside0.mk hown4; have HG4 := Aside0.mk hgrow; clear hown4 hgrow hat)
          | (refine goes_ (f := 16) Try.func16 (by kernel_rfl) rfl #[.slice (some ⟨g, 0, none⟩) (ys.length + 1) cap] (by rfl) rfl rfl (by simp only [List.map_toArray, List.map_cons, List.map_nil]; rfl) ?_; refine (write_row k ys t _ w.heap.size g cap HO4.out HTT.out).mono ?_; rintro e w5 ⟨rfl, hb5⟩; refine ⟨_, rfl, ?_⟩; have HB5 := Aside0.mk hb5; clear hb5))
        all_goals
          have hbw : Below w.heap.size w (wr.alloc (.cells #[.int .i64 257] 3)).drew := (below_alloc HB.out _).drew
          have hb4 := Below.grown hbw HG4.out (by simp; omega) (own_base ho5)
          have hb5 := below_step hb4 HB5.out
          have HB6 := Aside0.mk hb5
          clear hbw hb4 hb5
          go_wp2_with fail
          go_meet
          exact ⟨rfl, HB6⟩
      case rest =>
        obtain ⟨rfl, HB2⟩ := hcut
        obtain ⟨u, v, e, hz⟩ : ∃ u v e, decRes X = (u, v, e) := ⟨_, _, _, rfl⟩
        have HX := Aside0.mk hz
        clear hz
        have t1 : (u.toList == u.toList) = true := by simp
        have t2 : (e == e) = true := by simp
        have t3 : (v == v) = true := by simp
        go_wp2_with fail
        refine (dec_call _ _ _ _ _ HX.out).mono ?_
        rintro e' w2 ⟨rfl, hb1⟩
        go_wp2_with fail
        refine (refdec _ _ _ _ _ hXs HX.out).mono ?_
        rintro e' w3 ⟨rfl, hb2⟩
        have HB7 := Aside0.mk (below_step (below_step HB2.out hb1) hb2)
        clear hb1 hb2
        go_wp2_with fail
        go_ret
        exact ⟨rfl, HB7.out⟩
end Go.Proofs.Ytfkiacbjiledcaa.V06c
