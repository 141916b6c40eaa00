/- The reference's Decode, walked (chapter 06; the paths printed by c06_genf.py). -/
import Derived.Test.YtfkiacbjiledcaaL06r
import Derived.Test.YtfkiacbjiledcaaR06c
import Derived.Test.YtfkiacbjiledcaaM06
namespace Go.Proofs.Ytfkiacbjiledcaa.G06f
open Go.RowKit Go.Proofs.YtfkiacbjiledcaaW.PrintWords Go.Proofs.YtfkiacbjiledcaaW.PrintLast Go.Proofs.YtfkiacbjiledcaaW.PrintMore
open Go.Proofs.Ytfkiacbjiledcaa.K06 Go.Proofs.Ytfkiacbjiledcaa.P06 Go.Proofs.Ytfkiacbjiledcaa.L06r
set_option linter.unusedVariables false
set_option maxRecDepth 100000
theorem emp (x : ByteArray) : x.toList.isEmpty = decide (x.size = 0) := by
  rw [R06c.toList_eq, Bool.eq_iff_iff, List.isEmpty_iff, decide_eq_true_iff]
  constructor
  · intro e
    have := congrArg List.length e
    simpa using this
  · intro h
    apply List.eq_nil_of_length_eq_zero
    simpa using h
set_option maxHeartbeats 4000000 in
theorem refdec_call (k : Nat) (s : ByteArray) (cs : List Int) (at_ : Int) (ok : Bool) (r1 : ByteArray) (r2 r3 : Int) (w : World) (hs : s.size ≤ 65536) (hcl : cs.length ≤ 1000000) (h1 : chaseref06_Read.f k s = some (cs, at_, ok)) (h2 : refDec s (cs, at_, ok) = some (r1, r2, r3)) :
    Calls Try.prog 15 #[.string s] w fun e w' => e = .returned (.tuple #[.string r1, .int .i64 r2, .int .i64 r3]) ∧ Below w.heap.size w w' := by
  have c0 : decide (65536 < (s.size : Int)) = false := decide_eq_false (by omega)
  have HR := Aside0.mk h1
  clear h1
  go_enter Try.func15, Try.ntmps15
  go_wp2_with fail
  refine (chaseref06_Read.calls k s cs at_ ok _ HR.out).mono ?_
  rintro e w1 ⟨v5, rfl, ho5, hb1⟩
  have HB1 := Aside0.mk hb1
  clear hb1
  unfold refDec at h2
  cases ok with
  | false =>
    rw [if_pos rfl] at h2
    simp only [Option.some.injEq, Prod.mk.injEq] at h2
    obtain ⟨rfl, rfl, rfl⟩ := h2
    go_wp2_with fail
    go_ret3
    exact ⟨rfl, HB1.out⟩
  | true =>
    rw [if_neg (by simp)] at h2
    obtain ⟨R, hR, h2⟩ := Option.map_eq_some_iff.1 h2
    obtain ⟨A, cap, e5⟩ := Kd.R_slice ho5
    subst e5
    have HC := Aside0.mk (Kd.R_reads' ho5).2.2
    clear ho5
    have H2 := Aside0.mk h2
    have HR' := Aside0.mk hR
    clear h2 hR
    go_wp2_with fail
    go_loopg [8, 9, 10, 11] (cs.length + 1) (fun kq v8 v9 v10 v11 w' => ∃ (i : Nat) (KN : List ByteArray) (last : ByteArray) (out : List Int), v10 = .string last ∧ v11 = .int .i64 (i : Int) ∧ Aside0 (kq + i = cs.length + 1) ∧ Aside0 (runS (cs.drop i) KN last out = some R) ∧ Aside0 (Kd.R (Kd.int .u8) 5 w' w1.heap.size (fun _ => True) v8 out) ∧ Aside0 (Kd.R Kd.string 9 w' w1.heap.size (fun _ => True) v9 KN) ∧ Aside0 (Below w1.heap.size w1 w'))
    case atStart => exact ⟨0, [], ⟨#[]⟩, [], rfl, rfl, ⟨rfl⟩, HR', ⟨Kd.R_nil _ _ _ _ _⟩, ⟨Kd.R_nil _ _ _ _ _⟩, ⟨Below.refl _ _⟩⟩
    case round =>
      clear HR'
      obtain ⟨i, KN, last, out, rfl, rfl, HK, HRun, HO8, HO9, HB⟩ := hrel
      obtain ⟨Ao8, co8, eo8⟩ := Kd.R_slice HO8.out
      subst eo8
      obtain ⟨Ao9, co9, eo9⟩ := Kd.R_slice HO9.out
      subst eo9
      by_cases hi : i < cs.length
      · have hd := List.drop_eq_getElem_cons hi
        have hrd : rd cs (i : Int) = cs[i] := by unfold rd; rw [Int.toNat_natCast, List.getD_eq_getElem?_getD, List.getElem?_eq_getElem hi]; rfl
        obtain ⟨c, hc⟩ : ∃ c, cs[i] = c := ⟨_, rfl⟩
        rw [hc] at hd hrd
        clear hc
        have hrun := HRun.out
        rw [hd] at hrun
        unfold runS at hrun
        have b0 : decide ((i : Int) < (cs.length : Int)) = true := decide_eq_true (by omega)
        have p0 : (0 : Int) ≤ (i : Int) := by omega
        have q0 : (i : Int) < (cs.length : Int) := by omega
        obtain ⟨ad, ea, hx⟩ := Kd.at_int (Kd.C_below HC.out HB.out) (i : Int) p0 q0
        cases ea
        rw [hrd, Int.toNat_natCast] at hx
        replace p0 := eq_true p0
        replace q0 := eq_true q0
        have ei : wrap64 ((i : Int) + 1) = ((i + 1 : Nat) : Int) := R06.wA i 1 (by omega)
        by_cases c7 : c = 257
        · have b7 : (c != 257) = false := by rw [c7]; rfl
          rw [if_pos c7] at hrun
          obtain rfl := (Option.some.inj hrun).symm
          have h2 := H2.out
          clear H2 HRun
          try simp only at h2
          by_cases cR : 65536 < R.length
          · have bR : decide (65536 < (R.length : Int)) = true := decide_eq_true (by omega)
            rw [if_pos cR] at h2
            simp only [Prod.mk.injEq] at h2
            obtain ⟨rfl, rfl, rfl⟩ := h2
            go_wp2_with fail
            go_ret3
            exact ⟨rfl, below_step HB1.out HB.out⟩
          · have bR : decide (65536 < (R.length : Int)) = false := decide_eq_false (by omega)
            rw [if_neg cR] at h2
            simp only [Prod.mk.injEq] at h2
            obtain ⟨rfl, rfl, rfl⟩ := h2
            have hcv := own_string (P := Try.prog) Try.underlying32 Try.underlying5 Try.underlying9 (Kd.own_of_R HO8.out)
            go_wp2_with fail
            go_ret3
            exact ⟨rfl, below_step HB1.out HB.out⟩
        · have b7 : (c != 257) = true := bne_iff_ne.2 c7
          rw [if_neg c7] at hrun
          by_cases c6 : c = 256
          · have b6 : (c == 256) = true := beq_iff_eq.2 c6
            rw [if_pos c6] at hrun
            have HRn := Aside0.mk hrun
            clear hrun HRun
            go_wp2_with fail
            go_roundg (cs.length + 1 - (i + 1))
            case measure => have := HK.out; omega
            case rel => exact ⟨i + 1, _, _, _, rfl, (by first | rfl | (rw [ei]) | (simp only [i64_w]; rw [ei])), ⟨by omega⟩, HRn, ⟨HO8.out⟩, ⟨Kd.R_nil _ _ _ _ _⟩, ⟨HB.out⟩⟩
          · have b6 : (c == 256) = false := beq_eq_false_iff_ne.2 c6
            rw [if_neg c6] at hrun
            obtain ⟨now, hn, hrun⟩ := Option.bind_eq_some_iff.1 hrun
            by_cases room : roomS KN last now out c
            · rw [if_pos room] at hrun
              obtain ⟨m1, m2, m3, m4, m5, m6, m7⟩ := room
              have HRn0 := hrun
              clear hrun HRun
              unfold nowS at hn
              have HN := Aside0.mk HRn0
              clear HRn0
              go_upto_block 2 with (fail)
              go_cut [12] (fun v12 wc => v12 = .string now ∧ Aside0 (Kd.R (Kd.int .u8) 5 wc w1.heap.size (fun _ => True) (.slice Ao8 out.length co8) out) ∧ Aside0 (Kd.R Kd.string 9 wc w1.heap.size (fun _ => True) (.slice Ao9 KN.length co9) KN) ∧ Aside0 (Below w1.heap.size w1 wc))
              case first =>
                by_cases c1 : c < 256
                · have b1 : decide (c < 256) = true := decide_eq_true c1
                  rw [if_pos c1] at hn
                  have hnow := Option.some.inj hn
                  have hu8 : IntKind.u8.wrap c = c := by simp [IntKind.wrap, IntKind.signed, IntKind.bits]; omega
                  have hcv : ∀ W : World, (convert 32 9 (.slice (some ⟨W.heap.size, 0, none⟩) 1 1)).run Try.prog (W.alloc (.cells #[.int .u8 c] 5)) = .ok (.string now) (W.alloc (.cells #[.int .u8 c] 5)) := fun W => by
                    rw [← hnow]
                    exact own_string (src := 32) (dst := 9) Try.underlying32 Try.underlying5 Try.underlying9 (own_lit W W.heap.size 5 .u8 [c] (Nat.le_refl _) (by simp))
                  clear hn hnow
                  
                  go_wp2_with fail
                  go_meet
                  exact ⟨rfl, ⟨(by (with_reducible repeat (first | apply Kd.R_alloc | apply Kd.R_drewN | apply Kd.R_drew)); exact HO8.out)⟩, ⟨(by (with_reducible repeat (first | apply Kd.R_alloc | apply Kd.R_drewN | apply Kd.R_drew)); exact HO9.out)⟩, ⟨(by repeat (first | (with_reducible first | exact HB.out | apply below_alloc | apply pw_below_drewN | apply below_drew1) | exact HB.out))⟩⟩
                · by_cases c2 : c - 258 < (KN.length : Int)
                  · by_cases c3 : 258 ≤ c
                    · have b1 : decide (c < 256) = false := decide_eq_false c1
                      have b2 : decide (c - 258 < (KN.length : Int)) = true := decide_eq_true c2
                      rw [if_neg c1, if_pos c2, if_pos c3] at hn
                      have hnow := Option.some.inj hn
                      have p9 : (0 : Int) ≤ c - 258 := by omega
                      obtain ⟨ad9, ea9, hx9⟩ := Kd.at_string (Kd.R_reads' HO9.out).2.2 (c - 258) p9 c2
                      rw [hnow] at hx9
                      cases ea9
                      have q9 := eq_true c2
                      replace p9 := eq_true p9
                      have ew : wrap64 (c - 258) = c - 258 := by unfold wrap64; omega
                      clear hn hnow
                      
                      go_wp2_with fail
                      go_meet
                      exact ⟨rfl, ⟨(by (with_reducible repeat (first | apply Kd.R_alloc | apply Kd.R_drewN | apply Kd.R_drew)); exact HO8.out)⟩, ⟨(by (with_reducible repeat (first | apply Kd.R_alloc | apply Kd.R_drewN | apply Kd.R_drew)); exact HO9.out)⟩, ⟨(by repeat (first | (with_reducible first | exact HB.out | apply below_alloc | apply pw_below_drewN | apply below_drew1) | exact HB.out))⟩⟩
                    · rw [if_neg c1, if_pos c2, if_neg c3] at hn
                      cases hn
                  · by_cases c3 : 1 ≤ last.size
                    · have b1 : decide (c < 256) = false := decide_eq_false c1
                      have b2 : decide (c - 258 < (KN.length : Int)) = false := decide_eq_false c2
                      rw [if_neg c1, if_neg c2, if_pos c3] at hn
                      have hnow := Option.some.inj hn
                      have ew : wrap64 (c - 258) = c - 258 := by unfold wrap64; omega
                      have l1 : (1 : Int) ≤ (last.size : Int) := by omega
                      have l2 : decide ((1 : Int) ≤ (last.size : Int)) = true := decide_eq_true l1
                      have l6 : (last.extract 0 1).size = 1 := by rw [ByteArray.size_extract]; omega
                      have l5 : (9223372036854775807 < last.size + (last.extract 0 1).size) = False := eq_false (by omega)
                      replace l1 := eq_true l1
                      clear hn
                      
                      go_wp2_with fail
                      go_meet
                      exact ⟨rfl, ⟨(by (with_reducible repeat (first | apply Kd.R_alloc | apply Kd.R_drewN | apply Kd.R_drew)); exact HO8.out)⟩, ⟨(by (with_reducible repeat (first | apply Kd.R_alloc | apply Kd.R_drewN | apply Kd.R_drew)); exact HO9.out)⟩, ⟨(by repeat (first | (with_reducible first | exact HB.out | apply below_alloc | apply pw_below_drewN | apply below_drew1) | exact HB.out))⟩⟩
                    · rw [if_neg c1, if_neg c2, if_neg c3] at hn
                      cases hn
              case rest =>
                clear HO8 HO9 HB hn b6 b7 b0 hx p0 q0
                obtain ⟨rfl, HO8, HO9, HB⟩ := hcut
                have HRn0 := HN.out
                clear HN
                by_cases hl : last.size = 0
                · have bl : last.toList.isEmpty = true := (emp last).trans (decide_eq_true hl)
                  have hkn : knS KN last now = KN := if_pos hl
                  rw [hkn] at HRn0
                  have HRn := Aside0.mk HRn0
                  clear HRn0 hkn
                  go_wp2_with (first | ((with_reducible refine gate_builtin (b := .append) (xs := #[.tmp 85, .tmp 86]) rfl ?_); at_builtin; refine print_append_str (w0 := w1) w1.heap.size rfl (.tmp 85) _ 32 9 5 rfl Try.underlying32 Try.underlying9 info5 (.slice Ao8 out.length co8) out now rfl rfl ?aO ?aB ?aS ?aL ?_; (case aB => exact (by repeat (first | (with_reducible first | exact HB.out | apply below_alloc | apply pw_below_drewN | apply below_drew1) | exact HB.out))); (case aO => exact (Kd.own_of_R (by (with_reducible repeat (first | apply Kd.R_alloc | apply Kd.R_drewN | apply Kd.R_drew)); exact HO8.out))); (case aS => exact (below_size (by repeat (first | (with_reducible first | exact HB.out | apply below_alloc | apply pw_below_drewN | apply below_drew1) | exact HB.out)))); (case aL => omega); intro v81 wb ho hb hg; have n0_ := Aside0.mk (Kd.R_over' (by (with_reducible repeat (first | apply Kd.R_alloc | apply Kd.R_drewN | apply Kd.R_drew)); exact HO9.out) (Kd.R_typed (by (with_reducible repeat (first | apply Kd.R_alloc | apply Kd.R_drewN | apply Kd.R_drew)); exact HO8.out)) (by decide) hg); have n1_ := Aside0.mk (Kd.R_of_own (enc := Value.int .u8) (h1 := fun _ => rfl) (ok := fun _ => True) ho (fun _ _ => trivial)); have n2_ := Aside0.mk hb; clear HO8 HB; clear HO9; have HOa := n1_; have HOb := n0_; have HBc := n2_; clear n0_ n1_ n2_ ho hb hg))
                  go_roundg (cs.length + 1 - (i + 1))
                  case measure => have := HK.out; omega
                  case rel => exact ⟨i + 1, _, _, _, rfl, (by first | rfl | (rw [ei]) | (simp only [i64_w]; rw [ei])), ⟨by omega⟩, HRn, ⟨HOa.out⟩, ⟨HOb.out⟩, ⟨HBc.out⟩⟩

                · have bl : last.toList.isEmpty = false := (emp last).trans (decide_eq_false hl)
                  have hkn : knS KN last now = KN ++ [last ++ now.extract 0 1] := if_neg hl
                  rw [hkn] at HRn0
                  have HRn := Aside0.mk HRn0
                  clear HRn0 hkn
                  have k1 : (1 : Int) ≤ (now.size : Int) := by omega
                  have k2 : decide ((1 : Int) ≤ (now.size : Int)) = true := decide_eq_true k1
                  have k3 : ((now.size : Int) < 1) = False := eq_false (by omega)
                  have k4 : decide ((now.size : Int) < 1) = false := decide_eq_false (by omega)
                  have k6 : (now.extract 0 1).size = 1 := by rw [ByteArray.size_extract]; omega
                  have k5 : (9223372036854775807 < last.size + (now.extract 0 1).size) = False := eq_false (by omega)
                  replace k1 := eq_true k1
                  go_wp2_with (first | ((with_reducible refine gate_builtin (b := .append) (xs := #[.tmp 78, .tmp 83]) rfl ?_); at_builtin; refine Kd.R_append Kd.string (w0 := w1) w1.heap.size rfl (.tmp 78) (.tmp 83) 67 9 (.string ⟨#[]⟩) 16 rfl Try.underlying67 info9 rfl (by decide) (by omega) (.slice Ao9 KN.length co9) KN (last ++ now.extract 0 1) [.string (last ++ now.extract 0 1)] (fun _ => True) (fun _ => False) rfl rfl ?aP (fun _ hk => hk.elim) ?aF ?aO ?aB ?aS ?aL ?_; (case aP => exact rfl); (case aB => exact (by repeat (first | (with_reducible first | exact HB.out | apply below_alloc | apply pw_below_drewN | apply below_drew1) | exact HB.out))); (case aF => exact (fun _ _ => trivial)); (case aO => exact (by (with_reducible repeat (first | apply Kd.R_alloc | apply Kd.R_drewN | apply Kd.R_drew)); exact HO9.out)); (case aS => exact (below_size (by repeat (first | (with_reducible first | exact HB.out | apply below_alloc | apply pw_below_drewN | apply below_drew1) | exact HB.out)))); (case aL => omega); intro v91 wa ho hb hg hat; have n0_ := Aside0.mk (Kd.R_over' (by (with_reducible repeat (first | apply Kd.R_alloc | apply Kd.R_drewN | apply Kd.R_drew)); exact HO8.out) (Kd.R_typed (by (with_reducible repeat (first | apply Kd.R_alloc | apply Kd.R_drewN | apply Kd.R_drew)); exact HO9.out)) (by decide) hg); have n1_ := Aside0.mk ho; have n2_ := Aside0.mk hb; clear HO8 HO9 HB; have HO8 := n0_; have HO9 := n1_; have HB := n2_; clear n0_ n1_ n2_ ho hb hg hat) | ((with_reducible refine gate_builtin (b := .append) (xs := #[.tmp 85, .tmp 86]) rfl ?_); at_builtin; refine print_append_str (w0 := w1) w1.heap.size rfl (.tmp 85) _ 32 9 5 rfl Try.underlying32 Try.underlying9 info5 (.slice Ao8 out.length co8) out now rfl rfl ?aO ?aB ?aS ?aL ?_; (case aB => exact (by repeat (first | (with_reducible first | exact HB.out | apply below_alloc | apply pw_below_drewN | apply below_drew1) | exact HB.out))); (case aO => exact (Kd.own_of_R (by (with_reducible repeat (first | apply Kd.R_alloc | apply Kd.R_drewN | apply Kd.R_drew)); exact HO8.out))); (case aS => exact (below_size (by repeat (first | (with_reducible first | exact HB.out | apply below_alloc | apply pw_below_drewN | apply below_drew1) | exact HB.out)))); (case aL => omega); intro v81 wb ho hb hg; have n0_ := Aside0.mk (Kd.R_over' (by (with_reducible repeat (first | apply Kd.R_alloc | apply Kd.R_drewN | apply Kd.R_drew)); exact HO9.out) (Kd.R_typed (by (with_reducible repeat (first | apply Kd.R_alloc | apply Kd.R_drewN | apply Kd.R_drew)); exact HO8.out)) (by decide) hg); have n1_ := Aside0.mk (Kd.R_of_own (enc := Value.int .u8) (h1 := fun _ => rfl) (ok := fun _ => True) ho (fun _ _ => trivial)); have n2_ := Aside0.mk hb; clear HO8 HB; clear HO9; have HOa := n1_; have HOb := n0_; have HBc := n2_; clear n0_ n1_ n2_ ho hb hg))
                  go_roundg (cs.length + 1 - (i + 1))
                  case measure => have := HK.out; omega
                  case rel => exact ⟨i + 1, _, _, _, rfl, (by first | rfl | (rw [ei]) | (simp only [i64_w]; rw [ei])), ⟨by omega⟩, HRn, ⟨HOa.out⟩, ⟨HOb.out⟩, ⟨HBc.out⟩⟩
            · rw [if_neg room] at hrun
              cases hrun
      · have hd : cs.drop i = [] := List.drop_eq_nil_of_le (by omega)
        have hrun := HRun.out
        rw [hd] at hrun
        unfold runS at hrun
        have b0 : decide ((i : Int) < (cs.length : Int)) = false := decide_eq_false (by omega)
        obtain rfl := (Option.some.inj hrun).symm
        have h2 := H2.out
        clear H2 HRun
        try simp only at h2
        by_cases cR : 65536 < R.length
        · have bR : decide (65536 < (R.length : Int)) = true := decide_eq_true (by omega)
          rw [if_pos cR] at h2
          simp only [Prod.mk.injEq] at h2
          obtain ⟨rfl, rfl, rfl⟩ := h2
          go_wp2_with fail
          go_ret3
          exact ⟨rfl, below_step HB1.out HB.out⟩
        · have bR : decide (65536 < (R.length : Int)) = false := decide_eq_false (by omega)
          rw [if_neg cR] at h2
          simp only [Prod.mk.injEq] at h2
          obtain ⟨rfl, rfl, rfl⟩ := h2
          have hcv := own_string (P := Try.prog) Try.underlying32 Try.underlying5 Try.underlying9 (Kd.own_of_R HO8.out)
          go_wp2_with fail
          go_ret3
          exact ⟨rfl, below_step HB1.out HB.out⟩
theorem readRes_len : ∀ (xs : List It) (pre : List Int), (R06d.readRes xs pre).1.length ≤ pre.length + xs.length
  | [], pre => by simp [R06d.readRes]
  | x :: xs, pre => by
    unfold R06d.readRes
    split
    · simp
    · split
      · split
        · simp
        · simp
      · have := readRes_len xs (pre ++ [(x.code : Int)])
        simp at this ⊢
        omega
theorem items_len : ∀ (f : Nat) (l : List Int) (j : Nat) (r : Rs), (items f l j r).length ≤ f
  | 0, l, j, r => by simp [items]
  | f + 1, l, j, r => by
    unfold items
    split
    · simp
    · rename_i c q _
      split
      · simp
      · have := items_len f l (nextJ j c) q
        simp only [List.length_cons]
        omega
/-- The reference's Decode answers as Decode does. -/
theorem refdec (s r1 : ByteArray) (r2 r3 : Int) (w : World) (hs : s.size ≤ 65536) (h : decRes s = (r1, r2, r3)) :
    Calls Try.prog 15 #[.string s] w fun e w' => e = .returned (.tuple #[.string r1, .int .i64 r2, .int .i64 r3]) ∧ Below w.heap.size w w' := by
  obtain ⟨k, hk⟩ := (R06d.read_ev s hs).get
  have hd := ref_dec s hs
  rw [h] at hd
  have hl := readRes_len (items ((bytesOf s).length + 1) (bytesOf s) 0 ⟨0, 0, 0⟩) []
  have hi := items_len ((bytesOf s).length + 1) (bytesOf s) 0 ⟨0, 0, 0⟩
  have hb := bytesOf_len s
  generalize R06d.readRes (items ((bytesOf s).length + 1) (bytesOf s) 0 ⟨0, 0, 0⟩) [] = p at hk hd hl
  obtain ⟨cs, at_, ok⟩ := p
  simp only [List.length_nil] at hl
  exact refdec_call k s cs at_ ok r1 r2 r3 w hs (by omega) hk hd
end Go.Proofs.Ytfkiacbjiledcaa.G06f
