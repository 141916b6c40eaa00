/- The decoder of base 85: one character. -/
import Derived.Test.YtkfhpajnlaomeaaG02t
namespace Go.Proofs.Ytkfhpajnlaomeaa.G02v
open Go.RowKit Go.Proofs.YtkfhpajnlaomeaaW.PrintWords Go.Proofs.YtkfhpajnlaomeaaW.PrintLast Go.Proofs.YtkfhpajnlaomeaaW.PrintMore
open Go.Proofs.Ytkfhpajnlaomeaa.K02 Go.Proofs.Ytkfhpajnlaomeaa.B02 Go.Proofs.Ytkfhpajnlaomeaa.M02 Go.Proofs.Ytkfhpajnlaomeaa.G02t
set_option linter.unusedVariables false
set_option maxRecDepth 100000
def AfterT (base D bo : Nat) (t : Tens) (c : Int) (w : World) (e : Ending) (w' : World) : Prop :=
  Mv base D bo w w' ∧ match takeT t c with
    | none => e = .returned (.int .i64 2)
    | some (t', true) => e = .returned (.int .i64 1) ∧ Bx w' base bo t'.out
    | some (t', false) => e = .returned (.int .i64 0) ∧ TS w' base D bo t'
theorem close_true (t : Tens) : ∀ t' b, close t = some (t', b) → b = true := by
  intro t' b h
  unfold close at h
  split at h
  · cases h
  · split at h
    · simp only at h
      split at h
      · cases h; rfl
      · cases h
    · cases h; rfl
theorem tt_z (t : Tens) (hl : t.last = false) (hp : 0 < t.part.length) : takeT t 122 = none := by
  unfold takeT
  simp only [hl, Bool.false_eq_true, if_false]
  rw [if_neg (by decide), if_pos trivial, if_pos hp]
theorem tt_z0 (t : Tens) (hl : t.last = false) (hp : ¬ 0 < t.part.length) : takeT t 122 = some (⟨t.part, t.last, t.out ++ [0, 0, 0, 0]⟩, false) := by
  unfold takeT
  simp only [hl, Bool.false_eq_true, if_false]
  rw [if_neg (by decide), if_pos trivial, if_neg hp]
theorem tt_bad (t : Tens) (c : Int) (hl : t.last = false) (h1 : c ≠ 126) (h2 : c ≠ 122) (h : c < 33 ∨ 117 < c) : takeT t c = none := by
  unfold takeT
  simp only [hl, Bool.false_eq_true, if_false]
  rw [if_neg h1, if_neg h2, if_pos h]
theorem tt_more (t : Tens) (c : Int) (hl : t.last = false) (h1 : c ≠ 126) (h2 : c ≠ 122) (h : ¬ (c < 33 ∨ 117 < c)) (h4 : t.part.length ≠ 4) : takeT t c = some (⟨t.part ++ [c], t.last, t.out⟩, false) := by
  unfold takeT
  simp only [hl, Bool.false_eq_true, if_false]
  rw [if_neg h1, if_neg h2, if_neg h, if_neg h4]
theorem tt_five (t : Tens) (c : Int) (hl : t.last = false) (h1 : c ≠ 126) (h2 : c ≠ 122) (h : ¬ (c < 33 ∨ 117 < c)) (h4 : t.part.length = 4) : takeT t c = if val85 (t.part ++ [c]) < 4294967296 then some (⟨[], t.last, t.out ++ four (val85 (t.part ++ [c]))⟩, false) else none := by
  unfold takeT
  simp only [hl, Bool.false_eq_true, if_false]
  rw [if_neg h1, if_neg h2, if_neg h, if_pos h4]
theorem own_far {W : World} {base d j : Nat} {v : Value} {l : List Int} (h : Own8 W base v l) (hd : d < base) (u : Value) : Own8 (W.setCell ⟨d, j, none⟩ u) base v l :=
  own_setCell h (by intro e; have := own_base h d e.symm; omega) u
theorem far {W : World} {b g j : Nat} {o : Obj} (h : W.heap[b]? = some o) (hne : b ≠ g) (v : Value) : (W.setCell ⟨g, j, none⟩ v).heap[b]? = some o := (Below.heap_setCell W ⟨g, j, none⟩ v b hne).trans h
set_option maxHeartbeats 1000000 in
theorem take_tens (base D bo : Nat) (t : Tens) (c : Int) (w : World) (h : TS w base D bo t) (h0 : 0 ≤ c) (h1 : c < 256) (hl : t.out.length ≤ 1000000000) :
    Calls Try.prog 34 #[.pointer (some ⟨D, 0, none⟩), .int .u8 c, EMT bo] w (AfterT base D bo t c w) := by
  have HT := Aside0.mk h
  obtain ⟨part, last, out⟩ := t
  obtain ⟨⟨pv, v, hd, hb, hpv, hv, hap⟩, hne, hld, hlo, hlb, hp, h4⟩ := h
  simp only at hd hb hpv hv hp h4 hl
  obtain ⟨A, cc, rfl⟩ := own_slice hpv
  have hD0 : w.cell? ⟨D, 0, none⟩ = some (.slice A part.length cc) := blk_cell hd 0
  have hD1 : w.cell? ⟨D, 1, none⟩ = some (.bool last) := blk_cell hd 1
  have hf0 := blk_frozen hd 0
  have hf1 := blk_frozen hd 1
  have HB := Aside0.mk hb
  have HV := Aside0.mk hv
  have HD := Aside0.mk hd
  have HPV := Aside0.mk hpv
  have HAP := Aside0.mk hap
  have HP := Aside0.mk hp
  have H4 := Aside0.mk h4
  clear hd hb hv hpv hap hp h4
  cases last with
  | true =>
    by_cases c62 : c = 62
    · subst c62
      have hc := Aside0.mk (close_call base D bo _ w HT.out hl)
      unfold EMT at hc ⊢
      go_enter Try.func34, Try.ntmps34
      go_wp2_with fail
      refine hc.out.mono ?_
      rintro e w1 ⟨hmv, hpost⟩
      have HM := Aside0.mk hmv
      clear hmv
      cases hcl : close ⟨part, true, out⟩ with
      | none =>
        rw [hcl] at hpost
        simp only at hpost
        subst hpost
        have HCL := Aside0.mk hcl
        clear hcl
        go_wp2_with fail
        go_ret
        refine ⟨HM.out, ?_⟩
        unfold takeT
        simp only [if_true]
        rw [HCL.out]
        exact rfl
      | some q =>
        obtain ⟨t', b⟩ := q
        obtain rfl := close_true _ _ _ hcl
        rw [hcl] at hpost
        simp only at hpost
        obtain ⟨rfl, hbx⟩ := hpost
        have HCL := Aside0.mk hcl
        have HBX := Aside0.mk hbx
        clear hcl hbx
        go_wp2_with fail
        go_ret
        refine ⟨HM.out, ?_⟩
        unfold takeT
        simp only [if_true]
        rw [HCL.out]
        exact ⟨rfl, HBX.out⟩
    · have q1 : (c == 62) = false := by simpa using c62
      have q2 : (c != 62) = true := by simpa using c62
      unfold EMT
      go_enter Try.func34, Try.ntmps34
      go_wp2_with fail
      go_ret
      refine ⟨Mv.refl _ _ _ _, ?_⟩
      unfold takeT
      simp only [if_true]
      rw [if_neg c62]
      exact rfl
  | false =>
    by_cases c126 : c = 126
    · subst c126
      unfold EMT
      go_enter Try.func34, Try.ntmps34
      go_wp2_with fail
      go_ret
      refine ⟨Mv.set w D 1 (.inl rfl) _, ?_⟩
      exact ⟨rfl, ⟨_, v, blk_set HD.out 1 _, far HB.out (fun e => hne e.symm) _, own_far HPV.out hld _, own_far HV.out hld _, HAP.out⟩, hne, hld, hlo, by simpa using hlb, HP.out, H4.out⟩
    · have q1 : (c == 126) = false := by simpa using c126
      by_cases c122 : c = 122
      · subst c122
        by_cases hpz : 0 < part.length
        · have q3 : decide ((0 : Int) < (part.length : Int)) = true := decide_eq_true (by omega)
          unfold EMT
          go_enter Try.func34, Try.ntmps34
          go_wp2_with fail
          go_ret
          refine ⟨Mv.refl _ _ _ _, ?_⟩
          rw [tt_z _ rfl hpz]
          exact rfl
        · have q3 : decide ((0 : Int) < (part.length : Int)) = false := decide_eq_false (by omega)
          unfold EMT
          go_enter Try.func34, Try.ntmps34
          go_wp2_with fail
          have hbw : Below w.heap.size w (w.alloc (.cells #[.int .u8 0, .int .u8 0, .int .u8 0, .int .u8 0] 5)) := (Below.refl _ _).alloc (Nat.le_refl _) _
          refine (emitU base bo v out ([0, 0, 0, 0].take 4) _ 4 4 _ ((hbw.block bo (by omega)).trans HB.out) (pw_own_below HV.out hbw) hlo (Nat.le_trans hlb hbw.size) (reads_four _ _ _ _ _ 4 (by omega) _) (by omega)).mono ?_
          rintro e w2 ⟨rfl, hmv, v', hb', hv', hoth⟩
          obtain ⟨k1, k2⟩ := hoth _ _ (pw_own_below HPV.out hbw) HAP.out
          have HM := Aside0.mk hmv
          have HN : Aside0 (TS w2 base D bo ⟨part, false, out ++ [0, 0, 0, 0]⟩) := ⟨⟨_, v', (hmv.block D hld hne hne).trans ((hbw.block D (by omega)).trans HD.out), hb', k1, hv', k2⟩, hne, hld, hlo, Nat.le_trans (Nat.le_trans hlb hbw.size) hmv.size, HP.out, H4.out⟩
          clear hmv hb' hv' hoth k1 k2 hD0 hD1 hf0 hf1
          go_wp2_with fail
          go_ret
          refine ⟨(Mv.of_below hbw hlb).trans (HM.out.weak D), ?_⟩
          rw [tt_z0 _ rfl hpz]
          exact ⟨rfl, HN.out⟩
      · have q2 : (c == 122) = false := by simpa using c122
        by_cases hr : c < 33 ∨ 117 < c
        · unfold EMT
          by_cases hlow : c < 33
          · have q3 : decide (c < 33) = true := decide_eq_true hlow
            go_enter Try.func34, Try.ntmps34
            go_wp2_with fail
            go_ret
            refine ⟨Mv.refl _ _ _ _, ?_⟩
            rw [tt_bad _ c rfl c126 c122 hr]
            exact rfl
          · have q3 : decide (c < 33) = false := decide_eq_false hlow
            have q4 : decide (117 < c) = true := decide_eq_true (by omega)
            go_enter Try.func34, Try.ntmps34
            go_wp2_with fail
            go_ret
            refine ⟨Mv.refl _ _ _ _, ?_⟩
            rw [tt_bad _ c rfl c126 c122 hr]
            exact rfl
        · have q3 : decide (c < 33) = false := decide_eq_false (by omega)
          have q4 : decide (117 < c) = false := decide_eq_false (by omega)
          have HCR : Aside0 (33 ≤ c ∧ c ≤ 117) := ⟨by omega⟩
          by_cases h5 : part.length = 4
          · have q5 : ((part.length : Int) + 1 == 5) = true := by simp; omega
            have HH5 := Aside0.mk h5
            clear h5
            unfold EMT
            go_enter Try.func34, Try.ntmps34
            go_wp2_with ((with_reducible refine gate_builtin (b := .append) (xs := #[.tmp 13, .tmp 15]) rfl ?_); at_builtin; refine print_append_num (w0 := w) base rfl (.tmp 13) (.tmp 15) 32 5 .u8 1 rfl Try.underlying32 info5 (by decide) (.slice A part.length cc) part c rfl ?hx HPV.out ?hB ?hb ?hl ?_; (case hx => rfl); (case hB => exact Below.refl _ _); (case hb => exact hlb); (case hl => have := H4.out; omega); intro v1 w1 ho hb hg hat; have HO1 := Aside0.mk ho; have HG1 := Aside0.mk hg; have HAT1 := Aside0.mk hat; clear ho hb hg hat; obtain ⟨A1, c1, rfl⟩ := own_slice HO1.out; have hd1 := blk_grown HD.out HG1.out (fun e => by have := own_base HPV.out D e.symm; omega); have hx0 := blk_cell hd1 0; have hx1 := blk_cell hd1 1; have hy0 := blk_frozen hd1 0; have hy1 := blk_frozen hd1 1; have HD1 := Aside0.mk hd1; clear hd1)
            have e1 : (part ++ [c]).length = part.length + 1 := by rw [List.length_append, List.length_singleton]
            have HO2 : Aside0 (Own8 w1 base (.slice A1 (part.length + 1) c1) (part ++ [c])) := ⟨by
              have := HO1.out
              unfold Own8
              rw [e1] at this ⊢
              exact this⟩
            have HAP2 : Aside0 ((Value.slice A1 (part.length + 1) c1).ownBlock = none ∨ (Value.slice A1 (part.length + 1) c1).ownBlock ≠ v.ownBlock) := ⟨by
              have := ap_next HV.out HAP.out HAT1.out
              rw [e1] at this
              exact this⟩
            have HT2 : Aside0 ((w1.setCell ⟨D, 0, none⟩ (.slice A1 (part.length + 1) c1)).heap[D]? = some (.cells #[.slice A1 (part.length + 1) c1, .bool false] 66 (0, 0)) ∧ (w1.setCell ⟨D, 0, none⟩ (.slice A1 (part.length + 1) c1)).heap[bo]? = some (.cells #[v] 32 (0, 0)) ∧ Own8 (w1.setCell ⟨D, 0, none⟩ (.slice A1 (part.length + 1) c1)) base (.slice A1 (part.length + 1) c1) (part ++ [c]) ∧ Own8 (w1.setCell ⟨D, 0, none⟩ (.slice A1 (part.length + 1) c1)) base v out) :=
              ⟨blk_set HD1.out 0 _, far (blk_grown HB.out HG1.out (fun e => by have := own_base HPV.out bo e.symm; omega)) (fun e => hne e.symm) _, own_far HO2.out hld _, own_far (own_other HV.out HG1.out (ap_symm HAP.out)) hld _⟩
            have HM2 : Aside0 (Mv base D bo w (w1.setCell ⟨D, 0, none⟩ (.slice A1 (part.length + 1) c1))) := ⟨(Mv.grown HG1.out (own_base HPV.out) (own_cells HPV.out) hlb).trans (Mv.set w1 D 0 (.inl rfl) _)⟩
            have HRG : Aside0 (∀ x ∈ part ++ [c], 33 ≤ x ∧ x ≤ 117) := ⟨by
              intro x hx
              rcases List.mem_append.1 hx with hx | hx
              · exact HP.out x hx
              · rw [List.mem_singleton.1 hx]; exact HCR.out⟩
            obtain ⟨W2, hW2⟩ : ∃ W2, w1.setCell ⟨D, 0, none⟩ (.slice A1 (part.length + 1) c1) = W2 := ⟨_, rfl⟩
            rw [hW2] at HT2 HM2 ⊢
            obtain ⟨t1, t2, t3, t4⟩ := HT2.out
            have HLB2 : Aside0 (base ≤ W2.heap.size) := ⟨Nat.le_trans hlb HM2.out.size⟩
            obtain ⟨l, hl2⟩ : ∃ l, part ++ [c] = l := ⟨_, rfl⟩
            have hl5 : l.length = 5 := by rw [← hl2, e1]; have := HH5.out; omega
            have HRG2 : Aside0 (∀ x ∈ l, 33 ≤ x ∧ x ≤ 117) := ⟨by rw [← hl2]; exact HRG.out⟩
            rw [hl2] at t3 e1
            have hrd : ReadsInt W2 .u8 A1 l.length l := by
              obtain ⟨Ar, cr, he, hrd⟩ := own_reads t3
              injection he with k1 k2 k3
              rw [k1]
              exact hrd
            have hfc := fold_call A1 c1 l W2 hrd hl5 HRG2.out
            have hvb := val_all l HRG2.out hl5
            rw [e1] at hfc
            have htf := tt_five ⟨part, false, out⟩ c rfl c126 c122 hr HH5.out
            simp only [hl2] at htf
            obtain ⟨n, hn⟩ : ∃ n, val85 l = n := ⟨_, rfl⟩
            simp only [hn] at hfc hvb htf
            have HTF := Aside0.mk htf
            have HFC := Aside0.mk hfc
            have T1 := Aside0.mk t1
            have T2 := Aside0.mk t2
            have T4 := Aside0.mk t4
            clear htf hfc t1 t2 t3 t4 hrd hn hl5 e1 hW2 HT2 hx0 hx1 hy0 hy1 hD0 hD1 hf0 hf1
            by_cases hbig : n < 4294967296
            · have q6 : decide (n < 4294967296) = true := decide_eq_true hbig
              rw [q6] at HFC
              refine HFC.out.mono ?_
              rintro e W3 ⟨rfl, hb3⟩
              have HB3 := Aside0.mk hb3
              clear hb3
              go_wp2_with fail
              have hba : Below W2.heap.size W2 (W3.alloc (.cells #[.int .u8 (n / 16777216 % 256), .int .u8 (n / 65536 % 256), .int .u8 (n / 256 % 256), .int .u8 (n % 256)] 56)) := HB3.out.alloc HB3.out.size _
              have hlb3 := HLB2.out
              refine (emitU base bo v out ([n / 16777216 % 256, n / 65536 % 256, n / 256 % 256, n % 256].take 4) _ 4 4 _ ((hba.block bo (by omega)).trans T2.out) (pw_own_below T4.out hba) hlo (Nat.le_trans hlb3 hba.size) (reads_four _ _ _ _ _ 4 (by omega) _) (by omega)).mono ?_
              rintro e W4 ⟨rfl, hmv, v', hb', hv', hoth⟩
              have hd4 := (hmv.block D hld hne hne).trans ((hba.block D (by omega)).trans T1.out)
              have z0 := blk_cell hd4 0
              have z1 := blk_frozen hd4 0
              have HM4 := Aside0.mk hmv
              have HD4 := Aside0.mk hd4
              have HB4 := Aside0.mk hb'
              have HV4 := Aside0.mk hv'
              clear hmv hd4 hb' hv' hoth
              go_wp2_with fail
              go_ret
              refine ⟨HM2.out.trans ((Mv.of_below hba hlb3).trans ((HM4.out.weak D).trans (Mv.set W4 D 0 (.inl rfl) _))), ?_⟩
              rw [HTF.out, if_pos hbig]
              exact ⟨rfl, ⟨_, v', blk_set HD4.out 0 _, far HB4.out (fun e => hne e.symm) _, own_nil _ _ _ _, own_far HV4.out hld _, .inl rfl⟩, hne, hld, hlo, by simpa using Nat.le_trans (Nat.le_trans hlb3 hba.size) HM4.out.size, fun x hx => by simp at hx, by simp⟩
            · have q6 : decide (n < 4294967296) = false := decide_eq_false hbig
              rw [q6] at HFC
              refine HFC.out.mono ?_
              rintro e W3 ⟨rfl, hb3⟩
              have HB3 := Aside0.mk hb3
              clear hb3
              go_wp2_with fail
              go_ret
              refine ⟨HM2.out.trans ((Mv.of_below HB3.out HLB2.out).trans (Mv.alloc _ _ (Nat.le_trans HLB2.out HB3.out.size))), ?_⟩
              rw [HTF.out, if_neg (by omega)]
              exact rfl
          · have q5 : ((part.length : Int) + 1 == 5) = false := by simp; omega
            unfold EMT
            go_enter Try.func34, Try.ntmps34
            go_wp2_with ((with_reducible refine gate_builtin (b := .append) (xs := #[.tmp 13, .tmp 15]) rfl ?_); at_builtin; refine print_append_num (w0 := w) base rfl (.tmp 13) (.tmp 15) 32 5 .u8 1 rfl Try.underlying32 info5 (by decide) (.slice A part.length cc) part c rfl ?hx HPV.out ?hB ?hb ?hl ?_; (case hx => rfl); (case hB => exact Below.refl _ _); (case hb => exact hlb); (case hl => have := H4.out; omega); intro v1 w1 ho hb hg hat; have HO1 := Aside0.mk ho; have HG1 := Aside0.mk hg; have HAT1 := Aside0.mk hat; clear ho hb hg hat; obtain ⟨A1, c1, rfl⟩ := own_slice HO1.out; have hd1 := blk_grown HD.out HG1.out (fun e => by have := own_base HPV.out D e.symm; omega); have hx0 := blk_cell hd1 0; have hx1 := blk_cell hd1 1; have hy0 := blk_frozen hd1 0; have hy1 := blk_frozen hd1 1; have HD1 := Aside0.mk hd1; clear hd1)
            have e1 : (part ++ [c]).length = part.length + 1 := by rw [List.length_append, List.length_singleton]
            have HO2 : Aside0 (Own8 w1 base (.slice A1 (part.length + 1) c1) (part ++ [c])) := ⟨by
              have := HO1.out
              unfold Own8
              rw [e1] at this ⊢
              exact this⟩
            have HAP2 : Aside0 ((Value.slice A1 (part.length + 1) c1).ownBlock = none ∨ (Value.slice A1 (part.length + 1) c1).ownBlock ≠ v.ownBlock) := ⟨by
              have := ap_next HV.out HAP.out HAT1.out
              rw [e1] at this
              exact this⟩
            have HT2 : Aside0 ((w1.setCell ⟨D, 0, none⟩ (.slice A1 (part.length + 1) c1)).heap[D]? = some (.cells #[.slice A1 (part.length + 1) c1, .bool false] 66 (0, 0)) ∧ (w1.setCell ⟨D, 0, none⟩ (.slice A1 (part.length + 1) c1)).heap[bo]? = some (.cells #[v] 32 (0, 0)) ∧ Own8 (w1.setCell ⟨D, 0, none⟩ (.slice A1 (part.length + 1) c1)) base (.slice A1 (part.length + 1) c1) (part ++ [c]) ∧ Own8 (w1.setCell ⟨D, 0, none⟩ (.slice A1 (part.length + 1) c1)) base v out) :=
              ⟨blk_set HD1.out 0 _, far (blk_grown HB.out HG1.out (fun e => by have := own_base HPV.out bo e.symm; omega)) (fun e => hne e.symm) _, own_far HO2.out hld _, own_far (own_other HV.out HG1.out (ap_symm HAP.out)) hld _⟩
            have HM2 : Aside0 (Mv base D bo w (w1.setCell ⟨D, 0, none⟩ (.slice A1 (part.length + 1) c1))) := ⟨(Mv.grown HG1.out (own_base HPV.out) (own_cells HPV.out) hlb).trans (Mv.set w1 D 0 (.inl rfl) _)⟩
            have HRG : Aside0 (∀ x ∈ part ++ [c], 33 ≤ x ∧ x ≤ 117) := ⟨by
              intro x hx
              rcases List.mem_append.1 hx with hx | hx
              · exact HP.out x hx
              · rw [List.mem_singleton.1 hx]; exact HCR.out⟩
            go_ret
            refine ⟨HM2.out, ?_⟩
            rw [tt_more _ c rfl c126 c122 hr h5]
            exact ⟨rfl, ⟨_, v, HT2.out.1, HT2.out.2.1, HT2.out.2.2.1, HT2.out.2.2.2, HAP2.out⟩, hne, hld, hlo, Nat.le_trans hlb HM2.out.size, HRG.out, by have := H4.out; rw [e1]; omega⟩
end Go.Proofs.Ytkfhpajnlaomeaa.G02v
