/- The decoder of base 85, character by character. -/
import Derived.Test.YtkfhpajnlaomeaaM02
import Derived.WalkMore
import Derived.Laws.EntriesVeiled
namespace Go.Proofs.Ytkfhpajnlaomeaa.G02t
open Go.RowKit Go.Proofs.YtkfhpajnlaomeaaW.PrintWords Go.Proofs.YtkfhpajnlaomeaaW.PrintLast Go.Proofs.YtkfhpajnlaomeaaW.PrintMore
open Go.Proofs.Ytkfhpajnlaomeaa.K02 Go.Proofs.Ytkfhpajnlaomeaa.B02 Go.Proofs.Ytkfhpajnlaomeaa.M02
set_option linter.unusedVariables false
set_option maxRecDepth 100000
theorem val_snoc (l : List Int) (c : Int) : val85 (l ++ [c]) = val85 l * 85 + (c - 33) := by unfold val85; rw [List.foldl_append]; rfl
theorem val_bound (l : List Int) : ∀ i, i ≤ l.length → (∀ c ∈ l, 33 ≤ c ∧ c ≤ 117) → 0 ≤ val85 (l.take i) ∧ val85 (l.take i) < 85 ^ i := by
  intro i
  induction i with
  | zero => intro _ _; rw [List.take_zero]; exact ⟨by decide, by decide⟩
  | succ i ih =>
    intro hi h
    obtain ⟨h1, h2⟩ := ih (by omega) h
    have h3 := h (l[i]'(by omega)) (List.getElem_mem _)
    rw [List.take_succ_eq_append_getElem (by omega), val_snoc, Int.pow_succ]
    omega
theorem val_all (l : List Int) (h : ∀ c ∈ l, 33 ≤ c ∧ c ≤ 117) (h5 : l.length = 5) : 0 ≤ val85 l ∧ val85 l < 4437053125 := by
  have := val_bound l 5 (by omega) h
  rw [List.take_of_length_le (by omega)] at this
  exact this
/-- The number of a group. -/
theorem fold_call (A : Option Addr) (c : Nat) (l : List Int) (w : World) (hr : ReadsInt w .u8 A l.length l) (hl : l.length = 5) (hb : ∀ c ∈ l, 33 ≤ c ∧ c ≤ 117) :
    Calls Try.prog 49 #[.slice A l.length c] w fun e w' => e = .returned (.tuple #[.agg #[.int .u8 (val85 l / 16777216 % 256), .int .u8 (val85 l / 65536 % 256), .int .u8 (val85 l / 256 % 256), .int .u8 (val85 l % 256)], .bool (decide (val85 l < 4294967296))]) ∧ Below w.heap.size w w' := by
  have hall := val_all l hb hl
  have HBD := Aside0.mk (val_bound l)
  obtain ⟨ad, rfl, hcell⟩ := hr.2.2 (by omega)
  have HC : Aside0 (∀ j, j < l.length → w.cell? (ad.add j) = some (.int .u8 (l.getD j 0))) := ⟨hcell⟩
  have HB := Aside0.mk hb
  clear hr hb hcell
  have hlt : ∀ j, j < l.length → (ad.add j).block < w.heap.size := fun j hj => World.block_lt_of_cell? _ _ (HC.out j hj)
  have HLT := Aside0.mk hlt
  clear hlt
  go_enter Try.func49, Try.ntmps49
  go_wp2_with fail
  go_loopw [4, 9] (fun v4 v9 wr => ∃ i : Nat, v9 = .int .i64 i ∧ i ≤ 5 ∧ v4 = .int .u64 (val85 (l.take i)) ∧ wr = w.alloc (Obj.cells #[Value.int .u8 0, Value.int .u8 0, Value.int .u8 0, Value.int .u8 0] 56)) (fun _ v9 _ => 5 - (intOf v9).toNat)
  case atStart => exact ⟨0, rfl, by omega, rfl, rfl⟩
  case round =>
    obtain ⟨i, rfl, hi, rfl, rfl⟩ := hrel
    by_cases hlt : i < 5
    · have q1 : (i : Int) < 5 := by omega
      have hb1 := HBD.out i (by omega) HB.out
      have hpw : (85 : Int) ^ i ≤ 52200625 := by
        match i, hlt with
        | 0, _ => decide | 1, _ => decide | 2, _ => decide | 3, _ => decide | 4, _ => decide
      have hx : l[i]? = some (l.getD i 0) := by rw [List.getD_eq_getElem?_getD, List.getElem?_eq_getElem (by omega)]; rfl
      have hxb := HB.out (l.getD i 0) (List.mem_of_getElem? hx)
      have HSN : Aside0 (val85 (l.take (i + 1)) = val85 (l.take i) * 85 + (l.getD i 0 - 33)) := ⟨by
        rw [List.take_succ_eq_append_getElem (by omega), val_snoc]
        rw [List.getElem?_eq_getElem (by omega)] at hx
        rw [Option.some.inj hx]⟩
      have hc := HC.out i (by omega)
      have hc' := ((Below.refl w.heap.size w).alloc (Nat.le_refl _) (Obj.cells #[Value.int .u8 0, Value.int .u8 0, Value.int .u8 0, Value.int .u8 0] 56)).cell (p := ad.add i) (HLT.out i (by omega))
      rw [hc] at hc'
      obtain ⟨x, hx2⟩ : ∃ x, l.getD i 0 = x := ⟨_, rfl⟩
      obtain ⟨n, hn⟩ : ∃ n, val85 (l.take i) = n := ⟨_, rfl⟩
      rw [hx2] at hxb HSN hc'
      rw [hn] at hb1 HSN
      have hnn : 0 ≤ n ∧ n ≤ 52200625 := by omega
      clear hx hc hx2 hb1 hpw
      simp only [hn]
      go_wp2_with fail
      exact ⟨⟨i + 1, by go_num, by omega, by rw [HSN.out], trivial⟩, by simp [intOf]; omega⟩
    · obtain rfl : i = 5 := by omega
      rw [List.take_of_length_le (by omega)]
      obtain ⟨n, hn⟩ : ∃ n, val85 l = n := ⟨_, rfl⟩
      have HN := Aside0.mk hn
      rw [hn] at hall ⊢
      clear hn
      go_wp2_with fail
      rw [HN.out]
      refine bodyPost_ret (by simp [results, Try.f49, go_sem]; rfl) rfl ?_
      exact ⟨rfl, (Below.refl _ w).alloc (Nat.le_refl _) _⟩
/-- Octets that another slice owns live on when the closure collects. -/
theorem emitU (base bo : Nat) (v : Value) (L news : List Int) (A : Option Addr) (n c : Nat) (w : World) (ho : w.heap[bo]? = some (.cells #[v] 32 (0, 0))) (hv : Own8 w base v L) (hlo : bo < base) (hlb : base ≤ w.heap.size) (hr : ReadsInt w .u8 A n news) (hl : L.length + n ≤ 10000000000) :
    Calls Try.prog 47 #[.slice A n c, .pointer (some ⟨bo, 0, none⟩)] w fun e w' => e = .returned (.tuple #[]) ∧ Mv base bo bo w w' ∧ ∃ v', w'.heap[bo]? = some (.cells #[v'] 32 (0, 0)) ∧ Own8 w' base v' (L ++ news) ∧
      ∀ (u : Value) (l' : List Int), Own8 w base u l' → (u.ownBlock = none ∨ u.ownBlock ≠ v.ownBlock) → Own8 w' base u l' ∧ (u.ownBlock = none ∨ u.ownBlock ≠ v'.ownBlock) := by
  obtain ⟨Ao, co, rfl⟩ := own_slice hv
  have hco := blk_cell ho 0
  have HV := Aside0.mk hv
  have HR := Aside0.mk hr
  have HO := Aside0.mk ho
  clear hv hr ho
  have hco' : w.cell? ⟨bo, 0, none⟩ = some (.slice Ao L.length co) := hco
  clear hco
  go_enter Try.func47, Try.ntmps47
  go_wp2_with ((with_reducible refine gate_builtin (b := .append) (xs := #[.tmp 3, .tmp 4]) rfl ?_); at_builtin; refine print_append_row (w0 := w) base rfl (.tmp 3) (.tmp 4) 32 5 .u8 1 rfl Try.underlying32 info5 (by decide) (.slice Ao L.length co) L news A n c rfl rfl HV.out HR.out ?hB ?hb ?hl ?_; (case hB => exact Below.refl _ _); (case hb => exact hlb); (case hl => omega); intro v1 w1 ho1 hb1 hg1 hat1; have HO1 := Aside0.mk ho1; have HG1 := Aside0.mk hg1; have HAT1 := Aside0.mk hat1; clear ho1 hb1 hg1 hat1; obtain ⟨A1, c1, rfl⟩ := own_slice HO1.out; have hq := blk_grown HO.out HG1.out (fun e => by have := own_base HV.out bo e.symm; omega); have hq1 := blk_cell hq 0; have hq2 := blk_frozen hq 0)
  go_end0
  have hb1 := own_base HO1.out
  refine ⟨rfl, (Mv.grown HG1.out (own_base HV.out) (own_cells HV.out) hlb).trans (Mv.set w1 bo 0 (.inl rfl) _), _, blk_set hq 0 _, ?_, ?_⟩
  · have := own_setCell (p := ⟨bo, 0, none⟩) HO1.out (by intro e; have := hb1 bo e.symm; omega) (.slice A1 (L ++ news).length c1)
    unfold Own8
    rw [List.length_append] at this ⊢
    exact this
  · intro u l' hu hap
    have hu1 := own_other hu HG1.out hap
    refine ⟨own_setCell (p := ⟨bo, 0, none⟩) hu1 (by intro e; have := own_base hu1 bo e.symm; omega) _, ?_⟩
    rcases hap with h | h
    · exact .inl h
    · refine .inr fun e => ?_
      have e' : u.ownBlock = (Value.slice A1 (L ++ news).length c1).ownBlock := by rw [e]; simp [List.length_append]; try rfl
      rcases HAT1.out with h1 | ⟨q, h1, h2⟩
      · exact h (e'.trans h1)
      · have := own_lt hu q (e'.trans h1); omega
/-- What the decoder's two variables hold. -/
structure TS (W : World) (base D bo : Nat) (t : Tens) : Prop where
  own : ∃ pv v, W.heap[D]? = some (.cells #[pv, .bool t.last] 66 (0, 0)) ∧ W.heap[bo]? = some (.cells #[v] 32 (0, 0)) ∧ Own8 W base pv t.part ∧ Own8 W base v t.out ∧ (pv.ownBlock = none ∨ pv.ownBlock ≠ v.ownBlock)
  ne : D ≠ bo
  ld : D < base
  lo : bo < base
  lb : base ≤ W.heap.size
  hp : ∀ c ∈ t.part, 33 ≤ c ∧ c ≤ 117
  h4 : t.part.length ≤ 4
def EMT (bo : Nat) : Value := .func (.func 47) #[] #[.pointer (some ⟨bo, 0, none⟩)]
theorem reads_four (w : World) (a b c d : Int) (m : Nat) (hm : m ≤ 4) (ty : TypeId) : ReadsInt (w.alloc (.cells #[.int .u8 a, .int .u8 b, .int .u8 c, .int .u8 d] ty)) .u8 (some ⟨w.heap.size, 0, none⟩) m ([a, b, c, d].take m) := by
  refine ⟨by rw [List.length_take]; simp; omega, by omega, fun _ => ⟨_, rfl, fun j hj => ?_⟩⟩
  have h := blk_cell (World.alloc_heap_new w (.cells #[.int .u8 a, .int .u8 b, .int .u8 c, .int .u8 d] ty)) j
  rw [add_plain, h]
  match j, hj with
  | 0, _ => match m, hm with | 0, _ => omega | m + 1, _ => rfl
  | 1, _ => match m, hm with | 0, _ => omega | 1, _ => omega | m + 2, _ => rfl
  | 2, _ => match m, hm with | 0, _ => omega | 1, _ => omega | 2, _ => omega | m + 3, _ => rfl
  | 3, _ => match m, hm with | 0, _ => omega | 1, _ => omega | 2, _ => omega | 3, _ => omega | 4, _ => rfl
  | j + 4, hj => omega
theorem ap_symm {a b : Option Nat} (h : a = none ∨ a ≠ b) : b = none ∨ b ≠ a := by
  rcases h with rfl | h
  · cases b
    · exact .inl rfl
    · exact .inr (fun e => by cases e)
  · exact .inr fun e => h e.symm
theorem ap_next {W : World} {base : Nat} {u v v1 : Value} {l : List Int} (hu : Own8 W base u l) (h : v.ownBlock = none ∨ v.ownBlock ≠ u.ownBlock) (hat : v1.ownBlock = v.ownBlock ∨ ∃ b, v1.ownBlock = some b ∧ W.heap.size ≤ b) : v1.ownBlock = none ∨ v1.ownBlock ≠ u.ownBlock := by
  rcases hat with e | ⟨b, e, hb⟩
  · rw [e]; exact h
  · refine .inr fun e2 => ?_
    rw [e] at e2
    have := own_lt hu b e2.symm
    omega
def AfterClose (base D bo : Nat) (t : Tens) (w : World) (e : Ending) (w' : World) : Prop :=
  Mv base D bo w w' ∧ match close t with
    | none => e = .returned (.int .i64 2)
    | some (t', _) => e = .returned (.int .i64 1) ∧ Bx w' base bo t'.out
set_option maxHeartbeats 1000000 in
theorem close_call (base D bo : Nat) (t : Tens) (w : World) (h : TS w base D bo t) (hl : t.out.length ≤ 1000000000) :
    Calls Try.prog 48 #[.pointer (some ⟨D, 0, none⟩), EMT bo] w (AfterClose base D bo t w) := by
  obtain ⟨part, last, out⟩ := t
  obtain ⟨⟨pv, v, hd, hb, hpv, hv, hap⟩, hne, hld, hlo, hlb, hp, h4⟩ := h
  simp only at hd hb hpv hv hp h4 hl
  obtain ⟨A, c, rfl⟩ := own_slice hpv
  have hD0 : w.cell? ⟨D, 0, none⟩ = some (.slice A part.length c) := blk_cell hd 0
  have HB : Aside0 (w.heap[bo]? = some (.cells #[v] 32 (0, 0)) ∧ Own8 w base v out) := ⟨hb, hv⟩
  have HPV := Aside0.mk hpv
  have HAP := Aside0.mk hap
  have HP := Aside0.mk hp
  unfold EMT
  clear hd hb hv hpv hap hp
  by_cases k1 : part.length = 1
  · have q1 : ((part.length : Int) == 1) = true := by simp; omega
    go_enter Try.func48, Try.ntmps48
    go_wp2_with fail
    go_ret
    refine ⟨Mv.refl _ _ _ _, ?_⟩
    unfold close
    rw [if_pos k1]
    exact rfl
  · have q1 : ((part.length : Int) == 1) = false := by simp; omega
    by_cases k2 : 1 < part.length
    · have q2 : decide ((1 : Int) < (part.length : Int)) = true := decide_eq_true (by omega)
      go_enter Try.func48, Try.ntmps48
      go_wp2_with fail
      go_loopw [6] (fun v6 wr => ∃ (j : Nat) (l : List Int) (A' : Option Addr) (c' : Nat), v6 = .slice A' l.length c' ∧ l.length ≤ 5 ∧ l.length = part.length + j ∧ Aside0 (l = part ++ List.replicate j 117) ∧ Aside0 (Own8 wr base (.slice A' l.length c') l) ∧ Aside0 (wr.heap[bo]? = some (.cells #[v] 32 (0, 0)) ∧ Own8 wr base v out) ∧ Aside0 ((Value.slice A' l.length c').ownBlock = none ∨ (Value.slice A' l.length c').ownBlock ≠ v.ownBlock) ∧ Aside0 (Mv base D bo w wr)) (fun v6 _ => match v6 with | .slice _ m _ => 5 - m | _ => 0)
      case atStart => exact ⟨0, part, A, c, rfl, by omega, by omega, ⟨by simp⟩, HPV, HB, HAP, ⟨Mv.refl _ _ _ _⟩⟩
      case round =>
        obtain ⟨j, l, A', c', rfl, hl5, hlj, HL, HO, HB, HAP, HM⟩ := hrel
        have HLJ := Aside0.mk hlj
        clear hlj
        have HLB : Aside0 (base ≤ wr.heap.size) := ⟨Nat.le_trans hlb HM.out.size⟩
        by_cases hm : l.length < 5
        · have q3 : decide ((l.length : Int) < 5) = true := decide_eq_true (by omega)
          go_wp2_with ((with_reducible refine gate_builtin (b := .append) (xs := #[.tmp 25, .tmp 26]) rfl ?_); at_builtin; refine print_append_num (w0 := wr) base rfl (.tmp 25) (.tmp 26) 32 5 .u8 1 rfl Try.underlying32 info5 (by decide) (.slice A' l.length c') l 117 rfl ?hx HO.out ?hB ?hb ?hl ?_; (case hx => rfl); (case hB => exact Below.refl _ _); (case hb => exact HLB.out); (case hl => omega); intro v1 w1 ho hb hg hat; have HO1 := Aside0.mk ho; have HG1 := Aside0.mk hg; have HAT1 := Aside0.mk hat; clear ho hb hg hat; obtain ⟨A1, c1, rfl⟩ := own_slice HO1.out)
          have e1 : (l ++ [117]).length = l.length + 1 := by rw [List.length_append, List.length_singleton]
          refine ⟨⟨j + 1, l ++ [117], A1, c1, by rw [e1], by omega, by have := HLJ.out; omega, ⟨by rw [HL.out, List.append_assoc, List.replicate_succ']⟩, ⟨HO1.out⟩, ⟨blk_grown HB.out.1 HG1.out (fun e => by have := own_base HO.out bo e.symm; omega), own_other HB.out.2 HG1.out (ap_symm HAP.out)⟩, ⟨ap_next HB.out.2 HAP.out HAT1.out⟩, ⟨HM.out.trans (Mv.grown HG1.out (own_base HO.out) (own_cells HO.out) HLB.out)⟩⟩, by simp only; omega⟩
        · have hm5 : l.length = 5 := by omega
          have q3 : decide ((l.length : Int) < 5) = false := decide_eq_false (by omega)
          obtain ⟨Ar, cr, he, hrd⟩ := own_reads HO.out
          cases he
          have hrg : ∀ x ∈ l, 33 ≤ x ∧ x ≤ 117 := by
            rw [HL.out]
            intro x hx
            rcases List.mem_append.1 hx with hx | hx
            · exact HP.out x hx
            · rw [(List.mem_replicate.1 hx).2]; omega
          have hfc := Aside0.mk (fold_call A' c' l wr hrd hm5 hrg)
          have hvb := val_all l hrg hm5
          have hcl : close ⟨part, last, out⟩ = if val85 l < 4294967296 then some (⟨part, last, out ++ (four (val85 l)).take (part.length - 1)⟩, true) else none := by
            unfold close
            rw [if_neg k1, if_pos k2]
            simp only
            rw [show 5 - part.length = j by have := HLJ.out; omega, ← HL.out]
          have HCL := Aside0.mk hcl
          have HM5 := Aside0.mk hm5
          clear hcl hrd hrg hm5 hm
          obtain ⟨n, hn⟩ : ∃ n, val85 l = n := ⟨_, rfl⟩
          simp only [hn] at hfc hvb
          have HN := Aside0.mk hn
          clear hn
          by_cases hbig : n < 4294967296
          · have q4 : decide (n < 4294967296) = true := decide_eq_true hbig
            rw [q4] at hfc
            go_wp2_with fail
            refine hfc.out.mono ?_
            rintro e w1 ⟨rfl, hb1⟩
            have HB1 := Aside0.mk hb1
            clear hb1
            obtain ⟨m, hm⟩ : ∃ m : Nat, (part.length : Int) - 1 = (m : Int) := ⟨part.length - 1, by omega⟩
            have hm4 : (m : Int) ≤ 4 := by omega
            have hm0 : 1 ≤ (m : Int) := by omega
            go_wp2_with fail
            have HBX : Aside0 (Bx (w1.alloc (.cells #[.int .u8 (n / 16777216 % 256), .int .u8 (n / 65536 % 256), .int .u8 (n / 256 % 256), .int .u8 (n % 256)] 56)) base bo out) := ⟨(Bx.below (⟨⟨v, HB.out.1, HB.out.2⟩, hlo, HLB.out⟩ : Bx wr base bo out) HB1.out).below ((Below.refl _ _).alloc (Nat.le_refl _) _)⟩
            refine (emitT base bo out ((four n).take m) _ m 4 _ HBX.out (reads_four _ _ _ _ _ m (by omega) _) (by omega)).mono ?_
            rintro e w2 ⟨rfl, hmv, hbx⟩
            have HMV := Aside0.mk hmv
            have HBX2 := Aside0.mk hbx
            clear hmv hbx
            go_wp2_with fail
            go_ret
            refine ⟨HM.out.trans ((Mv.of_below HB1.out HLB.out).trans ((Mv.alloc _ _ (Nat.le_trans HLB.out HB1.out.size)).trans (HMV.out.weak D))), ?_⟩
            rw [HCL.out, HN.out, if_pos hbig, show part.length - 1 = m by omega]
            exact ⟨rfl, HBX2.out⟩
          · have q4 : decide (n < 4294967296) = false := decide_eq_false hbig
            rw [q4] at hfc
            go_wp2_with fail
            refine hfc.out.mono ?_
            rintro e w1 ⟨rfl, hb1⟩
            have HB1 := Aside0.mk hb1
            clear hb1
            go_wp2_with fail
            go_ret
            refine ⟨HM.out.trans ((Mv.of_below HB1.out HLB.out).trans (Mv.alloc _ _ (Nat.le_trans HLB.out HB1.out.size))), ?_⟩
            rw [HCL.out, HN.out, if_neg (by omega)]
            exact rfl
    · have q2 : decide ((1 : Int) < (part.length : Int)) = false := decide_eq_false (by omega)
      go_enter Try.func48, Try.ntmps48
      go_wp2_with fail
      go_ret
      refine ⟨Mv.refl _ _ _ _, ?_⟩
      unfold close
      rw [if_neg k1, if_neg k2]
      exact ⟨rfl, ⟨v, HB.out.1, HB.out.2⟩, hlo, hlb⟩
end Go.Proofs.Ytkfhpajnlaomeaa.G02t
