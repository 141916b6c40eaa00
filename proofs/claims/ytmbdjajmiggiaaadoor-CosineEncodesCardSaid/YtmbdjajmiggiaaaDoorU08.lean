/- The reference's transforms (chapter 08): Within 15, Coefs 16, Block 17. -/
import Derived.Test.YtmbdjajmiggiaaaDoorT08
import Derived.Test.YtmbdjajmiggiaaaDoorH08
namespace Go.Proofs.YtmbdjajmiggiaaaDoor.U08
open Go.Proofs.YtmbdjajmiggiaaaDoor.K08 Go.Proofs.YtmbdjajmiggiaaaDoor.G08 Go.Proofs.YtmbdjajmiggiaaaDoor.G08f Go.Proofs.YtmbdjajmiggiaaaDoor.Z08 Go.Proofs.YtmbdjajmiggiaaaDoor.O08 Go.Proofs.YtmbdjajmiggiaaaDoor.L08 Go.Proofs.YtmbdjajmiggiaaaDoor.W08 Go.Proofs.YtmbdjajmiggiaaaDoor.P08 Go.Proofs.YtmbdjajmiggiaaaDoor.V08 Go.Proofs.YtmbdjajmiggiaaaDoor.V08l Go.Proofs.YtmbdjajmiggiaaaDoor.T08
open Go.RowKit Go.Proofs.YtmbdjajmiggiaaaDoorW.PrintWords Go.Proofs.YtmbdjajmiggiaaaDoorW.PrintLast Go.Proofs.YtmbdjajmiggiaaaDoorW.PrintMore
set_option linter.unusedVariables false
set_option linter.unusedSimpArgs false
set_option maxRecDepth 100000
set_option maxHeartbeats 2000000 in
theorem within_ref (b : List Int) (m : Int) (hb : b.length = 64) (hm : 0 ≤ m) (hm2 : m ≤ 4294967296) (w : World) :
    Calls Tryd.prog 15 #[ar b, .int .i64 m] w fun e w' => e = .returned (.bool (wthn m b)) ∧ Below w.heap.size w w' := by
  have hbel : Below w.heap.size w (w.alloc (.cells (nums .i64 b).toArray 22)) := below_alloc (Below.refl _ _) _
  have HX : Aside0 (Blk (w.alloc (.cells (nums .i64 b).toArray 22)) w.heap.size b) := ⟨Blk.new w b⟩
  have HB := Aside0.mk hbel
  have HL := Aside0.mk hb
  have km : IntKind.i64.wrap (-m) = -m := IntWalk.i64_in _ (by omega)
  clear hbel hb
  unfold ar
  go_enter Tryd.func15, Tryd.ntmps15
  go_wp2_with fail
  go_loop [5] (fun v5 => ∃ k : Nat, v5 = .int .i64 k ∧ k ≤ 64 ∧ Aside0 (∀ j, j < k → -m ≤ b.getD j 0 ∧ b.getD j 0 ≤ m)) (fun v5 => 64 - (intOf v5).toNat)
  case atStart => exact ⟨0, rfl, by omega, ⟨fun j hj => by omega⟩⟩
  case round =>
    obtain ⟨k, rfl, hk, HA⟩ := hrel
    by_cases hlt : k < 64
    · have c1 := HX.out.cell k (by rw [HL.out]; exact hlt)
      obtain ⟨x, hx⟩ : ∃ x, b.getD k 0 = x := ⟨_, rfl⟩
      rw [hx] at c1
      have HX2 := Aside0.mk hx
      clear hx
      have d0 : decide ((k : Int) < 64) = true := decide_eq_true (by omega)
      by_cases h1 : x < -m
      · have d1 : decide (x < -m) = true := decide_eq_true h1
        have HF := Aside0.mk (wthn_no (m := m) (b := b) (k := k) (by rw [HL.out]; exact hlt) (by rw [HX2.out]; omega))
        go_wp2
        go_ret
        exact ⟨by rw [HF.out]; rfl, HB.out⟩
      · have d1 : decide (x < -m) = false := decide_eq_false h1
        by_cases h2 : m < x
        · have d2 : decide (m < x) = true := decide_eq_true h2
          have HF := Aside0.mk (wthn_no (m := m) (b := b) (k := k) (by rw [HL.out]; exact hlt) (by rw [HX2.out]; omega))
          go_wp2
          go_ret
          exact ⟨by rw [HF.out]; rfl, HB.out⟩
        · have d2 : decide (m < x) = false := decide_eq_false h2
          go_wp2
          go_round
          case measure => simp [intOf]; omega
          case rel =>
            refine ⟨k + 1, by go_num, by omega, ⟨fun j hj => ?_⟩⟩
            rcases Nat.lt_or_ge j k with h | h
            · exact HA.out j h
            · obtain rfl : j = k := by omega
              rw [HX2.out]; omega
    · have d0 : decide ((k : Int) < 64) = false := decide_eq_false (by omega)
      have HF := Aside0.mk (wthn_yes (m := m) (b := b) (fun j hj => HA.out j (by rw [HL.out] at hj; omega)))
      go_wp2
      go_ret
      exact ⟨by rw [HF.out]; rfl, HB.out⟩
theorem sm_most (n : Nat) (f : Nat → Int) (m : Int) (h : ∀ i, i < n → -m ≤ f i ∧ f i ≤ m) : -((n : Int) * m) ≤ sm n f ∧ sm n f ≤ (n : Int) * m := by
  induction n with
  | zero => simp [sm]
  | succ n ih =>
    have h1 := ih fun i hi => h i (by omega)
    have h2 := h n (by omega)
    have e : ((n + 1 : Nat) : Int) * m = (n : Int) * m + m := by push_cast; rw [Int.add_mul, Int.one_mul]
    have e2 : sm (n + 1) f = sm n f + f n := rfl
    omega
/-- Coefficient k, as far as l. -/
def cpart (b : List Int) (k l : Nat) : Int := sm l fun i => T (k / 8) (i / 8) * T (k % 8) (i % 8) * b.getD i 0
theorem cpart_all (b : List Int) (hb : b.length = 64) (k : Nat) (hk : k < 64) : cpart b k 64 = (fwdL b).getD k 0 := by
  rw [fwdL_eq, blk8_get _ _ hk, outF_eq _ _ _ (by omega) (by omega)]
  exact fwd_ref (fun i => b.getD i 0) k
theorem tt_bd {i r j c : Nat} (hi : i < 8) (hr : r < 8) (hj : j < 8) (hc : c < 8) : -100 ≤ T i r * T j c ∧ T i r * T j c ≤ 100 := by
  have h1 := T_bd i hi r hr
  have h2 := T_bd j hj c hc
  have h3 := ab_mul (t := T i r) (x := T j c) (m := 10) (by omega) (by omega)
  have h4 : ab (T i r) ≤ 10 := by unfold ab; split <;> omega
  omega
theorem cterm_bd (b : List Int) (k l : Nat) (hk : k < 64) (hl : l < 64) (h : -1048576 ≤ b.getD l 0 ∧ b.getD l 0 ≤ 1048576) :
    -104857600 ≤ T (k / 8) (l / 8) * T (k % 8) (l % 8) * b.getD l 0 ∧ T (k / 8) (l / 8) * T (k % 8) (l % 8) * b.getD l 0 ≤ 104857600 := by
  have h1 := tt_bd (i := k / 8) (r := l / 8) (j := k % 8) (c := l % 8) (by omega) (by omega) (by omega) (by omega)
  have h3 := ab_mul (t := T (k / 8) (l / 8) * T (k % 8) (l % 8)) (x := b.getD l 0) (m := 1048576) (by omega) (by omega)
  have h4 : ab (T (k / 8) (l / 8) * T (k % 8) (l % 8)) ≤ 100 := by unfold ab; split <;> omega
  omega
theorem set_same (l : List Int) (k : Nat) (x : Int) (h : l.getD k 0 = x) (hk : k < l.length) : l.set k x = l := by
  have e : l.getD k 0 = l[k] := by rw [List.getD_eq_getElem?_getD, List.getElem?_eq_getElem hk]; rfl
  rw [← h, e]; simp
theorem z64_get (k : Nat) : z64.getD k 0 = 0 := by
  show (List.replicate 64 (0 : Int)).getD k 0 = 0
  generalize 64 = n
  by_cases h : k < n
  · simp [List.getD, h]
  · simp [List.getD, h]
theorem tdiv8 (k : Nat) : (k : Int).tdiv 8 = ((k / 8 : Nat) : Int) := by rw [Int.tdiv_eq_ediv_of_nonneg (by omega)]; omega
theorem tmod8 (k : Nat) : (k : Int).tmod 8 = ((k % 8 : Nat) : Int) := by rw [Int.tmod_eq_emod_of_nonneg (by omega)]; omega
set_option maxHeartbeats 8000000 in
theorem coefs_ref (b : List Int) (hb : b.length = 64) (hin : wthn 1048576 b = true) (w : World) :
    Calls Tryd.prog 16 #[ar b] w fun e w' => e = .returned (ar (fwdL b)) ∧ Below w.heap.size w w' := by
  have HL := Aside0.mk hb
  have HBD := Aside0.mk (G08f.wthn_bd hin)
  clear hb hin
  unfold ar
  go_enter Tryd.func16, Tryd.ntmps16
  go_wp2_with (refine alloc_ar rfl rfl ?_)
  go_loopw [4] (fun v4 wr => ∃ k : Nat, v4 = .int .i64 k ∧ k ≤ 64 ∧ w.heap.size + 1 + 1 < wr.heap.size ∧ Aside0 (Below w.heap.size w wr) ∧ Aside0 (Blk wr w.heap.size b) ∧ Aside0 (Blk wr (w.heap.size + 1) z64) ∧ Aside0 (Blk wr (w.heap.size + 1 + 1) (mix (fwdL b) z64 k))) (fun v4 _ => 64 - (intOf v4).toNat)
  case atStart =>
    have q1 := Blk.new (w.alloc (.cells (nums .i64 b).toArray 22)) z64
    have q2 := Blk.new ((w.alloc (.cells (nums .i64 b).toArray 22)).alloc (.cells (nums .i64 z64).toArray 22)) z64
    refine ⟨0, rfl, by omega, by simp, ⟨below_alloc (below_alloc (below_alloc (Below.refl _ _) _) _) _⟩, ⟨blk_alloc (blk_alloc (Blk.new w b) _) _⟩, ⟨?_⟩, ⟨?_⟩⟩
    · have := blk_alloc q1 (.cells (nums .i64 z64).toArray 22)
      simpa [Blk] using this
    · rw [mix_zero]
      simpa [Blk] using q2
  case round =>
    obtain ⟨k, rfl, hk, hsz, HBr, HXr, HRr, HOr⟩ := hrel
    by_cases hlt : k < 64
    · have d0 : decide ((k : Int) < 64) = true := decide_eq_true (by omega)
      go_wp2_with fail
      go_loopw [5] (fun v5 wi => ∃ l : Nat, v5 = .int .i64 l ∧ l ≤ 64 ∧ w.heap.size + 1 + 1 < wi.heap.size ∧ Aside0 (Below w.heap.size w wi) ∧ Aside0 (Blk wi w.heap.size b) ∧ Aside0 (Blk wi (w.heap.size + 1) z64) ∧ Aside0 (Blk wi (w.heap.size + 1 + 1) ((mix (fwdL b) z64 k).set k (cpart b k l)))) (fun v5 _ => 64 - (intOf v5).toNat)
      case atStart =>
        refine ⟨0, rfl, by omega, hsz, HBr, HXr, HRr, ⟨?_⟩⟩
        rw [set_same _ _ _ (by rw [mix_get _ _ _ hlt (fwdL_len _), z64_get]; rfl) (by rw [mix_len _ _ _ (fwdL_len _)]; exact hlt)]
        exact HOr.out
      case round =>
        clear HBr HXr HRr HOr
        obtain ⟨l, rfl, hl, hszi, HBi, HXi, HRi, HOi⟩ := hrel
        by_cases hlt2 : l < 64
        · have d1 : decide ((l : Int) < 64) = true := decide_eq_true (by omega)
          have c1 := HXi.out.cell l (by rw [HL.out]; exact hlt2)
          have c2 := HOi.out.cell k (by rw [List.length_set, mix_len _ _ _ (fwdL_len _)]; exact hlt)
          rw [getD_set_self _ _ _ (by rw [mix_len _ _ _ (fwdL_len _)]; exact hlt)] at c2
          have f2 : wr.frozen? ⟨w.heap.size + 1 + 1, k, none⟩ = false := blk_frozen HOi.out k
          have hb := getD_all HBD.out l (by rw [HL.out]; exact hlt2)
          have ht := tt_bd (i := k / 8) (r := l / 8) (j := k % 8) (c := l % 8) (by omega) (by omega) (by omega) (by omega)
          have hc := cterm_bd b k l hlt hlt2 hb
          have hs := sm_most l (fun i => T (k / 8) (i / 8) * T (k % 8) (i % 8) * b.getD i 0) 104857600 (fun i hi => cterm_bd b k i hlt (by omega) (getD_all HBD.out i (by rw [HL.out]; omega)))
          have e2 : cpart b k (l + 1) = cpart b k l + T (k / 8) (l / 8) * T (k % 8) (l % 8) * b.getD l 0 := rfl
          rw [show sm l (fun i => T (k / 8) (i / 8) * T (k % 8) (i % 8) * b.getD i 0) = cpart b k l from rfl] at hs
          have HT1 := Aside0.mk (t_call (k / 8) (l / 8) (by omega) (by omega))
          have HT2 := Aside0.mk (t_call (k % 8) (l % 8) (by omega) (by omega))
          have HSS : Aside0 (((mix (fwdL b) z64 k).set k (cpart b k l)).set k (cpart b k (l + 1)) = (mix (fwdL b) z64 k).set k (cpart b k (l + 1))) := ⟨List.set_set ..⟩
          generalize hV1 : cpart b k (l + 1) = v1 at e2 HSS
          have HV1 := Aside0.mk hV1
          clear hV1
          generalize hL0 : (mix (fwdL b) z64 k).set k (cpart b k l) = L0 at HOi HSS
          have HK2 : Aside0 (∀ W, Blk W (w.heap.size + 1 + 1) L0 → W.cell? ⟨w.heap.size + 1 + 1, k, none⟩ = some (.int .i64 (cpart b k l)) ∧ W.frozen? ⟨w.heap.size + 1 + 1, k, none⟩ = false) := ⟨fun W hW => by
            refine ⟨?_, blk_frozen hW k⟩
            rw [hW.cell k (by rw [← hL0, List.length_set, mix_len _ _ _ (fwdL_len _)]; exact hlt), ← hL0, getD_set_self _ _ _ (by rw [mix_len _ _ _ (fwdL_len _)]; exact hlt)]⟩
          have HK1 : Aside0 (∀ W, Blk W w.heap.size b → W.cell? ⟨w.heap.size, l, none⟩ = some (.int .i64 (b.getD l 0))) := ⟨fun W hW => hW.cell l (by rw [HL.out]; exact hlt2)⟩
          clear hL0
          generalize cpart b k l = v0 at c2 hs e2 HK2
          generalize b.getD l 0 = x at c1 hb hc e2 HK1
          generalize T (k / 8) (l / 8) = t1 at ht hc e2 HT1
          generalize T (k % 8) (l % 8) = t2 at ht hc e2 HT2
          have w1 : IntKind.i64.wrap ((k / 8 : Nat) : Int) = ((k / 8 : Nat) : Int) := IntWalk.i64_in _ (by omega)
          have w2 : IntKind.i64.wrap ((l / 8 : Nat) : Int) = ((l / 8 : Nat) : Int) := IntWalk.i64_in _ (by omega)
          have a1 := tdiv8 k
          have a2 := tdiv8 l
          have a3 := tmod8 k
          have a4 := tmod8 l
          generalize k / 8 = k8 at a1 HT1 w1
          generalize l / 8 = l8 at a2 HT1 w2
          generalize k % 8 = kr at a3 HT2
          generalize l % 8 = lr at a4 HT2
          have b1 : (0 : Int) ≤ (k : Int) := by omega
          have b2 : (k : Int) < 64 := by omega
          have b3 : (0 : Int) ≤ (l : Int) := by omega
          have b4 : (l : Int) < 64 := by omega
          have k1 : IntKind.i64.wrap (t1 * t2) = t1 * t2 := IntWalk.i64_in _ (by omega)
          have k2 : IntKind.i64.wrap (t1 * t2 * x) = t1 * t2 * x := IntWalk.i64_in _ (by omega)
          have k3 : IntKind.i64.wrap (v0 + t1 * t2 * x) = v1 := by rw [← e2]; exact IntWalk.i64_in _ (by omega)
          clear e2 hs hb ht hc
          go_wp2_with fail
          refine H08.region_held (fun W => W.cell? ⟨w.heap.size, l, none⟩ = some (.int .i64 x) ∧ W.cell? ⟨w.heap.size + 1 + 1, k, none⟩ = some (.int .i64 v0)) 21 (by kernel_rfl) ?_
          refine H08.held_take (i := 0) (v := ?v0) (some 14) rfl rfl (by kernel_rfl) (by kernel_rfl) (by kernel_rfl) (by kernel_rfl) (fun _ _ _ h => h) (Or.inl ⟨by rfl, ?y0⟩) (⟨c1, c2⟩) ?r0
          case y0 => (intro W hW; obtain ⟨hW0, hW1⟩ := hW; go_simp <;> with_reducible rfl)
          try simp only [Act.put, List.setIfInBounds_toArray, List.set_cons_zero, List.set_cons_succ]
          refine H08.held_take (i := 1) (v := ?v1) (some 15) rfl rfl (by kernel_rfl) (by kernel_rfl) (by kernel_rfl) (by kernel_rfl) (fun _ _ _ h => h) (Or.inl ⟨by rfl, ?y1⟩) (⟨c1, c2⟩) ?r1
          case y1 => (intro W hW; obtain ⟨hW0, hW1⟩ := hW; go_simp <;> with_reducible rfl)
          try simp only [Act.put, List.setIfInBounds_toArray, List.set_cons_zero, List.set_cons_succ]
          refine H08.held_take (i := 2) (v := ?v2) (some 16) rfl rfl (by kernel_rfl) (by kernel_rfl) (by kernel_rfl) (by kernel_rfl) (fun _ _ _ h => h) (Or.inl ⟨by rfl, ?y2⟩) (⟨c1, c2⟩) ?r2
          case y2 => (intro W hW; obtain ⟨hW0, hW1⟩ := hW; go_simp <;> with_reducible rfl)
          try simp only [Act.put, List.setIfInBounds_toArray, List.set_cons_zero, List.set_cons_succ]
          refine H08.held_take (i := 3) (v := ?v3) (some 17) rfl rfl (by kernel_rfl) (by kernel_rfl) (by kernel_rfl) (by kernel_rfl) (fun _ _ _ h => h) (Or.inl ⟨by rfl, ?y3⟩) (⟨c1, c2⟩) ?r3
          case y3 => (intro W hW; obtain ⟨hW0, hW1⟩ := hW; go_simp <;> with_reducible rfl)
          try simp only [Act.put, List.setIfInBounds_toArray, List.set_cons_zero, List.set_cons_succ]
          refine H08.held_take (i := 4) (v := ?v4) (some 18) rfl rfl (by kernel_rfl) (by kernel_rfl) (by kernel_rfl) (by kernel_rfl) (fun _ _ _ h => h) (Or.inl ⟨by rfl, ?y4⟩) (⟨c1, c2⟩) ?r4
          case y4 => (intro W hW; obtain ⟨hW0, hW1⟩ := hW; go_simp <;> with_reducible rfl)
          try simp only [Act.put, List.setIfInBounds_toArray, List.set_cons_zero, List.set_cons_succ]
          refine H08.held_take (i := 5) (v := ?v5) (some 19) rfl rfl (by kernel_rfl) (by kernel_rfl) (by kernel_rfl) (by kernel_rfl) (fun _ _ _ h => h) (Or.inl ⟨by rfl, ?y5⟩) (⟨c1, c2⟩) ?r5
          case y5 => (intro W hW; obtain ⟨hW0, hW1⟩ := hW; go_simp <;> with_reducible rfl)
          try simp only [Act.put, List.setIfInBounds_toArray, List.set_cons_zero, List.set_cons_succ]
          refine H08.held_take (i := 6) (v := ?v6) (some 20) rfl rfl (by kernel_rfl) (by kernel_rfl) (by kernel_rfl) (by kernel_rfl) (fun _ _ _ h => h) (Or.inl ⟨by rfl, ?y6⟩) (⟨c1, c2⟩) ?r6
          case y6 => (intro W hW; obtain ⟨hW0, hW1⟩ := hW; go_simp <;> with_reducible rfl)
          try simp only [Act.put, List.setIfInBounds_toArray, List.set_cons_zero, List.set_cons_succ]
          refine H08.held_take (i := 7) (v := ?v7) (some 21) rfl rfl (by kernel_rfl) (by kernel_rfl) (by kernel_rfl) (by kernel_rfl) (fun _ _ _ h => h) (Or.inl ⟨by rfl, ?y7⟩) (⟨c1, c2⟩) ?r7
          case y7 => (intro W hW; obtain ⟨hW0, hW1⟩ := hW; go_simp <;> with_reducible rfl)
          try simp only [Act.put, List.setIfInBounds_toArray, List.set_cons_zero, List.set_cons_succ]
          refine H08.held_take (i := 9) (v := ?v9) (some 23) rfl rfl (by kernel_rfl) (by kernel_rfl) (by kernel_rfl) (by kernel_rfl) (fun _ _ _ h => h) (Or.inl ⟨by rfl, ?y9⟩) (⟨c1, c2⟩) ?r9
          case y9 => (intro W hW; obtain ⟨hW0, hW1⟩ := hW; go_simp <;> with_reducible rfl)
          try simp only [Act.put, List.setIfInBounds_toArray, List.set_cons_zero, List.set_cons_succ]
          refine H08.held_take (i := 10) (v := ?v10) (some 24) rfl rfl (by kernel_rfl) (by kernel_rfl) (by kernel_rfl) (by kernel_rfl) (fun _ _ _ h => h) (Or.inl ⟨by rfl, ?y10⟩) (⟨c1, c2⟩) ?r10
          case y10 => (intro W hW; obtain ⟨hW0, hW1⟩ := hW; go_simp <;> with_reducible rfl)
          try simp only [Act.put, List.setIfInBounds_toArray, List.set_cons_zero, List.set_cons_succ]
          refine H08.held_take (i := 11) (v := ?v11) (some 25) rfl rfl (by kernel_rfl) (by kernel_rfl) (by kernel_rfl) (by kernel_rfl) (fun _ _ _ h => h) (Or.inl ⟨by rfl, ?y11⟩) (⟨c1, c2⟩) ?r11
          case y11 => (intro W hW; obtain ⟨hW0, hW1⟩ := hW; go_simp <;> with_reducible rfl)
          try simp only [Act.put, List.setIfInBounds_toArray, List.set_cons_zero, List.set_cons_succ]
          refine H08.held_take (i := 12) (v := ?v12) (some 26) rfl rfl (by kernel_rfl) (by kernel_rfl) (by kernel_rfl) (by kernel_rfl) (fun _ _ _ h => h) (Or.inl ⟨by rfl, ?y12⟩) (⟨c1, c2⟩) ?r12
          case y12 => (intro W hW; obtain ⟨hW0, hW1⟩ := hW; go_simp <;> with_reducible rfl)
          try simp only [Act.put, List.setIfInBounds_toArray, List.set_cons_zero, List.set_cons_succ]
          refine H08.held_take (i := 15) (v := ?v15) (some 29) rfl rfl (by kernel_rfl) (by kernel_rfl) (by kernel_rfl) (by kernel_rfl) (fun _ _ _ h => h) (Or.inl ⟨by rfl, ?y15⟩) (⟨c1, c2⟩) ?r15
          case y15 => (intro W hW; obtain ⟨hW0, hW1⟩ := hW; go_simp <;> with_reducible rfl)
          try simp only [Act.put, List.setIfInBounds_toArray, List.set_cons_zero, List.set_cons_succ]
          refine H08.held_take (i := 16) (v := ?v16) (some 30) rfl rfl (by kernel_rfl) (by kernel_rfl) (by kernel_rfl) (by kernel_rfl) (fun _ _ _ h => h) (Or.inl ⟨by rfl, ?y16⟩) (⟨c1, c2⟩) ?r16
          case y16 => (intro W hW; obtain ⟨hW0, hW1⟩ := hW; go_simp <;> with_reducible rfl)
          try simp only [Act.put, List.setIfInBounds_toArray, List.set_cons_zero, List.set_cons_succ]
          refine H08.held_take (i := 17) (v := ?v17) (some 31) rfl rfl (by kernel_rfl) (by kernel_rfl) (by kernel_rfl) (by kernel_rfl) (fun _ _ _ h => h) (Or.inl ⟨by rfl, ?y17⟩) (⟨c1, c2⟩) ?r17
          case y17 => (intro W hW; obtain ⟨hW0, hW1⟩ := hW; go_simp <;> with_reducible rfl)
          try simp only [Act.put, List.setIfInBounds_toArray, List.set_cons_zero, List.set_cons_succ]
          refine H08.held_one (j := 8) (by kernel_rfl) rfl (fun K hK => ?_)
          refine goes_ (N := some 22) (f := 37) Tryd.func37 (by kernel_rfl) rfl #[.int .i64 k8, .int .i64 l8] (by rfl) rfl rfl (by simp only [List.map_toArray, List.map_cons, List.map_nil]; rfl) ?_
          refine (HT1.out _).mono ?_
          rintro e w3 ⟨rfl, hb3⟩
          refine ⟨_, rfl, ?_⟩
          have HX3 := Aside0.mk (Blk.below (w := wr.drew) HXi.out hb3)
          have HR3 := Aside0.mk (Blk.below (w := wr.drew) HRi.out hb3)
          have HO3 := Aside0.mk (Blk.below (w := wr.drew) HOi.out hb3)
          have HB3 := Aside0.mk (below_step HBi.out.drew hb3)
          have c13 := HK1.out _ HX3.out
          have c23 := (HK2.out _ HO3.out).1
          have f23 := (HK2.out _ HO3.out).2
          clear hb3
          refine hK.out _ _ (fun _ => ⟨c13, c23⟩) ?_
          clear hK
          try simp only [Act.put, List.setIfInBounds_toArray, List.set_cons_zero, List.set_cons_succ]
          refine H08.held_one (j := 13) (by kernel_rfl) rfl (fun K hK => ?_)
          refine goes_ (N := some 27) (f := 37) Tryd.func37 (by kernel_rfl) rfl #[.int .i64 kr, .int .i64 lr] (by rfl) rfl rfl (by simp only [List.map_toArray, List.map_cons, List.map_nil]; rfl) ?_
          refine (HT2.out _).mono ?_
          rintro e w5 ⟨rfl, hb5⟩
          refine ⟨_, rfl, ?_⟩
          have HX5 := Aside0.mk (HX3.out.below hb5)
          have HR5 := Aside0.mk (HR3.out.below hb5)
          have HO5 := Aside0.mk (HO3.out.below hb5)
          have HB5 := Aside0.mk (below_step HB3.out hb5)
          have c15 := HK1.out _ HX5.out
          have c25 := (HK2.out _ HO5.out).1
          have f25 := (HK2.out _ HO5.out).2
          clear hb5
          refine hK.out _ _ (fun _ => ⟨c15, c25⟩) ?_
          clear hK
          try simp only [Act.put, List.setIfInBounds_toArray, List.set_cons_zero, List.set_cons_succ]
          refine H08.held_take (i := 14) (v := ?v14) (some 28) rfl rfl (by kernel_rfl) (by kernel_rfl) (by kernel_rfl) (by kernel_rfl) (fun _ _ _ h => h) (Or.inl ⟨by rfl, ?y14⟩) (⟨c15, c25⟩) ?r14
          case y14 => (intro W hW; obtain ⟨hW0, hW1⟩ := hW; go_simp <;> with_reducible rfl)
          try simp only [Act.put, List.setIfInBounds_toArray, List.set_cons_zero, List.set_cons_succ]
          refine H08.held_take (i := 18) (v := ?v18) (some 32) rfl rfl (by kernel_rfl) (by kernel_rfl) (by kernel_rfl) (by kernel_rfl) (fun _ _ _ h => h) (Or.inl ⟨by rfl, ?y18⟩) (⟨c15, c25⟩) ?r18
          case y18 => (intro W hW; obtain ⟨hW0, hW1⟩ := hW; go_simp <;> with_reducible rfl)
          try simp only [Act.put, List.setIfInBounds_toArray, List.set_cons_zero, List.set_cons_succ]
          refine H08.held_take (i := 19) (v := ?v19) (some 33) rfl rfl (by kernel_rfl) (by kernel_rfl) (by kernel_rfl) (by kernel_rfl) (fun _ _ _ h => h) (Or.inl ⟨by rfl, ?y19⟩) (⟨c15, c25⟩) ?r19
          case y19 => (intro W hW; obtain ⟨hW0, hW1⟩ := hW; go_simp <;> with_reducible rfl)
          try simp only [Act.put, List.setIfInBounds_toArray, List.set_cons_zero, List.set_cons_succ]
          refine H08.held_take (i := 20) (v := ?v20) (some 34) rfl rfl (by kernel_rfl) (by kernel_rfl) (by kernel_rfl) (by kernel_rfl) (fun _ _ _ h => h) (Or.inl ⟨by rfl, ?y20⟩) (⟨c15, c25⟩) ?r20
          case y20 => (intro W hW; obtain ⟨hW0, hW1⟩ := hW; go_simp <;> with_reducible rfl)
          try simp only [Act.put, List.setIfInBounds_toArray, List.set_cons_zero, List.set_cons_succ]
          refine H08.held_one (j := 21) (by kernel_rfl) rfl (fun K hK => ?_)
          go_simp
          refine hK.out _ _ (fun h => absurd rfl h) ?_
          clear hK
          try simp only [Act.put, List.setIfInBounds_toArray, List.set_cons_zero, List.set_cons_succ]
          refine H08.held_done (by kernel_rfl) ?_ _
          go_wp2_with fail
          go_roundw
          case measure => simp [intOf]; omega
          case rel =>
            have hO := HO5.out.set k v1
            rw [HSS.out] at hO
            exact ⟨l + 1, by go_num, by omega, by have := HO5.out.lt; simpa using this, ⟨below_set HB5.out (by omega)⟩, ⟨HX5.out.far (by omega) k _⟩, ⟨HR5.out.far (by omega) k _⟩, ⟨by rw [HV1.out]; exact hO⟩⟩
        · obtain rfl : l = 64 := by omega
          have d1 : decide (((64 : Nat) : Int) < 64) = false := by decide
          have HO2 : Aside0 (Blk wr (w.heap.size + 1 + 1) (mix (fwdL b) z64 (k + 1))) := ⟨by
            rw [← mix_set (fwdL b) z64 k hlt (fwdL_len _), ← cpart_all b HL.out k hlt]; exact HOi.out⟩
          go_wp2_with fail
          go_roundw
          case measure => simp [intOf]; omega
          case rel => exact ⟨k + 1, by go_num, by omega, hszi, HBi, HXi, HRi, HO2⟩
    · obtain rfl : k = 64 := by omega
      have d0 : decide (((64 : Nat) : Int) < 64) = false := by decide
      have HO2 : Aside0 (Blk wr (w.heap.size + 1 + 1) (fwdL b)) := ⟨by
        have := HOr.out
        rwa [mix_all _ _ _ (by rw [fwdL_len]; omega) (by decide)] at this⟩
      go_wp2_with (first | (refine load_ar rfl _ rfl _ rfl (fwdL b) (fwdL_len _) HO2.out ?_) | (refine store_ar rfl _ _ rfl _ rfl z64 (fwdL b) rfl HRr.out rfl (fwdL_len _) ?_))
      refine bodyPost_ret (results_cell_row rfl _ _ (w.heap.size + 1) 22 (nums .i64 (fwdL b)).toArray (0, 0) _ rfl (HRr.out.setRow _) Tryd.underlying22 rfl (info22.trans (by simp [nums_length, fwdL_len]))) rfl ?_
      exact ⟨rfl, G08.below_setRow HBr.out (by omega) _⟩
end Go.Proofs.YtmbdjajmiggiaaaDoor.U08
