/- Several texts of this claim, one behind the other. -/
import Derived.OrdersHeld
import Derived.Deep.RegionHeld
import Derived.Test.YtmbdjajmiggiaaaDoorT08
/- A region that draws its order, whose last operation (number n0: it waits for all the rest) stores into a cell that the region loads:
   the prover's condition S is asked behind every operation but that one (the kit's 'wpAnyH' asks it behind that one too). -/
namespace Go.Proofs.YtmbdjajmiggiaaaDoor.H08
open Go
set_option linter.unusedVariables false
section
variable {P : Program} {ops : Array Oper} {Q : Exit → Act → World → Prop} {md : Region.Mode} {S : World → Prop} {n0 : Nat}
def held (P : Program) (md : Region.Mode) (ops : Array Oper) (Q : Exit → Act → World → Prop) (S : World → Prop) (n0 : Nat) : Nat → Array Bool → Act → World → Prop
  | 0, listed, a, w => wpAny P md ops Q 0 listed a w
  | fuel + 1, listed, a, w =>
    (Region.ready md ops listed = [] → Q .normal a w) ∧
    ∀ i ∈ Region.ready md ops listed, wpOp P ops Q i (fun a' w' => (i ≠ n0 → S w') ∧ held P md ops Q S n0 fuel (listed.setIfInBounds i true) a' w') a w
theorem held_any : ∀ (fuel : Nat) (listed : Array Bool) (a : Act) (w : World), held P md ops Q S n0 fuel listed a w → wpAny P md ops Q fuel listed a w
  | 0, _, _, _, h => h
  | fuel + 1, _, _, _, h => ⟨h.1, fun i hi => wpOp_mono (fun a' w' h' => held_any fuel _ a' w' h'.2) (h.2 i hi)⟩
/-- The last operation waits for i (or n0 is no operation: then S is asked behind every operation). -/
def waits (md : Region.Mode) (ops : Array Oper) (n0 i : Nat) : Bool :=
  match ops[n0]? with
  | some o => o.after.any fun e => Region.binds md e && e.on == i
  | none => true
theorem not_last {i j : Nat} {listed : Array Bool} (hw : waits md ops n0 i = true) (hi : i ∈ Region.ready md ops listed) (hj : j ∈ Region.ready md ops listed) : j ≠ n0 := by
  rintro rfl
  obtain ⟨_, o, ho, hall⟩ := mem_ready.1 hj
  unfold waits at hw
  rw [ho] at hw
  simp only at hw
  obtain ⟨e, he, hb⟩ := Array.any_eq_true'.1 hw
  simp only [Bool.and_eq_true, beq_iff_eq] at hb
  have h1 := hall e he hb.1
  rw [hb.2] at h1
  have h0 := (mem_ready.1 hi).1
  rcases Nat.lt_or_ge i listed.size with h' | h'
  · simp [h'] at h0 h1; rw [h0] at h1; cases h1
  · simp [Array.getElem?_eq_none h'] at h1
theorem held_first {i : Nat} {oi : Oper} {v : Value} (hi : ops[i]? = some oi) (hsel : ∀ (j : Nat) (o : Oper) cs b, ops[j]? = some o → o.op ≠ .select cs b)
    (hQ : ∀ c a w, Q (.panic c) (a.put oi.dst v) w → Q (.panic c) a w) (hn : waits md ops n0 i = true) :
    ∀ (fuel : Nat) (listed : Array Bool) (a : Act) (w : World),
      (∀ j oj, ops[j]? = some oj → j ≠ i → listed.getD j true = false → (∀ e ∈ oj.after, Region.binds md e = true → e.on ≠ i) → oi.apart ops oj = true) →
      i ∈ Region.ready md ops listed → YieldsIf P ops S oi v a → S w →
      held P md ops Q S n0 fuel (listed.setIfInBounds i true) (a.put oi.dst v) w → held P md ops Q S n0 (fuel + 1) listed a w := by
  intro fuel
  induction fuel with
  | zero =>
    intro listed a w _ hr hy hS H
    refine ⟨fun h => (by rw [h] at hr; cases hr), fun j hj => ?_⟩
    by_cases hji : j = i
    · subst hji; exact hy.wpOp hi hS ⟨fun _ => hS, H⟩
    · have := ready_mono hj hji
      rw [H.1] at this
      cases this
  | succ fuel ih =>
    intro listed a w hfree hr hy hS H
    refine ⟨fun h => (by rw [h] at hr; cases hr), fun j hj => ?_⟩
    by_cases hji : j = i
    · subst hji; exact hy.wpOp hi hS ⟨fun _ => hS, H⟩
    · have hjn := not_last hn hr hj
      have h1 := H.2 j (ready_mono hj hji)
      obtain ⟨hjun, oj, hoj, hall⟩ := mem_ready.1 hj
      have hnot : ∀ e ∈ oj.after, Region.binds md e = true → e.on ≠ i := fun e he hb heq => by
        have h1 := hall e he hb
        have h0 := (mem_ready.1 hr).1
        rw [heq] at h1
        rcases Nat.lt_or_ge i listed.size with h' | h'
        · simp [h'] at h0 h1; rw [h0] at h1; cases h1
        · simp [Array.getElem?_eq_none h'] at h1
      have h2 := wpOp_putIf hoj (hfree j oj hoj hji hjun hnot) (fun cs b => hsel i oi cs b hi) (fun cs b => hsel j oj cs b hoj) hQ hy h1
      refine wpOp_mono (fun a' w' h3 => ⟨fun _ => h3.2.1 hjn, ih (listed.setIfInBounds j true) a' w' (fun k ok hk hki hun hno => hfree k ok hk hki ?_ hno) (ready_mono hr (Ne.symm hji)) h3.1 (h3.2.1 hjn) ?_⟩) h2
      · by_cases hjk : j = k
        · subst hjk; exact hjun
        · rw [getD_set_ne true hjk] at hun; exact hun
      · rw [Array.setIfInBounds_comm _ _ hji]
        exact h3.2.2
theorem held_take {i : Nat} {oi : Oper} {v : Value} {fuel : Nat} {listed : Array Bool} {a : Act} {w : World} (d : Option Tmp) (hi : ops[i]? = some oi) (hd : oi.dst = d)
    (hs : Region.noSelect ops = true) (hf : Region.free md ops listed i = true) (hr : (Region.ready md ops listed).contains i = true) (hn : waits md ops n0 i = true)
    (hQ : ∀ c a w, Q (.panic c) (a.put d v) w → Q (.panic c) a w) (hy : YieldsIf P ops S oi v a) (hS : S w)
    (h : held P md ops Q S n0 fuel (listed.setIfInBounds i true) (a.put d v) w) : held P md ops Q S n0 (fuel + 1) listed a w := by
  subst hd
  exact held_first hi (Region.noSelect_spec hs) hQ hn fuel listed a w (Region.free_spec hi hf) (by simpa using hr) hy hS h
/-- One operation alone may come up. -/
theorem held_one {j : Nat} {o : Oper} {fuel : Nat} {listed : Array Bool} {a : Act} {w : World} (hr : Region.ready md ops listed = [j]) (ho : ops[j]? = some o)
    (h : ∀ K' : Act → World → Prop, Shut (∀ a w, (j ≠ n0 → S w) → held P md ops Q S n0 fuel (listed.setIfInBounds j true) a w → K' a w) → if Region.wanted o (yielded ops a.tmps) = true then Oper.wp P o a w K' Q else K' (a.put o.dst undef) w) :
    held P md ops Q S n0 (fuel + 1) listed a w := by
  refine ⟨fun h0 => (by rw [hr] at h0; cases h0), fun i hi => ?_⟩
  rw [hr] at hi
  obtain rfl : i = j := by simpa using hi
  exact wpOp_step ho fun K' hK => h K' fun a w hS hW => hK a w ⟨hS, hW⟩
theorem held_done {listed : Array Bool} {a : Act} {w : World} (hr : Region.ready md ops listed = []) (h : Q .normal a w) : ∀ fuel, held P md ops Q S n0 fuel listed a w
  | 0 => ⟨hr, h⟩
  | _ + 1 => ⟨fun _ => h, by rw [hr]; simp⟩
/-- The beginning. -/
theorem region_held {id : Nat} {a : Act} {w : World} (S : World → Prop) (n0 : Nat) (hm : P.follows .mixedOrders = true) 
    (h : held P .any ops Q S n0 ops.size (Array.replicate ops.size false) a w.drew) : (Code.region id ops true).wp P Q a w :=
  wp_region_any hm (held_any _ _ _ _ h)
end
end Go.Proofs.YtmbdjajmiggiaaaDoor.H08
/- The reference's transforms (chapter 08): Within 15, Coefs 16, Block 17. -/
namespace Go.Proofs.YtmbdjajmiggiaaaDoor.U08
open Go.Proofs.YtmbdjajmiggiaaaDoor.K08 Go.Proofs.YtmbdjajmiggiaaaDoor.G08 Go.Proofs.YtmbdjajmiggiaaaDoor.G08f Go.Proofs.YtmbdjajmiggiaaaDoor.Z08 Go.Proofs.YtmbdjajmiggiaaaDoor.O08 Go.Proofs.YtmbdjajmiggiaaaDoor.L08 Go.Proofs.YtmbdjajmiggiaaaDoor.W08 Go.Proofs.YtmbdjajmiggiaaaDoor.P08 Go.Proofs.YtmbdjajmiggiaaaDoor.V08 Go.Proofs.YtmbdjajmiggiaaaDoor.V08l Go.Proofs.YtmbdjajmiggiaaaDoor.T08
open Go.RowKit Go.Proofs.YtmbdjajmiggiaaaDoorW.PrintWords Go.Proofs.YtmbdjajmiggiaaaDoorW.PrintLast Go.Proofs.YtmbdjajmiggiaaaDoorW.PrintMore
set_option linter.unusedVariables false
set_option linter.unusedSimpArgs false
set_option maxRecDepth 100000
set_option maxHeartbeats 2000000 in
theorem within_ref (b : List Int) (m : Int) (hb : b.length = 64) (hm : 0 ≤ m) (hm2 : m ≤ 4294967296) (w : World) :
    Calls Tryd.prog 15 #[ar b, .int .i64 m] w fun e w' => e = .returned (.bool (wthn m b)) ∧ Below w.heap.size w w' := by
  have hbel : Below w.heap.size w (w.alloc (.cells (nums .i64 b).toArray 22)) := below_alloc (Below.refl _ _) _
  have HX : Aside0 (Blk (w.alloc (.cells (nums .i64 b).toArray 22)) w.heap.size b) := ⟨Blk.new w b⟩
  have HB := Aside0.mk hbel
  have HL := Aside0.mk hb
  have km : IntKind.i64.wrap (-m) = -m := IntWalk.i64_in _ (by omega)
  clear hbel hb
  unfold ar
  go_enter Tryd.func15, Tryd.ntmps15
  go_wp2_with fail
  go_loop [5] (fun v5 => ∃ k : Nat, v5 = .int .i64 k ∧ k ≤ 64 ∧ Aside0 (∀ j, j < k → -m ≤ b.getD j 0 ∧ b.getD j 0 ≤ m)) (fun v5 => 64 - (intOf v5).toNat)
  case atStart => exact ⟨0, rfl, by omega, ⟨fun j hj => by omega⟩⟩
  case round =>
    obtain ⟨k, rfl, hk, HA⟩ := hrel
    by_cases hlt : k < 64
    · have c1 := HX.out.cell k (by rw [HL.out]; exact hlt)
      obtain ⟨x, hx⟩ : ∃ x, b.getD k 0 = x := ⟨_, rfl⟩
      rw [hx] at c1
      have HX2 := Aside0.mk hx
      clear hx
      have d0 : decide ((k : Int) < 64) = true := decide_eq_true (by omega)
      by_cases h1 : x < -m
      · have d1 : decide (x < -m) = true := decide_eq_true h1
        have HF := Aside0.mk (wthn_no (m := m) (b := b) (k := k) (by rw [HL.out]; exact hlt) (by rw [HX2.out]; omega))
        go_wp2
        go_ret
        exact ⟨by rw [HF.out]; rfl, HB.out⟩
      · have d1 : decide (x < -m) = false := decide_eq_false h1
        by_cases h2 : m < x
        · have d2 : decide (m < x) = true := decide_eq_true h2
          have HF := Aside0.mk (wthn_no (m := m) (b := b) (k := k) (by rw [HL.out]; exact hlt) (by rw [HX2.out]; omega))
          go_wp2
          go_ret
          exact ⟨by rw [HF.out]; rfl, HB.out⟩
        · have d2 : decide (m < x) = false := decide_eq_false h2
          go_wp2
          go_round
          case measure => simp [intOf]; omega
          case rel =>
            refine ⟨k + 1, by go_num, by omega, ⟨fun j hj => ?_⟩⟩
            rcases Nat.lt_or_ge j k with h | h
            · exact HA.out j h
            · obtain rfl : j = k := by omega
              rw [HX2.out]; omega
    · have d0 : decide ((k : Int) < 64) = false := decide_eq_false (by omega)
      have HF := Aside0.mk (wthn_yes (m := m) (b := b) (fun j hj => HA.out j (by rw [HL.out] at hj; omega)))
      go_wp2
      go_ret
      exact ⟨by rw [HF.out]; rfl, HB.out⟩
theorem sm_most (n : Nat) (f : Nat → Int) (m : Int) (h : ∀ i, i < n → -m ≤ f i ∧ f i ≤ m) : -((n : Int) * m) ≤ sm n f ∧ sm n f ≤ (n : Int) * m := by
  induction n with
  | zero => simp [sm]
  | succ n ih =>
    have h1 := ih fun i hi => h i (by omega)
    have h2 := h n (by omega)
    have e : ((n + 1 : Nat) : Int) * m = (n : Int) * m + m := by push_cast; rw [Int.add_mul, Int.one_mul]
    have e2 : sm (n + 1) f = sm n f + f n := rfl
    omega
/-- Coefficient k, as far as l. -/
def cpart (b : List Int) (k l : Nat) : Int := sm l fun i => T (k / 8) (i / 8) * T (k % 8) (i % 8) * b.getD i 0
theorem cpart_all (b : List Int) (hb : b.length = 64) (k : Nat) (hk : k < 64) : cpart b k 64 = (fwdL b).getD k 0 := by
  rw [fwdL_eq, blk8_get _ _ hk, outF_eq _ _ _ (by omega) (by omega)]
  exact fwd_ref (fun i => b.getD i 0) k
theorem tt_bd {i r j c : Nat} (hi : i < 8) (hr : r < 8) (hj : j < 8) (hc : c < 8) : -100 ≤ T i r * T j c ∧ T i r * T j c ≤ 100 := by
  have h1 := T_bd i hi r hr
  have h2 := T_bd j hj c hc
  have h3 := ab_mul (t := T i r) (x := T j c) (m := 10) (by omega) (by omega)
  have h4 : ab (T i r) ≤ 10 := by unfold ab; split <;> omega
  omega
theorem cterm_bd (b : List Int) (k l : Nat) (hk : k < 64) (hl : l < 64) (h : -1048576 ≤ b.getD l 0 ∧ b.getD l 0 ≤ 1048576) :
    -104857600 ≤ T (k / 8) (l / 8) * T (k % 8) (l % 8) * b.getD l 0 ∧ T (k / 8) (l / 8) * T (k % 8) (l % 8) * b.getD l 0 ≤ 104857600 := by
  have h1 := tt_bd (i := k / 8) (r := l / 8) (j := k % 8) (c := l % 8) (by omega) (by omega) (by omega) (by omega)
  have h3 := ab_mul (t := T (k / 8) (l / 8) * T (k % 8) (l % 8)) (x := b.getD l 0) (m := 1048576) (by omega) (by omega)
  have h4 : ab (T (k / 8) (l / 8) * T (k % 8) (l % 8)) ≤ 100 := by unfold ab; split <;> omega
  omega
theorem set_same (l : List Int) (k : Nat) (x : Int) (h : l.getD k 0 = x) (hk : k < l.length) : l.set k x = l := by
  have e : l.getD k 0 = l[k] := by rw [List.getD_eq_getElem?_getD, List.getElem?_eq_getElem hk]; rfl
  rw [← h, e]; simp
theorem z64_get (k : Nat) : z64.getD k 0 = 0 := by
  show (List.replicate 64 (0 : Int)).getD k 0 = 0
  generalize 64 = n
  by_cases h : k < n
  · simp [List.getD, h]
  · simp [List.getD, h]
theorem tdiv8 (k : Nat) : (k : Int).tdiv 8 = ((k / 8 : Nat) : Int) := by rw [Int.tdiv_eq_ediv_of_nonneg (by omega)]; omega
theorem tmod8 (k : Nat) : (k : Int).tmod 8 = ((k % 8 : Nat) : Int) := by rw [Int.tmod_eq_emod_of_nonneg (by omega)]; omega
set_option maxHeartbeats 8000000 in
theorem coefs_ref (b : List Int) (hb : b.length = 64) (hin : wthn 1048576 b = true) (w : World) :
    Calls Tryd.prog 16 #[ar b] w fun e w' => e = .returned (ar (fwdL b)) ∧ Below w.heap.size w w' := by
  have HL := Aside0.mk hb
  have HBD := Aside0.mk (G08f.wthn_bd hin)
  clear hb hin
  unfold ar
  go_enter Tryd.func16, Tryd.ntmps16
  go_wp2_with (refine alloc_ar rfl rfl ?_)
  go_loopw [4] (fun v4 wr => ∃ k : Nat, v4 = .int .i64 k ∧ k ≤ 64 ∧ w.heap.size + 1 + 1 < wr.heap.size ∧ Aside0 (Below w.heap.size w wr) ∧ Aside0 (Blk wr w.heap.size b) ∧ Aside0 (Blk wr (w.heap.size + 1) z64) ∧ Aside0 (Blk wr (w.heap.size + 1 + 1) (mix (fwdL b) z64 k))) (fun v4 _ => 64 - (intOf v4).toNat)
  case atStart =>
    have q1 := Blk.new (w.alloc (.cells (nums .i64 b).toArray 22)) z64
    have q2 := Blk.new ((w.alloc (.cells (nums .i64 b).toArray 22)).alloc (.cells (nums .i64 z64).toArray 22)) z64
    refine ⟨0, rfl, by omega, by simp, ⟨below_alloc (below_alloc (below_alloc (Below.refl _ _) _) _) _⟩, ⟨blk_alloc (blk_alloc (Blk.new w b) _) _⟩, ⟨?_⟩, ⟨?_⟩⟩
    · have := blk_alloc q1 (.cells (nums .i64 z64).toArray 22)
      simpa [Blk] using this
    · rw [mix_zero]
      simpa [Blk] using q2
  case round =>
    obtain ⟨k, rfl, hk, hsz, HBr, HXr, HRr, HOr⟩ := hrel
    by_cases hlt : k < 64
    · have d0 : decide ((k : Int) < 64) = true := decide_eq_true (by omega)
      go_wp2_with fail
      go_loopw [5] (fun v5 wi => ∃ l : Nat, v5 = .int .i64 l ∧ l ≤ 64 ∧ w.heap.size + 1 + 1 < wi.heap.size ∧ Aside0 (Below w.heap.size w wi) ∧ Aside0 (Blk wi w.heap.size b) ∧ Aside0 (Blk wi (w.heap.size + 1) z64) ∧ Aside0 (Blk wi (w.heap.size + 1 + 1) ((mix (fwdL b) z64 k).set k (cpart b k l)))) (fun v5 _ => 64 - (intOf v5).toNat)
      case atStart =>
        refine ⟨0, rfl, by omega, hsz, HBr, HXr, HRr, ⟨?_⟩⟩
        rw [set_same _ _ _ (by rw [mix_get _ _ _ hlt (fwdL_len _), z64_get]; rfl) (by rw [mix_len _ _ _ (fwdL_len _)]; exact hlt)]
        exact HOr.out
      case round =>
        clear HBr HXr HRr HOr
        obtain ⟨l, rfl, hl, hszi, HBi, HXi, HRi, HOi⟩ := hrel
        by_cases hlt2 : l < 64
        · have d1 : decide ((l : Int) < 64) = true := decide_eq_true (by omega)
          have c1 := HXi.out.cell l (by rw [HL.out]; exact hlt2)
          have c2 := HOi.out.cell k (by rw [List.length_set, mix_len _ _ _ (fwdL_len _)]; exact hlt)
          rw [getD_set_self _ _ _ (by rw [mix_len _ _ _ (fwdL_len _)]; exact hlt)] at c2
          have f2 : wr.frozen? ⟨w.heap.size + 1 + 1, k, none⟩ = false := blk_frozen HOi.out k
          have hb := getD_all HBD.out l (by rw [HL.out]; exact hlt2)
          have ht := tt_bd (i := k / 8) (r := l / 8) (j := k % 8) (c := l % 8) (by omega) (by omega) (by omega) (by omega)
          have hc := cterm_bd b k l hlt hlt2 hb
          have hs := sm_most l (fun i => T (k / 8) (i / 8) * T (k % 8) (i % 8) * b.getD i 0) 104857600 (fun i hi => cterm_bd b k i hlt (by omega) (getD_all HBD.out i (by rw [HL.out]; omega)))
          have e2 : cpart b k (l + 1) = cpart b k l + T (k / 8) (l / 8) * T (k % 8) (l % 8) * b.getD l 0 := rfl
          rw [show sm l (fun i => T (k / 8) (i / 8) * T (k % 8) (i % 8) * b.getD i 0) = cpart b k l from rfl] at hs
          have HT1 := Aside0.mk (t_call (k / 8) (l / 8) (by omega) (by omega))
          have HT2 := Aside0.mk (t_call (k % 8) (l % 8) (by omega) (by omega))
          have HSS : Aside0 (((mix (fwdL b) z64 k).set k (cpart b k l)).set k (cpart b k (l + 1)) = (mix (fwdL b) z64 k).set k (cpart b k (l + 1))) := ⟨List.set_set ..⟩
          generalize hV1 : cpart b k (l + 1) = v1 at e2 HSS
          have HV1 := Aside0.mk hV1
          clear hV1
          generalize hL0 : (mix (fwdL b) z64 k).set k (cpart b k l) = L0 at HOi HSS
          have HK2 : Aside0 (∀ W, Blk W (w.heap.size + 1 + 1) L0 → W.cell? ⟨w.heap.size + 1 + 1, k, none⟩ = some (.int .i64 (cpart b k l)) ∧ W.frozen? ⟨w.heap.size + 1 + 1, k, none⟩ = false) := ⟨fun W hW => by
            refine ⟨?_, blk_frozen hW k⟩
            rw [hW.cell k (by rw [← hL0, List.length_set, mix_len _ _ _ (fwdL_len _)]; exact hlt), ← hL0, getD_set_self _ _ _ (by rw [mix_len _ _ _ (fwdL_len _)]; exact hlt)]⟩
          have HK1 : Aside0 (∀ W, Blk W w.heap.size b → W.cell? ⟨w.heap.size, l, none⟩ = some (.int .i64 (b.getD l 0))) := ⟨fun W hW => hW.cell l (by rw [HL.out]; exact hlt2)⟩
          clear hL0
          generalize cpart b k l = v0 at c2 hs e2 HK2
          generalize b.getD l 0 = x at c1 hb hc e2 HK1
          generalize T (k / 8) (l / 8) = t1 at ht hc e2 HT1
          generalize T (k % 8) (l % 8) = t2 at ht hc e2 HT2
          have w1 : IntKind.i64.wrap ((k / 8 : Nat) : Int) = ((k / 8 : Nat) : Int) := IntWalk.i64_in _ (by omega)
          have w2 : IntKind.i64.wrap ((l / 8 : Nat) : Int) = ((l / 8 : Nat) : Int) := IntWalk.i64_in _ (by omega)
          have a1 := tdiv8 k
          have a2 := tdiv8 l
          have a3 := tmod8 k
          have a4 := tmod8 l
          generalize k / 8 = k8 at a1 HT1 w1
          generalize l / 8 = l8 at a2 HT1 w2
          generalize k % 8 = kr at a3 HT2
          generalize l % 8 = lr at a4 HT2
          have b1 : (0 : Int) ≤ (k : Int) := by omega
          have b2 : (k : Int) < 64 := by omega
          have b3 : (0 : Int) ≤ (l : Int) := by omega
          have b4 : (l : Int) < 64 := by omega
          have k1 : IntKind.i64.wrap (t1 * t2) = t1 * t2 := IntWalk.i64_in _ (by omega)
          have k2 : IntKind.i64.wrap (t1 * t2 * x) = t1 * t2 * x := IntWalk.i64_in _ (by omega)
          have k3 : IntKind.i64.wrap (v0 + t1 * t2 * x) = v1 := by rw [← e2]; exact IntWalk.i64_in _ (by omega)
          clear e2 hs hb ht hc
          go_wp2_with fail
          refine H08.region_held (fun W => W.cell? ⟨w.heap.size, l, none⟩ = some (.int .i64 x) ∧ W.cell? ⟨w.heap.size + 1 + 1, k, none⟩ = some (.int .i64 v0)) 21 (by kernel_rfl) ?_
          refine H08.held_take (i := 0) (v := ?v0) (some 14) rfl rfl (by kernel_rfl) (by kernel_rfl) (by kernel_rfl) (by kernel_rfl) (fun _ _ _ h => h) (Or.inl ⟨by rfl, ?y0⟩) (⟨c1, c2⟩) ?r0
          case y0 => (intro W hW; obtain ⟨hW0, hW1⟩ := hW; go_simp <;> with_reducible rfl)
          try simp only [Act.put, List.setIfInBounds_toArray, List.set_cons_zero, List.set_cons_succ]
          refine H08.held_take (i := 1) (v := ?v1) (some 15) rfl rfl (by kernel_rfl) (by kernel_rfl) (by kernel_rfl) (by kernel_rfl) (fun _ _ _ h => h) (Or.inl ⟨by rfl, ?y1⟩) (⟨c1, c2⟩) ?r1
          case y1 => (intro W hW; obtain ⟨hW0, hW1⟩ := hW; go_simp <;> with_reducible rfl)
          try simp only [Act.put, List.setIfInBounds_toArray, List.set_cons_zero, List.set_cons_succ]
          refine H08.held_take (i := 2) (v := ?v2) (some 16) rfl rfl (by kernel_rfl) (by kernel_rfl) (by kernel_rfl) (by kernel_rfl) (fun _ _ _ h => h) (Or.inl ⟨by rfl, ?y2⟩) (⟨c1, c2⟩) ?r2
          case y2 => (intro W hW; obtain ⟨hW0, hW1⟩ := hW; go_simp <;> with_reducible rfl)
          try simp only [Act.put, List.setIfInBounds_toArray, List.set_cons_zero, List.set_cons_succ]
          refine H08.held_take (i := 3) (v := ?v3) (some 17) rfl rfl (by kernel_rfl) (by kernel_rfl) (by kernel_rfl) (by kernel_rfl) (fun _ _ _ h => h) (Or.inl ⟨by rfl, ?y3⟩) (⟨c1, c2⟩) ?r3
          case y3 => (intro W hW; obtain ⟨hW0, hW1⟩ := hW; go_simp <;> with_reducible rfl)
          try simp only [Act.put, List.setIfInBounds_toArray, List.set_cons_zero, List.set_cons_succ]
          refine H08.held_take (i := 4) (v := ?v4) (some 18) rfl rfl (by kernel_rfl) (by kernel_rfl) (by kernel_rfl) (by kernel_rfl) (fun _ _ _ h => h) (Or.inl ⟨by rfl, ?y4⟩) (⟨c1, c2⟩) ?r4
          case y4 => (intro W hW; obtain ⟨hW0, hW1⟩ := hW; go_simp <;> with_reducible rfl)
          try simp only [Act.put, List.setIfInBounds_toArray, List.set_cons_zero, List.set_cons_succ]
          refine H08.held_take (i := 5) (v := ?v5) (some 19) rfl rfl (by kernel_rfl) (by kernel_rfl) (by kernel_rfl) (by kernel_rfl) (fun _ _ _ h => h) (Or.inl ⟨by rfl, ?y5⟩) (⟨c1, c2⟩) ?r5
          case y5 => (intro W hW; obtain ⟨hW0, hW1⟩ := hW; go_simp <;> with_reducible rfl)
          try simp only [Act.put, List.setIfInBounds_toArray, List.set_cons_zero, List.set_cons_succ]
          refine H08.held_take (i := 6) (v := ?v6) (some 20) rfl rfl (by kernel_rfl) (by kernel_rfl) (by kernel_rfl) (by kernel_rfl) (fun _ _ _ h => h) (Or.inl ⟨by rfl, ?y6⟩) (⟨c1, c2⟩) ?r6
          case y6 => (intro W hW; obtain ⟨hW0, hW1⟩ := hW; go_simp <;> with_reducible rfl)
          try simp only [Act.put, List.setIfInBounds_toArray, List.set_cons_zero, List.set_cons_succ]
          refine H08.held_take (i := 7) (v := ?v7) (some 21) rfl rfl (by kernel_rfl) (by kernel_rfl) (by kernel_rfl) (by kernel_rfl) (fun _ _ _ h => h) (Or.inl ⟨by rfl, ?y7⟩) (⟨c1, c2⟩) ?r7
          case y7 => (intro W hW; obtain ⟨hW0, hW1⟩ := hW; go_simp <;> with_reducible rfl)
          try simp only [Act.put, List.setIfInBounds_toArray, List.set_cons_zero, List.set_cons_succ]
          refine H08.held_take (i := 9) (v := ?v9) (some 23) rfl rfl (by kernel_rfl) (by kernel_rfl) (by kernel_rfl) (by kernel_rfl) (fun _ _ _ h => h) (Or.inl ⟨by rfl, ?y9⟩) (⟨c1, c2⟩) ?r9
          case y9 => (intro W hW; obtain ⟨hW0, hW1⟩ := hW; go_simp <;> with_reducible rfl)
          try simp only [Act.put, List.setIfInBounds_toArray, List.set_cons_zero, List.set_cons_succ]
          refine H08.held_take (i := 10) (v := ?v10) (some 24) rfl rfl (by kernel_rfl) (by kernel_rfl) (by kernel_rfl) (by kernel_rfl) (fun _ _ _ h => h) (Or.inl ⟨by rfl, ?y10⟩) (⟨c1, c2⟩) ?r10
          case y10 => (intro W hW; obtain ⟨hW0, hW1⟩ := hW; go_simp <;> with_reducible rfl)
          try simp only [Act.put, List.setIfInBounds_toArray, List.set_cons_zero, List.set_cons_succ]
          refine H08.held_take (i := 11) (v := ?v11) (some 25) rfl rfl (by kernel_rfl) (by kernel_rfl) (by kernel_rfl) (by kernel_rfl) (fun _ _ _ h => h) (Or.inl ⟨by rfl, ?y11⟩) (⟨c1, c2⟩) ?r11
          case y11 => (intro W hW; obtain ⟨hW0, hW1⟩ := hW; go_simp <;> with_reducible rfl)
          try simp only [Act.put, List.setIfInBounds_toArray, List.set_cons_zero, List.set_cons_succ]
          refine H08.held_take (i := 12) (v := ?v12) (some 26) rfl rfl (by kernel_rfl) (by kernel_rfl) (by kernel_rfl) (by kernel_rfl) (fun _ _ _ h => h) (Or.inl ⟨by rfl, ?y12⟩) (⟨c1, c2⟩) ?r12
          case y12 => (intro W hW; obtain ⟨hW0, hW1⟩ := hW; go_simp <;> with_reducible rfl)
          try simp only [Act.put, List.setIfInBounds_toArray, List.set_cons_zero, List.set_cons_succ]
          refine H08.held_take (i := 15) (v := ?v15) (some 29) rfl rfl (by kernel_rfl) (by kernel_rfl) (by kernel_rfl) (by kernel_rfl) (fun _ _ _ h => h) (Or.inl ⟨by rfl, ?y15⟩) (⟨c1, c2⟩) ?r15
          case y15 => (intro W hW; obtain ⟨hW0, hW1⟩ := hW; go_simp <;> with_reducible rfl)
          try simp only [Act.put, List.setIfInBounds_toArray, List.set_cons_zero, List.set_cons_succ]
          refine H08.held_take (i := 16) (v := ?v16) (some 30) rfl rfl (by kernel_rfl) (by kernel_rfl) (by kernel_rfl) (by kernel_rfl) (fun _ _ _ h => h) (Or.inl ⟨by rfl, ?y16⟩) (⟨c1, c2⟩) ?r16
          case y16 => (intro W hW; obtain ⟨hW0, hW1⟩ := hW; go_simp <;> with_reducible rfl)
          try simp only [Act.put, List.setIfInBounds_toArray, List.set_cons_zero, List.set_cons_succ]
          refine H08.held_take (i := 17) (v := ?v17) (some 31) rfl rfl (by kernel_rfl) (by kernel_rfl) (by kernel_rfl) (by kernel_rfl) (fun _ _ _ h => h) (Or.inl ⟨by rfl, ?y17⟩) (⟨c1, c2⟩) ?r17
          case y17 => (intro W hW; obtain ⟨hW0, hW1⟩ := hW; go_simp <;> with_reducible rfl)
          try simp only [Act.put, List.setIfInBounds_toArray, List.set_cons_zero, List.set_cons_succ]
          refine H08.held_one (j := 8) (by kernel_rfl) rfl (fun K hK => ?_)
          refine goes_ (N := some 22) (f := 37) Tryd.func37 (by kernel_rfl) rfl #[.int .i64 k8, .int .i64 l8] (by rfl) rfl rfl (by simp only [List.map_toArray, List.map_cons, List.map_nil]; rfl) ?_
          refine (HT1.out _).mono ?_
          rintro e w3 ⟨rfl, hb3⟩
          refine ⟨_, rfl, ?_⟩
          have HX3 := Aside0.mk (Blk.below (w := wr.drew) HXi.out hb3)
          have HR3 := Aside0.mk (Blk.below (w := wr.drew) HRi.out hb3)
          have HO3 := Aside0.mk (Blk.below (w := wr.drew) HOi.out hb3)
          have HB3 := Aside0.mk (below_step HBi.out.drew hb3)
          have c13 := HK1.out _ HX3.out
          have c23 := (HK2.out _ HO3.out).1
          have f23 := (HK2.out _ HO3.out).2
          clear hb3
          refine hK.out _ _ (fun _ => ⟨c13, c23⟩) ?_
          clear hK
          try simp only [Act.put, List.setIfInBounds_toArray, List.set_cons_zero, List.set_cons_succ]
          refine H08.held_one (j := 13) (by kernel_rfl) rfl (fun K hK => ?_)
          refine goes_ (N := some 27) (f := 37) Tryd.func37 (by kernel_rfl) rfl #[.int .i64 kr, .int .i64 lr] (by rfl) rfl rfl (by simp only [List.map_toArray, List.map_cons, List.map_nil]; rfl) ?_
          refine (HT2.out _).mono ?_
          rintro e w5 ⟨rfl, hb5⟩
          refine ⟨_, rfl, ?_⟩
          have HX5 := Aside0.mk (HX3.out.below hb5)
          have HR5 := Aside0.mk (HR3.out.below hb5)
          have HO5 := Aside0.mk (HO3.out.below hb5)
          have HB5 := Aside0.mk (below_step HB3.out hb5)
          have c15 := HK1.out _ HX5.out
          have c25 := (HK2.out _ HO5.out).1
          have f25 := (HK2.out _ HO5.out).2
          clear hb5
          refine hK.out _ _ (fun _ => ⟨c15, c25⟩) ?_
          clear hK
          try simp only [Act.put, List.setIfInBounds_toArray, List.set_cons_zero, List.set_cons_succ]
          refine H08.held_take (i := 14) (v := ?v14) (some 28) rfl rfl (by kernel_rfl) (by kernel_rfl) (by kernel_rfl) (by kernel_rfl) (fun _ _ _ h => h) (Or.inl ⟨by rfl, ?y14⟩) (⟨c15, c25⟩) ?r14
          case y14 => (intro W hW; obtain ⟨hW0, hW1⟩ := hW; go_simp <;> with_reducible rfl)
          try simp only [Act.put, List.setIfInBounds_toArray, List.set_cons_zero, List.set_cons_succ]
          refine H08.held_take (i := 18) (v := ?v18) (some 32) rfl rfl (by kernel_rfl) (by kernel_rfl) (by kernel_rfl) (by kernel_rfl) (fun _ _ _ h => h) (Or.inl ⟨by rfl, ?y18⟩) (⟨c15, c25⟩) ?r18
          case y18 => (intro W hW; obtain ⟨hW0, hW1⟩ := hW; go_simp <;> with_reducible rfl)
          try simp only [Act.put, List.setIfInBounds_toArray, List.set_cons_zero, List.set_cons_succ]
          refine H08.held_take (i := 19) (v := ?v19) (some 33) rfl rfl (by kernel_rfl) (by kernel_rfl) (by kernel_rfl) (by kernel_rfl) (fun _ _ _ h => h) (Or.inl ⟨by rfl, ?y19⟩) (⟨c15, c25⟩) ?r19
          case y19 => (intro W hW; obtain ⟨hW0, hW1⟩ := hW; go_simp <;> with_reducible rfl)
          try simp only [Act.put, List.setIfInBounds_toArray, List.set_cons_zero, List.set_cons_succ]
          refine H08.held_take (i := 20) (v := ?v20) (some 34) rfl rfl (by kernel_rfl) (by kernel_rfl) (by kernel_rfl) (by kernel_rfl) (fun _ _ _ h => h) (Or.inl ⟨by rfl, ?y20⟩) (⟨c15, c25⟩) ?r20
          case y20 => (intro W hW; obtain ⟨hW0, hW1⟩ := hW; go_simp <;> with_reducible rfl)
          try simp only [Act.put, List.setIfInBounds_toArray, List.set_cons_zero, List.set_cons_succ]
          refine H08.held_one (j := 21) (by kernel_rfl) rfl (fun K hK => ?_)
          go_simp
          refine hK.out _ _ (fun h => absurd rfl h) ?_
          clear hK
          try simp only [Act.put, List.setIfInBounds_toArray, List.set_cons_zero, List.set_cons_succ]
          refine H08.held_done (by kernel_rfl) ?_ _
          go_wp2_with fail
          go_roundw
          case measure => simp [intOf]; omega
          case rel =>
            have hO := HO5.out.set k v1
            rw [HSS.out] at hO
            exact ⟨l + 1, by go_num, by omega, by have := HO5.out.lt; simpa using this, ⟨below_set HB5.out (by omega)⟩, ⟨HX5.out.far (by omega) k _⟩, ⟨HR5.out.far (by omega) k _⟩, ⟨by rw [HV1.out]; exact hO⟩⟩
        · obtain rfl : l = 64 := by omega
          have d1 : decide (((64 : Nat) : Int) < 64) = false := by decide
          have HO2 : Aside0 (Blk wr (w.heap.size + 1 + 1) (mix (fwdL b) z64 (k + 1))) := ⟨by
            rw [← mix_set (fwdL b) z64 k hlt (fwdL_len _), ← cpart_all b HL.out k hlt]; exact HOi.out⟩
          go_wp2_with fail
          go_roundw
          case measure => simp [intOf]; omega
          case rel => exact ⟨k + 1, by go_num, by omega, hszi, HBi, HXi, HRi, HO2⟩
    · obtain rfl : k = 64 := by omega
      have d0 : decide (((64 : Nat) : Int) < 64) = false := by decide
      have HO2 : Aside0 (Blk wr (w.heap.size + 1 + 1) (fwdL b)) := ⟨by
        have := HOr.out
        rwa [mix_all _ _ _ (by rw [fwdL_len]; omega) (by decide)] at this⟩
      go_wp2_with (first | (refine load_ar rfl _ rfl _ rfl (fwdL b) (fwdL_len _) HO2.out ?_) | (refine store_ar rfl _ _ rfl _ rfl z64 (fwdL b) rfl HRr.out rfl (fwdL_len _) ?_))
      refine bodyPost_ret (results_cell_row rfl _ _ (w.heap.size + 1) 22 (nums .i64 (fwdL b)).toArray (0, 0) _ rfl (HRr.out.setRow _) Tryd.underlying22 rfl (info22.trans (by simp [nums_length, fwdL_len]))) rfl ?_
      exact ⟨rfl, G08.below_setRow HBr.out (by omega) _⟩
end Go.Proofs.YtmbdjajmiggiaaaDoor.U08
/- The reference's Block 17 (chapter 08). -/
namespace Go.Proofs.YtmbdjajmiggiaaaDoor.U08b
open Go.Proofs.YtmbdjajmiggiaaaDoor.K08 Go.Proofs.YtmbdjajmiggiaaaDoor.G08 Go.Proofs.YtmbdjajmiggiaaaDoor.G08f Go.Proofs.YtmbdjajmiggiaaaDoor.Z08 Go.Proofs.YtmbdjajmiggiaaaDoor.O08 Go.Proofs.YtmbdjajmiggiaaaDoor.L08 Go.Proofs.YtmbdjajmiggiaaaDoor.W08 Go.Proofs.YtmbdjajmiggiaaaDoor.P08 Go.Proofs.YtmbdjajmiggiaaaDoor.V08 Go.Proofs.YtmbdjajmiggiaaaDoor.V08l Go.Proofs.YtmbdjajmiggiaaaDoor.T08 Go.Proofs.YtmbdjajmiggiaaaDoor.U08
open Go.RowKit Go.Proofs.YtmbdjajmiggiaaaDoorW.PrintWords Go.Proofs.YtmbdjajmiggiaaaDoorW.PrintLast Go.Proofs.YtmbdjajmiggiaaaDoorW.PrintMore
set_option linter.unusedVariables false
set_option linter.unusedSimpArgs false
set_option maxRecDepth 100000
/-- The weight of coefficient k in element l. -/
def cof (l k : Nat) : Int := T (k / 8) (l / 8) * T (k % 8) (l % 8) * (wt (k / 8) * wt (k % 8))
theorem cof_reach : ∀ r, r < 8 → ∀ c, c < 8 → sm 64 (fun k => ab (T (k / 8) r * T (k % 8) c * (wt (k / 8) * wt (k % 8)))) ≤ 13205956 := by decide +kernel
theorem ab_nonneg (x : Int) : 0 ≤ ab x := by unfold ab; split <;> omega
theorem sm_ab_mono (f : Nat → Int) (k : Nat) : ∀ n, sm k (fun i => ab (f i)) ≤ sm (k + n) (fun i => ab (f i))
  | 0 => Int.le_refl _
  | n + 1 => by
    have ih := sm_ab_mono f k n
    have e : sm (k + (n + 1)) (fun i => ab (f i)) = sm (k + n) (fun i => ab (f i)) + ab (f (k + n)) := rfl
    have := ab_nonneg (f (k + n))
    omega
/-- Element l before the division, as far as k. -/
def bpart (y : List Int) (l k : Nat) : Int := sm k fun i => T (i / 8) (l / 8) * T (i % 8) (l % 8) * y.getD i 0 * wt (i / 8) * wt (i % 8)
theorem bpart_eq (y : List Int) (l k : Nat) : bpart y l k = sm k fun i => cof l i * y.getD i 0 := sm_congr fun i _ => by
  unfold cof
  simp only [Int.mul_assoc, Int.mul_comm, Int.mul_left_comm]
theorem bpart_bd (y : List Int) (m : Int) (hm : 0 ≤ m) (h : ∀ i, i < 64 → -m ≤ y.getD i 0 ∧ y.getD i 0 ≤ m) (l k : Nat) (hl : l < 64) (hk : k ≤ 64) : -(13205956 * m) ≤ bpart y l k ∧ bpart y l k ≤ 13205956 * m := by
  rw [bpart_eq]
  have h1 := sm_bd k (fun i => cof l i) (fun i => y.getD i 0) m (fun i hi => h i (by omega))
  have h2 := sm_ab_mono (fun i => cof l i) k (64 - k)
  rw [show k + (64 - k) = 64 by omega] at h2
  have h3 := cof_reach (l / 8) (by omega) (l % 8) (by omega)
  have h4 : sm 64 (fun i => ab (cof l i)) ≤ 13205956 := h3
  have h5 := Int.mul_le_mul_of_nonneg_right (Int.le_trans h2 h4) hm
  omega
theorem bpart_all (y : List Int) (l : Nat) (hl : l < 64) : rnd (bpart y l 64) = (invL y).getD l 0 := by
  unfold invL
  rw [blk8_get _ _ hl]
  unfold outI
  rw [isum_eq _ _ _ (by omega)]
  congr 1
  exact inv_ref (fun i => y.getD i 0) l
theorem tw_bd (t y u v : Int) (ht : -100 ≤ t ∧ t ≤ 100) (hy : -4294967296 ≤ y ∧ y ≤ 4294967296) (hu : 20 ≤ u ∧ u ≤ 1105) (hv : 20 ≤ v ∧ v ≤ 1105) :
    (-429496729600 ≤ t * y ∧ t * y ≤ 429496729600) ∧ (-474593886208000 ≤ t * y * u ∧ t * y * u ≤ 474593886208000) ∧ (-524426244259840000 ≤ t * y * u * v ∧ t * y * u * v ≤ 524426244259840000) := by
  have h1 := ab_mul (t := t) (x := y) (m := 4294967296) (by omega) (by omega)
  have a1 : ab t ≤ 100 := by unfold ab; split <;> omega
  have h2 := ab_mul (t := t * y) (x := u) (m := 1105) (by omega) (by omega)
  have a2 : ab (t * y) ≤ 429496729600 := by unfold ab; split <;> omega
  have h3 := ab_mul (t := t * y * u) (x := v) (m := 1105) (by omega) (by omega)
  have a3 : ab (t * y * u) ≤ 474593886208000 := by unfold ab; split <;> omega
  omega
set_option maxHeartbeats 8000000 in
theorem block_ref (b : List Int) (hb : b.length = 64) (hin : wthn 4294967296 b = true) (w : World) :
    Calls Tryd.prog 17 #[ar b] w fun e w' => e = .returned (ar (invL b)) ∧ Below w.heap.size w w' := by
  have HL := Aside0.mk hb
  have HBD := Aside0.mk (G08f.wthn_bd hin)
  have HBP : Aside0 (∀ l k, l < 64 → k ≤ 64 → -56719149132414976 ≤ bpart b l k ∧ bpart b l k ≤ 56719149132414976) := ⟨fun l k hl hk => by
    have := bpart_bd b 4294967296 (by omega) (fun i hi => getD_all HBD.out i (by rw [hb]; exact hi)) l k hl hk
    omega⟩
  clear hb hin
  unfold ar
  go_enter Tryd.func17, Tryd.ntmps17
  go_wp2_with (refine alloc_ar rfl rfl ?_)
  go_loopw [4] (fun v4 wr => ∃ l : Nat, v4 = .int .i64 l ∧ l ≤ 64 ∧ w.heap.size + 1 + 1 < wr.heap.size ∧ Aside0 (Below w.heap.size w wr) ∧ Aside0 (Blk wr w.heap.size b) ∧ Aside0 (Blk wr (w.heap.size + 1) z64) ∧ Aside0 (Blk wr (w.heap.size + 1 + 1) (mix (invL b) z64 l))) (fun v4 _ => 64 - (intOf v4).toNat)
  case atStart =>
    have q1 := Blk.new (w.alloc (.cells (nums .i64 b).toArray 22)) z64
    have q2 := Blk.new ((w.alloc (.cells (nums .i64 b).toArray 22)).alloc (.cells (nums .i64 z64).toArray 22)) z64
    refine ⟨0, rfl, by omega, by simp, ⟨below_alloc (below_alloc (below_alloc (Below.refl _ _) _) _) _⟩, ⟨blk_alloc (blk_alloc (Blk.new w b) _) _⟩, ⟨?_⟩, ⟨?_⟩⟩
    · have := blk_alloc q1 (.cells (nums .i64 z64).toArray 22)
      simpa [Blk] using this
    · rw [mix_zero]
      simpa [Blk] using q2
  case round =>
    obtain ⟨l, rfl, hl, hsz, HBr, HXr, HRr, HOr⟩ := hrel
    by_cases hlt : l < 64
    · have d0 : decide ((l : Int) < 64) = true := decide_eq_true (by omega)
      go_wp2_with fail
      go_loopw [5, 6] (fun v5 v6 wi => ∃ k : Nat, v6 = .int .i64 k ∧ k ≤ 64 ∧ v5 = .int .i64 (bpart b l k) ∧ w.heap.size + 1 + 1 < wi.heap.size ∧ Aside0 (Below w.heap.size w wi) ∧ Aside0 (Blk wi w.heap.size b) ∧ Aside0 (Blk wi (w.heap.size + 1) z64) ∧ Aside0 (Blk wi (w.heap.size + 1 + 1) (mix (invL b) z64 l))) (fun _ v6 _ => 64 - (intOf v6).toNat)
      case atStart => exact ⟨0, rfl, by omega, rfl, hsz, HBr, HXr, HRr, HOr⟩
      case round =>
        clear HBr HXr HRr HOr
        obtain ⟨k, rfl, hk, rfl, hszi, HBi, HXi, HRi, HOi⟩ := hrel
        by_cases hlt2 : k < 64
        · have d1 : decide ((k : Int) < 64) = true := decide_eq_true (by omega)
          have c1 := HXi.out.cell k (by rw [HL.out]; exact hlt2)
          have HK1 : Aside0 (∀ W, Blk W w.heap.size b → W.cell? ⟨w.heap.size, k, none⟩ = some (.int .i64 (b.getD k 0))) := ⟨fun W hW => hW.cell k (by rw [HL.out]; exact hlt2)⟩
          have hy := getD_all HBD.out k (by rw [HL.out]; exact hlt2)
          have ht := tt_bd (i := k / 8) (r := l / 8) (j := k % 8) (c := l % 8) (by omega) (by omega) (by omega) (by omega)
          have u1 := wt_bd (k / 8) (by omega)
          have u2 := wt_bd (k % 8) (by omega)
          have s1 := HBP.out l k hlt hk
          have s2 := HBP.out l (k + 1) hlt (by omega)
          have e2 : bpart b l (k + 1) = bpart b l k + T (k / 8) (l / 8) * T (k % 8) (l % 8) * b.getD k 0 * wt (k / 8) * wt (k % 8) := rfl
          have HT1 := Aside0.mk (t_call (k / 8) (l / 8) (by omega) (by omega))
          have HT2 := Aside0.mk (t_call (k % 8) (l % 8) (by omega) (by omega))
          have HN1 := Aside0.mk (norm_ref (k / 8) (by omega))
          have HN2 := Aside0.mk (norm_ref (k % 8) (by omega))
          have n1 : (8840 : Int).tdiv (nrm (k / 8)) = wt (k / 8) := by rw [Int.tdiv_eq_ediv_of_nonneg (by omega)]; exact wt_eq _ (by omega)
          have n2 : (8840 : Int).tdiv (nrm (k % 8)) = wt (k % 8) := by rw [Int.tdiv_eq_ediv_of_nonneg (by omega)]; exact wt_eq _ (by omega)
          have p1 := nrm_pos (k / 8) (by omega)
          have p2 := nrm_pos (k % 8) (by omega)
          generalize hV1 : bpart b l (k + 1) = v1 at e2 s2
          have HV1 := Aside0.mk hV1
          clear hV1
          generalize bpart b l k = v0 at s1 e2 ⊢
          generalize b.getD k 0 = y at c1 hy e2 HK1
          generalize T (k / 8) (l / 8) = t1 at ht e2 HT1
          generalize T (k % 8) (l % 8) = t2 at ht e2 HT2
          generalize wt (k / 8) = w1 at u1 e2 n1
          generalize wt (k % 8) = w2 at u2 e2 n2
          generalize nrm (k / 8) = m1 at p1 n1 HN1
          generalize nrm (k % 8) = m2 at p2 n2 HN2
          obtain ⟨q1, q2, q3⟩ := tw_bd (t1 * t2) y w1 w2 ht hy u1 u2
          have x1 : IntKind.i64.wrap ((k / 8 : Nat) : Int) = ((k / 8 : Nat) : Int) := IntWalk.i64_in _ (by omega)
          have x2 : IntKind.i64.wrap ((l / 8 : Nat) : Int) = ((l / 8 : Nat) : Int) := IntWalk.i64_in _ (by omega)
          have a1 := tdiv8 k
          have a2 := tdiv8 l
          have a3 := tmod8 k
          have a4 := tmod8 l
          generalize k / 8 = k8 at a1 HT1 x1 HN1
          generalize l / 8 = l8 at a2 HT1 x2
          generalize k % 8 = kr at a3 HT2 HN2
          generalize l % 8 = lr at a4 HT2
          have b1 : (0 : Int) ≤ (k : Int) := by omega
          have b2 : (k : Int) < 64 := by omega
          have z1 : ¬ (m1 = 0) := by omega
          have z2 : ¬ (m2 = 0) := by omega
          have y1 : IntKind.i64.wrap w1 = w1 := IntWalk.i64_in _ (by omega)
          have y2 : IntKind.i64.wrap w2 = w2 := IntWalk.i64_in _ (by omega)
          have k1 : IntKind.i64.wrap (t1 * t2) = t1 * t2 := IntWalk.i64_in _ (by omega)
          have k2 : IntKind.i64.wrap (t1 * t2 * y) = t1 * t2 * y := IntWalk.i64_in _ (by omega)
          have k3 : IntKind.i64.wrap (t1 * t2 * y * w1) = t1 * t2 * y * w1 := IntWalk.i64_in _ (by omega)
          have k4 : IntKind.i64.wrap (t1 * t2 * y * w1 * w2) = t1 * t2 * y * w1 * w2 := IntWalk.i64_in _ (by omega)
          have k5 : IntKind.i64.wrap (v0 + t1 * t2 * y * w1 * w2) = v1 := by rw [← e2]; exact IntWalk.i64_in _ (by omega)
          clear e2 s1 s2 hy ht u1 u2 p1 p2 q1 q2 q3
          go_wp2_with fail
          refine H08.region_held (fun W => W.cell? ⟨w.heap.size, k, none⟩ = some (.int .i64 y)) 27 (by kernel_rfl) ?_
          refine H08.held_take (i := 0) (v := ?v0) (some 15) rfl rfl (by kernel_rfl) (by kernel_rfl) (by kernel_rfl) (by kernel_rfl) (fun _ _ _ h => h) (Or.inl ⟨by rfl, ?y0⟩) (c1) ?r0
          case y0 => (intro W hW0; go_simp <;> with_reducible rfl)
          try simp only [Act.put, List.setIfInBounds_toArray, List.set_cons_zero, List.set_cons_succ]
          refine H08.held_take (i := 1) (v := ?v1) (some 16) rfl rfl (by kernel_rfl) (by kernel_rfl) (by kernel_rfl) (by kernel_rfl) (fun _ _ _ h => h) (Or.inl ⟨by rfl, ?y1⟩) (c1) ?r1
          case y1 => (intro W hW0; go_simp <;> with_reducible rfl)
          try simp only [Act.put, List.setIfInBounds_toArray, List.set_cons_zero, List.set_cons_succ]
          refine H08.held_take (i := 2) (v := ?v2) (some 17) rfl rfl (by kernel_rfl) (by kernel_rfl) (by kernel_rfl) (by kernel_rfl) (fun _ _ _ h => h) (Or.inl ⟨by rfl, ?y2⟩) (c1) ?r2
          case y2 => (intro W hW0; go_simp <;> with_reducible rfl)
          try simp only [Act.put, List.setIfInBounds_toArray, List.set_cons_zero, List.set_cons_succ]
          refine H08.held_take (i := 3) (v := ?v3) (some 18) rfl rfl (by kernel_rfl) (by kernel_rfl) (by kernel_rfl) (by kernel_rfl) (fun _ _ _ h => h) (Or.inl ⟨by rfl, ?y3⟩) (c1) ?r3
          case y3 => (intro W hW0; go_simp <;> with_reducible rfl)
          try simp only [Act.put, List.setIfInBounds_toArray, List.set_cons_zero, List.set_cons_succ]
          refine H08.held_take (i := 4) (v := ?v4) (some 19) rfl rfl (by kernel_rfl) (by kernel_rfl) (by kernel_rfl) (by kernel_rfl) (fun _ _ _ h => h) (Or.inl ⟨by rfl, ?y4⟩) (c1) ?r4
          case y4 => (intro W hW0; go_simp <;> with_reducible rfl)
          try simp only [Act.put, List.setIfInBounds_toArray, List.set_cons_zero, List.set_cons_succ]
          refine H08.held_take (i := 6) (v := ?v6) (some 21) rfl rfl (by kernel_rfl) (by kernel_rfl) (by kernel_rfl) (by kernel_rfl) (fun _ _ _ h => h) (Or.inl ⟨by rfl, ?y6⟩) (c1) ?r6
          case y6 => (intro W hW0; go_simp <;> with_reducible rfl)
          try simp only [Act.put, List.setIfInBounds_toArray, List.set_cons_zero, List.set_cons_succ]
          refine H08.held_take (i := 7) (v := ?v7) (some 22) rfl rfl (by kernel_rfl) (by kernel_rfl) (by kernel_rfl) (by kernel_rfl) (fun _ _ _ h => h) (Or.inl ⟨by rfl, ?y7⟩) (c1) ?r7
          case y7 => (intro W hW0; go_simp <;> with_reducible rfl)
          try simp only [Act.put, List.setIfInBounds_toArray, List.set_cons_zero, List.set_cons_succ]
          refine H08.held_take (i := 8) (v := ?v8) (some 23) rfl rfl (by kernel_rfl) (by kernel_rfl) (by kernel_rfl) (by kernel_rfl) (fun _ _ _ h => h) (Or.inl ⟨by rfl, ?y8⟩) (c1) ?r8
          case y8 => (intro W hW0; go_simp <;> with_reducible rfl)
          try simp only [Act.put, List.setIfInBounds_toArray, List.set_cons_zero, List.set_cons_succ]
          refine H08.held_take (i := 9) (v := ?v9) (some 24) rfl rfl (by kernel_rfl) (by kernel_rfl) (by kernel_rfl) (by kernel_rfl) (fun _ _ _ h => h) (Or.inl ⟨by rfl, ?y9⟩) (c1) ?r9
          case y9 => (intro W hW0; go_simp <;> with_reducible rfl)
          try simp only [Act.put, List.setIfInBounds_toArray, List.set_cons_zero, List.set_cons_succ]
          refine H08.held_take (i := 12) (v := ?v12) (some 27) rfl rfl (by kernel_rfl) (by kernel_rfl) (by kernel_rfl) (by kernel_rfl) (fun _ _ _ h => h) (Or.inl ⟨by rfl, ?y12⟩) (c1) ?r12
          case y12 => (intro W hW0; go_simp <;> with_reducible rfl)
          try simp only [Act.put, List.setIfInBounds_toArray, List.set_cons_zero, List.set_cons_succ]
          refine H08.held_take (i := 13) (v := ?v13) (some 28) rfl rfl (by kernel_rfl) (by kernel_rfl) (by kernel_rfl) (by kernel_rfl) (fun _ _ _ h => h) (Or.inl ⟨by rfl, ?y13⟩) (c1) ?r13
          case y13 => (intro W hW0; go_simp <;> with_reducible rfl)
          try simp only [Act.put, List.setIfInBounds_toArray, List.set_cons_zero, List.set_cons_succ]
          refine H08.held_take (i := 14) (v := ?v14) (some 29) rfl rfl (by kernel_rfl) (by kernel_rfl) (by kernel_rfl) (by kernel_rfl) (fun _ _ _ h => h) (Or.inl ⟨by rfl, ?y14⟩) (c1) ?r14
          case y14 => (intro W hW0; go_simp <;> with_reducible rfl)
          try simp only [Act.put, List.setIfInBounds_toArray, List.set_cons_zero, List.set_cons_succ]
          refine H08.held_take (i := 16) (v := ?v16) (some 31) rfl rfl (by kernel_rfl) (by kernel_rfl) (by kernel_rfl) (by kernel_rfl) (fun _ _ _ h => h) (Or.inl ⟨by rfl, ?y16⟩) (c1) ?r16
          case y16 => (intro W hW0; go_simp <;> with_reducible rfl)
          try simp only [Act.put, List.setIfInBounds_toArray, List.set_cons_zero, List.set_cons_succ]
          refine H08.held_take (i := 17) (v := ?v17) (some 32) rfl rfl (by kernel_rfl) (by kernel_rfl) (by kernel_rfl) (by kernel_rfl) (fun _ _ _ h => h) (Or.inl ⟨by rfl, ?y17⟩) (c1) ?r17
          case y17 => (intro W hW0; go_simp <;> with_reducible rfl)
          try simp only [Act.put, List.setIfInBounds_toArray, List.set_cons_zero, List.set_cons_succ]
          refine H08.held_take (i := 21) (v := ?v21) (some 36) rfl rfl (by kernel_rfl) (by kernel_rfl) (by kernel_rfl) (by kernel_rfl) (fun _ _ _ h => h) (Or.inl ⟨by rfl, ?y21⟩) (c1) ?r21
          case y21 => (intro W hW0; go_simp <;> with_reducible rfl)
          try simp only [Act.put, List.setIfInBounds_toArray, List.set_cons_zero, List.set_cons_succ]
          refine H08.held_take (i := 22) (v := ?v22) (some 37) rfl rfl (by kernel_rfl) (by kernel_rfl) (by kernel_rfl) (by kernel_rfl) (fun _ _ _ h => h) (Or.inl ⟨by rfl, ?y22⟩) (c1) ?r22
          case y22 => (intro W hW0; go_simp <;> with_reducible rfl)
          try simp only [Act.put, List.setIfInBounds_toArray, List.set_cons_zero, List.set_cons_succ]
          refine H08.held_one (j := 5) (by kernel_rfl) rfl (fun K hK => ?_)
          refine goes_ (N := some 20) (f := 37) Tryd.func37 (by kernel_rfl) rfl #[.int .i64 k8, .int .i64 l8] (by rfl) rfl rfl (by simp only [List.map_toArray, List.map_cons, List.map_nil]; rfl) ?_
          refine (HT1.out _).mono ?_
          rintro e w3 ⟨rfl, hb3⟩
          refine ⟨_, rfl, ?_⟩
          have HX3 := Aside0.mk (Blk.below (w := wr.drew) HXi.out hb3)
          have HR3 := Aside0.mk (Blk.below (w := wr.drew) HRi.out hb3)
          have HO3 := Aside0.mk (Blk.below (w := wr.drew) HOi.out hb3)
          have HB3 := Aside0.mk (below_step HBi.out.drew hb3)
          have c13 := HK1.out _ HX3.out
          clear hb3
          refine hK.out _ _ (fun _ => c13) ?_
          clear hK
          try simp only [Act.put, List.setIfInBounds_toArray, List.set_cons_zero, List.set_cons_succ]
          refine H08.held_one (j := 10) (by kernel_rfl) rfl (fun K hK => ?_)
          refine goes_ (N := some 25) (f := 37) Tryd.func37 (by kernel_rfl) rfl #[.int .i64 kr, .int .i64 lr] (by rfl) rfl rfl (by simp only [List.map_toArray, List.map_cons, List.map_nil]; rfl) ?_
          refine (HT2.out _).mono ?_
          rintro e w5 ⟨rfl, hb5⟩
          refine ⟨_, rfl, ?_⟩
          have HX5 := Aside0.mk (HX3.out.below hb5)
          have HR5 := Aside0.mk (HR3.out.below hb5)
          have HO5 := Aside0.mk (HO3.out.below hb5)
          have HB5 := Aside0.mk (below_step HB3.out hb5)
          have c15 := HK1.out _ HX5.out
          clear hb5
          refine hK.out _ _ (fun _ => c15) ?_
          clear hK
          try simp only [Act.put, List.setIfInBounds_toArray, List.set_cons_zero, List.set_cons_succ]
          refine H08.held_take (i := 11) (v := ?v11) (some 26) rfl rfl (by kernel_rfl) (by kernel_rfl) (by kernel_rfl) (by kernel_rfl) (fun _ _ _ h => h) (Or.inl ⟨by rfl, ?y11⟩) (c15) ?r11
          case y11 => (intro W hW0; go_simp <;> with_reducible rfl)
          try simp only [Act.put, List.setIfInBounds_toArray, List.set_cons_zero, List.set_cons_succ]
          refine H08.held_take (i := 15) (v := ?v15) (some 30) rfl rfl (by kernel_rfl) (by kernel_rfl) (by kernel_rfl) (by kernel_rfl) (fun _ _ _ h => h) (Or.inl ⟨by rfl, ?y15⟩) (c15) ?r15
          case y15 => (intro W hW0; go_simp <;> with_reducible rfl)
          try simp only [Act.put, List.setIfInBounds_toArray, List.set_cons_zero, List.set_cons_succ]
          refine H08.held_one (j := 18) (by kernel_rfl) rfl (fun K hK => ?_)
          refine goes_ (N := some 33) (f := 38) Tryd.func38 (by kernel_rfl) rfl #[.int .i64 k8] (by rfl) rfl rfl (by simp only [List.map_toArray, List.map_cons, List.map_nil]; rfl) ?_
          refine (HN1.out _).mono ?_
          rintro e w6 ⟨rfl, rfl⟩
          refine ⟨_, rfl, ?_⟩
          refine hK.out _ _ (fun _ => c15) ?_
          clear hK
          try simp only [Act.put, List.setIfInBounds_toArray, List.set_cons_zero, List.set_cons_succ]
          refine H08.held_take (i := 19) (v := ?v19) (some 34) rfl rfl (by kernel_rfl) (by kernel_rfl) (by kernel_rfl) (by kernel_rfl) (fun _ _ _ h => h) (Or.inl ⟨by rfl, ?y19⟩) (c15) ?r19
          case y19 => (intro W hW0; go_simp <;> with_reducible rfl)
          try simp only [Act.put, List.setIfInBounds_toArray, List.set_cons_zero, List.set_cons_succ]
          refine H08.held_take (i := 20) (v := ?v20) (some 35) rfl rfl (by kernel_rfl) (by kernel_rfl) (by kernel_rfl) (by kernel_rfl) (fun _ _ _ h => h) (Or.inl ⟨by rfl, ?y20⟩) (c15) ?r20
          case y20 => (intro W hW0; go_simp <;> with_reducible rfl)
          try simp only [Act.put, List.setIfInBounds_toArray, List.set_cons_zero, List.set_cons_succ]
          refine H08.held_one (j := 23) (by kernel_rfl) rfl (fun K hK => ?_)
          refine goes_ (N := some 38) (f := 38) Tryd.func38 (by kernel_rfl) rfl #[.int .i64 kr] (by rfl) rfl rfl (by simp only [List.map_toArray, List.map_cons, List.map_nil]; rfl) ?_
          refine (HN2.out _).mono ?_
          rintro e w7 ⟨rfl, rfl⟩
          refine ⟨_, rfl, ?_⟩
          refine hK.out _ _ (fun _ => c15) ?_
          clear hK
          try simp only [Act.put, List.setIfInBounds_toArray, List.set_cons_zero, List.set_cons_succ]
          refine H08.held_take (i := 24) (v := ?v24) (some 39) rfl rfl (by kernel_rfl) (by kernel_rfl) (by kernel_rfl) (by kernel_rfl) (fun _ _ _ h => h) (Or.inl ⟨by rfl, ?y24⟩) (c15) ?r24
          case y24 => (intro W hW0; go_simp <;> with_reducible rfl)
          try simp only [Act.put, List.setIfInBounds_toArray, List.set_cons_zero, List.set_cons_succ]
          refine H08.held_take (i := 25) (v := ?v25) (some 40) rfl rfl (by kernel_rfl) (by kernel_rfl) (by kernel_rfl) (by kernel_rfl) (fun _ _ _ h => h) (Or.inl ⟨by rfl, ?y25⟩) (c15) ?r25
          case y25 => (intro W hW0; go_simp <;> with_reducible rfl)
          try simp only [Act.put, List.setIfInBounds_toArray, List.set_cons_zero, List.set_cons_succ]
          refine H08.held_take (i := 26) (v := ?v26) (some 41) rfl rfl (by kernel_rfl) (by kernel_rfl) (by kernel_rfl) (by kernel_rfl) (fun _ _ _ h => h) (Or.inl ⟨by rfl, ?y26⟩) (c15) ?r26
          case y26 => (intro W hW0; go_simp <;> with_reducible rfl)
          try simp only [Act.put, List.setIfInBounds_toArray, List.set_cons_zero, List.set_cons_succ]
          refine H08.held_one (j := 27) (by kernel_rfl) rfl (fun K hK => ?_)
          go_simp
          refine hK.out _ _ (fun h => absurd rfl h) ?_
          clear hK
          try simp only [Act.put, List.setIfInBounds_toArray, List.set_cons_zero, List.set_cons_succ]
          refine H08.held_done (by kernel_rfl) ?_ _
          go_wp2_with fail
          go_roundw
          case measure => simp [intOf]; omega
          case rel => exact ⟨k + 1, by go_num, by omega, by rw [HV1.out], HO5.out.lt, HB5, HX5, HR5, HO5⟩
        · obtain rfl : k = 64 := by omega
          have d1 : decide (((64 : Nat) : Int) < 64) = false := by decide
          have s1 := HBP.out l 64 hlt (Nat.le_refl _)
          have hs := mix_set (invL b) z64 l hlt (invL_len _)
          rw [← bpart_all b l hlt] at hs
          have c3 := HOi.out.cell l (by rw [mix_len _ _ _ (invL_len _)]; exact hlt)
          generalize (mix (invL b) z64 l).getD l 0 = z0 at c3
          have f3 : wr.frozen? ⟨w.heap.size + 1 + 1, l, none⟩ = false := blk_frozen HOi.out l
          generalize bpart b l 64 = n at s1 hs ⊢
          have HS := Aside0.mk hs
          have k1 : IntKind.i64.wrap (2 * n) = 2 * n := IntWalk.i64_in _ (by omega)
          have k2 : IntKind.i64.wrap (2 * n + 78145600) = 2 * n + 78145600 := IntWalk.i64_in _ (by omega)
          have HF := Aside0.mk (floor_ref (2 * n + 78145600) 156291200 (by omega) (by omega) (by omega))
          have b1 : (0 : Int) ≤ (l : Int) := by omega
          have b2 : (l : Int) < 64 := by omega
          clear hs s1
          go_wp2_with fail
          refine (HF.out _).mono ?_
          rintro e w7 ⟨rfl, rfl⟩
          go_wp2_with fail
          go_roundw
          case measure => simp [intOf]; omega
          case rel =>
            have hO := HOi.out.set l (rnd n)
            rw [HS.out] at hO
            exact ⟨l + 1, by go_num, by omega, by simpa using hszi, ⟨below_set HBi.out (by omega)⟩, ⟨HXi.out.far (by omega) l _⟩, ⟨HRi.out.far (by omega) l _⟩, ⟨hO⟩⟩
    · obtain rfl : l = 64 := by omega
      have d0 : decide (((64 : Nat) : Int) < 64) = false := by decide
      have HO2 : Aside0 (Blk wr (w.heap.size + 1 + 1) (invL b)) := ⟨by
        have := HOr.out
        rwa [mix_all _ _ _ (by rw [invL_len]; omega) (by decide)] at this⟩
      go_wp2_with (first | (refine load_ar rfl _ rfl _ rfl (invL b) (invL_len _) HO2.out ?_) | (refine store_ar rfl _ _ rfl _ rfl z64 (invL b) rfl HRr.out rfl (invL_len _) ?_))
      refine bodyPost_ret (results_cell_row rfl _ _ (w.heap.size + 1) 22 (nums .i64 (invL b)).toArray (0, 0) _ rfl (HRr.out.setRow _) Tryd.underlying22 rfl (info22.trans (by simp [nums_length, invL_len]))) rfl ?_
      exact ⟨rfl, G08.below_setRow HBr.out (by omega) _⟩
end Go.Proofs.YtmbdjajmiggiaaaDoor.U08b
