/- Subroutines of the machine (chapter 33): subr 69. -/
import Derived.Test.YtimnohaalccdkaaG33k
import Derived.StillTailTactics
namespace Go.Proofs.Ytimnohaalccdkaa.G33l
open Go.Proofs.Ytimnohaalccdkaa Go.Proofs.Ytimnohaalccdkaa.K33 Go.Proofs.Ytimnohaalccdkaa.M33 Go.Proofs.Ytimnohaalccdkaa.G33a Go.Proofs.Ytimnohaalccdkaa.G33b Go.Proofs.Ytimnohaalccdkaa.G33c Go.Proofs.Ytimnohaalccdkaa.G33d Go.Proofs.Ytimnohaalccdkaa.G33r Go.Proofs.Ytimnohaalccdkaa.G33h Go.Proofs.Ytimnohaalccdkaa.O33 Go.Proofs.Ytimnohaalccdkaa.N33 Go.Proofs.Ytimnohaalccdkaa.G33i Go.Proofs.Ytimnohaalccdkaa.G33j Go.Proofs.Ytimnohaalccdkaa.P33a
open Go.RowKit Go.Proofs.YtimnohaalccdkaaW.PrintWords Go.Proofs.YtimnohaalccdkaaW.PrintLast Go.Proofs.YtimnohaalccdkaaW.PrintMore
set_option linter.unusedVariables false
set_option linter.unusedSimpArgs false
set_option maxRecDepth 100000
/-- A slice of strings that lies there for good. -/
def Strs (W0 : World) (sb : Value) (ss : List ByteArray) : Prop :=
  ∃ A c, sb = .slice A ss.length c ∧ ss.length ≤ 200 ∧ (∀ s ∈ ss, s.size ≤ 4000) ∧ ∀ W, Below W0.heap.size W0 W → ∀ (i : Nat) (s : ByteArray), ss[i]? = some s → ∃ g off, A = some ⟨g, off, none⟩ ∧ W.cell? ⟨g, off + i, none⟩ = some (.string s)
def goM (go : Option (M → List Int → Except Int M)) (m : M) (l : List Int) : Except Int M := match go with | none => .error 26 | some g => g m l
/-- What a subroutine of the next depth does. -/
def Deeper (W0 : World) (b : Nat) (sb : Value) (deep : Int) (g : M → List Int → Except Int M) : Prop :=
  ∀ (w : World) (m : M) (s : ByteArray), Mach W0 w b sb m → m.done = false → s.size ≤ 4000 → Calls Try.prog 37 #[.pointer (some ⟨b, 0, none⟩), .string s, .int .i64 (deep + 1)] w (Did W0 b sb (g m (bytesOf s)))
set_option maxHeartbeats 8000000 in
theorem subr_call {W0 w : World} {b : Nat} {sb : Value} {m : M} {ss : List ByteArray} (hs : Strs W0 sb ss) (h : Mach W0 w b sb m) (hd : m.done = false) (deep : Int) (hd0 : 0 ≤ deep) (go : Option (M → List Int → Except Int M))
    (hgo : (deep = 10 ∧ go = none) ∨ (deep < 10 ∧ ∃ g, go = some g ∧ Deeper W0 b sb deep g)) :
    Calls Try.prog 69 #[.pointer (some ⟨b, 0, none⟩), .int .i64 deep] w (Did W0 b sb (subrM (ss.map bytesOf) go m)) := by
  have HT := Aside0.mk (take_call h 1 (by decide))
  have HL := Aside0.mk (Mach.left h)
  have HOK := Aside0.mk (Mach.ok h)
  have HGO := Aside0.mk hgo
  have HS := Aside0.mk hs
  have HD := Aside0.mk hd
  clear h hgo hs hd
  by_cases hl : m.stack.length = 0
  · have HE : Aside0 (subrM (ss.map bytesOf) go m = .error 39) := ⟨by unfold subrM; simp only; rw [if_pos (.inl hl)]⟩
    have HF : Aside0 (m.stack.length < 1) := ⟨by omega⟩
    rw [HE.out]
    clear hl HE
    go_enter Try.func69, Try.ntmps69
    go_wp2_with fail
    refine HT.out.mono ?_
    intro e w1 ht
    unfold Took at ht
    rw [if_pos HF.out] at ht
    obtain ⟨rfl, rfl⟩ := ht
    go_wp2_with fail
    go_quiet (fail)
    go_wp2_with fail
    go_ret
    exact ⟨rfl, .inr rfl, HL.out.below (pw_below_drewN (Below.refl _ _) _)⟩
  have HF : Aside0 (¬ m.stack.length < 1) := ⟨by omega⟩
  have HLL := Aside0.mk hl
  obtain ⟨i, hi⟩ : ∃ i, m.stack.getD (m.stack.length - 1) 0 = i := ⟨_, rfl⟩
  have hd1 : m.stack.drop (m.stack.length - 1) = [i] := by
    have hlt : m.stack.length - 1 < m.stack.length := by omega
    rw [List.drop_eq_getElem_cons hlt, List.drop_eq_nil_of_le (by omega), ← hi, List.getD_eq_getElem?_getD, List.getElem?_eq_getElem hlt]
    rfl
  have hsi := getD_small HOK.out.small (m.stack.length - 1)
  rw [hi] at hsi
  have HD1 := Aside0.mk hd1
  have HE : Aside0 (subrM (ss.map bytesOf) go m = if m.stack.length = 0 ∨ i < 0 ∨ (ss.length : Int) ≤ i then .error 39 else goM go { m with stack := m.stack.take (m.stack.length - 1) } ((ss.map bytesOf).getD i.toNat [])) := ⟨by unfold subrM goM; simp only; rw [hi, List.length_map]; cases go <;> rfl⟩
  clear hl hi hd1
  obtain ⟨As, cs, rfl, hs200, hs4, hcell⟩ := HS.out
  have HCE := Aside0.mk hcell
  have HS4 := Aside0.mk hs4
  clear hcell hs4
  go_enter Try.func69, Try.ntmps69
  go_wp2_with fail
  refine HT.out.mono ?_
  intro e w1 ht
  unfold Took at ht
  rw [if_neg HF.out, HD1.out] at ht
  obtain ⟨A, c, rfl, hc, hA, hml, _, _⟩ := ht
  have HM := Aside0.mk hml.mach
  obtain ⟨g, off, rfl, hxx⟩ := ints_cells hml.ints (by simp)
  have l0 : w1.cell? ⟨g, off, none⟩ = some (.int .i64 i) := by simpa using hxx 0 (by simp)
  obtain ⟨c7, _⟩ := MachL.cell hml 7 (.slice As ss.length cs) (fun _ _ _ _ _ => rfl)
  have HLM := Aside0.mk (Mach.left hml.mach)
  clear hml hxx hA hc HT
  by_cases hi0 : i < 0
  · have t0 : decide (i < 0) = true := decide_eq_true hi0
    have HE2 : Aside0 (subrM (ss.map bytesOf) go m = .error 39) := ⟨by rw [HE.out, if_pos (.inr (.inl hi0))]⟩
    clear hi0
    go_wp2_with fail
    go_quiet (fail)
    go_wp2_with fail
    go_ret
    rw [HE2.out]
    exact ⟨rfl, .inr rfl, HLM.out.below (pw_below_drewN (Below.refl _ _) _)⟩
  have t0 : decide (i < 0) = false := decide_eq_false hi0
  by_cases hi1 : (ss.length : Int) ≤ i
  · have t1 : decide ((ss.length : Int) ≤ i) = true := decide_eq_true hi1
    have HE2 : Aside0 (subrM (ss.map bytesOf) go m = .error 39) := ⟨by rw [HE.out, if_pos (.inr (.inr hi1))]⟩
    clear hi0 hi1
    go_wp2_with fail
    go_quiet (fail)
    go_wp2_with fail
    go_ret
    rw [HE2.out]
    exact ⟨rfl, .inr rfl, HLM.out.below (pw_below_drewN (Below.refl _ _) _)⟩
  have t1 : decide ((ss.length : Int) ≤ i) = false := decide_eq_false hi1
  obtain ⟨j, rfl⟩ := Int.eq_ofNat_of_zero_le (show 0 ≤ i by omega)
  have hj : j < ss.length := by omega
  have t1n : decide (ss.length ≤ j) = false := decide_eq_false (by omega)
  have HE2 : Aside0 (subrM (ss.map bytesOf) go m = goM go { m with stack := m.stack.take (m.stack.length - 1) } (bytesOf (ss[j]'hj))) := ⟨by
    rw [HE.out, if_neg (by have := HLL.out; omega)]
    congr 1; simp [List.getD_eq_getElem?_getD, List.getElem?_map, List.getElem?_eq_getElem hj]⟩
  clear HE hi0 hi1
  rcases HGO.out with ⟨rfl, rfl⟩ | ⟨hlt, gg, rfl, hdeep⟩
  · clear hd0 hsi hs200
    go_wp2_with fail
    go_quiet (fail)
    go_wp2_with fail
    go_ret
    rw [HE2.out]
    exact ⟨rfl, .inl rfl, HLM.out.below (pw_below_drewN (Below.refl _ _) _)⟩
  · have t10 : (deep == 10) = false := by simp; omega
    have HDP := Aside0.mk hdeep
    have hcc : ∀ q : Nat, ∃ g2 off2, As = some ⟨g2, off2, none⟩ ∧ (w1.drewN q).cell? ⟨g2, off2 + j, none⟩ = some (.string (ss[j]'hj)) := fun q => HCE.out _ (below_then HM.out.1 HM.out.1.size (pw_below_drewN (Below.refl _ _) _)) j _ (List.getElem?_eq_getElem hj)
    obtain ⟨g2, off2, rfl, _⟩ := hcc 0
    have hcd : w1.cell? ⟨g2, off2 + j, none⟩ = some (.string (ss[j]'hj)) := by
      obtain ⟨g3, off3, e3, h3⟩ := hcc 0
      cases e3
      exact h3
    have HZ := Aside0.mk (HS4.out _ (List.getElem_mem hj))
    obtain ⟨sj, hsj⟩ : ∃ sj, ss[j]'hj = sj := ⟨_, rfl⟩
    rw [hsj] at hcd HE2 HZ
    clear hcc hsj
    go_wp2_with fail
    go_quiet (fail)
    go_wp2_with fail
    have HMQ := Aside0.mk (HM.out.below (pw_below_drewN (Below.refl _ _) nq))
    have l0' : (w1.drewN nq).cell? ⟨g, off, none⟩ = some (.int .i64 j) := l0
    have c7' : (w1.drewN nq).cell? ⟨b, 7, none⟩ = some (.slice (some ⟨g2, off2, none⟩) ss.length cs) := c7
    have hcd' : (w1.drewN nq).cell? ⟨g2, off2 + j, none⟩ = some (.string sj) := hcd
    clear l0 c7 hcd
    obtain ⟨w5, hw5⟩ : ∃ w5, w1.drewN nq = w5 := ⟨_, rfl⟩
    rw [hw5] at HMQ l0' c7' hcd' ⊢
    clear hw5
    have hjj : (j < ss.length) = True := eq_true hj
    have hjn : ((j : Int)).toNat = j := by simp
    go_still_tail 12, (by kernel_rfl)
    change wpList _ _ _ _ _ w5.drew
    have HC := Aside0.mk (HDP.out w5.drew { m with stack := m.stack.take (m.stack.length - 1) } sj (Mach.drew HMQ.out) HD.out HZ.out)
    have kw : IntKind.i64.wrap (deep + 1) = deep + 1 := by rw [IntKind.wrap_i64]; omega
    generalize w5.drew = w6 at HC ⊢
    clear l0' c7' hcd' hjj hjn t0 t1 t1n t10 hd0 hlt hsi HMQ
    go_wp2_with fail
    refine HC.out.mono ?_
    intro e w2 hdid
    obtain ⟨rfl, hfin⟩ := did_split hdid
    have HFI := Aside0.mk hfin
    clear hdid hfin
    go_wp2_with fail
    go_ret
    rw [HE2.out]
    exact did_join HFI.out
end Go.Proofs.Ytimnohaalccdkaa.G33l
