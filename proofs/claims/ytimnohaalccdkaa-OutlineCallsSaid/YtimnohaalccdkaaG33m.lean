/- operate of the machine (chapter 33): function 56. -/
import Derived.Test.YtimnohaalccdkaaG33l
namespace Go.Proofs.Ytimnohaalccdkaa.G33m
open Go.Proofs.Ytimnohaalccdkaa Go.Proofs.Ytimnohaalccdkaa.K33 Go.Proofs.Ytimnohaalccdkaa.M33 Go.Proofs.Ytimnohaalccdkaa.G33a Go.Proofs.Ytimnohaalccdkaa.G33b Go.Proofs.Ytimnohaalccdkaa.G33c Go.Proofs.Ytimnohaalccdkaa.G33d Go.Proofs.Ytimnohaalccdkaa.G33h Go.Proofs.Ytimnohaalccdkaa.G33k Go.Proofs.Ytimnohaalccdkaa.G33l Go.Proofs.Ytimnohaalccdkaa.P33a
open Go.RowKit Go.Proofs.YtimnohaalccdkaaW.PrintWords Go.Proofs.YtimnohaalccdkaaW.PrintLast Go.Proofs.YtimnohaalccdkaaW.PrintMore
set_option linter.unusedVariables false
set_option linter.unusedSimpArgs false
set_option maxRecDepth 100000
theorem push_done {m m' : M} {n : Int} (h : push m n = .ok m') : m'.done = m.done := by
  unfold push at h
  split at h
  · cases h
  · injection h with h; subst h; rfl
theorem divM_done {m m' : M} (h : divM m = .ok m') : m'.done = m.done := by
  unfold divM at h
  split at h
  · cases h
  · have := push_done h; exact this
theorem popM_done {m m' : M} (h : popM m = .ok m') : m'.done = m.done := by
  unfold popM at h
  split at h
  · cases h
  · have := push_done h; exact this
theorem otherM_done {m m' : M} (h : otherM m = .ok m') : m'.done = m.done := by
  unfold otherM at h
  simp only at h
  split at h
  · cases h
  · unfold otherK bendM at h
    repeat' split at h
    all_goals first | (cases h; done) | (injection h with h; subst h; rfl)
/-- What operate answers. -/
def DidO (W0 : World) (b : Nat) (sb : Value) (r : Except Int (Bool × M)) (e : Ending) (w' : World) : Prop :=
  match r with
  | .error c => (∃ v, e = .returned (.tuple #[v, .int .i64 c])) ∧ (c = 26 ∨ c = 39) ∧ M33.Left W0 w' b
  | .ok (d, m) => e = .returned (.tuple #[.bool d, .int .i64 0]) ∧ Mach W0 w' b sb m
def tell (r : Except Int M) : Except Int (Bool × M) := match r with | .error c => .error c | .ok m => .ok (m.done, m)
def operL (call : M → Except Int M) (deep op : Int) (m : M) : Except Int (Bool × M) :=
  if 4000 ≤ m.count then .error 26
  else if op = 11 then (if deep = 0 then .error 39 else .ok (true, { m with count := m.count + 1 }))
  else tell (if op = 10 then call { m with count := m.count + 1 } else operM op { m with count := m.count + 1 })
set_option maxHeartbeats 8000000 in
theorem operate_call {W0 w : World} {b : Nat} {sb : Value} {m : M} {ss : List ByteArray} (hs : Strs W0 sb ss) (h : Mach W0 w b sb m) (hd : m.done = false) (deep op : Int) (hd0 : 0 ≤ deep) (go : Option (M → List Int → Except Int M))
    (hgo : (deep = 10 ∧ go = none) ∨ (deep < 10 ∧ ∃ g, go = some g ∧ Deeper W0 b sb deep g)) (ho0 : 0 ≤ op) (ho1 : op ≤ 511) (hop : isOp op = true) :
    Calls Try.prog 56 #[.pointer (some ⟨b, 0, none⟩), .int .i64 op, .int .i64 deep] w (DidO W0 b sb (operL (subrM (ss.map bytesOf) go) deep op m)) := by
  have hok := Mach.ok h
  obtain ⟨c14, f14⟩ := Mach.cell h 14 (.int .i64 m.count) (fun _ _ _ _ _ => rfl)
  obtain ⟨n0, n1⟩ := hok.count
  have HL := Aside0.mk (Left.set (Mach.left h) 14 (.int .i64 (m.count + 1)))
  by_cases h40 : 4000 ≤ m.count
  · have HE : Aside0 (operL (subrM (ss.map bytesOf) go) deep op m = .error 26) := ⟨by unfold operL; rw [if_pos h40]⟩
    have t0 : decide (4000 < m.count + 1) = true := decide_eq_true (by omega)
    clear hs h hgo hok hop hd
    go_enter Try.func56, Try.ntmps56
    go_wp2_with fail
    go_ret2
    rw [HE.out]
    exact ⟨⟨_, rfl⟩, .inl rfl, HL.out⟩
  have t0 : decide (4000 < m.count + 1) = false := decide_eq_false (by omega)
  obtain ⟨m1, hm1⟩ : ∃ m1, ({ m with count := m.count + 1 } : M) = m1 := ⟨_, rfl⟩
  have hM1 := Mach.set h 14 (.int .i64 (m.count + 1)) { m with count := m.count + 1 } (fun _ _ _ _ _ => rfl) rfl rfl rfl rfl rfl ⟨hok.stack, hok.small, hok.res, hok.rsmall, hok.steps, hok.stems, hok.points, hok.x, hok.y, hok.side, hok.width, ⟨by show 0 ≤ m.count + 1; omega, by show m.count + 1 ≤ 4000; omega⟩⟩
  have hd1 : m1.done = false := by rw [← hm1]; exact hd
  rw [hm1] at hM1
  have HM1 := Aside0.mk hM1
  have HE0 : Aside0 (operL (subrM (ss.map bytesOf) go) deep op m = if op = 11 then (if deep = 0 then .error 39 else .ok (true, m1)) else tell (if op = 10 then subrM (ss.map bytesOf) go m1 else operM op m1)) := ⟨by unfold operL; rw [if_neg h40, hm1]⟩
  have HD1 := Aside0.mk hd1
  have HS := Aside0.mk hs
  have HGO := Aside0.mk hgo
  clear h hok hd hm1 hM1 hd1 hs hgo h40
  by_cases k10 : op = 10
  · subst k10
    have HC := Aside0.mk (subr_call HS.out HM1.out HD1.out deep hd0 go HGO.out)
    have HE : Aside0 (operL (subrM (ss.map bytesOf) go) deep 10 m = tell (subrM (ss.map bytesOf) go m1)) := ⟨HE0.out⟩
    clear hop HE0
    go_enter Try.func56, Try.ntmps56
    go_wp2_with fail
    refine HC.out.mono ?_
    intro e w1 hdid
    cases hr : subrM (ss.map bytesOf) go m1 with
    | error c =>
      have HEE := Aside0.mk (HE.out.trans (show tell _ = .error c by rw [hr]; rfl))
      rw [hr] at hdid
      obtain ⟨rfl, hc, hl⟩ := hdid
      obtain ⟨v13, c13⟩ := Left.cell hl 13 (by decide)
      have HLL := Aside0.mk hl
      have HCC := Aside0.mk hc
      clear hl hc hr c14 f14
      go_wp2_with fail
      go_ret2
      rw [HEE.out]
      exact ⟨⟨_, rfl⟩, HCC.out, HLL.out⟩
    | ok m2 =>
      have HEE := Aside0.mk (HE.out.trans (show tell _ = .ok (m2.done, m2) by rw [hr]; rfl))
      rw [hr] at hdid
      obtain ⟨rfl, hm⟩ := hdid
      obtain ⟨c13, _⟩ := Mach.cell hm 13 (.bool m2.done) (fun _ _ _ _ _ => rfl)
      have HMM := Aside0.mk hm
      clear hm hr c14 f14
      go_wp2_with fail
      go_ret2
      rw [HEE.out]
      exact ⟨rfl, HMM.out⟩
  have t10 : (op == 10) = false := by simpa using k10
  by_cases k11 : op = 11
  · subst k11
    by_cases kd : deep = 0
    · subst kd
      have HE : Aside0 (operL (subrM (ss.map bytesOf) go) 0 11 m = .error 39) := ⟨HE0.out⟩
      clear hop HE0 k10
      go_enter Try.func56, Try.ntmps56
      go_wp2_with fail
      go_ret2
      rw [HE.out]
      exact ⟨⟨_, rfl⟩, .inr rfl, HL.out⟩
    · have td : (deep == 0) = false := by simpa using kd
      have HE : Aside0 (operL (subrM (ss.map bytesOf) go) deep 11 m = .ok (true, m1)) := ⟨by rw [HE0.out, if_pos rfl, if_neg kd]⟩
      clear hop HE0 k10 kd
      go_enter Try.func56, Try.ntmps56
      go_wp2_with fail
      go_ret2
      rw [HE.out]
      exact ⟨rfl, HM1.out⟩
  have t11 : (op == 11) = false := by simpa using k11
  have HE1 : Aside0 (operL (subrM (ss.map bytesOf) go) deep op m = tell (operM op m1)) := ⟨by rw [HE0.out, if_neg k11, if_neg k10]⟩
  clear HE0
  by_cases k268 : op = 268
  · subst k268
    have HC := Aside0.mk (divide_call HM1.out)
    have HE : Aside0 (operL (subrM (ss.map bytesOf) go) deep 268 m = tell (divM m1)) := ⟨HE1.out⟩
    clear hop HE1 k10 k11
    go_enter Try.func56, Try.ntmps56
    go_wp2_with fail
    refine HC.out.mono ?_
    intro e w1 hdid
    cases hr : divM m1 with
    | error c =>
      have HEE := Aside0.mk (HE.out.trans (show tell _ = .error c by rw [hr]; rfl))
      rw [hr] at hdid
      obtain ⟨rfl, hc, hl⟩ := hdid
      have HLL := Aside0.mk hl
      have HCC := Aside0.mk hc
      clear hl hc hr c14 f14
      go_wp2_with fail
      go_ret2
      rw [HEE.out]
      exact ⟨⟨_, rfl⟩, HCC.out, HLL.out⟩
    | ok m2 =>
      have HEE := Aside0.mk (HE.out.trans (show tell _ = .ok (m2.done, m2) by rw [hr]; rfl))
      rw [hr] at hdid
      obtain ⟨rfl, hm⟩ := hdid
      have HMM := Aside0.mk hm
      have HDD : Aside0 (m2.done = false) := ⟨by rw [divM_done hr]; exact HD1.out⟩
      clear hm hr c14 f14
      go_wp2_with fail
      go_ret2
      rw [HEE.out]
      exact ⟨by rw [HDD.out]; rfl, HMM.out⟩
  have t268 : (op == 268) = false := by simpa using k268
  by_cases k272 : op = 272
  · subst k272
    have HC := Aside0.mk (other_call HM1.out)
    have HE : Aside0 (operL (subrM (ss.map bytesOf) go) deep 272 m = tell (otherM m1)) := ⟨HE1.out⟩
    clear hop HE1 k10 k11 k268
    go_enter Try.func56, Try.ntmps56
    go_wp2_with fail
    refine HC.out.mono ?_
    intro e w1 hdid
    cases hr : otherM m1 with
    | error c =>
      have HEE := Aside0.mk (HE.out.trans (show tell _ = .error c by rw [hr]; rfl))
      rw [hr] at hdid
      obtain ⟨rfl, hc, hl⟩ := hdid
      have HLL := Aside0.mk hl
      have HCC := Aside0.mk hc
      clear hl hc hr c14 f14
      go_wp2_with fail
      go_ret2
      rw [HEE.out]
      exact ⟨⟨_, rfl⟩, HCC.out, HLL.out⟩
    | ok m2 =>
      have HEE := Aside0.mk (HE.out.trans (show tell _ = .ok (m2.done, m2) by rw [hr]; rfl))
      rw [hr] at hdid
      obtain ⟨rfl, hm⟩ := hdid
      have HMM := Aside0.mk hm
      have HDD : Aside0 (m2.done = false) := ⟨by rw [otherM_done hr]; exact HD1.out⟩
      clear hm hr c14 f14
      go_wp2_with fail
      go_ret2
      rw [HEE.out]
      exact ⟨by rw [HDD.out]; rfl, HMM.out⟩
  have t272 : (op == 272) = false := by simpa using k272
  by_cases k273 : op = 273
  · subst k273
    have HC := Aside0.mk (pop_call HM1.out)
    have HE : Aside0 (operL (subrM (ss.map bytesOf) go) deep 273 m = tell (popM m1)) := ⟨HE1.out⟩
    clear hop HE1 k10 k11 k268 k272
    go_enter Try.func56, Try.ntmps56
    go_wp2_with fail
    refine HC.out.mono ?_
    intro e w1 hdid
    cases hr : popM m1 with
    | error c =>
      have HEE := Aside0.mk (HE.out.trans (show tell _ = .error c by rw [hr]; rfl))
      rw [hr] at hdid
      obtain ⟨rfl, hc, hl⟩ := hdid
      have HLL := Aside0.mk hl
      have HCC := Aside0.mk hc
      clear hl hc hr c14 f14
      go_wp2_with fail
      go_ret2
      rw [HEE.out]
      exact ⟨⟨_, rfl⟩, HCC.out, HLL.out⟩
    | ok m2 =>
      have HEE := Aside0.mk (HE.out.trans (show tell _ = .ok (m2.done, m2) by rw [hr]; rfl))
      rw [hr] at hdid
      obtain ⟨rfl, hm⟩ := hdid
      have HMM := Aside0.mk hm
      have HDD : Aside0 (m2.done = false) := ⟨by rw [popM_done hr]; exact HD1.out⟩
      clear hm hr c14 f14
      go_wp2_with fail
      go_ret2
      rw [HEE.out]
      exact ⟨by rw [HDD.out]; rfl, HMM.out⟩
  have t273 : (op == 273) = false := by simpa using k273
  obtain ⟨n, hn⟩ : ∃ n, need op = some n := by
    unfold isOp at hop
    cases hn : need op with
    | some n => exact ⟨n, rfl⟩
    | none => rw [hn] at hop; simp at hop; omega
  have HC := Aside0.mk (path_call HM1.out ho0 ho1 hn)
  have HE : Aside0 (operL (subrM (ss.map bytesOf) go) deep op m = tell (pathM m1 op)) := ⟨by rw [HE1.out]; unfold operM; rw [if_neg k268, if_neg k272, if_neg k273]⟩
  clear hop HE1 k10 k11 k268 k272 k273 hn
  go_enter Try.func56, Try.ntmps56
  go_wp2_with fail
  refine HC.out.mono ?_
  intro e w1 hdid
  cases hr : pathM m1 op with
  | error c =>
    have HEE := Aside0.mk (HE.out.trans (show tell _ = .error c by rw [hr]; rfl))
    rw [hr] at hdid
    obtain ⟨rfl, hc, hl⟩ := hdid
    obtain ⟨v13, c13⟩ := Left.cell hl 13 (by decide)
    have HLL := Aside0.mk hl
    have HCC := Aside0.mk hc
    clear hl hc hr c14 f14
    go_wp2_with fail
    go_ret2
    rw [HEE.out]
    exact ⟨⟨_, rfl⟩, HCC.out, HLL.out⟩
  | ok m2 =>
    have HEE := Aside0.mk (HE.out.trans (show tell _ = .ok (m2.done, m2) by rw [hr]; rfl))
    rw [hr] at hdid
    obtain ⟨rfl, hm⟩ := hdid
    obtain ⟨c13, _⟩ := Mach.cell hm 13 (.bool m2.done) (fun _ _ _ _ _ => rfl)
    have HMM := Aside0.mk hm
    clear hm hr c14 f14
    go_wp2_with fail
    go_ret2
    rw [HEE.out]
    exact ⟨rfl, HMM.out⟩
end Go.Proofs.Ytimnohaalccdkaa.G33m
