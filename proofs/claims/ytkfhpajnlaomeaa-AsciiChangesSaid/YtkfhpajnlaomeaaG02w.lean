/- The decoder of base 85: ascii.Unbase85, walked. (Written by a program out of the text on Unhex.) -/
import Derived.Test.YtkfhpajnlaomeaaG02i
import Derived.Test.YtkfhpajnlaomeaaG02v
import Derived.Test.YtkfhpajnlaomeaaG02r
import Derived.Test.YtkfhpajnlaomeaaS02
import Derived.WalkMore
import Derived.Laws.EntriesVeiled
import Derived.Maps.OwnIn
import Derived.Shelf.RegionOpen
namespace Go.Proofs.Ytkfhpajnlaomeaa.G02w
open Go.RowKit Go.Proofs.YtkfhpajnlaomeaaW.PrintWords Go.Proofs.YtkfhpajnlaomeaaW.PrintLast Go.Proofs.YtkfhpajnlaomeaaW.PrintMore
open Go.Proofs.Ytkfhpajnlaomeaa.K02 Go.Proofs.Ytkfhpajnlaomeaa.B02 Go.Proofs.Ytkfhpajnlaomeaa.M02 Go.Proofs.Ytkfhpajnlaomeaa.G02i Go.Proofs.Ytkfhpajnlaomeaa.G02t Go.Proofs.Ytkfhpajnlaomeaa.G02v
open Go.Proofs.Ytkfhpajnlaomeaa.G02r (solid_call heap_alloc own8_kept Fq Fq.refl Fq.mv Fq.weak Fq.set Fq.grown Fq.below below_put put_cell)
set_option linter.unusedVariables false
set_option maxRecDepth 100000
attribute [local go_sem] Oper.semAt_some
/-- The world in which the loop begins. -/
structure Start (s : ByteArray) (D : Nat) (w W0 : World) (take : Value) : Prop where
  size : W0.heap.size = D + 10
  below : Below (D + 1) w W0
  d : W0.heap[D + 1]? = some (.cells #[.pointer (some ⟨D, 0, none⟩)] 67 (0, 0))
  f : W0.heap[D + 2]? = some (.cells #[take] 68 (0, 0))
  r1 : W0.heap[D + 3]? = some (.cells #[.string ⟨#[]⟩] 9 (0, 0))
  r2 : W0.heap[D + 4]? = some (.cells #[.int .i64 0] 3 (0, 0))
  r3 : W0.heap[D + 5]? = some (.cells #[.int .i64 0] 25 (0, 0))
  b : W0.heap[D + 6]? = some (.cells #[.slice none 0 0] 32 (0, 0))
  e : W0.heap[D + 7]? = some (.cells #[EMT (D + 6)] 78 (0, 0))
  a : W0.heap[D + 8]? = some (.cells #[.int .i64 0] 3 (0, 0))
  s : W0.heap[D + 9]? = some (.cells #[.string s] 9 (0, 0))
theorem start (s : ByteArray) (D : Nat) (w : World) (hD : w.heap.size = D + 1) (take : Value) : Start s D w (((((((((w.alloc (.cells #[.pointer (some ⟨D, 0, none⟩)] 67)).alloc (.cells #[take] 68)).alloc (.cells #[.string ⟨#[]⟩] 9)).alloc (.cells #[.int .i64 0] 3)).alloc (.cells #[.int .i64 0] 25)).alloc (.cells #[.slice none 0 0] 32)).alloc (.cells #[.func (.func 47) #[] #[.pointer (some ⟨D + 6, 0, none⟩)]] 78)).alloc (.cells #[.int .i64 0] 3)).alloc (.cells #[.string s] 9)) take := by
  refine ⟨by simp [hD], ?_, ?_, ?_, ?_, ?_, ?_, ?_, ?_, ?_, ?_⟩
  · repeat' first | exact Below.refl _ _ | refine Below.alloc ?_ (by simp [hD]) _
  all_goals simp only [heap_alloc, Array.getElem?_push, Array.size_push, hD, Nat.add_assoc, Nat.reduceAdd, Nat.add_left_cancel_iff, Nat.reduceEqDiff, if_true, if_false, EMT]
theorem TS_grown {W W' : World} {base D bo : Nat} {h : Tens} {row : Option Nat} (k : TS W base D bo h) (hg : W.grownBy W' row) (hr : ∀ r, row = some r → base ≤ r ∧ ∃ o : Obj, W.heap[r]? = some o ∧ o.isCells = false) : TS W' base D bo h := by
  obtain ⟨⟨pv, v, h1, h2, h3, h4, h5⟩, k1, k2, k3, k4, k5, k6⟩ := k
  exact ⟨⟨pv, v, blk_grown h1 hg (fun e => by have := (hr D e.symm).1; omega), blk_grown h2 hg (fun e => by have := (hr bo e.symm).1; omega), own8_kept h3 hg (fun r e => (hr r e).2), own8_kept h4 hg (fun r e => (hr r e).2), h5⟩, k1, k2, k3, Nat.le_trans k4 hg.size, k5, k6⟩
theorem Bx_grown {W W' : World} {base bo : Nat} {L : List Int} {row : Option Nat} (k : Bx W base bo L) (hg : W.grownBy W' row) (hr : ∀ r, row = some r → base ≤ r ∧ ∃ o : Obj, W.heap[r]? = some o ∧ o.isCells = false) : Bx W' base bo L := by
  obtain ⟨⟨v, h1, h2⟩, h3, h4⟩ := k
  exact ⟨⟨v, blk_grown h1 hg (fun e => by have := (hr bo e.symm).1; omega), own8_kept h2 hg (fun r e => (hr r e).2)⟩, h3, Nat.le_trans h4 hg.size⟩
def init : Tens := ⟨[], false, []⟩
def II (D : Nat) (W0 : World) (pre : List Ch) (W : World) : Prop :=
  ∃ h, go takeT (vals pre) init = some h ∧ TS W (D + 10) D (D + 6) h ∧ Fq (fun i => i = D ∨ i = D + 6) (D + 10) W0 W
/-- How a round may end the loop. -/
def IX (D : Nat) (W0 : World) (c : Code) (pre : List Ch) (W : World) : Prop :=
  ∃ (p0 : List Ch) (x : Ch) (h : Tens), pre = p0 ++ [x] ∧ go takeT (vals p0) init = some h ∧
    ((c = .exit 0 ∧ ∃ h', takeT h x.1.2 = some (h', true) ∧ Bx W (D + 10) (D + 6) h'.out ∧ W.heap[D + 8]? = some (.cells #[.int .i64 (x.1.1 + 1)] 3 (0, 0)) ∧ Fq (fun i => i = D ∨ i = D + 6 ∨ i = D + 8) (D + 10) W0 W) ∨
     (c = .ret ∧ takeT h x.1.2 = none ∧ W.heap[D + 3]? = some (.cells #[.string ⟨#[]⟩] 9 (0, 0)) ∧ W.heap[D + 4]? = some (.cells #[.int .i64 0] 3 (0, 0)) ∧ W.heap[D + 5]? = some (.cells #[.int .i64 5] 25 (0, 0)) ∧ Fq (fun i => i = D ∨ i = D + 6 ∨ i = D + 3 ∨ i = D + 4 ∨ i = D + 5) (D + 10) W0 W))
theorem II_own (D : Nat) (W0 : World) (h5 : W0.heap.size = D + 10) : OwnFrom W0.heap.size (II D W0) := by
  intro pre W W' row ⟨h, h1, h2, h3⟩ hg hr
  rw [h5] at hr
  exact ⟨h, h1, TS_grown h2 hg hr, h3.grown (by omega) hg (fun r e => (hr r e).1)⟩
theorem IX_own (D : Nat) (W0 : World) (h5 : W0.heap.size = D + 10) (c : Code) : OwnFrom W0.heap.size (IX D W0 c) := by
  intro pre W W' row ⟨p0, x, h, h1, h2, h3⟩ hg hr
  rw [h5] at hr
  have hne : ∀ k, k < D + 10 → some k ≠ row := fun k hk e => by have := (hr k e.symm).1; omega
  refine ⟨p0, x, h, h1, h2, ?_⟩
  rcases h3 with ⟨hc, h', k1, k2, k3, k4⟩ | ⟨hc, k1, k2, k3, k4, k5⟩
  · exact .inl ⟨hc, h', k1, Bx_grown k2 hg hr, blk_grown k3 hg (hne _ (by omega)), k4.grown (by omega) hg (fun r e => (hr r e).1)⟩
  · exact .inr ⟨hc, k1, blk_grown k2 hg (hne _ (by omega)), blk_grown k3 hg (hne _ (by omega)), blk_grown k4 hg (hne _ (by omega)), k5.grown (by omega) hg (fun r e => (hr r e).1)⟩
theorem close_len (t t' : Tens) (b : Bool) (h : close t = some (t', b)) : t'.out.length ≤ t.out.length + 4 := by
  unfold close at h
  split at h
  · cases h
  · split at h
    · simp only at h
      split at h
      · cases h; simp [four]; omega
      · cases h
    · cases h; omega
theorem take_len (t t' : Tens) (c : Int) (b : Bool) (h : takeT t c = some (t', b)) : t'.out.length ≤ t.out.length + 4 := by
  unfold takeT at h
  split at h
  · split at h
    · exact close_len _ _ _ h
    · cases h
  · split at h
    · cases h; simp
    · split at h
      · split at h
        · cases h
        · cases h; simp
      · split at h
        · cases h
        · split at h
          · split at h
            · cases h; simp [four]
            · cases h
          · cases h; simp
theorem go_len : ∀ (l : List (Nat × Int)) (h h' : Tens), go takeT l h = some h' → h'.out.length ≤ h.out.length + 4 * l.length
  | [], h, h', e => by cases e; simp
  | (i, c) :: r, h, h', e => by
    unfold go at e
    cases ht : takeT h c with
    | none => rw [ht] at e; cases e
    | some q =>
      obtain ⟨h1, b⟩ := q
      rw [ht] at e
      cases b with
      | true => cases e
      | false =>
        have := go_len r h1 h' e
        have h2 := take_len _ _ _ _ ht
        simp only [List.length_cons]
        omega
theorem run_tens (s : ByteArray) (D : Nat) (w : World) (hD : w.heap.size = D + 1) (hd : w.heap[D]? = some (.cells #[.slice none 0 0, .bool false] 66 (0, 0))) (hs : s.size ≤ 65536) (r1 : ByteArray) (r2 r3 : Int)
    (hr : fin ((rd takeT (sol (bytesOf s) 0) init).map (fun q => (q.1.out, q.2))) = (r1, r2, r3)) :
    Calls Try.prog 33 #[.string s, .pointer (some ⟨D, 0, none⟩), .func (.func 34) #[] #[]] w fun e w' => e = .returned (.tuple #[.string r1, .int .i64 r2, .int .i64 r3]) ∧ Below D w w' := by
  have b0 : decide (65536 < s.size) = false := decide_eq_false (by omega)
  have hmf : ∀ (fn : Fn) (first cap : Array Value) (w : World), (Instr.makeFunc fn first cap).run Try.prog w = .ok (.func fn first cap) w := fun _ _ _ _ => rfl
  have HD := Aside0.mk hD
  have HDD := Aside0.mk hd
  have HR := Aside0.mk hr
  clear hD hd hr
  refine (callsIn_wide (n := 9)).1 ?_
  refine callsIn_of_wp_marks Try.func33 rfl trivial ?_ rfl
  simp only [Try.ntmps33, List.size_toArray, List.length_cons, List.length_nil, Nat.reduceAdd, Nat.reduceSub, Array.replicate_succ, Array.replicate_zero, List.push_toArray, List.append_toArray, List.nil_append, List.cons_append]
  gi_wp2_with fail
  apply S02.wpIn_scope
  gi_wp2_with fail
  apply wpIn_label
  gi_wp2_with fail
  refine ⟨trivial, callsIn_wide.2 ((solid_call _ _).mono ?_)⟩
  rintro e w1 ⟨rfl, rfl⟩
  gi_wp2_with fail
  have hst := start s D w HD.out (.func (.func 34) #[] #[])
  simp only [HD.out, Nat.add_assoc, Nat.reduceAdd]
  obtain ⟨W0, hW0⟩ : ∃ W0, (((((((((w.alloc (.cells #[.pointer (some ⟨D, 0, none⟩)] 67)).alloc (.cells #[.func (.func 34) #[] #[]] 68)).alloc (.cells #[.string ⟨#[]⟩] 9)).alloc (.cells #[.int .i64 0] 3)).alloc (.cells #[.int .i64 0] 25)).alloc (.cells #[.slice none 0 0] 32)).alloc (.cells #[.func (.func 47) #[] #[.pointer (some ⟨D + 6, 0, none⟩)]] 78)).alloc (.cells #[.int .i64 0] 3)).alloc (.cells #[.string s] 9)) = W0 := ⟨_, rfl⟩
  rw [hW0] at hst ⊢
  clear hW0
  have hd0 : W0.heap[D]? = some (.cells #[.slice none 0 0, .bool false] 66 (0, 0)) := (hst.below.block D (by omega)).trans HDD.out
  have hh0 : TS W0 (D + 10) D (D + 6) init := ⟨⟨_, _, hd0, hst.b, own_nil _ _ _ _, own_nil _ _ _ _, .inl rfl⟩, by omega, by omega, by omega, by rw [hst.size]; exact Nat.le_refl _, fun x hx => by simp [init] at hx, by simp [init]⟩
  have hstops := solid_stops 8 (by decide) (D + 9) s W0 hst.s hs
  refine wpIn_rangeFunc_ownF (n := 9) rfl (by decide) (gf := 55) (lb := #[.pointer (some ⟨D + 9, 0, none⟩)]) rfl trivial (enters_of Try.func55 (by kernel_rfl) rfl) hstops Kp_t (Kp_b (by rw [hst.size]; omega)) (Below.refl _ _) (fun _ => rfl) (II D W0) (IX D W0) (II_own _ _ hst.size) (IX_own _ _ hst.size) ⟨init, rfl, hh0, Fq.refl _ _ _⟩
    ?a1 ?assign ?body ?done ?stop
  case assign =>
    intro l x W K hK
    unfold enc
    gi_wp2
    exact hK
  case body =>
    rintro l pre ⟨⟨i, c⟩, hc0, hc1, hi⟩ W ⟨h, hgo, hhs, hfq⟩ hN
    simp only at hc0 hc1 hi
    have k1 : W.cell? ⟨D + 2, 0, none⟩ = some (.func (.func 34) #[] #[]) := blk_cell ((hfq.block (D + 2) (by omega) (by omega)).trans hst.f) 0
    have k2 : W.cell? ⟨D + 1, 0, none⟩ = some (.pointer (some ⟨D, 0, none⟩)) := blk_cell ((hfq.block (D + 1) (by omega) (by omega)).trans hst.d) 0
    have k3 : W.cell? ⟨D + 7, 0, none⟩ = some (.func (.func 47) #[] #[.pointer (some ⟨D + 6, 0, none⟩)]) := blk_cell ((hfq.block (D + 7) (by omega) (by omega)).trans hst.e) 0
    have hlen := go_len _ _ _ hgo
    have HST := Aside0.mk hst
    have HFQ := Aside0.mk hfq
    have HGO := Aside0.mk hgo
    clear hst hfq hgo hstops hh0 hd0
    gi_wp2_with fail
    refine ⟨trivial, CallsIn.inRound l (callsIn_wide.2 ((take_tens (D + 10) D (D + 6) h c W hhs hc0 hc1 (by have hvl : (vals pre).length = pre.length := List.length_map _; have : init.out.length = 0 := rfl; omega)).mono ?_))⟩
    rintro e w1 ⟨hmv, hpost⟩
    have HMV := Aside0.mk hmv
    clear hmv k1 k2 k3
    cases ht : takeT h c with
    | none =>
      rw [ht] at hpost
      simp only at hpost
      subst hpost
      have HT := Aside0.mk ht
      have e1 := (HMV.out.block (D + 3) (by omega) (by omega) (by omega)).trans ((HFQ.out.block (D + 3) (by omega) (by omega)).trans HST.out.r1)
      have e2 := (HMV.out.block (D + 4) (by omega) (by omega) (by omega)).trans ((HFQ.out.block (D + 4) (by omega) (by omega)).trans HST.out.r2)
      have e3 := (HMV.out.block (D + 5) (by omega) (by omega) (by omega)).trans ((HFQ.out.block (D + 5) (by omega) (by omega)).trans HST.out.r3)
      have m1 : w1.cell? ⟨D + 3, 0, none⟩ = some (.string ⟨#[]⟩) := blk_cell e1 0
      have m2 : w1.cell? ⟨D + 4, 0, none⟩ = some (.int .i64 0) := blk_cell e2 0
      have m3 : w1.cell? ⟨D + 5, 0, none⟩ = some (.int .i64 0) := blk_cell e3 0
      have f1 := blk_frozen e1 0
      have f2 := blk_frozen e2 0
      have f3 := blk_frozen e3 0
      have E1 := Aside0.mk e1
      have E2 := Aside0.mk e2
      have E3 := Aside0.mk e3
      clear e1 e2 e3 ht
      gi_wp2_with fail
      refine ⟨((HMV.out.others.trans (KeepsOthers.setCell _ _ _)).trans (KeepsOthers.setCell _ _ _)).trans (KeepsOthers.setCell _ _ _), pre, _, h, rfl, HGO.out, .inr ⟨rfl, HT.out, ?_, ?_, ?_, ?_⟩⟩
      · exact far (far (blk_set E1.out 0 _) (by omega) _) (by omega) _
      · exact far (blk_set (far E2.out (by omega) _) 0 _) (by omega) _
      · exact blk_set (far (far E3.out (by omega) _) (by omega) _) 0 _
      · exact ((((HFQ.out.weak (q := fun i => i = D ∨ i = D + 6 ∨ i = D + 3 ∨ i = D + 4 ∨ i = D + 5) (fun i hi => by omega)).mv HMV.out (by omega) (by omega)).set (D + 3) 0 (by omega) _).set (D + 4) 0 (by omega) _).set (D + 5) 0 (by omega) _
    | some q =>
      obtain ⟨h', b⟩ := q
      have HT := Aside0.mk ht
      rw [ht] at hpost
      cases b with
      | true =>
        simp only at hpost
        obtain ⟨rfl, hs'⟩ := hpost
        have e1 := (HMV.out.block (D + 8) (by omega) (by omega) (by omega)).trans ((HFQ.out.block (D + 8) (by omega) (by omega)).trans HST.out.a)
        have m1 : w1.cell? ⟨D + 8, 0, none⟩ = some (.int .i64 0) := blk_cell e1 0
        have f1 := blk_frozen e1 0
        have E1 := Aside0.mk e1
        have HS' := Aside0.mk hs'
        clear e1 ht hs'
        gi_wp2_with fail
        refine ⟨HMV.out.others.trans (KeepsOthers.setCell _ _ _), pre, _, h, rfl, HGO.out, .inl ⟨rfl, h', HT.out, HS'.out.set (D + 8) 0 (by omega) (by omega) _, blk_set E1.out 0 _, ?_⟩⟩
        exact ((HFQ.out.weak (q := fun i => i = D ∨ i = D + 6 ∨ i = D + 8) (fun i hi => by omega)).mv HMV.out (by omega) (by omega)).set (D + 8) 0 (by omega) _
      | false =>
        simp only at hpost
        obtain ⟨rfl, hs'⟩ := hpost
        have HS' := Aside0.mk hs'
        clear ht hs'
        gi_wp2_with fail
        refine ⟨HMV.out.others, HMV.out.block (D + 9) (by omega) (by omega) (by omega), h', ?_, HS'.out, HFQ.out.mv HMV.out (.inl rfl) (.inr rfl)⟩
        rw [vals_snoc, go_snoc takeT _ _ _ _ HGO.out]
        simp only [HT.out]
  case done =>
    rintro E xs W hE hS ⟨h, hgo, hhs, hfq⟩ hK
    have hrd : rd takeT (sol (bytesOf s) 0) init = none := by
      have := rd_go takeT (vals xs) [] _ _ hgo
      rw [List.append_nil, hS] at this
      exact this
    have hr := HR.out
    rw [hrd] at hr
    obtain ⟨rfl, h2⟩ := Prod.mk.inj hr
    obtain ⟨rfl, rfl⟩ := Prod.mk.inj h2
    have e0 := (hfq.block (D + 8) (by omega) (by omega)).trans hst.a
    have e1 := (hfq.block (D + 3) (by omega) (by omega)).trans hst.r1
    have e2 := (hfq.block (D + 4) (by omega) (by omega)).trans hst.r2
    have e3 := (hfq.block (D + 5) (by omega) (by omega)).trans hst.r3
    have m0 : W.cell? ⟨D + 8, 0, none⟩ = some (.int .i64 0) := blk_cell e0 0
    have m1 : W.cell? ⟨D + 3, 0, none⟩ = some (.string ⟨#[]⟩) := blk_cell e1 0
    have m2 : W.cell? ⟨D + 4, 0, none⟩ = some (.int .i64 0) := blk_cell e2 0
    have m3 : W.cell? ⟨D + 5, 0, none⟩ = some (.int .i64 0) := blk_cell e3 0
    have f1 := blk_frozen e1 0
    have f2 := blk_frozen e2 0
    have f3 := blk_frozen e3 0
    have E1 := Aside0.mk e1
    have E2 := Aside0.mk e2
    have E3 := Aside0.mk e3
    have HST := Aside0.mk hst
    have HFQ := Aside0.mk hfq
    have HK := Aside0.mk hK
    clear e0 e1 e2 e3 hst hfq hstops hh0 hd0 hhs hgo hrd hr h2 hS hK
    gi_wp2_with fail
    have hK' := far (j := 0) (far (j := 0) (far (j := 0) HK.out (b := E) (g := D + 3) (by have := HST.out.size; omega) (.string ⟨#[]⟩)) (g := D + 4) (by have := HST.out.size; omega) (.int .i64 0)) (g := D + 5) (by have := HST.out.size; omega) (.int .i64 5)
    have y1 := far (j := 0) (far (j := 0) (blk_set E1.out 0 (.string ⟨#[]⟩)) (g := D + 4) (by omega) (.int .i64 0)) (g := D + 5) (by omega) (.int .i64 5)
    have y2 := far (j := 0) (blk_set (far (j := 0) E2.out (g := D + 3) (by omega) (.string ⟨#[]⟩)) 0 (.int .i64 0)) (g := D + 5) (by omega) (.int .i64 5)
    have y3 := blk_set (far (j := 0) (far (j := 0) E3.out (g := D + 3) (by omega) (.string ⟨#[]⟩)) (g := D + 4) (by omega) (.int .i64 0)) 0 (.int .i64 5)
    have x1 := put_cell y1 (E := E) (by have := HST.out.size; omega) (.deferred none)
    have x2 := put_cell y2 (E := E) (by have := HST.out.size; omega) (.deferred none)
    have x3 := put_cell y3 (E := E) (by have := HST.out.size; omega) (.deferred none)
    refine ⟨by simp, .inl ⟨_, _, rfl, run_takeDeferred hK', ?_⟩⟩
    refine ⟨_, by simp [results, Try.f33, go_sem, x1, x2, x3], rfl, below_put ?_ E _ _ (by have := HST.out.size; omega) hK'⟩
    exact (((HFQ.out.weak (q := fun i => i = D ∨ i = D + 6 ∨ i = D + 3 ∨ i = D + 4 ∨ i = D + 5) (fun i hi => by omega)).set (D + 3) 0 (by omega) _).set (D + 4) 0 (by omega) _).set (D + 5) 0 (by omega) _ |>.below (HST.out.below.mono (by omega)) (by omega) (fun i hi => by omega)
  case stop =>
    rintro E c pre W hE ⟨rest, hrest⟩ ⟨p0, x, h, rfl, hgo, hx⟩ hK
    have hrd : rd takeT (sol (bytesOf s) 0) init = rd takeT (x.1 :: rest) h := by
      rw [← hrest, vals_snoc, List.append_assoc]
      exact rd_go takeT _ _ _ _ hgo
    obtain ⟨⟨i, ch⟩, hc0, hc1, hi⟩ := x
    simp only at hc0 hc1 hi hx hrd
    have hr := HR.out
    rw [hrd] at hr
    rcases hx with ⟨rfl, h', ht, hhs, e0, hfq⟩ | ⟨rfl, ht, e1, e2, e3, hfq⟩
    · have hrd2 : rd takeT ((i, ch) :: rest) h = some (h', i + 1) := by
        rw [K02.rd, ht]
      rw [hrd2] at hr
      have hhs3 := hhs
      obtain ⟨⟨v, hb, ho⟩, _, _⟩ := hhs3
      obtain ⟨A, cc, rfl⟩ := own_slice ho
      have m4 : W.cell? ⟨D + 6, 0, none⟩ = some (.slice A h'.out.length cc) := blk_cell hb 0
      have hcv := own_string (src := 32) (dst := 9) Try.underlying32 Try.underlying5 Try.underlying9 ho
      have e1 := (hfq.block (D + 3) (by omega) (by omega)).trans hst.r1
      have e2 := (hfq.block (D + 4) (by omega) (by omega)).trans hst.r2
      have e3 := (hfq.block (D + 5) (by omega) (by omega)).trans hst.r3
      have m0 : W.cell? ⟨D + 8, 0, none⟩ = some (.int .i64 (i + 1)) := blk_cell e0 0
      have m1 : W.cell? ⟨D + 3, 0, none⟩ = some (.string ⟨#[]⟩) := blk_cell e1 0
      have m2 : W.cell? ⟨D + 4, 0, none⟩ = some (.int .i64 0) := blk_cell e2 0
      have m3 : W.cell? ⟨D + 5, 0, none⟩ = some (.int .i64 0) := blk_cell e3 0
      have f1 := blk_frozen e1 0
      have f2 := blk_frozen e2 0
      have f3 := blk_frozen e3 0
      have E1 := Aside0.mk e1
      have E2 := Aside0.mk e2
      have E3 := Aside0.mk e3
      have HST := Aside0.mk hst
      have HFQ := Aside0.mk hfq
      have HK := Aside0.mk hK
      have q0 : ((i : Int) + 1 == 0) = false := by simp; omega
      obtain ⟨L, hL⟩ : ∃ L, h'.out = L := ⟨_, rfl⟩
      simp only [hL] at m4 hcv hr
      have hsz : (strOfNums L).size = L.length := strOf_size L
      obtain ⟨X, hX⟩ : ∃ X, strOfNums L = X := ⟨_, rfl⟩
      rw [hX] at hcv hsz
      have HR2 := Aside0.mk hr
      have HSZ := Aside0.mk hsz
      have HX := Aside0.mk hX
      have HLL := Aside0.mk hL
      clear e0 e1 e2 e3 hst hfq hstops hh0 hd0 hhs hgo hrd hrd2 hr hrest hK HR hb ho ht hL hsz hX
      by_cases hbig : (X.size : Int) > 65536
      · have hbd := bounded_call X W ⟨#[]⟩ 3 (if_pos hbig)
        have hr := HR2.out
        have hq : L.length > 65536 := by have := HSZ.out; omega
        simp only [fin, Option.map_some, HLL.out] at hr
        rw [if_pos hq] at hr
        obtain ⟨rfl, h2⟩ := Prod.mk.inj hr
        obtain ⟨rfl, rfl⟩ := Prod.mk.inj h2
        have HBD := Aside0.mk hbd
        clear hr h2 hq hbig hbd
        dsimp only
        gi_wp2_with fail
        refine ⟨trivial, callsIn_wide.2 (HBD.out.mono ?_)⟩
        rintro e w1 ⟨rfl, rfl⟩
        gi_wp2_with fail
        have y1 := far (j := 0) (far (j := 0) (blk_set E1.out 0 (.string ⟨#[]⟩)) (g := D + 4) (by omega) (.int .i64 0)) (g := D + 5) (by omega) (.int .i64 3)
        have y2 := far (j := 0) (blk_set (far (j := 0) E2.out (g := D + 3) (by omega) (.string ⟨#[]⟩)) 0 (.int .i64 0)) (g := D + 5) (by omega) (.int .i64 3)
        have y3 := blk_set (far (j := 0) (far (j := 0) E3.out (g := D + 3) (by omega) (.string ⟨#[]⟩)) (g := D + 4) (by omega) (.int .i64 0)) 0 (.int .i64 3)
        have hK' := far (j := 0) (far (j := 0) (far (j := 0) HK.out (b := E) (g := D + 3) (by have := HST.out.size; omega) (.string ⟨#[]⟩)) (g := D + 4) (by have := HST.out.size; omega) (.int .i64 0)) (g := D + 5) (by have := HST.out.size; omega) (.int .i64 3)
        have x1 := put_cell y1 (E := E) (by have := HST.out.size; omega) (.deferred none)
        have x2 := put_cell y2 (E := E) (by have := HST.out.size; omega) (.deferred none)
        have x3 := put_cell y3 (E := E) (by have := HST.out.size; omega) (.deferred none)
        refine ⟨by simp, .inl ⟨_, _, rfl, run_takeDeferred hK', ?_⟩⟩
        refine ⟨_, by simp [results, Try.f33, go_sem, x1, x2, x3], rfl, below_put ?_ E _ _ (by have := HST.out.size; omega) hK'⟩
        exact (((HFQ.out.weak (q := fun i => i = D ∨ i = D + 6 ∨ i = D + 8 ∨ i = D + 3 ∨ i = D + 4 ∨ i = D + 5) (fun i hi => by omega)).set (D + 3) 0 (by omega) _).set (D + 4) 0 (by omega) _).set (D + 5) 0 (by omega) _ |>.below (HST.out.below.mono (by omega)) (by omega) (fun i hi => by omega)
      · have hbd := bounded_call X W X 0 (if_neg hbig)
        have hr := HR2.out
        have hq : ¬ L.length > 65536 := by have := HSZ.out; omega
        simp only [fin, Option.map_some, HLL.out] at hr
        rw [if_neg hq, HX.out] at hr
        obtain ⟨rfl, h2⟩ := Prod.mk.inj hr
        obtain ⟨rfl, rfl⟩ := Prod.mk.inj h2
        have HBD := Aside0.mk hbd
        have hmix : Try.prog.follows .mixedOrders = true := by kernel_rfl
        clear hr h2 hq hbig hbd
        dsimp only
        gi_wp2_with fail
        refine ⟨trivial, callsIn_wide.2 (HBD.out.mono ?_)⟩
        rintro e w1 ⟨rfl, rfl⟩
        gi_wp2_with fail
        gi_region
        gi_wp2_with fail
        have y1 := far (j := 0) (far (j := 0) (blk_set E1.out 0 (.string X)) (g := D + 4) (by omega) (.int .i64 (i + 1))) (g := D + 5) (by omega) (.int .i64 0)
        have y2 := far (j := 0) (blk_set (far (j := 0) E2.out (g := D + 3) (by omega) (.string X)) 0 (.int .i64 (i + 1))) (g := D + 5) (by omega) (.int .i64 0)
        have y3 := blk_set (far (j := 0) (far (j := 0) E3.out (g := D + 3) (by omega) (.string X)) (g := D + 4) (by omega) (.int .i64 (i + 1))) 0 (.int .i64 0)
        have hK' := far (j := 0) (far (j := 0) (far (j := 0) HK.out (b := E) (g := D + 3) (by have := HST.out.size; omega) (.string X)) (g := D + 4) (by have := HST.out.size; omega) (.int .i64 (i + 1))) (g := D + 5) (by have := HST.out.size; omega) (.int .i64 0)
        obtain ⟨Z, hZ⟩ : ∃ Z, ((w1.setCell ⟨D + 3, 0, none⟩ (.string X)).setCell ⟨D + 4, 0, none⟩ (.int .i64 (i + 1))).setCell ⟨D + 5, 0, none⟩ (.int .i64 0) = Z := ⟨_, rfl⟩
        have hfz : Fq (fun i => i = D ∨ i = D + 6 ∨ i = D + 8 ∨ i = D + 3 ∨ i = D + 4 ∨ i = D + 5) (D + 10) W0 Z := by
          rw [← hZ]
          exact (((HFQ.out.weak (q := fun i => i = D ∨ i = D + 6 ∨ i = D + 8 ∨ i = D + 3 ∨ i = D + 4 ∨ i = D + 5) (fun i hi => by omega)).set (D + 3) 0 (by omega) _).set (D + 4) 0 (by omega) _).set (D + 5) 0 (by omega) _
        rw [hZ] at y1 y2 y3 hK' ⊢
        have x1 := put_cell (W := Z.drew) y1 (E := E) (by have := HST.out.size; omega) (.deferred none)
        have x2 := put_cell (W := Z.drew) y2 (E := E) (by have := HST.out.size; omega) (.deferred none)
        have x3 := put_cell (W := Z.drew) y3 (E := E) (by have := HST.out.size; omega) (.deferred none)
        refine ⟨by simp, .inl ⟨_, _, rfl, run_takeDeferred (w := Z.drew) hK', ?_⟩⟩
        refine ⟨_, by simp [results, Try.f33, go_sem, x1, x2, x3], rfl, below_put ?_ E _ _ (by have := HST.out.size; omega) hK'⟩
        exact (hfz.below (HST.out.below.mono (by omega)) (by omega) (fun i hi => by omega)).drew
    · have e1' := e1
      have hrd2 : rd takeT ((i, ch) :: rest) h = none := by
        rw [K02.rd, ht]
      rw [hrd2] at hr
      obtain ⟨rfl, h2⟩ := Prod.mk.inj hr
      obtain ⟨rfl, rfl⟩ := Prod.mk.inj h2
      have x1 := put_cell e1 (E := E) (by have := hst.size; omega) (.deferred none)
      have x2 := put_cell e2 (E := E) (by have := hst.size; omega) (.deferred none)
      have x3 := put_cell e3 (E := E) (by have := hst.size; omega) (.deferred none)
      dsimp only
      gi_wp2_with fail
      refine ⟨by simp, .inl ⟨_, _, rfl, run_takeDeferred hK, ?_⟩⟩
      refine ⟨_, by simp [results, Try.f33, go_sem, x1, x2, x3], rfl, below_put ?_ E _ _ (by have := hst.size; omega) hK⟩
      exact hfq.below (hst.below.mono (by omega)) (by omega) (fun i hi => by omega)
theorem long_tens (s : ByteArray) (D : Nat) (w : World) (hD : w.heap.size = D + 1) (hs : (s.size : Int) > 65536) :
    Calls Try.prog 33 #[.string s, .pointer (some ⟨D, 0, none⟩), .func (.func 34) #[] #[]] w fun e w' => e = .returned (.tuple #[.string ⟨#[]⟩, .int .i64 0, .int .i64 3]) ∧ Below D w w' := by
  have b0 : decide (65536 < s.size) = true := decide_eq_true (by omega)
  have HD := Aside0.mk hD
  clear hD
  refine (callsIn_wide (n := 9)).1 ?_
  refine callsIn_of_wp_marks Try.func33 rfl trivial ?_ rfl
  simp only [Try.ntmps33, List.size_toArray, List.length_cons, List.length_nil, Nat.reduceAdd, Nat.reduceSub, Array.replicate_succ, Array.replicate_zero, List.push_toArray, List.append_toArray, List.nil_append, List.cons_append]
  gi_wp2_with fail
  apply S02.wpIn_scope
  gi_wp2_with fail
  refine ⟨_, by simp [results, Try.f33, go_sem], rfl, ?_⟩
  have h1 := HD.out
  repeat' first | exact Below.refl _ _ | refine Below.alloc ?_ (by first | omega | (simp; omega)) _
theorem unb85_call (s r1 : ByteArray) (r2 r3 : Int) (w : World) (h : unb85Res s = (r1, r2, r3)) :
    Calls Try.prog 17 #[.string s] w fun e w' => e = .returned (.tuple #[.string r1, .int .i64 r2, .int .i64 r3]) ∧ Below w.heap.size w w' := by
  have hc : Calls Try.prog 33 #[.string s, .pointer (some ⟨w.heap.size, 0, none⟩), .func (.func 34) #[] #[]] (w.alloc (.cells #[.slice none 0 0, .bool false] 66)) fun e w' => e = .returned (.tuple #[.string r1, .int .i64 r2, .int .i64 r3]) ∧ Below w.heap.size (w.alloc (.cells #[.slice none 0 0, .bool false] 66)) w' := by
    unfold unb85Res at h
    by_cases hs : (s.size : Int) > 65536
    · rw [if_pos hs] at h
      obtain ⟨rfl, h2⟩ := Prod.mk.inj h
      obtain ⟨rfl, rfl⟩ := Prod.mk.inj h2
      exact long_tens s _ _ (by simp) hs
    · rw [if_neg hs] at h
      exact run_tens s _ _ (by simp) (World.alloc_heap_new w _) (by omega) r1 r2 r3 h
  go_enter Try.func17, Try.ntmps17
  go_wp2_with fail
  refine hc.mono ?_
  rintro e w1 ⟨rfl, hb⟩
  go_wp2_with fail
  go_ret3
  exact ⟨rfl, ((Below.refl _ w).alloc (Nat.le_refl _) _).trans hb⟩
end Go.Proofs.Ytkfhpajnlaomeaa.G02w
