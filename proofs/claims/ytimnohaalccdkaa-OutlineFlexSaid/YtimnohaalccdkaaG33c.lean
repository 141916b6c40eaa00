/- Steps of the path (chapter 33): within 46, step 104. -/
import Derived.Test.YtimnohaalccdkaaG33b
namespace Go.Proofs.Ytimnohaalccdkaa.G33c
open Go.Proofs.Ytimnohaalccdkaa.K33 Go.Proofs.Ytimnohaalccdkaa.M33 Go.Proofs.Ytimnohaalccdkaa.G33a Go.Proofs.Ytimnohaalccdkaa.G33b Go.Proofs.Ytimnohaalccdkaa.P33a
open Go.RowKit Go.Proofs.YtimnohaalccdkaaW.PrintWords Go.Proofs.YtimnohaalccdkaaW.PrintLast Go.Proofs.YtimnohaalccdkaaW.PrintMore
set_option linter.unusedVariables false
set_option linter.unusedSimpArgs false
set_option maxRecDepth 100000
theorem within_eq (x y : Int) : outline_within_int.f 3 [x, y] = some (if inn x && inn y then 0 else 26) := by
  have e0 : rd [x, y] 0 = x := rfl
  have e1 : rd [x, y] 1 = y := rfl
  have w1 : wrap64 (0 + 1) = 1 := by kernel_rfl
  have w2 : wrap64 (1 + 1) = 2 := by kernel_rfl
  unfold outline_within_int.f inn
  simp only [outline_within_int.l0, List.length_cons, List.length_nil, e0, e1, w1, w2]
  by_cases h1 : x < -32000
  · simp [h1]; try (intros; omega)
  · by_cases h2 : 32000 < x
    · simp [h1, h2]; try (intros; omega)
    · by_cases h3 : y < -32000
      · simp [h1, h2, h3]; try (intros; omega)
      · by_cases h4 : 32000 < y
        · simp [h1, h2, h3, h4]; try omega
        · simp [h1, h2, h3, h4]; try omega
theorem kd_of_reads {w : World} {k : IntKind} {A : Option Addr} {n : Nat} {xs : List Int} (h : ReadsInt w k A n xs) : (Kd.int k).C w A n xs := by
  refine ⟨h.1, h.2.1, fun hn => ?_⟩
  obtain ⟨ad, e, hc⟩ := h.2.2 hn
  refine ⟨ad, e, fun j p hj => ⟨[.int k p], rfl, rfl, fun i u hu => ?_⟩⟩
  have hjl : j < xs.length := (List.getElem?_eq_some_iff.1 hj).1
  have hj2 := hc j (by have := h.1; omega)
  rw [List.getD_eq_getElem?_getD, hj] at hj2
  rcases i with _ | i
  · simp at hu
    subst hu
    show w.cell? (ad.add (j * 1 + 0)) = _
    rw [Nat.mul_one, Nat.add_zero]
    exact hj2
  · simp at hu
theorem within_two (x y : Int) (W : World) : Calls Try.prog 46 #[.slice (some ⟨W.heap.size, 0, none⟩) 2 2] (W.alloc (.cells #[.int .i64 x, .int .i64 y] 3)) fun e w' => e = .returned (.int .i64 (if inn x && inn y then 0 else 26)) ∧ Drawn0 (W.alloc (.cells #[.int .i64 x, .int .i64 y] 3)) w' := by
  have hr : ReadsInt (W.alloc (.cells #[.int .i64 x, .int .i64 y] 3)) .i64 (some ⟨W.heap.size, 0, none⟩) [x, y].length [x, y] := ints_reads (.inr ⟨W.heap.size, 0, _, rfl, blk_new _ _, fun i v hi => by
    rcases i with _ | _ | i
    · simp at hi; subst hi; rfl
    · simp at hi; subst hi; rfl
    · simp at hi⟩) (by simp)
  exact outline_within_int.calls 3 (some ⟨W.heap.size, 0, none⟩) 2 [x, y] _ _ (kd_of_reads hr) (by simp) (within_eq x y)
theorem walk_next (px py : Int) (l : List Int) (j : Nat) (h : 2 * j + 1 < l.length) :
    walk px py (l.drop (2 * j)) = if inn (px + l.getD (2 * j) 0) && inn (py + l.getD (2 * j + 1) 0) then (walk (px + l.getD (2 * j) 0) (py + l.getD (2 * j + 1) 0) (l.drop (2 * (j + 1)))).map ((px + l.getD (2 * j) 0, py + l.getD (2 * j + 1) 0) :: ·) else none := by
  rw [List.drop_eq_getElem_cons (show 2 * j < l.length by omega), List.drop_eq_getElem_cons h, show 2 * j + 1 + 1 = 2 * (j + 1) by omega]
  have e1 : l.getD (2 * j) 0 = l[2 * j] := by rw [List.getD_eq_getElem?_getD, List.getElem?_eq_getElem (show 2 * j < l.length by omega)]; rfl
  have e2 : l.getD (2 * j + 1) 0 = l[2 * j + 1] := by rw [List.getD_eq_getElem?_getD, List.getElem?_eq_getElem h]; rfl
  rw [e1, e2]
  rfl
theorem inn_bd {n : Int} (h : inn n = true) : -32000 ≤ n ∧ n ≤ 32000 := by simpa [inn] using h
/-- A point more in a step. -/
theorem stp_set (k : Int) (ps : List Pt) (p : Pt) (h : ps.length < 3) :
    ((stp (mkStep k ps)).toArray.setIfInBounds (1 + 2 * ps.length) (.int .i64 p.1)).setIfInBounds (1 + 2 * ps.length + 1) (.int .i64 p.2) = (stp (mkStep k (ps ++ [p]))).toArray := by
  rcases ps with _ | ⟨a, _ | ⟨c, _ | ⟨d, r⟩⟩⟩
  · rfl
  · rfl
  · rfl
  · simp only [List.length_cons] at h; omega
theorem stp_nil (k : Int) : (stp (mkStep k [])) = [.int .i64 k, .int .i64 0, .int .i64 0, .int .i64 0, .int .i64 0, .int .i64 0, .int .i64 0] := rfl
theorem info60 : (Try.prog.info? 60).map (fun i => (i.zero, i.size, i.bytes)) = some (some (.agg #[.int .i64 0, .int .i64 0, .int .i64 0, .int .i64 0, .int .i64 0, .int .i64 0, .int .i64 0]), 7, 56) := by kernel_rfl
theorem stp_len (s : Stp) : (stp s).length = 7 := rfl
theorem flatMap_len {α : Type} {f : α → List Value} {size : Nat} (hf : ∀ x, (f x).length = size) : ∀ l : List α, (l.flatMap f).length = l.length * size
  | [] => by simp
  | a :: l => by rw [List.flatMap_cons, List.length_append, hf, flatMap_len hf l, List.length_cons, Nat.add_mul]; omega
theorem flatMap_get {α : Type} {f : α → List Value} {size : Nat} (hf : ∀ x, (f x).length = size) : ∀ (l : List α) (i j : Nat) (hi : i < l.length), j < size → (l.flatMap f)[i * size + j]? = (f (l[i]'hi))[j]?
  | a :: l, 0, j, _, hj => by rw [List.flatMap_cons, Nat.zero_mul, Nat.zero_add, List.getElem?_append_left (by rw [hf]; exact hj)]; rfl
  | a :: l, i + 1, j, hi, hj => by
    rw [List.flatMap_cons, List.getElem?_append_right (by rw [hf, Nat.add_mul]; omega), hf, show (i + 1) * size + j - size = i * size + j by rw [Nat.add_mul]; omega]
    exact flatMap_get hf l i j (by simpa using hi) hj
theorem flatMap_take {α : Type} {f : α → List Value} {size : Nat} (hf : ∀ x, (f x).length = size) : ∀ {l : List α} {k : Nat}, (l.flatMap f).take (k * size) = (l.take k).flatMap f
  | [], k => by simp
  | a :: l, 0 => by simp
  | a :: l, k + 1 => by
    rw [List.flatMap_cons, List.take_succ_cons, List.flatMap_cons, List.take_append, hf, List.take_of_length_le (by rw [hf, Nat.add_mul]; omega), show (k + 1) * size - size = k * size by rw [Nat.add_mul]; omega, flatMap_take hf]
theorem row_cells {α : Type} {f : α → List Value} {size : Nat} (hf : ∀ x, (f x).length = size) {w : World} {B n c : Nat} {e : TypeId} {A : Option Addr} {l : List α} (h : w.ownsRow B e size (.slice A n c) l.length (l.flatMap f)) {i : Nat} (hi : i < l.length) :
    ∃ g, A = some ⟨g, 0, none⟩ ∧ ∀ (j : Nat) (u : Value), (f (l[i]'hi))[j]? = some u → w.cell? ⟨g, i * size + j, none⟩ = some u := by
  rcases h.2 with ⟨e, h0⟩ | ⟨g, cap, cur, e, h1, h2, h3, h4, h5, h6⟩
  · omega
  · cases e
    refine ⟨g, rfl, fun j u hu => ?_⟩
    have hj : j < size := by rw [← hf (l[i]'hi)]; exact (List.getElem?_eq_some_iff.1 hu).1
    have hlt : i * size + j < l.length * size := by
      have : (i + 1) * size ≤ l.length * size := Nat.mul_le_mul_right size hi
      rw [Nat.add_mul] at this
      omega
    rw [blk_cell h2, ← Array.getElem?_toList, ← List.getElem?_take_of_lt hlt, h6, flatMap_get hf l i j hi hj]
    exact hu
theorem cutH40 (A : Option Addr) (n c k : Nat) (hk : k ≤ c) (W : World) : (Instr.slice 40 (.slice A n c) none (some (.int .i64 (k : Int))) none).run Try.prog W = .ok (.slice A k c) W := by
  have hu : Try.prog.underlying 40 = some (.slice (Try.prog.elem 40)) := by kernel_rfl
  have hel : Try.prog.elem 40 = 60 := by kernel_rfl
  obtain ⟨i, hi, hs⟩ := Option.map_eq_some_iff.1 info60
  rw [run_slice_h W 40 A n c hu .i64 (k : Int) (Int.natCast_nonneg _) (by omega), hel]
  simp [sizeOf, typeInfo, hi, sliced, Result.andThen]
  intro h
  cases A <;> simp [add_zero]
theorem i64_in' {a b : Int} (e : a = b) (h : -9223372036854775808 ≤ b ∧ b ≤ 9223372036854775807) : IntKind.i64.wrap a = b := by rw [e]; exact IntWalk.i64_in _ h
/-- What the loop of step keeps. -/
structure SS (w wr : World) (k : Int) (m : M) (l : List Int) (j : Nat) (px py : Int) (ps : List Pt) : Prop where
  len : ps.length = j
  wk : walk m.x m.y l = (walk px py (l.drop (2 * j))).map (ps ++ ·)
  last : (px, py) = ps.getLastD (m.x, m.y)
  s : wr.heap[w.heap.size]? = some (.cells (stp (mkStep k ps)).toArray 60 (0, 0))
  p : wr.heap[w.heap.size + 1]? = some (.cells #[.int .i64 px, .int .i64 py] 55 (0, 0))
  bel : Below w.heap.size w wr
set_option maxHeartbeats 4000000 in
theorem step_call {W0 w : World} {b : Nat} {sb : Value} {m : M} {A : Option Addr} {l : List Int} (h : MachL W0 w b sb m A l) (k : Int) (hk1 : 1 ≤ k) (hk2 : k ≤ 4) (c : Nat) (hc : l.length ≤ c) (h2 : l.length % 2 = 0) (h6 : l.length ≤ 6) (hs : Small l) :
    Calls Try.prog 104 #[.pointer (some ⟨b, 0, none⟩), .int .i64 k, .slice A l.length c] w (fun e w' => Did W0 b sb (stepM m k l) e w' ∧ Keeps w w') := by
  have HMM := Aside0.mk h.mach
  have HI := Aside0.mk h.ints
  have hok := Mach.ok h.mach
  obtain ⟨hB, hb, vs, vt, vk, Ar, cr, vp, h, _⟩ := h
  have c4 : w.cell? ⟨b, 4, none⟩ = some (.int .i64 m.x) := h.cell 4
  have c5 : w.cell? ⟨b, 5, none⟩ = some (.int .i64 m.y) := h.cell 5
  have hbl := blk_lt h.blk
  have HSS : Aside0 (SS w ((w.alloc (.cells (stp (mkStep k [])).toArray 60)).alloc (.cells #[.int .i64 m.x, .int .i64 m.y] 55)) k m l 0 m.x m.y []) := ⟨⟨rfl, by simp, rfl, blk_alloc (blk_new _ _) _, by have := blk_new (w.alloc (.cells (stp (mkStep k [])).toArray 60)) (.cells #[.int .i64 m.x, .int .i64 m.y] 55); simpa using this, below_alloc (below_alloc (Below.refl _ _) _) _⟩⟩
  have HXY := Aside0.mk (show (-32000 ≤ m.x ∧ m.x ≤ 32000) ∧ (-32000 ≤ m.y ∧ m.y ≤ 32000) from ⟨hok.x, hok.y⟩)
  clear h hB hok
  rw [stp_nil] at HSS
  go_enter Try.func104, Try.ntmps104
  go_wp2_with fail
  go_loopw [9] (fun v wr => ∃ (j : Nat) (px py : Int) (ps : List Pt), v = .int .i64 (2 * (j : Int)) ∧ 2 * j ≤ l.length ∧ (-32000 ≤ px ∧ px ≤ 32000) ∧ (-32000 ≤ py ∧ py ≤ 32000) ∧ Aside0 (SS w wr k m l j px py ps)) (fun v _ => 10 - (intOf v).toNat)
  case atStart => exact ⟨0, m.x, m.y, [], rfl, by omega, HXY.out.1, HXY.out.2, HSS⟩
  case round =>
    clear HSS c4 c5
    obtain ⟨j, px, py, ps, rfl, hj, hpx, hpy, HSS⟩ := hrel
    have p0 : wr.cell? ⟨w.heap.size + 1, 0, none⟩ = some (.int .i64 px) := blk_cell HSS.out.p 0
    have p1 : wr.cell? ⟨w.heap.size + 1, 1, none⟩ = some (.int .i64 py) := blk_cell HSS.out.p 1
    by_cases hlt : 2 * j < l.length
    · have hne : l ≠ [] := by intro e; rw [e] at hlt; simp at hlt
      obtain ⟨g, off, hA, hcell⟩ := ints_cells HI.out hne
      subst hA
      have glt : g < w.heap.size := by
        have := hcell 0 (by omega)
        exact World.block_lt_of_cell? w _ this
      have hbl2 := HSS.out.bel
      have l0 : wr.cell? ⟨g, off + 2 * j, none⟩ = some (.int .i64 (l.getD (2 * j) 0)) := (hbl2.cell (p := ⟨g, off + 2 * j, none⟩) glt).trans (hcell (2 * j) hlt)
      have l1 : wr.cell? ⟨g, off + (2 * j + 1), none⟩ = some (.int .i64 (l.getD (2 * j + 1) 0)) := (hbl2.cell (p := ⟨g, off + (2 * j + 1), none⟩) glt).trans (hcell (2 * j + 1) (by omega))
      have sa := getD_small hs (2 * j)
      have sbb := getD_small hs (2 * j + 1)
      have hwn := walk_next px py l j (by omega)
      obtain ⟨x, hx⟩ : ∃ x, l.getD (2 * j) 0 = x := ⟨_, rfl⟩
      obtain ⟨y, hy⟩ : ∃ y, l.getD (2 * j + 1) 0 = y := ⟨_, rfl⟩
      rw [hx] at l0 sa hwn
      rw [hy] at l1 sbb hwn
      have t0 : decide (2 * (j : Int) < (l.length : Int)) = true := decide_eq_true (by omega)
      have HWN := Aside0.mk hwn
      have HLT := Aside0.mk hlt
      have i1 : (2 * (j : Int) + 1).toNat = 2 * j + 1 := by omega
      have i2 : (2 * (j : Int)).toNat = 2 * j := by omega
      have k1 : IntKind.i64.wrap (2 * (j : Int) + 1) = 2 * (j : Int) + 1 := IntWalk.i64_in _ (by omega)
      have k2 : IntKind.i64.wrap (px + x) = px + x := IntWalk.i64_in _ (by omega)
      have k3 : IntKind.i64.wrap (py + y) = py + y := IntWalk.i64_in _ (by omega)
      have b0 : (0 : Int) ≤ 2 * (j : Int) := by omega
      have b1 : (2 * (j : Int)) < (l.length : Int) := by omega
      have b2 : (0 : Int) ≤ 2 * (j : Int) + 1 := by omega
      have b3 : (2 * (j : Int) + 1) < (l.length : Int) := by omega
      have f0 : wr.frozen? ⟨w.heap.size + 1, 0, none⟩ = false := blk_frozen HSS.out.p 0
      have f1 : wr.frozen? ⟨w.heap.size + 1, 1, none⟩ = false := blk_frozen HSS.out.p 1
      clear hwn hx hy hbl2 hcell hlt hne
      go_wp2_with fail
      go_still_tail 16, (by kernel_rfl)
      change wpList _ _ _ _ _ wr.drew
      have HS2 : Aside0 (SS w wr.drew k m l j px py ps) := ⟨⟨HSS.out.len, HSS.out.wk, HSS.out.last, HSS.out.s, HSS.out.p, below_drew HSS.out.bel⟩⟩
      have p0 : wr.drew.cell? ⟨w.heap.size + 1, 0, none⟩ = some (.int .i64 px) := p0
      have p1 : wr.drew.cell? ⟨w.heap.size + 1, 1, none⟩ = some (.int .i64 py) := p1
      have f0 : wr.drew.frozen? ⟨w.heap.size + 1, 0, none⟩ = false := f0
      have f1 : wr.drew.frozen? ⟨w.heap.size + 1, 1, none⟩ = false := f1
      generalize wr.drew = w2 at HS2 p0 p1 f0 f1 ⊢
      clear l0 l1 i1 i2 k1 b2 b3 HSS
      go_wp2_with fail
      have hlt1 : w.heap.size < w2.heap.size := blk_lt HS2.out.s
      have P3 : Aside0 (((w2.setCell ⟨w.heap.size + 1, 0, none⟩ (.int .i64 (px + x))).setCell ⟨w.heap.size + 1, 1, none⟩ (.int .i64 (py + y))).heap[w.heap.size + 1]? = some (.cells #[.int .i64 (px + x), .int .i64 (py + y)] 55 (0, 0))) := ⟨blk_set (blk_set HS2.out.p 0 _) 1 _⟩
      have S3 : Aside0 (((w2.setCell ⟨w.heap.size + 1, 0, none⟩ (.int .i64 (px + x))).setCell ⟨w.heap.size + 1, 1, none⟩ (.int .i64 (py + y))).heap[w.heap.size]? = some (.cells (stp (mkStep k ps)).toArray 60 (0, 0))) := ⟨blk_far (blk_far HS2.out.s (by simp) _) (by simp) _⟩
      have B3 : Aside0 (Below w.heap.size w ((w2.setCell ⟨w.heap.size + 1, 0, none⟩ (.int .i64 (px + x))).setCell ⟨w.heap.size + 1, 1, none⟩ (.int .i64 (py + y)))) := ⟨below_set (below_set HS2.out.bel (by omega)) (by omega)⟩
      have hsz : ((w2.setCell ⟨w.heap.size + 1, 0, none⟩ (.int .i64 (px + x))).setCell ⟨w.heap.size + 1, 1, none⟩ (.int .i64 (py + y))).heap.size = w2.heap.size := by simp
      obtain ⟨w3, hw3⟩ : ∃ w3, (w2.setCell ⟨w.heap.size + 1, 0, none⟩ (.int .i64 (px + x))).setCell ⟨w.heap.size + 1, 1, none⟩ (.int .i64 (py + y)) = w3 := ⟨_, rfl⟩
      rw [hw3] at hsz P3 S3 B3 ⊢
      rw [← hsz]
      have HLN := HS2.out.len
      have HWK := Aside0.mk HS2.out.wk
      have HLT1 := Aside0.mk hlt1
      clear hw3 p0 p1 f0 f1 HS2 hlt1 hsz
      refine (within_two (px + x) (py + y) w3).mono ?_
      rintro e w4 ⟨rfl, hd4⟩
      have hb34 := below_step (below_alloc (Below.refl _ w3) (.cells #[.int .i64 (px + x), .int .i64 (py + y)] 3)) hd4.below
      have B4 := Aside0.mk (below_step B3.out hb34)
      have S4 : Aside0 (w4.heap[w.heap.size]? = some (.cells (stp (mkStep k ps)).toArray 60 (0, 0))) := ⟨blk_below S3.out hb34⟩
      have P4 : Aside0 (w4.heap[w.heap.size + 1]? = some (.cells #[.int .i64 (px + x), .int .i64 (py + y)] 55 (0, 0))) := ⟨blk_below P3.out hb34⟩
      clear hd4 hb34 B3 S3 P3
      by_cases hin : (inn (px + x) && inn (py + y)) = true
      · rw [if_pos hin]
        have hin2 : inn (px + x) = true ∧ inn (py + y) = true := by simpa using hin
        have hX := inn_bd hin2.1
        have hY := inn_bd hin2.2
        have q0 : w4.cell? ⟨w.heap.size + 1, 0, none⟩ = some (.int .i64 (px + x)) := blk_cell P4.out 0
        have q1 : w4.cell? ⟨w.heap.size + 1, 1, none⟩ = some (.int .i64 (py + y)) := blk_cell P4.out 1
        have i3 : (2 * (j : Int)).tdiv 2 = (j : Int) := by rw [Int.tdiv_eq_ediv_of_nonneg (by omega)]; omega
        have k4 : IntKind.i64.wrap (j : Int) = (j : Int) := IntWalk.i64_in _ (by omega)
        have k5 : IntKind.i64.wrap (2 * (j : Int) + 2) = 2 * (j : Int) + 2 := IntWalk.i64_in _ (by omega)
        have b4 : (0 : Int) ≤ (j : Int) := by omega
        have b5 : (j : Int) < 3 := by omega
        have HJ := Aside0.mk (show j < 3 by omega)
        have HIN := Aside0.mk hin
        have hsl : (stp (mkStep k ps)).toArray.size = 7 := rfl
        have f4 : w4.frozen? ⟨w.heap.size, 1 + j * 2, none⟩ = false := blk_frozen S4.out _
        have f5 : (w4.setCell ⟨w.heap.size, 1 + j * 2, none⟩ (.int .i64 (px + x))).frozen? ⟨w.heap.size, 1 + j * 2 + 1, none⟩ = false := blk_frozen (blk_set S4.out _ _) _
        obtain ⟨o4, c6⟩ : ∃ v, w4.cell? ⟨w.heap.size, 1 + j * 2, none⟩ = some v := ⟨_, (blk_cell S4.out _).trans (Array.getElem?_eq_getElem (by rw [hsl]; omega))⟩
        obtain ⟨o5, c7⟩ : ∃ v, (w4.setCell ⟨w.heap.size, 1 + j * 2, none⟩ (.int .i64 (px + x))).cell? ⟨w.heap.size, 1 + j * 2 + 1, none⟩ = some v := ⟨_, (blk_cell (blk_set S4.out _ _) _).trans (Array.getElem?_eq_getElem (by rw [Array.size_setIfInBounds, hsl]; omega))⟩
        have HW6 : Aside0 (SS w ((w4.setCell ⟨w.heap.size, 1 + j * 2, none⟩ (.int .i64 (px + x))).setCell ⟨w.heap.size, 1 + j * 2 + 1, none⟩ (.int .i64 (py + y))) k m l (j + 1) (px + x) (py + y) (ps ++ [(px + x, py + y)])) := ⟨by
          refine ⟨by rw [List.length_append, HLN]; rfl, ?_, by simp, ?_, blk_far (blk_far P4.out (by simp) _) (by simp) _, below_set (below_set B4.out (Nat.le_refl _)) (Nat.le_refl _)⟩
          · rw [HWK.out, HWN.out, if_pos hin]
            cases walk (px + x) (py + y) (l.drop (2 * (j + 1))) <;> simp
          · have := blk_set (blk_set S4.out (1 + j * 2) (.int .i64 (px + x))) (1 + j * 2 + 1) (.int .i64 (py + y))
            rw [this]
            have e := stp_set k ps (px + x, py + y) (by omega)
            rw [HLN, show 1 + 2 * j = 1 + j * 2 by omega] at e
            rw [← e]⟩
        clear hin hin2 hsl
        go_wp2_with fail
        go_roundw
        case measure => simp [intOf]; omega
        case rel => exact ⟨j + 1, px + x, py + y, _, by go_num, by omega, hX, hY, HW6⟩
      · rw [if_neg hin]
        have HE : Aside0 (stepM m k l = .error 26) := ⟨by unfold stepM; rw [HWK.out, HWN.out, if_neg hin]; rfl⟩
        clear hin
        go_wp2_with fail
        go_ret
        rw [HE.out]
        exact ⟨⟨rfl, .inl rfl, (Mach.left HMM.out).below B4.out⟩, keeps_below B4.out⟩
    · have hj2 : 2 * j = l.length := by omega
      have t0 : decide (2 * (j : Int) < (l.length : Int)) = false := decide_eq_false (by omega)
      have HWS : Aside0 (walk m.x m.y l = some ps) := ⟨by rw [HSS.out.wk, hj2, List.drop_length]; simp [walk]⟩
      obtain ⟨hB, hb, vs, vt, vk, Ar, cr, vp, hv⟩ := HMM.out.below HSS.out.bel
      obtain ⟨As, cs, rfl⟩ := own_slice hv.steps
      have HV := Aside0.mk hv
      have HB := Aside0.mk hB
      have HB8 := Aside0.mk hb
      have HOK := Aside0.mk hv.ok
      have c2 : wr.cell? ⟨b, 2, none⟩ = some (.slice As m.steps.length cs) := hv.cell 2
      have hn300 := hv.ok.steps
      obtain ⟨st, hst⟩ : ∃ st, mkStep k ps = st := ⟨_, rfl⟩
      have hs1 := HSS.out.s
      rw [hst] at hs1
      have s0 : wr.cell? ⟨w.heap.size, 0, none⟩ = some (.int .i64 st.1) := blk_cell hs1 0
      have s1 : wr.cell? ⟨w.heap.size, 1, none⟩ = some (.int .i64 st.2.1.1) := blk_cell hs1 1
      have s2 : wr.cell? ⟨w.heap.size, 2, none⟩ = some (.int .i64 st.2.1.2) := blk_cell hs1 2
      have s3 : wr.cell? ⟨w.heap.size, 3, none⟩ = some (.int .i64 st.2.2.1.1) := blk_cell hs1 3
      have s4 : wr.cell? ⟨w.heap.size, 4, none⟩ = some (.int .i64 st.2.2.1.2) := blk_cell hs1 4
      have s5 : wr.cell? ⟨w.heap.size, 5, none⟩ = some (.int .i64 st.2.2.2.1) := blk_cell hs1 5
      have s6 : wr.cell? ⟨w.heap.size, 6, none⟩ = some (.int .i64 st.2.2.2.2) := blk_cell hs1 6
      have HP := Aside0.mk HSS.out.p
      have HLT : Aside0 (b ≠ w.heap.size + 1 ∧ ∀ g, (Value.slice As m.steps.length cs).ownBlock = some g → g < w.heap.size) := ⟨by
        obtain ⟨_, _, vs', vt', vk', Ar', cr', vp', hv'⟩ := HMM.out
        have e2 : wr.cell? ⟨b, 2, none⟩ = some vs' := (HSS.out.bel.cell (p := ⟨b, 2, none⟩) (blk_lt hv'.blk)).trans (hv'.cell 2)
        rw [c2] at e2
        injection e2 with e2
        subst e2
        exact ⟨fun e => by have := blk_lt hv'.blk; omega, fun g hg => own_lt hv'.steps g hg⟩⟩
      have HPL : Aside0 (stepM m k l = if 300 ≤ (kept k m.steps).length then .error 26 else .ok { m with steps := kept k m.steps ++ [st], x := px, y := py }) := ⟨by unfold stepM; rw [HWS.out]; simp only [hst, ← HSS.out.last]⟩
      have HBEL := Aside0.mk HSS.out.bel
      clear hv hB hb hs1 hst hlt hj2 HSS HWS
      obtain ⟨N, hN⟩ : ∃ N, m.steps.length = N := ⟨_, rfl⟩
      rw [hN] at c2 HV HLT hn300
      by_cases hn0 : N = 0
      · obtain ⟨L, hLs⟩ : ∃ L, m.steps = L := ⟨_, rfl⟩
        have h00 : m.steps = [] := List.eq_nil_of_length_eq_zero (by omega)
        have HKEPT : Aside0 (kept k m.steps = L) := ⟨by unfold kept; rw [if_neg (by rintro ⟨_, h⟩; rw [h00] at h; cases h), hLs]⟩
        have HKL : Aside0 (L.length ≤ 300) := ⟨by rw [← hLs, hN]; exact hn300⟩
        have HOWN : Aside0 (wr.ownsRow W0.heap.size 60 7 (.slice As L.length cs) L.length (L.flatMap stp)) := ⟨by have := HV.out.steps; rw [← hN, hLs] at this; exact this⟩
        have HBK : Aside0 ((Value.slice As L.length cs).ownBlock = (Value.slice As N cs).ownBlock) := ⟨by cases As <;> rfl⟩
        have t1 : decide (0 < N) = false := decide_eq_false (by omega)
        obtain rfl : N = L.length := by rw [← hN, hLs]
        clear hn0 h00
        have hL := HOWN.out.1
        by_cases hfull : L.length = 300
        · have t8 : ((L.length : Int) == 300) = true := by rw [hfull]; rfl
          have HE : Aside0 (stepM m k l = .error 26) := ⟨by rw [HPL.out, HKEPT.out, if_pos (by omega)]⟩
          clear hL hfull
          go_wp2_with fail
          go_ret
          rw [HE.out]
          exact ⟨⟨rfl, .inl rfl, (Mach.left HMM.out).below HBEL.out⟩, keeps_below HBEL.out⟩
        · have t8 : ((L.length : Int) == 300) = false := by simp; omega
          have HE : Aside0 (stepM m k l = .ok { m with steps := L ++ [st], x := px, y := py }) := ⟨by rw [HPL.out, HKEPT.out, if_neg (by have := HKL.out; omega)]⟩
          have HL3 := Aside0.mk (show L.length < 300 by have := HKL.out; omega)
          clear hL hfull
          go_wp2_with (at_builtin; refine print_append_cells (w0 := W0) W0.heap.size rfl (.tmp 87) (.tmp 89) 40 60 _ 7 56 rfl Try.underlying40 info60 rfl (by decide) (by decide) (.slice As L.length cs) L.length (L.flatMap stp) [.int .i64 st.1, .int .i64 st.2.1.1, .int .i64 st.2.1.2, .int .i64 st.2.2.1.1, .int .i64 st.2.2.1.2, .int .i64 st.2.2.2.1, .int .i64 st.2.2.2.2] rfl rfl rfl (by simp [Value.oneCell']) HOWN.out HB.out HB.out.size (by have := HL3.out; omega) ?_; intro v1 w1 ho1 hb1 hg1 hat1; obtain ⟨A1, k1, rfl⟩ := own_slice ho1; have HO1 := Aside0.mk ho1; have HB1 := Aside0.mk hb1; have HG1 := Aside0.mk (HBK.out ▸ hg1); have hbk := blk_grown HV.out.blk HG1.out (own_ne HV.out.steps HV.out.blk (by decide)); have f2 : w1.frozen? ⟨b, 2, none⟩ = false := blk_frozen hbk 2; have c2' : w1.cell? ⟨b, 2, none⟩ = some (.slice As L.length cs) := blk_cell hbk 2; have hp1 := blk_grown HP.out HG1.out (fun e => by have := HLT.out.2 _ e.symm; omega); have p4 : (w1.setCell ⟨b, 2, none⟩ (.slice A1 (L.length + 1) k1)).cell? ⟨w.heap.size + 1, 0, none⟩ = some (.int .i64 px) := blk_cell (blk_far hp1 (fun e => HLT.out.1 e.symm) _) 0; have p5 : (w1.setCell ⟨b, 2, none⟩ (.slice A1 (L.length + 1) k1)).cell? ⟨w.heap.size + 1, 1, none⟩ = some (.int .i64 py) := blk_cell (blk_far hp1 (fun e => HLT.out.1 e.symm) _) 1; have f4 : (w1.setCell ⟨b, 2, none⟩ (.slice A1 (L.length + 1) k1)).frozen? ⟨b, 4, none⟩ = false := blk_frozen (blk_set hbk 2 _) 4; have c4' : (w1.setCell ⟨b, 2, none⟩ (.slice A1 (L.length + 1) k1)).cell? ⟨b, 4, none⟩ = some (.int .i64 m.x) := blk_cell (blk_set hbk 2 _) 4; have f5 : ((w1.setCell ⟨b, 2, none⟩ (.slice A1 (L.length + 1) k1)).setCell ⟨b, 4, none⟩ (.int .i64 px)).frozen? ⟨b, 5, none⟩ = false := blk_frozen (blk_set (blk_set hbk 2 _) 4 _) 5; have c5' : ((w1.setCell ⟨b, 2, none⟩ (.slice A1 (L.length + 1) k1)).setCell ⟨b, 4, none⟩ (.int .i64 px)).cell? ⟨b, 5, none⟩ = some (.int .i64 m.y) := blk_cell (blk_set (blk_set hbk 2 _) 4 _) 5; clear ho1 hb1 hg1 hat1 hbk hp1 c2 s0 s1 s2 s3 s4 s5 s6)
          go_ret
          rw [HE.out]
          have e1 : (L ++ [st]).length = L.length + 1 := by simp
          have k0 := HOK.out
          have kk : Ok { m with steps := L ++ [st] } := ⟨k0.stack, k0.small, k0.res, k0.rsmall, by show (L ++ [st]).length ≤ 300; rw [e1]; exact HL3.out, k0.stems, k0.points, k0.x, k0.y, k0.side, k0.width, k0.count⟩
          have kk2 : Ok { m with steps := L ++ [st], x := px } := ⟨k0.stack, k0.small, k0.res, k0.rsmall, kk.steps, k0.stems, k0.points, hpx, k0.y, k0.side, k0.width, k0.count⟩
          have kk3 : Ok { m with steps := L ++ [st], x := px, y := py } := ⟨k0.stack, k0.small, k0.res, k0.rsmall, kk.steps, k0.stems, k0.points, hpx, hpy, k0.side, k0.width, k0.count⟩
          have hown : w1.ownsRow W0.heap.size 60 7 (.slice A1 (L.length + 1) k1) (L ++ [st]).length ((L ++ [st]).flatMap stp) := by
            rw [e1, List.flatMap_append]
            simpa [stp] using HO1.out
          have hput := (((HV.out.put_steps hown HG1.out kk).set 4 (.int .i64 px) { m with steps := L ++ [st], x := px } rfl rfl rfl rfl rfl rfl kk2).set 5 (.int .i64 py) { m with steps := L ++ [st], x := px, y := py } rfl rfl rfl rfl rfl rfl kk3)
          have hbk := blk_grown HV.out.blk HG1.out (own_ne HV.out.steps HV.out.blk (by decide))
          exact ⟨⟨rfl, below_set (below_set (below_set HB1.out HB8.out) HB8.out) HB8.out, HB8.out, _, vt, vk, Ar, cr, vp, hput⟩, (((keeps_below HBEL.out).trans (keeps_grown HV.out.steps (by decide) HG1.out)).trans (keeps_set hbk (by decide) 2 _)).trans ((keeps_set (blk_set hbk 2 _) (by decide) 4 _).trans (keeps_set (blk_set (blk_set hbk 2 _) 4 _) (by decide) 5 _))⟩
      · have t1 : decide (0 < N) = true := decide_eq_true (by omega)
        by_cases hk1' : k = 1
        · subst hk1'
          obtain ⟨d, hd⟩ : ∃ d, N = d + 1 := ⟨N - 1, by omega⟩
          obtain ⟨gs, hAs, hcells⟩ := row_cells stp_len HV.out.steps (by omega : d < m.steps.length)
          subst hAs
          have k7 : IntKind.i64.wrap ((N : Int) - 1) = (d : Int) := i64_in' (by omega) (by omega)
          have c7 : wr.cell? ⟨gs, d * 7, none⟩ = some (.int .i64 (m.steps[d]'(by omega)).1) := hcells 0 _ rfl
          have hlast : lastMove m.steps = ((m.steps[d]'(by omega)).1 == 1) := by
            have hget : m.steps[d]? = some (m.steps[d]'(by omega)) := List.getElem?_eq_getElem _
            unfold lastMove
            rw [List.getLast?_eq_getElem?, show m.steps.length - 1 = d by omega, hget]
          obtain ⟨z, hz⟩ : ∃ z, (m.steps[d]'(by omega)).1 = z := ⟨_, rfl⟩
          rw [hz] at c7 hlast
          have q8 : (0 : Int) ≤ (d : Int) := by omega
          have q9 : (d : Int) < (N : Int) := by omega
          clear hcells hz hn0
          by_cases hz1 : z = 1
          · have t3 : (z == 1) = true := by simpa using hz1
            obtain ⟨L, hLs⟩ : ∃ L, m.steps.dropLast = L := ⟨_, rfl⟩
            have HKEPT : Aside0 (kept 1 m.steps = L) := ⟨by unfold kept; rw [if_pos ⟨rfl, by rw [hlast, t3]⟩, hLs]⟩
            have hLl : L.length = d := by rw [← hLs, List.length_dropLast, hN]; omega
            have HKL : Aside0 (L.length ≤ 300) := ⟨by omega⟩
            have HOWN : Aside0 (wr.ownsRow W0.heap.size 60 7 (.slice (some ⟨gs, 0, none⟩) L.length cs) L.length (L.flatMap stp)) := ⟨by
              have h0 := HV.out.steps
              rw [hN] at h0
              have := own_take h0 d (by omega) (by omega)
              rw [flatMap_take stp_len, show m.steps.take d = m.steps.dropLast by rw [List.dropLast_eq_take, show m.steps.length - 1 = d by omega], hLs] at this
              rw [hLl]
              exact this⟩
            have HBK : Aside0 ((Value.slice (some ⟨gs, 0, none⟩) L.length cs).ownBlock = (Value.slice (some ⟨gs, 0, none⟩) N cs).ownBlock) := ⟨rfl⟩
            have hcs : d ≤ cs := by have := (own_len HV.out.steps).2.1; omega
            have hcut := cutH40 (some ⟨gs, 0, none⟩) N cs d hcs
            subst hLl
            clear hlast hz1 hd
            have hL := HOWN.out.1
            by_cases hfull : L.length = 300
            · have t8 : ((L.length : Int) == 300) = true := by rw [hfull]; rfl
              have HE : Aside0 (stepM m 1 l = .error 26) := ⟨by rw [HPL.out, HKEPT.out, if_pos (by omega)]⟩
              clear hL hfull
              go_wp2_with fail
              go_ret
              rw [HE.out]
              exact ⟨⟨rfl, .inl rfl, (Mach.left HMM.out).below HBEL.out⟩, keeps_below HBEL.out⟩
            · have t8 : ((L.length : Int) == 300) = false := by simp; omega
              have HE : Aside0 (stepM m 1 l = .ok { m with steps := L ++ [st], x := px, y := py }) := ⟨by rw [HPL.out, HKEPT.out, if_neg (by have := HKL.out; omega)]⟩
              have HL3 := Aside0.mk (show L.length < 300 by have := HKL.out; omega)
              clear hL hfull
              go_wp2_with (at_builtin; refine print_append_cells (w0 := W0) W0.heap.size rfl (.tmp 87) (.tmp 89) 40 60 _ 7 56 rfl Try.underlying40 info60 rfl (by decide) (by decide) (.slice (some ⟨gs, 0, none⟩) L.length cs) L.length (L.flatMap stp) [.int .i64 st.1, .int .i64 st.2.1.1, .int .i64 st.2.1.2, .int .i64 st.2.2.1.1, .int .i64 st.2.2.1.2, .int .i64 st.2.2.2.1, .int .i64 st.2.2.2.2] rfl rfl rfl (by simp [Value.oneCell']) HOWN.out HB.out HB.out.size (by have := HL3.out; omega) ?_; intro v1 w1 ho1 hb1 hg1 hat1; obtain ⟨A1, k1, rfl⟩ := own_slice ho1; have HO1 := Aside0.mk ho1; have HB1 := Aside0.mk hb1; have HG1 := Aside0.mk (HBK.out ▸ hg1); have hbk := blk_grown HV.out.blk HG1.out (own_ne HV.out.steps HV.out.blk (by decide)); have f2 : w1.frozen? ⟨b, 2, none⟩ = false := blk_frozen hbk 2; have c2' : w1.cell? ⟨b, 2, none⟩ = some (.slice (some ⟨gs, 0, none⟩) N cs) := blk_cell hbk 2; have hp1 := blk_grown HP.out HG1.out (fun e => by have := HLT.out.2 _ e.symm; omega); have p4 : (w1.setCell ⟨b, 2, none⟩ (.slice A1 (L.length + 1) k1)).cell? ⟨w.heap.size + 1, 0, none⟩ = some (.int .i64 px) := blk_cell (blk_far hp1 (fun e => HLT.out.1 e.symm) _) 0; have p5 : (w1.setCell ⟨b, 2, none⟩ (.slice A1 (L.length + 1) k1)).cell? ⟨w.heap.size + 1, 1, none⟩ = some (.int .i64 py) := blk_cell (blk_far hp1 (fun e => HLT.out.1 e.symm) _) 1; have f4 : (w1.setCell ⟨b, 2, none⟩ (.slice A1 (L.length + 1) k1)).frozen? ⟨b, 4, none⟩ = false := blk_frozen (blk_set hbk 2 _) 4; have c4' : (w1.setCell ⟨b, 2, none⟩ (.slice A1 (L.length + 1) k1)).cell? ⟨b, 4, none⟩ = some (.int .i64 m.x) := blk_cell (blk_set hbk 2 _) 4; have f5 : ((w1.setCell ⟨b, 2, none⟩ (.slice A1 (L.length + 1) k1)).setCell ⟨b, 4, none⟩ (.int .i64 px)).frozen? ⟨b, 5, none⟩ = false := blk_frozen (blk_set (blk_set hbk 2 _) 4 _) 5; have c5' : ((w1.setCell ⟨b, 2, none⟩ (.slice A1 (L.length + 1) k1)).setCell ⟨b, 4, none⟩ (.int .i64 px)).cell? ⟨b, 5, none⟩ = some (.int .i64 m.y) := blk_cell (blk_set (blk_set hbk 2 _) 4 _) 5; clear ho1 hb1 hg1 hat1 hbk hp1 c2 s0 s1 s2 s3 s4 s5 s6)
              go_ret
              rw [HE.out]
              have e1 : (L ++ [st]).length = L.length + 1 := by simp
              have k0 := HOK.out
              have kk : Ok { m with steps := L ++ [st] } := ⟨k0.stack, k0.small, k0.res, k0.rsmall, by show (L ++ [st]).length ≤ 300; rw [e1]; exact HL3.out, k0.stems, k0.points, k0.x, k0.y, k0.side, k0.width, k0.count⟩
              have kk2 : Ok { m with steps := L ++ [st], x := px } := ⟨k0.stack, k0.small, k0.res, k0.rsmall, kk.steps, k0.stems, k0.points, hpx, k0.y, k0.side, k0.width, k0.count⟩
              have kk3 : Ok { m with steps := L ++ [st], x := px, y := py } := ⟨k0.stack, k0.small, k0.res, k0.rsmall, kk.steps, k0.stems, k0.points, hpx, hpy, k0.side, k0.width, k0.count⟩
              have hown : w1.ownsRow W0.heap.size 60 7 (.slice A1 (L.length + 1) k1) (L ++ [st]).length ((L ++ [st]).flatMap stp) := by
                rw [e1, List.flatMap_append]
                simpa [stp] using HO1.out
              have hput := (((HV.out.put_steps hown HG1.out kk).set 4 (.int .i64 px) { m with steps := L ++ [st], x := px } rfl rfl rfl rfl rfl rfl kk2).set 5 (.int .i64 py) { m with steps := L ++ [st], x := px, y := py } rfl rfl rfl rfl rfl rfl kk3)
              have hbk := blk_grown HV.out.blk HG1.out (own_ne HV.out.steps HV.out.blk (by decide))
              exact ⟨⟨rfl, below_set (below_set (below_set HB1.out HB8.out) HB8.out) HB8.out, HB8.out, _, vt, vk, Ar, cr, vp, hput⟩, (((keeps_below HBEL.out).trans (keeps_grown HV.out.steps (by decide) HG1.out)).trans (keeps_set hbk (by decide) 2 _)).trans ((keeps_set (blk_set hbk 2 _) (by decide) 4 _).trans (keeps_set (blk_set (blk_set hbk 2 _) 4 _) (by decide) 5 _))⟩
          · have t3 : (z == 1) = false := by simpa using hz1
            obtain ⟨L, hLs⟩ : ∃ L, m.steps = L := ⟨_, rfl⟩
            have HKEPT : Aside0 (kept 1 m.steps = L) := ⟨by unfold kept; rw [if_neg (by rintro ⟨_, h⟩; rw [hlast, t3] at h; cases h), hLs]⟩
            have HKL : Aside0 (L.length ≤ 300) := ⟨by rw [← hLs, hN]; exact hn300⟩
            have HOWN : Aside0 (wr.ownsRow W0.heap.size 60 7 (.slice (some ⟨gs, 0, none⟩) L.length cs) L.length (L.flatMap stp)) := ⟨by have := HV.out.steps; rw [← hN, hLs] at this; exact this⟩
            have HBK : Aside0 ((Value.slice (some ⟨gs, 0, none⟩) L.length cs).ownBlock = (Value.slice (some ⟨gs, 0, none⟩) N cs).ownBlock) := ⟨rfl⟩
            obtain rfl : N = L.length := by rw [← hN, hLs]
            clear hlast hz1 hd
            have hL := HOWN.out.1
            by_cases hfull : L.length = 300
            · have t8 : ((L.length : Int) == 300) = true := by rw [hfull]; rfl
              have HE : Aside0 (stepM m 1 l = .error 26) := ⟨by rw [HPL.out, HKEPT.out, if_pos (by omega)]⟩
              clear hL hfull
              go_wp2_with fail
              go_ret
              rw [HE.out]
              exact ⟨⟨rfl, .inl rfl, (Mach.left HMM.out).below HBEL.out⟩, keeps_below HBEL.out⟩
            · have t8 : ((L.length : Int) == 300) = false := by simp; omega
              have HE : Aside0 (stepM m 1 l = .ok { m with steps := L ++ [st], x := px, y := py }) := ⟨by rw [HPL.out, HKEPT.out, if_neg (by have := HKL.out; omega)]⟩
              have HL3 := Aside0.mk (show L.length < 300 by have := HKL.out; omega)
              clear hL hfull
              go_wp2_with (at_builtin; refine print_append_cells (w0 := W0) W0.heap.size rfl (.tmp 87) (.tmp 89) 40 60 _ 7 56 rfl Try.underlying40 info60 rfl (by decide) (by decide) (.slice (some ⟨gs, 0, none⟩) L.length cs) L.length (L.flatMap stp) [.int .i64 st.1, .int .i64 st.2.1.1, .int .i64 st.2.1.2, .int .i64 st.2.2.1.1, .int .i64 st.2.2.1.2, .int .i64 st.2.2.2.1, .int .i64 st.2.2.2.2] rfl rfl rfl (by simp [Value.oneCell']) HOWN.out HB.out HB.out.size (by have := HL3.out; omega) ?_; intro v1 w1 ho1 hb1 hg1 hat1; obtain ⟨A1, k1, rfl⟩ := own_slice ho1; have HO1 := Aside0.mk ho1; have HB1 := Aside0.mk hb1; have HG1 := Aside0.mk (HBK.out ▸ hg1); have hbk := blk_grown HV.out.blk HG1.out (own_ne HV.out.steps HV.out.blk (by decide)); have f2 : w1.frozen? ⟨b, 2, none⟩ = false := blk_frozen hbk 2; have c2' : w1.cell? ⟨b, 2, none⟩ = some (.slice (some ⟨gs, 0, none⟩) L.length cs) := blk_cell hbk 2; have hp1 := blk_grown HP.out HG1.out (fun e => by have := HLT.out.2 _ e.symm; omega); have p4 : (w1.setCell ⟨b, 2, none⟩ (.slice A1 (L.length + 1) k1)).cell? ⟨w.heap.size + 1, 0, none⟩ = some (.int .i64 px) := blk_cell (blk_far hp1 (fun e => HLT.out.1 e.symm) _) 0; have p5 : (w1.setCell ⟨b, 2, none⟩ (.slice A1 (L.length + 1) k1)).cell? ⟨w.heap.size + 1, 1, none⟩ = some (.int .i64 py) := blk_cell (blk_far hp1 (fun e => HLT.out.1 e.symm) _) 1; have f4 : (w1.setCell ⟨b, 2, none⟩ (.slice A1 (L.length + 1) k1)).frozen? ⟨b, 4, none⟩ = false := blk_frozen (blk_set hbk 2 _) 4; have c4' : (w1.setCell ⟨b, 2, none⟩ (.slice A1 (L.length + 1) k1)).cell? ⟨b, 4, none⟩ = some (.int .i64 m.x) := blk_cell (blk_set hbk 2 _) 4; have f5 : ((w1.setCell ⟨b, 2, none⟩ (.slice A1 (L.length + 1) k1)).setCell ⟨b, 4, none⟩ (.int .i64 px)).frozen? ⟨b, 5, none⟩ = false := blk_frozen (blk_set (blk_set hbk 2 _) 4 _) 5; have c5' : ((w1.setCell ⟨b, 2, none⟩ (.slice A1 (L.length + 1) k1)).setCell ⟨b, 4, none⟩ (.int .i64 px)).cell? ⟨b, 5, none⟩ = some (.int .i64 m.y) := blk_cell (blk_set (blk_set hbk 2 _) 4 _) 5; clear ho1 hb1 hg1 hat1 hbk hp1 c2 s0 s1 s2 s3 s4 s5 s6)
              go_ret
              rw [HE.out]
              have e1 : (L ++ [st]).length = L.length + 1 := by simp
              have k0 := HOK.out
              have kk : Ok { m with steps := L ++ [st] } := ⟨k0.stack, k0.small, k0.res, k0.rsmall, by show (L ++ [st]).length ≤ 300; rw [e1]; exact HL3.out, k0.stems, k0.points, k0.x, k0.y, k0.side, k0.width, k0.count⟩
              have kk2 : Ok { m with steps := L ++ [st], x := px } := ⟨k0.stack, k0.small, k0.res, k0.rsmall, kk.steps, k0.stems, k0.points, hpx, k0.y, k0.side, k0.width, k0.count⟩
              have kk3 : Ok { m with steps := L ++ [st], x := px, y := py } := ⟨k0.stack, k0.small, k0.res, k0.rsmall, kk.steps, k0.stems, k0.points, hpx, hpy, k0.side, k0.width, k0.count⟩
              have hown : w1.ownsRow W0.heap.size 60 7 (.slice A1 (L.length + 1) k1) (L ++ [st]).length ((L ++ [st]).flatMap stp) := by
                rw [e1, List.flatMap_append]
                simpa [stp] using HO1.out
              have hput := (((HV.out.put_steps hown HG1.out kk).set 4 (.int .i64 px) { m with steps := L ++ [st], x := px } rfl rfl rfl rfl rfl rfl kk2).set 5 (.int .i64 py) { m with steps := L ++ [st], x := px, y := py } rfl rfl rfl rfl rfl rfl kk3)
              have hbk := blk_grown HV.out.blk HG1.out (own_ne HV.out.steps HV.out.blk (by decide))
              exact ⟨⟨rfl, below_set (below_set (below_set HB1.out HB8.out) HB8.out) HB8.out, HB8.out, _, vt, vk, Ar, cr, vp, hput⟩, (((keeps_below HBEL.out).trans (keeps_grown HV.out.steps (by decide) HG1.out)).trans (keeps_set hbk (by decide) 2 _)).trans ((keeps_set (blk_set hbk 2 _) (by decide) 4 _).trans (keeps_set (blk_set (blk_set hbk 2 _) 4 _) (by decide) 5 _))⟩
        · have t2 : (k == 1) = false := by simpa using hk1'
          obtain ⟨L, hLs⟩ : ∃ L, m.steps = L := ⟨_, rfl⟩
          have HKEPT : Aside0 (kept k m.steps = L) := ⟨by unfold kept; rw [if_neg (by rintro ⟨h, _⟩; exact hk1' h), hLs]⟩
          have HKL : Aside0 (L.length ≤ 300) := ⟨by rw [← hLs, hN]; exact hn300⟩
          have HOWN : Aside0 (wr.ownsRow W0.heap.size 60 7 (.slice As L.length cs) L.length (L.flatMap stp)) := ⟨by have := HV.out.steps; rw [← hN, hLs] at this; exact this⟩
          have HBK : Aside0 ((Value.slice As L.length cs).ownBlock = (Value.slice As N cs).ownBlock) := ⟨by cases As <;> rfl⟩
          obtain rfl : N = L.length := by rw [← hN, hLs]
          clear hn0
          have hL := HOWN.out.1
          by_cases hfull : L.length = 300
          · have t8 : ((L.length : Int) == 300) = true := by rw [hfull]; rfl
            have HE : Aside0 (stepM m k l = .error 26) := ⟨by rw [HPL.out, HKEPT.out, if_pos (by omega)]⟩
            clear hL hfull
            go_wp2_with fail
            go_ret
            rw [HE.out]
            exact ⟨⟨rfl, .inl rfl, (Mach.left HMM.out).below HBEL.out⟩, keeps_below HBEL.out⟩
          · have t8 : ((L.length : Int) == 300) = false := by simp; omega
            have HE : Aside0 (stepM m k l = .ok { m with steps := L ++ [st], x := px, y := py }) := ⟨by rw [HPL.out, HKEPT.out, if_neg (by have := HKL.out; omega)]⟩
            have HL3 := Aside0.mk (show L.length < 300 by have := HKL.out; omega)
            clear hL hfull
            go_wp2_with (at_builtin; refine print_append_cells (w0 := W0) W0.heap.size rfl (.tmp 87) (.tmp 89) 40 60 _ 7 56 rfl Try.underlying40 info60 rfl (by decide) (by decide) (.slice As L.length cs) L.length (L.flatMap stp) [.int .i64 st.1, .int .i64 st.2.1.1, .int .i64 st.2.1.2, .int .i64 st.2.2.1.1, .int .i64 st.2.2.1.2, .int .i64 st.2.2.2.1, .int .i64 st.2.2.2.2] rfl rfl rfl (by simp [Value.oneCell']) HOWN.out HB.out HB.out.size (by have := HL3.out; omega) ?_; intro v1 w1 ho1 hb1 hg1 hat1; obtain ⟨A1, k1, rfl⟩ := own_slice ho1; have HO1 := Aside0.mk ho1; have HB1 := Aside0.mk hb1; have HG1 := Aside0.mk (HBK.out ▸ hg1); have hbk := blk_grown HV.out.blk HG1.out (own_ne HV.out.steps HV.out.blk (by decide)); have f2 : w1.frozen? ⟨b, 2, none⟩ = false := blk_frozen hbk 2; have c2' : w1.cell? ⟨b, 2, none⟩ = some (.slice As L.length cs) := blk_cell hbk 2; have hp1 := blk_grown HP.out HG1.out (fun e => by have := HLT.out.2 _ e.symm; omega); have p4 : (w1.setCell ⟨b, 2, none⟩ (.slice A1 (L.length + 1) k1)).cell? ⟨w.heap.size + 1, 0, none⟩ = some (.int .i64 px) := blk_cell (blk_far hp1 (fun e => HLT.out.1 e.symm) _) 0; have p5 : (w1.setCell ⟨b, 2, none⟩ (.slice A1 (L.length + 1) k1)).cell? ⟨w.heap.size + 1, 1, none⟩ = some (.int .i64 py) := blk_cell (blk_far hp1 (fun e => HLT.out.1 e.symm) _) 1; have f4 : (w1.setCell ⟨b, 2, none⟩ (.slice A1 (L.length + 1) k1)).frozen? ⟨b, 4, none⟩ = false := blk_frozen (blk_set hbk 2 _) 4; have c4' : (w1.setCell ⟨b, 2, none⟩ (.slice A1 (L.length + 1) k1)).cell? ⟨b, 4, none⟩ = some (.int .i64 m.x) := blk_cell (blk_set hbk 2 _) 4; have f5 : ((w1.setCell ⟨b, 2, none⟩ (.slice A1 (L.length + 1) k1)).setCell ⟨b, 4, none⟩ (.int .i64 px)).frozen? ⟨b, 5, none⟩ = false := blk_frozen (blk_set (blk_set hbk 2 _) 4 _) 5; have c5' : ((w1.setCell ⟨b, 2, none⟩ (.slice A1 (L.length + 1) k1)).setCell ⟨b, 4, none⟩ (.int .i64 px)).cell? ⟨b, 5, none⟩ = some (.int .i64 m.y) := blk_cell (blk_set (blk_set hbk 2 _) 4 _) 5; clear ho1 hb1 hg1 hat1 hbk hp1 c2 s0 s1 s2 s3 s4 s5 s6)
            go_ret
            rw [HE.out]
            have e1 : (L ++ [st]).length = L.length + 1 := by simp
            have k0 := HOK.out
            have kk : Ok { m with steps := L ++ [st] } := ⟨k0.stack, k0.small, k0.res, k0.rsmall, by show (L ++ [st]).length ≤ 300; rw [e1]; exact HL3.out, k0.stems, k0.points, k0.x, k0.y, k0.side, k0.width, k0.count⟩
            have kk2 : Ok { m with steps := L ++ [st], x := px } := ⟨k0.stack, k0.small, k0.res, k0.rsmall, kk.steps, k0.stems, k0.points, hpx, k0.y, k0.side, k0.width, k0.count⟩
            have kk3 : Ok { m with steps := L ++ [st], x := px, y := py } := ⟨k0.stack, k0.small, k0.res, k0.rsmall, kk.steps, k0.stems, k0.points, hpx, hpy, k0.side, k0.width, k0.count⟩
            have hown : w1.ownsRow W0.heap.size 60 7 (.slice A1 (L.length + 1) k1) (L ++ [st]).length ((L ++ [st]).flatMap stp) := by
              rw [e1, List.flatMap_append]
              simpa [stp] using HO1.out
            have hput := (((HV.out.put_steps hown HG1.out kk).set 4 (.int .i64 px) { m with steps := L ++ [st], x := px } rfl rfl rfl rfl rfl rfl kk2).set 5 (.int .i64 py) { m with steps := L ++ [st], x := px, y := py } rfl rfl rfl rfl rfl rfl kk3)
            have hbk := blk_grown HV.out.blk HG1.out (own_ne HV.out.steps HV.out.blk (by decide))
            exact ⟨⟨rfl, below_set (below_set (below_set HB1.out HB8.out) HB8.out) HB8.out, HB8.out, _, vt, vk, Ar, cr, vp, hput⟩, (((keeps_below HBEL.out).trans (keeps_grown HV.out.steps (by decide) HG1.out)).trans (keeps_set hbk (by decide) 2 _)).trans ((keeps_set (blk_set hbk 2 _) (by decide) 4 _).trans (keeps_set (blk_set (blk_set hbk 2 _) 4 _) (by decide) 5 _))⟩
end Go.Proofs.Ytimnohaalccdkaa.G33c
