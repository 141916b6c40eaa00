/- A row of whole numbers is turned round (chapter 33): Reverse 99. -/
import Derived.Test.YtimnohaalccdkaaG33b
namespace Go.Proofs.Ytimnohaalccdkaa.G33r
open Go.Proofs.Ytimnohaalccdkaa.K33 Go.Proofs.Ytimnohaalccdkaa.M33 Go.Proofs.Ytimnohaalccdkaa.G33a
open Go.RowKit Go.Proofs.YtimnohaalccdkaaW.PrintWords Go.Proofs.YtimnohaalccdkaaW.PrintLast Go.Proofs.YtimnohaalccdkaaW.PrintMore
set_option linter.unusedVariables false
set_option linter.unusedSimpArgs false
set_option maxRecDepth 100000
/-! ### A row of whole numbers is turned round -/
/-- The cells of a list in its block. -/
def RowAt (w : World) (g off : Nat) (xs : List Int) : Prop := ∃ cs : Array Value, w.heap[g]? = some (.cells cs 3 (0, 0)) ∧ ∀ (i : Nat) (x : Int), xs[i]? = some x → cs[off + i]? = some (.int .i64 x)
/-- What is kept while block g is turned. -/
def But (g : Nat) (w w' : World) : Prop := w'.os = w.os ∧ w'.tape = w.tape ∧ w'.output = w.output ∧ w.heap.size ≤ w'.heap.size ∧ ∀ i, i < w.heap.size → i ≠ g → w'.heap[i]? = w.heap[i]?
/-- The list after the first i exchanges. -/
def swapped (xs : List Int) (i : Nat) : List Int := (List.range xs.length).map fun k => if k < i ∨ xs.length - 1 - i < k then xs.getD (xs.length - 1 - k) 0 else xs.getD k 0
theorem swapped_len (xs : List Int) (i : Nat) : (swapped xs i).length = xs.length := by simp [swapped]
theorem swapped_at (xs : List Int) (i k : Nat) (hk : k < xs.length) : (swapped xs i).getD k 0 = if k < i ∨ xs.length - 1 - i < k then xs.getD (xs.length - 1 - k) 0 else xs.getD k 0 := by
  unfold swapped
  rw [List.getD_eq_getElem?_getD, List.getElem?_map, List.getElem?_range hk]
  rfl
theorem getD_ext {a b : List Int} (hl : a.length = b.length) (h : ∀ k, k < a.length → a.getD k 0 = b.getD k 0) : a = b := by
  refine List.ext_getElem hl fun k h1 h2 => ?_
  have := h k h1
  rw [List.getD_eq_getElem?_getD, List.getD_eq_getElem?_getD, List.getElem?_eq_getElem h1, List.getElem?_eq_getElem h2] at this
  exact this
theorem swapped_zero (xs : List Int) : swapped xs 0 = xs := by
  refine getD_ext (swapped_len _ _) fun k hk => ?_
  rw [swapped_len] at hk
  rw [swapped_at _ _ _ hk, if_neg (by omega)]
theorem swapped_all (xs : List Int) (i : Nat) (h : xs.length ≤ 2 * i + 1) : swapped xs i = xs.reverse := by
  refine getD_ext (by rw [swapped_len, List.length_reverse]) fun k hk => ?_
  rw [swapped_len] at hk
  rw [swapped_at _ _ _ hk]
  have e : xs.reverse.getD k 0 = xs.getD (xs.length - 1 - k) 0 := by
    rw [List.getD_eq_getElem?_getD, List.getD_eq_getElem?_getD, List.getElem?_reverse hk]
  rw [e]
  split
  · rfl
  · congr 1
    omega
theorem set_getD (l : List Int) (a k : Nat) (v : Int) (ha : a < l.length) : (l.set a v).getD k 0 = if k = a then v else l.getD k 0 := by
  rw [List.getD_eq_getElem?_getD, List.getD_eq_getElem?_getD, List.getElem?_set]
  by_cases h : a = k
  · subst h; rw [if_pos rfl, if_pos ha, if_pos rfl]; rfl
  · rw [if_neg h, if_neg (fun e => h e.symm)]
theorem swapped_succ (xs : List Int) (i : Nat) (h : 2 * i + 1 < xs.length) : swapped xs (i + 1) = ((swapped xs i).set i ((swapped xs i).getD (xs.length - 1 - i) 0)).set (xs.length - 1 - i) ((swapped xs i).getD i 0) := by
  refine getD_ext (by simp [swapped_len]) fun k hk => ?_
  rw [swapped_len] at hk
  rw [set_getD _ _ _ _ (by rw [List.length_set, swapped_len]; omega), set_getD _ _ _ _ (by rw [swapped_len]; omega), swapped_at _ _ _ hk, swapped_at _ _ _ hk, swapped_at _ _ _ (by omega), swapped_at _ _ _ (by omega)]
  by_cases h1 : k = xs.length - 1 - i
  · rw [if_pos h1, if_pos (by omega), if_neg (by omega)]
    congr 1; omega
  · rw [if_neg h1]
    by_cases h2 : k = i
    · rw [if_pos h2, if_pos (by omega), if_neg (by omega), h2]
    · rw [if_neg h2]
      by_cases h3 : k < i ∨ xs.length - 1 - i < k
      · rw [if_pos (by omega), if_pos h3]
      · rw [if_neg (by omega), if_neg h3]
theorem row_set {w : World} {g off : Nat} {xs : List Int} (h : RowAt w g off xs) (i : Nat) (hi : i < xs.length) (v : Int) : RowAt (w.setCell ⟨g, off + i, none⟩ (.int .i64 v)) g off (xs.set i v) := by
  obtain ⟨cs, h1, h2⟩ := h
  refine ⟨_, blk_set h1 (off + i) _, fun k x hk => ?_⟩
  have hlt := (Array.getElem?_eq_some_iff.1 (h2 i _ (List.getElem?_eq_getElem hi))).1
  rw [List.getElem?_set] at hk
  by_cases he : i = k
  · subst he
    rw [if_pos rfl, if_pos hi] at hk
    injection hk with hk
    subst hk
    simp [hlt]
  · rw [if_neg he] at hk
    rw [Array.getElem?_setIfInBounds_ne (by omega)]
    exact h2 k x hk
theorem But.refl (g : Nat) (w : World) : But g w w := ⟨rfl, rfl, rfl, Nat.le_refl _, fun _ _ _ => rfl⟩
theorem But.set {g : Nat} {w w' : World} (h : But g w w') (i : Nat) (v : Value) : But g w (w'.setCell ⟨g, i, none⟩ v) :=
  ⟨h.1, h.2.1, h.2.2.1, by simp; exact h.2.2.2.1, fun k hk hne => (Below.heap_setCell _ _ _ _ hne).trans (h.2.2.2.2 k hk hne)⟩
theorem But.drew {g : Nat} {w w' : World} (h : But g w w') : But g w w'.drew := h
theorem row_cell {w : World} {g off : Nat} {xs : List Int} (h : RowAt w g off xs) (i : Nat) (hi : i < xs.length) : w.cell? ⟨g, off + i, none⟩ = some (.int .i64 (xs.getD i 0)) := by
  obtain ⟨cs, h1, h2⟩ := h
  rw [blk_cell h1, h2 i _ (List.getElem?_eq_getElem hi), List.getD_eq_getElem?_getD, List.getElem?_eq_getElem hi]
  rfl
theorem row_frz {w : World} {g off : Nat} {xs : List Int} (h : RowAt w g off xs) (i : Nat) : w.frozen? ⟨g, i, none⟩ = false := by
  obtain ⟨cs, h1, h2⟩ := h
  exact blk_frozen h1 i
set_option maxHeartbeats 2000000 in
theorem reverse_call {w : World} {g off c : Nat} {xs : List Int} (h : RowAt w g off xs) (hl : xs.length ≤ 1000) (h0 : xs ≠ []) :
    Calls Try.prog 99 #[.slice (some ⟨g, off, none⟩) xs.length c] w fun e w' => e = .returned (.tuple #[]) ∧ RowAt w' g off xs.reverse ∧ But g w w' := by
  have HR : Aside0 (RowAt w g off (swapped xs 0)) := ⟨by rw [swapped_zero]; exact h⟩
  have hpos : 0 < xs.length := List.length_pos_iff.2 h0
  clear h h0
  go_enter Try.func99, Try.ntmps99
  go_wp2_with fail
  go_loopw [2, 3] (fun v2 v3 wr => ∃ i : Nat, v2 = .int .i64 (i : Int) ∧ v3 = .int .i64 ((xs.length : Int) - 1 - (i : Int)) ∧ 2 * i ≤ xs.length ∧ Aside0 (RowAt wr g off (swapped xs i)) ∧ Aside0 (But g w wr)) (fun v2 _ _ => 1000 - (intOf v2).toNat)
  case atStart => exact ⟨0, rfl, by simp, by omega, HR, ⟨But.refl _ _⟩⟩
  case round =>
    clear HR
    obtain ⟨i, rfl, rfl, hi, HR, HB⟩ := hrel
    by_cases hlt : 2 * i + 1 < xs.length
    · obtain ⟨k, hk⟩ : ∃ k : Nat, xs.length - 1 - i = k := ⟨_, rfl⟩
      have ek : (xs.length : Int) - 1 - (i : Int) = (k : Int) := by omega
      rw [ek]
      have t0 : decide (i < k) = true := decide_eq_true (by omega)
      have hs := swapped_succ xs i hlt
      rw [hk] at hs
      have ci := row_cell HR.out i (by rw [swapped_len]; omega)
      have ck := row_cell HR.out k (by rw [swapped_len]; omega)
      obtain ⟨x, hx⟩ : ∃ x, (swapped xs i).getD i 0 = x := ⟨_, rfl⟩
      obtain ⟨y, hy⟩ : ∃ y, (swapped xs i).getD k 0 = y := ⟨_, rfl⟩
      rw [hx] at ci hs
      rw [hy] at ck hs
      have f1 := row_frz HR.out (off + i)
      have R1 := Aside0.mk (row_set HR.out i (by rw [swapped_len]; omega) y)
      have f2 := row_frz R1.out (off + k)
      have ck2 : (wr.setCell ⟨g, off + i, none⟩ (.int .i64 y)).cell? ⟨g, off + k, none⟩ = some (.int .i64 y) := by
        have := row_cell R1.out k (by rw [List.length_set, swapped_len]; omega)
        rw [set_getD _ _ _ _ (by rw [swapped_len]; omega), if_neg (by omega), hy] at this
        exact this
      have R2 : Aside0 (RowAt ((wr.setCell ⟨g, off + i, none⟩ (.int .i64 y)).setCell ⟨g, off + k, none⟩ (.int .i64 x)) g off (swapped xs (i + 1))) := ⟨by rw [hs]; exact row_set R1.out k (by rw [List.length_set, swapped_len]; omega) x⟩
      have b0 : (0 : Int) ≤ (i : Int) := by omega
      have b1 : (i : Int) < (xs.length : Int) := by omega
      have b2 : (0 : Int) ≤ (k : Int) := by omega
      have b3 : (k : Int) < (xs.length : Int) := by omega
      have HKK := Aside0.mk (show (k : Int) - 1 = (xs.length : Int) - 1 - ((i + 1 : Nat) : Int) by omega)
      have HI := Aside0.mk hlt
      clear hs hx hy hk ek hlt
      go_wp2_with fail
      go_region
      have R3 : Aside0 (RowAt ((wr.setCell ⟨g, off + i, none⟩ (.int .i64 y)).setCell ⟨g, off + k, none⟩ (.int .i64 x)).drew g off (swapped xs (i + 1))) := R2
      have B3 : Aside0 (But g w ((wr.setCell ⟨g, off + i, none⟩ (.int .i64 y)).setCell ⟨g, off + k, none⟩ (.int .i64 x)).drew) := ⟨((HB.out.set (off + i) (.int .i64 y)).set (off + k) (.int .i64 x)).drew⟩
      generalize ((wr.setCell ⟨g, off + i, none⟩ (.int .i64 y)).setCell ⟨g, off + k, none⟩ (.int .i64 x)).drew = wz at R3 B3 ⊢
      clear ci ck f1 f2 ck2 R1 R2
      have hkb : 0 ≤ (k : Int) ∧ (k : Int) < 1000 := by omega
      go_wp2_with fail
      have hlt := HI.out
      have hkk := HKK.out
      go_roundw
      case measure => simp [intOf]; omega
      case rel => exact ⟨i + 1, by go_num, by rw [← hkk], by omega, R3, B3⟩
    · have t0 : decide ((i : Int) < (xs.length : Int) - 1 - (i : Int)) = false := decide_eq_false (by omega)
      have HS : Aside0 (swapped xs i = xs.reverse) := ⟨swapped_all xs i (by omega)⟩
      clear hlt
      go_wp2_with fail
      go_end0
      exact ⟨rfl, by rw [← HS.out]; exact HR.out, HB.out⟩
end Go.Proofs.Ytimnohaalccdkaa.G33r
