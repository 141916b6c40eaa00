/- number of the law (chapter 33): the octets of numbers, one behind the other. -/
import Derived.Test.YtimnohaalccdkaaB33
import Derived.Test.YtimnohaalccdkaaV33
namespace Go.Proofs.Ytimnohaalccdkaa.N33b
open Go.Proofs.Ytimnohaalccdkaa Go.Proofs.Ytimnohaalccdkaa.K33 Go.Proofs.Ytimnohaalccdkaa.M33 Go.Proofs.Ytimnohaalccdkaa.L33 Go.Proofs.Ytimnohaalccdkaa.N33 Go.Proofs.Ytimnohaalccdkaa.G33o Go.Proofs.Ytimnohaalccdkaa.W33 Go.Proofs.Ytimnohaalccdkaa.D33 Go.Proofs.Ytimnohaalccdkaa.E33 Go.Proofs.Ytimnohaalccdkaa.V33 Go.Proofs.Ytimnohaalccdkaa.B33 Go.Proofs.Ytimnohaalccdkaa.P33a
open Go.RowKit Go.Proofs.YtimnohaalccdkaaW.PrintWords Go.Proofs.YtimnohaalccdkaaW.PrintLast Go.Proofs.YtimnohaalccdkaaW.PrintMore
set_option linter.unusedVariables false
set_option linter.unusedSimpArgs false
set_option maxRecDepth 100000
theorem bld_below {B b : Nat} {bs : List Value} {w w' : World} (h : Lib.IsBuilder 104 5 B b bs w) (hb : Below w.heap.size w w') : Lib.IsBuilder 104 5 B b bs w' := by
  rcases h with h | h
  · obtain ⟨h1, v, h2, h3, h4⟩ := id h
    exact .inl ⟨h1, v, (hb.block b h.lt).trans h2, pw_own_below h3 hb, h4⟩
  · obtain ⟨h1, v, h2, h3, h4⟩ := id h
    exact .inr ⟨h1, v, (hb.block b h.lt).trans h2, pw_own_below h3 hb, h4⟩
theorem strCells_nums (l : List Int) (h : Oct l) : Lib.strCells (strOfNums l) = nums .u8 l := by
  rw [← cells_nums l h]
  unfold strOfNums
  rfl
theorem flat_oct (xs : List Int) : Oct (xs.flatMap numB) := fun x hx => by
  obtain ⟨y, _, hy⟩ := List.mem_flatMap.1 hx
  exact numB_oct y x hy
theorem flat_len (xs : List Int) : (xs.flatMap numB).length ≤ 5 * xs.length := by
  induction xs with
  | nil => simp
  | cons x r ih => rw [List.flatMap_cons, List.length_append, List.length_cons]; have := (numB_len x).2; omega
set_option maxHeartbeats 4000000 in
theorem number_call {w : World} {A : Option Addr} {c : Nat} {xs : List Int} (hi : Ints w A xs) (hx : ∀ x ∈ xs, -2147483648 ≤ x ∧ x ≤ 2147483647) (hl : xs.length ≤ 1000) :
    Calls Try.prog 22 #[.slice A xs.length c] w fun e w' => e = .returned (.string (strOfNums (xs.flatMap numB))) ∧ Below w.heap.size w w' := by
  have HI := Aside0.mk hi
  have HX := Aside0.mk hx
  have HL := Aside0.mk hl
  clear hi hx hl
  go_enter Try.func22, Try.ntmps22
  go_wp2_with fail
  obtain ⟨r, hr⟩ : ∃ r, w.heap.size = r := ⟨_, rfl⟩
  have HB0 : Aside0 (Below w.heap.size w (w.alloc (.cells #[.pointer none, .slice none 0 0] 104))) := ⟨below_alloc (Below.refl _ _) _⟩
  have HU0 : Aside0 (Lib.IsBuilder 104 5 r r (nums .u8 ((xs.take 0).flatMap numB)) (w.alloc (.cells #[.pointer none, .slice none 0 0] 104))) := ⟨by rw [← hr]; exact Lib.fresh_isBuilder 104 5 w⟩
  have HRW : Aside0 (w.heap.size = r) := ⟨hr⟩
  rw [hr]
  clear hr
  go_loopw [8] (fun v8 wr => ∃ j : Nat, v8 = .int .i64 (j : Int) ∧ j ≤ xs.length ∧ Aside0 (Lib.IsBuilder 104 5 r r (nums .u8 ((xs.take j).flatMap numB)) wr) ∧ Aside0 (Below w.heap.size w wr)) (fun v8 _ => xs.length - (intOf v8).toNat)
  case atStart => exact ⟨0, rfl, by omega, HU0, HB0⟩
  case round =>
    clear HU0 HB0
    obtain ⟨j, rfl, hj, HU, HB⟩ := hrel
    by_cases hjl : j < xs.length
    · have t1 : decide ((j : Int) < (xs.length : Int)) = true := decide_eq_true (by omega)
      have t2 : decide (j < xs.length) = true := decide_eq_true hjl
      have hq : (j < xs.length) = True := eq_true hjl
      obtain ⟨x, hxj⟩ : ∃ x, xs[j]'hjl = x := ⟨_, rfl⟩
      have hxs : xs[j]? = some x := by rw [List.getElem?_eq_getElem hjl, hxj]
      have hmem : x ∈ xs := by rw [← hxj]; exact List.getElem_mem hjl
      have HN := Aside0.mk (HX.out x hmem)
      obtain ⟨g, off, rfl, hcell⟩ : ∃ g off, A = some ⟨g, off, none⟩ ∧ wr.cell? ⟨g, off + j, none⟩ = some (.int .i64 x) := by
        rcases (HI.out.below HB.out) with h | ⟨g, off, cs, h1, h2, h3⟩
        · rw [h] at hjl; simp at hjl
        · exact ⟨g, off, h1, by rw [blk_cell h2]; exact h3 j x hxs⟩
      have HE : Aside0 ((xs.take (j + 1)).flatMap numB = (xs.take j).flatMap numB ++ numB x) := ⟨by rw [List.take_add_one, hxs]; simp⟩
      have HJ := Aside0.mk hjl
      clear hxj hxs hmem
      go_wp2_with fail
      refine (ref_num_call HN.out _).mono ?_
      rintro e w1 ⟨rfl, hb1⟩
      have HB1 := Aside0.mk (below_step HB.out hb1)
      have hu1 : Lib.IsBuilder 104 5 r r (nums .u8 ((xs.take j).flatMap numB)) w1 := by
        have hlt : r < wr.heap.size := by
          rcases HU.out with h | h
          · exact h.lt
          · exact h.lt
        exact bld_below HU.out hb1
      have HU1 := Aside0.mk hu1
      clear hu1 hb1 HB HU
      go_wp2_with fail
      refine (write_string r r _ (strOfNums (numB x)) w1 HU1.out ?_ ?_).mono ?_
      · rw [nums_length, strOf_size]
        have h1 := flat_len (xs.take j)
        have h2 := (numB_len x).2
        have h3 := HL.out
        have h4 := HJ.out
        rw [List.length_take] at h1
        omega
      · have := HB1.out.size
        have := HRW.out
        omega
      rintro e w2 ⟨rfl, hu2, hb2⟩
      have HB2 : Aside0 (Below w.heap.size w w2) := ⟨HB1.out.trans (by rw [HRW.out]; exact hb2)⟩
      have HU2 : Aside0 (Lib.IsBuilder 104 5 r r (nums .u8 ((xs.take (j + 1)).flatMap numB)) w2) := ⟨by
        rw [strCells_nums _ (numB_oct x)] at hu2
        rw [HE.out, nums_append]
        exact .inr hu2⟩
      clear hu2 hb2 HB1 HU1
      dsimp only
      go_wp2_with fail
      have e64 : wrap64 ((j : Int) + 1) = (j : Int) + 1 := wid (by have := HJ.out; omega) (by have := HJ.out; have := HL.out; omega)
      exact ⟨⟨j + 1, by rw [e64]; simp, HJ.out, HU2, HB2⟩, by have := HJ.out; rw [e64]; simp [intOf]; omega⟩
    · have t1 : decide ((j : Int) < (xs.length : Int)) = false := decide_eq_false (by omega)
      have t2 : decide (j < xs.length) = false := decide_eq_false hjl
      have hu := HU.out
      rw [List.take_of_length_le (by omega)] at hu
      have HU1 := Aside0.mk hu
      clear hu HU hj hjl
      go_wp2_with fail
      refine (string_nums r r (xs.flatMap numB) wr (flat_oct xs) HU1.out (by have := HB.out.size; have := HRW.out; omega)).mono ?_
      rintro e w1 ⟨rfl, hb1⟩
      have HB1 : Aside0 (Below w.heap.size w w1) := ⟨HB.out.trans (by rw [HRW.out]; exact hb1)⟩
      clear hb1 HB
      go_wp2_with fail
      go_ret
      exact ⟨rfl, HB1.out⟩
end Go.Proofs.Ytimnohaalccdkaa.N33b
