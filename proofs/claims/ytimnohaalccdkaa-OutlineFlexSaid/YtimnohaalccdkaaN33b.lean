/- Several texts of this claim, one behind the other. -/
import Derived.Test.YtimnohaalccdkaaShelf
import Derived.Test.YtimnohaalccdkaaD33
import Derived.Test.YtimnohaalccdkaaV33
/- strings.Builder's writing methods, at this program: each puts its octets behind those that the builder holds. -/
namespace Go.Proofs.Ytimnohaalccdkaa.B33
open Go.RowKit Go.Proofs.YtimnohaalccdkaaW.PrintWords Go.Proofs.YtimnohaalccdkaaW.PrintLast Go.Proofs.YtimnohaalccdkaaW.PrintMore
set_option linter.unusedVariables false
set_option maxRecDepth 100000
theorem info5 : (Try.prog.info? 5).map (fun i => (i.zero, i.size, i.bytes)) = some (some (.int .u8 0), 1, 1) := by kernel_rfl
theorem size104 : (Try.prog.info? 104).map (·.size) = some 2 := by kernel_rfl
theorem lies104 : liesAt Try.prog Try.prog.depth 104 (2 / Try.prog.cellsOf 104) 0 104 1 = true := by kernel_rfl
set_option maxHeartbeats 1000000 in
theorem check_used (b : Nat) (w : World) (h0 : w.cell? ⟨b, 0, none⟩ = some (.pointer (some ⟨b, 0, none⟩))) :
    Calls Try.prog 62 #[.pointer (some ⟨b, 0, none⟩)] w fun e w' => e = .returned (.tuple #[]) ∧ w' = w := by
  obtain ⟨j, hj, _⟩ := Option.map_eq_some_iff.1 size104
  go_enter Try.func62, Try.ntmps62
  go_wp2
  rw [Lib.run_neq_ptr_same w _ Try.underlying102 hj]
  go_wp2
  go_end0
  exact ⟨rfl, rfl⟩
set_option maxHeartbeats 1000000 in
theorem check_fresh (b : Nat) (w : World) (h0 : w.cell? ⟨b, 0, none⟩ = some (.pointer none)) (hsh : w.shape? b = some (104, 2)) (hfz : w.frozen? ⟨b, 0, none⟩ = false) :
    Calls Try.prog 62 #[.pointer (some ⟨b, 0, none⟩)] w fun e w' => e = .returned (.tuple #[]) ∧ w' = w.setCell ⟨b, 0, none⟩ (.pointer (some ⟨b, 0, none⟩)) := by
  obtain ⟨j, hj, hjs⟩ := Option.map_eq_some_iff.1 size104
  go_enter Try.func62, Try.ntmps62
  go_wp2
  rw [Lib.run_to_unsafe w ⟨b, 0, none⟩ Try.underlying102 Try.underlying155 hj (by rw [hjs]; decide) hsh (Nat.zero_lt_succ 1)]
  simp only [Result.andThen]
  rw [Oper.upon_value]
  go_wp2
  rw [run_callFunc_extern Try.func78 (by kernel_rfl) (by kernel_rfl) (by kernel_rfl) (e := Extern.AbiNoEscape.same) (by kernel_rfl)]
  rw [Lib.run_noEscape]
  simp only [Result.andThen]
  rw [Oper.upon_value]
  go_wp2
  rw [Lib.run_from_unsafe w ⟨b, 0, none⟩ Try.underlying155 Try.underlying102 hj hsh lies104]
  simp only [Result.andThen]
  rw [Oper.upon_value]
  go_wp2
  go_end0
  exact ⟨rfl, rfl⟩
theorem check (B b : Nat) (bs : List Value) (w : World) (h : Lib.IsBuilder 104 5 B b bs w) :
    Calls Try.prog 62 #[.pointer (some ⟨b, 0, none⟩)] w fun e w' => e = .returned (.tuple #[]) ∧ (Lib.BuilderAt 104 5 B b (.pointer (some ⟨b, 0, none⟩)) bs w' ∧ Below B w w') := by
  rcases h with h | h
  · refine (check_fresh b w h.cell0 h.shape h.frozen0).mono ?_
    rintro e w' ⟨rfl, rfl⟩
    exact ⟨rfl, h.used _, (Below.refl B w).setCell (p := ⟨b, 0, none⟩) h.1 _⟩
  · refine (check_used b w h.cell0).mono ?_
    rintro e w' ⟨rfl, rfl⟩
    exact ⟨rfl, h, Below.refl B _⟩
set_option maxHeartbeats 2000000 in
theorem write_byte (B b : Nat) (bs : List Value) (c : Int) (w : World) (h : Lib.IsBuilder 104 5 B b bs w) (hlen : bs.length + 1 ≤ 140737488355328) (hBw : B ≤ w.heap.size) :
    Calls Try.prog 63 #[.pointer (some ⟨b, 0, none⟩), .int .u8 c] w fun e w' => e = .returned .nilIface ∧ (Lib.BuilderAt 104 5 B b (.pointer (some ⟨b, 0, none⟩)) (bs ++ [.int .u8 c]) w' ∧ Below B w w') := by
  obtain ⟨i0, hi, hz0, hz1, hz2⟩ := info_parts info5
  go_enter Try.func63, Try.ntmps63
  go_wp2_with (go_at_call 62; refine (check B b bs _ h).mono ?_)
  rintro e w1 ⟨rfl, h1, hb1⟩
  obtain ⟨hB, v, hbk, hown, hne⟩ := h1
  have c0 : w1.cell? ⟨b, 0, none⟩ = some (.pointer (some ⟨b, 0, none⟩)) := by rw [Lib.cell_of_heap hbk]; rfl
  have c1 : w1.cell? ⟨b, 1, none⟩ = some v := by rw [Lib.cell_of_heap hbk]; rfl
  go_wp2_with (at_builtin; refine wpList_append_own _ rfl _ _ 82 rfl B 5 i0 (.int .u8 0) 1 1 Try.underlying82 hi hz0 hz1 hz2 rfl (by decide) _ _ _ rfl (hown.alloc _) ⟨w1.heap.size, 0, none⟩ 1 1 [.int .u8 c] rfl rfl ?c1 ?c2 ?c3 ?c4 ?c5 ?_)
  case c1 =>
    intro j u hj
    match j, hj with
    | 0, hj => simp at hj; subst hj; simp [Addr.add]
  case c2 => intro u hu; simp at hu; subst hu; rfl
  case c3 => unfold maxLen; omega
  case c4 => omega
  case c5 => have := hb1.size; simp; omega
  intro v' w2 hown' hgrow _
  have hlt : b < w1.heap.size := by
    rcases Nat.lt_or_ge b w1.heap.size with h' | h'
    · exact h'
    · simp [Array.getElem?_eq_none h'] at hbk
  have hb2 : w2.heap[b]? = some (.cells #[.pointer (some ⟨b, 0, none⟩), v] 104 (0, 0)) := by
    rw [hgrow.block b (by simp; omega) (fun e => hne e.symm), Lib.alloc_old w1 _ b hlt]
    exact hbk
  have d0 : w2.cell? ⟨b, 0, none⟩ = some (.pointer (some ⟨b, 0, none⟩)) := by rw [Lib.cell_of_heap hb2]; rfl
  have d1 : w2.cell? ⟨b, 1, none⟩ = some v := by rw [Lib.cell_of_heap hb2]; rfl
  have f1 : w2.frozen? ⟨b, 1, none⟩ = false := Lib.frozen_of_heap hb2 1
  obtain ⟨g, cap, rfl⟩ : ∃ g cap, v' = .slice (some ⟨g, 0, none⟩) (bs.length + 1) cap := by
    rcases hown'.2 with ⟨_, h0⟩ | ⟨g, cap, cur, hv, _⟩
    · omega
    · exact ⟨g, cap, hv⟩
  go_wp2
  go_ret
  refine ⟨rfl, ?_, ?_⟩
  · exact Lib.BuilderAt.put (T := 104) (e := 5) hB hb2 (bs' := bs ++ [.int .u8 c]) (by simpa using hown') (by decide)
  · exact ((hb1.alloc (by have := hb1.size; omega) _).grown hgrow (by have := hb1.size; simp; omega) (fun k hk => (hown.lt k hk).1)).setCell (p := ⟨b, 1, none⟩) hB _
set_option maxHeartbeats 2000000 in
theorem write_string (B b : Nat) (bs : List Value) (s : ByteArray) (w : World) (h : Lib.IsBuilder 104 5 B b bs w) (hlen : bs.length + s.size ≤ 140737488355328) (hBw : B ≤ w.heap.size) :
    Calls Try.prog 39 #[.pointer (some ⟨b, 0, none⟩), .string s] w fun e w' => e = .returned (.tuple #[.int .i64 s.size, .nilIface]) ∧ (Lib.BuilderAt 104 5 B b (.pointer (some ⟨b, 0, none⟩)) (bs ++ Lib.strCells s) w' ∧ Below B w w') := by
  obtain ⟨i0, hi, hz0, hz1, hz2⟩ := info_parts info5
  go_enter Try.func39, Try.ntmps39
  go_wp2_with (go_at_call 62; refine (check B b bs _ h).mono ?_)
  rintro e w1 ⟨rfl, h1, hb1⟩
  obtain ⟨hB, v, hbk, hown, hne⟩ := h1
  have c0 : w1.cell? ⟨b, 0, none⟩ = some (.pointer (some ⟨b, 0, none⟩)) := by rw [Lib.cell_of_heap hbk]; rfl
  have c1 : w1.cell? ⟨b, 1, none⟩ = some v := by rw [Lib.cell_of_heap hbk]; rfl
  go_wp2_with (at_builtin; refine Lib.wpList_append_own_string _ rfl _ _ 82 9 rfl B 5 i0 Try.underlying82 Try.underlying9 hi hz0 hz1 hz2 _ _ _ rfl hown s rfl ?c3 ?c4 ?c5 ?_)
  case c3 => unfold maxLen; omega
  case c4 => omega
  case c5 => have := hb1.size; omega
  intro v' w2 hown' hgrow _
  have hlt : b < w1.heap.size := by
    rcases Nat.lt_or_ge b w1.heap.size with h' | h'
    · exact h'
    · simp [Array.getElem?_eq_none h'] at hbk
  have hb2 : w2.heap[b]? = some (.cells #[.pointer (some ⟨b, 0, none⟩), v] 104 (0, 0)) := by
    rw [hgrow.block b hlt (fun e => hne e.symm)]
    exact hbk
  have d0 : w2.cell? ⟨b, 0, none⟩ = some (.pointer (some ⟨b, 0, none⟩)) := by rw [Lib.cell_of_heap hb2]; rfl
  have d1 : w2.cell? ⟨b, 1, none⟩ = some v := by rw [Lib.cell_of_heap hb2]; rfl
  have f1 : w2.frozen? ⟨b, 1, none⟩ = false := Lib.frozen_of_heap hb2 1
  obtain ⟨ao, n', cap, rfl⟩ : ∃ ao n' cap, v' = .slice ao n' cap := by
    rcases hown'.2 with ⟨hv, _⟩ | ⟨g, cap, cur, hv, _⟩
    · exact ⟨_, _, _, hv⟩
    · exact ⟨_, _, _, hv⟩
  go_wp2
  go_ret2
  refine ⟨rfl, ?_, ?_⟩
  · exact Lib.BuilderAt.put (T := 104) (e := 5) hB hb2 (bs' := bs ++ Lib.strCells s) (by simpa [Lib.strCells_length] using hown') (by decide)
  · exact (hb1.grown hgrow (by have := hb1.size; omega) (fun k hk => (hown.lt k hk).1)).setCell (p := ⟨b, 1, none⟩) hB _
theorem cells_nums (l : List Int) (h : ∀ b ∈ l, 0 ≤ b ∧ b < 256) : Lib.byteCells (l.map fun n => UInt8.ofNat n.toNat) = nums .u8 l := by
  unfold Lib.byteCells nums
  rw [List.map_map]
  refine List.map_congr_left fun x hx => ?_
  have := h x hx
  simp
  omega
/-- What the builder hands back. -/
theorem string_nums (B b : Nat) (l : List Int) (w : World) (hl : ∀ b ∈ l, 0 ≤ b ∧ b < 256) (h : Lib.IsBuilder 104 5 B b (nums .u8 l) w) (hBw : B ≤ w.heap.size) :
    Calls Try.prog 40 #[.pointer (some ⟨b, 0, none⟩)] w fun e w' => e = .returned (.string (strOfNums l)) ∧ Below B w w' := by
  rw [← cells_nums l hl] at h
  exact Try.Builder_String_any B b _ w h hBw
end Go.Proofs.Ytimnohaalccdkaa.B33
/- number of the law (chapter 33): the octets of numbers, one behind the other. -/
namespace Go.Proofs.Ytimnohaalccdkaa.N33b
open Go.Proofs.Ytimnohaalccdkaa Go.Proofs.Ytimnohaalccdkaa.K33 Go.Proofs.Ytimnohaalccdkaa.M33 Go.Proofs.Ytimnohaalccdkaa.L33 Go.Proofs.Ytimnohaalccdkaa.N33 Go.Proofs.Ytimnohaalccdkaa.G33o Go.Proofs.Ytimnohaalccdkaa.W33 Go.Proofs.Ytimnohaalccdkaa.D33 Go.Proofs.Ytimnohaalccdkaa.E33 Go.Proofs.Ytimnohaalccdkaa.V33 Go.Proofs.Ytimnohaalccdkaa.B33 Go.Proofs.Ytimnohaalccdkaa.P33a
open Go.RowKit Go.Proofs.YtimnohaalccdkaaW.PrintWords Go.Proofs.YtimnohaalccdkaaW.PrintLast Go.Proofs.YtimnohaalccdkaaW.PrintMore
set_option linter.unusedVariables false
set_option linter.unusedSimpArgs false
set_option maxRecDepth 100000
theorem bld_below {B b : Nat} {bs : List Value} {w w' : World} (h : Lib.IsBuilder 104 5 B b bs w) (hb : Below w.heap.size w w') : Lib.IsBuilder 104 5 B b bs w' := by
  rcases h with h | h
  · obtain ⟨h1, v, h2, h3, h4⟩ := id h
    exact .inl ⟨h1, v, (hb.block b h.lt).trans h2, pw_own_below h3 hb, h4⟩
  · obtain ⟨h1, v, h2, h3, h4⟩ := id h
    exact .inr ⟨h1, v, (hb.block b h.lt).trans h2, pw_own_below h3 hb, h4⟩
theorem strCells_nums (l : List Int) (h : Oct l) : Lib.strCells (strOfNums l) = nums .u8 l := by
  rw [← cells_nums l h]
  unfold strOfNums
  rfl
theorem flat_oct (xs : List Int) : Oct (xs.flatMap numB) := fun x hx => by
  obtain ⟨y, _, hy⟩ := List.mem_flatMap.1 hx
  exact numB_oct y x hy
theorem flat_len (xs : List Int) : (xs.flatMap numB).length ≤ 5 * xs.length := by
  induction xs with
  | nil => simp
  | cons x r ih => rw [List.flatMap_cons, List.length_append, List.length_cons]; have := (numB_len x).2; omega
set_option maxHeartbeats 4000000 in
theorem number_call {w : World} {A : Option Addr} {c : Nat} {xs : List Int} (hi : Ints w A xs) (hx : ∀ x ∈ xs, -2147483648 ≤ x ∧ x ≤ 2147483647) (hl : xs.length ≤ 1000) :
    Calls Try.prog 22 #[.slice A xs.length c] w fun e w' => e = .returned (.string (strOfNums (xs.flatMap numB))) ∧ Below w.heap.size w w' := by
  have HI := Aside0.mk hi
  have HX := Aside0.mk hx
  have HL := Aside0.mk hl
  clear hi hx hl
  go_enter Try.func22, Try.ntmps22
  go_wp2_with fail
  obtain ⟨r, hr⟩ : ∃ r, w.heap.size = r := ⟨_, rfl⟩
  have HB0 : Aside0 (Below w.heap.size w (w.alloc (.cells #[.pointer none, .slice none 0 0] 104))) := ⟨below_alloc (Below.refl _ _) _⟩
  have HU0 : Aside0 (Lib.IsBuilder 104 5 r r (nums .u8 ((xs.take 0).flatMap numB)) (w.alloc (.cells #[.pointer none, .slice none 0 0] 104))) := ⟨by rw [← hr]; exact Lib.fresh_isBuilder 104 5 w⟩
  have HRW : Aside0 (w.heap.size = r) := ⟨hr⟩
  rw [hr]
  clear hr
  go_loopw [8] (fun v8 wr => ∃ j : Nat, v8 = .int .i64 (j : Int) ∧ j ≤ xs.length ∧ Aside0 (Lib.IsBuilder 104 5 r r (nums .u8 ((xs.take j).flatMap numB)) wr) ∧ Aside0 (Below w.heap.size w wr)) (fun v8 _ => xs.length - (intOf v8).toNat)
  case atStart => exact ⟨0, rfl, by omega, HU0, HB0⟩
  case round =>
    clear HU0 HB0
    obtain ⟨j, rfl, hj, HU, HB⟩ := hrel
    by_cases hjl : j < xs.length
    · have t1 : decide ((j : Int) < (xs.length : Int)) = true := decide_eq_true (by omega)
      have t2 : decide (j < xs.length) = true := decide_eq_true hjl
      have hq : (j < xs.length) = True := eq_true hjl
      obtain ⟨x, hxj⟩ : ∃ x, xs[j]'hjl = x := ⟨_, rfl⟩
      have hxs : xs[j]? = some x := by rw [List.getElem?_eq_getElem hjl, hxj]
      have hmem : x ∈ xs := by rw [← hxj]; exact List.getElem_mem hjl
      have HN := Aside0.mk (HX.out x hmem)
      obtain ⟨g, off, rfl, hcell⟩ : ∃ g off, A = some ⟨g, off, none⟩ ∧ wr.cell? ⟨g, off + j, none⟩ = some (.int .i64 x) := by
        rcases (HI.out.below HB.out) with h | ⟨g, off, cs, h1, h2, h3⟩
        · rw [h] at hjl; simp at hjl
        · exact ⟨g, off, h1, by rw [blk_cell h2]; exact h3 j x hxs⟩
      have HE : Aside0 ((xs.take (j + 1)).flatMap numB = (xs.take j).flatMap numB ++ numB x) := ⟨by rw [List.take_add_one, hxs]; simp⟩
      have HJ := Aside0.mk hjl
      clear hxj hxs hmem
      go_wp2_with fail
      refine (ref_num_call HN.out _).mono ?_
      rintro e w1 ⟨rfl, hb1⟩
      have HB1 := Aside0.mk (below_step HB.out hb1)
      have hu1 : Lib.IsBuilder 104 5 r r (nums .u8 ((xs.take j).flatMap numB)) w1 := by
        have hlt : r < wr.heap.size := by
          rcases HU.out with h | h
          · exact h.lt
          · exact h.lt
        exact bld_below HU.out hb1
      have HU1 := Aside0.mk hu1
      clear hu1 hb1 HB HU
      go_wp2_with fail
      refine (write_string r r _ (strOfNums (numB x)) w1 HU1.out ?_ ?_).mono ?_
      · rw [nums_length, strOf_size]
        have h1 := flat_len (xs.take j)
        have h2 := (numB_len x).2
        have h3 := HL.out
        have h4 := HJ.out
        rw [List.length_take] at h1
        omega
      · have := HB1.out.size
        have := HRW.out
        omega
      rintro e w2 ⟨rfl, hu2, hb2⟩
      have HB2 : Aside0 (Below w.heap.size w w2) := ⟨HB1.out.trans (by rw [HRW.out]; exact hb2)⟩
      have HU2 : Aside0 (Lib.IsBuilder 104 5 r r (nums .u8 ((xs.take (j + 1)).flatMap numB)) w2) := ⟨by
        rw [strCells_nums _ (numB_oct x)] at hu2
        rw [HE.out, nums_append]
        exact .inr hu2⟩
      clear hu2 hb2 HB1 HU1
      dsimp only
      go_wp2_with fail
      have e64 : wrap64 ((j : Int) + 1) = (j : Int) + 1 := wid (by have := HJ.out; omega) (by have := HJ.out; have := HL.out; omega)
      exact ⟨⟨j + 1, by rw [e64]; simp, HJ.out, HU2, HB2⟩, by have := HJ.out; rw [e64]; simp [intOf]; omega⟩
    · have t1 : decide ((j : Int) < (xs.length : Int)) = false := decide_eq_false (by omega)
      have t2 : decide (j < xs.length) = false := decide_eq_false hjl
      have hu := HU.out
      rw [List.take_of_length_le (by omega)] at hu
      have HU1 := Aside0.mk hu
      clear hu HU hj hjl
      go_wp2_with fail
      refine (string_nums r r (xs.flatMap numB) wr (flat_oct xs) HU1.out (by have := HB.out.size; have := HRW.out; omega)).mono ?_
      rintro e w1 ⟨rfl, hb1⟩
      have HB1 : Aside0 (Below w.heap.size w w1) := ⟨HB.out.trans (by rw [HRW.out]; exact hb1)⟩
      clear hb1 HB
      go_wp2_with fail
      go_ret
      exact ⟨rfl, HB1.out⟩
end Go.Proofs.Ytimnohaalccdkaa.N33b
