/- Flex of the reference (chapter 33): numbers 34, Flex 24. -/
import Derived.Test.YtimnohaalccdkaaF33
namespace Go.Proofs.Ytimnohaalccdkaa.X33
open Go.Proofs.Ytimnohaalccdkaa Go.Proofs.Ytimnohaalccdkaa.K33 Go.Proofs.Ytimnohaalccdkaa.M33 Go.Proofs.Ytimnohaalccdkaa.L33 Go.Proofs.Ytimnohaalccdkaa.N33 Go.Proofs.Ytimnohaalccdkaa.G33a Go.Proofs.Ytimnohaalccdkaa.G33b Go.Proofs.Ytimnohaalccdkaa.G33c Go.Proofs.Ytimnohaalccdkaa.G33o Go.Proofs.Ytimnohaalccdkaa.G33p Go.Proofs.Ytimnohaalccdkaa.W33 Go.Proofs.Ytimnohaalccdkaa.D33 Go.Proofs.Ytimnohaalccdkaa.E33 Go.Proofs.Ytimnohaalccdkaa.V33 Go.Proofs.Ytimnohaalccdkaa.B33 Go.Proofs.Ytimnohaalccdkaa.N33b Go.Proofs.Ytimnohaalccdkaa.P33a
open Go.RowKit Go.Proofs.YtimnohaalccdkaaW.PrintWords Go.Proofs.YtimnohaalccdkaaW.PrintLast Go.Proofs.YtimnohaalccdkaaW.PrintMore
open Go.Proofs.Ytimnohaalccdkaa.T33 (Tok tok enc)
open Go.Proofs.Ytimnohaalccdkaa.F33 (moveT)
set_option linter.unusedVariables false
set_option linter.unusedSimpArgs false
set_option maxRecDepth 100000
theorem num_more {n : Int} (h : -2147483648 ≤ n ∧ n ≤ 2147483647) : ∀ k, 4 ≤ k → chaseref33_Number.f k n = some (strOfNums (numB n))
  | 0, h => by omega
  | k + 1, hk => by
    by_cases h4 : k + 1 = 4
    · rw [h4]; exact ref_num_eq ‹_›
    · exact chaseref33_Number.mono n k _ (num_more h k (by omega))
theorem nums_l0 (xs : List Int) (hx : ∀ x ∈ xs, -2147483648 ≤ x ∧ x ≤ 2147483647) (hl : xs.length ≤ 1000) : ∀ (r j : Nat) (t : ByteArray), j + r = xs.length → t.size ≤ 5 * j → chaseref33_numbers.l0 (r + 5) xs t (j : Int) = some (t ++ strOfNums ((xs.drop j).flatMap numB))
  | 0, j, t, hj, ht => by
    have h0 : ¬ ((j : Int) < (xs.length : Int)) := by omega
    rw [chaseref33_numbers.l0, if_neg h0, List.drop_eq_nil_of_le (by omega)]
    congr 1
    have : strOfNums (([] : List Int).flatMap numB) = ByteArray.empty := rfl
    rw [this, ByteArray.append_empty]
  | r + 1, j, t, hj, ht => by
    have hlt : j < xs.length := by omega
    obtain ⟨x, hx'⟩ : ∃ x, xs[j]? = some x := ⟨_, List.getElem?_eq_getElem hlt⟩
    have hmem : x ∈ xs := List.mem_of_getElem? hx'
    have hrd : rd xs (j : Int) = x := by
      unfold rd
      simp [List.getD_eq_getElem?_getD, hx']
    have hs : (strOfNums (numB x)).size ≤ 5 := by rw [strOf_size]; exact (numB_len x).2
    rw [show r + 1 + 5 = (r + 5) + 1 by omega, chaseref33_numbers.l0, if_pos (by omega), if_pos (by omega), hrd, num_more (hx x hmem) (r + 5) (by omega), Option.bind_some, if_pos (by omega)]
    have e64 : wrap64 ((j : Int) + 1) = ((j + 1 : Nat) : Int) := by rw [wid (by omega) (by omega)]; simp
    rw [e64, nums_l0 xs hx hl r (j + 1) _ (by omega) (by rw [ByteArray.size_append]; omega)]
    congr 1
    have hd : xs.drop j = x :: xs.drop (j + 1) := by rw [List.drop_eq_getElem_cons hlt]; congr 1; rw [List.getElem?_eq_getElem hlt] at hx'; exact Option.some.inj hx'
    rw [hd, List.flatMap_cons, ByteArray.append_assoc]
    congr 1
    apply bytesOf_inj
    rw [bytesOf_append, bytesOf_strOf _ (numB_oct x), bytesOf_strOf _ (flat_oct _), bytesOf_strOf _ (Oct.app (numB_oct x) (flat_oct _))]
theorem nums_new (W : World) (xs : List Int) (c : Nat) (cs : Array Value) (hcs : cs = (nums .i64 xs).toArray) (hx : ∀ x ∈ xs, -2147483648 ≤ x ∧ x ≤ 2147483647) (hl : xs.length ≤ 1000) (hc : xs.length ≤ c) :
    Calls Try.prog 34 #[.slice (some ⟨W.heap.size, 0, none⟩) xs.length c] (W.alloc (.cells cs 3)) fun e w' => (∃ t, e = .returned (.string t) ∧ bytesOf t = xs.flatMap numB ∧ t.size ≤ 5 * xs.length) ∧ Below W.heap.size W w' := by
  subst hcs
  have hr : ReadsInt (W.alloc (.cells (nums .i64 xs).toArray 3)) .i64 (some ⟨W.heap.size, 0, none⟩) xs.length xs := ints_reads (.inr ⟨W.heap.size, 0, _, rfl, blk_new _ _, fun i v hi => by simp [nums, hi]⟩) (by omega)
  have hf : chaseref33_numbers.f (xs.length + 5) xs = some (strOfNums (xs.flatMap numB)) := by
    have h := nums_l0 xs hx hl xs.length 0 ⟨#[]⟩ (by omega) (by decide)
    have h2 : chaseref33_numbers.f (xs.length + 5) xs = some ((⟨#[]⟩ : ByteArray) ++ strOfNums ((xs.drop 0).flatMap numB)) := h
    rw [h2, List.drop_zero]
    congr 1
  refine (chaseref33_numbers.calls (xs.length + 5) (some ⟨W.heap.size, 0, none⟩) c xs _ _ (kd_of_reads hr) hc hf).mono ?_
  rintro e w' ⟨rfl, hb⟩
  refine ⟨⟨_, rfl, bytesOf_strOf _ (flat_oct xs), ?_⟩, below_step (below_alloc (Below.refl _ _) _) hb⟩
  rw [strOf_size]
  exact flat_len xs

def preT (d0 e0 d1 e1 d2 e2 d3 e3 d4 e4 d5 e5 d6 e6 : Int) (j : Nat) : List Tok := [.num 0, .num 1, .op 272] ++ (([moveT d0 e0, moveT d1 e1, moveT d2 e2, moveT d3 e3, moveT d4 e4, moveT d5 e5, moveT d6 e6] : List (List Tok)).take j).flatten
theorem preT_succ (d0 e0 d1 e1 d2 e2 d3 e3 d4 e4 d5 e5 d6 e6 : Int) (j : Nat) (h : j < 7) : preT d0 e0 d1 e1 d2 e2 d3 e3 d4 e4 d5 e5 d6 e6 (j + 1) = preT d0 e0 d1 e1 d2 e2 d3 e3 d4 e4 d5 e5 d6 e6 j ++ ([moveT d0 e0, moveT d1 e1, moveT d2 e2, moveT d3 e3, moveT d4 e4, moveT d5 e5, moveT d6 e6] : List (List Tok)).getD j [] := by
  match j, h with
  | 0, _ => simp [preT]
  | 1, _ => simp [preT]
  | 2, _ => simp [preT]
  | 3, _ => simp [preT]
  | 4, _ => simp [preT]
  | 5, _ => simp [preT]
  | 6, _ => simp [preT]
  | n + 7, h => omega
section
set_option maxHeartbeats 8000000 in
theorem flex_call (l0 l1 l2 l3 l4 l5 l6 l7 l8 l9 l10 l11 l12 l13 x y d0 e0 p0 r0 d1 e1 p1 r1 d2 e2 p2 r2 d3 e3 p3 r3 d4 e4 p4 r4 d5 e5 p5 r5 d6 e6 p6 r6 : Int) (hxy : (-3000 < x ∧ x < 3000) ∧ (-3000 < y ∧ y < 3000)) (hd0 : Int.tmod l0 100 = d0) (he0 : Int.tmod l1 100 = e0) (hp0 : x + d0 = p0) (hr0 : y + e0 = r0) (hd1 : Int.tmod l2 100 = d1) (he1 : Int.tmod l3 100 = e1) (hp1 : p0 + d1 = p1) (hr1 : r0 + e1 = r1) (hd2 : Int.tmod l4 100 = d2) (he2 : Int.tmod l5 100 = e2) (hp2 : p1 + d2 = p2) (hr2 : r1 + e2 = r2) (hd3 : Int.tmod l6 100 = d3) (he3 : Int.tmod l7 100 = e3) (hp3 : p2 + d3 = p3) (hr3 : r2 + e3 = r3) (hd4 : Int.tmod l8 100 = d4) (he4 : Int.tmod l9 100 = e4) (hp4 : p3 + d4 = p4) (hr4 : r3 + e4 = r4) (hd5 : Int.tmod l10 100 = d5) (he5 : Int.tmod l11 100 = e5) (hp5 : p4 + d5 = p5) (hr5 : r4 + e5 = r5) (hd6 : Int.tmod l12 100 = d6) (he6 : Int.tmod l13 100 = e6) (hp6 : p5 + d6 = p6) (hr6 : r5 + e6 = r6) (w : World) :
    Calls Try.prog 24 #[.agg #[.int .i64 x, .int .i64 y], .agg #[.int .i16 l0, .int .i16 l1, .int .i16 l2, .int .i16 l3, .int .i16 l4, .int .i16 l5, .int .i16 l6, .int .i16 l7, .int .i16 l8, .int .i16 l9, .int .i16 l10, .int .i16 l11, .int .i16 l12, .int .i16 l13]] w fun e w' => (∃ t, e = .returned (.string t) ∧ bytesOf t = T33.encs ([.num 0, .num 1, .op 272] ++ moveT d0 e0 ++ moveT d1 e1 ++ moveT d2 e2 ++ moveT d3 e3 ++ moveT d4 e4 ++ moveT d5 e5 ++ moveT d6 e6 ++ [.num 50, .num p6, .num r6, .num 3, .num 0, .op 272, .op 273, .op 273, .op 289]) ∧ t.size ≤ 600) ∧ Below w.heap.size w w' := by
  have bd0 : -100 < d0 ∧ d0 < 100 := by rw [← hd0]; exact ⟨Int.lt_tmod_of_pos _ (by omega), Int.tmod_lt_of_pos _ (by omega)⟩
  have be0 : -100 < e0 ∧ e0 < 100 := by rw [← he0]; exact ⟨Int.lt_tmod_of_pos _ (by omega), Int.tmod_lt_of_pos _ (by omega)⟩
  have bd1 : -100 < d1 ∧ d1 < 100 := by rw [← hd1]; exact ⟨Int.lt_tmod_of_pos _ (by omega), Int.tmod_lt_of_pos _ (by omega)⟩
  have be1 : -100 < e1 ∧ e1 < 100 := by rw [← he1]; exact ⟨Int.lt_tmod_of_pos _ (by omega), Int.tmod_lt_of_pos _ (by omega)⟩
  have bd2 : -100 < d2 ∧ d2 < 100 := by rw [← hd2]; exact ⟨Int.lt_tmod_of_pos _ (by omega), Int.tmod_lt_of_pos _ (by omega)⟩
  have be2 : -100 < e2 ∧ e2 < 100 := by rw [← he2]; exact ⟨Int.lt_tmod_of_pos _ (by omega), Int.tmod_lt_of_pos _ (by omega)⟩
  have bd3 : -100 < d3 ∧ d3 < 100 := by rw [← hd3]; exact ⟨Int.lt_tmod_of_pos _ (by omega), Int.tmod_lt_of_pos _ (by omega)⟩
  have be3 : -100 < e3 ∧ e3 < 100 := by rw [← he3]; exact ⟨Int.lt_tmod_of_pos _ (by omega), Int.tmod_lt_of_pos _ (by omega)⟩
  have bd4 : -100 < d4 ∧ d4 < 100 := by rw [← hd4]; exact ⟨Int.lt_tmod_of_pos _ (by omega), Int.tmod_lt_of_pos _ (by omega)⟩
  have be4 : -100 < e4 ∧ e4 < 100 := by rw [← he4]; exact ⟨Int.lt_tmod_of_pos _ (by omega), Int.tmod_lt_of_pos _ (by omega)⟩
  have bd5 : -100 < d5 ∧ d5 < 100 := by rw [← hd5]; exact ⟨Int.lt_tmod_of_pos _ (by omega), Int.tmod_lt_of_pos _ (by omega)⟩
  have be5 : -100 < e5 ∧ e5 < 100 := by rw [← he5]; exact ⟨Int.lt_tmod_of_pos _ (by omega), Int.tmod_lt_of_pos _ (by omega)⟩
  have bd6 : -100 < d6 ∧ d6 < 100 := by rw [← hd6]; exact ⟨Int.lt_tmod_of_pos _ (by omega), Int.tmod_lt_of_pos _ (by omega)⟩
  have be6 : -100 < e6 ∧ e6 < 100 := by rw [← he6]; exact ⟨Int.lt_tmod_of_pos _ (by omega), Int.tmod_lt_of_pos _ (by omega)⟩
  have wd0 : wrap64 d0 = d0 := wid (by omega) (by omega)
  have we0 : wrap64 e0 = e0 := wid (by omega) (by omega)
  have wp0 : wrap64 p0 = p0 := wid (by omega) (by omega)
  have wr0 : wrap64 r0 = r0 := wid (by omega) (by omega)
  have BD0 : Aside0 ((-100 < d0 ∧ d0 < 100) ∧ (-100 < e0 ∧ e0 < 100) ∧ (-5000 < p0 ∧ p0 < 5000) ∧ (-5000 < r0 ∧ r0 < 5000)) := ⟨⟨bd0, be0, by omega, by omega⟩⟩
  have wd1 : wrap64 d1 = d1 := wid (by omega) (by omega)
  have we1 : wrap64 e1 = e1 := wid (by omega) (by omega)
  have wp1 : wrap64 p1 = p1 := wid (by omega) (by omega)
  have wr1 : wrap64 r1 = r1 := wid (by omega) (by omega)
  have BD1 : Aside0 ((-100 < d1 ∧ d1 < 100) ∧ (-100 < e1 ∧ e1 < 100) ∧ (-5000 < p1 ∧ p1 < 5000) ∧ (-5000 < r1 ∧ r1 < 5000)) := ⟨⟨bd1, be1, by omega, by omega⟩⟩
  have wd2 : wrap64 d2 = d2 := wid (by omega) (by omega)
  have we2 : wrap64 e2 = e2 := wid (by omega) (by omega)
  have wp2 : wrap64 p2 = p2 := wid (by omega) (by omega)
  have wr2 : wrap64 r2 = r2 := wid (by omega) (by omega)
  have BD2 : Aside0 ((-100 < d2 ∧ d2 < 100) ∧ (-100 < e2 ∧ e2 < 100) ∧ (-5000 < p2 ∧ p2 < 5000) ∧ (-5000 < r2 ∧ r2 < 5000)) := ⟨⟨bd2, be2, by omega, by omega⟩⟩
  have wd3 : wrap64 d3 = d3 := wid (by omega) (by omega)
  have we3 : wrap64 e3 = e3 := wid (by omega) (by omega)
  have wp3 : wrap64 p3 = p3 := wid (by omega) (by omega)
  have wr3 : wrap64 r3 = r3 := wid (by omega) (by omega)
  have BD3 : Aside0 ((-100 < d3 ∧ d3 < 100) ∧ (-100 < e3 ∧ e3 < 100) ∧ (-5000 < p3 ∧ p3 < 5000) ∧ (-5000 < r3 ∧ r3 < 5000)) := ⟨⟨bd3, be3, by omega, by omega⟩⟩
  have wd4 : wrap64 d4 = d4 := wid (by omega) (by omega)
  have we4 : wrap64 e4 = e4 := wid (by omega) (by omega)
  have wp4 : wrap64 p4 = p4 := wid (by omega) (by omega)
  have wr4 : wrap64 r4 = r4 := wid (by omega) (by omega)
  have BD4 : Aside0 ((-100 < d4 ∧ d4 < 100) ∧ (-100 < e4 ∧ e4 < 100) ∧ (-5000 < p4 ∧ p4 < 5000) ∧ (-5000 < r4 ∧ r4 < 5000)) := ⟨⟨bd4, be4, by omega, by omega⟩⟩
  have wd5 : wrap64 d5 = d5 := wid (by omega) (by omega)
  have we5 : wrap64 e5 = e5 := wid (by omega) (by omega)
  have wp5 : wrap64 p5 = p5 := wid (by omega) (by omega)
  have wr5 : wrap64 r5 = r5 := wid (by omega) (by omega)
  have BD5 : Aside0 ((-100 < d5 ∧ d5 < 100) ∧ (-100 < e5 ∧ e5 < 100) ∧ (-5000 < p5 ∧ p5 < 5000) ∧ (-5000 < r5 ∧ r5 < 5000)) := ⟨⟨bd5, be5, by omega, by omega⟩⟩
  have wd6 : wrap64 d6 = d6 := wid (by omega) (by omega)
  have we6 : wrap64 e6 = e6 := wid (by omega) (by omega)
  have wp6 : wrap64 p6 = p6 := wid (by omega) (by omega)
  have wr6 : wrap64 r6 = r6 := wid (by omega) (by omega)
  have BD6 : Aside0 ((-100 < d6 ∧ d6 < 100) ∧ (-100 < e6 ∧ e6 < 100) ∧ (-5000 < p6 ∧ p6 < 5000) ∧ (-5000 < r6 ∧ r6 < 5000)) := ⟨⟨bd6, be6, by omega, by omega⟩⟩
  clear hxy bd0 be0 bd1 be1 bd2 be2 bd3 be3 bd4 be4 bd5 be5 bd6 be6
  obtain ⟨wA, hwA⟩ : ∃ wA, w.alloc (.cells #[.int .i64 x, .int .i64 y] 55) = wA := ⟨_, rfl⟩
  obtain ⟨wB, hwB⟩ : ∃ wB, wA.alloc (.cells #[.int .i16 l0, .int .i16 l1, .int .i16 l2, .int .i16 l3, .int .i16 l4, .int .i16 l5, .int .i16 l6, .int .i16 l7, .int .i16 l8, .int .i16 l9, .int .i16 l10, .int .i16 l11, .int .i16 l12, .int .i16 l13] 53) = wB := ⟨_, rfl⟩
  obtain ⟨g0, hg0⟩ : ∃ g, w.heap.size = g := ⟨_, rfl⟩
  obtain ⟨g, hg⟩ : ∃ g, wA.heap.size = g := ⟨_, rfl⟩
  have hbA : Below w.heap.size w wA := by rw [← hwA]; exact below_alloc (Below.refl _ _) _
  have hbB : Below wA.heap.size wA wB := by rw [← hwB]; exact below_alloc (Below.refl _ _) _
  have kA : wA.heap[g0]? = some (.cells #[.int .i64 x, .int .i64 y] 55 (0, 0)) := by rw [← hwA, ← hg0]; exact blk_new _ _
  have kB : wB.heap[g]? = some (.cells #[.int .i16 l0, .int .i16 l1, .int .i16 l2, .int .i16 l3, .int .i16 l4, .int .i16 l5, .int .i16 l6, .int .i16 l7, .int .i16 l8, .int .i16 l9, .int .i16 l10, .int .i16 l11, .int .i16 l12, .int .i16 l13] 53 (0, 0)) := by rw [← hwB, ← hg]; exact blk_new _ _
  have kA2 := blk_below kA hbB
  have hne : g0 ≠ g := by have := blk_lt kA; omega
  have HNE := Aside0.mk (And.intro hne hg0)
  have HB := Aside0.mk (below_step hbA hbB)
  have HK0 : Aside0 (wB.heap[g0]? = some (.cells #[.int .i64 ([x, p0, p1, p2, p3, p4, p5, p6].getD 0 0), .int .i64 ([y, r0, r1, r2, r3, r4, r5, r6].getD 0 0)] 55 (0, 0))) := ⟨kA2⟩
  have HK1 := Aside0.mk kB
  clear hbA hbB kA kB kA2 hne
  go_enter Try.func24, Try.ntmps24
  go_wp2_with fail
  clear hwA hwB hg0 hg
  refine (nums_new wB [0, 1] 2 _ rfl (by decide) (by decide) (by decide)).mono ?_
  rintro e w1 ⟨⟨s0, rfl, hs0, z0⟩, hb1⟩
  have HB1 := Aside0.mk (below_step HB.out hb1)
  have HK01 := Aside0.mk (blk_below HK0.out hb1)
  have HK11 := Aside0.mk (blk_below HK1.out hb1)
  have hm0 : s0.size + 2 ≤ 9223372036854775807 := by have z : ([0, 1] : List Int).length = 2 := rfl; rw [z] at z0; omega
  obtain ⟨t0, ht0⟩ : ∃ t0, s0 ++ (⟨#[12, 16]⟩ : ByteArray) = t0 := ⟨_, rfl⟩
  have HT0 : Aside0 (bytesOf t0 = T33.encs (preT d0 e0 d1 e1 d2 e2 d3 e3 d4 e4 d5 e5 d6 e6 0)) := ⟨by rw [← ht0, bytesOf_append, hs0]; rfl⟩
  have ZT0 : t0.size ≤ 20 + 40 * 0 := by rw [← ht0, ByteArray.size_append]; have z : ([0, 1] : List Int).length = 2 := rfl; rw [z] at z0; show s0.size + 2 ≤ 20; omega
  clear hs0 hb1 HB HK0 HK1 z0
  go_wp2_with fail
  clear ht0 hm0
  go_loopw [5, 6] (fun v5 v6 wr => ∃ (j : Nat) (t : ByteArray), v5 = .string t ∧ v6 = .int .i64 (j : Int) ∧ j ≤ 7 ∧ t.size ≤ 20 + 40 * j ∧ Aside0 (bytesOf t = T33.encs (preT d0 e0 d1 e1 d2 e2 d3 e3 d4 e4 d5 e5 d6 e6 j)) ∧ Aside0 (Below w.heap.size w wr) ∧ Aside0 (wr.heap[g0]? = some (.cells #[.int .i64 ([x, p0, p1, p2, p3, p4, p5, p6].getD j 0), .int .i64 ([y, r0, r1, r2, r3, r4, r5, r6].getD j 0)] 55 (0, 0))) ∧ Aside0 (wr.heap[g]? = some (.cells #[.int .i16 l0, .int .i16 l1, .int .i16 l2, .int .i16 l3, .int .i16 l4, .int .i16 l5, .int .i16 l6, .int .i16 l7, .int .i16 l8, .int .i16 l9, .int .i16 l10, .int .i16 l11, .int .i16 l12, .int .i16 l13] 53 (0, 0)))) (fun _ v6 _ => 7 - (intOf v6).toNat)
  case atStart => exact ⟨0, t0, rfl, rfl, by omega, ZT0, HT0, HB1, HK01, HK11⟩
  case round =>
    clear HB1 HK01 HK11 HT0 ZT0
    obtain ⟨j, t, rfl, rfl, hj, zt, HT, HB, HK0, HK1⟩ := hrel
    have hjc : j = 0 ∨ j = 1 ∨ j = 2 ∨ j = 3 ∨ j = 4 ∨ j = 5 ∨ j = 6 ∨ j = 7 := by omega
    rcases hjc with rfl | rfl | rfl | rfl | rfl | rfl | rfl | rfl
    · have ZT := Aside0.mk zt
      have c0 : wr.cell? ⟨g0, 0, none⟩ = some (.int .i64 x) := (blk_cell HK0.out 0).trans rfl
      have c1 : wr.cell? ⟨g0, 1, none⟩ = some (.int .i64 y) := (blk_cell HK0.out 1).trans rfl
      have f0 : wr.frozen? ⟨g0, 0, none⟩ = false := blk_frozen HK0.out 0
      have f1 : wr.frozen? ⟨g0, 1, none⟩ = false := blk_frozen HK0.out 1
      have a0 : wr.cell? ⟨g, 0, none⟩ = some (.int .i16 l0) := (blk_cell HK1.out 0).trans rfl
      have a1 : wr.cell? ⟨g, 1, none⟩ = some (.int .i16 l1) := (blk_cell HK1.out 1).trans rfl
      clear zt
      go_wp2_with fail
      go_quiet (fail)
      simp only [wd0, we0]
      have kq0 : (wr.drewN nq).heap[g0]? = some (.cells #[.int .i64 x, .int .i64 y] 55 (0, 0)) := HK0.out
      have kq1 : (wr.drewN nq).heap[g]? = some (.cells #[.int .i16 l0, .int .i16 l1, .int .i16 l2, .int .i16 l3, .int .i16 l4, .int .i16 l5, .int .i16 l6, .int .i16 l7, .int .i16 l8, .int .i16 l9, .int .i16 l10, .int .i16 l11, .int .i16 l12, .int .i16 l13] 53 (0, 0)) := HK1.out
      have hbq : Below w.heap.size w (wr.drewN nq) := below_then HB.out HB.out.size (pw_below_drewN (Below.refl _ _) _)
      clear c0 c1 f0 f1 a0 a1
      generalize wr.drewN nq = wq at kq0 kq1 hbq ⊢
      have c0 : wq.cell? ⟨g0, 0, none⟩ = some (.int .i64 x) := (blk_cell kq0 0).trans rfl
      have f0 : wq.frozen? ⟨g0, 0, none⟩ = false := blk_frozen kq0 0
      have hs1 := blk_set kq0 0 (.int .i64 p0)
      have c1 : (wq.setCell ⟨g0, 0, none⟩ (.int .i64 p0)).cell? ⟨g0, 1, none⟩ = some (.int .i64 y) := (blk_cell hs1 1).trans rfl
      have f1 : (wq.setCell ⟨g0, 0, none⟩ (.int .i64 p0)).frozen? ⟨g0, 1, none⟩ = false := blk_frozen hs1 1
      have hs2 := blk_set hs1 1 (.int .i64 r0)
      have hs3 := blk_far (blk_far kq1 (p := ⟨g0, 0, none⟩) (fun e => HNE.out.1 e.symm) (.int .i64 p0)) (p := ⟨g0, 1, none⟩) (fun e => HNE.out.1 e.symm) (.int .i64 r0)
      have hb2 : Below w.heap.size w ((wq.setCell ⟨g0, 0, none⟩ (.int .i64 p0)).setCell ⟨g0, 1, none⟩ (.int .i64 r0)) := below_set (below_set hbq (Nat.le_of_eq HNE.out.2)) (Nat.le_of_eq HNE.out.2)
      obtain ⟨wz, hwz⟩ : ∃ wz, (wq.setCell ⟨g0, 0, none⟩ (.int .i64 p0)).setCell ⟨g0, 1, none⟩ (.int .i64 r0) = wz := ⟨_, rfl⟩
      rw [hwz] at hs2 hs3 hb2
      have HS2 : Aside0 (wz.heap[g0]? = some (.cells #[.int .i64 p0, .int .i64 r0] 55 (0, 0))) := ⟨hs2⟩
      have HS3 := Aside0.mk hs3
      have HB2 := Aside0.mk hb2
      clear hs1 hs2 hs3 hb2 kq0 kq1 hbq
      go_wp2_with fail
      clear c0 c1 f0 f1 hwz
      refine (nums_new wz [d0, e0] 2 _ rfl (by have := BD0.out; intro x hx; simp only [List.mem_cons, List.not_mem_nil, or_false] at hx; omega) (by simp) (by simp)).mono ?_
      rintro e w2 ⟨⟨s1, rfl, hs1, z1⟩, hb3⟩
      have z1 : s1.size ≤ 10 := z1
      have HB3 := Aside0.mk (below_step HB2.out hb3)
      have HS4 := Aside0.mk (blk_below HS2.out hb3)
      have HS5 := Aside0.mk (blk_below HS3.out hb3)
      have HX1 := Aside0.mk hs1
      have zz := ZT.out
      have m1 : t.size + s1.size ≤ 9223372036854775807 := by omega
      have m2 : t.size + s1.size + 1 ≤ 9223372036854775807 := by omega
      clear hs1 hb3 HB2 HS2 HS3
      go_wp2_with fail
      refine (nums_new w2 [0, 2] 2 _ rfl (by decide) (by decide) (by decide)).mono ?_
      rintro e w3 ⟨⟨s2, rfl, hs2, z2⟩, hb4⟩
      have z2 : s2.size ≤ 10 := z2
      have HB4 := Aside0.mk (below_step HB3.out hb4)
      have HS6 := Aside0.mk (blk_below HS4.out hb4)
      have HS7 := Aside0.mk (blk_below HS5.out hb4)
      have HX2 := Aside0.mk hs2
      have m3 : t.size + s1.size + 1 + s2.size ≤ 9223372036854775807 := by omega
      have m4 : t.size + s1.size + 1 + s2.size + 2 ≤ 9223372036854775807 := by omega
      clear hs2 hb4 HB3 HS4 HS5
      go_wp2_with fail
      refine ⟨⟨1, t ++ s1 ++ ⟨#[21]⟩ ++ s2 ++ ⟨#[12, 16]⟩, rfl, rfl, by omega, ?_, ⟨?_⟩, HB4, HS6, HS7⟩, by simp [intOf]⟩
      · rw [ByteArray.size_append, ByteArray.size_append, ByteArray.size_append, ByteArray.size_append]; show t.size + s1.size + 1 + s2.size + 2 ≤ _; omega
      · rw [bytesOf_append, bytesOf_append, bytesOf_append, bytesOf_append, HT.out, HX1.out, HX2.out, preT_succ d0 e0 d1 e1 d2 e2 d3 e3 d4 e4 d5 e5 d6 e6 0 (by decide)]; simp only [moveT, T33.encs, enc, List.flatMap_append, List.flatMap_cons, List.flatMap_nil, List.append_assoc, List.getD_cons_zero, List.getD_cons_succ, List.append_nil]; rfl
    · have ZT := Aside0.mk zt
      have c0 : wr.cell? ⟨g0, 0, none⟩ = some (.int .i64 p0) := (blk_cell HK0.out 0).trans rfl
      have c1 : wr.cell? ⟨g0, 1, none⟩ = some (.int .i64 r0) := (blk_cell HK0.out 1).trans rfl
      have f0 : wr.frozen? ⟨g0, 0, none⟩ = false := blk_frozen HK0.out 0
      have f1 : wr.frozen? ⟨g0, 1, none⟩ = false := blk_frozen HK0.out 1
      have a0 : wr.cell? ⟨g, 2, none⟩ = some (.int .i16 l2) := (blk_cell HK1.out 2).trans rfl
      have a1 : wr.cell? ⟨g, 3, none⟩ = some (.int .i16 l3) := (blk_cell HK1.out 3).trans rfl
      clear zt
      go_wp2_with fail
      go_quiet (fail)
      simp only [wd1, we1]
      have kq0 : (wr.drewN nq).heap[g0]? = some (.cells #[.int .i64 p0, .int .i64 r0] 55 (0, 0)) := HK0.out
      have kq1 : (wr.drewN nq).heap[g]? = some (.cells #[.int .i16 l0, .int .i16 l1, .int .i16 l2, .int .i16 l3, .int .i16 l4, .int .i16 l5, .int .i16 l6, .int .i16 l7, .int .i16 l8, .int .i16 l9, .int .i16 l10, .int .i16 l11, .int .i16 l12, .int .i16 l13] 53 (0, 0)) := HK1.out
      have hbq : Below w.heap.size w (wr.drewN nq) := below_then HB.out HB.out.size (pw_below_drewN (Below.refl _ _) _)
      clear c0 c1 f0 f1 a0 a1
      generalize wr.drewN nq = wq at kq0 kq1 hbq ⊢
      have c0 : wq.cell? ⟨g0, 0, none⟩ = some (.int .i64 p0) := (blk_cell kq0 0).trans rfl
      have f0 : wq.frozen? ⟨g0, 0, none⟩ = false := blk_frozen kq0 0
      have hs1 := blk_set kq0 0 (.int .i64 p1)
      have c1 : (wq.setCell ⟨g0, 0, none⟩ (.int .i64 p1)).cell? ⟨g0, 1, none⟩ = some (.int .i64 r0) := (blk_cell hs1 1).trans rfl
      have f1 : (wq.setCell ⟨g0, 0, none⟩ (.int .i64 p1)).frozen? ⟨g0, 1, none⟩ = false := blk_frozen hs1 1
      have hs2 := blk_set hs1 1 (.int .i64 r1)
      have hs3 := blk_far (blk_far kq1 (p := ⟨g0, 0, none⟩) (fun e => HNE.out.1 e.symm) (.int .i64 p1)) (p := ⟨g0, 1, none⟩) (fun e => HNE.out.1 e.symm) (.int .i64 r1)
      have hb2 : Below w.heap.size w ((wq.setCell ⟨g0, 0, none⟩ (.int .i64 p1)).setCell ⟨g0, 1, none⟩ (.int .i64 r1)) := below_set (below_set hbq (Nat.le_of_eq HNE.out.2)) (Nat.le_of_eq HNE.out.2)
      obtain ⟨wz, hwz⟩ : ∃ wz, (wq.setCell ⟨g0, 0, none⟩ (.int .i64 p1)).setCell ⟨g0, 1, none⟩ (.int .i64 r1) = wz := ⟨_, rfl⟩
      rw [hwz] at hs2 hs3 hb2
      have HS2 : Aside0 (wz.heap[g0]? = some (.cells #[.int .i64 p1, .int .i64 r1] 55 (0, 0))) := ⟨hs2⟩
      have HS3 := Aside0.mk hs3
      have HB2 := Aside0.mk hb2
      clear hs1 hs2 hs3 hb2 kq0 kq1 hbq
      go_wp2_with fail
      clear c0 c1 f0 f1 hwz
      refine (nums_new wz [d1, e1] 2 _ rfl (by have := BD1.out; intro x hx; simp only [List.mem_cons, List.not_mem_nil, or_false] at hx; omega) (by simp) (by simp)).mono ?_
      rintro e w2 ⟨⟨s1, rfl, hs1, z1⟩, hb3⟩
      have z1 : s1.size ≤ 10 := z1
      have HB3 := Aside0.mk (below_step HB2.out hb3)
      have HS4 := Aside0.mk (blk_below HS2.out hb3)
      have HS5 := Aside0.mk (blk_below HS3.out hb3)
      have HX1 := Aside0.mk hs1
      have zz := ZT.out
      have m1 : t.size + s1.size ≤ 9223372036854775807 := by omega
      have m2 : t.size + s1.size + 1 ≤ 9223372036854775807 := by omega
      clear hs1 hb3 HB2 HS2 HS3
      go_wp2_with fail
      refine (nums_new w2 [0, 2] 2 _ rfl (by decide) (by decide) (by decide)).mono ?_
      rintro e w3 ⟨⟨s2, rfl, hs2, z2⟩, hb4⟩
      have z2 : s2.size ≤ 10 := z2
      have HB4 := Aside0.mk (below_step HB3.out hb4)
      have HS6 := Aside0.mk (blk_below HS4.out hb4)
      have HS7 := Aside0.mk (blk_below HS5.out hb4)
      have HX2 := Aside0.mk hs2
      have m3 : t.size + s1.size + 1 + s2.size ≤ 9223372036854775807 := by omega
      have m4 : t.size + s1.size + 1 + s2.size + 2 ≤ 9223372036854775807 := by omega
      clear hs2 hb4 HB3 HS4 HS5
      go_wp2_with fail
      refine ⟨⟨2, t ++ s1 ++ ⟨#[21]⟩ ++ s2 ++ ⟨#[12, 16]⟩, rfl, rfl, by omega, ?_, ⟨?_⟩, HB4, HS6, HS7⟩, by simp [intOf]⟩
      · rw [ByteArray.size_append, ByteArray.size_append, ByteArray.size_append, ByteArray.size_append]; show t.size + s1.size + 1 + s2.size + 2 ≤ _; omega
      · rw [bytesOf_append, bytesOf_append, bytesOf_append, bytesOf_append, HT.out, HX1.out, HX2.out, preT_succ d0 e0 d1 e1 d2 e2 d3 e3 d4 e4 d5 e5 d6 e6 1 (by decide)]; simp only [moveT, T33.encs, enc, List.flatMap_append, List.flatMap_cons, List.flatMap_nil, List.append_assoc, List.getD_cons_zero, List.getD_cons_succ, List.append_nil]; rfl
    · have ZT := Aside0.mk zt
      have c0 : wr.cell? ⟨g0, 0, none⟩ = some (.int .i64 p1) := (blk_cell HK0.out 0).trans rfl
      have c1 : wr.cell? ⟨g0, 1, none⟩ = some (.int .i64 r1) := (blk_cell HK0.out 1).trans rfl
      have f0 : wr.frozen? ⟨g0, 0, none⟩ = false := blk_frozen HK0.out 0
      have f1 : wr.frozen? ⟨g0, 1, none⟩ = false := blk_frozen HK0.out 1
      have a0 : wr.cell? ⟨g, 4, none⟩ = some (.int .i16 l4) := (blk_cell HK1.out 4).trans rfl
      have a1 : wr.cell? ⟨g, 5, none⟩ = some (.int .i16 l5) := (blk_cell HK1.out 5).trans rfl
      clear zt
      go_wp2_with fail
      go_quiet (fail)
      simp only [wd2, we2]
      have kq0 : (wr.drewN nq).heap[g0]? = some (.cells #[.int .i64 p1, .int .i64 r1] 55 (0, 0)) := HK0.out
      have kq1 : (wr.drewN nq).heap[g]? = some (.cells #[.int .i16 l0, .int .i16 l1, .int .i16 l2, .int .i16 l3, .int .i16 l4, .int .i16 l5, .int .i16 l6, .int .i16 l7, .int .i16 l8, .int .i16 l9, .int .i16 l10, .int .i16 l11, .int .i16 l12, .int .i16 l13] 53 (0, 0)) := HK1.out
      have hbq : Below w.heap.size w (wr.drewN nq) := below_then HB.out HB.out.size (pw_below_drewN (Below.refl _ _) _)
      clear c0 c1 f0 f1 a0 a1
      generalize wr.drewN nq = wq at kq0 kq1 hbq ⊢
      have c0 : wq.cell? ⟨g0, 0, none⟩ = some (.int .i64 p1) := (blk_cell kq0 0).trans rfl
      have f0 : wq.frozen? ⟨g0, 0, none⟩ = false := blk_frozen kq0 0
      have hs1 := blk_set kq0 0 (.int .i64 p2)
      have c1 : (wq.setCell ⟨g0, 0, none⟩ (.int .i64 p2)).cell? ⟨g0, 1, none⟩ = some (.int .i64 r1) := (blk_cell hs1 1).trans rfl
      have f1 : (wq.setCell ⟨g0, 0, none⟩ (.int .i64 p2)).frozen? ⟨g0, 1, none⟩ = false := blk_frozen hs1 1
      have hs2 := blk_set hs1 1 (.int .i64 r2)
      have hs3 := blk_far (blk_far kq1 (p := ⟨g0, 0, none⟩) (fun e => HNE.out.1 e.symm) (.int .i64 p2)) (p := ⟨g0, 1, none⟩) (fun e => HNE.out.1 e.symm) (.int .i64 r2)
      have hb2 : Below w.heap.size w ((wq.setCell ⟨g0, 0, none⟩ (.int .i64 p2)).setCell ⟨g0, 1, none⟩ (.int .i64 r2)) := below_set (below_set hbq (Nat.le_of_eq HNE.out.2)) (Nat.le_of_eq HNE.out.2)
      obtain ⟨wz, hwz⟩ : ∃ wz, (wq.setCell ⟨g0, 0, none⟩ (.int .i64 p2)).setCell ⟨g0, 1, none⟩ (.int .i64 r2) = wz := ⟨_, rfl⟩
      rw [hwz] at hs2 hs3 hb2
      have HS2 : Aside0 (wz.heap[g0]? = some (.cells #[.int .i64 p2, .int .i64 r2] 55 (0, 0))) := ⟨hs2⟩
      have HS3 := Aside0.mk hs3
      have HB2 := Aside0.mk hb2
      clear hs1 hs2 hs3 hb2 kq0 kq1 hbq
      go_wp2_with fail
      clear c0 c1 f0 f1 hwz
      refine (nums_new wz [d2, e2] 2 _ rfl (by have := BD2.out; intro x hx; simp only [List.mem_cons, List.not_mem_nil, or_false] at hx; omega) (by simp) (by simp)).mono ?_
      rintro e w2 ⟨⟨s1, rfl, hs1, z1⟩, hb3⟩
      have z1 : s1.size ≤ 10 := z1
      have HB3 := Aside0.mk (below_step HB2.out hb3)
      have HS4 := Aside0.mk (blk_below HS2.out hb3)
      have HS5 := Aside0.mk (blk_below HS3.out hb3)
      have HX1 := Aside0.mk hs1
      have zz := ZT.out
      have m1 : t.size + s1.size ≤ 9223372036854775807 := by omega
      have m2 : t.size + s1.size + 1 ≤ 9223372036854775807 := by omega
      clear hs1 hb3 HB2 HS2 HS3
      go_wp2_with fail
      refine (nums_new w2 [0, 2] 2 _ rfl (by decide) (by decide) (by decide)).mono ?_
      rintro e w3 ⟨⟨s2, rfl, hs2, z2⟩, hb4⟩
      have z2 : s2.size ≤ 10 := z2
      have HB4 := Aside0.mk (below_step HB3.out hb4)
      have HS6 := Aside0.mk (blk_below HS4.out hb4)
      have HS7 := Aside0.mk (blk_below HS5.out hb4)
      have HX2 := Aside0.mk hs2
      have m3 : t.size + s1.size + 1 + s2.size ≤ 9223372036854775807 := by omega
      have m4 : t.size + s1.size + 1 + s2.size + 2 ≤ 9223372036854775807 := by omega
      clear hs2 hb4 HB3 HS4 HS5
      go_wp2_with fail
      refine ⟨⟨3, t ++ s1 ++ ⟨#[21]⟩ ++ s2 ++ ⟨#[12, 16]⟩, rfl, rfl, by omega, ?_, ⟨?_⟩, HB4, HS6, HS7⟩, by simp [intOf]⟩
      · rw [ByteArray.size_append, ByteArray.size_append, ByteArray.size_append, ByteArray.size_append]; show t.size + s1.size + 1 + s2.size + 2 ≤ _; omega
      · rw [bytesOf_append, bytesOf_append, bytesOf_append, bytesOf_append, HT.out, HX1.out, HX2.out, preT_succ d0 e0 d1 e1 d2 e2 d3 e3 d4 e4 d5 e5 d6 e6 2 (by decide)]; simp only [moveT, T33.encs, enc, List.flatMap_append, List.flatMap_cons, List.flatMap_nil, List.append_assoc, List.getD_cons_zero, List.getD_cons_succ, List.append_nil]; rfl
    · have ZT := Aside0.mk zt
      have c0 : wr.cell? ⟨g0, 0, none⟩ = some (.int .i64 p2) := (blk_cell HK0.out 0).trans rfl
      have c1 : wr.cell? ⟨g0, 1, none⟩ = some (.int .i64 r2) := (blk_cell HK0.out 1).trans rfl
      have f0 : wr.frozen? ⟨g0, 0, none⟩ = false := blk_frozen HK0.out 0
      have f1 : wr.frozen? ⟨g0, 1, none⟩ = false := blk_frozen HK0.out 1
      have a0 : wr.cell? ⟨g, 6, none⟩ = some (.int .i16 l6) := (blk_cell HK1.out 6).trans rfl
      have a1 : wr.cell? ⟨g, 7, none⟩ = some (.int .i16 l7) := (blk_cell HK1.out 7).trans rfl
      clear zt
      go_wp2_with fail
      go_quiet (fail)
      simp only [wd3, we3]
      have kq0 : (wr.drewN nq).heap[g0]? = some (.cells #[.int .i64 p2, .int .i64 r2] 55 (0, 0)) := HK0.out
      have kq1 : (wr.drewN nq).heap[g]? = some (.cells #[.int .i16 l0, .int .i16 l1, .int .i16 l2, .int .i16 l3, .int .i16 l4, .int .i16 l5, .int .i16 l6, .int .i16 l7, .int .i16 l8, .int .i16 l9, .int .i16 l10, .int .i16 l11, .int .i16 l12, .int .i16 l13] 53 (0, 0)) := HK1.out
      have hbq : Below w.heap.size w (wr.drewN nq) := below_then HB.out HB.out.size (pw_below_drewN (Below.refl _ _) _)
      clear c0 c1 f0 f1 a0 a1
      generalize wr.drewN nq = wq at kq0 kq1 hbq ⊢
      have c0 : wq.cell? ⟨g0, 0, none⟩ = some (.int .i64 p2) := (blk_cell kq0 0).trans rfl
      have f0 : wq.frozen? ⟨g0, 0, none⟩ = false := blk_frozen kq0 0
      have hs1 := blk_set kq0 0 (.int .i64 p3)
      have c1 : (wq.setCell ⟨g0, 0, none⟩ (.int .i64 p3)).cell? ⟨g0, 1, none⟩ = some (.int .i64 r2) := (blk_cell hs1 1).trans rfl
      have f1 : (wq.setCell ⟨g0, 0, none⟩ (.int .i64 p3)).frozen? ⟨g0, 1, none⟩ = false := blk_frozen hs1 1
      have hs2 := blk_set hs1 1 (.int .i64 r3)
      have hs3 := blk_far (blk_far kq1 (p := ⟨g0, 0, none⟩) (fun e => HNE.out.1 e.symm) (.int .i64 p3)) (p := ⟨g0, 1, none⟩) (fun e => HNE.out.1 e.symm) (.int .i64 r3)
      have hb2 : Below w.heap.size w ((wq.setCell ⟨g0, 0, none⟩ (.int .i64 p3)).setCell ⟨g0, 1, none⟩ (.int .i64 r3)) := below_set (below_set hbq (Nat.le_of_eq HNE.out.2)) (Nat.le_of_eq HNE.out.2)
      obtain ⟨wz, hwz⟩ : ∃ wz, (wq.setCell ⟨g0, 0, none⟩ (.int .i64 p3)).setCell ⟨g0, 1, none⟩ (.int .i64 r3) = wz := ⟨_, rfl⟩
      rw [hwz] at hs2 hs3 hb2
      have HS2 : Aside0 (wz.heap[g0]? = some (.cells #[.int .i64 p3, .int .i64 r3] 55 (0, 0))) := ⟨hs2⟩
      have HS3 := Aside0.mk hs3
      have HB2 := Aside0.mk hb2
      clear hs1 hs2 hs3 hb2 kq0 kq1 hbq
      go_wp2_with fail
      clear c0 c1 f0 f1 hwz
      refine (nums_new wz [d3, e3] 2 _ rfl (by have := BD3.out; intro x hx; simp only [List.mem_cons, List.not_mem_nil, or_false] at hx; omega) (by simp) (by simp)).mono ?_
      rintro e w2 ⟨⟨s1, rfl, hs1, z1⟩, hb3⟩
      have z1 : s1.size ≤ 10 := z1
      have HB3 := Aside0.mk (below_step HB2.out hb3)
      have HS4 := Aside0.mk (blk_below HS2.out hb3)
      have HS5 := Aside0.mk (blk_below HS3.out hb3)
      have HX1 := Aside0.mk hs1
      have zz := ZT.out
      have m1 : t.size + s1.size ≤ 9223372036854775807 := by omega
      have m2 : t.size + s1.size + 1 ≤ 9223372036854775807 := by omega
      clear hs1 hb3 HB2 HS2 HS3
      go_wp2_with fail
      refine (nums_new w2 [0, 2] 2 _ rfl (by decide) (by decide) (by decide)).mono ?_
      rintro e w3 ⟨⟨s2, rfl, hs2, z2⟩, hb4⟩
      have z2 : s2.size ≤ 10 := z2
      have HB4 := Aside0.mk (below_step HB3.out hb4)
      have HS6 := Aside0.mk (blk_below HS4.out hb4)
      have HS7 := Aside0.mk (blk_below HS5.out hb4)
      have HX2 := Aside0.mk hs2
      have m3 : t.size + s1.size + 1 + s2.size ≤ 9223372036854775807 := by omega
      have m4 : t.size + s1.size + 1 + s2.size + 2 ≤ 9223372036854775807 := by omega
      clear hs2 hb4 HB3 HS4 HS5
      go_wp2_with fail
      refine ⟨⟨4, t ++ s1 ++ ⟨#[21]⟩ ++ s2 ++ ⟨#[12, 16]⟩, rfl, rfl, by omega, ?_, ⟨?_⟩, HB4, HS6, HS7⟩, by simp [intOf]⟩
      · rw [ByteArray.size_append, ByteArray.size_append, ByteArray.size_append, ByteArray.size_append]; show t.size + s1.size + 1 + s2.size + 2 ≤ _; omega
      · rw [bytesOf_append, bytesOf_append, bytesOf_append, bytesOf_append, HT.out, HX1.out, HX2.out, preT_succ d0 e0 d1 e1 d2 e2 d3 e3 d4 e4 d5 e5 d6 e6 3 (by decide)]; simp only [moveT, T33.encs, enc, List.flatMap_append, List.flatMap_cons, List.flatMap_nil, List.append_assoc, List.getD_cons_zero, List.getD_cons_succ, List.append_nil]; rfl
    · have ZT := Aside0.mk zt
      have c0 : wr.cell? ⟨g0, 0, none⟩ = some (.int .i64 p3) := (blk_cell HK0.out 0).trans rfl
      have c1 : wr.cell? ⟨g0, 1, none⟩ = some (.int .i64 r3) := (blk_cell HK0.out 1).trans rfl
      have f0 : wr.frozen? ⟨g0, 0, none⟩ = false := blk_frozen HK0.out 0
      have f1 : wr.frozen? ⟨g0, 1, none⟩ = false := blk_frozen HK0.out 1
      have a0 : wr.cell? ⟨g, 8, none⟩ = some (.int .i16 l8) := (blk_cell HK1.out 8).trans rfl
      have a1 : wr.cell? ⟨g, 9, none⟩ = some (.int .i16 l9) := (blk_cell HK1.out 9).trans rfl
      clear zt
      go_wp2_with fail
      go_quiet (fail)
      simp only [wd4, we4]
      have kq0 : (wr.drewN nq).heap[g0]? = some (.cells #[.int .i64 p3, .int .i64 r3] 55 (0, 0)) := HK0.out
      have kq1 : (wr.drewN nq).heap[g]? = some (.cells #[.int .i16 l0, .int .i16 l1, .int .i16 l2, .int .i16 l3, .int .i16 l4, .int .i16 l5, .int .i16 l6, .int .i16 l7, .int .i16 l8, .int .i16 l9, .int .i16 l10, .int .i16 l11, .int .i16 l12, .int .i16 l13] 53 (0, 0)) := HK1.out
      have hbq : Below w.heap.size w (wr.drewN nq) := below_then HB.out HB.out.size (pw_below_drewN (Below.refl _ _) _)
      clear c0 c1 f0 f1 a0 a1
      generalize wr.drewN nq = wq at kq0 kq1 hbq ⊢
      have c0 : wq.cell? ⟨g0, 0, none⟩ = some (.int .i64 p3) := (blk_cell kq0 0).trans rfl
      have f0 : wq.frozen? ⟨g0, 0, none⟩ = false := blk_frozen kq0 0
      have hs1 := blk_set kq0 0 (.int .i64 p4)
      have c1 : (wq.setCell ⟨g0, 0, none⟩ (.int .i64 p4)).cell? ⟨g0, 1, none⟩ = some (.int .i64 r3) := (blk_cell hs1 1).trans rfl
      have f1 : (wq.setCell ⟨g0, 0, none⟩ (.int .i64 p4)).frozen? ⟨g0, 1, none⟩ = false := blk_frozen hs1 1
      have hs2 := blk_set hs1 1 (.int .i64 r4)
      have hs3 := blk_far (blk_far kq1 (p := ⟨g0, 0, none⟩) (fun e => HNE.out.1 e.symm) (.int .i64 p4)) (p := ⟨g0, 1, none⟩) (fun e => HNE.out.1 e.symm) (.int .i64 r4)
      have hb2 : Below w.heap.size w ((wq.setCell ⟨g0, 0, none⟩ (.int .i64 p4)).setCell ⟨g0, 1, none⟩ (.int .i64 r4)) := below_set (below_set hbq (Nat.le_of_eq HNE.out.2)) (Nat.le_of_eq HNE.out.2)
      obtain ⟨wz, hwz⟩ : ∃ wz, (wq.setCell ⟨g0, 0, none⟩ (.int .i64 p4)).setCell ⟨g0, 1, none⟩ (.int .i64 r4) = wz := ⟨_, rfl⟩
      rw [hwz] at hs2 hs3 hb2
      have HS2 : Aside0 (wz.heap[g0]? = some (.cells #[.int .i64 p4, .int .i64 r4] 55 (0, 0))) := ⟨hs2⟩
      have HS3 := Aside0.mk hs3
      have HB2 := Aside0.mk hb2
      clear hs1 hs2 hs3 hb2 kq0 kq1 hbq
      go_wp2_with fail
      clear c0 c1 f0 f1 hwz
      refine (nums_new wz [d4, e4] 2 _ rfl (by have := BD4.out; intro x hx; simp only [List.mem_cons, List.not_mem_nil, or_false] at hx; omega) (by simp) (by simp)).mono ?_
      rintro e w2 ⟨⟨s1, rfl, hs1, z1⟩, hb3⟩
      have z1 : s1.size ≤ 10 := z1
      have HB3 := Aside0.mk (below_step HB2.out hb3)
      have HS4 := Aside0.mk (blk_below HS2.out hb3)
      have HS5 := Aside0.mk (blk_below HS3.out hb3)
      have HX1 := Aside0.mk hs1
      have zz := ZT.out
      have m1 : t.size + s1.size ≤ 9223372036854775807 := by omega
      have m2 : t.size + s1.size + 1 ≤ 9223372036854775807 := by omega
      clear hs1 hb3 HB2 HS2 HS3
      go_wp2_with fail
      refine (nums_new w2 [0, 2] 2 _ rfl (by decide) (by decide) (by decide)).mono ?_
      rintro e w3 ⟨⟨s2, rfl, hs2, z2⟩, hb4⟩
      have z2 : s2.size ≤ 10 := z2
      have HB4 := Aside0.mk (below_step HB3.out hb4)
      have HS6 := Aside0.mk (blk_below HS4.out hb4)
      have HS7 := Aside0.mk (blk_below HS5.out hb4)
      have HX2 := Aside0.mk hs2
      have m3 : t.size + s1.size + 1 + s2.size ≤ 9223372036854775807 := by omega
      have m4 : t.size + s1.size + 1 + s2.size + 2 ≤ 9223372036854775807 := by omega
      clear hs2 hb4 HB3 HS4 HS5
      go_wp2_with fail
      refine ⟨⟨5, t ++ s1 ++ ⟨#[21]⟩ ++ s2 ++ ⟨#[12, 16]⟩, rfl, rfl, by omega, ?_, ⟨?_⟩, HB4, HS6, HS7⟩, by simp [intOf]⟩
      · rw [ByteArray.size_append, ByteArray.size_append, ByteArray.size_append, ByteArray.size_append]; show t.size + s1.size + 1 + s2.size + 2 ≤ _; omega
      · rw [bytesOf_append, bytesOf_append, bytesOf_append, bytesOf_append, HT.out, HX1.out, HX2.out, preT_succ d0 e0 d1 e1 d2 e2 d3 e3 d4 e4 d5 e5 d6 e6 4 (by decide)]; simp only [moveT, T33.encs, enc, List.flatMap_append, List.flatMap_cons, List.flatMap_nil, List.append_assoc, List.getD_cons_zero, List.getD_cons_succ, List.append_nil]; rfl
    · have ZT := Aside0.mk zt
      have c0 : wr.cell? ⟨g0, 0, none⟩ = some (.int .i64 p4) := (blk_cell HK0.out 0).trans rfl
      have c1 : wr.cell? ⟨g0, 1, none⟩ = some (.int .i64 r4) := (blk_cell HK0.out 1).trans rfl
      have f0 : wr.frozen? ⟨g0, 0, none⟩ = false := blk_frozen HK0.out 0
      have f1 : wr.frozen? ⟨g0, 1, none⟩ = false := blk_frozen HK0.out 1
      have a0 : wr.cell? ⟨g, 10, none⟩ = some (.int .i16 l10) := (blk_cell HK1.out 10).trans rfl
      have a1 : wr.cell? ⟨g, 11, none⟩ = some (.int .i16 l11) := (blk_cell HK1.out 11).trans rfl
      clear zt
      go_wp2_with fail
      go_quiet (fail)
      simp only [wd5, we5]
      have kq0 : (wr.drewN nq).heap[g0]? = some (.cells #[.int .i64 p4, .int .i64 r4] 55 (0, 0)) := HK0.out
      have kq1 : (wr.drewN nq).heap[g]? = some (.cells #[.int .i16 l0, .int .i16 l1, .int .i16 l2, .int .i16 l3, .int .i16 l4, .int .i16 l5, .int .i16 l6, .int .i16 l7, .int .i16 l8, .int .i16 l9, .int .i16 l10, .int .i16 l11, .int .i16 l12, .int .i16 l13] 53 (0, 0)) := HK1.out
      have hbq : Below w.heap.size w (wr.drewN nq) := below_then HB.out HB.out.size (pw_below_drewN (Below.refl _ _) _)
      clear c0 c1 f0 f1 a0 a1
      generalize wr.drewN nq = wq at kq0 kq1 hbq ⊢
      have c0 : wq.cell? ⟨g0, 0, none⟩ = some (.int .i64 p4) := (blk_cell kq0 0).trans rfl
      have f0 : wq.frozen? ⟨g0, 0, none⟩ = false := blk_frozen kq0 0
      have hs1 := blk_set kq0 0 (.int .i64 p5)
      have c1 : (wq.setCell ⟨g0, 0, none⟩ (.int .i64 p5)).cell? ⟨g0, 1, none⟩ = some (.int .i64 r4) := (blk_cell hs1 1).trans rfl
      have f1 : (wq.setCell ⟨g0, 0, none⟩ (.int .i64 p5)).frozen? ⟨g0, 1, none⟩ = false := blk_frozen hs1 1
      have hs2 := blk_set hs1 1 (.int .i64 r5)
      have hs3 := blk_far (blk_far kq1 (p := ⟨g0, 0, none⟩) (fun e => HNE.out.1 e.symm) (.int .i64 p5)) (p := ⟨g0, 1, none⟩) (fun e => HNE.out.1 e.symm) (.int .i64 r5)
      have hb2 : Below w.heap.size w ((wq.setCell ⟨g0, 0, none⟩ (.int .i64 p5)).setCell ⟨g0, 1, none⟩ (.int .i64 r5)) := below_set (below_set hbq (Nat.le_of_eq HNE.out.2)) (Nat.le_of_eq HNE.out.2)
      obtain ⟨wz, hwz⟩ : ∃ wz, (wq.setCell ⟨g0, 0, none⟩ (.int .i64 p5)).setCell ⟨g0, 1, none⟩ (.int .i64 r5) = wz := ⟨_, rfl⟩
      rw [hwz] at hs2 hs3 hb2
      have HS2 : Aside0 (wz.heap[g0]? = some (.cells #[.int .i64 p5, .int .i64 r5] 55 (0, 0))) := ⟨hs2⟩
      have HS3 := Aside0.mk hs3
      have HB2 := Aside0.mk hb2
      clear hs1 hs2 hs3 hb2 kq0 kq1 hbq
      go_wp2_with fail
      clear c0 c1 f0 f1 hwz
      refine (nums_new wz [d5, e5] 2 _ rfl (by have := BD5.out; intro x hx; simp only [List.mem_cons, List.not_mem_nil, or_false] at hx; omega) (by simp) (by simp)).mono ?_
      rintro e w2 ⟨⟨s1, rfl, hs1, z1⟩, hb3⟩
      have z1 : s1.size ≤ 10 := z1
      have HB3 := Aside0.mk (below_step HB2.out hb3)
      have HS4 := Aside0.mk (blk_below HS2.out hb3)
      have HS5 := Aside0.mk (blk_below HS3.out hb3)
      have HX1 := Aside0.mk hs1
      have zz := ZT.out
      have m1 : t.size + s1.size ≤ 9223372036854775807 := by omega
      have m2 : t.size + s1.size + 1 ≤ 9223372036854775807 := by omega
      clear hs1 hb3 HB2 HS2 HS3
      go_wp2_with fail
      refine (nums_new w2 [0, 2] 2 _ rfl (by decide) (by decide) (by decide)).mono ?_
      rintro e w3 ⟨⟨s2, rfl, hs2, z2⟩, hb4⟩
      have z2 : s2.size ≤ 10 := z2
      have HB4 := Aside0.mk (below_step HB3.out hb4)
      have HS6 := Aside0.mk (blk_below HS4.out hb4)
      have HS7 := Aside0.mk (blk_below HS5.out hb4)
      have HX2 := Aside0.mk hs2
      have m3 : t.size + s1.size + 1 + s2.size ≤ 9223372036854775807 := by omega
      have m4 : t.size + s1.size + 1 + s2.size + 2 ≤ 9223372036854775807 := by omega
      clear hs2 hb4 HB3 HS4 HS5
      go_wp2_with fail
      refine ⟨⟨6, t ++ s1 ++ ⟨#[21]⟩ ++ s2 ++ ⟨#[12, 16]⟩, rfl, rfl, by omega, ?_, ⟨?_⟩, HB4, HS6, HS7⟩, by simp [intOf]⟩
      · rw [ByteArray.size_append, ByteArray.size_append, ByteArray.size_append, ByteArray.size_append]; show t.size + s1.size + 1 + s2.size + 2 ≤ _; omega
      · rw [bytesOf_append, bytesOf_append, bytesOf_append, bytesOf_append, HT.out, HX1.out, HX2.out, preT_succ d0 e0 d1 e1 d2 e2 d3 e3 d4 e4 d5 e5 d6 e6 5 (by decide)]; simp only [moveT, T33.encs, enc, List.flatMap_append, List.flatMap_cons, List.flatMap_nil, List.append_assoc, List.getD_cons_zero, List.getD_cons_succ, List.append_nil]; rfl
    · have ZT := Aside0.mk zt
      have c0 : wr.cell? ⟨g0, 0, none⟩ = some (.int .i64 p5) := (blk_cell HK0.out 0).trans rfl
      have c1 : wr.cell? ⟨g0, 1, none⟩ = some (.int .i64 r5) := (blk_cell HK0.out 1).trans rfl
      have f0 : wr.frozen? ⟨g0, 0, none⟩ = false := blk_frozen HK0.out 0
      have f1 : wr.frozen? ⟨g0, 1, none⟩ = false := blk_frozen HK0.out 1
      have a0 : wr.cell? ⟨g, 12, none⟩ = some (.int .i16 l12) := (blk_cell HK1.out 12).trans rfl
      have a1 : wr.cell? ⟨g, 13, none⟩ = some (.int .i16 l13) := (blk_cell HK1.out 13).trans rfl
      clear zt
      go_wp2_with fail
      go_quiet (fail)
      simp only [wd6, we6]
      have kq0 : (wr.drewN nq).heap[g0]? = some (.cells #[.int .i64 p5, .int .i64 r5] 55 (0, 0)) := HK0.out
      have kq1 : (wr.drewN nq).heap[g]? = some (.cells #[.int .i16 l0, .int .i16 l1, .int .i16 l2, .int .i16 l3, .int .i16 l4, .int .i16 l5, .int .i16 l6, .int .i16 l7, .int .i16 l8, .int .i16 l9, .int .i16 l10, .int .i16 l11, .int .i16 l12, .int .i16 l13] 53 (0, 0)) := HK1.out
      have hbq : Below w.heap.size w (wr.drewN nq) := below_then HB.out HB.out.size (pw_below_drewN (Below.refl _ _) _)
      clear c0 c1 f0 f1 a0 a1
      generalize wr.drewN nq = wq at kq0 kq1 hbq ⊢
      have c0 : wq.cell? ⟨g0, 0, none⟩ = some (.int .i64 p5) := (blk_cell kq0 0).trans rfl
      have f0 : wq.frozen? ⟨g0, 0, none⟩ = false := blk_frozen kq0 0
      have hs1 := blk_set kq0 0 (.int .i64 p6)
      have c1 : (wq.setCell ⟨g0, 0, none⟩ (.int .i64 p6)).cell? ⟨g0, 1, none⟩ = some (.int .i64 r5) := (blk_cell hs1 1).trans rfl
      have f1 : (wq.setCell ⟨g0, 0, none⟩ (.int .i64 p6)).frozen? ⟨g0, 1, none⟩ = false := blk_frozen hs1 1
      have hs2 := blk_set hs1 1 (.int .i64 r6)
      have hs3 := blk_far (blk_far kq1 (p := ⟨g0, 0, none⟩) (fun e => HNE.out.1 e.symm) (.int .i64 p6)) (p := ⟨g0, 1, none⟩) (fun e => HNE.out.1 e.symm) (.int .i64 r6)
      have hb2 : Below w.heap.size w ((wq.setCell ⟨g0, 0, none⟩ (.int .i64 p6)).setCell ⟨g0, 1, none⟩ (.int .i64 r6)) := below_set (below_set hbq (Nat.le_of_eq HNE.out.2)) (Nat.le_of_eq HNE.out.2)
      obtain ⟨wz, hwz⟩ : ∃ wz, (wq.setCell ⟨g0, 0, none⟩ (.int .i64 p6)).setCell ⟨g0, 1, none⟩ (.int .i64 r6) = wz := ⟨_, rfl⟩
      rw [hwz] at hs2 hs3 hb2
      have HS2 : Aside0 (wz.heap[g0]? = some (.cells #[.int .i64 p6, .int .i64 r6] 55 (0, 0))) := ⟨hs2⟩
      have HS3 := Aside0.mk hs3
      have HB2 := Aside0.mk hb2
      clear hs1 hs2 hs3 hb2 kq0 kq1 hbq
      go_wp2_with fail
      clear c0 c1 f0 f1 hwz
      refine (nums_new wz [d6, e6] 2 _ rfl (by have := BD6.out; intro x hx; simp only [List.mem_cons, List.not_mem_nil, or_false] at hx; omega) (by simp) (by simp)).mono ?_
      rintro e w2 ⟨⟨s1, rfl, hs1, z1⟩, hb3⟩
      have z1 : s1.size ≤ 10 := z1
      have HB3 := Aside0.mk (below_step HB2.out hb3)
      have HS4 := Aside0.mk (blk_below HS2.out hb3)
      have HS5 := Aside0.mk (blk_below HS3.out hb3)
      have HX1 := Aside0.mk hs1
      have zz := ZT.out
      have m1 : t.size + s1.size ≤ 9223372036854775807 := by omega
      have m2 : t.size + s1.size + 1 ≤ 9223372036854775807 := by omega
      clear hs1 hb3 HB2 HS2 HS3
      go_wp2_with fail
      refine (nums_new w2 [0, 2] 2 _ rfl (by decide) (by decide) (by decide)).mono ?_
      rintro e w3 ⟨⟨s2, rfl, hs2, z2⟩, hb4⟩
      have z2 : s2.size ≤ 10 := z2
      have HB4 := Aside0.mk (below_step HB3.out hb4)
      have HS6 := Aside0.mk (blk_below HS4.out hb4)
      have HS7 := Aside0.mk (blk_below HS5.out hb4)
      have HX2 := Aside0.mk hs2
      have m3 : t.size + s1.size + 1 + s2.size ≤ 9223372036854775807 := by omega
      have m4 : t.size + s1.size + 1 + s2.size + 2 ≤ 9223372036854775807 := by omega
      clear hs2 hb4 HB3 HS4 HS5
      go_wp2_with fail
      refine ⟨⟨7, t ++ s1 ++ ⟨#[21]⟩ ++ s2 ++ ⟨#[12, 16]⟩, rfl, rfl, by omega, ?_, ⟨?_⟩, HB4, HS6, HS7⟩, by simp [intOf]⟩
      · rw [ByteArray.size_append, ByteArray.size_append, ByteArray.size_append, ByteArray.size_append]; show t.size + s1.size + 1 + s2.size + 2 ≤ _; omega
      · rw [bytesOf_append, bytesOf_append, bytesOf_append, bytesOf_append, HT.out, HX1.out, HX2.out, preT_succ d0 e0 d1 e1 d2 e2 d3 e3 d4 e4 d5 e5 d6 e6 6 (by decide)]; simp only [moveT, T33.encs, enc, List.flatMap_append, List.flatMap_cons, List.flatMap_nil, List.append_assoc, List.getD_cons_zero, List.getD_cons_succ, List.append_nil]; rfl
    · have ZT := Aside0.mk zt
      have c0 : wr.cell? ⟨g0, 0, none⟩ = some (.int .i64 p6) := (blk_cell HK0.out 0).trans rfl
      have c1 : wr.cell? ⟨g0, 1, none⟩ = some (.int .i64 r6) := (blk_cell HK0.out 1).trans rfl
      clear zt
      go_wp2_with fail
      refine (nums_new wr [50, p6, r6, 3, 0] 5 _ rfl (by have := BD6.out; intro x hx; simp only [List.mem_cons, List.not_mem_nil, or_false] at hx; omega) (by simp) (by simp)).mono ?_
      rintro e w2 ⟨⟨s1, rfl, hs1, z1⟩, hb3⟩
      have z1 : s1.size ≤ 25 := z1
      have HB3 := Aside0.mk (below_step HB.out hb3)
      have HX1 := Aside0.mk hs1
      have zz := ZT.out
      have m1 : t.size + s1.size ≤ 9223372036854775807 := by omega
      have m2 : t.size + s1.size + 8 ≤ 9223372036854775807 := by omega
      clear hs1 hb3 c0 c1 HB HK0 HK1
      go_wp2_with fail
      go_ret
      refine ⟨⟨_, rfl, ?_, ?_⟩, HB3.out⟩
      · show bytesOf (t ++ s1 ++ ⟨#[12, 16, 12, 17, 12, 17, 12, 33]⟩) = _
        rw [bytesOf_append, bytesOf_append, HT.out, HX1.out]; simp only [preT, moveT, T33.encs, enc, List.flatMap_append, List.flatMap_cons, List.flatMap_nil, List.append_assoc, List.take, List.flatten_cons, List.flatten_nil, List.append_nil]; rfl
      · show (t ++ s1 ++ ⟨#[12, 16, 12, 17, 12, 17, 12, 33]⟩ : ByteArray).size ≤ 600
        rw [ByteArray.size_append, ByteArray.size_append]; show t.size + s1.size + 8 ≤ 600; omega
end
end Go.Proofs.Ytimnohaalccdkaa.X33
