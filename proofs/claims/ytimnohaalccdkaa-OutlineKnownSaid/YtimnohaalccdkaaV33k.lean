/- OutlineKnown walked (chapter 33). -/
import Derived.Test.YtimnohaalccdkaaN33b
import Derived.Test.YtimnohaalccdkaaK33k
import Derived.Test.YtimnohaalccdkaaShelf
namespace Go.Proofs.Ytimnohaalccdkaa.V33k
open Go.Proofs.Ytimnohaalccdkaa Go.Proofs.Ytimnohaalccdkaa.K33 Go.Proofs.Ytimnohaalccdkaa.M33 Go.Proofs.Ytimnohaalccdkaa.L33 Go.Proofs.Ytimnohaalccdkaa.N33 Go.Proofs.Ytimnohaalccdkaa.G33o Go.Proofs.Ytimnohaalccdkaa.G33p Go.Proofs.Ytimnohaalccdkaa.W33 Go.Proofs.Ytimnohaalccdkaa.D33 Go.Proofs.Ytimnohaalccdkaa.E33 Go.Proofs.Ytimnohaalccdkaa.V33 Go.Proofs.Ytimnohaalccdkaa.B33 Go.Proofs.Ytimnohaalccdkaa.N33b Go.Proofs.Ytimnohaalccdkaa.P33a
open Go.RowKit Go.Proofs.YtimnohaalccdkaaW.PrintWords Go.Proofs.YtimnohaalccdkaaW.PrintLast Go.Proofs.YtimnohaalccdkaaW.PrintMore
set_option linter.unusedVariables false
set_option linter.unusedSimpArgs false
set_option maxRecDepth 100000
theorem repL_oct {l : List Int} (h : Oct l) (c : Nat) : Oct (K33k.repL c l) := fun x hx => by
  unfold K33k.repL at hx
  obtain ⟨y, hy, hxy⟩ := List.mem_flatten.1 hx
  rw [List.mem_replicate] at hy
  rw [hy.2] at hxy
  exact h x hxy
theorem repL_bytes (l : List UInt8) : ∀ c, (Lib.repeatL l c).map (fun b => (b.toNat : Int)) = K33k.repL c (l.map fun b => (b.toNat : Int))
  | 0 => rfl
  | c + 1 => by
    have ih := repL_bytes l c
    unfold K33k.repL at ih ⊢
    rw [List.replicate_succ, List.flatten_cons, ← ih]
    simp [Lib.repeatL]
theorem rep_call (s : ByteArray) (c : Nat) (hc : c ≤ 5000) (hs : s.size ≤ 100) (w : World) : Calls Try.prog 32 #[.string s, .int .i64 c] w fun e w' => (∃ t, e = .returned (.string t) ∧ bytesOf t = K33k.repL c (bytesOf s)) ∧ Below w.heap.size w w' := by
  have hm : s.size * c ≤ 100 * 5000 := Nat.mul_le_mul hs hc
  refine (Try.strings_Repeat s c w (by omega) (by omega)).mono ?_
  rintro e w' ⟨rfl, hb⟩
  exact ⟨⟨_, rfl, repL_bytes s.data.toList c⟩, hb⟩
theorem num_new (W : World) (xs : List Int) (c : Nat) (cs : Array Value) (hcs : cs = (nums .i64 xs).toArray) (hx : ∀ x ∈ xs, -2147483648 ≤ x ∧ x ≤ 2147483647) (hl : xs.length ≤ 1000) :
    Calls Try.prog 22 #[.slice (some ⟨W.heap.size, 0, none⟩) xs.length c] (W.alloc (.cells cs 3)) fun e w' => (∃ t, e = .returned (.string t) ∧ bytesOf t = xs.flatMap numB) ∧ Below W.heap.size W w' := by
  subst hcs
  have hi : Ints (W.alloc (.cells (nums .i64 xs).toArray 3)) (some ⟨W.heap.size, 0, none⟩) xs := .inr ⟨_, _, _, rfl, blk_new _ _, fun i x hi => by simp [nums, hi]⟩
  refine (number_call hi hx hl).mono ?_
  rintro e w' ⟨rfl, hb⟩
  exact ⟨⟨_, rfl, bytesOf_strOf _ (flat_oct xs)⟩, below_step (below_alloc (Below.refl _ _) _) hb⟩
theorem fails_k {w : World} {sb : Value} {ss : List ByteArray} {S : List (List Int)} {l : List Int} {s : ByteArray} {x : Int} (h : StrsAt w sb ss) (hl : ss.length ≤ 1000000) (hS : ss.map bytesOf = S) (hs : bytesOf s = l) (hr : runG S l = (g0, x)) :
    Calls Try.prog 31 #[.string s, .int .i64 x, sb] w fun e w' => e = .returned (.bool true) ∧ Below w.heap.size w w' :=
  fails_ok h hl s x (by rw [hS, hs]; exact hr)
theorem draws_k {w : World} {sb gv : Value} {ss : List ByteArray} {S : List (List Int)} {l : List Int} {s : ByteArray} {g : Gl} (h : StrsAt w sb ss) (hl : ss.length ≤ 1000000) (hS : ss.map bytesOf = S) (hs : bytesOf s = l) (hr : runG S l = (g, 0)) (hg : GlR w gv g) (l1 : g.2.2.1.length ≤ 100000) (l2 : g.2.2.2.length ≤ 100000) :
    Calls Try.prog 23 #[.string s, gv, sb] w fun e w' => e = .returned (.bool true) ∧ Below w.heap.size w w' :=
  draws_ok h hl s hg l1 l2 (by rw [hS, hs]; exact hr)
theorem info9 : (Try.prog.info? 9).map (fun i => (i.zero, i.size, i.bytes)) = some (some (.string ⟨#[]⟩), 1, 16) := by kernel_rfl
theorem mk201 (W : World) : (Instr.makeSlice 31 (.int .i64 201) (.int .i64 201)).run Try.prog W = .ok (.slice (some ⟨W.heap.size, 0, none⟩) 201 201) (W.alloc (.cells (madeCells #[.string ⟨#[]⟩] 201) 9)) :=
  print_make_of (P := Try.prog) 31 9 (.string ⟨#[]⟩) 16 Try.underlying31 info9 rfl (by decide) 201 (by decide) W
theorem made_get (z : Value) (n i : Nat) (h : i < n) : (madeCells #[z] n)[i]? = some z := by
  simp [madeCells, h, Nat.mod_one]
/-- Empty strings. -/
def Many (w : World) (g : Nat) : Prop := StrsAt w (.slice (some ⟨g, 0, none⟩) 201 201) (List.replicate 201 ⟨#[]⟩) ∧ StrsAt w (.slice (some ⟨g, 0, none⟩) 200 201) (List.replicate 200 ⟨#[]⟩)
theorem many_new (W : World) : Many (W.alloc (.cells (madeCells #[.string ⟨#[]⟩] 201) 9)) W.heap.size := by
  refine ⟨⟨_, _, rfl, fun V hV i s hi => ⟨_, _, rfl, ?_⟩⟩, ⟨_, _, rfl, fun V hV i s hi => ⟨_, _, rfl, ?_⟩⟩⟩
  · rw [List.getElem?_replicate] at hi
    split at hi
    · cases hi
      rw [blk_cell (blk_below (blk_new _ _) hV), Nat.zero_add]
      exact made_get _ _ _ (by assumption)
    · cases hi
  · rw [List.getElem?_replicate] at hi
    split at hi
    · cases hi
      rw [blk_cell (blk_below (blk_new _ _) hV), Nat.zero_add]
      exact made_get _ _ _ (by omega)
    · cases hi
theorem Many.below {w w' : World} {g : Nat} (h : Many w g) (hb : Below w.heap.size w w') : Many w' g := ⟨StrsAt.below h.1 hb, StrsAt.below h.2 hb⟩
set_option maxHeartbeats 80000000 in
theorem known_walk (w : World) : Calls Try.prog 11 #[] w fun e w' => e = .returned (.bool true) ∧ Below w.heap.size w w' := by
  have hmk := mk201
  go_enter Try.func11, Try.ntmps11
  go_wp2_with fail
  refine (works_call w).mono ?_
  rintro e w1 ⟨rfl, hb1⟩
  have HB1 := Aside0.mk hb1
  clear hb1
  go_wp2_with fail
  have hw2 := below_alloc (Below.refl w1.heap.size w1) (.cells (madeCells #[.string ⟨#[]⟩] 201) 9)
  have HM2 := Aside0.mk (many_new w1)
  have HB2 := Aside0.mk (below_step HB1.out hw2)
  obtain ⟨mg, hmg⟩ : ∃ mg, w1.heap.size = mg := ⟨_, rfl⟩
  rw [hmg] at HM2 ⊢
  generalize w1.alloc (.cells (madeCells #[.string ⟨#[]⟩] 201) 9) = w2 at HM2 HB2 ⊢
  clear hw2 HB1 hmg hmk w1
  refine (fails_k (S := []) (l := []) (strs_nil _) (by first | decide | simp) rfl rfl K33k.k0).mono ?_
  rintro e w3 ⟨rfl, hbx⟩
  have hst : Below w2.heap.size w2 w3 := hbx
  have HB3 := Aside0.mk (below_step HB2.out hst)
  have HM3 := Aside0.mk (HM2.out.below hst)
  clear hst hbx HB2 HM2
  go_wp2_with fail
  refine (fails_k (S := []) (l := [139, 139, 13]) (strs_nil _) (by first | decide | simp) rfl rfl K33k.k1).mono ?_
  rintro e w4 ⟨rfl, hbx⟩
  have hst : Below w3.heap.size w3 w4 := hbx
  have HB4 := Aside0.mk (below_step HB3.out hst)
  have HM4 := Aside0.mk (HM3.out.below hst)
  clear hst hbx HB3 HM3
  go_wp2_with fail
  refine (fails_k (S := []) (l := [139, 139, 13] ++ [11]) (strs_nil _) (by first | decide | simp) rfl (by rw [bytesOf_append]; rfl) K33k.k2).mono ?_
  rintro e w5 ⟨rfl, hbx⟩
  have hst : Below w4.heap.size w4 w5 := hbx
  have HB5 := Aside0.mk (below_step HB4.out hst)
  have HM5 := Aside0.mk (HM4.out.below hst)
  clear hst hbx HB4 HM4
  go_wp2_with fail
  refine (fails_k (S := []) (l := [139, 139, 13] ++ [139, 139, 13] ++ [14]) (strs_nil _) (by first | decide | simp) rfl (by rw [bytesOf_append, bytesOf_append]; rfl) K33k.k3).mono ?_
  rintro e w6 ⟨rfl, hbx⟩
  have hst : Below w5.heap.size w5 w6 := hbx
  have HB6 := Aside0.mk (below_step HB5.out hst)
  have HM6 := Aside0.mk (HM5.out.below hst)
  clear hst hbx HB5 HM5
  go_wp2_with fail
  refine (fails_k (S := []) (l := [139, 139, 13] ++ [139, 14]) (strs_nil _) (by first | decide | simp) rfl (by rw [bytesOf_append]; rfl) K33k.k4).mono ?_
  rintro e w7 ⟨rfl, hbx⟩
  have hst : Below w6.heap.size w6 w7 := hbx
  have HB7 := Aside0.mk (below_step HB6.out hst)
  have HM7 := Aside0.mk (HM6.out.below hst)
  clear hst hbx HB6 HM6
  go_wp2_with fail
  refine (fails_k (S := []) (l := [139, 139, 13] ++ [2, 14]) (strs_nil _) (by first | decide | simp) rfl (by rw [bytesOf_append]; rfl) K33k.k5).mono ?_
  rintro e w8 ⟨rfl, hbx⟩
  have hst : Below w7.heap.size w7 w8 := hbx
  have HB8 := Aside0.mk (below_step HB7.out hst)
  have HM8 := Aside0.mk (HM7.out.below hst)
  clear hst hbx HB7 HM7
  go_wp2_with fail
  refine (fails_k (S := []) (l := [139, 139, 13] ++ [12]) (strs_nil _) (by first | decide | simp) rfl (by rw [bytesOf_append]; rfl) K33k.k6).mono ?_
  rintro e w9 ⟨rfl, hbx⟩
  have hst : Below w8.heap.size w8 w9 := hbx
  have HB9 := Aside0.mk (below_step HB8.out hst)
  have HM9 := Aside0.mk (HM8.out.below hst)
  clear hst hbx HB8 HM8
  go_wp2_with fail
  refine (fails_k (S := []) (l := [139, 139, 13] ++ [247]) (strs_nil _) (by first | decide | simp) rfl (by rw [bytesOf_append]; rfl) K33k.k7).mono ?_
  rintro e w10 ⟨rfl, hbx⟩
  have hst : Below w9.heap.size w9 w10 := hbx
  have HB10 := Aside0.mk (below_step HB9.out hst)
  have HM10 := Aside0.mk (HM9.out.below hst)
  clear hst hbx HB9 HM9
  go_wp2_with fail
  refine (fails_k (S := []) (l := [139, 139, 13] ++ [255, 0, 0, 0]) (strs_nil _) (by first | decide | simp) rfl (by rw [bytesOf_append]; rfl) K33k.k8).mono ?_
  rintro e w11 ⟨rfl, hbx⟩
  have hst : Below w10.heap.size w10 w11 := hbx
  have HB11 := Aside0.mk (below_step HB10.out hst)
  have HM11 := Aside0.mk (HM10.out.below hst)
  clear hst hbx HB10 HM10
  go_wp2_with fail
  refine (fails_k (S := []) (l := [139, 139, 13] ++ [9, 14]) (strs_nil _) (by first | decide | simp) rfl (by rw [bytesOf_append]; rfl) K33k.k9).mono ?_
  rintro e w12 ⟨rfl, hbx⟩
  have hst : Below w11.heap.size w11 w12 := hbx
  have HB12 := Aside0.mk (below_step HB11.out hst)
  have HM12 := Aside0.mk (HM11.out.below hst)
  clear hst hbx HB11 HM11
  go_wp2_with fail
  refine (fails_k (S := []) (l := [139, 139, 13] ++ [139, 6, 14]) (strs_nil _) (by first | decide | simp) rfl (by rw [bytesOf_append]; rfl) K33k.k10).mono ?_
  rintro e w13 ⟨rfl, hbx⟩
  have hst : Below w12.heap.size w12 w13 := hbx
  have HB13 := Aside0.mk (below_step HB12.out hst)
  have HM13 := Aside0.mk (HM12.out.below hst)
  clear hst hbx HB12 HM12
  go_wp2_with fail
  refine (fails_k (S := []) (l := [139, 139, 13] ++ [139, 139, 1, 14]) (strs_nil _) (by first | decide | simp) rfl (by rw [bytesOf_append]; rfl) K33k.k11).mono ?_
  rintro e w14 ⟨rfl, hbx⟩
  have hst : Below w13.heap.size w13 w14 := hbx
  have HB14 := Aside0.mk (below_step HB13.out hst)
  have HM14 := Aside0.mk (HM13.out.below hst)
  clear hst hbx HB13 HM13
  go_wp2_with fail
  refine (fails_k (S := []) (l := [139, 139, 13] ++ [140, 139, 12, 12, 14]) (strs_nil _) (by first | decide | simp) rfl (by rw [bytesOf_append]; rfl) K33k.k12).mono ?_
  rintro e w15 ⟨rfl, hbx⟩
  have hst : Below w14.heap.size w14 w15 := hbx
  have HB15 := Aside0.mk (below_step HB14.out hst)
  have HM15 := Aside0.mk (HM14.out.below hst)
  clear hst hbx HB14 HM14
  go_wp2_with fail
  refine (fails_k (S := []) (l := [139, 139, 13] ++ [12, 17, 14]) (strs_nil _) (by first | decide | simp) rfl (by rw [bytesOf_append]; rfl) K33k.k13).mono ?_
  rintro e w16 ⟨rfl, hbx⟩
  have hst : Below w15.heap.size w15 w16 := hbx
  have HB16 := Aside0.mk (below_step HB15.out hst)
  have HM16 := Aside0.mk (HM15.out.below hst)
  clear hst hbx HB15 HM15
  go_wp2_with fail
  refine (fails_k (S := []) (l := [139, 139, 13] ++ [139, 140, 12, 16, 14]) (strs_nil _) (by first | decide | simp) rfl (by rw [bytesOf_append]; rfl) K33k.k14).mono ?_
  rintro e w17 ⟨rfl, hbx⟩
  have hst : Below w16.heap.size w16 w17 := hbx
  have HB17 := Aside0.mk (below_step HB16.out hst)
  have HM17 := Aside0.mk (HM16.out.below hst)
  clear hst hbx HB16 HM16
  go_wp2_with fail
  refine (fails_k (S := []) (l := [139, 139, 13] ++ [140, 139, 12, 33, 14]) (strs_nil _) (by first | decide | simp) rfl (by rw [bytesOf_append]; rfl) K33k.k15).mono ?_
  rintro e w18 ⟨rfl, hbx⟩
  have hst : Below w17.heap.size w17 w18 := hbx
  have HB18 := Aside0.mk (below_step HB17.out hst)
  have HM18 := Aside0.mk (HM17.out.below hst)
  clear hst hbx HB17 HM17
  go_wp2_with fail
  refine (fails_k (S := []) (l := [139, 139, 13] ++ [139, 10, 14]) (strs_nil _) (by first | decide | simp) rfl (by rw [bytesOf_append]; rfl) K33k.k16).mono ?_
  rintro e w19 ⟨rfl, hbx⟩
  have hst : Below w18.heap.size w18 w19 := hbx
  have HB19 := Aside0.mk (below_step HB18.out hst)
  have HM19 := Aside0.mk (HM18.out.below hst)
  clear hst hbx HB18 HM18
  go_wp2_with fail
  refine (rep_call ⟨#[139]⟩ 25 (by decide) (by decide) w19).mono ?_
  rintro e w20 ⟨⟨s1, rfl, hs1⟩, hbx⟩
  have hst : Below w19.heap.size w19 w20 := hbx
  have HB20 := Aside0.mk (below_step HB19.out hst)
  have HM20 := Aside0.mk (HM19.out.below hst)
  clear hst hbx HB19 HM19
  have z1 : s1.size = 25 := by rw [← bytesOf_len, hs1]; unfold K33k.repL; rw [List.length_flatten]; decide +kernel
  have HS1 := Aside0.mk hs1
  clear hs1
  go_wp2_with fail
  refine (fails_k (S := []) (l := K33k.repL 25 [139]) (strs_nil _) (by first | decide | simp) rfl (by rw [HS1.out]; rfl) K33k.k17).mono ?_
  rintro e w21 ⟨rfl, hbx⟩
  have hst : Below w20.heap.size w20 w21 := hbx
  have HB21 := Aside0.mk (below_step HB20.out hst)
  have HM21 := Aside0.mk (HM20.out.below hst)
  clear hst hbx HB20 HM20
  go_wp2_with fail
  refine (num_new w21 [32001, 0] 2 _ rfl (by decide) (by decide)).mono ?_
  rintro e w22 ⟨⟨s2, rfl, hs2⟩, hbx⟩
  have hst : Below w21.heap.size w21 w22 := hbx
  have HB22 := Aside0.mk (below_step HB21.out hst)
  have HM22 := Aside0.mk (HM21.out.below hst)
  clear hst hbx HB21 HM21
  have z2 : s2.size = 6 := by rw [← bytesOf_len, hs2]; decide
  have HS2 := Aside0.mk hs2
  clear hs2
  go_wp2_with fail
  refine (fails_k (S := []) (l := ([32001, 0].flatMap numB) ++ [13, 14]) (strs_nil _) (by first | decide | simp) rfl (by rw [bytesOf_append, HS2.out]; rfl) K33k.k18).mono ?_
  rintro e w23 ⟨rfl, hbx⟩
  have hst : Below w22.heap.size w22 w23 := hbx
  have HB23 := Aside0.mk (below_step HB22.out hst)
  have HM23 := Aside0.mk (HM22.out.below hst)
  clear hst hbx HB22 HM22
  go_wp2_with fail
  refine (num_new w23 [-32001] 1 _ rfl (by decide) (by decide)).mono ?_
  rintro e w24 ⟨⟨s3, rfl, hs3⟩, hbx⟩
  have hst : Below w23.heap.size w23 w24 := hbx
  have HB24 := Aside0.mk (below_step HB23.out hst)
  have HM24 := Aside0.mk (HM23.out.below hst)
  clear hst hbx HB23 HM23
  have z3 : s3.size = 5 := by rw [← bytesOf_len, hs3]; decide
  have HS3 := Aside0.mk hs3
  clear hs3
  go_wp2_with fail
  refine (fails_k (S := []) (l := [139, 139, 13] ++ ([-32001].flatMap numB) ++ [4, 14]) (strs_nil _) (by first | decide | simp) rfl (by rw [bytesOf_append, bytesOf_append, HS3.out]; rfl) K33k.k19).mono ?_
  rintro e w25 ⟨rfl, hbx⟩
  have hst : Below w24.heap.size w24 w25 := hbx
  have HB25 := Aside0.mk (below_step HB24.out hst)
  have HM25 := Aside0.mk (HM24.out.below hst)
  clear hst hbx HB24 HM24
  go_wp2_with fail
  refine (num_new w25 [32000, 1] 2 _ rfl (by decide) (by decide)).mono ?_
  rintro e w26 ⟨⟨s4, rfl, hs4⟩, hbx⟩
  have hst : Below w25.heap.size w25 w26 := hbx
  have HB26 := Aside0.mk (below_step HB25.out hst)
  have HM26 := Aside0.mk (HM25.out.below hst)
  clear hst hbx HB25 HM25
  have z4 : s4.size = 6 := by rw [← bytesOf_len, hs4]; decide
  have HS4 := Aside0.mk hs4
  clear hs4
  go_wp2_with fail
  refine (fails_k (S := []) (l := [139, 139, 13] ++ ([32000, 1].flatMap numB) ++ [3, 14]) (strs_nil _) (by first | decide | simp) rfl (by rw [bytesOf_append, bytesOf_append, HS4.out]; rfl) K33k.k20).mono ?_
  rintro e w27 ⟨rfl, hbx⟩
  have hst : Below w26.heap.size w26 w27 := hbx
  have HB27 := Aside0.mk (below_step HB26.out hst)
  have HM27 := Aside0.mk (HM26.out.below hst)
  clear hst hbx HB26 HM26
  go_wp2_with fail
  refine (rep_call ⟨#[139, 6]⟩ 300 (by decide) (by decide) w27).mono ?_
  rintro e w28 ⟨⟨s5, rfl, hs5⟩, hbx⟩
  have hst : Below w27.heap.size w27 w28 := hbx
  have HB28 := Aside0.mk (below_step HB27.out hst)
  have HM28 := Aside0.mk (HM27.out.below hst)
  clear hst hbx HB27 HM27
  have z5 : s5.size = 600 := by rw [← bytesOf_len, hs5]; unfold K33k.repL; rw [List.length_flatten]; decide +kernel
  have HS5 := Aside0.mk hs5
  clear hs5
  go_wp2_with fail
  refine (fails_k (S := []) (l := [139, 139, 13] ++ [139, 4] ++ K33k.repL 300 [139, 6] ++ [14]) (strs_nil _) (by first | decide | simp) rfl (by rw [bytesOf_append, bytesOf_append, bytesOf_append, HS5.out]; rfl) K33k.k21).mono ?_
  rintro e w29 ⟨rfl, hbx⟩
  have hst : Below w28.heap.size w28 w29 := hbx
  have HB29 := Aside0.mk (below_step HB28.out hst)
  have HM29 := Aside0.mk (HM28.out.below hst)
  clear hst hbx HB28 HM28
  go_wp2_with fail
  refine (rep_call ⟨#[140, 4]⟩ 301 (by decide) (by decide) w29).mono ?_
  rintro e w30 ⟨⟨s6, rfl, hs6⟩, hbx⟩
  have hst : Below w29.heap.size w29 w30 := hbx
  have HB30 := Aside0.mk (below_step HB29.out hst)
  have HM30 := Aside0.mk (HM29.out.below hst)
  clear hst hbx HB29 HM29
  have z6 : s6.size = 602 := by rw [← bytesOf_len, hs6]; unfold K33k.repL; rw [List.length_flatten]; decide +kernel
  have HS6 := Aside0.mk hs6
  clear hs6
  go_wp2_with fail
  refine (draws_k (S := []) (l := [139, 139, 13] ++ K33k.repL 301 [140, 4] ++ [14]) (g := (0, 0, [(1, (0, 301), (0, 0), (0, 0))], [])) (strs_nil _) (by first | decide | simp) rfl (by rw [bytesOf_append, bytesOf_append, HS6.out]; rfl) K33k.k22 ⟨_, _, rfl, rd_new w30 (List.flatMap stp [(1, (0, 301), (0, 0), (0, 0))]) 60 1 1 _ rfl, rd_nil _⟩ (by decide) (by decide)).mono ?_
  rintro e w31 ⟨rfl, hbx⟩
  have hst : Below w30.heap.size w30 w31 := below_step (below_alloc (Below.refl _ _) (.cells (List.flatMap stp [(1, (0, 301), (0, 0), (0, 0))]).toArray 60)) hbx
  have HB31 := Aside0.mk (below_step HB30.out hst)
  have HM31 := Aside0.mk (HM30.out.below hst)
  clear hst hbx HB30 HM30
  go_wp2_with fail
  refine (rep_call ⟨#[139, 140, 1]⟩ 41 (by decide) (by decide) w31).mono ?_
  rintro e w32 ⟨⟨s7, rfl, hs7⟩, hbx⟩
  have hst : Below w31.heap.size w31 w32 := hbx
  have HB32 := Aside0.mk (below_step HB31.out hst)
  have HM32 := Aside0.mk (HM31.out.below hst)
  clear hst hbx HB31 HM31
  have z7 : s7.size = 123 := by rw [← bytesOf_len, hs7]; unfold K33k.repL; rw [List.length_flatten]; decide +kernel
  have HS7 := Aside0.mk hs7
  clear hs7
  go_wp2_with fail
  refine (fails_k (S := []) (l := [139, 139, 13] ++ K33k.repL 41 [139, 140, 1] ++ [14]) (strs_nil _) (by first | decide | simp) rfl (by rw [bytesOf_append, bytesOf_append, HS7.out]; rfl) K33k.k23).mono ?_
  rintro e w33 ⟨rfl, hbx⟩
  have hst : Below w32.heap.size w32 w33 := hbx
  have HB33 := Aside0.mk (below_step HB32.out hst)
  have HM33 := Aside0.mk (HM32.out.below hst)
  clear hst hbx HB32 HM32
  go_wp2_with fail
  refine (fails_k (S := (List.replicate 201 [])) (l := []) HM33.out.1 (by first | decide | simp) (by rw [List.map_replicate]; rfl) rfl K33k.k24).mono ?_
  rintro e w34 ⟨rfl, hbx⟩
  have hst : Below w33.heap.size w33 w34 := hbx
  have HB34 := Aside0.mk (below_step HB33.out hst)
  have HM34 := Aside0.mk (HM33.out.below hst)
  clear hst hbx HB33 HM33
  go_wp2_with fail
  refine (rep_call ⟨#[97]⟩ 4001 (by decide) (by decide) w34).mono ?_
  rintro e w35 ⟨⟨s8, rfl, hs8⟩, hbx⟩
  have hst : Below w34.heap.size w34 w35 := hbx
  have HB35 := Aside0.mk (below_step HB34.out hst)
  have HM35 := Aside0.mk (HM34.out.below hst)
  clear hst hbx HB34 HM34
  have z8 : s8.size = 4001 := by rw [← bytesOf_len, hs8]; unfold K33k.repL; rw [List.length_flatten]; decide +kernel
  have HS8 := Aside0.mk hs8
  clear hs8
  go_wp2_with fail
  refine (fails_k (S := []) (l := K33k.repL 4001 [97]) (strs_nil _) (by first | decide | simp) rfl (by rw [HS8.out]; rfl) K33k.k25).mono ?_
  rintro e w36 ⟨rfl, hbx⟩
  have hst : Below w35.heap.size w35 w36 := hbx
  have HB36 := Aside0.mk (below_step HB35.out hst)
  have HM36 := Aside0.mk (HM35.out.below hst)
  clear hst hbx HB35 HM35
  go_wp2_with fail
  refine (rep_call ⟨#[97]⟩ 4001 (by decide) (by decide) w36).mono ?_
  rintro e w37 ⟨⟨s9, rfl, hs9⟩, hbx⟩
  have hst : Below w36.heap.size w36 w37 := hbx
  have HB37 := Aside0.mk (below_step HB36.out hst)
  have HM37 := Aside0.mk (HM36.out.below hst)
  clear hst hbx HB36 HM36
  have z9 : s9.size = 4001 := by rw [← bytesOf_len, hs9]; unfold K33k.repL; rw [List.length_flatten]; decide +kernel
  have HS9 := Aside0.mk hs9
  clear hs9
  go_wp2_with fail
  refine (fails_k (S := [K33k.repL 4001 [97]]) (l := []) (strs_new w37 [s9] 1 _ rfl) (by first | decide | simp) (by rw [List.map_cons, HS9.out]; rfl) rfl K33k.k26).mono ?_
  rintro e w38 ⟨rfl, hbx⟩
  have hst : Below w37.heap.size w37 w38 := below_step (below_alloc (Below.refl _ _) (.cells #[.string s9] 9)) hbx
  have HB38 := Aside0.mk (below_step HB37.out hst)
  have HM38 := Aside0.mk (HM37.out.below hst)
  clear hst hbx HB37 HM37
  go_wp2_with fail
  refine (fails_k (S := (List.replicate 200 [])) (l := []) HM38.out.2 (by first | decide | simp) (by rw [List.map_replicate]; rfl) rfl K33k.k27).mono ?_
  rintro e w39 ⟨rfl, hbx⟩
  have hst : Below w38.heap.size w38 w39 := hbx
  have HB39 := Aside0.mk (below_step HB38.out hst)
  have HM39 := Aside0.mk (HM38.out.below hst)
  clear hst hbx HB38 HM38
  go_wp2_with fail
  refine (num_new w39 [20, -20] 2 _ rfl (by decide) (by decide)).mono ?_
  rintro e w40 ⟨⟨s10, rfl, hs10⟩, hbx⟩
  have hst : Below w39.heap.size w39 w40 := hbx
  have HB40 := Aside0.mk (below_step HB39.out hst)
  clear hst hbx HB39
  have z10 : s10.size = 2 := by rw [← bytesOf_len, hs10]; decide
  have HS10 := Aside0.mk hs10
  clear hs10
  go_wp2_with fail
  refine (draws_k (S := []) (l := [139, 139, 13] ++ ([20, -20].flatMap numB) ++ [1, 14]) (g := (0, 0, [], [(false, 0, 20)])) (strs_nil _) (by first | decide | simp) rfl (by rw [bytesOf_append, bytesOf_append, HS10.out]; rfl) K33k.k28 ⟨_, _, rfl, rd_nil _, rd_new w40 (List.flatMap stm [(false, 0, 20)]) 69 1 1 _ rfl⟩ (by decide) (by decide)).mono ?_
  rintro e w41 ⟨rfl, hbx⟩
  have hst : Below w40.heap.size w40 w41 := below_step (below_alloc (Below.refl _ _) (.cells (List.flatMap stm [(false, 0, 20)]).toArray 69)) hbx
  have HB41 := Aside0.mk (below_step HB40.out hst)
  clear hst hbx HB40
  go_wp2_with fail
  refine (num_new w41 [5, 0] 2 _ rfl (by decide) (by decide)).mono ?_
  rintro e w42 ⟨⟨s11, rfl, hs11⟩, hbx⟩
  have hst : Below w41.heap.size w41 w42 := hbx
  have HB42 := Aside0.mk (below_step HB41.out hst)
  clear hst hbx HB41
  have z11 : s11.size = 2 := by rw [← bytesOf_len, hs11]; decide
  have HS11 := Aside0.mk hs11
  clear hs11
  go_wp2_with fail
  refine (num_new w42 [1, 2, 3, 4, 5, 6] 6 _ rfl (by decide) (by decide)).mono ?_
  rintro e w43 ⟨⟨s12, rfl, hs12⟩, hbx⟩
  have hst : Below w42.heap.size w42 w43 := hbx
  have HB43 := Aside0.mk (below_step HB42.out hst)
  clear hst hbx HB42
  have z12 : s12.size = 6 := by rw [← bytesOf_len, hs12]; decide
  have HS12 := Aside0.mk hs12
  clear hs12
  go_wp2_with fail
  refine (draws_k (S := []) (l := ([5, 0].flatMap numB) ++ [13] ++ ([1, 2, 3, 4, 5, 6].flatMap numB) ++ [12, 1, 14]) (g := (5, 0, [], [(true, 6, 2), (true, 8, 4), (true, 10, 6)])) (strs_nil _) (by first | decide | simp) rfl (by rw [bytesOf_append, bytesOf_append, bytesOf_append, HS11.out, HS12.out]; rfl) K33k.k29 ⟨_, _, rfl, rd_nil _, rd_new w43 (List.flatMap stm [(true, 6, 2), (true, 8, 4), (true, 10, 6)]) 69 3 3 _ rfl⟩ (by decide) (by decide)).mono ?_
  rintro e w44 ⟨rfl, hbx⟩
  have hst : Below w43.heap.size w43 w44 := below_step (below_alloc (Below.refl _ _) (.cells (List.flatMap stm [(true, 6, 2), (true, 8, 4), (true, 10, 6)]).toArray 69)) hbx
  have HB44 := Aside0.mk (below_step HB43.out hst)
  clear hst hbx HB43
  go_wp2_with fail
  refine (num_new w44 [0, 1, 3] 3 _ rfl (by decide) (by decide)).mono ?_
  rintro e w45 ⟨⟨s13, rfl, hs13⟩, hbx⟩
  have hst : Below w44.heap.size w44 w45 := hbx
  have HB45 := Aside0.mk (below_step HB44.out hst)
  clear hst hbx HB44
  have z13 : s13.size = 3 := by rw [← bytesOf_len, hs13]; decide
  have HS13 := Aside0.mk hs13
  clear hs13
  go_wp2_with fail
  refine (draws_k (S := [[], [], [], [11]]) (l := [139, 139, 13] ++ ([0, 1, 3].flatMap numB) ++ [12, 16, 12, 17, 10, 14]) (g := g0) (strs_new w45 [⟨#[]⟩, ⟨#[]⟩, ⟨#[]⟩, ⟨#[11]⟩] 4 _ rfl) (by first | decide | simp) rfl (by rw [bytesOf_append, bytesOf_append, HS13.out]; rfl) K33k.k30 (glr0 _) (by decide) (by decide)).mono ?_
  rintro e w46 ⟨rfl, hbx⟩
  have hst : Below w45.heap.size w45 w46 := below_step (below_alloc (Below.refl _ _) (.cells #[.string ⟨#[]⟩, .string ⟨#[]⟩, .string ⟨#[]⟩, .string ⟨#[11]⟩] 9)) hbx
  have HB46 := Aside0.mk (below_step HB45.out hst)
  clear hst hbx HB45
  go_wp2_with fail
  refine (num_new w46 [4, 9, 2, 7] 4 _ rfl (by decide) (by decide)).mono ?_
  rintro e w47 ⟨⟨s14, rfl, hs14⟩, hbx⟩
  have hst : Below w46.heap.size w46 w47 := hbx
  have HB47 := Aside0.mk (below_step HB46.out hst)
  clear hst hbx HB46
  have z14 : s14.size = 4 := by rw [← bytesOf_len, hs14]; decide
  have HS14 := Aside0.mk hs14
  clear hs14
  go_wp2_with fail
  refine (draws_k (S := []) (l := [139, 139, 13] ++ ([4, 9, 2, 7].flatMap numB) ++ [12, 16, 12, 17, 12, 17, 21, 14]) (g := (0, 0, [(1, (9, 4), (0, 0), (0, 0))], [])) (strs_nil _) (by first | decide | simp) rfl (by rw [bytesOf_append, bytesOf_append, HS14.out]; rfl) K33k.k31 ⟨_, _, rfl, rd_new w47 (List.flatMap stp [(1, (9, 4), (0, 0), (0, 0))]) 60 1 1 _ rfl, rd_nil _⟩ (by decide) (by decide)).mono ?_
  rintro e w48 ⟨rfl, hbx⟩
  have hst : Below w47.heap.size w47 w48 := below_step (below_alloc (Below.refl _ _) (.cells (List.flatMap stp [(1, (9, 4), (0, 0), (0, 0))]).toArray 60)) hbx
  have HB48 := Aside0.mk (below_step HB47.out hst)
  clear hst hbx HB47
  go_wp2_with fail
  refine (rep_call ⟨#[12, 0]⟩ 77 (by decide) (by decide) w48).mono ?_
  rintro e w49 ⟨⟨s15, rfl, hs15⟩, hbx⟩
  have hst : Below w48.heap.size w48 w49 := hbx
  have HB49 := Aside0.mk (below_step HB48.out hst)
  clear hst hbx HB48
  have z15 : s15.size = 154 := by rw [← bytesOf_len, hs15]; unfold K33k.repL; rw [List.length_flatten]; decide +kernel
  have HS15 := Aside0.mk hs15
  clear hs15
  go_wp2_with fail
  refine (rep_call ⟨#[139, 10]⟩ 50 (by decide) (by decide) w49).mono ?_
  rintro e w50 ⟨⟨s16, rfl, hs16⟩, hbx⟩
  have hst : Below w49.heap.size w49 w50 := hbx
  have HB50 := Aside0.mk (below_step HB49.out hst)
  clear hst hbx HB49
  have z16 : s16.size = 100 := by rw [← bytesOf_len, hs16]; unfold K33k.repL; rw [List.length_flatten]; decide +kernel
  have HS16 := Aside0.mk hs16
  clear hs16
  go_wp2_with fail
  refine (rep_call ⟨#[12, 0]⟩ 48 (by decide) (by decide) w50).mono ?_
  rintro e w51 ⟨⟨s17, rfl, hs17⟩, hbx⟩
  have hst : Below w50.heap.size w50 w51 := hbx
  have HB51 := Aside0.mk (below_step HB50.out hst)
  clear hst hbx HB50
  have z17 : s17.size = 96 := by rw [← bytesOf_len, hs17]; unfold K33k.repL; rw [List.length_flatten]; decide +kernel
  have HS17 := Aside0.mk hs17
  clear hs17
  go_wp2_with fail
  have hS : List.map bytesOf [s15 ++ ⟨#[11]⟩] = [K33k.repL 77 [12, 0] ++ [11]] := by rw [List.map_cons, bytesOf_append, HS15.out]; rfl
  have hs : bytesOf (⟨#[139, 139, 13]⟩ ++ s16 ++ s17 ++ ⟨#[14]⟩) = [139, 139, 13] ++ K33k.repL 50 [139, 10] ++ K33k.repL 48 [12, 0] ++ [14] := by rw [bytesOf_append, bytesOf_append, bytesOf_append, HS16.out, HS17.out]; rfl
  have hss := strs_new w51 [s15 ++ ⟨#[11]⟩] 1 _ rfl
  refine (draws_k hss (by simp) hS hs K33k.k32 (glr0 _) (by decide) (by decide)).mono ?_
  rintro e w52 ⟨rfl, hbx⟩
  have hst : Below w51.heap.size w51 w52 := below_step (below_alloc (Below.refl _ _) _) hbx
  have HB52 := Aside0.mk (below_step HB51.out hst)
  clear hst hbx HB51
  clear hS hs hss
  go_wp2_with fail
  refine (rep_call ⟨#[139, 10]⟩ 50 (by decide) (by decide) w52).mono ?_
  rintro e w53 ⟨⟨s18, rfl, hs18⟩, hbx⟩
  have hst : Below w52.heap.size w52 w53 := hbx
  have HB53 := Aside0.mk (below_step HB52.out hst)
  clear hst hbx HB52
  have z18 : s18.size = 100 := by rw [← bytesOf_len, hs18]; unfold K33k.repL; rw [List.length_flatten]; decide +kernel
  have HS18 := Aside0.mk hs18
  clear hs18
  go_wp2_with fail
  refine (rep_call ⟨#[12, 0]⟩ 49 (by decide) (by decide) w53).mono ?_
  rintro e w54 ⟨⟨s19, rfl, hs19⟩, hbx⟩
  have hst : Below w53.heap.size w53 w54 := hbx
  have HB54 := Aside0.mk (below_step HB53.out hst)
  clear hst hbx HB53
  have z19 : s19.size = 98 := by rw [← bytesOf_len, hs19]; unfold K33k.repL; rw [List.length_flatten]; decide +kernel
  have HS19 := Aside0.mk hs19
  clear hs19
  go_wp2_with fail
  have hS : List.map bytesOf [s15 ++ ⟨#[11]⟩] = [K33k.repL 77 [12, 0] ++ [11]] := by rw [List.map_cons, bytesOf_append, HS15.out]; rfl
  have hs : bytesOf (⟨#[139, 139, 13]⟩ ++ s18 ++ s19 ++ ⟨#[14]⟩) = [139, 139, 13] ++ K33k.repL 50 [139, 10] ++ K33k.repL 49 [12, 0] ++ [14] := by rw [bytesOf_append, bytesOf_append, bytesOf_append, HS18.out, HS19.out]; rfl
  have hss := strs_new w54 [s15 ++ ⟨#[11]⟩] 1 _ rfl
  refine (fails_k hss (by simp) hS hs K33k.k33).mono ?_
  rintro e w55 ⟨rfl, hbx⟩
  have hst : Below w54.heap.size w54 w55 := below_step (below_alloc (Below.refl _ _) _) hbx
  have HB55 := Aside0.mk (below_step HB54.out hst)
  clear hst hbx HB54
  clear hS hs hss
  go_wp2_with fail
  refine (num_call_out (n := 2147483648) (by decide) w55).mono ?_
  rintro e w56 ⟨rfl, hbx⟩
  have hst : Below w55.heap.size w55 w56 := hbx
  have HB56 := Aside0.mk (below_step HB55.out hst)
  clear hst hbx HB55
  dsimp only
  go_wp2_with fail
  refine (num_call (n := -2147483648) (by decide) w56).mono ?_
  rintro e w57 ⟨rfl, hbx⟩
  have hst : Below w56.heap.size w56 w57 := hbx
  have HB57 := Aside0.mk (below_step HB56.out hst)
  clear hst hbx HB56
  rw [show strOfNums (numB (-2147483648)) = ⟨#[255, 128, 0, 0, 0]⟩ from by decide +kernel]
  dsimp only
  go_wp2_with fail
  refine (works_call w57).mono ?_
  rintro e w58 ⟨rfl, hbx⟩
  have hst : Below w57.heap.size w57 w58 := hbx
  have HB58 := Aside0.mk (below_step HB57.out hst)
  clear hst hbx HB57
  go_wp2_with fail
  go_ret
  exact ⟨rfl, HB58.out⟩
end Go.Proofs.Ytimnohaalccdkaa.V33k
