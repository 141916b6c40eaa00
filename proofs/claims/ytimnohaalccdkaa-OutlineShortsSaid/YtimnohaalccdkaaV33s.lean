/- OutlineShorts walked (chapter 33). -/
import Derived.Test.YtimnohaalccdkaaN33b
import Derived.Test.YtimnohaalccdkaaG33u
import Derived.Test.YtimnohaalccdkaaJ33
namespace Go.Proofs.Ytimnohaalccdkaa.V33s
open Go.Proofs.Ytimnohaalccdkaa Go.Proofs.Ytimnohaalccdkaa.K33 Go.Proofs.Ytimnohaalccdkaa.M33 Go.Proofs.Ytimnohaalccdkaa.L33 Go.Proofs.Ytimnohaalccdkaa.N33 Go.Proofs.Ytimnohaalccdkaa.G33o Go.Proofs.Ytimnohaalccdkaa.G33p Go.Proofs.Ytimnohaalccdkaa.W33 Go.Proofs.Ytimnohaalccdkaa.D33 Go.Proofs.Ytimnohaalccdkaa.E33 Go.Proofs.Ytimnohaalccdkaa.V33 Go.Proofs.Ytimnohaalccdkaa.B33 Go.Proofs.Ytimnohaalccdkaa.N33b Go.Proofs.Ytimnohaalccdkaa.P33a
open Go.Proofs.Ytimnohaalccdkaa.T33 (Tok tok enc)
open Go.RowKit Go.Proofs.YtimnohaalccdkaaW.PrintWords Go.Proofs.YtimnohaalccdkaaW.PrintLast Go.Proofs.YtimnohaalccdkaaW.PrintMore
set_option linter.unusedVariables false
set_option linter.unusedSimpArgs false
set_option maxRecDepth 100000
def A8 (k : IntKind) (a b c d e f g h : Int) : Array Value := #[.int k a, .int k b, .int k c, .int k d, .int k e, .int k f, .int k g, .int k h]
/-- The first j of eight numbers. -/
def upto (j : Nat) (x : Nat → Int) : Array Value := #[.int .i64 (if 0 < j then x 0 else 0), .int .i64 (if 1 < j then x 1 else 0), .int .i64 (if 2 < j then x 2 else 0), .int .i64 (if 3 < j then x 3 else 0), .int .i64 (if 4 < j then x 4 else 0), .int .i64 (if 5 < j then x 5 else 0), .int .i64 (if 6 < j then x 6 else 0), .int .i64 (if 7 < j then x 7 else 0)]

theorem num_new (W : World) (xs : List Int) (c : Nat) (cs : Array Value) (hcs : cs = (nums .i64 xs).toArray) (hx : ∀ x ∈ xs, -2147483648 ≤ x ∧ x ≤ 2147483647) (hl : xs.length ≤ 1000) :
    Calls Try.prog 22 #[.slice (some ⟨W.heap.size, 0, none⟩) xs.length c] (W.alloc (.cells cs 3)) fun e w' => (∃ t, e = .returned (.string t) ∧ bytesOf t = xs.flatMap numB) ∧ Below W.heap.size W w' := by
  subst hcs
  have hi : Ints (W.alloc (.cells (nums .i64 xs).toArray 3)) (some ⟨W.heap.size, 0, none⟩) xs := .inr ⟨_, _, _, rfl, blk_new _ _, fun i x hi => by simp [nums, hi]⟩
  refine (number_call hi hx hl).mono ?_
  rintro e w' ⟨rfl, hb⟩
  exact ⟨⟨_, rfl, bytesOf_strOf _ (flat_oct xs)⟩, below_step (below_alloc (Below.refl _ _) _) hb⟩
theorem draws_k {w : World} {sb gv : Value} {ss : List ByteArray} {S : List (List Int)} {l : List Int} {s : ByteArray} {g : Gl} (h : StrsAt w sb ss) (hl : ss.length ≤ 1000000) (hS : ss.map bytesOf = S) (hs : bytesOf s = l) (hr : runG S l = (g, 0)) (hg : GlR w gv g) (l1 : g.2.2.1.length ≤ 100000) (l2 : g.2.2.2.length ≤ 100000) :
    Calls Try.prog 23 #[.string s, gv, sb] w fun e w' => e = .returned (.bool true) ∧ Below w.heap.size w w' :=
  draws_ok h hl s hg l1 l2 (by rw [hS, hs]; exact hr)
theorem wf_i16 {n : Int} (h : (Lit.int .i16 n).wf = true) : -32768 ≤ n ∧ n ≤ 32767 := by
  simp [Lit.wf, IntKind.min, IntKind.max, IntKind.bits, IntKind.signed] at h
  omega
theorem wf_u8 {n : Int} (h : (Lit.int .u8 n).wf = true) : 0 ≤ n ∧ n ≤ 255 := by
  simp [Lit.wf, IntKind.min, IntKind.max, IntKind.bits, IntKind.signed] at h
  omega
theorem rem_bd (x : Int) (d : Int) (hd : 0 < d) : -d < Int.tmod x d ∧ Int.tmod x d < d := ⟨Int.lt_tmod_of_pos x hd, Int.tmod_lt_of_pos x hd⟩
set_option maxHeartbeats 1000000 in
theorem part_call (n qq : Int) (hn : -500 < n ∧ n < 500) (hq : 0 < qq ∧ qq ≤ 256) (gq : Nat) (W : World) (hc : W.cell? ⟨gq, 0, none⟩ = some (.int .i64 qq)) :
    Calls Try.prog 21 #[.int .i64 n, .pointer (some ⟨gq, 0, none⟩)] W fun e w' => (∃ t, e = .returned (.string t) ∧ bytesOf t = [n * qq, qq].flatMap numB ++ [12, 12] ∧ t.size ≤ 12) ∧ Below W.heap.size W w' := by
  have hb := T33.mul_bd hn hq
  have hw : wrap64 (n * qq) = n * qq := wid (by omega) (by omega)
  have HB := Aside0.mk (And.intro hb hq)
  clear hb hn hq
  go_enter Try.func21, Try.ntmps21
  go_wp2_with fail
  refine (num_new W [n * qq, qq] 2 _ rfl (by have := HB.out; intro x hx; simp only [List.mem_cons, List.not_mem_nil, or_false] at hx; omega) (by simp)).mono ?_
  rintro e w1 ⟨⟨s1, rfl, hs1⟩, hb1⟩
  have z1 : s1.size ≤ 10 := by rw [← bytesOf_len, hs1]; exact flat_len [n * qq, qq]
  have hm : s1.size + 2 ≤ 9223372036854775807 := by omega
  have HS := Aside0.mk (And.intro hs1 z1)
  have HB1 := Aside0.mk hb1
  clear hs1 hb1 z1
  go_wp2_with fail
  go_ret
  refine ⟨⟨_, rfl, ?_, ?_⟩, HB1.out⟩
  · show bytesOf (s1 ++ ⟨#[12, 12]⟩) = _
    rw [bytesOf_append, HS.out.1]; rfl
  · show (s1 ++ ⟨#[12, 12]⟩ : ByteArray).size ≤ 12
    rw [ByteArray.size_append]; have := HS.out.2; show s1.size + 2 ≤ 12; omega
theorem ix0 (l0 l1 l2 l3 l4 l5 l6 l7 : Int) (w : World) : (Instr.index 48 (.agg #[.int .i16 l0, .int .i16 l1, .int .i16 l2, .int .i16 l3, .int .i16 l4, .int .i16 l5, .int .i16 l6, .int .i16 l7]) (.int .i64 0)).run Try.prog w = .ok (.int .i16 l0) w := by kernel_rfl
theorem ix1 (l0 l1 l2 l3 l4 l5 l6 l7 : Int) (w : World) : (Instr.index 48 (.agg #[.int .i16 l0, .int .i16 l1, .int .i16 l2, .int .i16 l3, .int .i16 l4, .int .i16 l5, .int .i16 l6, .int .i16 l7]) (.int .i64 1)).run Try.prog w = .ok (.int .i16 l1) w := by kernel_rfl
theorem ix2 (l0 l1 l2 l3 l4 l5 l6 l7 : Int) (w : World) : (Instr.index 48 (.agg #[.int .i16 l0, .int .i16 l1, .int .i16 l2, .int .i16 l3, .int .i16 l4, .int .i16 l5, .int .i16 l6, .int .i16 l7]) (.int .i64 2)).run Try.prog w = .ok (.int .i16 l2) w := by kernel_rfl
theorem ix3 (l0 l1 l2 l3 l4 l5 l6 l7 : Int) (w : World) : (Instr.index 48 (.agg #[.int .i16 l0, .int .i16 l1, .int .i16 l2, .int .i16 l3, .int .i16 l4, .int .i16 l5, .int .i16 l6, .int .i16 l7]) (.int .i64 3)).run Try.prog w = .ok (.int .i16 l3) w := by kernel_rfl
theorem ix4 (l0 l1 l2 l3 l4 l5 l6 l7 : Int) (w : World) : (Instr.index 48 (.agg #[.int .i16 l0, .int .i16 l1, .int .i16 l2, .int .i16 l3, .int .i16 l4, .int .i16 l5, .int .i16 l6, .int .i16 l7]) (.int .i64 4)).run Try.prog w = .ok (.int .i16 l4) w := by kernel_rfl
theorem ix5 (l0 l1 l2 l3 l4 l5 l6 l7 : Int) (w : World) : (Instr.index 48 (.agg #[.int .i16 l0, .int .i16 l1, .int .i16 l2, .int .i16 l3, .int .i16 l4, .int .i16 l5, .int .i16 l6, .int .i16 l7]) (.int .i64 5)).run Try.prog w = .ok (.int .i16 l5) w := by kernel_rfl
theorem ix6 (l0 l1 l2 l3 l4 l5 l6 l7 : Int) (w : World) : (Instr.index 48 (.agg #[.int .i16 l0, .int .i16 l1, .int .i16 l2, .int .i16 l3, .int .i16 l4, .int .i16 l5, .int .i16 l6, .int .i16 l7]) (.int .i64 6)).run Try.prog w = .ok (.int .i16 l6) w := by kernel_rfl
theorem ix7 (l0 l1 l2 l3 l4 l5 l6 l7 : Int) (w : World) : (Instr.index 48 (.agg #[.int .i16 l0, .int .i16 l1, .int .i16 l2, .int .i16 l3, .int .i16 l4, .int .i16 l5, .int .i16 l6, .int .i16 l7]) (.int .i64 7)).run Try.prog w = .ok (.int .i16 l7) w := by kernel_rfl

theorem enc_cat {A B C : List Tok} (h : A ++ B = C) : T33.encs A ++ T33.encs B = T33.encs C := by rw [← h]; exact List.flatMap_append.symm
theorem run_k {w : World} {sb : Value} {ss : List ByteArray} {S : List (List Int)} {l : List Int} {s : ByteArray} {r : Gl × Int} (h : StrsAt w sb ss) (hl : ss.length ≤ 1000000) (hS : ss.map bytesOf = S) (hs : bytesOf s = l) (hr : runG S l = r) : Calls Try.prog 18 #[sb, .string s] w (RanTo w r) := by
  rw [← hr, ← hS, ← hs]
  exact run_prog h hl s
theorem glv_below {B : Nat} {w w' : World} {v : Value} {g : Gl} (h : GlV B w v g) (hb : Below w.heap.size w w') : GlV B w' v g := by
  obtain ⟨vs, vt, e, h1, h2⟩ := h
  exact ⟨vs, vt, e, pw_own_below h1 hb, pw_own_below h2 hb⟩
theorem ints_new (W : World) (xs : List Int) (cs : Array Value) (hcs : cs = (nums .i64 xs).toArray) : Ints (W.alloc (.cells cs 3)) (some ⟨W.heap.size, 0, none⟩) xs := by
  subst hcs
  exact .inr ⟨_, _, _, rfl, blk_new _ _, fun i x hi => by simp [nums, hi]⟩
def depA : Nat → List Nat := fun k => [[], [], [], [2], [1, 3], [0, 4], [5], [], [7], [8], [9], [6, 10], [11], [], [13], [14], [15], [12, 16], [17], [], [], [20], [19, 21], [18, 22], [23], [], [25], [], [27], [], [29], [], [31], [26, 28, 30, 32], [33], [24, 34], [35], [], [37], [], [39], [], [41], [], [43], [38, 40, 42, 44], [45], [36, 46], [47], [48]].getD k []
def VA (sF : ByteArray) (g gq : Nat) (qq n0 n1 n2 n3 n4 n5 n6 n7 : Int) : Nat → Value → World → Prop := fun k => [
  fun (v : Value) (w : World) => ∃ t : ByteArray, v = Value.string t ∧ Aside0 (bytesOf t = T33.encs [.num n0, .num n1, .op 13]) ∧ t.size ≤ 11,
  fun (v : Value) (w : World) => v = Value.func (.func 21) #[] #[.pointer (some ⟨gq, 0, none⟩)],
  fun (v : Value) (w : World) => v = Value.pointer (some ⟨g, 2, none⟩),
  fun (v : Value) (w : World) => v = Value.int .i64 n2,
  fun (v : Value) (w : World) => ∃ t : ByteArray, v = Value.string t ∧ Aside0 (bytesOf t = T33.encs [.num (n2 * qq), .num qq, .op 268]) ∧ t.size ≤ 12,
  fun (v : Value) (w : World) => ∃ t : ByteArray, v = Value.string t ∧ Aside0 (bytesOf t = T33.encs [.num n0, .num n1, .op 13, .num (n2 * qq), .num qq, .op 268]) ∧ t.size ≤ 23,
  fun (v : Value) (w : World) => ∃ t : ByteArray, v = Value.string t ∧ Aside0 (bytesOf t = T33.encs [.num n0, .num n1, .op 13, .num (n2 * qq), .num qq, .op 268, .op 22]) ∧ t.size ≤ 24,
  fun (v : Value) (w : World) => v = Value.pointer (some ⟨g, 3, none⟩),
  fun (v : Value) (w : World) => v = Value.int .i64 n3,
  fun (v : Value) (w : World) => ∃ gx : Nat, v = Value.slice (some ⟨gx, 0, none⟩) 1 1 ∧ Aside0 (Ints w (some ⟨gx, 0, none⟩) [n3]),
  fun (v : Value) (w : World) => ∃ t : ByteArray, v = Value.string t ∧ Aside0 (bytesOf t = T33.encs [.num n3]) ∧ t.size ≤ 5,
  fun (v : Value) (w : World) => ∃ t : ByteArray, v = Value.string t ∧ Aside0 (bytesOf t = T33.encs [.num n0, .num n1, .op 13, .num (n2 * qq), .num qq, .op 268, .op 22, .num n3]) ∧ t.size ≤ 29,
  fun (v : Value) (w : World) => ∃ t : ByteArray, v = Value.string t ∧ Aside0 (bytesOf t = T33.encs [.num n0, .num n1, .op 13, .num (n2 * qq), .num qq, .op 268, .op 22, .num n3, .op 4]) ∧ t.size ≤ 30,
  fun (v : Value) (w : World) => v = Value.pointer (some ⟨g, 4, none⟩),
  fun (v : Value) (w : World) => v = Value.int .i64 n4,
  fun (v : Value) (w : World) => ∃ gx : Nat, v = Value.slice (some ⟨gx, 0, none⟩) 1 1 ∧ Aside0 (Ints w (some ⟨gx, 0, none⟩) [n4]),
  fun (v : Value) (w : World) => ∃ t : ByteArray, v = Value.string t ∧ Aside0 (bytesOf t = T33.encs [.num n4]) ∧ t.size ≤ 5,
  fun (v : Value) (w : World) => ∃ t : ByteArray, v = Value.string t ∧ Aside0 (bytesOf t = T33.encs [.num n0, .num n1, .op 13, .num (n2 * qq), .num qq, .op 268, .op 22, .num n3, .op 4, .num n4]) ∧ t.size ≤ 35,
  fun (v : Value) (w : World) => ∃ t : ByteArray, v = Value.string t ∧ Aside0 (bytesOf t = T33.encs [.num n0, .num n1, .op 13, .num (n2 * qq), .num qq, .op 268, .op 22, .num n3, .op 4, .num n4, .op 6]) ∧ t.size ≤ 36,
  fun (v : Value) (w : World) => v = Value.func (.func 21) #[] #[.pointer (some ⟨gq, 0, none⟩)],
  fun (v : Value) (w : World) => v = Value.pointer (some ⟨g, 5, none⟩),
  fun (v : Value) (w : World) => v = Value.int .i64 n5,
  fun (v : Value) (w : World) => ∃ t : ByteArray, v = Value.string t ∧ Aside0 (bytesOf t = T33.encs [.num (n5 * qq), .num qq, .op 268]) ∧ t.size ≤ 12,
  fun (v : Value) (w : World) => ∃ t : ByteArray, v = Value.string t ∧ Aside0 (bytesOf t = T33.encs [.num n0, .num n1, .op 13, .num (n2 * qq), .num qq, .op 268, .op 22, .num n3, .op 4, .num n4, .op 6, .num (n5 * qq), .num qq, .op 268]) ∧ t.size ≤ 48,
  fun (v : Value) (w : World) => ∃ t : ByteArray, v = Value.string t ∧ Aside0 (bytesOf t = T33.encs [.num n0, .num n1, .op 13, .num (n2 * qq), .num qq, .op 268, .op 22, .num n3, .op 4, .num n4, .op 6, .num (n5 * qq), .num qq, .op 268, .op 7]) ∧ t.size ≤ 49,
  fun (v : Value) (w : World) => v = Value.pointer (some ⟨g, 2, none⟩),
  fun (v : Value) (w : World) => v = Value.int .i64 n2,
  fun (v : Value) (w : World) => v = Value.pointer (some ⟨g, 3, none⟩),
  fun (v : Value) (w : World) => v = Value.int .i64 n3,
  fun (v : Value) (w : World) => v = Value.pointer (some ⟨g, 4, none⟩),
  fun (v : Value) (w : World) => v = Value.int .i64 n4,
  fun (v : Value) (w : World) => v = Value.pointer (some ⟨g, 5, none⟩),
  fun (v : Value) (w : World) => v = Value.int .i64 n5,
  fun (v : Value) (w : World) => ∃ gx : Nat, v = Value.slice (some ⟨gx, 0, none⟩) 4 4 ∧ Aside0 (Ints w (some ⟨gx, 0, none⟩) [n2, n3, n4, n5]),
  fun (v : Value) (w : World) => ∃ t : ByteArray, v = Value.string t ∧ Aside0 (bytesOf t = T33.encs [.num n2, .num n3, .num n4, .num n5]) ∧ t.size ≤ 20,
  fun (v : Value) (w : World) => ∃ t : ByteArray, v = Value.string t ∧ Aside0 (bytesOf t = T33.encs [.num n0, .num n1, .op 13, .num (n2 * qq), .num qq, .op 268, .op 22, .num n3, .op 4, .num n4, .op 6, .num (n5 * qq), .num qq, .op 268, .op 7, .num n2, .num n3, .num n4, .num n5]) ∧ t.size ≤ 69,
  fun (v : Value) (w : World) => ∃ t : ByteArray, v = Value.string t ∧ Aside0 (bytesOf t = T33.encs [.num n0, .num n1, .op 13, .num (n2 * qq), .num qq, .op 268, .op 22, .num n3, .op 4, .num n4, .op 6, .num (n5 * qq), .num qq, .op 268, .op 7, .num n2, .num n3, .num n4, .num n5, .op 30]) ∧ t.size ≤ 70,
  fun (v : Value) (w : World) => v = Value.pointer (some ⟨g, 6, none⟩),
  fun (v : Value) (w : World) => v = Value.int .i64 n6,
  fun (v : Value) (w : World) => v = Value.pointer (some ⟨g, 7, none⟩),
  fun (v : Value) (w : World) => v = Value.int .i64 n7,
  fun (v : Value) (w : World) => v = Value.pointer (some ⟨g, 0, none⟩),
  fun (v : Value) (w : World) => v = Value.int .i64 n0,
  fun (v : Value) (w : World) => v = Value.pointer (some ⟨g, 1, none⟩),
  fun (v : Value) (w : World) => v = Value.int .i64 n1,
  fun (v : Value) (w : World) => ∃ gx : Nat, v = Value.slice (some ⟨gx, 0, none⟩) 4 4 ∧ Aside0 (Ints w (some ⟨gx, 0, none⟩) [n6, n7, n0, n1]),
  fun (v : Value) (w : World) => ∃ t : ByteArray, v = Value.string t ∧ Aside0 (bytesOf t = T33.encs [.num n6, .num n7, .num n0, .num n1]) ∧ t.size ≤ 20,
  fun (v : Value) (w : World) => ∃ t : ByteArray, v = Value.string t ∧ Aside0 (bytesOf t = T33.encs [.num n0, .num n1, .op 13, .num (n2 * qq), .num qq, .op 268, .op 22, .num n3, .op 4, .num n4, .op 6, .num (n5 * qq), .num qq, .op 268, .op 7, .num n2, .num n3, .num n4, .num n5, .op 30, .num n6, .num n7, .num n0, .num n1]) ∧ t.size ≤ 90,
  fun (v : Value) (w : World) => ∃ t : ByteArray, v = Value.string t ∧ Aside0 (bytesOf t = T33.encs [.num n0, .num n1, .op 13, .num (n2 * qq), .num qq, .op 268, .op 22, .num n3, .op 4, .num n4, .op 6, .num (n5 * qq), .num qq, .op 268, .op 7, .num n2, .num n3, .num n4, .num n5, .op 30, .num n6, .num n7, .num n0, .num n1, .op 31, .op 256, .op 9, .op 14]) ∧ t.size ≤ 95,
  fun (v : Value) (w : World) => ∃ t : ByteArray, v = Value.string t ∧ Aside0 (bytesOf t = T33.encs [.num n0, .num n1, .op 13, .num (n2 * qq), .num qq, .op 268, .op 22, .num n3, .op 4, .num n4, .op 6, .num (n5 * qq), .num qq, .op 268, .op 7, .num n2, .num n3, .num n4, .num n5, .op 30, .num n6, .num n7, .num n0, .num n1, .op 31, .op 256, .op 9, .op 14]) ∧ t.size ≤ 95].getD k (fun _ _ => True)
def depB : Nat → List Nat := fun k => [[], [], [1], [2], [3], [0, 4], [5], [], [7], [8], [9], [6, 10], [11], [], [13], [14], [15], [12, 16], [17], [], [19], [20], [21], [18, 22], [23], [], [25], [], [27], [], [29], [], [31], [26, 28, 30, 32], [33], [24, 34], [35], [], [37], [], [39], [], [41], [], [43], [38, 40, 42, 44], [45], [36, 46], [47], [48]].getD k []
def VB (sF : ByteArray) (g gq : Nat) (qq n0 n1 n2 n3 n4 n5 n6 n7 : Int) : Nat → Value → World → Prop := fun k => [
  fun (v : Value) (w : World) => ∃ t : ByteArray, v = Value.string t ∧ Aside0 (bytesOf t = T33.encs [.num n0, .num n1, .op 13]) ∧ t.size ≤ 11,
  fun (v : Value) (w : World) => v = Value.pointer (some ⟨g, 2, none⟩),
  fun (v : Value) (w : World) => v = Value.int .i64 n2,
  fun (v : Value) (w : World) => ∃ gx : Nat, v = Value.slice (some ⟨gx, 0, none⟩) 2 2 ∧ Aside0 (Ints w (some ⟨gx, 0, none⟩) [n2, 0]),
  fun (v : Value) (w : World) => ∃ t : ByteArray, v = Value.string t ∧ Aside0 (bytesOf t = T33.encs [.num n2, .num 0]) ∧ t.size ≤ 10,
  fun (v : Value) (w : World) => ∃ t : ByteArray, v = Value.string t ∧ Aside0 (bytesOf t = T33.encs [.num n0, .num n1, .op 13, .num n2, .num 0]) ∧ t.size ≤ 21,
  fun (v : Value) (w : World) => ∃ t : ByteArray, v = Value.string t ∧ Aside0 (bytesOf t = T33.encs [.num n0, .num n1, .op 13, .num n2, .num 0, .op 21]) ∧ t.size ≤ 22,
  fun (v : Value) (w : World) => v = Value.pointer (some ⟨g, 3, none⟩),
  fun (v : Value) (w : World) => v = Value.int .i64 n3,
  fun (v : Value) (w : World) => ∃ gx : Nat, v = Value.slice (some ⟨gx, 0, none⟩) 2 2 ∧ Aside0 (Ints w (some ⟨gx, 0, none⟩) [0, n3]),
  fun (v : Value) (w : World) => ∃ t : ByteArray, v = Value.string t ∧ Aside0 (bytesOf t = T33.encs [.num 0, .num n3]) ∧ t.size ≤ 10,
  fun (v : Value) (w : World) => ∃ t : ByteArray, v = Value.string t ∧ Aside0 (bytesOf t = T33.encs [.num n0, .num n1, .op 13, .num n2, .num 0, .op 21, .num 0, .num n3]) ∧ t.size ≤ 32,
  fun (v : Value) (w : World) => ∃ t : ByteArray, v = Value.string t ∧ Aside0 (bytesOf t = T33.encs [.num n0, .num n1, .op 13, .num n2, .num 0, .op 21, .num 0, .num n3, .op 21]) ∧ t.size ≤ 33,
  fun (v : Value) (w : World) => v = Value.pointer (some ⟨g, 4, none⟩),
  fun (v : Value) (w : World) => v = Value.int .i64 n4,
  fun (v : Value) (w : World) => ∃ gx : Nat, v = Value.slice (some ⟨gx, 0, none⟩) 2 2 ∧ Aside0 (Ints w (some ⟨gx, 0, none⟩) [n4, 0]),
  fun (v : Value) (w : World) => ∃ t : ByteArray, v = Value.string t ∧ Aside0 (bytesOf t = T33.encs [.num n4, .num 0]) ∧ t.size ≤ 10,
  fun (v : Value) (w : World) => ∃ t : ByteArray, v = Value.string t ∧ Aside0 (bytesOf t = T33.encs [.num n0, .num n1, .op 13, .num n2, .num 0, .op 21, .num 0, .num n3, .op 21, .num n4, .num 0]) ∧ t.size ≤ 43,
  fun (v : Value) (w : World) => ∃ t : ByteArray, v = Value.string t ∧ Aside0 (bytesOf t = T33.encs [.num n0, .num n1, .op 13, .num n2, .num 0, .op 21, .num 0, .num n3, .op 21, .num n4, .num 0, .op 5]) ∧ t.size ≤ 44,
  fun (v : Value) (w : World) => v = Value.pointer (some ⟨g, 5, none⟩),
  fun (v : Value) (w : World) => v = Value.int .i64 n5,
  fun (v : Value) (w : World) => ∃ gx : Nat, v = Value.slice (some ⟨gx, 0, none⟩) 2 2 ∧ Aside0 (Ints w (some ⟨gx, 0, none⟩) [0, n5]),
  fun (v : Value) (w : World) => ∃ t : ByteArray, v = Value.string t ∧ Aside0 (bytesOf t = T33.encs [.num 0, .num n5]) ∧ t.size ≤ 10,
  fun (v : Value) (w : World) => ∃ t : ByteArray, v = Value.string t ∧ Aside0 (bytesOf t = T33.encs [.num n0, .num n1, .op 13, .num n2, .num 0, .op 21, .num 0, .num n3, .op 21, .num n4, .num 0, .op 5, .num 0, .num n5]) ∧ t.size ≤ 54,
  fun (v : Value) (w : World) => ∃ t : ByteArray, v = Value.string t ∧ Aside0 (bytesOf t = T33.encs [.num n0, .num n1, .op 13, .num n2, .num 0, .op 21, .num 0, .num n3, .op 21, .num n4, .num 0, .op 5, .num 0, .num n5, .op 5]) ∧ t.size ≤ 55,
  fun (v : Value) (w : World) => v = Value.pointer (some ⟨g, 2, none⟩),
  fun (v : Value) (w : World) => v = Value.int .i64 n2,
  fun (v : Value) (w : World) => v = Value.pointer (some ⟨g, 3, none⟩),
  fun (v : Value) (w : World) => v = Value.int .i64 n3,
  fun (v : Value) (w : World) => v = Value.pointer (some ⟨g, 4, none⟩),
  fun (v : Value) (w : World) => v = Value.int .i64 n4,
  fun (v : Value) (w : World) => v = Value.pointer (some ⟨g, 5, none⟩),
  fun (v : Value) (w : World) => v = Value.int .i64 n5,
  fun (v : Value) (w : World) => ∃ gx : Nat, v = Value.slice (some ⟨gx, 0, none⟩) 6 6 ∧ Aside0 (Ints w (some ⟨gx, 0, none⟩) [0, n2, n3, n4, n5, 0]),
  fun (v : Value) (w : World) => ∃ t : ByteArray, v = Value.string t ∧ Aside0 (bytesOf t = T33.encs [.num 0, .num n2, .num n3, .num n4, .num n5, .num 0]) ∧ t.size ≤ 30,
  fun (v : Value) (w : World) => ∃ t : ByteArray, v = Value.string t ∧ Aside0 (bytesOf t = T33.encs [.num n0, .num n1, .op 13, .num n2, .num 0, .op 21, .num 0, .num n3, .op 21, .num n4, .num 0, .op 5, .num 0, .num n5, .op 5, .num 0, .num n2, .num n3, .num n4, .num n5, .num 0]) ∧ t.size ≤ 85,
  fun (v : Value) (w : World) => ∃ t : ByteArray, v = Value.string t ∧ Aside0 (bytesOf t = T33.encs [.num n0, .num n1, .op 13, .num n2, .num 0, .op 21, .num 0, .num n3, .op 21, .num n4, .num 0, .op 5, .num 0, .num n5, .op 5, .num 0, .num n2, .num n3, .num n4, .num n5, .num 0, .op 8]) ∧ t.size ≤ 86,
  fun (v : Value) (w : World) => v = Value.pointer (some ⟨g, 6, none⟩),
  fun (v : Value) (w : World) => v = Value.int .i64 n6,
  fun (v : Value) (w : World) => v = Value.pointer (some ⟨g, 7, none⟩),
  fun (v : Value) (w : World) => v = Value.int .i64 n7,
  fun (v : Value) (w : World) => v = Value.pointer (some ⟨g, 0, none⟩),
  fun (v : Value) (w : World) => v = Value.int .i64 n0,
  fun (v : Value) (w : World) => v = Value.pointer (some ⟨g, 1, none⟩),
  fun (v : Value) (w : World) => v = Value.int .i64 n1,
  fun (v : Value) (w : World) => ∃ gx : Nat, v = Value.slice (some ⟨gx, 0, none⟩) 6 6 ∧ Aside0 (Ints w (some ⟨gx, 0, none⟩) [n6, 0, n7, n0, 0, n1]),
  fun (v : Value) (w : World) => ∃ t : ByteArray, v = Value.string t ∧ Aside0 (bytesOf t = T33.encs [.num n6, .num 0, .num n7, .num n0, .num 0, .num n1]) ∧ t.size ≤ 30,
  fun (v : Value) (w : World) => ∃ t : ByteArray, v = Value.string t ∧ Aside0 (bytesOf t = T33.encs [.num n0, .num n1, .op 13, .num n2, .num 0, .op 21, .num 0, .num n3, .op 21, .num n4, .num 0, .op 5, .num 0, .num n5, .op 5, .num 0, .num n2, .num n3, .num n4, .num n5, .num 0, .op 8, .num n6, .num 0, .num n7, .num n0, .num 0, .num n1]) ∧ t.size ≤ 116,
  fun (v : Value) (w : World) => ∃ t : ByteArray, v = Value.string t ∧ Aside0 (bytesOf t = T33.encs [.num n0, .num n1, .op 13, .num n2, .num 0, .op 21, .num 0, .num n3, .op 21, .num n4, .num 0, .op 5, .num 0, .num n5, .op 5, .num 0, .num n2, .num n3, .num n4, .num n5, .num 0, .op 8, .num n6, .num 0, .num n7, .num n0, .num 0, .num n1, .op 8, .op 9, .op 14]) ∧ t.size ≤ 119,
  fun (v : Value) (w : World) => ∃ t : ByteArray, v = Value.string t ∧ Aside0 (bytesOf t = T33.encs [.num n0, .num n1, .op 13, .num n2, .num 0, .op 21, .num 0, .num n3, .op 21, .num n4, .num 0, .op 5, .num 0, .num n5, .op 5, .num 0, .num n2, .num n3, .num n4, .num n5, .num 0, .op 8, .num n6, .num 0, .num n7, .num n0, .num 0, .num n1, .op 8, .op 9, .op 14]) ∧ t.size ≤ 119].getD k (fun _ _ => True)
set_option maxHeartbeats 8000000 in
theorem shorts_walk (l0 l1 l2 l3 l4 l5 l6 l7 q : Int) (h0 : (Lit.int .i16 l0).wf = true) (h1 : (Lit.int .i16 l1).wf = true) (h2 : (Lit.int .i16 l2).wf = true) (h3 : (Lit.int .i16 l3).wf = true) (h4 : (Lit.int .i16 l4).wf = true) (h5 : (Lit.int .i16 l5).wf = true) (h6 : (Lit.int .i16 l6).wf = true) (h7 : (Lit.int .i16 l7).wf = true) (hq : (Lit.int .u8 q).wf = true) (w : World) : Calls Try.prog 5 #[.agg #[.int .i16 l0, .int .i16 l1, .int .i16 l2, .int .i16 l3, .int .i16 l4, .int .i16 l5, .int .i16 l6, .int .i16 l7], .int .u8 q] w fun e w' => e = .returned (.bool true) ∧ Below w.heap.size w w' := by
  obtain ⟨n0, en0, hn0⟩ : ∃ n, wrap64 (Int.tmod l0 500) = n ∧ -500 < n ∧ n < 500 := ⟨_, rfl, by have := rem_bd l0 500 (by omega); rw [wid (by omega) (by omega)]; exact this⟩
  have N0 := Aside0.mk hn0
  obtain ⟨n1, en1, hn1⟩ : ∃ n, wrap64 (Int.tmod l1 500) = n ∧ -500 < n ∧ n < 500 := ⟨_, rfl, by have := rem_bd l1 500 (by omega); rw [wid (by omega) (by omega)]; exact this⟩
  have N1 := Aside0.mk hn1
  obtain ⟨n2, en2, hn2⟩ : ∃ n, wrap64 (Int.tmod l2 500) = n ∧ -500 < n ∧ n < 500 := ⟨_, rfl, by have := rem_bd l2 500 (by omega); rw [wid (by omega) (by omega)]; exact this⟩
  have N2 := Aside0.mk hn2
  obtain ⟨n3, en3, hn3⟩ : ∃ n, wrap64 (Int.tmod l3 500) = n ∧ -500 < n ∧ n < 500 := ⟨_, rfl, by have := rem_bd l3 500 (by omega); rw [wid (by omega) (by omega)]; exact this⟩
  have N3 := Aside0.mk hn3
  obtain ⟨n4, en4, hn4⟩ : ∃ n, wrap64 (Int.tmod l4 500) = n ∧ -500 < n ∧ n < 500 := ⟨_, rfl, by have := rem_bd l4 500 (by omega); rw [wid (by omega) (by omega)]; exact this⟩
  have N4 := Aside0.mk hn4
  obtain ⟨n5, en5, hn5⟩ : ∃ n, wrap64 (Int.tmod l5 500) = n ∧ -500 < n ∧ n < 500 := ⟨_, rfl, by have := rem_bd l5 500 (by omega); rw [wid (by omega) (by omega)]; exact this⟩
  have N5 := Aside0.mk hn5
  obtain ⟨n6, en6, hn6⟩ : ∃ n, wrap64 (Int.tmod l6 500) = n ∧ -500 < n ∧ n < 500 := ⟨_, rfl, by have := rem_bd l6 500 (by omega); rw [wid (by omega) (by omega)]; exact this⟩
  have N6 := Aside0.mk hn6
  obtain ⟨n7, en7, hn7⟩ : ∃ n, wrap64 (Int.tmod l7 500) = n ∧ -500 < n ∧ n < 500 := ⟨_, rfl, by have := rem_bd l7 500 (by omega); rw [wid (by omega) (by omega)]; exact this⟩
  have N7 := Aside0.mk hn7
  have HQ := Aside0.mk (wf_u8 hq)
  clear hq h0 hn0 h1 hn1 h2 hn2 h3 hn3 h4 hn4 h5 hn5 h6 hn6 h7 hn7
  have hix0 := ix0 l0 l1 l2 l3 l4 l5 l6 l7
  have hix1 := ix1 l0 l1 l2 l3 l4 l5 l6 l7
  have hix2 := ix2 l0 l1 l2 l3 l4 l5 l6 l7
  have hix3 := ix3 l0 l1 l2 l3 l4 l5 l6 l7
  have hix4 := ix4 l0 l1 l2 l3 l4 l5 l6 l7
  have hix5 := ix5 l0 l1 l2 l3 l4 l5 l6 l7
  have hix6 := ix6 l0 l1 l2 l3 l4 l5 l6 l7
  have hix7 := ix7 l0 l1 l2 l3 l4 l5 l6 l7
  go_enter Try.func5, Try.ntmps5
  go_wp2_with fail
  have hb0 := below_alloc (Below.refl w.heap.size w) (.cells #[.int .i16 l0, .int .i16 l1, .int .i16 l2, .int .i16 l3, .int .i16 l4, .int .i16 l5, .int .i16 l6, .int .i16 l7] 48)
  have hk0 := blk_new w (.cells #[.int .i16 l0, .int .i16 l1, .int .i16 l2, .int .i16 l3, .int .i16 l4, .int .i16 l5, .int .i16 l6, .int .i16 l7] 48)
  refine (works_call _).mono ?_
  rintro e w1 ⟨rfl, hb1⟩
  have HB1 := Aside0.mk (below_step hb0 hb1)
  have hk1 := blk_below hk0 hb1
  have a0 : (w1.alloc (.cells #[.int .i64 0, .int .i64 0, .int .i64 0, .int .i64 0, .int .i64 0, .int .i64 0, .int .i64 0, .int .i64 0] 49)).cell? ⟨w.heap.size, 0, none⟩ = some (.int .i16 l0) := (blk_cell (blk_alloc hk1 _) 0).trans rfl
  have a1 : (w1.alloc (.cells #[.int .i64 0, .int .i64 0, .int .i64 0, .int .i64 0, .int .i64 0, .int .i64 0, .int .i64 0, .int .i64 0] 49)).cell? ⟨w.heap.size, 1, none⟩ = some (.int .i16 l1) := (blk_cell (blk_alloc hk1 _) 1).trans rfl
  have a2 : (w1.alloc (.cells #[.int .i64 0, .int .i64 0, .int .i64 0, .int .i64 0, .int .i64 0, .int .i64 0, .int .i64 0, .int .i64 0] 49)).cell? ⟨w.heap.size, 2, none⟩ = some (.int .i16 l2) := (blk_cell (blk_alloc hk1 _) 2).trans rfl
  have a3 : (w1.alloc (.cells #[.int .i64 0, .int .i64 0, .int .i64 0, .int .i64 0, .int .i64 0, .int .i64 0, .int .i64 0, .int .i64 0] 49)).cell? ⟨w.heap.size, 3, none⟩ = some (.int .i16 l3) := (blk_cell (blk_alloc hk1 _) 3).trans rfl
  have a4 : (w1.alloc (.cells #[.int .i64 0, .int .i64 0, .int .i64 0, .int .i64 0, .int .i64 0, .int .i64 0, .int .i64 0, .int .i64 0] 49)).cell? ⟨w.heap.size, 4, none⟩ = some (.int .i16 l4) := (blk_cell (blk_alloc hk1 _) 4).trans rfl
  have a5 : (w1.alloc (.cells #[.int .i64 0, .int .i64 0, .int .i64 0, .int .i64 0, .int .i64 0, .int .i64 0, .int .i64 0, .int .i64 0] 49)).cell? ⟨w.heap.size, 5, none⟩ = some (.int .i16 l5) := (blk_cell (blk_alloc hk1 _) 5).trans rfl
  have a6 : (w1.alloc (.cells #[.int .i64 0, .int .i64 0, .int .i64 0, .int .i64 0, .int .i64 0, .int .i64 0, .int .i64 0, .int .i64 0] 49)).cell? ⟨w.heap.size, 6, none⟩ = some (.int .i16 l6) := (blk_cell (blk_alloc hk1 _) 6).trans rfl
  have a7 : (w1.alloc (.cells #[.int .i64 0, .int .i64 0, .int .i64 0, .int .i64 0, .int .i64 0, .int .i64 0, .int .i64 0, .int .i64 0] 49)).cell? ⟨w.heap.size, 7, none⟩ = some (.int .i16 l7) := (blk_cell (blk_alloc hk1 _) 7).trans rfl
  clear hb0 hk0 hb1 hk1
  go_wp2_with fail
  have HB2 : Aside0 (Below w.heap.size w (w1.alloc (.cells #[.int .i64 0, .int .i64 0, .int .i64 0, .int .i64 0, .int .i64 0, .int .i64 0, .int .i64 0, .int .i64 0] 49))) := ⟨below_step HB1.out (below_alloc (Below.refl _ _) _)⟩
  have HN2 : Aside0 ((w1.alloc (.cells #[.int .i64 0, .int .i64 0, .int .i64 0, .int .i64 0, .int .i64 0, .int .i64 0, .int .i64 0, .int .i64 0] 49)).heap[w1.heap.size]? = some (.cells (upto 0 (fun j => [n0, n1, n2, n3, n4, n5, n6, n7].getD j 0)) 49 (0, 0))) := ⟨blk_new _ _⟩
  have hsz : w.heap.size ≤ w1.heap.size := HB1.out.size
  have HSZ := Aside0.mk hsz
  obtain ⟨g, hg⟩ : ∃ g, w1.heap.size = g := ⟨_, rfl⟩
  rw [hg] at HN2 HSZ ⊢
  clear hsz hg HB1 a0 a1 a2 a3 a4 a5 a6 a7
  go_loopw [18] (fun v18 wr => ∃ j : Nat, v18 = .int .i64 (j : Int) ∧ j ≤ 8 ∧ Aside0 (Below w.heap.size w wr) ∧ Aside0 (wr.heap[g]? = some (.cells (upto j (fun j => [n0, n1, n2, n3, n4, n5, n6, n7].getD j 0)) 49 (0, 0)))) (fun v18 _ => 8 - (intOf v18).toNat)
  case atStart => exact ⟨0, rfl, by omega, HB2, HN2⟩
  case round =>
    clear HB2 HN2
    obtain ⟨j, rfl, hj, HB, HN⟩ := hrel
    have hjc : j = 0 ∨ j = 1 ∨ j = 2 ∨ j = 3 ∨ j = 4 ∨ j = 5 ∨ j = 6 ∨ j = 7 ∨ j = 8 := by omega
    rcases hjc with rfl | rfl | rfl | rfl | rfl | rfl | rfl | rfl | rfl
    · have c : wr.cell? ⟨g, 0, none⟩ = some (.int .i64 0) := (blk_cell HN.out 0).trans rfl
      have f : wr.frozen? ⟨g, 0, none⟩ = false := blk_frozen HN.out 0
      go_wp2_with fail
      refine ⟨⟨1, rfl, by omega, ⟨below_set HB.out HSZ.out⟩, ⟨?_⟩⟩, by simp [intOf]⟩
      exact blk_set HN.out 0 _
    · have c : wr.cell? ⟨g, 1, none⟩ = some (.int .i64 0) := (blk_cell HN.out 1).trans rfl
      have f : wr.frozen? ⟨g, 1, none⟩ = false := blk_frozen HN.out 1
      go_wp2_with fail
      refine ⟨⟨2, rfl, by omega, ⟨below_set HB.out HSZ.out⟩, ⟨?_⟩⟩, by simp [intOf]⟩
      exact blk_set HN.out 1 _
    · have c : wr.cell? ⟨g, 2, none⟩ = some (.int .i64 0) := (blk_cell HN.out 2).trans rfl
      have f : wr.frozen? ⟨g, 2, none⟩ = false := blk_frozen HN.out 2
      go_wp2_with fail
      refine ⟨⟨3, rfl, by omega, ⟨below_set HB.out HSZ.out⟩, ⟨?_⟩⟩, by simp [intOf]⟩
      exact blk_set HN.out 2 _
    · have c : wr.cell? ⟨g, 3, none⟩ = some (.int .i64 0) := (blk_cell HN.out 3).trans rfl
      have f : wr.frozen? ⟨g, 3, none⟩ = false := blk_frozen HN.out 3
      go_wp2_with fail
      refine ⟨⟨4, rfl, by omega, ⟨below_set HB.out HSZ.out⟩, ⟨?_⟩⟩, by simp [intOf]⟩
      exact blk_set HN.out 3 _
    · have c : wr.cell? ⟨g, 4, none⟩ = some (.int .i64 0) := (blk_cell HN.out 4).trans rfl
      have f : wr.frozen? ⟨g, 4, none⟩ = false := blk_frozen HN.out 4
      go_wp2_with fail
      refine ⟨⟨5, rfl, by omega, ⟨below_set HB.out HSZ.out⟩, ⟨?_⟩⟩, by simp [intOf]⟩
      exact blk_set HN.out 4 _
    · have c : wr.cell? ⟨g, 5, none⟩ = some (.int .i64 0) := (blk_cell HN.out 5).trans rfl
      have f : wr.frozen? ⟨g, 5, none⟩ = false := blk_frozen HN.out 5
      go_wp2_with fail
      refine ⟨⟨6, rfl, by omega, ⟨below_set HB.out HSZ.out⟩, ⟨?_⟩⟩, by simp [intOf]⟩
      exact blk_set HN.out 5 _
    · have c : wr.cell? ⟨g, 6, none⟩ = some (.int .i64 0) := (blk_cell HN.out 6).trans rfl
      have f : wr.frozen? ⟨g, 6, none⟩ = false := blk_frozen HN.out 6
      go_wp2_with fail
      refine ⟨⟨7, rfl, by omega, ⟨below_set HB.out HSZ.out⟩, ⟨?_⟩⟩, by simp [intOf]⟩
      exact blk_set HN.out 6 _
    · have c : wr.cell? ⟨g, 7, none⟩ = some (.int .i64 0) := (blk_cell HN.out 7).trans rfl
      have f : wr.frozen? ⟨g, 7, none⟩ = false := blk_frozen HN.out 7
      go_wp2_with fail
      refine ⟨⟨8, rfl, by omega, ⟨below_set HB.out HSZ.out⟩, ⟨?_⟩⟩, by simp [intOf]⟩
      exact blk_set HN.out 7 _
    · have HC : Aside0 (∀ W, Below wr.heap.size wr W → W.heap[g]? = some (.cells #[.int .i64 n0, .int .i64 n1, .int .i64 n2, .int .i64 n3, .int .i64 n4, .int .i64 n5, .int .i64 n6, .int .i64 n7] 49 (0, 0))) := ⟨fun W hW => blk_below HN.out hW⟩
      obtain ⟨qq, eqq, hqq⟩ : ∃ x, wrap64 (1 + wrap64 q) = x ∧ 0 < x ∧ x ≤ 256 := ⟨_, rfl, by have := HQ.out; rw [wid (x := q) (by omega) (by omega), wid (by omega) (by omega)]; omega⟩
      have HQQ := Aside0.mk hqq
      obtain ⟨w2, hw2⟩ : ∃ w2, wr.alloc (.cells #[.int .i64 qq] 3) = w2 := ⟨_, rfl⟩
      have hb2 : Below wr.heap.size wr w2 := by rw [← hw2]; exact below_alloc (Below.refl _ _) _
      have HB2 := Aside0.mk (below_step HB.out hb2)
      obtain ⟨gq, hgq⟩ : ∃ gq, wr.heap.size = gq := ⟨_, rfl⟩
      have hqb : w2.heap[gq]? = some (.cells #[.int .i64 qq] 3 (0, 0)) := by rw [← hw2, ← hgq]; exact blk_new _ _
      have HC2 : Aside0 (∀ W, Below w2.heap.size w2 W → W.cell? ⟨g, 0, none⟩ = some (.int .i64 n0) ∧ W.cell? ⟨g, 1, none⟩ = some (.int .i64 n1) ∧ W.cell? ⟨g, 2, none⟩ = some (.int .i64 n2) ∧ W.cell? ⟨g, 3, none⟩ = some (.int .i64 n3) ∧ W.cell? ⟨g, 4, none⟩ = some (.int .i64 n4) ∧ W.cell? ⟨g, 5, none⟩ = some (.int .i64 n5) ∧ W.cell? ⟨g, 6, none⟩ = some (.int .i64 n6) ∧ W.cell? ⟨g, 7, none⟩ = some (.int .i64 n7) ∧ W.cell? ⟨gq, 0, none⟩ = some (.int .i64 qq)) := ⟨fun W hW => by
        have h := blk_below (HC.out w2 hb2) hW
        exact ⟨(blk_cell h 0).trans rfl, (blk_cell h 1).trans rfl, (blk_cell h 2).trans rfl, (blk_cell h 3).trans rfl, (blk_cell h 4).trans rfl, (blk_cell h 5).trans rfl, (blk_cell h 6).trans rfl, (blk_cell h 7).trans rfl, (blk_cell (blk_below hqb hW) 0).trans rfl⟩⟩
      obtain ⟨c0, c1, c2, c3, c4, c5, c6, c7, cq⟩ := HC2.out w2 (Below.refl _ _)
      clear hb2 hqb hqq HC HN hix0 en0 hix1 en1 hix2 en2 hix3 en3 hix4 en4 hix5 en5 hix6 en6 hix7 en7
      go_wp2_with fail
      clear hw2 hgq
      refine (num_new w2 [n0, n1] 2 _ rfl (by have := N0.out; have := N1.out; intro x hx; simp only [List.mem_cons, List.not_mem_nil, or_false] at hx; omega) (by simp)).mono ?_
      rintro e w3 ⟨⟨s1, rfl, hs1⟩, hb3⟩
      have z1 : s1.size ≤ 10 := by rw [← bytesOf_len, hs1]; exact flat_len [n0, n1]
      have Z1 := Aside0.mk z1
      have HS1 := Aside0.mk hs1
      have HB3 := Aside0.mk hb3
      have hm1 : s1.size + 1 ≤ 9223372036854775807 := by omega
      clear hs1 hb3 z1 c0 c1 c2 c3 c4 c5 c6 c7 cq
      obtain ⟨c0, c1, c2, c3, c4, c5, c6, c7, cq⟩ := HC2.out w3 HB3.out
      go_wp2_with fail
      obtain ⟨sF, hsF⟩ : ∃ sF, s1 ++ (⟨#[13]⟩ : ByteArray) = sF := ⟨_, rfl⟩
      rw [hsF]
      have zsF : sF.size ≤ 11 := by rw [← hsF, ByteArray.size_append]; have := Z1.out; show s1.size + 1 ≤ 11; omega
      have HSF : Aside0 (bytesOf sF = T33.encs ([.num n0, .num n1, .op 13])) := ⟨by rw [← hsF, bytesOf_append, HS1.out]; simp [T33.encs, enc]; rfl⟩
      clear hsF hm1 HS1 Z1 c0 c1 c2 c3 c4 c5 c6 c7 cq
      have HCw3 : Aside0 (∀ W, Below w3.heap.size w3 W → W.cell? ⟨g, 0, none⟩ = some (.int .i64 n0) ∧ W.cell? ⟨g, 1, none⟩ = some (.int .i64 n1) ∧ W.cell? ⟨g, 2, none⟩ = some (.int .i64 n2) ∧ W.cell? ⟨g, 3, none⟩ = some (.int .i64 n3) ∧ W.cell? ⟨g, 4, none⟩ = some (.int .i64 n4) ∧ W.cell? ⟨g, 5, none⟩ = some (.int .i64 n5) ∧ W.cell? ⟨g, 6, none⟩ = some (.int .i64 n6) ∧ W.cell? ⟨g, 7, none⟩ = some (.int .i64 n7) ∧ W.cell? ⟨gq, 0, none⟩ = some (.int .i64 qq)) := ⟨fun W hW => HC2.out W (below_step HB3.out hW)⟩
      have HS0A : Aside0 (Below w3.heap.size w3 w3.drew) := ⟨pw_below_drewN (Below.refl _ _) 1⟩
      refine J33.region_inv 50 (VA sF g gq qq n0 n1 n2 n3 n4 n5 n6 n7) (fun W => Below w3.heap.size w3 W) (fun W W' => Below W.heap.size W W') depA [(some 39, 0), (some 40, 1), (some 41, 2), (some 42, 3), (some 43, 4), (some 44, 5), (some 45, 6), (some 46, 7), (some 47, 8), (some 48, 9), (some 49, 10), (some 50, 11), (some 51, 12), (some 52, 13), (some 53, 14), (some 54, 15), (some 55, 16), (some 56, 17), (some 57, 18), (some 58, 19), (some 59, 20), (some 60, 21), (some 61, 22), (some 62, 23), (some 63, 24), (some 64, 25), (some 65, 26), (some 66, 27), (some 67, 28), (some 68, 29), (some 69, 30), (some 70, 31), (some 71, 32), (some 72, 33), (some 73, 34), (some 74, 35), (some 75, 36), (some 76, 37), (some 77, 38), (some 78, 39), (some 79, 40), (some 80, 41), (some 81, 42), (some 82, 43), (some 83, 44), (some 84, 45), (some 85, 46), (some 86, 47), (some 87, 48), (some 11, 49)] (by kernel_rfl) rfl (by kernel_rfl) (by kernel_rfl) (by kernel_rfl) (by kernel_rfl) ?stbA ?st0A ?stpA ?finA
      case stbA =>
        refine J33.all_succ ?_ (fun v w w' h _ => h)
        refine J33.all_succ ?_ (fun v w w' h _ => h)
        refine J33.all_succ ?_ (fun v w w' h _ => h)
        refine J33.all_succ ?_ (fun v w w' h _ => h)
        refine J33.all_succ ?_ (fun v w w' ⟨gx, e, hi⟩ hb => ⟨gx, e, ⟨hi.out.below hb⟩⟩)
        refine J33.all_succ ?_ (fun v w w' h _ => h)
        refine J33.all_succ ?_ (fun v w w' h _ => h)
        refine J33.all_succ ?_ (fun v w w' h _ => h)
        refine J33.all_succ ?_ (fun v w w' h _ => h)
        refine J33.all_succ ?_ (fun v w w' h _ => h)
        refine J33.all_succ ?_ (fun v w w' h _ => h)
        refine J33.all_succ ?_ (fun v w w' h _ => h)
        refine J33.all_succ ?_ (fun v w w' h _ => h)
        refine J33.all_succ ?_ (fun v w w' h _ => h)
        refine J33.all_succ ?_ (fun v w w' h _ => h)
        refine J33.all_succ ?_ (fun v w w' h _ => h)
        refine J33.all_succ ?_ (fun v w w' ⟨gx, e, hi⟩ hb => ⟨gx, e, ⟨hi.out.below hb⟩⟩)
        refine J33.all_succ ?_ (fun v w w' h _ => h)
        refine J33.all_succ ?_ (fun v w w' h _ => h)
        refine J33.all_succ ?_ (fun v w w' h _ => h)
        refine J33.all_succ ?_ (fun v w w' h _ => h)
        refine J33.all_succ ?_ (fun v w w' h _ => h)
        refine J33.all_succ ?_ (fun v w w' h _ => h)
        refine J33.all_succ ?_ (fun v w w' h _ => h)
        refine J33.all_succ ?_ (fun v w w' h _ => h)
        refine J33.all_succ ?_ (fun v w w' h _ => h)
        refine J33.all_succ ?_ (fun v w w' h _ => h)
        refine J33.all_succ ?_ (fun v w w' h _ => h)
        refine J33.all_succ ?_ (fun v w w' h _ => h)
        refine J33.all_succ ?_ (fun v w w' h _ => h)
        refine J33.all_succ ?_ (fun v w w' h _ => h)
        refine J33.all_succ ?_ (fun v w w' h _ => h)
        refine J33.all_succ ?_ (fun v w w' h _ => h)
        refine J33.all_succ ?_ (fun v w w' h _ => h)
        refine J33.all_succ ?_ (fun v w w' ⟨gx, e, hi⟩ hb => ⟨gx, e, ⟨hi.out.below hb⟩⟩)
        refine J33.all_succ ?_ (fun v w w' h _ => h)
        refine J33.all_succ ?_ (fun v w w' h _ => h)
        refine J33.all_succ ?_ (fun v w w' h _ => h)
        refine J33.all_succ ?_ (fun v w w' h _ => h)
        refine J33.all_succ ?_ (fun v w w' h _ => h)
        refine J33.all_succ ?_ (fun v w w' ⟨gx, e, hi⟩ hb => ⟨gx, e, ⟨hi.out.below hb⟩⟩)
        refine J33.all_succ ?_ (fun v w w' h _ => h)
        refine J33.all_succ ?_ (fun v w w' h _ => h)
        refine J33.all_succ ?_ (fun v w w' h _ => h)
        refine J33.all_succ ?_ (fun v w w' h _ => h)
        refine J33.all_succ ?_ (fun v w w' h _ => h)
        refine J33.all_succ ?_ (fun v w w' h _ => h)
        refine J33.all_succ ?_ (fun v w w' h _ => h)
        refine J33.all_succ ?_ (fun v w w' h _ => h)
        refine J33.all_succ ?_ (fun v w w' h _ => h)
        exact J33.all_zero
      case st0A => exact HS0A.out
      case stpA =>
        refine J33.all_succ ?_ ?sA49
        case sA49 =>
          refine J33.step_un [(some 87, 48)] (by rfl) rfl (by rfl) (fun vals W hS hV K hK => ?_)
          simp only [J33.layD, Act.put, List.setIfInBounds_toArray, List.set_cons_zero, List.set_cons_succ] at hK ⊢
          have f48 := hV 48 (by decide)
          generalize vals 48 = x48 at f48 hK ⊢
          obtain ⟨s48, rfl, h48x, h48z⟩ := f48
          clear hV
          go_simp
          refine hK.out _ _ (show ∃ t : ByteArray, _ = Value.string t ∧ Aside0 (bytesOf t = T33.encs [.num n0, .num n1, .op 13, .num (n2 * qq), .num qq, .op 268, .op 22, .num n3, .op 4, .num n4, .op 6, .num (n5 * qq), .num qq, .op 268, .op 7, .num n2, .num n3, .num n4, .num n5, .op 30, .num n6, .num n7, .num n0, .num n1, .op 31, .op 256, .op 9, .op 14]) ∧ t.size ≤ 95 from Exists.intro _ ⟨rfl, h48x, h48z⟩) hS (Below.refl _ _)
        refine J33.all_succ ?_ ?sA48
        case sA48 =>
          refine J33.step_un [(some 86, 47)] (by rfl) rfl (by rfl) (fun vals W hS hV K hK => ?_)
          simp only [J33.layD, Act.put, List.setIfInBounds_toArray, List.set_cons_zero, List.set_cons_succ] at hK ⊢
          have f47 := hV 47 (by decide)
          generalize vals 47 = x47 at f47 hK ⊢
          obtain ⟨s47, rfl, h47x, h47z⟩ := f47
          clear hV
          have mA : s47.size + 5 ≤ 9223372036854775807 := by omega
          have mB : (9223372036854775807 < s47.size + 5) = False := eq_false (by omega)
          go_simp
          refine hK.out _ _ (Exists.intro _ ⟨rfl, ⟨by rw [bytesOf_append, h47x.out]; exact enc_cat (B := [.op 31, .op 256, .op 9, .op 14]) rfl⟩, by rw [ByteArray.size_append]; show s47.size + 5 ≤ 95; omega⟩) hS (Below.refl _ _)
        refine J33.all_succ ?_ ?sA47
        case sA47 =>
          refine J33.step_un [(some 75, 36), (some 85, 46)] (by rfl) rfl (by rfl) (fun vals W hS hV K hK => ?_)
          simp only [J33.layD, Act.put, List.setIfInBounds_toArray, List.set_cons_zero, List.set_cons_succ] at hK ⊢
          have f36 := hV 36 (by decide)
          have f46 := hV 46 (by decide)
          generalize vals 36 = x36 at f36 hK ⊢
          obtain ⟨s36, rfl, h36x, h36z⟩ := f36
          generalize vals 46 = x46 at f46 hK ⊢
          obtain ⟨s46, rfl, h46x, h46z⟩ := f46
          clear hV
          have mA : s36.size + s46.size ≤ 9223372036854775807 := by omega
          have mB : (9223372036854775807 < s36.size + s46.size) = False := eq_false (by omega)
          go_simp
          refine hK.out _ _ (Exists.intro _ ⟨rfl, ⟨by rw [bytesOf_append, h36x.out, h46x.out]; exact enc_cat rfl⟩, by rw [ByteArray.size_append]; omega⟩) hS (Below.refl _ _)
        refine J33.all_succ ?_ ?sA46
        case sA46 =>
          refine J33.step_un [(some 84, 45)] (by rfl) rfl (by rfl) (fun vals W hS hV K hK => ?_)
          simp only [J33.layD, Act.put, List.setIfInBounds_toArray, List.set_cons_zero, List.set_cons_succ] at hK ⊢
          have f45 := hV 45 (by decide)
          generalize vals 45 = x45 at f45 hK ⊢
          obtain ⟨g45, rfl, h45x⟩ := f45
          clear hV
          go_simp
          go_at_call 22
          refine (number_call (xs := [n6, n7, n0, n1]) h45x.out (by have := N0.out; have := N1.out; have := N6.out; have := N7.out; intro x hx; simp only [List.mem_cons, List.not_mem_nil, or_false] at hx; omega) (by simp)).mono ?_
          rintro e W2 ⟨rfl, hb⟩
          refine hK.out _ _ (Exists.intro _ ⟨rfl, ⟨by rw [bytesOf_strOf _ (flat_oct _)]; rfl⟩, by rw [strOf_size]; exact flat_len [n6, n7, n0, n1]⟩) (below_step hS hb) hb
        refine J33.all_succ ?_ ?sA45
        case sA45 =>
          refine J33.step_un [(some 77, 38), (some 79, 40), (some 81, 42), (some 83, 44)] (by rfl) rfl (by rfl) (fun vals W hS hV K hK => ?_)
          simp only [J33.layD, Act.put, List.setIfInBounds_toArray, List.set_cons_zero, List.set_cons_succ] at hK ⊢
          have f38 := hV 38 (by decide)
          have f40 := hV 40 (by decide)
          have f42 := hV 42 (by decide)
          have f44 := hV 44 (by decide)
          generalize vals 38 = x38 at f38 hK ⊢
          obtain rfl : x38 = Value.int .i64 n6 := f38
          generalize vals 40 = x40 at f40 hK ⊢
          obtain rfl : x40 = Value.int .i64 n7 := f40
          generalize vals 42 = x42 at f42 hK ⊢
          obtain rfl : x42 = Value.int .i64 n0 := f42
          generalize vals 44 = x44 at f44 hK ⊢
          obtain rfl : x44 = Value.int .i64 n1 := f44
          clear hV
          go_simp
          refine hK.out _ _ (Exists.intro _ ⟨rfl, ⟨ints_new _ _ _ rfl⟩⟩) (below_alloc hS _) (below_alloc (Below.refl _ _) _)
        refine J33.all_succ ?_ ?sA44
        case sA44 =>
          refine J33.step_un [(some 82, 43)] (by rfl) rfl (by rfl) (fun vals W hS hV K hK => ?_)
          simp only [J33.layD, Act.put, List.setIfInBounds_toArray, List.set_cons_zero, List.set_cons_succ] at hK ⊢
          have f43 := hV 43 (by decide)
          generalize vals 43 = x43 at f43 hK ⊢
          obtain rfl : x43 = Value.pointer (some ⟨g, 1, none⟩) := f43
          clear hV
          obtain ⟨c0, c1, c2, c3, c4, c5, c6, c7, cq⟩ := HCw3.out W hS
          go_simp
          refine hK.out _ _ (rfl) hS (Below.refl _ _)
        refine J33.all_succ ?_ ?sA43
        case sA43 =>
          refine J33.step_un [] (by rfl) rfl (by rfl) (fun vals W hS hV K hK => ?_)
          simp only [J33.layD, Act.put, List.setIfInBounds_toArray, List.set_cons_zero, List.set_cons_succ] at hK ⊢
          clear hV
          go_simp
          refine hK.out _ _ (rfl) hS (Below.refl _ _)
        refine J33.all_succ ?_ ?sA42
        case sA42 =>
          refine J33.step_un [(some 80, 41)] (by rfl) rfl (by rfl) (fun vals W hS hV K hK => ?_)
          simp only [J33.layD, Act.put, List.setIfInBounds_toArray, List.set_cons_zero, List.set_cons_succ] at hK ⊢
          have f41 := hV 41 (by decide)
          generalize vals 41 = x41 at f41 hK ⊢
          obtain rfl : x41 = Value.pointer (some ⟨g, 0, none⟩) := f41
          clear hV
          obtain ⟨c0, c1, c2, c3, c4, c5, c6, c7, cq⟩ := HCw3.out W hS
          go_simp
          refine hK.out _ _ (rfl) hS (Below.refl _ _)
        refine J33.all_succ ?_ ?sA41
        case sA41 =>
          refine J33.step_un [] (by rfl) rfl (by rfl) (fun vals W hS hV K hK => ?_)
          simp only [J33.layD, Act.put, List.setIfInBounds_toArray, List.set_cons_zero, List.set_cons_succ] at hK ⊢
          clear hV
          go_simp
          refine hK.out _ _ (rfl) hS (Below.refl _ _)
        refine J33.all_succ ?_ ?sA40
        case sA40 =>
          refine J33.step_un [(some 78, 39)] (by rfl) rfl (by rfl) (fun vals W hS hV K hK => ?_)
          simp only [J33.layD, Act.put, List.setIfInBounds_toArray, List.set_cons_zero, List.set_cons_succ] at hK ⊢
          have f39 := hV 39 (by decide)
          generalize vals 39 = x39 at f39 hK ⊢
          obtain rfl : x39 = Value.pointer (some ⟨g, 7, none⟩) := f39
          clear hV
          obtain ⟨c0, c1, c2, c3, c4, c5, c6, c7, cq⟩ := HCw3.out W hS
          go_simp
          refine hK.out _ _ (rfl) hS (Below.refl _ _)
        refine J33.all_succ ?_ ?sA39
        case sA39 =>
          refine J33.step_un [] (by rfl) rfl (by rfl) (fun vals W hS hV K hK => ?_)
          simp only [J33.layD, Act.put, List.setIfInBounds_toArray, List.set_cons_zero, List.set_cons_succ] at hK ⊢
          clear hV
          go_simp
          refine hK.out _ _ (rfl) hS (Below.refl _ _)
        refine J33.all_succ ?_ ?sA38
        case sA38 =>
          refine J33.step_un [(some 76, 37)] (by rfl) rfl (by rfl) (fun vals W hS hV K hK => ?_)
          simp only [J33.layD, Act.put, List.setIfInBounds_toArray, List.set_cons_zero, List.set_cons_succ] at hK ⊢
          have f37 := hV 37 (by decide)
          generalize vals 37 = x37 at f37 hK ⊢
          obtain rfl : x37 = Value.pointer (some ⟨g, 6, none⟩) := f37
          clear hV
          obtain ⟨c0, c1, c2, c3, c4, c5, c6, c7, cq⟩ := HCw3.out W hS
          go_simp
          refine hK.out _ _ (rfl) hS (Below.refl _ _)
        refine J33.all_succ ?_ ?sA37
        case sA37 =>
          refine J33.step_un [] (by rfl) rfl (by rfl) (fun vals W hS hV K hK => ?_)
          simp only [J33.layD, Act.put, List.setIfInBounds_toArray, List.set_cons_zero, List.set_cons_succ] at hK ⊢
          clear hV
          go_simp
          refine hK.out _ _ (rfl) hS (Below.refl _ _)
        refine J33.all_succ ?_ ?sA36
        case sA36 =>
          refine J33.step_un [(some 74, 35)] (by rfl) rfl (by rfl) (fun vals W hS hV K hK => ?_)
          simp only [J33.layD, Act.put, List.setIfInBounds_toArray, List.set_cons_zero, List.set_cons_succ] at hK ⊢
          have f35 := hV 35 (by decide)
          generalize vals 35 = x35 at f35 hK ⊢
          obtain ⟨s35, rfl, h35x, h35z⟩ := f35
          clear hV
          have mA : s35.size + 1 ≤ 9223372036854775807 := by omega
          have mB : (9223372036854775807 < s35.size + 1) = False := eq_false (by omega)
          go_simp
          refine hK.out _ _ (Exists.intro _ ⟨rfl, ⟨by rw [bytesOf_append, h35x.out]; exact enc_cat (B := [.op 30]) rfl⟩, by rw [ByteArray.size_append]; show s35.size + 1 ≤ 70; omega⟩) hS (Below.refl _ _)
        refine J33.all_succ ?_ ?sA35
        case sA35 =>
          refine J33.step_un [(some 63, 24), (some 73, 34)] (by rfl) rfl (by rfl) (fun vals W hS hV K hK => ?_)
          simp only [J33.layD, Act.put, List.setIfInBounds_toArray, List.set_cons_zero, List.set_cons_succ] at hK ⊢
          have f24 := hV 24 (by decide)
          have f34 := hV 34 (by decide)
          generalize vals 24 = x24 at f24 hK ⊢
          obtain ⟨s24, rfl, h24x, h24z⟩ := f24
          generalize vals 34 = x34 at f34 hK ⊢
          obtain ⟨s34, rfl, h34x, h34z⟩ := f34
          clear hV
          have mA : s24.size + s34.size ≤ 9223372036854775807 := by omega
          have mB : (9223372036854775807 < s24.size + s34.size) = False := eq_false (by omega)
          go_simp
          refine hK.out _ _ (Exists.intro _ ⟨rfl, ⟨by rw [bytesOf_append, h24x.out, h34x.out]; exact enc_cat rfl⟩, by rw [ByteArray.size_append]; omega⟩) hS (Below.refl _ _)
        refine J33.all_succ ?_ ?sA34
        case sA34 =>
          refine J33.step_un [(some 72, 33)] (by rfl) rfl (by rfl) (fun vals W hS hV K hK => ?_)
          simp only [J33.layD, Act.put, List.setIfInBounds_toArray, List.set_cons_zero, List.set_cons_succ] at hK ⊢
          have f33 := hV 33 (by decide)
          generalize vals 33 = x33 at f33 hK ⊢
          obtain ⟨g33, rfl, h33x⟩ := f33
          clear hV
          go_simp
          go_at_call 22
          refine (number_call (xs := [n2, n3, n4, n5]) h33x.out (by have := N2.out; have := N3.out; have := N4.out; have := N5.out; intro x hx; simp only [List.mem_cons, List.not_mem_nil, or_false] at hx; omega) (by simp)).mono ?_
          rintro e W2 ⟨rfl, hb⟩
          refine hK.out _ _ (Exists.intro _ ⟨rfl, ⟨by rw [bytesOf_strOf _ (flat_oct _)]; rfl⟩, by rw [strOf_size]; exact flat_len [n2, n3, n4, n5]⟩) (below_step hS hb) hb
        refine J33.all_succ ?_ ?sA33
        case sA33 =>
          refine J33.step_un [(some 65, 26), (some 67, 28), (some 69, 30), (some 71, 32)] (by rfl) rfl (by rfl) (fun vals W hS hV K hK => ?_)
          simp only [J33.layD, Act.put, List.setIfInBounds_toArray, List.set_cons_zero, List.set_cons_succ] at hK ⊢
          have f26 := hV 26 (by decide)
          have f28 := hV 28 (by decide)
          have f30 := hV 30 (by decide)
          have f32 := hV 32 (by decide)
          generalize vals 26 = x26 at f26 hK ⊢
          obtain rfl : x26 = Value.int .i64 n2 := f26
          generalize vals 28 = x28 at f28 hK ⊢
          obtain rfl : x28 = Value.int .i64 n3 := f28
          generalize vals 30 = x30 at f30 hK ⊢
          obtain rfl : x30 = Value.int .i64 n4 := f30
          generalize vals 32 = x32 at f32 hK ⊢
          obtain rfl : x32 = Value.int .i64 n5 := f32
          clear hV
          go_simp
          refine hK.out _ _ (Exists.intro _ ⟨rfl, ⟨ints_new _ _ _ rfl⟩⟩) (below_alloc hS _) (below_alloc (Below.refl _ _) _)
        refine J33.all_succ ?_ ?sA32
        case sA32 =>
          refine J33.step_un [(some 70, 31)] (by rfl) rfl (by rfl) (fun vals W hS hV K hK => ?_)
          simp only [J33.layD, Act.put, List.setIfInBounds_toArray, List.set_cons_zero, List.set_cons_succ] at hK ⊢
          have f31 := hV 31 (by decide)
          generalize vals 31 = x31 at f31 hK ⊢
          obtain rfl : x31 = Value.pointer (some ⟨g, 5, none⟩) := f31
          clear hV
          obtain ⟨c0, c1, c2, c3, c4, c5, c6, c7, cq⟩ := HCw3.out W hS
          go_simp
          refine hK.out _ _ (rfl) hS (Below.refl _ _)
        refine J33.all_succ ?_ ?sA31
        case sA31 =>
          refine J33.step_un [] (by rfl) rfl (by rfl) (fun vals W hS hV K hK => ?_)
          simp only [J33.layD, Act.put, List.setIfInBounds_toArray, List.set_cons_zero, List.set_cons_succ] at hK ⊢
          clear hV
          go_simp
          refine hK.out _ _ (rfl) hS (Below.refl _ _)
        refine J33.all_succ ?_ ?sA30
        case sA30 =>
          refine J33.step_un [(some 68, 29)] (by rfl) rfl (by rfl) (fun vals W hS hV K hK => ?_)
          simp only [J33.layD, Act.put, List.setIfInBounds_toArray, List.set_cons_zero, List.set_cons_succ] at hK ⊢
          have f29 := hV 29 (by decide)
          generalize vals 29 = x29 at f29 hK ⊢
          obtain rfl : x29 = Value.pointer (some ⟨g, 4, none⟩) := f29
          clear hV
          obtain ⟨c0, c1, c2, c3, c4, c5, c6, c7, cq⟩ := HCw3.out W hS
          go_simp
          refine hK.out _ _ (rfl) hS (Below.refl _ _)
        refine J33.all_succ ?_ ?sA29
        case sA29 =>
          refine J33.step_un [] (by rfl) rfl (by rfl) (fun vals W hS hV K hK => ?_)
          simp only [J33.layD, Act.put, List.setIfInBounds_toArray, List.set_cons_zero, List.set_cons_succ] at hK ⊢
          clear hV
          go_simp
          refine hK.out _ _ (rfl) hS (Below.refl _ _)
        refine J33.all_succ ?_ ?sA28
        case sA28 =>
          refine J33.step_un [(some 66, 27)] (by rfl) rfl (by rfl) (fun vals W hS hV K hK => ?_)
          simp only [J33.layD, Act.put, List.setIfInBounds_toArray, List.set_cons_zero, List.set_cons_succ] at hK ⊢
          have f27 := hV 27 (by decide)
          generalize vals 27 = x27 at f27 hK ⊢
          obtain rfl : x27 = Value.pointer (some ⟨g, 3, none⟩) := f27
          clear hV
          obtain ⟨c0, c1, c2, c3, c4, c5, c6, c7, cq⟩ := HCw3.out W hS
          go_simp
          refine hK.out _ _ (rfl) hS (Below.refl _ _)
        refine J33.all_succ ?_ ?sA27
        case sA27 =>
          refine J33.step_un [] (by rfl) rfl (by rfl) (fun vals W hS hV K hK => ?_)
          simp only [J33.layD, Act.put, List.setIfInBounds_toArray, List.set_cons_zero, List.set_cons_succ] at hK ⊢
          clear hV
          go_simp
          refine hK.out _ _ (rfl) hS (Below.refl _ _)
        refine J33.all_succ ?_ ?sA26
        case sA26 =>
          refine J33.step_un [(some 64, 25)] (by rfl) rfl (by rfl) (fun vals W hS hV K hK => ?_)
          simp only [J33.layD, Act.put, List.setIfInBounds_toArray, List.set_cons_zero, List.set_cons_succ] at hK ⊢
          have f25 := hV 25 (by decide)
          generalize vals 25 = x25 at f25 hK ⊢
          obtain rfl : x25 = Value.pointer (some ⟨g, 2, none⟩) := f25
          clear hV
          obtain ⟨c0, c1, c2, c3, c4, c5, c6, c7, cq⟩ := HCw3.out W hS
          go_simp
          refine hK.out _ _ (rfl) hS (Below.refl _ _)
        refine J33.all_succ ?_ ?sA25
        case sA25 =>
          refine J33.step_un [] (by rfl) rfl (by rfl) (fun vals W hS hV K hK => ?_)
          simp only [J33.layD, Act.put, List.setIfInBounds_toArray, List.set_cons_zero, List.set_cons_succ] at hK ⊢
          clear hV
          go_simp
          refine hK.out _ _ (rfl) hS (Below.refl _ _)
        refine J33.all_succ ?_ ?sA24
        case sA24 =>
          refine J33.step_un [(some 62, 23)] (by rfl) rfl (by rfl) (fun vals W hS hV K hK => ?_)
          simp only [J33.layD, Act.put, List.setIfInBounds_toArray, List.set_cons_zero, List.set_cons_succ] at hK ⊢
          have f23 := hV 23 (by decide)
          generalize vals 23 = x23 at f23 hK ⊢
          obtain ⟨s23, rfl, h23x, h23z⟩ := f23
          clear hV
          have mA : s23.size + 1 ≤ 9223372036854775807 := by omega
          have mB : (9223372036854775807 < s23.size + 1) = False := eq_false (by omega)
          go_simp
          refine hK.out _ _ (Exists.intro _ ⟨rfl, ⟨by rw [bytesOf_append, h23x.out]; exact enc_cat (B := [.op 7]) rfl⟩, by rw [ByteArray.size_append]; show s23.size + 1 ≤ 49; omega⟩) hS (Below.refl _ _)
        refine J33.all_succ ?_ ?sA23
        case sA23 =>
          refine J33.step_un [(some 57, 18), (some 61, 22)] (by rfl) rfl (by rfl) (fun vals W hS hV K hK => ?_)
          simp only [J33.layD, Act.put, List.setIfInBounds_toArray, List.set_cons_zero, List.set_cons_succ] at hK ⊢
          have f18 := hV 18 (by decide)
          have f22 := hV 22 (by decide)
          generalize vals 18 = x18 at f18 hK ⊢
          obtain ⟨s18, rfl, h18x, h18z⟩ := f18
          generalize vals 22 = x22 at f22 hK ⊢
          obtain ⟨s22, rfl, h22x, h22z⟩ := f22
          clear hV
          have mA : s18.size + s22.size ≤ 9223372036854775807 := by omega
          have mB : (9223372036854775807 < s18.size + s22.size) = False := eq_false (by omega)
          go_simp
          refine hK.out _ _ (Exists.intro _ ⟨rfl, ⟨by rw [bytesOf_append, h18x.out, h22x.out]; exact enc_cat rfl⟩, by rw [ByteArray.size_append]; omega⟩) hS (Below.refl _ _)
        refine J33.all_succ ?_ ?sA22
        case sA22 =>
          refine J33.step_un [(some 58, 19), (some 60, 21)] (by rfl) rfl (by rfl) (fun vals W hS hV K hK => ?_)
          simp only [J33.layD, Act.put, List.setIfInBounds_toArray, List.set_cons_zero, List.set_cons_succ] at hK ⊢
          have f19 := hV 19 (by decide)
          have f21 := hV 21 (by decide)
          generalize vals 19 = x19 at f19 hK ⊢
          obtain rfl : x19 = Value.func (.func 21) #[] #[.pointer (some ⟨gq, 0, none⟩)] := f19
          generalize vals 21 = x21 at f21 hK ⊢
          obtain rfl : x21 = Value.int .i64 n5 := f21
          clear hV
          go_simp
          go_at_call 21
          refine (part_call n5 qq N5.out HQQ.out gq _ (HCw3.out W hS).2.2.2.2.2.2.2.2).mono ?_
          rintro e W2 ⟨⟨u, rfl, hu, zu⟩, hb⟩
          refine hK.out _ _ (Exists.intro _ ⟨rfl, ⟨by rw [hu]; simp [T33.encs, enc]⟩, zu⟩) (below_step hS hb) hb
        refine J33.all_succ ?_ ?sA21
        case sA21 =>
          refine J33.step_un [(some 59, 20)] (by rfl) rfl (by rfl) (fun vals W hS hV K hK => ?_)
          simp only [J33.layD, Act.put, List.setIfInBounds_toArray, List.set_cons_zero, List.set_cons_succ] at hK ⊢
          have f20 := hV 20 (by decide)
          generalize vals 20 = x20 at f20 hK ⊢
          obtain rfl : x20 = Value.pointer (some ⟨g, 5, none⟩) := f20
          clear hV
          obtain ⟨c0, c1, c2, c3, c4, c5, c6, c7, cq⟩ := HCw3.out W hS
          go_simp
          refine hK.out _ _ (rfl) hS (Below.refl _ _)
        refine J33.all_succ ?_ ?sA20
        case sA20 =>
          refine J33.step_un [] (by rfl) rfl (by rfl) (fun vals W hS hV K hK => ?_)
          simp only [J33.layD, Act.put, List.setIfInBounds_toArray, List.set_cons_zero, List.set_cons_succ] at hK ⊢
          clear hV
          go_simp
          refine hK.out _ _ (rfl) hS (Below.refl _ _)
        refine J33.all_succ ?_ ?sA19
        case sA19 =>
          refine J33.step_un [] (by rfl) rfl (by rfl) (fun vals W hS hV K hK => ?_)
          simp only [J33.layD, Act.put, List.setIfInBounds_toArray, List.set_cons_zero, List.set_cons_succ] at hK ⊢
          clear hV
          go_simp
          refine hK.out _ _ (show _ = Value.func (.func 21) #[] #[.pointer (some ⟨gq, 0, none⟩)] from rfl) hS (Below.refl _ _)
        refine J33.all_succ ?_ ?sA18
        case sA18 =>
          refine J33.step_un [(some 56, 17)] (by rfl) rfl (by rfl) (fun vals W hS hV K hK => ?_)
          simp only [J33.layD, Act.put, List.setIfInBounds_toArray, List.set_cons_zero, List.set_cons_succ] at hK ⊢
          have f17 := hV 17 (by decide)
          generalize vals 17 = x17 at f17 hK ⊢
          obtain ⟨s17, rfl, h17x, h17z⟩ := f17
          clear hV
          have mA : s17.size + 1 ≤ 9223372036854775807 := by omega
          have mB : (9223372036854775807 < s17.size + 1) = False := eq_false (by omega)
          go_simp
          refine hK.out _ _ (Exists.intro _ ⟨rfl, ⟨by rw [bytesOf_append, h17x.out]; exact enc_cat (B := [.op 6]) rfl⟩, by rw [ByteArray.size_append]; show s17.size + 1 ≤ 36; omega⟩) hS (Below.refl _ _)
        refine J33.all_succ ?_ ?sA17
        case sA17 =>
          refine J33.step_un [(some 51, 12), (some 55, 16)] (by rfl) rfl (by rfl) (fun vals W hS hV K hK => ?_)
          simp only [J33.layD, Act.put, List.setIfInBounds_toArray, List.set_cons_zero, List.set_cons_succ] at hK ⊢
          have f12 := hV 12 (by decide)
          have f16 := hV 16 (by decide)
          generalize vals 12 = x12 at f12 hK ⊢
          obtain ⟨s12, rfl, h12x, h12z⟩ := f12
          generalize vals 16 = x16 at f16 hK ⊢
          obtain ⟨s16, rfl, h16x, h16z⟩ := f16
          clear hV
          have mA : s12.size + s16.size ≤ 9223372036854775807 := by omega
          have mB : (9223372036854775807 < s12.size + s16.size) = False := eq_false (by omega)
          go_simp
          refine hK.out _ _ (Exists.intro _ ⟨rfl, ⟨by rw [bytesOf_append, h12x.out, h16x.out]; exact enc_cat rfl⟩, by rw [ByteArray.size_append]; omega⟩) hS (Below.refl _ _)
        refine J33.all_succ ?_ ?sA16
        case sA16 =>
          refine J33.step_un [(some 54, 15)] (by rfl) rfl (by rfl) (fun vals W hS hV K hK => ?_)
          simp only [J33.layD, Act.put, List.setIfInBounds_toArray, List.set_cons_zero, List.set_cons_succ] at hK ⊢
          have f15 := hV 15 (by decide)
          generalize vals 15 = x15 at f15 hK ⊢
          obtain ⟨g15, rfl, h15x⟩ := f15
          clear hV
          go_simp
          go_at_call 22
          refine (number_call (xs := [n4]) h15x.out (by have := N4.out; intro x hx; simp only [List.mem_cons, List.not_mem_nil, or_false] at hx; omega) (by simp)).mono ?_
          rintro e W2 ⟨rfl, hb⟩
          refine hK.out _ _ (Exists.intro _ ⟨rfl, ⟨by rw [bytesOf_strOf _ (flat_oct _)]; rfl⟩, by rw [strOf_size]; exact flat_len [n4]⟩) (below_step hS hb) hb
        refine J33.all_succ ?_ ?sA15
        case sA15 =>
          refine J33.step_un [(some 53, 14)] (by rfl) rfl (by rfl) (fun vals W hS hV K hK => ?_)
          simp only [J33.layD, Act.put, List.setIfInBounds_toArray, List.set_cons_zero, List.set_cons_succ] at hK ⊢
          have f14 := hV 14 (by decide)
          generalize vals 14 = x14 at f14 hK ⊢
          obtain rfl : x14 = Value.int .i64 n4 := f14
          clear hV
          go_simp
          refine hK.out _ _ (Exists.intro _ ⟨rfl, ⟨ints_new _ _ _ rfl⟩⟩) (below_alloc hS _) (below_alloc (Below.refl _ _) _)
        refine J33.all_succ ?_ ?sA14
        case sA14 =>
          refine J33.step_un [(some 52, 13)] (by rfl) rfl (by rfl) (fun vals W hS hV K hK => ?_)
          simp only [J33.layD, Act.put, List.setIfInBounds_toArray, List.set_cons_zero, List.set_cons_succ] at hK ⊢
          have f13 := hV 13 (by decide)
          generalize vals 13 = x13 at f13 hK ⊢
          obtain rfl : x13 = Value.pointer (some ⟨g, 4, none⟩) := f13
          clear hV
          obtain ⟨c0, c1, c2, c3, c4, c5, c6, c7, cq⟩ := HCw3.out W hS
          go_simp
          refine hK.out _ _ (rfl) hS (Below.refl _ _)
        refine J33.all_succ ?_ ?sA13
        case sA13 =>
          refine J33.step_un [] (by rfl) rfl (by rfl) (fun vals W hS hV K hK => ?_)
          simp only [J33.layD, Act.put, List.setIfInBounds_toArray, List.set_cons_zero, List.set_cons_succ] at hK ⊢
          clear hV
          go_simp
          refine hK.out _ _ (rfl) hS (Below.refl _ _)
        refine J33.all_succ ?_ ?sA12
        case sA12 =>
          refine J33.step_un [(some 50, 11)] (by rfl) rfl (by rfl) (fun vals W hS hV K hK => ?_)
          simp only [J33.layD, Act.put, List.setIfInBounds_toArray, List.set_cons_zero, List.set_cons_succ] at hK ⊢
          have f11 := hV 11 (by decide)
          generalize vals 11 = x11 at f11 hK ⊢
          obtain ⟨s11, rfl, h11x, h11z⟩ := f11
          clear hV
          have mA : s11.size + 1 ≤ 9223372036854775807 := by omega
          have mB : (9223372036854775807 < s11.size + 1) = False := eq_false (by omega)
          go_simp
          refine hK.out _ _ (Exists.intro _ ⟨rfl, ⟨by rw [bytesOf_append, h11x.out]; exact enc_cat (B := [.op 4]) rfl⟩, by rw [ByteArray.size_append]; show s11.size + 1 ≤ 30; omega⟩) hS (Below.refl _ _)
        refine J33.all_succ ?_ ?sA11
        case sA11 =>
          refine J33.step_un [(some 45, 6), (some 49, 10)] (by rfl) rfl (by rfl) (fun vals W hS hV K hK => ?_)
          simp only [J33.layD, Act.put, List.setIfInBounds_toArray, List.set_cons_zero, List.set_cons_succ] at hK ⊢
          have f6 := hV 6 (by decide)
          have f10 := hV 10 (by decide)
          generalize vals 6 = x6 at f6 hK ⊢
          obtain ⟨s6, rfl, h6x, h6z⟩ := f6
          generalize vals 10 = x10 at f10 hK ⊢
          obtain ⟨s10, rfl, h10x, h10z⟩ := f10
          clear hV
          have mA : s6.size + s10.size ≤ 9223372036854775807 := by omega
          have mB : (9223372036854775807 < s6.size + s10.size) = False := eq_false (by omega)
          go_simp
          refine hK.out _ _ (Exists.intro _ ⟨rfl, ⟨by rw [bytesOf_append, h6x.out, h10x.out]; exact enc_cat rfl⟩, by rw [ByteArray.size_append]; omega⟩) hS (Below.refl _ _)
        refine J33.all_succ ?_ ?sA10
        case sA10 =>
          refine J33.step_un [(some 48, 9)] (by rfl) rfl (by rfl) (fun vals W hS hV K hK => ?_)
          simp only [J33.layD, Act.put, List.setIfInBounds_toArray, List.set_cons_zero, List.set_cons_succ] at hK ⊢
          have f9 := hV 9 (by decide)
          generalize vals 9 = x9 at f9 hK ⊢
          obtain ⟨g9, rfl, h9x⟩ := f9
          clear hV
          go_simp
          go_at_call 22
          refine (number_call (xs := [n3]) h9x.out (by have := N3.out; intro x hx; simp only [List.mem_cons, List.not_mem_nil, or_false] at hx; omega) (by simp)).mono ?_
          rintro e W2 ⟨rfl, hb⟩
          refine hK.out _ _ (Exists.intro _ ⟨rfl, ⟨by rw [bytesOf_strOf _ (flat_oct _)]; rfl⟩, by rw [strOf_size]; exact flat_len [n3]⟩) (below_step hS hb) hb
        refine J33.all_succ ?_ ?sA9
        case sA9 =>
          refine J33.step_un [(some 47, 8)] (by rfl) rfl (by rfl) (fun vals W hS hV K hK => ?_)
          simp only [J33.layD, Act.put, List.setIfInBounds_toArray, List.set_cons_zero, List.set_cons_succ] at hK ⊢
          have f8 := hV 8 (by decide)
          generalize vals 8 = x8 at f8 hK ⊢
          obtain rfl : x8 = Value.int .i64 n3 := f8
          clear hV
          go_simp
          refine hK.out _ _ (Exists.intro _ ⟨rfl, ⟨ints_new _ _ _ rfl⟩⟩) (below_alloc hS _) (below_alloc (Below.refl _ _) _)
        refine J33.all_succ ?_ ?sA8
        case sA8 =>
          refine J33.step_un [(some 46, 7)] (by rfl) rfl (by rfl) (fun vals W hS hV K hK => ?_)
          simp only [J33.layD, Act.put, List.setIfInBounds_toArray, List.set_cons_zero, List.set_cons_succ] at hK ⊢
          have f7 := hV 7 (by decide)
          generalize vals 7 = x7 at f7 hK ⊢
          obtain rfl : x7 = Value.pointer (some ⟨g, 3, none⟩) := f7
          clear hV
          obtain ⟨c0, c1, c2, c3, c4, c5, c6, c7, cq⟩ := HCw3.out W hS
          go_simp
          refine hK.out _ _ (rfl) hS (Below.refl _ _)
        refine J33.all_succ ?_ ?sA7
        case sA7 =>
          refine J33.step_un [] (by rfl) rfl (by rfl) (fun vals W hS hV K hK => ?_)
          simp only [J33.layD, Act.put, List.setIfInBounds_toArray, List.set_cons_zero, List.set_cons_succ] at hK ⊢
          clear hV
          go_simp
          refine hK.out _ _ (rfl) hS (Below.refl _ _)
        refine J33.all_succ ?_ ?sA6
        case sA6 =>
          refine J33.step_un [(some 44, 5)] (by rfl) rfl (by rfl) (fun vals W hS hV K hK => ?_)
          simp only [J33.layD, Act.put, List.setIfInBounds_toArray, List.set_cons_zero, List.set_cons_succ] at hK ⊢
          have f5 := hV 5 (by decide)
          generalize vals 5 = x5 at f5 hK ⊢
          obtain ⟨s5, rfl, h5x, h5z⟩ := f5
          clear hV
          have mA : s5.size + 1 ≤ 9223372036854775807 := by omega
          have mB : (9223372036854775807 < s5.size + 1) = False := eq_false (by omega)
          go_simp
          refine hK.out _ _ (Exists.intro _ ⟨rfl, ⟨by rw [bytesOf_append, h5x.out]; exact enc_cat (B := [.op 22]) rfl⟩, by rw [ByteArray.size_append]; show s5.size + 1 ≤ 24; omega⟩) hS (Below.refl _ _)
        refine J33.all_succ ?_ ?sA5
        case sA5 =>
          refine J33.step_un [(some 39, 0), (some 43, 4)] (by rfl) rfl (by rfl) (fun vals W hS hV K hK => ?_)
          simp only [J33.layD, Act.put, List.setIfInBounds_toArray, List.set_cons_zero, List.set_cons_succ] at hK ⊢
          have f0 := hV 0 (by decide)
          have f4 := hV 4 (by decide)
          generalize vals 0 = x0 at f0 hK ⊢
          obtain ⟨s0, rfl, h0x, h0z⟩ := f0
          generalize vals 4 = x4 at f4 hK ⊢
          obtain ⟨s4, rfl, h4x, h4z⟩ := f4
          clear hV
          have mA : s0.size + s4.size ≤ 9223372036854775807 := by omega
          have mB : (9223372036854775807 < s0.size + s4.size) = False := eq_false (by omega)
          go_simp
          refine hK.out _ _ (Exists.intro _ ⟨rfl, ⟨by rw [bytesOf_append, h0x.out, h4x.out]; exact enc_cat rfl⟩, by rw [ByteArray.size_append]; omega⟩) hS (Below.refl _ _)
        refine J33.all_succ ?_ ?sA4
        case sA4 =>
          refine J33.step_un [(some 40, 1), (some 42, 3)] (by rfl) rfl (by rfl) (fun vals W hS hV K hK => ?_)
          simp only [J33.layD, Act.put, List.setIfInBounds_toArray, List.set_cons_zero, List.set_cons_succ] at hK ⊢
          have f1 := hV 1 (by decide)
          have f3 := hV 3 (by decide)
          generalize vals 1 = x1 at f1 hK ⊢
          obtain rfl : x1 = Value.func (.func 21) #[] #[.pointer (some ⟨gq, 0, none⟩)] := f1
          generalize vals 3 = x3 at f3 hK ⊢
          obtain rfl : x3 = Value.int .i64 n2 := f3
          clear hV
          go_simp
          go_at_call 21
          refine (part_call n2 qq N2.out HQQ.out gq _ (HCw3.out W hS).2.2.2.2.2.2.2.2).mono ?_
          rintro e W2 ⟨⟨u, rfl, hu, zu⟩, hb⟩
          refine hK.out _ _ (Exists.intro _ ⟨rfl, ⟨by rw [hu]; simp [T33.encs, enc]⟩, zu⟩) (below_step hS hb) hb
        refine J33.all_succ ?_ ?sA3
        case sA3 =>
          refine J33.step_un [(some 41, 2)] (by rfl) rfl (by rfl) (fun vals W hS hV K hK => ?_)
          simp only [J33.layD, Act.put, List.setIfInBounds_toArray, List.set_cons_zero, List.set_cons_succ] at hK ⊢
          have f2 := hV 2 (by decide)
          generalize vals 2 = x2 at f2 hK ⊢
          obtain rfl : x2 = Value.pointer (some ⟨g, 2, none⟩) := f2
          clear hV
          obtain ⟨c0, c1, c2, c3, c4, c5, c6, c7, cq⟩ := HCw3.out W hS
          go_simp
          refine hK.out _ _ (rfl) hS (Below.refl _ _)
        refine J33.all_succ ?_ ?sA2
        case sA2 =>
          refine J33.step_un [] (by rfl) rfl (by rfl) (fun vals W hS hV K hK => ?_)
          simp only [J33.layD, Act.put, List.setIfInBounds_toArray, List.set_cons_zero, List.set_cons_succ] at hK ⊢
          clear hV
          go_simp
          refine hK.out _ _ (rfl) hS (Below.refl _ _)
        refine J33.all_succ ?_ ?sA1
        case sA1 =>
          refine J33.step_un [] (by rfl) rfl (by rfl) (fun vals W hS hV K hK => ?_)
          simp only [J33.layD, Act.put, List.setIfInBounds_toArray, List.set_cons_zero, List.set_cons_succ] at hK ⊢
          clear hV
          go_simp
          refine hK.out _ _ (show _ = Value.func (.func 21) #[] #[.pointer (some ⟨gq, 0, none⟩)] from rfl) hS (Below.refl _ _)
        refine J33.all_succ ?_ ?sA0
        case sA0 =>
          refine J33.step_un [] (by rfl) rfl (by rfl) (fun vals W hS hV K hK => ?_)
          simp only [J33.layD, Act.put, List.setIfInBounds_toArray, List.set_cons_zero, List.set_cons_succ] at hK ⊢
          clear hV
          go_simp
          refine hK.out _ _ (show ∃ t : ByteArray, _ = Value.string t ∧ Aside0 (bytesOf t = T33.encs [.num n0, .num n1, .op 13]) ∧ t.size ≤ 11 from Exists.intro _ ⟨rfl, HSF, zsF⟩) hS (Below.refl _ _)
        exact J33.all_zero
      intro valsA w4 hSA hVA
      simp only [J33.layD, Act.put, List.setIfInBounds_toArray, List.set_cons_zero, List.set_cons_succ]
      have fA : ∃ t : ByteArray, valsA 49 = Value.string t ∧ Aside0 (bytesOf t = T33.encs [.num n0, .num n1, .op 13, .num (n2 * qq), .num qq, .op 268, .op 22, .num n3, .op 4, .num n4, .op 6, .num (n5 * qq), .num qq, .op 268, .op 7, .num n2, .num n3, .num n4, .num n5, .op 30, .num n6, .num n7, .num n0, .num n1, .op 31, .op 256, .op 9, .op 14]) ∧ t.size ≤ 95 := hVA 49 (by decide)
      generalize valsA 49 = xA at fA ⊢
      obtain ⟨sA, rfl, HSA, zsA⟩ := fA
      clear hVA
      have HLSA := Aside0.mk hSA
      clear hSA
      have ZSA := Aside0.mk zsA
      clear zsA
      go_wp2_with fail
      have HCw4 : Aside0 (∀ W, Below w4.heap.size w4 W → W.cell? ⟨g, 0, none⟩ = some (.int .i64 n0) ∧ W.cell? ⟨g, 1, none⟩ = some (.int .i64 n1) ∧ W.cell? ⟨g, 2, none⟩ = some (.int .i64 n2) ∧ W.cell? ⟨g, 3, none⟩ = some (.int .i64 n3) ∧ W.cell? ⟨g, 4, none⟩ = some (.int .i64 n4) ∧ W.cell? ⟨g, 5, none⟩ = some (.int .i64 n5) ∧ W.cell? ⟨g, 6, none⟩ = some (.int .i64 n6) ∧ W.cell? ⟨g, 7, none⟩ = some (.int .i64 n7) ∧ W.cell? ⟨gq, 0, none⟩ = some (.int .i64 qq)) := ⟨fun W hW => HCw3.out W (below_step HLSA.out hW)⟩
      have HS0B : Aside0 (Below w4.heap.size w4 w4.drew) := ⟨pw_below_drewN (Below.refl _ _) 1⟩
      refine J33.region_inv 50 (VB sF g gq qq n0 n1 n2 n3 n4 n5 n6 n7) (fun W => Below w4.heap.size w4 W) (fun W W' => Below W.heap.size W W') depB [(some 88, 0), (some 89, 1), (some 90, 2), (some 91, 3), (some 92, 4), (some 93, 5), (some 94, 6), (some 95, 7), (some 96, 8), (some 97, 9), (some 98, 10), (some 99, 11), (some 100, 12), (some 101, 13), (some 102, 14), (some 103, 15), (some 104, 16), (some 105, 17), (some 106, 18), (some 107, 19), (some 108, 20), (some 109, 21), (some 110, 22), (some 111, 23), (some 112, 24), (some 113, 25), (some 114, 26), (some 115, 27), (some 116, 28), (some 117, 29), (some 118, 30), (some 119, 31), (some 120, 32), (some 121, 33), (some 122, 34), (some 123, 35), (some 124, 36), (some 125, 37), (some 126, 38), (some 127, 39), (some 128, 40), (some 129, 41), (some 130, 42), (some 131, 43), (some 132, 44), (some 133, 45), (some 134, 46), (some 135, 47), (some 136, 48), (some 12, 49)] (by kernel_rfl) rfl (by kernel_rfl) (by kernel_rfl) (by kernel_rfl) (by kernel_rfl) ?stbB ?st0B ?stpB ?finB
      case stbB =>
        refine J33.all_succ ?_ (fun v w w' h _ => h)
        refine J33.all_succ ?_ (fun v w w' h _ => h)
        refine J33.all_succ ?_ (fun v w w' h _ => h)
        refine J33.all_succ ?_ (fun v w w' h _ => h)
        refine J33.all_succ ?_ (fun v w w' ⟨gx, e, hi⟩ hb => ⟨gx, e, ⟨hi.out.below hb⟩⟩)
        refine J33.all_succ ?_ (fun v w w' h _ => h)
        refine J33.all_succ ?_ (fun v w w' h _ => h)
        refine J33.all_succ ?_ (fun v w w' h _ => h)
        refine J33.all_succ ?_ (fun v w w' h _ => h)
        refine J33.all_succ ?_ (fun v w w' h _ => h)
        refine J33.all_succ ?_ (fun v w w' h _ => h)
        refine J33.all_succ ?_ (fun v w w' h _ => h)
        refine J33.all_succ ?_ (fun v w w' h _ => h)
        refine J33.all_succ ?_ (fun v w w' h _ => h)
        refine J33.all_succ ?_ (fun v w w' h _ => h)
        refine J33.all_succ ?_ (fun v w w' h _ => h)
        refine J33.all_succ ?_ (fun v w w' ⟨gx, e, hi⟩ hb => ⟨gx, e, ⟨hi.out.below hb⟩⟩)
        refine J33.all_succ ?_ (fun v w w' h _ => h)
        refine J33.all_succ ?_ (fun v w w' h _ => h)
        refine J33.all_succ ?_ (fun v w w' h _ => h)
        refine J33.all_succ ?_ (fun v w w' h _ => h)
        refine J33.all_succ ?_ (fun v w w' h _ => h)
        refine J33.all_succ ?_ (fun v w w' h _ => h)
        refine J33.all_succ ?_ (fun v w w' h _ => h)
        refine J33.all_succ ?_ (fun v w w' h _ => h)
        refine J33.all_succ ?_ (fun v w w' h _ => h)
        refine J33.all_succ ?_ (fun v w w' h _ => h)
        refine J33.all_succ ?_ (fun v w w' h _ => h)
        refine J33.all_succ ?_ (fun v w w' ⟨gx, e, hi⟩ hb => ⟨gx, e, ⟨hi.out.below hb⟩⟩)
        refine J33.all_succ ?_ (fun v w w' h _ => h)
        refine J33.all_succ ?_ (fun v w w' h _ => h)
        refine J33.all_succ ?_ (fun v w w' h _ => h)
        refine J33.all_succ ?_ (fun v w w' h _ => h)
        refine J33.all_succ ?_ (fun v w w' h _ => h)
        refine J33.all_succ ?_ (fun v w w' ⟨gx, e, hi⟩ hb => ⟨gx, e, ⟨hi.out.below hb⟩⟩)
        refine J33.all_succ ?_ (fun v w w' h _ => h)
        refine J33.all_succ ?_ (fun v w w' h _ => h)
        refine J33.all_succ ?_ (fun v w w' h _ => h)
        refine J33.all_succ ?_ (fun v w w' h _ => h)
        refine J33.all_succ ?_ (fun v w w' h _ => h)
        refine J33.all_succ ?_ (fun v w w' ⟨gx, e, hi⟩ hb => ⟨gx, e, ⟨hi.out.below hb⟩⟩)
        refine J33.all_succ ?_ (fun v w w' h _ => h)
        refine J33.all_succ ?_ (fun v w w' h _ => h)
        refine J33.all_succ ?_ (fun v w w' h _ => h)
        refine J33.all_succ ?_ (fun v w w' h _ => h)
        refine J33.all_succ ?_ (fun v w w' h _ => h)
        refine J33.all_succ ?_ (fun v w w' ⟨gx, e, hi⟩ hb => ⟨gx, e, ⟨hi.out.below hb⟩⟩)
        refine J33.all_succ ?_ (fun v w w' h _ => h)
        refine J33.all_succ ?_ (fun v w w' h _ => h)
        refine J33.all_succ ?_ (fun v w w' h _ => h)
        exact J33.all_zero
      case st0B => exact HS0B.out
      case stpB =>
        refine J33.all_succ ?_ ?sB49
        case sB49 =>
          refine J33.step_un [(some 136, 48)] (by rfl) rfl (by rfl) (fun vals W hS hV K hK => ?_)
          simp only [J33.layD, Act.put, List.setIfInBounds_toArray, List.set_cons_zero, List.set_cons_succ] at hK ⊢
          have f48 := hV 48 (by decide)
          generalize vals 48 = x48 at f48 hK ⊢
          obtain ⟨s48, rfl, h48x, h48z⟩ := f48
          clear hV
          go_simp
          refine hK.out _ _ (show ∃ t : ByteArray, _ = Value.string t ∧ Aside0 (bytesOf t = T33.encs [.num n0, .num n1, .op 13, .num n2, .num 0, .op 21, .num 0, .num n3, .op 21, .num n4, .num 0, .op 5, .num 0, .num n5, .op 5, .num 0, .num n2, .num n3, .num n4, .num n5, .num 0, .op 8, .num n6, .num 0, .num n7, .num n0, .num 0, .num n1, .op 8, .op 9, .op 14]) ∧ t.size ≤ 119 from Exists.intro _ ⟨rfl, h48x, h48z⟩) hS (Below.refl _ _)
        refine J33.all_succ ?_ ?sB48
        case sB48 =>
          refine J33.step_un [(some 135, 47)] (by rfl) rfl (by rfl) (fun vals W hS hV K hK => ?_)
          simp only [J33.layD, Act.put, List.setIfInBounds_toArray, List.set_cons_zero, List.set_cons_succ] at hK ⊢
          have f47 := hV 47 (by decide)
          generalize vals 47 = x47 at f47 hK ⊢
          obtain ⟨s47, rfl, h47x, h47z⟩ := f47
          clear hV
          have mA : s47.size + 3 ≤ 9223372036854775807 := by omega
          have mB : (9223372036854775807 < s47.size + 3) = False := eq_false (by omega)
          go_simp
          refine hK.out _ _ (Exists.intro _ ⟨rfl, ⟨by rw [bytesOf_append, h47x.out]; exact enc_cat (B := [.op 8, .op 9, .op 14]) rfl⟩, by rw [ByteArray.size_append]; show s47.size + 3 ≤ 119; omega⟩) hS (Below.refl _ _)
        refine J33.all_succ ?_ ?sB47
        case sB47 =>
          refine J33.step_un [(some 124, 36), (some 134, 46)] (by rfl) rfl (by rfl) (fun vals W hS hV K hK => ?_)
          simp only [J33.layD, Act.put, List.setIfInBounds_toArray, List.set_cons_zero, List.set_cons_succ] at hK ⊢
          have f36 := hV 36 (by decide)
          have f46 := hV 46 (by decide)
          generalize vals 36 = x36 at f36 hK ⊢
          obtain ⟨s36, rfl, h36x, h36z⟩ := f36
          generalize vals 46 = x46 at f46 hK ⊢
          obtain ⟨s46, rfl, h46x, h46z⟩ := f46
          clear hV
          have mA : s36.size + s46.size ≤ 9223372036854775807 := by omega
          have mB : (9223372036854775807 < s36.size + s46.size) = False := eq_false (by omega)
          go_simp
          refine hK.out _ _ (Exists.intro _ ⟨rfl, ⟨by rw [bytesOf_append, h36x.out, h46x.out]; exact enc_cat rfl⟩, by rw [ByteArray.size_append]; omega⟩) hS (Below.refl _ _)
        refine J33.all_succ ?_ ?sB46
        case sB46 =>
          refine J33.step_un [(some 133, 45)] (by rfl) rfl (by rfl) (fun vals W hS hV K hK => ?_)
          simp only [J33.layD, Act.put, List.setIfInBounds_toArray, List.set_cons_zero, List.set_cons_succ] at hK ⊢
          have f45 := hV 45 (by decide)
          generalize vals 45 = x45 at f45 hK ⊢
          obtain ⟨g45, rfl, h45x⟩ := f45
          clear hV
          go_simp
          go_at_call 22
          refine (number_call (xs := [n6, 0, n7, n0, 0, n1]) h45x.out (by have := N0.out; have := N1.out; have := N6.out; have := N7.out; intro x hx; simp only [List.mem_cons, List.not_mem_nil, or_false] at hx; omega) (by simp)).mono ?_
          rintro e W2 ⟨rfl, hb⟩
          refine hK.out _ _ (Exists.intro _ ⟨rfl, ⟨by rw [bytesOf_strOf _ (flat_oct _)]; rfl⟩, by rw [strOf_size]; exact flat_len [n6, 0, n7, n0, 0, n1]⟩) (below_step hS hb) hb
        refine J33.all_succ ?_ ?sB45
        case sB45 =>
          refine J33.step_un [(some 126, 38), (some 128, 40), (some 130, 42), (some 132, 44)] (by rfl) rfl (by rfl) (fun vals W hS hV K hK => ?_)
          simp only [J33.layD, Act.put, List.setIfInBounds_toArray, List.set_cons_zero, List.set_cons_succ] at hK ⊢
          have f38 := hV 38 (by decide)
          have f40 := hV 40 (by decide)
          have f42 := hV 42 (by decide)
          have f44 := hV 44 (by decide)
          generalize vals 38 = x38 at f38 hK ⊢
          obtain rfl : x38 = Value.int .i64 n6 := f38
          generalize vals 40 = x40 at f40 hK ⊢
          obtain rfl : x40 = Value.int .i64 n7 := f40
          generalize vals 42 = x42 at f42 hK ⊢
          obtain rfl : x42 = Value.int .i64 n0 := f42
          generalize vals 44 = x44 at f44 hK ⊢
          obtain rfl : x44 = Value.int .i64 n1 := f44
          clear hV
          go_simp
          refine hK.out _ _ (Exists.intro _ ⟨rfl, ⟨ints_new _ _ _ rfl⟩⟩) (below_alloc hS _) (below_alloc (Below.refl _ _) _)
        refine J33.all_succ ?_ ?sB44
        case sB44 =>
          refine J33.step_un [(some 131, 43)] (by rfl) rfl (by rfl) (fun vals W hS hV K hK => ?_)
          simp only [J33.layD, Act.put, List.setIfInBounds_toArray, List.set_cons_zero, List.set_cons_succ] at hK ⊢
          have f43 := hV 43 (by decide)
          generalize vals 43 = x43 at f43 hK ⊢
          obtain rfl : x43 = Value.pointer (some ⟨g, 1, none⟩) := f43
          clear hV
          obtain ⟨c0, c1, c2, c3, c4, c5, c6, c7, cq⟩ := HCw4.out W hS
          go_simp
          refine hK.out _ _ (rfl) hS (Below.refl _ _)
        refine J33.all_succ ?_ ?sB43
        case sB43 =>
          refine J33.step_un [] (by rfl) rfl (by rfl) (fun vals W hS hV K hK => ?_)
          simp only [J33.layD, Act.put, List.setIfInBounds_toArray, List.set_cons_zero, List.set_cons_succ] at hK ⊢
          clear hV
          go_simp
          refine hK.out _ _ (rfl) hS (Below.refl _ _)
        refine J33.all_succ ?_ ?sB42
        case sB42 =>
          refine J33.step_un [(some 129, 41)] (by rfl) rfl (by rfl) (fun vals W hS hV K hK => ?_)
          simp only [J33.layD, Act.put, List.setIfInBounds_toArray, List.set_cons_zero, List.set_cons_succ] at hK ⊢
          have f41 := hV 41 (by decide)
          generalize vals 41 = x41 at f41 hK ⊢
          obtain rfl : x41 = Value.pointer (some ⟨g, 0, none⟩) := f41
          clear hV
          obtain ⟨c0, c1, c2, c3, c4, c5, c6, c7, cq⟩ := HCw4.out W hS
          go_simp
          refine hK.out _ _ (rfl) hS (Below.refl _ _)
        refine J33.all_succ ?_ ?sB41
        case sB41 =>
          refine J33.step_un [] (by rfl) rfl (by rfl) (fun vals W hS hV K hK => ?_)
          simp only [J33.layD, Act.put, List.setIfInBounds_toArray, List.set_cons_zero, List.set_cons_succ] at hK ⊢
          clear hV
          go_simp
          refine hK.out _ _ (rfl) hS (Below.refl _ _)
        refine J33.all_succ ?_ ?sB40
        case sB40 =>
          refine J33.step_un [(some 127, 39)] (by rfl) rfl (by rfl) (fun vals W hS hV K hK => ?_)
          simp only [J33.layD, Act.put, List.setIfInBounds_toArray, List.set_cons_zero, List.set_cons_succ] at hK ⊢
          have f39 := hV 39 (by decide)
          generalize vals 39 = x39 at f39 hK ⊢
          obtain rfl : x39 = Value.pointer (some ⟨g, 7, none⟩) := f39
          clear hV
          obtain ⟨c0, c1, c2, c3, c4, c5, c6, c7, cq⟩ := HCw4.out W hS
          go_simp
          refine hK.out _ _ (rfl) hS (Below.refl _ _)
        refine J33.all_succ ?_ ?sB39
        case sB39 =>
          refine J33.step_un [] (by rfl) rfl (by rfl) (fun vals W hS hV K hK => ?_)
          simp only [J33.layD, Act.put, List.setIfInBounds_toArray, List.set_cons_zero, List.set_cons_succ] at hK ⊢
          clear hV
          go_simp
          refine hK.out _ _ (rfl) hS (Below.refl _ _)
        refine J33.all_succ ?_ ?sB38
        case sB38 =>
          refine J33.step_un [(some 125, 37)] (by rfl) rfl (by rfl) (fun vals W hS hV K hK => ?_)
          simp only [J33.layD, Act.put, List.setIfInBounds_toArray, List.set_cons_zero, List.set_cons_succ] at hK ⊢
          have f37 := hV 37 (by decide)
          generalize vals 37 = x37 at f37 hK ⊢
          obtain rfl : x37 = Value.pointer (some ⟨g, 6, none⟩) := f37
          clear hV
          obtain ⟨c0, c1, c2, c3, c4, c5, c6, c7, cq⟩ := HCw4.out W hS
          go_simp
          refine hK.out _ _ (rfl) hS (Below.refl _ _)
        refine J33.all_succ ?_ ?sB37
        case sB37 =>
          refine J33.step_un [] (by rfl) rfl (by rfl) (fun vals W hS hV K hK => ?_)
          simp only [J33.layD, Act.put, List.setIfInBounds_toArray, List.set_cons_zero, List.set_cons_succ] at hK ⊢
          clear hV
          go_simp
          refine hK.out _ _ (rfl) hS (Below.refl _ _)
        refine J33.all_succ ?_ ?sB36
        case sB36 =>
          refine J33.step_un [(some 123, 35)] (by rfl) rfl (by rfl) (fun vals W hS hV K hK => ?_)
          simp only [J33.layD, Act.put, List.setIfInBounds_toArray, List.set_cons_zero, List.set_cons_succ] at hK ⊢
          have f35 := hV 35 (by decide)
          generalize vals 35 = x35 at f35 hK ⊢
          obtain ⟨s35, rfl, h35x, h35z⟩ := f35
          clear hV
          have mA : s35.size + 1 ≤ 9223372036854775807 := by omega
          have mB : (9223372036854775807 < s35.size + 1) = False := eq_false (by omega)
          go_simp
          refine hK.out _ _ (Exists.intro _ ⟨rfl, ⟨by rw [bytesOf_append, h35x.out]; exact enc_cat (B := [.op 8]) rfl⟩, by rw [ByteArray.size_append]; show s35.size + 1 ≤ 86; omega⟩) hS (Below.refl _ _)
        refine J33.all_succ ?_ ?sB35
        case sB35 =>
          refine J33.step_un [(some 112, 24), (some 122, 34)] (by rfl) rfl (by rfl) (fun vals W hS hV K hK => ?_)
          simp only [J33.layD, Act.put, List.setIfInBounds_toArray, List.set_cons_zero, List.set_cons_succ] at hK ⊢
          have f24 := hV 24 (by decide)
          have f34 := hV 34 (by decide)
          generalize vals 24 = x24 at f24 hK ⊢
          obtain ⟨s24, rfl, h24x, h24z⟩ := f24
          generalize vals 34 = x34 at f34 hK ⊢
          obtain ⟨s34, rfl, h34x, h34z⟩ := f34
          clear hV
          have mA : s24.size + s34.size ≤ 9223372036854775807 := by omega
          have mB : (9223372036854775807 < s24.size + s34.size) = False := eq_false (by omega)
          go_simp
          refine hK.out _ _ (Exists.intro _ ⟨rfl, ⟨by rw [bytesOf_append, h24x.out, h34x.out]; exact enc_cat rfl⟩, by rw [ByteArray.size_append]; omega⟩) hS (Below.refl _ _)
        refine J33.all_succ ?_ ?sB34
        case sB34 =>
          refine J33.step_un [(some 121, 33)] (by rfl) rfl (by rfl) (fun vals W hS hV K hK => ?_)
          simp only [J33.layD, Act.put, List.setIfInBounds_toArray, List.set_cons_zero, List.set_cons_succ] at hK ⊢
          have f33 := hV 33 (by decide)
          generalize vals 33 = x33 at f33 hK ⊢
          obtain ⟨g33, rfl, h33x⟩ := f33
          clear hV
          go_simp
          go_at_call 22
          refine (number_call (xs := [0, n2, n3, n4, n5, 0]) h33x.out (by have := N2.out; have := N3.out; have := N4.out; have := N5.out; intro x hx; simp only [List.mem_cons, List.not_mem_nil, or_false] at hx; omega) (by simp)).mono ?_
          rintro e W2 ⟨rfl, hb⟩
          refine hK.out _ _ (Exists.intro _ ⟨rfl, ⟨by rw [bytesOf_strOf _ (flat_oct _)]; rfl⟩, by rw [strOf_size]; exact flat_len [0, n2, n3, n4, n5, 0]⟩) (below_step hS hb) hb
        refine J33.all_succ ?_ ?sB33
        case sB33 =>
          refine J33.step_un [(some 114, 26), (some 116, 28), (some 118, 30), (some 120, 32)] (by rfl) rfl (by rfl) (fun vals W hS hV K hK => ?_)
          simp only [J33.layD, Act.put, List.setIfInBounds_toArray, List.set_cons_zero, List.set_cons_succ] at hK ⊢
          have f26 := hV 26 (by decide)
          have f28 := hV 28 (by decide)
          have f30 := hV 30 (by decide)
          have f32 := hV 32 (by decide)
          generalize vals 26 = x26 at f26 hK ⊢
          obtain rfl : x26 = Value.int .i64 n2 := f26
          generalize vals 28 = x28 at f28 hK ⊢
          obtain rfl : x28 = Value.int .i64 n3 := f28
          generalize vals 30 = x30 at f30 hK ⊢
          obtain rfl : x30 = Value.int .i64 n4 := f30
          generalize vals 32 = x32 at f32 hK ⊢
          obtain rfl : x32 = Value.int .i64 n5 := f32
          clear hV
          go_simp
          refine hK.out _ _ (Exists.intro _ ⟨rfl, ⟨ints_new _ _ _ rfl⟩⟩) (below_alloc hS _) (below_alloc (Below.refl _ _) _)
        refine J33.all_succ ?_ ?sB32
        case sB32 =>
          refine J33.step_un [(some 119, 31)] (by rfl) rfl (by rfl) (fun vals W hS hV K hK => ?_)
          simp only [J33.layD, Act.put, List.setIfInBounds_toArray, List.set_cons_zero, List.set_cons_succ] at hK ⊢
          have f31 := hV 31 (by decide)
          generalize vals 31 = x31 at f31 hK ⊢
          obtain rfl : x31 = Value.pointer (some ⟨g, 5, none⟩) := f31
          clear hV
          obtain ⟨c0, c1, c2, c3, c4, c5, c6, c7, cq⟩ := HCw4.out W hS
          go_simp
          refine hK.out _ _ (rfl) hS (Below.refl _ _)
        refine J33.all_succ ?_ ?sB31
        case sB31 =>
          refine J33.step_un [] (by rfl) rfl (by rfl) (fun vals W hS hV K hK => ?_)
          simp only [J33.layD, Act.put, List.setIfInBounds_toArray, List.set_cons_zero, List.set_cons_succ] at hK ⊢
          clear hV
          go_simp
          refine hK.out _ _ (rfl) hS (Below.refl _ _)
        refine J33.all_succ ?_ ?sB30
        case sB30 =>
          refine J33.step_un [(some 117, 29)] (by rfl) rfl (by rfl) (fun vals W hS hV K hK => ?_)
          simp only [J33.layD, Act.put, List.setIfInBounds_toArray, List.set_cons_zero, List.set_cons_succ] at hK ⊢
          have f29 := hV 29 (by decide)
          generalize vals 29 = x29 at f29 hK ⊢
          obtain rfl : x29 = Value.pointer (some ⟨g, 4, none⟩) := f29
          clear hV
          obtain ⟨c0, c1, c2, c3, c4, c5, c6, c7, cq⟩ := HCw4.out W hS
          go_simp
          refine hK.out _ _ (rfl) hS (Below.refl _ _)
        refine J33.all_succ ?_ ?sB29
        case sB29 =>
          refine J33.step_un [] (by rfl) rfl (by rfl) (fun vals W hS hV K hK => ?_)
          simp only [J33.layD, Act.put, List.setIfInBounds_toArray, List.set_cons_zero, List.set_cons_succ] at hK ⊢
          clear hV
          go_simp
          refine hK.out _ _ (rfl) hS (Below.refl _ _)
        refine J33.all_succ ?_ ?sB28
        case sB28 =>
          refine J33.step_un [(some 115, 27)] (by rfl) rfl (by rfl) (fun vals W hS hV K hK => ?_)
          simp only [J33.layD, Act.put, List.setIfInBounds_toArray, List.set_cons_zero, List.set_cons_succ] at hK ⊢
          have f27 := hV 27 (by decide)
          generalize vals 27 = x27 at f27 hK ⊢
          obtain rfl : x27 = Value.pointer (some ⟨g, 3, none⟩) := f27
          clear hV
          obtain ⟨c0, c1, c2, c3, c4, c5, c6, c7, cq⟩ := HCw4.out W hS
          go_simp
          refine hK.out _ _ (rfl) hS (Below.refl _ _)
        refine J33.all_succ ?_ ?sB27
        case sB27 =>
          refine J33.step_un [] (by rfl) rfl (by rfl) (fun vals W hS hV K hK => ?_)
          simp only [J33.layD, Act.put, List.setIfInBounds_toArray, List.set_cons_zero, List.set_cons_succ] at hK ⊢
          clear hV
          go_simp
          refine hK.out _ _ (rfl) hS (Below.refl _ _)
        refine J33.all_succ ?_ ?sB26
        case sB26 =>
          refine J33.step_un [(some 113, 25)] (by rfl) rfl (by rfl) (fun vals W hS hV K hK => ?_)
          simp only [J33.layD, Act.put, List.setIfInBounds_toArray, List.set_cons_zero, List.set_cons_succ] at hK ⊢
          have f25 := hV 25 (by decide)
          generalize vals 25 = x25 at f25 hK ⊢
          obtain rfl : x25 = Value.pointer (some ⟨g, 2, none⟩) := f25
          clear hV
          obtain ⟨c0, c1, c2, c3, c4, c5, c6, c7, cq⟩ := HCw4.out W hS
          go_simp
          refine hK.out _ _ (rfl) hS (Below.refl _ _)
        refine J33.all_succ ?_ ?sB25
        case sB25 =>
          refine J33.step_un [] (by rfl) rfl (by rfl) (fun vals W hS hV K hK => ?_)
          simp only [J33.layD, Act.put, List.setIfInBounds_toArray, List.set_cons_zero, List.set_cons_succ] at hK ⊢
          clear hV
          go_simp
          refine hK.out _ _ (rfl) hS (Below.refl _ _)
        refine J33.all_succ ?_ ?sB24
        case sB24 =>
          refine J33.step_un [(some 111, 23)] (by rfl) rfl (by rfl) (fun vals W hS hV K hK => ?_)
          simp only [J33.layD, Act.put, List.setIfInBounds_toArray, List.set_cons_zero, List.set_cons_succ] at hK ⊢
          have f23 := hV 23 (by decide)
          generalize vals 23 = x23 at f23 hK ⊢
          obtain ⟨s23, rfl, h23x, h23z⟩ := f23
          clear hV
          have mA : s23.size + 1 ≤ 9223372036854775807 := by omega
          have mB : (9223372036854775807 < s23.size + 1) = False := eq_false (by omega)
          go_simp
          refine hK.out _ _ (Exists.intro _ ⟨rfl, ⟨by rw [bytesOf_append, h23x.out]; exact enc_cat (B := [.op 5]) rfl⟩, by rw [ByteArray.size_append]; show s23.size + 1 ≤ 55; omega⟩) hS (Below.refl _ _)
        refine J33.all_succ ?_ ?sB23
        case sB23 =>
          refine J33.step_un [(some 106, 18), (some 110, 22)] (by rfl) rfl (by rfl) (fun vals W hS hV K hK => ?_)
          simp only [J33.layD, Act.put, List.setIfInBounds_toArray, List.set_cons_zero, List.set_cons_succ] at hK ⊢
          have f18 := hV 18 (by decide)
          have f22 := hV 22 (by decide)
          generalize vals 18 = x18 at f18 hK ⊢
          obtain ⟨s18, rfl, h18x, h18z⟩ := f18
          generalize vals 22 = x22 at f22 hK ⊢
          obtain ⟨s22, rfl, h22x, h22z⟩ := f22
          clear hV
          have mA : s18.size + s22.size ≤ 9223372036854775807 := by omega
          have mB : (9223372036854775807 < s18.size + s22.size) = False := eq_false (by omega)
          go_simp
          refine hK.out _ _ (Exists.intro _ ⟨rfl, ⟨by rw [bytesOf_append, h18x.out, h22x.out]; exact enc_cat rfl⟩, by rw [ByteArray.size_append]; omega⟩) hS (Below.refl _ _)
        refine J33.all_succ ?_ ?sB22
        case sB22 =>
          refine J33.step_un [(some 109, 21)] (by rfl) rfl (by rfl) (fun vals W hS hV K hK => ?_)
          simp only [J33.layD, Act.put, List.setIfInBounds_toArray, List.set_cons_zero, List.set_cons_succ] at hK ⊢
          have f21 := hV 21 (by decide)
          generalize vals 21 = x21 at f21 hK ⊢
          obtain ⟨g21, rfl, h21x⟩ := f21
          clear hV
          go_simp
          go_at_call 22
          refine (number_call (xs := [0, n5]) h21x.out (by have := N5.out; intro x hx; simp only [List.mem_cons, List.not_mem_nil, or_false] at hx; omega) (by simp)).mono ?_
          rintro e W2 ⟨rfl, hb⟩
          refine hK.out _ _ (Exists.intro _ ⟨rfl, ⟨by rw [bytesOf_strOf _ (flat_oct _)]; rfl⟩, by rw [strOf_size]; exact flat_len [0, n5]⟩) (below_step hS hb) hb
        refine J33.all_succ ?_ ?sB21
        case sB21 =>
          refine J33.step_un [(some 108, 20)] (by rfl) rfl (by rfl) (fun vals W hS hV K hK => ?_)
          simp only [J33.layD, Act.put, List.setIfInBounds_toArray, List.set_cons_zero, List.set_cons_succ] at hK ⊢
          have f20 := hV 20 (by decide)
          generalize vals 20 = x20 at f20 hK ⊢
          obtain rfl : x20 = Value.int .i64 n5 := f20
          clear hV
          go_simp
          refine hK.out _ _ (Exists.intro _ ⟨rfl, ⟨ints_new _ _ _ rfl⟩⟩) (below_alloc hS _) (below_alloc (Below.refl _ _) _)
        refine J33.all_succ ?_ ?sB20
        case sB20 =>
          refine J33.step_un [(some 107, 19)] (by rfl) rfl (by rfl) (fun vals W hS hV K hK => ?_)
          simp only [J33.layD, Act.put, List.setIfInBounds_toArray, List.set_cons_zero, List.set_cons_succ] at hK ⊢
          have f19 := hV 19 (by decide)
          generalize vals 19 = x19 at f19 hK ⊢
          obtain rfl : x19 = Value.pointer (some ⟨g, 5, none⟩) := f19
          clear hV
          obtain ⟨c0, c1, c2, c3, c4, c5, c6, c7, cq⟩ := HCw4.out W hS
          go_simp
          refine hK.out _ _ (rfl) hS (Below.refl _ _)
        refine J33.all_succ ?_ ?sB19
        case sB19 =>
          refine J33.step_un [] (by rfl) rfl (by rfl) (fun vals W hS hV K hK => ?_)
          simp only [J33.layD, Act.put, List.setIfInBounds_toArray, List.set_cons_zero, List.set_cons_succ] at hK ⊢
          clear hV
          go_simp
          refine hK.out _ _ (rfl) hS (Below.refl _ _)
        refine J33.all_succ ?_ ?sB18
        case sB18 =>
          refine J33.step_un [(some 105, 17)] (by rfl) rfl (by rfl) (fun vals W hS hV K hK => ?_)
          simp only [J33.layD, Act.put, List.setIfInBounds_toArray, List.set_cons_zero, List.set_cons_succ] at hK ⊢
          have f17 := hV 17 (by decide)
          generalize vals 17 = x17 at f17 hK ⊢
          obtain ⟨s17, rfl, h17x, h17z⟩ := f17
          clear hV
          have mA : s17.size + 1 ≤ 9223372036854775807 := by omega
          have mB : (9223372036854775807 < s17.size + 1) = False := eq_false (by omega)
          go_simp
          refine hK.out _ _ (Exists.intro _ ⟨rfl, ⟨by rw [bytesOf_append, h17x.out]; exact enc_cat (B := [.op 5]) rfl⟩, by rw [ByteArray.size_append]; show s17.size + 1 ≤ 44; omega⟩) hS (Below.refl _ _)
        refine J33.all_succ ?_ ?sB17
        case sB17 =>
          refine J33.step_un [(some 100, 12), (some 104, 16)] (by rfl) rfl (by rfl) (fun vals W hS hV K hK => ?_)
          simp only [J33.layD, Act.put, List.setIfInBounds_toArray, List.set_cons_zero, List.set_cons_succ] at hK ⊢
          have f12 := hV 12 (by decide)
          have f16 := hV 16 (by decide)
          generalize vals 12 = x12 at f12 hK ⊢
          obtain ⟨s12, rfl, h12x, h12z⟩ := f12
          generalize vals 16 = x16 at f16 hK ⊢
          obtain ⟨s16, rfl, h16x, h16z⟩ := f16
          clear hV
          have mA : s12.size + s16.size ≤ 9223372036854775807 := by omega
          have mB : (9223372036854775807 < s12.size + s16.size) = False := eq_false (by omega)
          go_simp
          refine hK.out _ _ (Exists.intro _ ⟨rfl, ⟨by rw [bytesOf_append, h12x.out, h16x.out]; exact enc_cat rfl⟩, by rw [ByteArray.size_append]; omega⟩) hS (Below.refl _ _)
        refine J33.all_succ ?_ ?sB16
        case sB16 =>
          refine J33.step_un [(some 103, 15)] (by rfl) rfl (by rfl) (fun vals W hS hV K hK => ?_)
          simp only [J33.layD, Act.put, List.setIfInBounds_toArray, List.set_cons_zero, List.set_cons_succ] at hK ⊢
          have f15 := hV 15 (by decide)
          generalize vals 15 = x15 at f15 hK ⊢
          obtain ⟨g15, rfl, h15x⟩ := f15
          clear hV
          go_simp
          go_at_call 22
          refine (number_call (xs := [n4, 0]) h15x.out (by have := N4.out; intro x hx; simp only [List.mem_cons, List.not_mem_nil, or_false] at hx; omega) (by simp)).mono ?_
          rintro e W2 ⟨rfl, hb⟩
          refine hK.out _ _ (Exists.intro _ ⟨rfl, ⟨by rw [bytesOf_strOf _ (flat_oct _)]; rfl⟩, by rw [strOf_size]; exact flat_len [n4, 0]⟩) (below_step hS hb) hb
        refine J33.all_succ ?_ ?sB15
        case sB15 =>
          refine J33.step_un [(some 102, 14)] (by rfl) rfl (by rfl) (fun vals W hS hV K hK => ?_)
          simp only [J33.layD, Act.put, List.setIfInBounds_toArray, List.set_cons_zero, List.set_cons_succ] at hK ⊢
          have f14 := hV 14 (by decide)
          generalize vals 14 = x14 at f14 hK ⊢
          obtain rfl : x14 = Value.int .i64 n4 := f14
          clear hV
          go_simp
          refine hK.out _ _ (Exists.intro _ ⟨rfl, ⟨ints_new _ _ _ rfl⟩⟩) (below_alloc hS _) (below_alloc (Below.refl _ _) _)
        refine J33.all_succ ?_ ?sB14
        case sB14 =>
          refine J33.step_un [(some 101, 13)] (by rfl) rfl (by rfl) (fun vals W hS hV K hK => ?_)
          simp only [J33.layD, Act.put, List.setIfInBounds_toArray, List.set_cons_zero, List.set_cons_succ] at hK ⊢
          have f13 := hV 13 (by decide)
          generalize vals 13 = x13 at f13 hK ⊢
          obtain rfl : x13 = Value.pointer (some ⟨g, 4, none⟩) := f13
          clear hV
          obtain ⟨c0, c1, c2, c3, c4, c5, c6, c7, cq⟩ := HCw4.out W hS
          go_simp
          refine hK.out _ _ (rfl) hS (Below.refl _ _)
        refine J33.all_succ ?_ ?sB13
        case sB13 =>
          refine J33.step_un [] (by rfl) rfl (by rfl) (fun vals W hS hV K hK => ?_)
          simp only [J33.layD, Act.put, List.setIfInBounds_toArray, List.set_cons_zero, List.set_cons_succ] at hK ⊢
          clear hV
          go_simp
          refine hK.out _ _ (rfl) hS (Below.refl _ _)
        refine J33.all_succ ?_ ?sB12
        case sB12 =>
          refine J33.step_un [(some 99, 11)] (by rfl) rfl (by rfl) (fun vals W hS hV K hK => ?_)
          simp only [J33.layD, Act.put, List.setIfInBounds_toArray, List.set_cons_zero, List.set_cons_succ] at hK ⊢
          have f11 := hV 11 (by decide)
          generalize vals 11 = x11 at f11 hK ⊢
          obtain ⟨s11, rfl, h11x, h11z⟩ := f11
          clear hV
          have mA : s11.size + 1 ≤ 9223372036854775807 := by omega
          have mB : (9223372036854775807 < s11.size + 1) = False := eq_false (by omega)
          go_simp
          refine hK.out _ _ (Exists.intro _ ⟨rfl, ⟨by rw [bytesOf_append, h11x.out]; exact enc_cat (B := [.op 21]) rfl⟩, by rw [ByteArray.size_append]; show s11.size + 1 ≤ 33; omega⟩) hS (Below.refl _ _)
        refine J33.all_succ ?_ ?sB11
        case sB11 =>
          refine J33.step_un [(some 94, 6), (some 98, 10)] (by rfl) rfl (by rfl) (fun vals W hS hV K hK => ?_)
          simp only [J33.layD, Act.put, List.setIfInBounds_toArray, List.set_cons_zero, List.set_cons_succ] at hK ⊢
          have f6 := hV 6 (by decide)
          have f10 := hV 10 (by decide)
          generalize vals 6 = x6 at f6 hK ⊢
          obtain ⟨s6, rfl, h6x, h6z⟩ := f6
          generalize vals 10 = x10 at f10 hK ⊢
          obtain ⟨s10, rfl, h10x, h10z⟩ := f10
          clear hV
          have mA : s6.size + s10.size ≤ 9223372036854775807 := by omega
          have mB : (9223372036854775807 < s6.size + s10.size) = False := eq_false (by omega)
          go_simp
          refine hK.out _ _ (Exists.intro _ ⟨rfl, ⟨by rw [bytesOf_append, h6x.out, h10x.out]; exact enc_cat rfl⟩, by rw [ByteArray.size_append]; omega⟩) hS (Below.refl _ _)
        refine J33.all_succ ?_ ?sB10
        case sB10 =>
          refine J33.step_un [(some 97, 9)] (by rfl) rfl (by rfl) (fun vals W hS hV K hK => ?_)
          simp only [J33.layD, Act.put, List.setIfInBounds_toArray, List.set_cons_zero, List.set_cons_succ] at hK ⊢
          have f9 := hV 9 (by decide)
          generalize vals 9 = x9 at f9 hK ⊢
          obtain ⟨g9, rfl, h9x⟩ := f9
          clear hV
          go_simp
          go_at_call 22
          refine (number_call (xs := [0, n3]) h9x.out (by have := N3.out; intro x hx; simp only [List.mem_cons, List.not_mem_nil, or_false] at hx; omega) (by simp)).mono ?_
          rintro e W2 ⟨rfl, hb⟩
          refine hK.out _ _ (Exists.intro _ ⟨rfl, ⟨by rw [bytesOf_strOf _ (flat_oct _)]; rfl⟩, by rw [strOf_size]; exact flat_len [0, n3]⟩) (below_step hS hb) hb
        refine J33.all_succ ?_ ?sB9
        case sB9 =>
          refine J33.step_un [(some 96, 8)] (by rfl) rfl (by rfl) (fun vals W hS hV K hK => ?_)
          simp only [J33.layD, Act.put, List.setIfInBounds_toArray, List.set_cons_zero, List.set_cons_succ] at hK ⊢
          have f8 := hV 8 (by decide)
          generalize vals 8 = x8 at f8 hK ⊢
          obtain rfl : x8 = Value.int .i64 n3 := f8
          clear hV
          go_simp
          refine hK.out _ _ (Exists.intro _ ⟨rfl, ⟨ints_new _ _ _ rfl⟩⟩) (below_alloc hS _) (below_alloc (Below.refl _ _) _)
        refine J33.all_succ ?_ ?sB8
        case sB8 =>
          refine J33.step_un [(some 95, 7)] (by rfl) rfl (by rfl) (fun vals W hS hV K hK => ?_)
          simp only [J33.layD, Act.put, List.setIfInBounds_toArray, List.set_cons_zero, List.set_cons_succ] at hK ⊢
          have f7 := hV 7 (by decide)
          generalize vals 7 = x7 at f7 hK ⊢
          obtain rfl : x7 = Value.pointer (some ⟨g, 3, none⟩) := f7
          clear hV
          obtain ⟨c0, c1, c2, c3, c4, c5, c6, c7, cq⟩ := HCw4.out W hS
          go_simp
          refine hK.out _ _ (rfl) hS (Below.refl _ _)
        refine J33.all_succ ?_ ?sB7
        case sB7 =>
          refine J33.step_un [] (by rfl) rfl (by rfl) (fun vals W hS hV K hK => ?_)
          simp only [J33.layD, Act.put, List.setIfInBounds_toArray, List.set_cons_zero, List.set_cons_succ] at hK ⊢
          clear hV
          go_simp
          refine hK.out _ _ (rfl) hS (Below.refl _ _)
        refine J33.all_succ ?_ ?sB6
        case sB6 =>
          refine J33.step_un [(some 93, 5)] (by rfl) rfl (by rfl) (fun vals W hS hV K hK => ?_)
          simp only [J33.layD, Act.put, List.setIfInBounds_toArray, List.set_cons_zero, List.set_cons_succ] at hK ⊢
          have f5 := hV 5 (by decide)
          generalize vals 5 = x5 at f5 hK ⊢
          obtain ⟨s5, rfl, h5x, h5z⟩ := f5
          clear hV
          have mA : s5.size + 1 ≤ 9223372036854775807 := by omega
          have mB : (9223372036854775807 < s5.size + 1) = False := eq_false (by omega)
          go_simp
          refine hK.out _ _ (Exists.intro _ ⟨rfl, ⟨by rw [bytesOf_append, h5x.out]; exact enc_cat (B := [.op 21]) rfl⟩, by rw [ByteArray.size_append]; show s5.size + 1 ≤ 22; omega⟩) hS (Below.refl _ _)
        refine J33.all_succ ?_ ?sB5
        case sB5 =>
          refine J33.step_un [(some 88, 0), (some 92, 4)] (by rfl) rfl (by rfl) (fun vals W hS hV K hK => ?_)
          simp only [J33.layD, Act.put, List.setIfInBounds_toArray, List.set_cons_zero, List.set_cons_succ] at hK ⊢
          have f0 := hV 0 (by decide)
          have f4 := hV 4 (by decide)
          generalize vals 0 = x0 at f0 hK ⊢
          obtain ⟨s0, rfl, h0x, h0z⟩ := f0
          generalize vals 4 = x4 at f4 hK ⊢
          obtain ⟨s4, rfl, h4x, h4z⟩ := f4
          clear hV
          have mA : s0.size + s4.size ≤ 9223372036854775807 := by omega
          have mB : (9223372036854775807 < s0.size + s4.size) = False := eq_false (by omega)
          go_simp
          refine hK.out _ _ (Exists.intro _ ⟨rfl, ⟨by rw [bytesOf_append, h0x.out, h4x.out]; exact enc_cat rfl⟩, by rw [ByteArray.size_append]; omega⟩) hS (Below.refl _ _)
        refine J33.all_succ ?_ ?sB4
        case sB4 =>
          refine J33.step_un [(some 91, 3)] (by rfl) rfl (by rfl) (fun vals W hS hV K hK => ?_)
          simp only [J33.layD, Act.put, List.setIfInBounds_toArray, List.set_cons_zero, List.set_cons_succ] at hK ⊢
          have f3 := hV 3 (by decide)
          generalize vals 3 = x3 at f3 hK ⊢
          obtain ⟨g3, rfl, h3x⟩ := f3
          clear hV
          go_simp
          go_at_call 22
          refine (number_call (xs := [n2, 0]) h3x.out (by have := N2.out; intro x hx; simp only [List.mem_cons, List.not_mem_nil, or_false] at hx; omega) (by simp)).mono ?_
          rintro e W2 ⟨rfl, hb⟩
          refine hK.out _ _ (Exists.intro _ ⟨rfl, ⟨by rw [bytesOf_strOf _ (flat_oct _)]; rfl⟩, by rw [strOf_size]; exact flat_len [n2, 0]⟩) (below_step hS hb) hb
        refine J33.all_succ ?_ ?sB3
        case sB3 =>
          refine J33.step_un [(some 90, 2)] (by rfl) rfl (by rfl) (fun vals W hS hV K hK => ?_)
          simp only [J33.layD, Act.put, List.setIfInBounds_toArray, List.set_cons_zero, List.set_cons_succ] at hK ⊢
          have f2 := hV 2 (by decide)
          generalize vals 2 = x2 at f2 hK ⊢
          obtain rfl : x2 = Value.int .i64 n2 := f2
          clear hV
          go_simp
          refine hK.out _ _ (Exists.intro _ ⟨rfl, ⟨ints_new _ _ _ rfl⟩⟩) (below_alloc hS _) (below_alloc (Below.refl _ _) _)
        refine J33.all_succ ?_ ?sB2
        case sB2 =>
          refine J33.step_un [(some 89, 1)] (by rfl) rfl (by rfl) (fun vals W hS hV K hK => ?_)
          simp only [J33.layD, Act.put, List.setIfInBounds_toArray, List.set_cons_zero, List.set_cons_succ] at hK ⊢
          have f1 := hV 1 (by decide)
          generalize vals 1 = x1 at f1 hK ⊢
          obtain rfl : x1 = Value.pointer (some ⟨g, 2, none⟩) := f1
          clear hV
          obtain ⟨c0, c1, c2, c3, c4, c5, c6, c7, cq⟩ := HCw4.out W hS
          go_simp
          refine hK.out _ _ (rfl) hS (Below.refl _ _)
        refine J33.all_succ ?_ ?sB1
        case sB1 =>
          refine J33.step_un [] (by rfl) rfl (by rfl) (fun vals W hS hV K hK => ?_)
          simp only [J33.layD, Act.put, List.setIfInBounds_toArray, List.set_cons_zero, List.set_cons_succ] at hK ⊢
          clear hV
          go_simp
          refine hK.out _ _ (rfl) hS (Below.refl _ _)
        refine J33.all_succ ?_ ?sB0
        case sB0 =>
          refine J33.step_un [] (by rfl) rfl (by rfl) (fun vals W hS hV K hK => ?_)
          simp only [J33.layD, Act.put, List.setIfInBounds_toArray, List.set_cons_zero, List.set_cons_succ] at hK ⊢
          clear hV
          go_simp
          refine hK.out _ _ (show ∃ t : ByteArray, _ = Value.string t ∧ Aside0 (bytesOf t = T33.encs [.num n0, .num n1, .op 13]) ∧ t.size ≤ 11 from Exists.intro _ ⟨rfl, HSF, zsF⟩) hS (Below.refl _ _)
        exact J33.all_zero
      intro valsB w5 hSB hVB
      simp only [J33.layD, Act.put, List.setIfInBounds_toArray, List.set_cons_zero, List.set_cons_succ]
      have fB : ∃ t : ByteArray, valsB 49 = Value.string t ∧ Aside0 (bytesOf t = T33.encs [.num n0, .num n1, .op 13, .num n2, .num 0, .op 21, .num 0, .num n3, .op 21, .num n4, .num 0, .op 5, .num 0, .num n5, .op 5, .num 0, .num n2, .num n3, .num n4, .num n5, .num 0, .op 8, .num n6, .num 0, .num n7, .num n0, .num 0, .num n1, .op 8, .op 9, .op 14]) ∧ t.size ≤ 119 := hVB 49 (by decide)
      generalize valsB 49 = xB at fB ⊢
      obtain ⟨sB, rfl, HSB, zsB⟩ := fB
      clear hVB
      have HLSB := Aside0.mk hSB
      clear hSB
      have ZSB := Aside0.mk zsB
      clear zsB
      go_wp2_with fail
      obtain ⟨G, hG⟩ : ∃ G, T33.glyph n0 n1 n2 n3 n4 n5 n6 n7 = G := ⟨_, rfl⟩
      have HG1 := T33.long_G n0 n1 n2 n3 n4 n5 n6 n7 N0.out N1.out N2.out N3.out N4.out N5.out N6.out N7.out
      have HG2 := T33.short_G n0 n1 n2 n3 n4 n5 n6 n7 qq HQQ.out N0.out N1.out N2.out N3.out N4.out N5.out N6.out N7.out
      rw [hG] at HG1 HG2
      have HG1 := Aside0.mk HG1
      have HG2 := Aside0.mk HG2
      have hst6 : G.2.2.1.length = 6 := by rw [← hG]; rfl
      have hG1 : G.1 = n0 ∧ G.2.1 = n1 := by rw [← hG]; exact ⟨rfl, rfl⟩
      clear hG
      refine (run_k (S := []) (l := T33.encs (T33.longT n0 n1 n2 n3 n4 n5 n6 n7)) (r := (G, 0)) (strs_nil _) (by simp) rfl HSB.out HG1.out).mono ?_
      rintro e v1 ⟨vv, rfl, hgl, hbr, k1, k2⟩
      obtain ⟨vs, vt, rfl, hw1, hw2⟩ := hgl
      rw [hst6] at hw1
      obtain ⟨A, c, rfl⟩ := own_slice hw1
      rw [hG1.1, hG1.2]
      obtain ⟨cs, hcs⟩ : ∃ cs : Array Value, #[.int .i64 n0, .int .i64 n1, .slice A 6 c, vt] = cs := ⟨_, rfl⟩
      have hgl : GlV w5.heap.size v1 (.agg cs) G := ⟨_, vt, by rw [← hcs, hG1.1, hG1.2], by rw [hst6]; exact hw1, hw2⟩
      have hgr := GlR.of hgl
      obtain ⟨hc4, hcA⟩ := glr_one hgr
      have HC := Aside0.mk (And.intro hc4 hcA)
      have HKK := Aside0.mk (And.intro k1 k2)
      have hst := mkG_below v1 (.cells #[.int .i64 0, .int .i64 0, .slice none 0 0, .slice none 0 0] 43) cs
      have hnw := mkG_new v1 #[.int .i64 0, .int .i64 0, .slice none 0 0, .slice none 0 0] cs 43
      obtain ⟨u1, hu1⟩ : ∃ u, (v1.alloc (.cells #[.int .i64 0, .int .i64 0, .slice none 0 0, .slice none 0 0] 43)).setRow v1.heap.size cs = u := ⟨_, rfl⟩
      have hu1' : mkG v1 (.cells #[.int .i64 0, .int .i64 0, .slice none 0 0, .slice none 0 0] 43) cs = u1 := hu1
      rw [hu1'] at hst hnw
      obtain ⟨gr, hgr2⟩ : ∃ g, v1.heap.size = g := ⟨_, rfl⟩
      have hu1g : (v1.alloc (.cells #[.int .i64 0, .int .i64 0, .slice none 0 0, .slice none 0 0] 43)).setRow gr cs = u1 := by rw [← hgr2]; exact hu1
      have HNB : Aside0 ((v1.alloc (.cells #[.int .i64 0, .int .i64 0, .slice none 0 0, .slice none 0 0] 43)).heap[gr]? = some (.cells #[.int .i64 0, .int .i64 0, .slice none 0 0, .slice none 0 0] 43 (0, 0))) := ⟨by rw [← hgr2]; exact blk_new _ _⟩
      rw [hgr2] at hnw
      have HNW := Aside0.mk hnw
      have HGR := Aside0.mk (GlR.of (glv_below hgl hst))
      have HBE := Aside0.mk (below_step (below_step HB3.out (below_step HLSA.out HLSB.out)) (below_step hbr hst))
      have c2 : u1.cell? ⟨gr, 2, none⟩ = some (.slice A 6 c) := by rw [blk_cell hnw 2, ← hcs]; rfl
      clear hu1 hu1' hst hnw hgl hgr hc4 hcA hbr hw1 hw2 k1 k2 hst6 hG1
      rw [hcs]
      clear hcs
      go_wp2_with (first | (refine store_gl rfl _ _ rfl gr rfl #[.int .i64 0, .int .i64 0, .slice none 0 0, .slice none 0 0] cs rfl HNB.out rfl HC.out.1 HC.out.2 ?_; rw [hu1g]) | (refine load_gl rfl _ rfl gr rfl cs HC.out.1 HNW.out ?_))
      refine (draws_k (S := []) (l := T33.encs (T33.shortT n0 n1 n2 n3 n4 n5 n6 n7 qq)) (g := G) (strs_nil _) (by simp) rfl HSA.out HG2.out HGR.out (by have := HKK.out.1; omega) (by have := HKK.out.2; omega)).mono ?_
      rintro e y1 ⟨rfl, hby⟩
      have HBF := Aside0.mk (below_step HB2.out (below_step HBE.out hby))
      clear hby
      go_wp2_with fail
      go_ret
      exact ⟨rfl, HBF.out⟩
end Go.Proofs.Ytimnohaalccdkaa.V33s
