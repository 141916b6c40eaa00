/- OutlineFlex walked (chapter 33). -/
import Derived.Test.YtimnohaalccdkaaX33
import Derived.StillTailTactics
namespace Go.Proofs.Ytimnohaalccdkaa.V33f
open Go.Proofs.Ytimnohaalccdkaa Go.Proofs.Ytimnohaalccdkaa.K33 Go.Proofs.Ytimnohaalccdkaa.M33 Go.Proofs.Ytimnohaalccdkaa.L33 Go.Proofs.Ytimnohaalccdkaa.N33 Go.Proofs.Ytimnohaalccdkaa.G33a Go.Proofs.Ytimnohaalccdkaa.G33o Go.Proofs.Ytimnohaalccdkaa.G33p Go.Proofs.Ytimnohaalccdkaa.W33 Go.Proofs.Ytimnohaalccdkaa.D33 Go.Proofs.Ytimnohaalccdkaa.E33 Go.Proofs.Ytimnohaalccdkaa.V33 Go.Proofs.Ytimnohaalccdkaa.B33 Go.Proofs.Ytimnohaalccdkaa.N33b Go.Proofs.Ytimnohaalccdkaa.X33 Go.Proofs.Ytimnohaalccdkaa.P33a
open Go.RowKit Go.Proofs.YtimnohaalccdkaaW.PrintWords Go.Proofs.YtimnohaalccdkaaW.PrintLast Go.Proofs.YtimnohaalccdkaaW.PrintMore
open Go.Proofs.Ytimnohaalccdkaa.T33 (Tok tok enc)
set_option linter.unusedVariables false
set_option linter.unusedSimpArgs false
set_option maxRecDepth 100000

theorem num_new (W : World) (xs : List Int) (c : Nat) (cs : Array Value) (hcs : cs = (nums .i64 xs).toArray) (hx : ∀ x ∈ xs, -2147483648 ≤ x ∧ x ≤ 2147483647) (hl : xs.length ≤ 1000) :
    Calls Try.prog 22 #[.slice (some ⟨W.heap.size, 0, none⟩) xs.length c] (W.alloc (.cells cs 3)) fun e w' => (∃ t, e = .returned (.string t) ∧ bytesOf t = xs.flatMap numB) ∧ Below W.heap.size W w' := by
  subst hcs
  have hi : Ints (W.alloc (.cells (nums .i64 xs).toArray 3)) (some ⟨W.heap.size, 0, none⟩) xs := .inr ⟨_, _, _, rfl, blk_new _ _, fun i x hi => by simp [nums, hi]⟩
  refine (number_call hi hx hl).mono ?_
  rintro e w' ⟨rfl, hb⟩
  exact ⟨⟨_, rfl, bytesOf_strOf _ (flat_oct xs)⟩, below_step (below_alloc (Below.refl _ _) _) hb⟩
theorem run_k {w : World} {sb : Value} {ss : List ByteArray} {S : List (List Int)} {l : List Int} {s : ByteArray} {r : Gl × Int} (h : StrsAt w sb ss) (hl : ss.length ≤ 1000000) (hS : ss.map bytesOf = S) (hs : bytesOf s = l) (hr : runG S l = r) : Calls Try.prog 18 #[sb, .string s] w (RanTo w r) := by
  rw [← hr, ← hS, ← hs]
  exact run_prog h hl s
theorem glv_below {B : Nat} {w w' : World} {v : Value} {g : Gl} (h : GlV B w v g) (hb : Below w.heap.size w w') : GlV B w' v g := by
  obtain ⟨vs, vt, e, h1, h2⟩ := h
  exact ⟨vs, vt, e, pw_own_below h1 hb, pw_own_below h2 hb⟩
theorem glv_set {B k : Nat} {w : World} {v : Value} {g : Gl} {cs : Array Value} {t : TypeId} (h : GlV B w v g) (hk : w.heap[k]? = some (.cells cs t (0, 0))) (h60 : 60 ≠ t) (h69 : 69 ≠ t) (i : Nat) (u : Value) : GlV B (w.setCell ⟨k, i, none⟩ u) v g := by
  obtain ⟨vs, vt, e, h1, h2⟩ := h
  exact ⟨vs, vt, e, own_setCell h1 (own_ne h1 hk h60) u, own_setCell h2 (own_ne h2 hk h69) u⟩
theorem blk_new2 (W : World) (o1 o2 : Obj) : ((W.alloc o1).alloc o2).heap[W.heap.size + 1]? = some o2 := by
  have h := blk_new (W.alloc o1) o2
  rwa [show (W.alloc o1).heap.size = W.heap.size + 1 by simp] at h
def pcells (p0 r0 p1 r1 p2 r2 p3 r3 p4 r4 p5 r5 p6 r6 : Int) (j : Nat) : Array Value := #[.int .i64 (if 0 < j then p0 else 0), .int .i64 (if 0 < j then r0 else 0), .int .i64 (if 1 < j then p1 else 0), .int .i64 (if 1 < j then r1 else 0), .int .i64 (if 2 < j then p2 else 0), .int .i64 (if 2 < j then r2 else 0), .int .i64 (if 3 < j then p3 else 0), .int .i64 (if 3 < j then r3 else 0), .int .i64 (if 4 < j then p4 else 0), .int .i64 (if 4 < j then r4 else 0), .int .i64 (if 5 < j then p5 else 0), .int .i64 (if 5 < j then r5 else 0), .int .i64 (if 6 < j then p6 else 0), .int .i64 (if 6 < j then r6 else 0)]
theorem rem_bd (x : Int) (d : Int) (hd : 0 < d) : -d < Int.tmod x d ∧ Int.tmod x d < d := ⟨Int.lt_tmod_of_pos x hd, Int.tmod_lt_of_pos x hd⟩
set_option maxHeartbeats 16000000 in
theorem flex_walk (side l0 l1 l2 l3 l4 l5 l6 l7 l8 l9 l10 l11 l12 l13 xx yy : Int) (w : World) : Calls Try.prog 6 #[.int .i16 side, .agg #[.int .i16 l0, .int .i16 l1, .int .i16 l2, .int .i16 l3, .int .i16 l4, .int .i16 l5, .int .i16 l6, .int .i16 l7, .int .i16 l8, .int .i16 l9, .int .i16 l10, .int .i16 l11, .int .i16 l12, .int .i16 l13], .int .i16 xx, .int .i16 yy] w fun e w' => e = .returned (.bool true) ∧ Below w.heap.size w w' := by
  obtain ⟨ax, hax, bdax⟩ : ∃ n, Int.tmod side 1000 = n ∧ -1000 < n ∧ n < 1000 := ⟨_, rfl, rem_bd side 1000 (by omega)⟩
  have wax : wrap64 ax = ax := wid (by omega) (by omega)
  obtain ⟨ay, hay, bday⟩ : ∃ n, Int.tmod yy 1000 = n ∧ -1000 < n ∧ n < 1000 := ⟨_, rfl, rem_bd yy 1000 (by omega)⟩
  have way : wrap64 ay = ay := wid (by omega) (by omega)
  obtain ⟨b, hb, bdb⟩ : ∃ n, Int.tmod xx 1000 = n ∧ -1000 < n ∧ n < 1000 := ⟨_, rfl, rem_bd xx 1000 (by omega)⟩
  have wb : wrap64 b = b := wid (by omega) (by omega)
  obtain ⟨x0, hx0⟩ : ∃ x0, ax + b = x0 := ⟨_, rfl⟩
  have wx0 : wrap64 x0 = x0 := wid (by omega) (by omega)
  have HX := Aside0.mk (And.intro bdax (And.intro bday (And.intro bdb hx0)))
  obtain ⟨d0, hd0⟩ : ∃ n, Int.tmod l0 100 = n := ⟨_, rfl⟩
  obtain ⟨e0, he0⟩ : ∃ n, Int.tmod l1 100 = n := ⟨_, rfl⟩
  have bd0 : -100 < d0 ∧ d0 < 100 := by rw [← hd0]; exact rem_bd _ 100 (by omega)
  have be0 : -100 < e0 ∧ e0 < 100 := by rw [← he0]; exact rem_bd _ 100 (by omega)
  obtain ⟨p0, hp0⟩ : ∃ n, x0 + d0 = n := ⟨_, rfl⟩
  obtain ⟨r0, hr0⟩ : ∃ n, ay + e0 = n := ⟨_, rfl⟩
  have wd0 : wrap64 d0 = d0 := wid (by omega) (by omega)
  have we0 : wrap64 e0 = e0 := wid (by omega) (by omega)
  have wp0 : wrap64 p0 = p0 := wid (by omega) (by omega)
  have wr0 : wrap64 r0 = r0 := wid (by omega) (by omega)
  obtain ⟨d1, hd1⟩ : ∃ n, Int.tmod l2 100 = n := ⟨_, rfl⟩
  obtain ⟨e1, he1⟩ : ∃ n, Int.tmod l3 100 = n := ⟨_, rfl⟩
  have bd1 : -100 < d1 ∧ d1 < 100 := by rw [← hd1]; exact rem_bd _ 100 (by omega)
  have be1 : -100 < e1 ∧ e1 < 100 := by rw [← he1]; exact rem_bd _ 100 (by omega)
  obtain ⟨p1, hp1⟩ : ∃ n, p0 + d1 = n := ⟨_, rfl⟩
  obtain ⟨r1, hr1⟩ : ∃ n, r0 + e1 = n := ⟨_, rfl⟩
  have wd1 : wrap64 d1 = d1 := wid (by omega) (by omega)
  have we1 : wrap64 e1 = e1 := wid (by omega) (by omega)
  have wp1 : wrap64 p1 = p1 := wid (by omega) (by omega)
  have wr1 : wrap64 r1 = r1 := wid (by omega) (by omega)
  obtain ⟨d2, hd2⟩ : ∃ n, Int.tmod l4 100 = n := ⟨_, rfl⟩
  obtain ⟨e2, he2⟩ : ∃ n, Int.tmod l5 100 = n := ⟨_, rfl⟩
  have bd2 : -100 < d2 ∧ d2 < 100 := by rw [← hd2]; exact rem_bd _ 100 (by omega)
  have be2 : -100 < e2 ∧ e2 < 100 := by rw [← he2]; exact rem_bd _ 100 (by omega)
  obtain ⟨p2, hp2⟩ : ∃ n, p1 + d2 = n := ⟨_, rfl⟩
  obtain ⟨r2, hr2⟩ : ∃ n, r1 + e2 = n := ⟨_, rfl⟩
  have wd2 : wrap64 d2 = d2 := wid (by omega) (by omega)
  have we2 : wrap64 e2 = e2 := wid (by omega) (by omega)
  have wp2 : wrap64 p2 = p2 := wid (by omega) (by omega)
  have wr2 : wrap64 r2 = r2 := wid (by omega) (by omega)
  obtain ⟨d3, hd3⟩ : ∃ n, Int.tmod l6 100 = n := ⟨_, rfl⟩
  obtain ⟨e3, he3⟩ : ∃ n, Int.tmod l7 100 = n := ⟨_, rfl⟩
  have bd3 : -100 < d3 ∧ d3 < 100 := by rw [← hd3]; exact rem_bd _ 100 (by omega)
  have be3 : -100 < e3 ∧ e3 < 100 := by rw [← he3]; exact rem_bd _ 100 (by omega)
  obtain ⟨p3, hp3⟩ : ∃ n, p2 + d3 = n := ⟨_, rfl⟩
  obtain ⟨r3, hr3⟩ : ∃ n, r2 + e3 = n := ⟨_, rfl⟩
  have wd3 : wrap64 d3 = d3 := wid (by omega) (by omega)
  have we3 : wrap64 e3 = e3 := wid (by omega) (by omega)
  have wp3 : wrap64 p3 = p3 := wid (by omega) (by omega)
  have wr3 : wrap64 r3 = r3 := wid (by omega) (by omega)
  obtain ⟨d4, hd4⟩ : ∃ n, Int.tmod l8 100 = n := ⟨_, rfl⟩
  obtain ⟨e4, he4⟩ : ∃ n, Int.tmod l9 100 = n := ⟨_, rfl⟩
  have bd4 : -100 < d4 ∧ d4 < 100 := by rw [← hd4]; exact rem_bd _ 100 (by omega)
  have be4 : -100 < e4 ∧ e4 < 100 := by rw [← he4]; exact rem_bd _ 100 (by omega)
  obtain ⟨p4, hp4⟩ : ∃ n, p3 + d4 = n := ⟨_, rfl⟩
  obtain ⟨r4, hr4⟩ : ∃ n, r3 + e4 = n := ⟨_, rfl⟩
  have wd4 : wrap64 d4 = d4 := wid (by omega) (by omega)
  have we4 : wrap64 e4 = e4 := wid (by omega) (by omega)
  have wp4 : wrap64 p4 = p4 := wid (by omega) (by omega)
  have wr4 : wrap64 r4 = r4 := wid (by omega) (by omega)
  obtain ⟨d5, hd5⟩ : ∃ n, Int.tmod l10 100 = n := ⟨_, rfl⟩
  obtain ⟨e5, he5⟩ : ∃ n, Int.tmod l11 100 = n := ⟨_, rfl⟩
  have bd5 : -100 < d5 ∧ d5 < 100 := by rw [← hd5]; exact rem_bd _ 100 (by omega)
  have be5 : -100 < e5 ∧ e5 < 100 := by rw [← he5]; exact rem_bd _ 100 (by omega)
  obtain ⟨p5, hp5⟩ : ∃ n, p4 + d5 = n := ⟨_, rfl⟩
  obtain ⟨r5, hr5⟩ : ∃ n, r4 + e5 = n := ⟨_, rfl⟩
  have wd5 : wrap64 d5 = d5 := wid (by omega) (by omega)
  have we5 : wrap64 e5 = e5 := wid (by omega) (by omega)
  have wp5 : wrap64 p5 = p5 := wid (by omega) (by omega)
  have wr5 : wrap64 r5 = r5 := wid (by omega) (by omega)
  obtain ⟨d6, hd6⟩ : ∃ n, Int.tmod l12 100 = n := ⟨_, rfl⟩
  obtain ⟨e6, he6⟩ : ∃ n, Int.tmod l13 100 = n := ⟨_, rfl⟩
  have bd6 : -100 < d6 ∧ d6 < 100 := by rw [← hd6]; exact rem_bd _ 100 (by omega)
  have be6 : -100 < e6 ∧ e6 < 100 := by rw [← he6]; exact rem_bd _ 100 (by omega)
  obtain ⟨p6, hp6⟩ : ∃ n, p5 + d6 = n := ⟨_, rfl⟩
  obtain ⟨r6, hr6⟩ : ∃ n, r5 + e6 = n := ⟨_, rfl⟩
  have wd6 : wrap64 d6 = d6 := wid (by omega) (by omega)
  have we6 : wrap64 e6 = e6 := wid (by omega) (by omega)
  have wp6 : wrap64 p6 = p6 := wid (by omega) (by omega)
  have wr6 : wrap64 r6 = r6 := wid (by omega) (by omega)
  have HG := Aside0.mk (F33.flex_G ax ay b d0 e0 p0 r0 d1 e1 p1 r1 d2 e2 p2 r2 d3 e3 p3 r3 d4 e4 p4 r4 d5 e5 p5 r5 d6 e6 p6 r6 x0 bdax bday bdb hx0 bd0 be0 hp0 hr0 bd1 be1 hp1 hr1 bd2 be2 hp2 hr2 bd3 be3 hp3 hr3 bd4 be4 hp4 hr4 bd5 be5 hp5 hr5 bd6 be6 hp6 hr6)
  have HFX := Aside0.mk (fun W => flex_call l0 l1 l2 l3 l4 l5 l6 l7 l8 l9 l10 l11 l12 l13 x0 ay d0 e0 p0 r0 d1 e1 p1 r1 d2 e2 p2 r2 d3 e3 p3 r3 d4 e4 p4 r4 d5 e5 p5 r5 d6 e6 p6 r6 (by omega) hd0 he0 hp0 hr0 hd1 he1 hp1 hr1 hd2 he2 hp2 hr2 hd3 he3 hp3 hr3 hd4 he4 hp4 hr4 hd5 he5 hp5 hr5 hd6 he6 hp6 hr6 W)
  have HB67 : Aside0 (-5000 < p6 ∧ p6 < 5000) := ⟨by omega⟩
  have wib : IntKind.i64.wrap b = b := by rw [IntKind.wrap_i64]; omega
  clear bd0 be0 bd1 be1 bd2 be2 bd3 be3 bd4 be4 bd5 be5 bd6 be6
  obtain ⟨wA, hwA⟩ : ∃ wA, w.alloc (.cells #[.int .i16 l0, .int .i16 l1, .int .i16 l2, .int .i16 l3, .int .i16 l4, .int .i16 l5, .int .i16 l6, .int .i16 l7, .int .i16 l8, .int .i16 l9, .int .i16 l10, .int .i16 l11, .int .i16 l12, .int .i16 l13] 53) = wA := ⟨_, rfl⟩
  obtain ⟨gl, hgl⟩ : ∃ g, w.heap.size = g := ⟨_, rfl⟩
  have HBA : Aside0 (Below w.heap.size w wA) := ⟨by rw [← hwA]; exact below_alloc (Below.refl _ _) _⟩
  have HKA : Aside0 (wA.heap[gl]? = some (.cells #[.int .i16 l0, .int .i16 l1, .int .i16 l2, .int .i16 l3, .int .i16 l4, .int .i16 l5, .int .i16 l6, .int .i16 l7, .int .i16 l8, .int .i16 l9, .int .i16 l10, .int .i16 l11, .int .i16 l12, .int .i16 l13] 53 (0, 0))) := ⟨by rw [← hwA, ← hgl]; exact blk_new _ _⟩
  have HGL : Aside0 (w.heap.size = gl) := ⟨hgl⟩
  go_enter Try.func6, Try.ntmps6
  go_wp2_with fail
  clear hwA hgl
  refine (works_call wA).mono ?_
  rintro e w1 ⟨rfl, hb1⟩
  have HB1 := Aside0.mk (below_step HBA.out hb1)
  have HK1 := Aside0.mk (blk_below HKA.out hb1)
  clear hb1 HBA HKA
  go_upto_region 5 with (fail)
  have hb2 : Below w1.heap.size w1 ((w1.alloc (.cells #[.int .i64 ax, .int .i64 ay] 55)).alloc (.cells #[.int .i64 x0, .int .i64 ay] 55)) := below_alloc (below_alloc (Below.refl _ _) _) _
  have k9 := blk_alloc (blk_new w1 (.cells #[.int .i64 ax, .int .i64 ay] 55)) (.cells #[.int .i64 x0, .int .i64 ay] 55)
  have k10 := blk_new2 w1 (.cells #[.int .i64 ax, .int .i64 ay] 55) (.cells #[.int .i64 x0, .int .i64 ay] 55)
  obtain ⟨g9, hg9⟩ : ∃ g, w1.heap.size = g := ⟨_, rfl⟩
  have hgg : w.heap.size ≤ g9 := by rw [← hg9]; exact HB1.out.size
  have hgl2 : gl < g9 := by rw [← hg9]; exact blk_lt HK1.out
  have HGG := Aside0.mk (And.intro hgg hgl2)
  have HB2 := Aside0.mk (below_step HB1.out hb2)
  have HK2 := Aside0.mk (blk_below HK1.out hb2)
  rw [hg9] at k9 k10 ⊢
  generalize (w1.alloc (.cells #[.int .i64 ax, .int .i64 ay] 55)).alloc (.cells #[.int .i64 x0, .int .i64 ay] 55) = w2 at k9 k10 HB2 HK2 ⊢
  have HK9 := Aside0.mk k9
  have HK10 := Aside0.mk k10
  clear hb2 hg9 hgg hgl2 HB1 HK1 k9 k10 w1
  go_cut [11] (fun v11 wc => ∃ t : ByteArray, v11 = .string t ∧ t.size ≤ 22 ∧ Aside0 (bytesOf t = T33.encs [.num ax, .num 700, .op 13, .num b, .num ay, .op 21]) ∧ Aside0 (Below w2.heap.size w2 wc))
  case first =>
    have HCC : Aside0 (∀ wz, Below w2.heap.size w2 wz → Below w2.heap.size w2 wz ∧ wz.cell? ⟨g9, 0, none⟩ = some (.int .i64 ax) ∧ wz.cell? ⟨g9, 1, none⟩ = some (.int .i64 ay)) := ⟨fun wz hz => ⟨hz, (blk_cell (blk_below HK9.out hz) 0).trans rfl, (blk_cell (blk_below HK9.out hz) 1).trans rfl⟩⟩
    obtain ⟨s1, hs1⟩ : ∃ s1, strOfNums ([ax, 700].flatMap numB) = s1 := ⟨_, rfl⟩
    obtain ⟨s2, hs2⟩ : ∃ s2, strOfNums ([b, ay].flatMap numB) = s2 := ⟨_, rfl⟩
    have z1 : s1.size ≤ 10 := by rw [← hs1, strOf_size]; exact flat_len [ax, 700]
    have z2 : s2.size ≤ 10 := by rw [← hs2, strOf_size]; exact flat_len [b, ay]
    have q1 : bytesOf s1 = [ax, 700].flatMap numB := by rw [← hs1]; exact bytesOf_strOf _ (flat_oct _)
    have q2 : bytesOf s2 = [b, ay].flatMap numB := by rw [← hs2]; exact bytesOf_strOf _ (flat_oct _)
    have NC1 : Aside0 (∀ (W : World) (A : Option Addr), Ints W A [ax, 700] → Calls Try.prog 22 #[.slice A 2 2] W fun e w' => e = .returned (.string s1) ∧ Below W.heap.size W w') := ⟨fun W A h => by rw [← hs1]; exact number_call (xs := [ax, 700]) (c := 2) h (by have := HX.out; intro x hx; simp only [List.mem_cons, List.not_mem_nil, or_false] at hx; omega) (by simp)⟩
    have NC2 : Aside0 (∀ (W : World) (A : Option Addr), Ints W A [b, ay] → Calls Try.prog 22 #[.slice A 2 2] W fun e w' => e = .returned (.string s2) ∧ Below W.heap.size W w') := ⟨fun W A h => by rw [← hs2]; exact number_call (xs := [b, ay]) (c := 2) h (by have := HX.out; intro x hx; simp only [List.mem_cons, List.not_mem_nil, or_false] at hx; omega) (by simp)⟩
    have Q12 := Aside0.mk (And.intro q1 q2)
    have Z12 := Aside0.mk (And.intro z1 z2)
    have m1 : s1.size + 1 ≤ 9223372036854775807 := by omega
    have n1 : (9223372036854775807 < s1.size + 1) = False := eq_false (by omega)
    have m2 : s1.size + 1 + s2.size ≤ 9223372036854775807 := by omega
    have n2 : (9223372036854775807 < s1.size + 1 + s2.size) = False := eq_false (by omega)
    have m3 : s1.size + 1 + s2.size + 1 ≤ 9223372036854775807 := by omega
    have n3 : (9223372036854775807 < s1.size + 1 + s2.size + 1) = False := eq_false (by omega)
    obtain ⟨_, c0, c1⟩ := HCC.out w2 (Below.refl _ _)
    clear hs1 hs2 q1 q2 z1 z2
    go_region_held3 (fun wz => Below w2.heap.size w2 wz ∧ wz.cell? ⟨g9, 0, none⟩ = some (.int .i64 ax) ∧ wz.cell? ⟨g9, 1, none⟩ = some (.int .i64 ay)) (first | exact HCC.out _ (Below.refl _ _) | exact HCC.out _ (below_alloc (Below.refl _ _) _) | exact HCC.out _ (below_alloc (below_alloc (Below.refl _ _) _) _) | exact HCC.out _ (pw_below_drewN (Below.refl _ _) _) | exact HCC.out _ (below_alloc (pw_below_drewN (Below.refl _ _) _) _) | exact HCC.out _ (below_alloc (below_alloc (pw_below_drewN (Below.refl _ _) _) _) _) | exact HCC.out _ (below_drew1 (Below.refl _ _)) | exact HCC.out _ (below_alloc (below_drew1 (Below.refl _ _)) _) | exact HCC.out _ (below_alloc (below_alloc (below_drew1 (Below.refl _ _)) _) _) | exact HCC.out _ hbn1 | exact HCC.out _ (below_alloc hbn1 _) | exact HCC.out _ hbn2 | exact HCC.out _ (below_alloc hbn2 _) | go_keep) (first | (go_at_call 22; refine (NC1.out _ _ (.inr ⟨_, 0, #[.int .i64 ax, .int .i64 700], rfl, (by first | exact blk_new _ _ | exact blk_new2 _ _ _ | exact blk_alloc (blk_new _ _) _ | exact blk_below (blk_new _ _) hc1 | exact blk_below (blk_new2 _ _ _) hc1 | exact blk_below (blk_alloc (blk_new _ _) _) hc1 | exact blk_below (blk_drew (blk_new _ _)) hc1 | exact blk_below (blk_drew (blk_new2 _ _ _)) hc1 | exact blk_below (blk_drew (blk_alloc (blk_new _ _) _)) hc1), (fun i v hi => by match i, hi with | 0, hi => simpa using hi | 1, hi => simpa using hi | k + 2, hi => simp at hi)⟩)).mono ?_; rintro e wn1 ⟨rfl, hc1⟩; have hbn1 : Below w2.heap.size w2 wn1 := (by first | exact below_step (Below.refl _ _) hc1 | exact below_step (below_alloc (Below.refl _ _) _) hc1 | exact below_step (below_alloc (below_alloc (Below.refl _ _) _) _) hc1 | exact below_step (pw_below_drewN (Below.refl _ _) _) hc1 | exact below_step (below_alloc (pw_below_drewN (Below.refl _ _) _) _) hc1 | exact below_step (below_alloc (below_alloc (pw_below_drewN (Below.refl _ _) _) _) _) hc1 | exact below_step (below_drew1 (Below.refl _ _)) hc1 | exact below_step (below_alloc (below_drew1 (Below.refl _ _)) _) hc1 | exact below_step (below_alloc (below_alloc (below_drew1 (Below.refl _ _)) _) _) hc1)) | (go_at_call 22; refine (NC2.out _ _ (.inr ⟨_, 0, #[.int .i64 b, .int .i64 ay], rfl, (by first | exact blk_new _ _ | exact blk_new2 _ _ _ | exact blk_alloc (blk_new _ _) _ | exact blk_below (blk_new _ _) hc1 | exact blk_below (blk_new2 _ _ _) hc1 | exact blk_below (blk_alloc (blk_new _ _) _) hc1 | exact blk_below (blk_drew (blk_new _ _)) hc1 | exact blk_below (blk_drew (blk_new2 _ _ _)) hc1 | exact blk_below (blk_drew (blk_alloc (blk_new _ _) _)) hc1), (fun i v hi => by match i, hi with | 0, hi => simpa using hi | 1, hi => simpa using hi | k + 2, hi => simp at hi)⟩)).mono ?_; rintro e wn2 ⟨rfl, hc2⟩; have hbn2 : Below w2.heap.size w2 wn2 := (by first | exact below_step hbn1 hc2 | exact below_step (below_alloc hbn1 _) hc2 | exact below_step (below_alloc (below_alloc hbn1 _) _) hc2)))
    all_goals (try go_wp2_with fail)
    all_goals go_meet
    all_goals (refine ⟨_, rfl, ?_, ⟨?_⟩, ⟨hbn2⟩⟩)
    all_goals first | (show (s1 ++ (⟨#[13]⟩ : ByteArray) ++ s2 ++ (⟨#[21]⟩ : ByteArray)).size ≤ 22; rw [ByteArray.size_append, ByteArray.size_append, ByteArray.size_append]; have := Z12.out; show s1.size + 1 + s2.size + 1 ≤ 22; omega) | (show bytesOf (s1 ++ (⟨#[13]⟩ : ByteArray) ++ s2 ++ (⟨#[21]⟩ : ByteArray)) = _; rw [bytesOf_append, bytesOf_append, bytesOf_append, Q12.out.1, Q12.out.2]; simp [T33.encs, enc]; rfl)
  case rest =>
    obtain ⟨t, rfl, zt, HT, HB3⟩ := hcut
    have HK9b := Aside0.mk (blk_below HK9.out HB3.out)
    have HK10b := Aside0.mk (blk_below HK10.out HB3.out)
    have HKLb := Aside0.mk (blk_below HK2.out HB3.out)
    have HB4 := Aside0.mk (below_step HB2.out HB3.out)
    have ZT := Aside0.mk zt
    have a0 : wc.cell? ⟨gl, 0, none⟩ = some (.int .i16 l0) := (blk_cell HKLb.out 0).trans rfl
    have a1 : wc.cell? ⟨gl, 1, none⟩ = some (.int .i16 l1) := (blk_cell HKLb.out 1).trans rfl
    have a2 : wc.cell? ⟨gl, 2, none⟩ = some (.int .i16 l2) := (blk_cell HKLb.out 2).trans rfl
    have a3 : wc.cell? ⟨gl, 3, none⟩ = some (.int .i16 l3) := (blk_cell HKLb.out 3).trans rfl
    have a4 : wc.cell? ⟨gl, 4, none⟩ = some (.int .i16 l4) := (blk_cell HKLb.out 4).trans rfl
    have a5 : wc.cell? ⟨gl, 5, none⟩ = some (.int .i16 l5) := (blk_cell HKLb.out 5).trans rfl
    have a6 : wc.cell? ⟨gl, 6, none⟩ = some (.int .i16 l6) := (blk_cell HKLb.out 6).trans rfl
    have a7 : wc.cell? ⟨gl, 7, none⟩ = some (.int .i16 l7) := (blk_cell HKLb.out 7).trans rfl
    have a8 : wc.cell? ⟨gl, 8, none⟩ = some (.int .i16 l8) := (blk_cell HKLb.out 8).trans rfl
    have a9 : wc.cell? ⟨gl, 9, none⟩ = some (.int .i16 l9) := (blk_cell HKLb.out 9).trans rfl
    have a10 : wc.cell? ⟨gl, 10, none⟩ = some (.int .i16 l10) := (blk_cell HKLb.out 10).trans rfl
    have a11 : wc.cell? ⟨gl, 11, none⟩ = some (.int .i16 l11) := (blk_cell HKLb.out 11).trans rfl
    have a12 : wc.cell? ⟨gl, 12, none⟩ = some (.int .i16 l12) := (blk_cell HKLb.out 12).trans rfl
    have a13 : wc.cell? ⟨gl, 13, none⟩ = some (.int .i16 l13) := (blk_cell HKLb.out 13).trans rfl
    have c0 : wc.cell? ⟨g9 + 1, 0, none⟩ = some (.int .i64 x0) := (blk_cell HK10b.out 0).trans rfl
    have c1 : wc.cell? ⟨g9 + 1, 1, none⟩ = some (.int .i64 ay) := (blk_cell HK10b.out 1).trans rfl
    clear HB2 HB3 HK9 HK10 HK2
    go_wp2_with fail
    refine (HFX.out _).mono ?_
    rintro e w3 ⟨⟨sx, rfl, hsx, zx⟩, hb⟩
    have HB5 := Aside0.mk (below_step HB4.out hb)
    have HK9c := Aside0.mk (blk_below HK9b.out hb)
    have HK10c := Aside0.mk (blk_below HK10b.out hb)
    have HKLc := Aside0.mk (blk_below HKLb.out hb)
    have HSX := Aside0.mk hsx
    clear hsx hb HB4 HK9b HK10b HKLb c0 c1 a0 a1 a2 a3 a4 a5 a6 a7 a8 a9 a10 a11 a12 a13
    go_wp2_with fail
    refine (num_new w3 [7] 1 _ rfl (by decide) (by decide)).mono ?_
    rintro e w4 ⟨⟨s7, rfl, hs7⟩, hb⟩
    have z7 : s7.size ≤ 5 := by rw [← bytesOf_len, hs7]; exact flat_len [7]
    have HS7 := Aside0.mk hs7
    have HB6 := Aside0.mk (below_step HB5.out hb)
    have HK9d := Aside0.mk (blk_below HK9c.out hb)
    have HK10d := Aside0.mk (blk_below HK10c.out hb)
    have HKLd := Aside0.mk (blk_below HKLc.out hb)
    clear hs7 hb HB5 HK9c HK10c HKLc
    go_wp2_with fail
    have eqS : bytesOf (t ++ sx ++ s7 ++ ⟨#[6, 14]⟩) = T33.encs (F33.flexT ax ay b d0 e0 d1 e1 d2 e2 d3 e3 d4 e4 d5 e5 d6 e6 p6 r6) := by
      rw [bytesOf_append, bytesOf_append, bytesOf_append, HT.out, HSX.out, HS7.out]; simp only [F33.flexT, F33.moveT, T33.encs, enc, List.flatMap_append, List.flatMap_cons, List.flatMap_nil, List.append_assoc, List.cons_append, List.nil_append, List.append_nil]; rfl
    obtain ⟨G, hG⟩ : ∃ G, F33.flexG ax ay p1 r1 p2 r2 p3 r3 p4 r4 p5 r5 p6 r6 x0 = G := ⟨_, rfl⟩
    have HG1 := HG.out
    rw [hG] at HG1
    have HGE := Aside0.mk hG
    refine (run_k (S := []) (l := T33.encs (F33.flexT ax ay b d0 e0 d1 e1 d2 e2 d3 e3 d4 e4 d5 e5 d6 e6 p6 r6)) (r := (G, 0)) (strs_nil _) (by simp) rfl eqS HG1).mono ?_
    rintro e v1 ⟨vv, rfl, hgl, hbr, k1, k2⟩
    obtain ⟨cs, rfl, hgr⟩ := glv_r hgl
    obtain ⟨hc4, hcA⟩ := glr_one hgr
    have HC := Aside0.mk (And.intro hc4 hcA)
    have HKK := Aside0.mk (And.intro k1 k2)
    have hst := mkG_below v1 (.cells #[.int .i64 0, .int .i64 0, .slice none 0 0, .slice none 0 0] 43) cs
    have hnw := mkG_new v1 #[.int .i64 0, .int .i64 0, .slice none 0 0, .slice none 0 0] cs 43
    obtain ⟨u1, hu1⟩ : ∃ u, (v1.alloc (.cells #[.int .i64 0, .int .i64 0, .slice none 0 0, .slice none 0 0] 43)).setRow v1.heap.size cs = u := ⟨_, rfl⟩
    have hu1' : mkG v1 (.cells #[.int .i64 0, .int .i64 0, .slice none 0 0, .slice none 0 0] 43) cs = u1 := hu1
    rw [hu1'] at hst hnw
    have hb := below_step hbr hst
    have hbz := below_alloc (Below.refl u1.heap.size u1) (.cells #[.int .i64 0, .int .i64 0, .int .i64 0, .int .i64 0, .int .i64 0, .int .i64 0, .int .i64 0, .int .i64 0, .int .i64 0, .int .i64 0, .int .i64 0, .int .i64 0, .int .i64 0, .int .i64 0] 57)
    have hkz := blk_new u1 (.cells #[.int .i64 0, .int .i64 0, .int .i64 0, .int .i64 0, .int .i64 0, .int .i64 0, .int .i64 0, .int .i64 0, .int .i64 0, .int .i64 0, .int .i64 0, .int .i64 0, .int .i64 0, .int .i64 0] 57)
    obtain ⟨u2, hu2⟩ : ∃ u, u1.alloc (.cells #[.int .i64 0, .int .i64 0, .int .i64 0, .int .i64 0, .int .i64 0, .int .i64 0, .int .i64 0, .int .i64 0, .int .i64 0, .int .i64 0, .int .i64 0, .int .i64 0, .int .i64 0, .int .i64 0] 57) = u := ⟨_, rfl⟩
    obtain ⟨gp, hgp⟩ : ∃ g, u1.heap.size = g := ⟨_, rfl⟩
    obtain ⟨gr, hgr2⟩ : ∃ g, v1.heap.size = g := ⟨_, rfl⟩
    have HNP : Aside0 (g9 + 1 ≠ gp ∧ gl ≠ gp ∧ g9 ≠ gp ∧ gr ≠ gp ∧ g9 + 1 ≠ gr ∧ g9 + 1 ≠ gl ∧ w.heap.size ≤ gp) := ⟨by
      have q1 := blk_lt (blk_below HK10d.out hb); have q2 := blk_lt (blk_below HKLd.out hb); have q3 := blk_lt (blk_below HK9d.out hb); have q4 := blk_lt hnw; have q5 := blk_lt (blk_below HK10d.out hbr); have q6 := HGG.out; have q7 := (below_step HB6.out hb).size; omega⟩
    have hu1g : (v1.alloc (.cells #[.int .i64 0, .int .i64 0, .slice none 0 0, .slice none 0 0] 43)).setRow gr cs = u1 := by rw [← hgr2]; exact hu1
    have HNB : Aside0 ((v1.alloc (.cells #[.int .i64 0, .int .i64 0, .slice none 0 0, .slice none 0 0] 43)).heap[gr]? = some (.cells #[.int .i64 0, .int .i64 0, .slice none 0 0, .slice none 0 0] 43 (0, 0))) := ⟨by rw [← hgr2]; exact blk_new _ _⟩
    clear hu1
    rw [hu2] at hbz hkz
    rw [hgp] at hkz
    rw [hgr2] at hnw
    have HB7 := Aside0.mk (below_step (below_step HB6.out hb) hbz)
    have HJ9 := Aside0.mk (blk_below (blk_below HK9d.out hb) hbz)
    have HJ10 := Aside0.mk (blk_below (blk_below HK10d.out hb) hbz)
    have HJL := Aside0.mk (blk_below (blk_below HKLd.out hb) hbz)
    have HJR := Aside0.mk (blk_below hnw hbz)
    have HJG := Aside0.mk (glv_below (glv_below hgl hst) hbz)
    have HJP := Aside0.mk hkz
    clear eqS hG HG1 hgl hbr k1 k2 hgr hc4 hcA hst hnw hu1' hb hbz hkz HB6 HK9d HK10d HKLd
    go_wp2_with (first | (refine store_gl rfl _ _ rfl gr rfl #[.int .i64 0, .int .i64 0, .slice none 0 0, .slice none 0 0] cs rfl HNB.out rfl HC.out.1 HC.out.2 ?_; rw [hu1g]))
    clear hu1g hu2 hgp hgr2
    have HSTEP : Aside0 (∀ j : Nat, j < 7 → ∃ la lb dx dy X Y X' Y' : Int, [x0, p0, p1, p2, p3, p4, p5, p6].getD j 0 = X ∧ [ay, r0, r1, r2, r3, r4, r5, r6].getD j 0 = Y ∧ (#[.int .i16 l0, .int .i16 l1, .int .i16 l2, .int .i16 l3, .int .i16 l4, .int .i16 l5, .int .i16 l6, .int .i16 l7, .int .i16 l8, .int .i16 l9, .int .i16 l10, .int .i16 l11, .int .i16 l12, .int .i16 l13] : Array Value)[2 * j]? = some (Value.int .i16 la) ∧ (#[.int .i16 l0, .int .i16 l1, .int .i16 l2, .int .i16 l3, .int .i16 l4, .int .i16 l5, .int .i16 l6, .int .i16 l7, .int .i16 l8, .int .i16 l9, .int .i16 l10, .int .i16 l11, .int .i16 l12, .int .i16 l13] : Array Value)[2 * j + 1]? = some (Value.int .i16 lb) ∧ Int.tmod la 100 = dx ∧ Int.tmod lb 100 = dy ∧ wrap64 dx = dx ∧ wrap64 dy = dy ∧ X + dx = X' ∧ Y + dy = Y' ∧ wrap64 X' = X' ∧ wrap64 Y' = Y' ∧ [x0, p0, p1, p2, p3, p4, p5, p6].getD (j + 1) 0 = X' ∧ [ay, r0, r1, r2, r3, r4, r5, r6].getD (j + 1) 0 = Y' ∧ (((pcells p0 r0 p1 r1 p2 r2 p3 r3 p4 r4 p5 r5 p6 r6) j).setIfInBounds (j * 2) (.int .i64 X')).setIfInBounds (j * 2 + 1) (.int .i64 Y') = (pcells p0 r0 p1 r1 p2 r2 p3 r3 p4 r4 p5 r5 p6 r6) (j + 1) ∧ (∃ v, ((pcells p0 r0 p1 r1 p2 r2 p3 r3 p4 r4 p5 r5 p6 r6) j)[j * 2]? = some v) ∧ ∃ v, ((pcells p0 r0 p1 r1 p2 r2 p3 r3 p4 r4 p5 r5 p6 r6) j)[j * 2 + 1]? = some v) := ⟨by
      intro j hj
      have hjc : j = 0 ∨ j = 1 ∨ j = 2 ∨ j = 3 ∨ j = 4 ∨ j = 5 ∨ j = 6 := by omega
      rcases hjc with rfl | rfl | rfl | rfl | rfl | rfl | rfl
      · exact ⟨l0, l1, d0, e0, x0, ay, p0, r0, rfl, rfl, rfl, rfl, hd0, he0, wd0, we0, hp0, hr0, wp0, wr0, rfl, rfl, rfl, ⟨_, rfl⟩, ⟨_, rfl⟩⟩
      · exact ⟨l2, l3, d1, e1, p0, r0, p1, r1, rfl, rfl, rfl, rfl, hd1, he1, wd1, we1, hp1, hr1, wp1, wr1, rfl, rfl, rfl, ⟨_, rfl⟩, ⟨_, rfl⟩⟩
      · exact ⟨l4, l5, d2, e2, p1, r1, p2, r2, rfl, rfl, rfl, rfl, hd2, he2, wd2, we2, hp2, hr2, wp2, wr2, rfl, rfl, rfl, ⟨_, rfl⟩, ⟨_, rfl⟩⟩
      · exact ⟨l6, l7, d3, e3, p2, r2, p3, r3, rfl, rfl, rfl, rfl, hd3, he3, wd3, we3, hp3, hr3, wp3, wr3, rfl, rfl, rfl, ⟨_, rfl⟩, ⟨_, rfl⟩⟩
      · exact ⟨l8, l9, d4, e4, p3, r3, p4, r4, rfl, rfl, rfl, rfl, hd4, he4, wd4, we4, hp4, hr4, wp4, wr4, rfl, rfl, rfl, ⟨_, rfl⟩, ⟨_, rfl⟩⟩
      · exact ⟨l10, l11, d5, e5, p4, r4, p5, r5, rfl, rfl, rfl, rfl, hd5, he5, wd5, we5, hp5, hr5, wp5, wr5, rfl, rfl, rfl, ⟨_, rfl⟩, ⟨_, rfl⟩⟩
      · exact ⟨l12, l13, d6, e6, p5, r5, p6, r6, rfl, rfl, rfl, rfl, hd6, he6, wd6, we6, hp6, hr6, wp6, wr6, rfl, rfl, rfl, ⟨_, rfl⟩, ⟨_, rfl⟩⟩⟩
    have HPC : Aside0 (u2.heap[gp]? = some (.cells (pcells p0 r0 p1 r1 p2 r2 p3 r3 p4 r4 p5 r5 p6 r6 0) 57 (0, 0))) := HJP
    have HPT : Aside0 (u2.heap[g9 + 1]? = some (.cells #[.int .i64 ([x0, p0, p1, p2, p3, p4, p5, p6].getD 0 0), .int .i64 ([ay, r0, r1, r2, r3, r4, r5, r6].getD 0 0)] 55 (0, 0))) := HJ10
    have HEND : Aside0 ((pcells p0 r0 p1 r1 p2 r2 p3 r3 p4 r4 p5 r5 p6 r6 7)[0]? = some (Value.int .i64 p0) ∧ (pcells p0 r0 p1 r1 p2 r2 p3 r3 p4 r4 p5 r5 p6 r6 7)[1]? = some (Value.int .i64 r0) ∧ (pcells p0 r0 p1 r1 p2 r2 p3 r3 p4 r4 p5 r5 p6 r6 7)[2]? = some (Value.int .i64 p1) ∧ (pcells p0 r0 p1 r1 p2 r2 p3 r3 p4 r4 p5 r5 p6 r6 7)[3]? = some (Value.int .i64 r1) ∧ (pcells p0 r0 p1 r1 p2 r2 p3 r3 p4 r4 p5 r5 p6 r6 7)[4]? = some (Value.int .i64 p2) ∧ (pcells p0 r0 p1 r1 p2 r2 p3 r3 p4 r4 p5 r5 p6 r6 7)[5]? = some (Value.int .i64 r2) ∧ (pcells p0 r0 p1 r1 p2 r2 p3 r3 p4 r4 p5 r5 p6 r6 7)[6]? = some (Value.int .i64 p3) ∧ (pcells p0 r0 p1 r1 p2 r2 p3 r3 p4 r4 p5 r5 p6 r6 7)[7]? = some (Value.int .i64 r3) ∧ (pcells p0 r0 p1 r1 p2 r2 p3 r3 p4 r4 p5 r5 p6 r6 7)[8]? = some (Value.int .i64 p4) ∧ (pcells p0 r0 p1 r1 p2 r2 p3 r3 p4 r4 p5 r5 p6 r6 7)[9]? = some (Value.int .i64 r4) ∧ (pcells p0 r0 p1 r1 p2 r2 p3 r3 p4 r4 p5 r5 p6 r6 7)[10]? = some (Value.int .i64 p5) ∧ (pcells p0 r0 p1 r1 p2 r2 p3 r3 p4 r4 p5 r5 p6 r6 7)[11]? = some (Value.int .i64 r5) ∧ (pcells p0 r0 p1 r1 p2 r2 p3 r3 p4 r4 p5 r5 p6 r6 7)[12]? = some (Value.int .i64 p6) ∧ (pcells p0 r0 p1 r1 p2 r2 p3 r3 p4 r4 p5 r5 p6 r6 7)[13]? = some (Value.int .i64 r6)) := ⟨⟨rfl, rfl, rfl, rfl, rfl, rfl, rfl, rfl, rfl, rfl, rfl, rfl, rfl, rfl⟩⟩
    have HXW : Aside0 (wrap64 b = b ∧ wrap64 x0 = x0 ∧ wrap64 p6 = p6) := ⟨wb, wx0, wp6⟩
    have HXE : Aside0 (ax + b = x0 ∧ Int.tmod xx 1000 = b) := ⟨hx0, hb⟩
    clear HJP HJ10 HG HFX
    clear hd0 he0 hp0 hr0 wd0 we0 wp0 wr0
    clear hd1 he1 hp1 hr1 wd1 we1 wp1 wr1
    clear hd2 he2 hp2 hr2 wd2 we2 wp2 wr2
    clear hd3 he3 hp3 hr3 wd3 we3 wp3 wr3
    clear hd4 he4 hp4 hr4 wd4 we4 wp4 wr4
    clear hd5 he5 hp5 hr5 wd5 we5 wp5 wr5
    clear hd6 he6 hp6 hr6 wd6 we6 wp6 wr6
    obtain ⟨LP, hLP⟩ : ∃ L : List Int, [x0, p0, p1, p2, p3, p4, p5, p6] = L := ⟨_, rfl⟩
    obtain ⟨LR, hLR⟩ : ∃ L : List Int, [ay, r0, r1, r2, r3, r4, r5, r6] = L := ⟨_, rfl⟩
    obtain ⟨AG, hAG⟩ : ∃ L : Array Value, #[.int .i16 l0, .int .i16 l1, .int .i16 l2, .int .i16 l3, .int .i16 l4, .int .i16 l5, .int .i16 l6, .int .i16 l7, .int .i16 l8, .int .i16 l9, .int .i16 l10, .int .i16 l11, .int .i16 l12, .int .i16 l13] = L := ⟨_, rfl⟩
    obtain ⟨pc, hpc⟩ : ∃ L : Nat → Array Value, pcells p0 r0 p1 r1 p2 r2 p3 r3 p4 r4 p5 r5 p6 r6 = L := ⟨_, rfl⟩
    rw [hLP, hLR] at HPT
    rw [hLP, hLR, hAG, hpc] at HSTEP
    rw [hAG] at HJL
    rw [hpc] at HPC HEND
    have HLL := Aside0.mk (And.intro hLP hLR)
    clear hLP hLR hAG hpc
    clear hax hay hb hx0 wax way wb wx0 wib bdax bday bdb
    have KE := HNP.out
    go_loopw [62] (fun v62 wr => ∃ j : Nat, v62 = .int .i64 (j : Int) ∧ j ≤ 7 ∧ Aside0 (Below w.heap.size w wr) ∧ Aside0 (wr.heap[g9]? = some (.cells #[.int .i64 ax, .int .i64 ay] 55 (0, 0))) ∧ Aside0 (wr.heap[g9 + 1]? = some (.cells #[.int .i64 (LP.getD j 0), .int .i64 (LR.getD j 0)] 55 (0, 0))) ∧ Aside0 (wr.heap[gl]? = some (.cells AG 53 (0, 0))) ∧ Aside0 (wr.heap[gp]? = some (.cells (pc j) 57 (0, 0))) ∧ Aside0 (wr.heap[gr]? = some (.cells cs 43 (0, 0))) ∧ Aside0 (GlV w4.heap.size wr (.agg cs) G)) (fun v62 _ => 7 - (intOf v62).toNat)
    case atStart => exact ⟨0, rfl, by omega, HB7, HJ9, HPT, HJL, HPC, HJR, HJG⟩
    case round =>
      clear HB7 HJ9 HPT HJL HPC HJR HJG KE
      obtain ⟨j, rfl, hj, HB, K9, K10, KL, KP, KR, KG⟩ := hrel
      rcases Nat.lt_or_ge j 7 with hj7 | hj7
      · obtain ⟨la, lb, dx, dy, X, Y, X', Y', hX, hY, hla, hlb, tla, tlb, wdx, wdy, hX', hY', wX', wY', hXn, hYn, hpcn, hpc0, hpc1⟩ := HSTEP.out j hj7
        have hjl : (j : Int) < 7 := by omega
        rw [hX, hY] at K10
        have c0 : wr.cell? ⟨g9 + 1, 0, none⟩ = some (.int .i64 X) := (blk_cell K10.out 0).trans rfl
        have c1 : wr.cell? ⟨g9 + 1, 1, none⟩ = some (.int .i64 Y) := (blk_cell K10.out 1).trans rfl
        obtain ⟨m, hm⟩ : ∃ m, 2 * j = m := ⟨_, rfl⟩
        obtain ⟨m1, hm1⟩ : ∃ m1, m + 1 = m1 := ⟨_, rfl⟩
        rw [hm] at hla hlb
        rw [hm1] at hlb
        have wj : IntKind.i64.wrap (2 * (j : Int)) = (m : Int) := by rw [IntKind.wrap_i64]; omega
        have wm : IntKind.i64.wrap ((m : Int) + 1) = (m1 : Int) := by rw [IntKind.wrap_i64]; omega
        have hm14 : (m : Int) < 14 := by omega
        have hm15 : (m1 : Int) < 14 := by omega
        have a0 : wr.cell? ⟨gl, m, none⟩ = some (.int .i16 la) := (blk_cell KL.out m).trans hla
        have a1 : wr.cell? ⟨gl, m1, none⟩ = some (.int .i16 lb) := (blk_cell KL.out m1).trans hlb
        have HPN := Aside0.mk (And.intro hpcn (And.intro hpc0 (And.intro hpc1 (And.intro hXn hYn))))
        have wid : IntKind.i64.wrap dx = dx := by have h := wdx; unfold wrap64 at h; rw [IntKind.wrap_i64]; exact h
        have wie : IntKind.i64.wrap dy = dy := by have h := wdy; unfold wrap64 at h; rw [IntKind.wrap_i64]; exact h
        have wip : IntKind.i64.wrap X' = X' := by have h := wX'; unfold wrap64 at h; rw [IntKind.wrap_i64]; exact h
        have wir : IntKind.i64.wrap Y' = Y' := by have h := wY'; unfold wrap64 at h; rw [IntKind.wrap_i64]; exact h
        clear hpcn hpc0 hpc1 hla hlb hX hY hXn hYn hm hm1
        go_wp2_with fail
        go_still_tail 20, (by kernel_rfl)
        change wpList _ _ _ _ _ wr.drew
        have kq9 : wr.drew.heap[g9]? = some (.cells #[.int .i64 ax, .int .i64 ay] 55 (0, 0)) := K9.out
        have kq10 : wr.drew.heap[g9 + 1]? = some (.cells #[.int .i64 X, .int .i64 Y] 55 (0, 0)) := K10.out
        have kqL : wr.drew.heap[gl]? = some (.cells AG 53 (0, 0)) := KL.out
        have kqP : wr.drew.heap[gp]? = some (.cells (pc j) 57 (0, 0)) := KP.out
        have kqR : wr.drew.heap[gr]? = some (.cells cs 43 (0, 0)) := KR.out
        have kqG : GlV w4.heap.size wr.drew (.agg cs) G := glv_below KG.out (pw_below_drewN (Below.refl _ _) 1)
        have hbq : Below w.heap.size w wr.drew := below_then HB.out HB.out.size (pw_below_drewN (Below.refl _ _) 1)
        clear c0 c1 a0 a1
        generalize wr.drew = wq at kq9 kq10 kqL kqP kqR kqG hbq ⊢
        have c0 : wq.cell? ⟨g9 + 1, 0, none⟩ = some (.int .i64 X) := (blk_cell kq10 0).trans rfl
        have f0 : wq.frozen? ⟨g9 + 1, 0, none⟩ = false := blk_frozen kq10 0
        have s1 := blk_set kq10 0 (.int .i64 X')
        have c1 : (wq.setCell ⟨g9 + 1, 0, none⟩ (.int .i64 X')).cell? ⟨g9 + 1, 1, none⟩ = some (.int .i64 Y) := (blk_cell s1 1).trans rfl
        have f1 : (wq.setCell ⟨g9 + 1, 0, none⟩ (.int .i64 X')).frozen? ⟨g9 + 1, 1, none⟩ = false := blk_frozen s1 1
        have s2 := blk_set s1 1 (.int .i64 Y')
        obtain ⟨wz, hwz⟩ : ∃ wz, (wq.setCell ⟨g9 + 1, 0, none⟩ (.int .i64 X')).setCell ⟨g9 + 1, 1, none⟩ (.int .i64 Y') = wz := ⟨_, rfl⟩
        have z9 := (blk_far (blk_far kq9 (p := ⟨g9 + 1, 0, none⟩) (by show g9 ≠ g9 + 1; have := HNP.out; omega) (.int .i64 X')) (p := ⟨g9 + 1, 1, none⟩) (by show g9 ≠ g9 + 1; have := HNP.out; omega) (.int .i64 Y'))
        have zL := (blk_far (blk_far kqL (p := ⟨g9 + 1, 0, none⟩) (by show gl ≠ g9 + 1; have := HNP.out; omega) (.int .i64 X')) (p := ⟨g9 + 1, 1, none⟩) (by show gl ≠ g9 + 1; have := HNP.out; omega) (.int .i64 Y'))
        have zP := (blk_far (blk_far kqP (p := ⟨g9 + 1, 0, none⟩) (by show gp ≠ g9 + 1; have := HNP.out; omega) (.int .i64 X')) (p := ⟨g9 + 1, 1, none⟩) (by show gp ≠ g9 + 1; have := HNP.out; omega) (.int .i64 Y'))
        have zR := (blk_far (blk_far kqR (p := ⟨g9 + 1, 0, none⟩) (by show gr ≠ g9 + 1; have := HNP.out; omega) (.int .i64 X')) (p := ⟨g9 + 1, 1, none⟩) (by show gr ≠ g9 + 1; have := HNP.out; omega) (.int .i64 Y'))
        have hbz : Below w.heap.size w ((wq.setCell ⟨g9 + 1, 0, none⟩ (.int .i64 X')).setCell ⟨g9 + 1, 1, none⟩ (.int .i64 Y')) := below_set (below_set hbq (by have := HGG.out; show w.heap.size ≤ g9 + 1; omega)) (by have := HGG.out; show w.heap.size ≤ g9 + 1; omega)
        have gz := glv_set (glv_set kqG kq10 (by decide) (by decide) 0 (.int .i64 X')) s1 (by decide) (by decide) 1 (.int .i64 Y')
        rw [hwz] at s2 z9 zL zP zR hbz gz
        have Z := Aside0.mk (And.intro hbz (And.intro z9 (And.intro s2 (And.intro zL (And.intro zP (And.intro zR gz))))))
        have d0 : wz.cell? ⟨g9 + 1, 0, none⟩ = some (.int .i64 X') := (blk_cell s2 0).trans rfl
        have d1 : wz.cell? ⟨g9 + 1, 1, none⟩ = some (.int .i64 Y') := (blk_cell s2 1).trans rfl
        obtain ⟨v0, hv0⟩ := HPN.out.2.1
        obtain ⟨v1', hv1⟩ := HPN.out.2.2.1
        have b0 : wz.cell? ⟨gp, j * 2, none⟩ = some v0 := (blk_cell zP (j * 2)).trans hv0
        have g0_ : wz.frozen? ⟨gp, j * 2, none⟩ = false := blk_frozen zP (j * 2)
        have s3 := blk_set zP (j * 2) (.int .i64 X')
        have b1 : (wz.setCell ⟨gp, j * 2, none⟩ (.int .i64 X')).cell? ⟨gp, j * 2 + 1, none⟩ = some v1' := (blk_cell s3 (j * 2 + 1)).trans (by rw [Array.getElem?_setIfInBounds_ne (by omega)]; exact hv1)
        have g1_ : (wz.setCell ⟨gp, j * 2, none⟩ (.int .i64 X')).frozen? ⟨gp, j * 2 + 1, none⟩ = false := blk_frozen s3 (j * 2 + 1)
        have s4 := blk_set s3 (j * 2 + 1) (.int .i64 Y')
        rw [HPN.out.1] at s4
        obtain ⟨wy, hwy⟩ : ∃ wy, (wz.setCell ⟨gp, j * 2, none⟩ (.int .i64 X')).setCell ⟨gp, j * 2 + 1, none⟩ (.int .i64 Y') = wy := ⟨_, rfl⟩
        have y9 := (blk_far (blk_far z9 (p := ⟨gp, j * 2, none⟩) (by show g9 ≠ gp; have := HNP.out; omega) (.int .i64 X')) (p := ⟨gp, j * 2 + 1, none⟩) (by show g9 ≠ gp; have := HNP.out; omega) (.int .i64 Y'))
        have y10 := (blk_far (blk_far s2 (p := ⟨gp, j * 2, none⟩) (by show g9 + 1 ≠ gp; have := HNP.out; omega) (.int .i64 X')) (p := ⟨gp, j * 2 + 1, none⟩) (by show g9 + 1 ≠ gp; have := HNP.out; omega) (.int .i64 Y'))
        have yL := (blk_far (blk_far zL (p := ⟨gp, j * 2, none⟩) (by show gl ≠ gp; have := HNP.out; omega) (.int .i64 X')) (p := ⟨gp, j * 2 + 1, none⟩) (by show gl ≠ gp; have := HNP.out; omega) (.int .i64 Y'))
        have yR := (blk_far (blk_far zR (p := ⟨gp, j * 2, none⟩) (by show gr ≠ gp; have := HNP.out; omega) (.int .i64 X')) (p := ⟨gp, j * 2 + 1, none⟩) (by show gr ≠ gp; have := HNP.out; omega) (.int .i64 Y'))
        have hby : Below w.heap.size w ((wz.setCell ⟨gp, j * 2, none⟩ (.int .i64 X')).setCell ⟨gp, j * 2 + 1, none⟩ (.int .i64 Y')) := below_set (below_set hbz HNP.out.2.2.2.2.2.2) HNP.out.2.2.2.2.2.2
        have gy := glv_set (glv_set gz zP (by decide) (by decide) (j * 2) (.int .i64 X')) s3 (by decide) (by decide) (j * 2 + 1) (.int .i64 Y')
        rw [hwy] at s4 y9 y10 yL yR hby gy
        have Y := Aside0.mk (And.intro hby (And.intro y9 (And.intro y10 (And.intro yL (And.intro s4 (And.intro yR gy))))))
        clear s1 s2 s3 s4 z9 zL zP zR y9 y10 yL yR hbz hby gz gy kq9 kq10 kqL kqP kqR kqG hbq hv0 hv1 Z
        go_wp2_with fail
        refine ⟨⟨j + 1, ?_, by omega, ⟨Y.out.1⟩, ⟨Y.out.2.1⟩, ⟨?_⟩, ⟨Y.out.2.2.2.1⟩, ⟨Y.out.2.2.2.2.1⟩, ⟨Y.out.2.2.2.2.2.1⟩, ⟨Y.out.2.2.2.2.2.2⟩⟩, ?_⟩
        · exact congrArg _ (by first | rfl | omega | (rw [IntKind.wrap_i64]; omega) | (show wrap64 _ = _; rw [wid (by omega) (by omega)]; omega))
        · rw [HPN.out.2.2.2.1, HPN.out.2.2.2.2]; exact Y.out.2.2.1
        · simp [intOf]; omega
      · obtain rfl : j = 7 := by omega
        obtain ⟨q0, q1, q2, q3, q4, q5, q6, q7, q8, q9, q10, q11, q12, q13⟩ := HEND.out
        obtain ⟨wb, wx0, wp6⟩ := HXW.out
        obtain ⟨hx0, hb⟩ := HXE.out
        have wib : IntKind.i64.wrap b = b := by have h := wb; unfold wrap64 at h; rw [IntKind.wrap_i64]; exact h
        have e0 : wr.cell? ⟨g9, 0, none⟩ = some (.int .i64 ax) := (blk_cell K9.out 0).trans rfl
        have e1 : wr.cell? ⟨g9, 1, none⟩ = some (.int .i64 ay) := (blk_cell K9.out 1).trans rfl
        have u1 : wr.cell? ⟨gp, 2, none⟩ = some (.int .i64 p1) := (blk_cell KP.out 2).trans q2
        have v1 : wr.cell? ⟨gp, 3, none⟩ = some (.int .i64 r1) := (blk_cell KP.out 3).trans q3
        have u2 : wr.cell? ⟨gp, 4, none⟩ = some (.int .i64 p2) := (blk_cell KP.out 4).trans q4
        have v2 : wr.cell? ⟨gp, 5, none⟩ = some (.int .i64 r2) := (blk_cell KP.out 5).trans q5
        have u3 : wr.cell? ⟨gp, 6, none⟩ = some (.int .i64 p3) := (blk_cell KP.out 6).trans q6
        have v3 : wr.cell? ⟨gp, 7, none⟩ = some (.int .i64 r3) := (blk_cell KP.out 7).trans q7
        have u4 : wr.cell? ⟨gp, 8, none⟩ = some (.int .i64 p4) := (blk_cell KP.out 8).trans q8
        have v4 : wr.cell? ⟨gp, 9, none⟩ = some (.int .i64 r4) := (blk_cell KP.out 9).trans q9
        have u5 : wr.cell? ⟨gp, 10, none⟩ = some (.int .i64 p5) := (blk_cell KP.out 10).trans q10
        have v5 : wr.cell? ⟨gp, 11, none⟩ = some (.int .i64 r5) := (blk_cell KP.out 11).trans q11
        have u6 : wr.cell? ⟨gp, 12, none⟩ = some (.int .i64 p6) := (blk_cell KP.out 12).trans q12
        have v6 : wr.cell? ⟨gp, 13, none⟩ = some (.int .i64 r6) := (blk_cell KP.out 13).trans q13
        clear q0 q1 q2 q3 q4 q5 q6 q7 q8 q9 q10 q11 q12 q13
        obtain ⟨wE, hwE⟩ : ∃ wE, wr.alloc (.cells #[.int .i64 1, .int .i64 x0, .int .i64 ay, .int .i64 0, .int .i64 0, .int .i64 0, .int .i64 0, .int .i64 3, .int .i64 p1, .int .i64 r1, .int .i64 p2, .int .i64 r2, .int .i64 p3, .int .i64 r3, .int .i64 3, .int .i64 p4, .int .i64 r4, .int .i64 p5, .int .i64 r5, .int .i64 p6, .int .i64 r6, .int .i64 2, .int .i64 (p6 + 7), .int .i64 r6, .int .i64 0, .int .i64 0, .int .i64 0, .int .i64 0] 60) = wE := ⟨_, rfl⟩
        obtain ⟨gE, hgE⟩ : ∃ g, wr.heap.size = g := ⟨_, rfl⟩
        have hbE : Below wr.heap.size wr wE := by rw [← hwE]; exact below_alloc (Below.refl _ _) _
        have GL2 : Aside0 (GlR wE (.agg #[.int .i64 ax, .int .i64 700, .slice (some ⟨gE, 0, none⟩) 4 4, .slice none 0 0]) (F33.flexG ax ay p1 r1 p2 r2 p3 r3 p4 r4 p5 r5 p6 r6 x0)) := ⟨by rw [← hwE, ← hgE]; exact ⟨_, _, rfl, rd_new wr (List.flatMap stp [(1, (x0, ay), (0, 0), (0, 0)), (3, (p1, r1), (p2, r2), (p3, r3)), (3, (p4, r4), (p5, r5), (p6, r6)), (2, (p6 + 7, r6), (0, 0), (0, 0))]) 60 4 4 _ rfl, rd_nil _⟩⟩
        have GL1 : Aside0 (GlR wE (.agg cs) G) := ⟨GlR.of (glv_below KG.out hbE)⟩
        have KE := Aside0.mk (blk_below KR.out hbE)
        have k9E := blk_below K9.out hbE
        have x0E : wE.cell? ⟨g9, 0, none⟩ = some (.int .i64 ax) := (blk_cell k9E 0).trans rfl
        have HBE := Aside0.mk (below_step HB.out hbE)
        have w67 : wrap64 (p6 + 7) = p6 + 7 := by have h := wp6; unfold wrap64 at h ⊢; have := HB67.out; omega
        clear hbE k9E
        go_wp2_with (first | (refine load_gl rfl _ rfl gr rfl cs HC.out.1 KE.out ?_))
        refine (same_call GL1.out GL2.out (by have := HKK.out.1; omega) (by have := HKK.out.2; omega) (by simp [F33.flexG]) (by simp [F33.flexG])).mono ?_
        rintro e y1 ⟨rfl, hby⟩
        rw [decide_eq_true HGE.out.symm]
        have HBF := Aside0.mk (below_step HBE.out hby)
        clear hby
        go_wp2_with fail
        go_ret
        exact ⟨rfl, HBF.out⟩
end Go.Proofs.Ytimnohaalccdkaa.V33f
