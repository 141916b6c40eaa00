/- Several texts of this claim, one behind the other. -/
import Derived.Test.YtimnohaalccdkaaM33
import Derived.Test.YtimnohaalccdkaaP33ax
import Derived.StillTailTactics
/- The stack of the machine (chapter 33): push 54, Clone 105, take 96. -/
namespace Go.Proofs.Ytimnohaalccdkaa.G33a
open Go.Proofs.Ytimnohaalccdkaa.K33 Go.Proofs.Ytimnohaalccdkaa.M33
open Go.RowKit Go.Proofs.YtimnohaalccdkaaW.PrintWords Go.Proofs.YtimnohaalccdkaaW.PrintLast Go.Proofs.YtimnohaalccdkaaW.PrintMore
set_option linter.unusedVariables false
set_option linter.unusedSimpArgs false
set_option maxRecDepth 100000
theorem info3 : (Try.prog.info? 3).map (fun i => (i.zero, i.size, i.bytes)) = some (some (.int .i64 0), 1, 8) := by kernel_rfl
set_option maxHeartbeats 1000000 in
theorem push_call {W0 w : World} {b : Nat} {sb : Value} {m : M} (h : Mach W0 w b sb m) (n : Int) (hn : -2147483648 ≤ n ∧ n ≤ 2147483648) :
    Calls Try.prog 54 #[.pointer (some ⟨b, 0, none⟩), .int .i64 n] w (Did W0 b sb (push m n)) := by
  obtain ⟨hB, hb, vs, vt, vk, A, c, vp, h⟩ := h
  have hok := h.ok
  have HV := Aside0.mk h
  have HB := Aside0.mk hB
  have HB8 := Aside0.mk hb
  obtain ⟨Ak, ck, rfl⟩ := own_slice h.stack
  have c8 : w.cell? ⟨b, 8, none⟩ = some (.slice Ak m.stack.length ck) := h.cell 8
  have h24 := hok.stack
  unfold push
  by_cases hf : m.stack.length = 24
  · rw [if_pos hf]
    have t : ((m.stack.length : Int) == 24) = true := by rw [hf]; rfl
    clear h hB
    go_enter Try.func54, Try.ntmps54
    go_wp2_with fail
    go_ret
    exact ⟨rfl, .inl rfl, HB.out, HB8.out, _, HV.out.blk, rfl⟩
  · rw [if_neg hf]
    have t : ((m.stack.length : Int) == 24) = false := by simp; omega
    have HOK : Aside0 (Ok { m with stack := m.stack ++ [n] }) := ⟨⟨by simp; omega, hok.small.app (.one hn), hok.res, hok.rsmall, hok.steps, hok.stems, hok.points, hok.x, hok.y, hok.side, hok.width, hok.count⟩⟩
    have HBW := Aside0.mk hB.size
    clear hok h hB hn hb
    go_enter Try.func54, Try.ntmps54
    go_wp2_with (at_builtin; refine print_append_num (w0 := W0) W0.heap.size rfl (.tmp 15) (.tmp 17) 93 3 .i64 8 rfl Try.underlying93 info3 (by decide) (.slice Ak m.stack.length ck) m.stack n rfl rfl HV.out.stack HB.out HBW.out (by omega) ?_; intro v1 w1 ho1 hb1 hg1 hat1; obtain ⟨A1, k1, rfl⟩ := own_slice ho1; have HO1 := Aside0.mk ho1; have HB1 := Aside0.mk hb1; have HG1 := Aside0.mk hg1; have HAT := Aside0.mk hat1; have hbk := blk_grown HV.out.blk hg1 (own_ne HV.out.stack HV.out.blk (by decide)); have f8 : w1.frozen? ⟨b, 8, none⟩ = false := blk_frozen hbk 8; have c8' : w1.cell? ⟨b, 8, none⟩ = some (.slice Ak m.stack.length ck) := blk_cell hbk 8; clear ho1 hb1 hg1 hat1 hbk c8)
    go_ret
    exact ⟨rfl, below_set HB1.out HB8.out, HB8.out, vs, vt, _, A, c, vp, HV.out.put_stack (by simpa using HO1.out) HG1.out (by simpa using HAT.out) HOK.out⟩
/-- A new row of whole numbers. -/
theorem own_ints {w : World} {B n c : Nat} {A : Option Addr} {xs : List Int} (h : w.ownsRow B 3 1 (.slice A n c) xs.length (nums .i64 xs)) : Ints w A xs := by
  rcases h.2 with ⟨e, h0⟩ | ⟨g, cap, cur, e, h1, h2, h3, h4, h5, h6⟩
  · exact .inl (List.eq_nil_of_length_eq_zero h0)
  · cases e
    refine .inr ⟨g, 0, cur, rfl, h2, fun i x hx => ?_⟩
    rw [Nat.mul_one] at h6
    have hi : i < xs.length := (List.getElem?_eq_some_iff.1 hx).1
    rw [Nat.zero_add, ← Array.getElem?_toList, ← List.getElem?_take_of_lt hi, h6]
    simp [nums, hx]
theorem own_off {w w' : World} {B k size n c : Nat} {e : TypeId} {A : Option Addr} {xs : List Int} {ys : List Value} {vk : Value} (h : w'.ownsRow w.heap.size 3 1 (.slice A n c) xs.length (nums .i64 xs)) (ho : w.ownsRow B e size vk k ys) : Off A xs vk := by
  rcases h.2 with ⟨e, h0⟩ | ⟨g, cap, cur, e, h1, h2, h3, h4, h5, h6⟩
  · exact .inl (List.eq_nil_of_length_eq_zero h0)
  · cases e
    refine .inr fun a e => ?_
    injection e with e
    subst e
    intro hk
    have := own_lt ho _ hk
    simp only at this
    omega
theorem own_len {w : World} {B n c m : Nat} {A : Option Addr} {e : TypeId} {size : Nat} {xs : List Value} (h : w.ownsRow B e size (.slice A n c) m xs) : n = m ∧ m ≤ c ∧ (A = none → c = 0) := by
  rcases h.2 with ⟨e, h0⟩ | ⟨g, cap, cur, e, h1, h2, h3, h4, h5, h6⟩
  · cases e; exact ⟨h0.symm, by omega, fun _ => rfl⟩
  · cases e; exact ⟨rfl, h3, fun h => by cases h⟩
theorem ints_reads {w : World} {A : Option Addr} {xs : List Int} (h : Ints w A xs) (hl : xs.length ≤ 9223372036854775807) : ReadsInt w .i64 A xs.length xs := by
  refine ⟨rfl, hl, fun hn => ?_⟩
  rcases h with rfl | ⟨g, off, cs, h1, h2, h3⟩
  · simp at hn
  · refine ⟨_, h1, fun j hj => ?_⟩
    have e : (⟨g, off, none⟩ : Addr).add j = ⟨g, off + j, none⟩ := by unfold Addr.add; split <;> simp_all
    rw [e, blk_cell h2, h3 j _ (List.getElem?_eq_getElem hj), List.getD_eq_getElem?_getD, List.getElem?_eq_getElem hj]
    rfl
set_option maxHeartbeats 1000000 in
theorem clone_call {w : World} {A : Option Addr} {c : Nat} {xs : List Int} (h : ReadsInt w .i64 A xs.length xs) (hc : xs.length ≤ c) (hA : A = none → c = 0) (hl : xs.length ≤ 100000) :
    Calls Try.prog 105 #[.slice A xs.length c] w fun e w' => ∃ v, e = .returned v ∧ w'.ownsRow w.heap.size 3 1 v xs.length (nums .i64 xs) ∧ Below w.heap.size w w' := by
  have HR := Aside0.mk h
  have HL := Aside0.mk hl
  rcases A with _ | a
  · have h0 := hA rfl
    subst h0
    obtain rfl : xs = [] := List.eq_nil_of_length_eq_zero (by omega)
    clear h hA hc hl
    have hq : ∀ W, (binOp .eql 93 (.slice none 0 0) (.slice none 0 0)).run Try.prog W = .ok (.bool true) W := fun W => by kernel_rfl
    go_enter Try.func105, Try.ntmps105
    go_wp2_with fail
    go_ret
    exact ⟨_, rfl, own_nil _ _ _ _, Below.refl _ _⟩
  · clear h hA hc hl
    have HE : Aside0 ((w.alloc (.cells #[] 3)).ownsRow w.heap.size 3 1 (.slice (some ⟨w.heap.size, 0, none⟩) 0 0) ([] : List Int).length (nums .i64 [])) := ⟨own_lit w w.heap.size 3 .i64 [] (Nat.le_refl _) (by simp)⟩
    have HB : Aside0 (Below w.heap.size w (w.alloc (.cells #[] 3))) := ⟨below_alloc (Below.refl _ _) _⟩
    have HR2 := Aside0.mk (HR.out.below HB.out)
    have hq : ∀ W, (binOp .eql 93 (.slice (some a) xs.length c) (.slice none 0 0)).run Try.prog W = .ok (.bool false) W := fun W => by kernel_rfl
    go_enter Try.func105, Try.ntmps105
    go_wp2_with (at_builtin; refine print_append_row (w0 := w) w.heap.size rfl (.tmp 5) (.tmp 6) 93 3 .i64 8 rfl Try.underlying93 info3 (by decide) (.slice (some ⟨w.heap.size, 0, none⟩) 0 0) [] xs (some a) xs.length c rfl rfl HE.out HR2.out HB.out HB.out.size (by have := HL.out; simp only [List.length_nil]; omega) ?_; intro v1 w1 ho1 hb1 hg1 hat1; have HO1 := Aside0.mk ho1; have HB1 := Aside0.mk hb1; clear ho1 hb1 hg1 hat1)
    go_ret
    exact ⟨_, rfl, HO1.out, HB1.out⟩
theorem add_zero (a : Addr) : a.add 0 = a := by unfold Addr.add; simp
theorem info3' : ∃ i, Try.prog.info? 3 = some i ∧ i.size = 1 := by
  obtain ⟨i, h, e⟩ := Option.map_eq_some_iff.1 info3
  simp only [Prod.mk.injEq] at e
  exact ⟨i, h, e.2.1⟩
theorem cutH (A : Option Addr) (n c k : Nat) (hk : k ≤ c) (W : World) : (Instr.slice 93 (.slice A n c) none (some (.int .i64 (k : Int))) none).run Try.prog W = .ok (.slice A k c) W := by
  have hu : Try.prog.underlying 93 = some (.slice (Try.prog.elem 93)) := by kernel_rfl
  have hel : Try.prog.elem 93 = 3 := by kernel_rfl
  obtain ⟨i, hi, hs⟩ := info3'
  rw [run_slice_h W 93 A n c hu .i64 (k : Int) (Int.natCast_nonneg _) (by omega), hel]
  simp [sizeOf, typeInfo, hi, hs, sliced, Result.andThen]
  intro h
  cases A <;> simp [add_zero]
theorem cutL (A : Option Addr) (n c m : Nat) (hm : m ≤ n) (hA : A = none → c = 0) : ∃ A' : Option Addr, (∀ W : World, (Instr.slice 93 (.slice A n c) (some (.int .i64 (m : Int))) none none).run Try.prog W = .ok (.slice A' (n - m) (c - m)) W) ∧ (A' = none → c - m = 0) ∧
    (∀ (w : World) (xs : List Int), xs.length = n → n ≤ c → Ints w A xs → Ints w A' (xs.drop m)) ∧ (∀ (xs : List Int) (vk : Value), xs.length = n → n ≤ c → Off A xs vk → Off A' (xs.drop m) vk) := by
  have hu : Try.prog.underlying 93 = some (.slice (Try.prog.elem 93)) := by kernel_rfl
  have hel : Try.prog.elem 93 = 3 := by kernel_rfl
  obtain ⟨i, hi, hs⟩ := info3'
  refine ⟨if c = m then A else A.map (·.add m), fun W => ?_, fun h => ?_, fun w xs hl hn h => ?_, fun xs vk hl hn h => ?_⟩
  · rw [run_slice_l W 93 A n c hu .i64 (m : Int) (Int.natCast_nonneg _) (by omega), hel]
    simp [sizeOf, typeInfo, hi, hs, sliced, Result.andThen]
  · by_cases hc : c = m
    · omega
    · rw [if_neg hc] at h
      cases A with
      | none => have := hA rfl; omega
      | some a => cases h
  · by_cases hx : xs.drop m = []
    · exact .inl hx
    · have hlt : m < xs.length := by
        rcases Nat.lt_or_ge m xs.length with h | h
        · exact h
        · exact absurd (List.drop_eq_nil_iff.2 h) hx
      rcases h with rfl | ⟨g, off, cs, h1, h2, h3⟩
      · simp at hlt
      · refine .inr ⟨g, off + m, cs, ?_, h2, fun i x hi => ?_⟩
        · rw [if_neg (by omega), h1]
          simp only [Option.map_some]
          unfold Addr.add
          split <;> simp_all
        · rw [Nat.add_assoc]
          refine h3 (m + i) x ?_
          rw [List.getElem?_drop] at hi
          exact hi
  · by_cases hx : xs.drop m = []
    · exact .inl hx
    · have hlt : m < xs.length := by
        rcases Nat.lt_or_ge m xs.length with h | h
        · exact h
        · exact absurd (List.drop_eq_nil_iff.2 h) hx
      rcases h with rfl | h
      · simp at hlt
      · refine .inr fun a' e => ?_
        rw [if_neg (by omega)] at e
        cases A with
        | none => cases e
        | some a =>
          simp only [Option.map_some, Option.some.injEq] at e
          have : a'.block = a.block := by rw [← e]; unfold Addr.add; split <;> rfl
          rw [this]
          exact h a rfl
/-- A machine in memory, and whole numbers off its rows. -/
def MachL (W0 w : World) (b : Nat) (sb : Value) (m : M) (L : Option Addr) (l : List Int) : Prop :=
  Below W0.heap.size W0 w ∧ W0.heap.size ≤ b ∧ ∃ vs vt vk A c vp, MachV W0.heap.size w b sb m vs vt vk A c vp ∧ Ints w L l ∧ Off L l vk
theorem MachL.mach {W0 w : World} {b : Nat} {sb : Value} {m : M} {L : Option Addr} {l : List Int} (h : MachL W0 w b sb m L l) : Mach W0 w b sb m := by
  obtain ⟨h1, h2, vs, vt, vk, A, c, vp, h3, _⟩ := h
  exact ⟨h1, h2, vs, vt, vk, A, c, vp, h3⟩
theorem MachL.ints {W0 w : World} {b : Nat} {sb : Value} {m : M} {L : Option Addr} {l : List Int} (h : MachL W0 w b sb m L l) : Ints w L l := by
  obtain ⟨h1, h2, vs, vt, vk, A, c, vp, h3, h4, _⟩ := h
  exact h4
/-- What take answers. -/
def Took (W0 w : World) (b : Nat) (sb : Value) (m : M) (n : Nat) (e : Ending) (w' : World) : Prop :=
  if m.stack.length < n then e = .returned (.tuple #[.slice none 0 0, .bool false]) ∧ w' = w
  else ∃ A c, e = .returned (.tuple #[.slice A n c, .bool true]) ∧ n ≤ c ∧ (A = none → c = 0) ∧ MachL W0 w' b sb { m with stack := m.stack.take (m.stack.length - n) } A (m.stack.drop (m.stack.length - n)) ∧ Keeps w w' ∧ (n = 0 ∨ ∀ a, A = some a → W0.heap.size ≤ a.block)
set_option maxHeartbeats 1000000 in
theorem take_call {W0 w : World} {b : Nat} {sb : Value} {m : M} (h : Mach W0 w b sb m) (n : Nat) (hn : n ≤ 2147483648) :
    Calls Try.prog 96 #[.pointer (some ⟨b, 0, none⟩), .int .i64 n] w (Took W0 w b sb m n) := by
  have H0 := Aside0.mk h
  obtain ⟨hB, hb, vs, vt, vk, A, c, vp, h⟩ := h
  have hok := h.ok
  have HV := Aside0.mk h
  have HB := Aside0.mk hB
  have HB8 := Aside0.mk hb
  obtain ⟨Ak, ck, rfl⟩ := own_slice h.stack
  obtain ⟨_, hk1, hk2⟩ := own_len h.stack
  have c8 : w.cell? ⟨b, 8, none⟩ = some (.slice Ak m.stack.length ck) := h.cell 8
  have h24 := hok.stack
  by_cases hf : m.stack.length < n
  · have HF := Aside0.mk hf
    have t : decide ((m.stack.length : Int) - (n : Int) < 0) = true := decide_eq_true (by omega)
    clear h hB
    go_enter Try.func96, Try.ntmps96
    go_wp2_with fail
    go_ret2
    unfold Took
    rw [if_pos HF.out]
    exact ⟨rfl, rfl⟩
  · have HF := Aside0.mk hf
    obtain ⟨k, hk⟩ : ∃ k : Nat, m.stack.length - n = k := ⟨_, rfl⟩
    have e : (m.stack.length : Int) - (n : Int) = (k : Int) := by omega
    have t : decide ((k : Int) < 0) = false := decide_eq_false (by omega)
    obtain ⟨A', hcut, hA', hints, hoff⟩ := cutL Ak m.stack.length ck k (by omega) hk2
    have hcut2 := cutH Ak m.stack.length ck k (by omega)
    have hl : (m.stack.drop k).length = n := by rw [List.length_drop]; omega
    have hn2 : m.stack.length - k = n := by omega
    rw [hn2] at hcut
    have hr := ints_reads (hints w m.stack rfl hk1 (own_ints h.stack)) (by omega)
    rw [hl] at hr
    have HCL : Aside0 (Calls Try.prog 105 #[.slice A' n (ck - k)] w fun e w' => ∃ v, e = .returned v ∧ w'.ownsRow w.heap.size 3 1 v n (nums .i64 (m.stack.drop k)) ∧ Below w.heap.size w w') := ⟨by
      have := clone_call (w := w) (A := A') (c := ck - k) (xs := m.stack.drop k) (by rw [hl]; exact hr) (by omega) hA' (by omega)
      rw [hl] at this
      exact this⟩
    have HOK : Aside0 (Ok { m with stack := m.stack.take k }) := ⟨⟨by rw [List.length_take]; omega, hok.small.take k, hok.res, hok.rsmall, hok.steps, hok.stems, hok.points, hok.x, hok.y, hok.side, hok.width, hok.count⟩⟩
    have HTK : Aside0 (w.ownsRow W0.heap.size 3 1 (.slice Ak k ck) (m.stack.take k).length (nums .i64 (m.stack.take k))) := ⟨by
      by_cases h0 : m.stack.length = 0
      · obtain rfl : k = 0 := by omega
        have := h.stack
        rw [h0] at this
        simp only [List.take_zero, List.length_nil]
        have h00 : m.stack = [] := List.eq_nil_of_length_eq_zero h0
        rw [h00] at this
        exact this
      · have := own_take h.stack k (by omega) (by omega)
        rw [List.length_take, Nat.min_eq_left (by omega)]
        rw [Nat.mul_one] at this
        unfold nums at this ⊢
        rw [List.map_take]
        exact this⟩
    have HSZ := Aside0.mk (show m.stack.length ≤ 24 ∧ n ≤ m.stack.length ∧ k ≤ ck ∧ n ≤ ck - k from ⟨h24, by omega, by omega, by omega⟩)
    have HL := Aside0.mk hl
    clear h hB hr hints hoff hok hA' hk1 hk2 hn2
    have HK := Aside0.mk hk
    clear hk
    go_enter Try.func96, Try.ntmps96
    go_wp2_with fail
    refine (HCL.out).mono ?_
    rintro e w1 ⟨v, rfl, ho, hb1⟩
    obtain ⟨A2, c2, rfl⟩ := own_slice ho
    have HO := Aside0.mk ho
    have HB1 := Aside0.mk hb1
    have HV1 := Aside0.mk (HV.out.below hb1)
    have c8' : w1.cell? ⟨b, 8, none⟩ = some (.slice Ak m.stack.length ck) := HV1.out.cell 8
    have f8 : w1.frozen? ⟨b, 8, none⟩ = false := HV1.out.frz 8
    clear ho hb1 c8
    go_wp2_with fail
    go_ret2
    obtain ⟨q1, q2, q3⟩ := own_len HO.out
    unfold Took
    rw [if_neg HF.out, HK.out]
    refine ⟨A2, c2, rfl, q2, q3, ⟨below_set (below_then HB.out HB.out.size HB1.out) HB8.out, HB8.out, vs, vt, _, A, c, vp, HV1.out.put_stack (pw_own_below HTK.out HB1.out) (World.grownBy.refl _ _) (.inl (by cases Ak <;> rfl)) HOK.out, ?_, ?_⟩, (keeps_below HB1.out).trans (keeps_set HV1.out.blk (by decide) 8 _), ?_⟩
    · refine ints_set (own_ints (B := w.heap.size) (n := n) (c := c2) (by rw [HL.out]; exact HO.out)) HV1.out.blk (by decide) 8 _
    · have := own_off (w := w) (w' := w1) (n := n) (c := c2) (xs := m.stack.drop k) (by rw [HL.out]; exact HO.out) HV.out.stack
      rcases this with h | h
      · exact .inl h
      · exact .inr fun a ha hk => h a ha (by rw [← hk]; cases Ak <;> rfl)
    · rcases HO.out.2 with ⟨e, h0⟩ | ⟨g, cap, cur, e, h1, _⟩
      · exact .inl h0
      · refine .inr fun a ha => ?_
        cases e
        injection ha with ha
        subst ha
        exact Nat.le_trans HB.out.size h1
end Go.Proofs.Ytimnohaalccdkaa.G33a
/- Arithmetic of the machine (chapter 33): floor 97, divide 70, pop 72. -/
namespace Go.Proofs.Ytimnohaalccdkaa.G33b
open Go.Proofs.Ytimnohaalccdkaa.K33 Go.Proofs.Ytimnohaalccdkaa.M33 Go.Proofs.Ytimnohaalccdkaa.G33a
open Go.RowKit Go.Proofs.YtimnohaalccdkaaW.PrintWords Go.Proofs.YtimnohaalccdkaaW.PrintLast Go.Proofs.YtimnohaalccdkaaW.PrintMore
set_option linter.unusedVariables false
set_option linter.unusedSimpArgs false
set_option maxRecDepth 100000
theorem fl_unique {a d z : Int} (hd : 0 < d) (h : z * d ≤ a) (h2 : a < (z + 1) * d) : a / d = z := by
  have h1' := (Int.le_ediv_iff_mul_le hd).2 h
  have h2' := (Int.ediv_lt_iff_lt_mul hd).2 h2
  omega
theorem fl_eq (a d : Int) (hd : 0 < d) : a / d = if a.tmod d < 0 then a.tdiv d - 1 else a.tdiv d := by
  have e1 := Int.tdiv_mul_add_tmod a d
  have e2 := Int.tmod_lt_of_pos a hd
  have e3 : -d < a.tmod d := by
    have := Int.tmod_lt_of_pos (-a) hd
    rw [Int.neg_tmod] at this
    omega
  by_cases hn : a.tmod d < 0
  · rw [if_pos hn]
    refine fl_unique hd ?_ ?_
    · rw [Int.sub_mul]; omega
    · rw [Int.sub_add_cancel]; omega
  · rw [if_neg hn]
    refine fl_unique hd (by omega) ?_
    rw [Int.add_mul]; omega
theorem td_bd (a d m : Int) (h1 : -m ≤ a) (h2 : a ≤ m) : -m ≤ a.tdiv d ∧ a.tdiv d ≤ m := by
  have := Int.natAbs_tdiv_le_natAbs a d
  omega
theorem flo_small (a b : Int) (ha : -2147483648 ≤ a ∧ a ≤ 2147483648) (hb : b ≠ 0) : -2147483648 ≤ flo a b ∧ flo a b ≤ 2147483648 := by
  have key : ∀ x d : Int, 0 < d → -2147483648 ≤ x ∧ x ≤ 2147483648 → -2147483648 ≤ x / d ∧ x / d ≤ 2147483648 := fun x d hd hx => by
    constructor
    · refine (Int.le_ediv_iff_mul_le hd).2 ?_
      have : 2147483648 * 1 ≤ 2147483648 * d := Int.mul_le_mul_of_nonneg_left hd (by decide)
      omega
    · refine Int.le_of_lt_add_one ((Int.ediv_lt_iff_lt_mul hd).2 ?_)
      have : 2147483649 * 1 ≤ 2147483649 * d := Int.mul_le_mul_of_nonneg_left hd (by decide)
      omega
  unfold flo
  split
  · exact key _ _ (by omega) (by omega)
  · exact key _ _ (by omega) ha
set_option maxHeartbeats 1000000 in
theorem floor_call (a b : Int) (hb : b ≠ 0) (ha1 : -2147483648 ≤ a) (ha2 : a ≤ 2147483648) (hb1 : -2147483648 ≤ b) (hb2 : b ≤ 2147483648) (w : World) :
    Calls Try.prog 97 #[.int .i64 a, .int .i64 b] w fun e w' => e = .returned (.int .i64 (flo a b)) ∧ w' = w := by
  by_cases hneg : b < 0
  · have HA : Aside0 (flo a b = if (-a).tmod (-b) < 0 then (-a).tdiv (-b) - 1 else (-a).tdiv (-b)) := ⟨by unfold flo; rw [if_pos hneg]; exact fl_eq (-a) (-b) (by omega)⟩
    have t0 : decide (b < 0) = true := decide_eq_true hneg
    obtain ⟨x, hx⟩ : ∃ x, -a = x := ⟨_, rfl⟩
    obtain ⟨d, hd⟩ : ∃ d, -b = d := ⟨_, rfl⟩
    have hbd := td_bd x d 2147483648 (by omega) (by omega)
    have hd0 : (d == 0) = false := by simp; omega
    rw [hx, hd] at HA
    by_cases hn : x.tmod d < 0
    · have HN := Aside0.mk hn
      have d1 : decide (x.tmod d < 0) = true := decide_eq_true hn
      go_enter Try.func97, Try.ntmps97
      go_wp2
      go_ret
      exact ⟨by rw [HA.out, if_pos HN.out]; rfl, rfl⟩
    · have HN := Aside0.mk hn
      have d1 : decide (x.tmod d < 0) = false := decide_eq_false hn
      go_enter Try.func97, Try.ntmps97
      go_wp2
      go_ret
      exact ⟨by rw [HA.out, if_neg (by have := HN.out; omega)]; rfl, rfl⟩
  · have HA : Aside0 (flo a b = if a.tmod b < 0 then a.tdiv b - 1 else a.tdiv b) := ⟨by unfold flo; rw [if_neg hneg]; exact fl_eq a b (by omega)⟩
    have t0 : decide (b < 0) = false := decide_eq_false hneg
    have hbd := td_bd a b 2147483648 (by omega) (by omega)
    have hd0 : (b == 0) = false := by simpa using hb
    by_cases hn : a.tmod b < 0
    · have HN := Aside0.mk hn
      have d1 : decide (a.tmod b < 0) = true := decide_eq_true hn
      go_enter Try.func97, Try.ntmps97
      go_wp2
      go_ret
      exact ⟨by rw [HA.out, if_pos HN.out]; rfl, rfl⟩
    · have HN := Aside0.mk hn
      have d1 : decide (a.tmod b < 0) = false := decide_eq_false hn
      go_enter Try.func97, Try.ntmps97
      go_wp2
      go_ret
      exact ⟨by rw [HA.out, if_neg (by have := HN.out; omega)]; rfl, rfl⟩
theorem ints_cells {w : World} {A : Option Addr} {l : List Int} (h : Ints w A l) (hl : l ≠ []) : ∃ g off : Nat, A = some ⟨g, off, none⟩ ∧ ∀ (i : Nat), i < l.length → w.cell? ⟨g, off + i, none⟩ = some (.int .i64 (l.getD i 0)) := by
  rcases h with h | ⟨g, off, cs, h1, h2, h3⟩
  · exact absurd h hl
  · refine ⟨g, off, h1, fun i hi => ?_⟩
    rw [blk_cell h2, h3 i _ (List.getElem?_eq_getElem hi), List.getD_eq_getElem?_getD, List.getElem?_eq_getElem hi]
    rfl
theorem drop2 (l : List Int) (h : 2 ≤ l.length) : l.drop (l.length - 2) = [l.getD (l.length - 2) 0, l.getD (l.length - 1) 0] := by
  refine List.ext_getElem (by simp; omega) fun i h1 h2 => ?_
  simp only [List.length_cons, List.length_nil] at h2
  rcases (show i = 0 ∨ i = 1 by omega) with rfl | rfl
  · simp [List.getD_eq_getElem?_getD, List.getElem?_eq_getElem (show l.length - 2 < l.length by omega)]
  · simp only [List.getElem_drop, List.getElem_cons_succ, List.getElem_cons_zero, List.getD_eq_getElem?_getD]
    rw [List.getElem?_eq_getElem (show l.length - 1 < l.length by omega)]
    simp only [Option.getD_some]
    congr 1
    omega
theorem getD_small {l : List Int} (h : Small l) (i : Nat) : -2147483648 ≤ l.getD i 0 ∧ l.getD i 0 ≤ 2147483648 := by
  rw [List.getD_eq_getElem?_getD]
  rcases Nat.lt_or_ge i l.length with hi | hi
  · rw [List.getElem?_eq_getElem hi]; exact h _ (List.getElem_mem hi)
  · rw [List.getElem?_eq_none hi]; simp
theorem Mach.ok {W0 w : World} {b : Nat} {sb : Value} {m : M} (h : Mach W0 w b sb m) : Ok m := by
  obtain ⟨_, _, vs, vt, vk, A, c, vp, h⟩ := h
  exact h.ok
theorem Mach.drew {W0 w : World} {b : Nat} {sb : Value} {m : M} (h : Mach W0 w b sb m) : Mach W0 w.drew b sb m := h.below (Below.drew (Below.refl _ _))
set_option maxHeartbeats 2000000 in
theorem divide_call {W0 w : World} {b : Nat} {sb : Value} {m : M} (h : Mach W0 w b sb m) :
    Calls Try.prog 70 #[.pointer (some ⟨b, 0, none⟩)] w (Did W0 b sb (divM m)) := by
  have HT := Aside0.mk (take_call h 2 (by decide))
  have hok := Mach.ok h
  have HB := Aside0.mk (Mach.left h)
  have HS := Aside0.mk hok.small
  clear hok
  go_enter Try.func70, Try.ntmps70
  go_wp2_with fail
  refine HT.out.mono ?_
  intro e w1 ht
  unfold Took at ht
  by_cases hl : m.stack.length < 2
  · rw [if_pos hl] at ht
    obtain ⟨rfl, rfl⟩ := ht
    have HE : Aside0 (divM m = .error 39) := ⟨by unfold divM; rw [if_pos (.inl hl)]⟩
    clear hl h HT HS
    go_wp2_with fail
    go_ret
    rw [HE.out]
    exact ⟨rfl, .inr rfl, HB.out⟩
  · rw [if_neg hl, drop2 _ (by omega)] at ht
    obtain ⟨A, c, rfl, hc, hA, hm, _⟩ := ht
    have hdiv : divM m = if m.stack.getD (m.stack.length - 1) 0 = 0 then .error 39 else push { m with stack := m.stack.take (m.stack.length - 2) } (flo (m.stack.getD (m.stack.length - 2) 0) (m.stack.getD (m.stack.length - 1) 0)) := by
      unfold divM
      by_cases h0 : m.stack.getD (m.stack.length - 1) 0 = 0
      · rw [if_pos (.inr h0), if_pos h0]
      · rw [if_neg (by rintro (h | h); exact hl h; exact h0 h), if_neg h0]
    have sx := getD_small HS.out (m.stack.length - 2)
    have sy := getD_small HS.out (m.stack.length - 1)
    obtain ⟨x, hx⟩ : ∃ x, m.stack.getD (m.stack.length - 2) 0 = x := ⟨_, rfl⟩
    obtain ⟨y, hy⟩ : ∃ y, m.stack.getD (m.stack.length - 1) 0 = y := ⟨_, rfl⟩
    rw [hx, hy] at hdiv hm
    rw [hx] at sx
    rw [hy] at sy
    obtain ⟨m2, hm2⟩ : ∃ m2, ({ m with stack := m.stack.take (m.stack.length - 2) } : M) = m2 := ⟨_, rfl⟩
    rw [hm2] at hm hdiv
    have HD := Aside0.mk hdiv
    have HMM := Aside0.mk hm.mach
    obtain ⟨g, off, rfl, hcell⟩ := ints_cells hm.ints (by simp)
    have c0 : w1.cell? ⟨g, off, none⟩ = some (.int .i64 x) := by simpa using hcell 0 (by simp)
    have c1 : w1.cell? ⟨g, off + 1, none⟩ = some (.int .i64 y) := by simpa using hcell 1 (by simp)
    clear hcell hm hdiv hx hy hm2 hl hA HT HS h
    by_cases hy0 : y = 0
    · subst hy0
      rw [if_pos rfl] at HD
      clear sx sy
      go_wp2_with fail
      go_ret
      rw [HD.out]
      exact ⟨rfl, .inr rfl, Mach.left HMM.out⟩
    · rw [if_neg hy0] at HD
      have t0 : (y == 0) = false := by simpa using hy0
      have HF := Aside0.mk (fun W => floor_call x y hy0 sx.1 sx.2 sy.1 sy.2 W)
      have HFS := Aside0.mk (flo_small x y sx hy0)
      clear sx sy hy0
      go_wp2_with fail
      go_still_tail 8, (by kernel_rfl)
      still_call (HF.out _)
      refine wpStill_nil ?_
      change wpList _ _ _ _ _ w1.drew
      have HM3 := Aside0.mk (push_call (Mach.drew HMM.out) (flo x y) HFS.out)
      generalize w1.drew = w2 at HM3 ⊢
      clear c0 c1
      go_wp2_with fail
      refine HM3.out.mono ?_
      intro e w3 hd
      rw [← HD.out] at hd
      have HDD := Aside0.mk hd
      clear hd
      cases hr : divM m with
      | error c3 =>
        have hd := HDD.out
        rw [hr] at hd
        obtain ⟨rfl, q1, q2⟩ := hd
        go_wp2_with fail
        go_ret
        rw [hr]
        exact ⟨rfl, q1, q2⟩
      | ok m3 =>
        have hd := HDD.out
        rw [hr] at hd
        obtain ⟨rfl, q1⟩ := hd
        go_wp2_with fail
        go_ret
        rw [hr]
        exact ⟨rfl, q1⟩
set_option maxHeartbeats 2000000 in
theorem pop_call {W0 w : World} {b : Nat} {sb : Value} {m : M} (h : Mach W0 w b sb m) :
    Calls Try.prog 72 #[.pointer (some ⟨b, 0, none⟩)] w (Did W0 b sb (popM m)) := by
  have HMM := Aside0.mk h
  obtain ⟨hB, hb, vs, vt, vk, A, c, vp, h⟩ := h
  have hok := h.ok
  have HV := Aside0.mk h
  have HB := Aside0.mk hB
  have HB8 := Aside0.mk hb
  have c9 : w.cell? ⟨b, 9, none⟩ = some (.slice A m.results.length c) := h.cell 9
  have f9 : w.frozen? ⟨b, 9, none⟩ = false := h.frz 9
  cases hres : m.results with
  | nil =>
    have HE : Aside0 (popM m = .error 39) := ⟨by unfold popM; rw [hres]⟩
    rw [hres] at c9
    simp only [List.length_nil] at c9
    clear h hB hok
    go_enter Try.func72, Try.ntmps72
    go_wp2_with fail
    go_ret
    rw [HE.out]
    exact ⟨rfl, .inr rfl, Mach.left HMM.out⟩
  | cons n r =>
    have HE : Aside0 (popM m = push { m with results := r } n) := ⟨by unfold popM; rw [hres]⟩
    have hcap := h.cap
    have hint := h.res
    have hoff := h.off
    have hsm := hok.rsmall
    have hrl := hok.res
    rw [hres] at c9 hcap hint hoff hsm hrl
    simp only [List.length_cons] at c9 hcap hrl
    have hnn := hsm n List.mem_cons_self
    obtain ⟨g, off, hA, hcell⟩ := ints_cells hint (by simp)
    have c0 : w.cell? ⟨g, off, none⟩ = some (.int .i64 n) := by simpa using hcell 0 (by simp)
    obtain ⟨A', hcut, _, hints, hoffs⟩ := cutL A (r.length + 1) c 1 (by omega) (by rw [hA]; intro h; cases h)
    have HI := Aside0.mk (hints w (n :: r) (by simp) hcap hint)
    have HO := Aside0.mk (hoffs (n :: r) vk (by simp) hcap hoff)
    subst hA
    have t0 : (((r.length : Int) + 1) == 0) = false := by simp; omega
    have e1 : r.length + 1 - 1 = r.length := by omega
    have hcut2 : ∀ W : World, (Instr.slice 93 (.slice (some ⟨g, off, none⟩) (r.length + 1) c) (some (.int .i64 1)) none none).run Try.prog W = .ok (.slice A' r.length (c - 1)) W := by
      intro W
      have := hcut W
      rw [e1] at this
      simpa using this
    have HOK : Aside0 (Ok { m with results := r }) := ⟨⟨hok.stack, hok.small, by show r.length ≤ 24; omega, fun x hx => hsm x (List.mem_cons_of_mem _ hx), hok.steps, hok.stems, hok.points, hok.x, hok.y, hok.side, hok.width, hok.count⟩⟩
    have HC := Aside0.mk (show r.length ≤ c - 1 by omega)
    have HN := Aside0.mk hnn
    have q0 : (0 : Int) < (r.length : Int) + 1 := by omega
    have HNX : Aside0 (Mach W0 (w.setCell ⟨b, 9, none⟩ (.slice A' r.length (c - 1))) b sb { m with results := r }) := ⟨below_set HB.out HB8.out, HB8.out, vs, vt, vk, A', c - 1, vp, HV.out.put_res HI.out HO.out HC.out HOK.out⟩
    have HP := Aside0.mk (push_call HNX.out n HN.out)
    clear h hB hok hcut hints hoffs hint hoff hsm hrl hcap hcell hnn
    go_enter Try.func72, Try.ntmps72
    go_wp2_with fail
    refine HP.out.mono ?_
    intro e w3 hd
    rw [← HE.out] at hd
    have HDD := Aside0.mk hd
    clear hd
    cases hr : popM m with
    | error c3 =>
      have hd := HDD.out
      rw [hr] at hd
      obtain ⟨rfl, q1, q2⟩ := hd
      go_wp2_with fail
      go_ret
      rw [hr]
      exact ⟨rfl, q1, q2⟩
    | ok m3 =>
      have hd := HDD.out
      rw [hr] at hd
      obtain ⟨rfl, q1⟩ := hd
      go_wp2_with fail
      go_ret
      rw [hr]
      exact ⟨rfl, q1⟩
end Go.Proofs.Ytimnohaalccdkaa.G33b
