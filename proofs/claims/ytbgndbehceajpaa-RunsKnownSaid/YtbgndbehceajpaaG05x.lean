import Derived.Test.YtbgndbehceajpaaG05i
import Derived.Test.YtbgndbehceajpaaG05e
import Derived.Laws.EntriesVeiled
import Derived.Maps.OwnIn
import Derived.Shelf.RegionOpen
namespace Go.Proofs.Ytbgndbehceajpaa.G05x
open Go.RowKit Go.Proofs.YtbgndbehceajpaaW.PrintWords Go.Proofs.YtbgndbehceajpaaW.PrintLast Go.Proofs.YtbgndbehceajpaaW.PrintMore
open Go.Proofs.Ytbgndbehceajpaa.G05e Go.Proofs.Ytbgndbehceajpaa.G05i
set_option linter.unusedVariables false
set_option maxRecDepth 100000
set_option maxHeartbeats 1000000
attribute [local go_sem] Oper.semAt_some
theorem runs_call (A : Option Addr) (n c : Nat) (w : World) : Calls Try.prog 19 #[.slice A n c] w fun e w' => e = .returned (.func (.func 28) #[] #[.pointer (some ⟨w.heap.size, 0, none⟩)]) ∧ w' = w.alloc (.cells #[.slice A n c] 32) := by
  have hmf : ∀ (fn : Fn) (first cap : Array Value) (w : World), (Instr.makeFunc fn first cap).run Try.prog w = .ok (.func fn first cap) w := fun _ _ _ _ => rfl
  go_enter Try.func19, Try.ntmps19
  go_wp2
  go_ret
  exact ⟨rfl, rfl⟩
def fv (b : Nat) : Value := .func (.func 17) #[] #[.pointer (some ⟨b + 1, 0, none⟩), .pointer (some ⟨b, 0, none⟩)]
def W3 (w : World) : World := ((w.alloc (.cells #[.slice none 0 0] 32)).alloc (.cells #[.slice none 0 0] 32)).alloc (.cells #[fv w.heap.size] 1)
theorem W3_size (w : World) : (W3 w).heap.size = w.heap.size + 3 := by unfold W3; simp
/-- The world in which the loop begins. -/
structure Start (w : World) (s : ByteArray) (C : Nat) (W0 : World) : Prop where
  size : W0.heap.size = w.heap.size + 5
  below : Below w.heap.size w W0
  out : W0.heap[w.heap.size]? = some (.cells #[.slice none 0 0] 32 (0, 0))
  short : W0.heap[w.heap.size + 1]? = some (.cells #[.slice none 0 0] 32 (0, 0))
  flush : W0.heap[w.heap.size + 2]? = some (.cells #[fv w.heap.size] 1 (0, 0))
  bytes : Octets W0 (w.heap.size + 3) (bytesOf s)
  box : W0.heap[w.heap.size + 4]? = some (.cells #[.slice (some ⟨w.heap.size + 3, 0, none⟩) s.size C] 32 (0, 0))
  cap : s.size ≤ C
theorem start (w : World) (s : ByteArray) : Start w s (grownCap (W3 w) s.size 0 5) ((Lib.bytesWorld (W3 w) 5 s).alloc (.cells #[.slice (some ⟨w.heap.size + 3, 0, none⟩) s.size (grownCap (W3 w) s.size 0 5)] 32)) := by
  have z3 := W3_size w
  have zb := Lib.bytesWorld_size (W3 w) 5 s
  have old : ∀ k, k < w.heap.size + 3 → ∀ o, ((Lib.bytesWorld (W3 w) 5 s).alloc o).heap[k]? = (W3 w).heap[k]? := fun k hk o => (Below.heap_alloc _ _ _ (by omega)).trans (Lib.bytesWorld_at_old _ _ _ k (by omega))
  have a1 : ∀ o, (w.alloc o).heap[w.heap.size]? = some o := fun o => World.alloc_heap_new w o
  refine ⟨by simp [zb, z3], ?_, ?_, ?_, ?_, ?_, ?_, ?_⟩
  · have h3 : Below w.heap.size w (W3 w) := (((Below.refl _ _).alloc (Nat.le_refl _) _).alloc (by simp) _).alloc (by simp; omega) _
    exact (bytes_below h3 (by rw [z3]; omega) 5 s).alloc (by rw [zb, z3]; omega) _
  · rw [old _ (by omega)]
    unfold W3
    rw [Below.heap_alloc _ _ _ (by simp; omega), Below.heap_alloc _ _ _ (by simp)]
    exact a1 _
  · rw [old _ (by omega)]
    unfold W3
    rw [Below.heap_alloc _ _ _ (by simp)]
    have := World.alloc_heap_new (w.alloc (.cells #[.slice none 0 0] 32)) (.cells #[.slice none 0 0] 32)
    rwa [World.size_alloc] at this
  · rw [old _ (by omega)]
    unfold W3
    have := World.alloc_heap_new ((w.alloc (.cells #[.slice none 0 0] 32)).alloc (.cells #[.slice none 0 0] 32)) (.cells #[fv w.heap.size] 1)
    rwa [World.size_alloc, World.size_alloc] at this
  · intro j hj
    rw [bytesOf_length] at hj
    have h := Lib.bytesWorld_cell (W3 w) 5 s j hj
    rw [z3] at h
    have hcell : ((Lib.bytesWorld (W3 w) 5 s).alloc (.cells #[.slice (some ⟨w.heap.size + 3, 0, none⟩) s.size (grownCap (W3 w) s.size 0 5)] 32)).cell? ⟨w.heap.size + 3, j, none⟩ = (Lib.bytesWorld (W3 w) 5 s).cell? ⟨w.heap.size + 3, j, none⟩ := World.cell?_of_block (Below.heap_alloc _ _ _ (by simp [zb, z3]))
    rw [hcell, h]
    unfold bytesOf
    have hml : j < s.data.toList.length := by rw [data_length]; exact hj
    simp [List.getD_eq_getElem?_getD, List.getElem?_eq_getElem hml]
  · have := World.alloc_heap_new (Lib.bytesWorld (W3 w) 5 s) (.cells #[.slice (some ⟨w.heap.size + 3, 0, none⟩) s.size (grownCap (W3 w) s.size 0 5)] 32)
    rwa [zb, z3] at this
  · exact grownCap_ge _ _ _ _
/-- One run more: what stands in 'short' and in 'out'. -/
def piece (l : List Int) (T : List Int × List Int) (q : Nat × Nat) : List Int × List Int :=
  if q.2 = 1 then (T.1 ++ (l.drop q.1).take 1, T.2) else (T.1, T.2 ++ [257 - (q.2 : Int), l.getD q.1 0])
def stepS (l : List Int) (S : List Int × List Int) (p : Rn l) : List Int × List Int :=
  if p.1.2 - p.1.1 < 3 then (S.1 ++ (l.drop p.1.1).take (p.1.2 - p.1.1), S.2)
  else (parts (p.1.2 - p.1.1 + 1) p.1.1 (p.1.2 - p.1.1)).foldl (piece l) ([], S.2 ++ plainL S.1)
def SS (l : List Int) (pre : List (Rn l)) : List Int × List Int := pre.foldl (stepS l) ([], [])
/-- What lies below base, the two boxes aside, is as it was. -/
structure Fr (base bs bo : Nat) (W W' : World) : Prop where
  os : W'.os = W.os
  tape : W'.tape = W.tape
  output : W'.output = W.output
  size : W.heap.size ≤ W'.heap.size
  block : ∀ i, i < base → i ≠ bs → i ≠ bo → W'.heap[i]? = W.heap[i]?
theorem Fr.refl (base bs bo : Nat) (W : World) : Fr base bs bo W W := ⟨rfl, rfl, rfl, Nat.le_refl _, fun _ _ _ _ => rfl⟩
theorem Fr.mv {base bs bo : Nat} {A B C : World} (h : Fr base bs bo A B) (k : Mv base bs bo B C) : Fr base bs bo A C :=
  ⟨k.os.trans h.os, k.tape.trans h.tape, k.output.trans h.output, Nat.le_trans h.size k.size, fun i h1 h2 h3 => (k.block i h1 h2 h3).trans (h.block i h1 h2 h3)⟩
def II (l : List Int) (w W0 : World) (pre : List (Rn l)) (W : World) : Prop :=
  (∃ vs vo, St W (w.heap.size + 5) (w.heap.size + 1) w.heap.size vs vo (SS l pre).1 (SS l pre).2) ∧ Fr (w.heap.size + 5) (w.heap.size + 1) w.heap.size W0 W
theorem own8_kept {W W' : World} {base : Nat} {v : Value} {l : List Int} {row : Option Nat} (h : Own8 W base v l) (hg : W.grownBy W' row) (hr : ∀ r, row = some r → ∃ o : Obj, W.heap[r]? = some o ∧ o.isCells = false) : Own8 W' base v l := by
  refine own_other h hg ?_
  cases hv : v.ownBlock with
  | none => exact .inl rfl
  | some k =>
    refine .inr fun e => ?_
    obtain ⟨o, ho, hc⟩ := hr k e.symm
    rw [own_cells h k o hv ho] at hc
    cases hc
theorem II_own (l : List Int) (w W0 : World) (h5 : W0.heap.size = w.heap.size + 5) : OwnFrom W0.heap.size (II l w W0) := by
  intro pre W W' row ⟨⟨vs, vo, h⟩, hf⟩ hg hr
  have hr2 : ∀ r, row = some r → ∃ o : Obj, W.heap[r]? = some o ∧ o.isCells = false := fun r e => (hr r e).2
  have hne : ∀ k, k < w.heap.size + 5 → some k ≠ row := fun k hk e => by have := (hr k e.symm).1; omega
  refine ⟨⟨vs, vo, ⟨blk_grown h.hs hg (hne _ (by omega)), blk_grown h.ho hg (hne _ (by omega)), h.ne, h.ls, h.lo, Nat.le_trans h.lb hg.size, own8_kept h.s hg hr2, own8_kept h.o hg hr2, h.apart⟩⟩, ?_⟩
  exact ⟨hg.os.trans hf.os, hg.tape.trans hf.tape, hg.output.trans hf.output, Nat.le_trans hf.size hg.size, fun i h1 h2 h3 => (hg.block i (by have := h.lb; omega) (hne i h1)).trans (hf.block i h1 h2 h3)⟩
theorem II_start (l : List Int) (w W0 : World) (s : ByteArray) (C : Nat) (h : Start w s C W0) : II l w W0 [] W0 :=
  ⟨⟨_, _, ⟨h.short, h.out, by omega, by omega, by omega, by rw [h.size]; exact Nat.le_refl _, own_nil _ _ _ _, own_nil _ _ _ _, .inl rfl⟩⟩, Fr.refl _ _ _ _⟩
theorem Kp_t {bx bb : Nat} {A B C : World} (h : Kp bx bb A B) (k : Kp bx bb B C) : Kp bx bb A C := ⟨k.1.trans h.1, k.2.trans h.2⟩
theorem Kp_b {bx bb : Nat} {w : World} (h1 : bx < w.heap.size) (h2 : bb < w.heap.size) (W : World) (l : Nat) (o o' : Obj) (hl : w.heap.size ≤ l) (h : W.heap[l]? = some o) (_ : o.isCells = false) (_ : o.isWalk = false) : Kp bx bb W (W.putObj l o') :=
  ⟨World.putObj_heap_other (by omega), World.putObj_heap_other (by omega)⟩
theorem append_row_in {F : Fence} {nF : Nat} {P : Program} {W : World} {ops : Array Oper} {rest : List Oper} {o : Oper} {a : Act} {Q : Exit → Act → World → Prop} (base : Nat) (hgd : o.guard = none) (s x : Operand) (t e : TypeId) (k : IntKind) (bytes : Nat)
    (ho : o.op = .call { callee := .builtin .append, args := #[s, x], argTypes := #[t, t] })
    (ht : P.underlying t = some (.slice e)) (hinfo : (P.info? e).map (fun i => (i.zero, i.size, i.bytes)) = some (some (.int k 0), 1, bytes)) (hb0 : 0 < bytes)
    (v : Value) (xs ys : List Int) (ad : Addr) (m c : Nat) (hs : a.eval s = v) (hx : a.eval x = .slice (some ad) m c) (hm0 : 0 < m)
    (HO : W.ownsRow base e 1 v xs.length (nums k xs)) (HR : ReadsInt W k (some ad) m ys) (hbase : base ≤ W.heap.size) (hl : (xs.length + m) * bytes ≤ 140737488355328)
    (h : ∀ v1 w1, w1.ownsRow base e 1 v1 (xs ++ ys).length (nums k (xs ++ ys)) → W.grownBy w1 v.ownBlock → (v1.ownBlock = v.ownBlock ∨ ∃ b, v1.ownBlock = some b ∧ W.heap.size ≤ b) → wpListIn F nF P ops Q rest (a.put o.dst v1) w1) :
    wpListIn F nF P ops Q (o :: rest) a W := by
  obtain ⟨i0, hi, hzz⟩ := Option.map_eq_some_iff.1 hinfo
  simp only [Prod.mk.injEq] at hzz
  obtain ⟨hz0, hz1, hz2⟩ := hzz
  have hm : ys.length = m := HR.1
  have hlen : xs.length + m ≤ 140737488355328 := Nat.le_trans (Nat.le_mul_of_pos_right _ hb0) hl
  have hcells : ∀ j u, (nums k ys)[j]? = some u → W.cell? (ad.add j) = some u := by
    intro j u hu
    have hj : j < ys.length := by
      rcases Nat.lt_or_ge j ys.length with h | h
      · exact h
      · simp [nums, List.getElem?_eq_none h] at hu
    obtain ⟨ad', h', hc⟩ := HR.2.2 (by omega)
    injection h' with h'
    subst h'
    have := hc j (by omega)
    simp [nums, List.getElem?_eq_getElem hj] at hu
    subst hu
    rw [this]
    simp [List.getD_eq_getElem?_getD, List.getElem?_eq_getElem hj]
  refine wpListIn_append_own_at W hgd s x t ho base e i0 (.int k 0) 1 bytes ht hi hz0 hz1 hz2 rfl (by decide) v xs.length (nums k xs) hs HO ad m c (nums k ys) hx (by simp [nums, hm]) hcells (by intro u hu; simp only [nums, List.mem_map] at hu; obtain ⟨q, _, rfl⟩ := hu; rfl) (by simp only [maxLen]; omega) hl hbase ?_
  intro v1 w1 h2 h3 _ h5
  refine h v1 w1 (by simpa [nums, hm] using h2) h3 ?_
  rcases h5 with h5 | h5
  · exact .inl h5
  · exact .inr ⟨_, h5, Nat.le_refl _⟩
theorem put_s {W w1 : World} {base bs bo : Nat} {vs vo v1 : Value} {sh ou l1 : List Int} (h : St W base bs bo vs vo sh ou) (ho1 : Own8 w1 base v1 l1) (hg : W.grownBy w1 vs.ownBlock)
    (hat : v1.ownBlock = vs.ownBlock ∨ ∃ b, v1.ownBlock = some b ∧ W.heap.size ≤ b) :
    St (w1.setCell ⟨bs, 0, none⟩ v1) base bs bo v1 vo l1 ou ∧ Mv base bs bo W (w1.setCell ⟨bs, 0, none⟩ v1) := by
  have nb1 : some bo ≠ vs.ownBlock := fun e => by have := own_base h.s bo e.symm; have := h.lo; omega
  have ns1 : some bs ≠ vs.ownBlock := fun e => by have := own_base h.s bs e.symm; have := h.ls; omega
  have o1 := blk_grown h.ho hg nb1
  have s1 := blk_grown h.hs hg ns1
  have ap : vo.ownBlock = none ∨ vo.ownBlock ≠ vs.ownBlock := by
    rcases h.apart with e | e
    · rw [e]; cases hv : vo.ownBlock with
      | none => exact .inl rfl
      | some k => exact .inr (by simp)
    · exact .inr (fun k => e k.symm)
  have ap1 : v1.ownBlock = none ∨ v1.ownBlock ≠ vo.ownBlock := by
    rcases hat with e | ⟨q, e, hq⟩
    · rw [e]; exact h.apart
    · refine .inr fun k => ?_
      have := own_lt h.o q (k.symm.trans e); omega
  refine ⟨⟨blk_set s1 0 v1, blk_far o1 (by simpa using h.ne.symm) v1, h.ne, h.ls, h.lo, by simp; exact Nat.le_trans h.lb hg.size, ?_, ?_, ap1⟩, ?_⟩
  · exact own_setCell ho1 (by intro e; have := own_base ho1 bs e.symm; have := h.ls; omega) v1
  · exact own_setCell (own_other h.o hg ap) (by intro e; have := own_base h.o bs e.symm; have := h.ls; omega) v1
  · exact (Mv.grown hg (own_base h.s) (own_cells h.s) h.lb).trans (Mv.set w1 bs (.inl rfl) v1)
theorem put_s_box {W w1 : World} {base bs bo : Nat} {vs vo : Value} {sh ou : List Int} (h : St W base bs bo vs vo sh ou) (hg : W.grownBy w1 vs.ownBlock) : w1.cell? ⟨bs, 0, none⟩ = some vs ∧ w1.frozen? ⟨bs, 0, none⟩ = false := by
  have ns1 : some bs ≠ vs.ownBlock := fun e => by have := own_base h.s bs e.symm; have := h.ls; omega
  have s1 := blk_grown h.hs hg ns1
  exact ⟨blk_cell s1 0, blk_frozen s1 0⟩
theorem put_o {W w1 : World} {base bs bo : Nat} {vs vo v1 : Value} {sh ou l1 : List Int} (h : St W base bs bo vs vo sh ou) (ho1 : Own8 w1 base v1 l1) (hg : W.grownBy w1 vo.ownBlock)
    (hat : v1.ownBlock = vo.ownBlock ∨ ∃ b, v1.ownBlock = some b ∧ W.heap.size ≤ b) :
    St (w1.setCell ⟨bo, 0, none⟩ v1) base bs bo vs v1 sh l1 ∧ Mv base bs bo W (w1.setCell ⟨bo, 0, none⟩ v1) := by
  have nb1 : some bo ≠ vo.ownBlock := fun e => by have := own_base h.o bo e.symm; have := h.lo; omega
  have ns1 : some bs ≠ vo.ownBlock := fun e => by have := own_base h.o bs e.symm; have := h.ls; omega
  have o1 := blk_grown h.ho hg nb1
  have s1 := blk_grown h.hs hg ns1
  have ap1 : vs.ownBlock = none ∨ vs.ownBlock ≠ v1.ownBlock := by
    rcases h.apart with e | e
    · exact .inl e
    · refine .inr fun k => ?_
      rcases hat with e1 | ⟨q, e1, hq⟩
      · exact e (k.trans e1)
      · have := own_lt h.s q (k.trans e1); omega
  refine ⟨⟨blk_far s1 (by simpa using h.ne) v1, blk_set o1 0 v1, h.ne, h.ls, h.lo, by simp; exact Nat.le_trans h.lb hg.size, ?_, ?_, ap1⟩, ?_⟩
  · exact own_setCell (own_other h.s hg h.apart) (by intro e; have := own_base h.s bo e.symm; have := h.lo; omega) v1
  · exact own_setCell ho1 (by intro e; have := own_base ho1 bo e.symm; have := h.lo; omega) v1
  · exact (Mv.grown hg (own_base h.o) (own_cells h.o) h.lb).trans (Mv.set w1 bo (.inr rfl) v1)
theorem put_o_box {W w1 : World} {base bs bo : Nat} {vs vo : Value} {sh ou : List Int} (h : St W base bs bo vs vo sh ou) (hg : W.grownBy w1 vo.ownBlock) : w1.cell? ⟨bo, 0, none⟩ = some vo ∧ w1.frozen? ⟨bo, 0, none⟩ = false := by
  have ns1 : some bo ≠ vo.ownBlock := fun e => by have := own_base h.o bo e.symm; have := h.lo; omega
  have s1 := blk_grown h.ho hg ns1
  exact ⟨blk_cell s1 0, blk_frozen s1 0⟩
theorem SS_snoc (l : List Int) (pre : List (Rn l)) (x : Rn l) : SS l (pre ++ [x]) = stepS l (SS l pre) x := by unfold SS; rw [List.foldl_append]; rfl
/-- What the round is handed reads as the octets. -/
theorem run_reads {W : World} {b i m : Nat} {l : List Int} (h : Octets W b l) (hm : i + m ≤ l.length) (hl : l.length ≤ 65536) : ReadsInt W .u8 (some ⟨b, i, none⟩) m ((l.drop i).take m) := by
  refine ⟨by rw [List.length_take, List.length_drop]; omega, by omega, fun _ => ⟨_, rfl, fun j hj => ?_⟩⟩
  rw [show (⟨b, i, none⟩ : Addr).add j = ⟨b, i + j, none⟩ from by unfold Addr.add; split <;> simp_all, h (i + j) (by omega)]
  simp [List.getD_eq_getElem?_getD, List.getElem?_drop, hj]
theorem Octets.fr {W W' : World} {base bs bo b : Nat} {l : List Int} (h : Octets W b l) (hf : Fr base bs bo W W') (h1 : b < base) (h2 : b ≠ bs) (h3 : b ≠ bo) : Octets W' b l := fun j hj => (World.cell?_of_block (hf.block b h1 h2 h3)).trans (h j hj)
theorem Kp_mv {bx bb base bs bo : Nat} {W W' : World} (h : Mv base bs bo W W') (h1 : bx < base) (h2 : bx ≠ bs) (h3 : bx ≠ bo) (h4 : bb < base) (h5 : bb ≠ bs) (h6 : bb ≠ bo) : Kp bx bb W W' := ⟨h.block bx h1 h2 h3, h.block bb h4 h5 h6⟩
theorem parts_pos (k : Nat) : ∀ off n p, n < k → 0 < n → p ∈ parts k off n → 0 < p.2 := by
  induction k with
  | zero => intro off n p h; omega
  | succ k ih =>
    intro off n p hk hn hp
    by_cases h : 128 < n
    · rw [parts_big k off n h, List.mem_cons] at hp
      rcases hp with rfl | hp
      · simp
      · exact ih _ _ p (by omega) (by omega) hp
    · rw [parts_small k off n h, List.mem_singleton] at hp
      subst hp
      exact hn
theorem fold_len (l : List Int) (ps : List (Nat × Nat)) : ∀ T, (ps.foldl (piece l) T).1.length + (ps.foldl (piece l) T).2.length ≤ T.1.length + T.2.length + 2 * ps.length := by
  induction ps with
  | nil => intro T; simp
  | cons p ps ih =>
    intro T
    have h := ih (piece l T p)
    have h2 : (piece l T p).1.length + (piece l T p).2.length ≤ T.1.length + T.2.length + 2 := by
      unfold piece
      split
      · simp; omega
      · simp; omega
    rw [List.foldl_cons, List.length_cons]
    omega
theorem plain_len (l : List Int) (h : l.length ≤ 9000000000) : (plainL l).length ≤ 9100000000 := by
  unfold plainL
  have h1 := flat_len l (parts (l.length + 1) 0 l.length) (fun p hp => (parts_in _ _ _ _ (Nat.lt_succ_self _) hp).2.2)
  have h2 := parts_len (l.length + 1) 0 l.length (Nat.lt_succ_self _)
  omega
theorem fold_len2 (l : List Int) (ps : List (Nat × Nat)) : ∀ T, 2 * (ps.foldl (piece l) T).1.length + (ps.foldl (piece l) T).2.length ≤ 2 * T.1.length + T.2.length + 2 * ps.length := by
  induction ps with
  | nil => intro T; simp
  | cons p ps ih =>
    intro T
    have h := ih (piece l T p)
    have h2 : 2 * (piece l T p).1.length + (piece l T p).2.length ≤ 2 * T.1.length + T.2.length + 2 := by
      unfold piece
      split
      · simp; omega
      · simp; omega
    rw [List.foldl_cons, List.length_cons]
    omega
theorem rec1_le (l : List Int) (p : Nat × Nat) : (rec1 l p).length ≤ p.2 + 1 := by
  unfold rec1
  split
  · rw [List.length_cons, List.length_take]; omega
  · simp
theorem plain_len2 (l : List Int) : (plainL l).length ≤ 2 * l.length + 1 := by
  have rr : ∀ k off n, n < k → off + n ≤ l.length → ((parts k off n).flatMap (rec1 l)).length ≤ n + (parts k off n).length := by
    intro k
    induction k with
    | zero => intro off n h; omega
    | succ k ih =>
      intro off n hk hn
      by_cases h : 128 < n
      · rw [parts_big k off n h, List.flatMap_cons, List.length_append, List.length_cons]
        have := ih (off + 128) (n - 128) (by omega) (by omega)
        have h2 := rec1_le l (off, 128)
        simp only at h2
        omega
      · rw [parts_small k off n h, List.flatMap_cons, List.flatMap_nil, List.append_nil, List.length_singleton]
        have h2 := rec1_le l (off, n)
        simp only at h2
        omega
  have h1 := rr (l.length + 1) 0 l.length (Nat.lt_succ_self _) (by omega)
  have h2 := parts_len (l.length + 1) 0 l.length (Nat.lt_succ_self _)
  unfold plainL
  omega
/-- What an append comes to, under a name that the walk does not open. -/
def appOut (P : Program) (t ty : TypeId) (v x : Value) (w : World) : Result Value := (Builtin.append_ #[t, t] ty #[v, x]).run P w
theorem app_wpIn (F : Fence) (n : Nat) (P : Program) (dst : Option Tmp) (s x : Operand) (t ty : TypeId) (pos : String) (after : Array Edge) (guard : Option (Nat × Bool)) (a : Act) (w : World) (next : Act → World → Prop) (Q : Exit → Act → World → Prop) :
    Oper.wpIn F n P { dst := dst, op := .call { callee := .builtin .append, args := #[s, x], argTypes := #[t, t] }, type := ty, pos := pos, after := after, guard := guard } a w next Q
      = Oper.uponIn F n P { dst := dst, op := .call { callee := .builtin .append, args := #[s, x], argTypes := #[t, t] }, type := ty, pos := pos, after := after, guard := guard } a next Q ((appOut P t ty (a.eval s) (a.eval x) w).andThen fun v w' => .ok (.value v) w') := by
  apply propext
  unfold Oper.wpIn
  rw [Oper.semAt_plain F _ _ (by intro c hc; cases hc)]
  have h1 : ∀ f, Oper.about P w a.eval { dst := dst, op := .call { callee := .builtin .append, args := #[s, x], argTypes := #[t, t] }, type := ty, pos := pos, after := after, guard := guard } ≠ some f := by
    intro f; simp [Oper.about, resolve, Target.leads, Sem.run_pure]
  have h2 : (execOp a.eval { dst := dst, op := .call { callee := .builtin .append, args := #[s, x], argTypes := #[t, t] }, type := ty, pos := pos, after := after, guard := guard }).run P w = (appOut P t ty (a.eval s) (a.eval x) w).andThen fun v w' => .ok (.value v) w' := by
    unfold appOut execOp
    simp only [resolve, invoke, builtin, Sem.run_bind, Sem.run_pure, Result.andThen_ok, List.map_toArray, List.map_cons, List.map_nil]
  rw [h2]
  exact ⟨fun h => h.2, fun h => ⟨fun f hf => absurd hf (h1 f), h⟩⟩
/-- An operation of a drawing region that comes up, the act and the world behind it being found by its step. -/
theorem rgCons {F : Fence} {n : Nat} {P : Program} {md : Region.Mode} {ops : Array Oper} {Q : Exit → Act → World → Prop} {fuel : Nat} {listed : Array Bool} {a : Act} {w : World} {i : Nat} {o : Oper} {rs : List Nat} (a' : Act) (w' : World) (l2 : Array Bool) (ho : ops[i]? = some o) (hl : listed.setIfInBounds i true = l2)
    (h : ∀ K : Act → World → Prop, K a' w' → if Region.wanted o (yielded ops a.tmps) = true then Oper.wpIn F n P o a w K Q else (∀ f, o.about P w a.eval = some f → F.fn f) ∧ K (a.put o.dst undef) w)
    (hs : AllReadyIn F n P md ops Q fuel listed a w rs) (hn : wpAnyIn F n P md ops Q fuel l2 a' w') : AllReadyIn F n P md ops Q fuel listed a w (i :: rs) :=
  AllReadyIn.cons ho (fun K hK => h K (hK _ _ (by rw [hl]; exact hn))) hs
theorem app_in {F : Fence} {n : Nat} {P : Program} {dst : Option Tmp} {s x : Operand} {t ty : TypeId} {pos : String} {after : Array Edge} {guard : Option (Nat × Bool)} {a : Act} {w w' : World} {v : Value} {next : Act → World → Prop} {Q : Exit → Act → World → Prop}
    (hr : appOut P t ty (a.eval s) (a.eval x) w = .ok v w') (h : next (a.put dst v) w') :
    Oper.wpIn F n P { dst := dst, op := .call { callee := .builtin .append, args := #[s, x], argTypes := #[t, t] }, type := ty, pos := pos, after := after, guard := guard } a w next Q := by
  rw [app_wpIn, hr]
  exact h
theorem row_keep {W w1 : World} {base B0 b g : Nat} {v vp v1 : Value} {l : List Int} {ps : List (Nat × Nat)} (hop : OwnRow (Part b) 32 1 W B0 vp ps) (ho : Own8 W base v l) (hg : W.grownBy w1 v.ownBlock) (hgB : g < B0) :
    OwnRow (Part b) 32 1 (w1.setCell ⟨g, 0, none⟩ v1) B0 vp ps := by
  have p1 : OwnRow (Part b) 32 1 w1 B0 vp ps := hop.other hg (by obtain ⟨inner, h, _⟩ := hop; exact own_type_ne h ho (by decide))
  obtain ⟨inner, h, hr⟩ := p1
  exact ⟨inner, own_setCell h (by intro e; have := own_base h g e.symm; omega) v1, hr⟩
/-- An append of octets just made. -/
theorem append_new {W : World} {base bs bo : Nat} {vs vo : Value} {sh ou : List Int} (h : St W base bs bo vs vo sh ou) (new : List Int) (h0 : 0 < new.length) (hl : ou.length + new.length ≤ 140737488355328) (c : Nat) :
    ∃ v1 w1, appOut Try.prog 32 32 vo (.slice (some ⟨W.heap.size, 0, none⟩) new.length c) ((W.alloc (.cells (nums .u8 new).toArray 5)).drew) = .ok v1 w1 ∧ w1.cell? ⟨bo, 0, none⟩ = some vo ∧ w1.frozen? ⟨bo, 0, none⟩ = false ∧ (∃ A c', v1 = .slice A (ou.length + new.length) c') ∧
      St (w1.setCell ⟨bo, 0, none⟩ v1) base bs bo vs v1 sh (ou ++ new) ∧ Mv base bs bo W (w1.setCell ⟨bo, 0, none⟩ v1) ∧ (W.alloc (.cells (nums .u8 new).toArray 5)).drew.grownBy w1 vo.ownBlock := by
  obtain ⟨i0, hi, hzz⟩ := Option.map_eq_some_iff.1 info5
  simp only [Prod.mk.injEq] at hzz
  obtain ⟨hz0, hz1, hz2⟩ := hzz
  have hb : Below W.heap.size W (W.alloc (.cells (nums .u8 new).toArray 5)).drew := ((Below.refl _ _).alloc (Nat.le_refl _) _).drew
  have hs := h.below hb
  have hnl : (nums .u8 new).length = new.length := by simp [nums]
  have hcell : ∀ j u, (nums .u8 new)[j]? = some u → (W.alloc (.cells (nums .u8 new).toArray 5)).drew.cell? ((⟨W.heap.size, 0, none⟩ : Addr).add j) = some u := by
    intro j u hu
    have h1 : (W.alloc (.cells (nums .u8 new).toArray 5)).drew.heap[W.heap.size]? = some (.cells (nums .u8 new).toArray 5 (0, 0)) := World.alloc_heap_new W _
    rw [add_plain]
    have := blk_cell h1 j
    rw [this]
    simpa using hu
  obtain ⟨v1, w1, hr, h2, h3, _, h5⟩ := run_append_own_at (P := Try.prog) ((W.alloc (.cells (nums .u8 new).toArray 5)).drew) base 32 32 5 i0 (.int .u8 0) 1 1 Try.underlying32 hi hz0 hz1 hz2 rfl (by decide) vo ou.length (nums .u8 ou) hs.o ⟨W.heap.size, 0, none⟩ new.length c (nums .u8 new) (by rw [hnl]; omega) hcell
    (by intro u hu; simp only [nums, List.mem_map] at hu; obtain ⟨q, _, rfl⟩ := hu; rfl) (by simp only [maxLen]; omega) (by omega) hs.lb
  have hown : Own8 w1 base v1 (ou ++ new) := by simpa [Own8, nums] using h2
  have hat : v1.ownBlock = vo.ownBlock ∨ ∃ b, v1.ownBlock = some b ∧ (W.alloc (.cells (nums .u8 new).toArray 5)).drew.heap.size ≤ b := by
    rcases h5 with h5 | h5
    · exact .inl h5
    · exact .inr ⟨_, h5, Nat.le_refl _⟩
  obtain ⟨k1, k2⟩ := put_o hs hown h3 hat
  obtain ⟨b1, b2⟩ := put_o_box hs h3
  obtain ⟨A1, c1, he⟩ := own_slice h2
  exact ⟨v1, w1, hr, b1, b2, ⟨A1, c1, he⟩, k1, (Mv.of_below hb h.lb).trans k2, h3⟩
theorem SS_bound (l : List Int) (hl : l.length ≤ 65536) (pre : List (Rn l)) : 2 * (SS l pre).1.length + (SS l pre).2.length ≤ 3000 * pre.length := by
  have step : ∀ S p, 2 * (stepS l S p).1.length + (stepS l S p).2.length ≤ 2 * S.1.length + S.2.length + 3000 := by
    rintro S ⟨⟨i, k⟩, hik, hkl⟩
    simp only at hik hkl
    unfold stepS
    simp only
    split
    · simp only [List.length_append, List.length_take, List.length_drop]; omega
    · have h1 := fold_len2 l (parts (k - i + 1) i (k - i)) ([], S.2 ++ plainL S.1)
      have h2 := parts_len (k - i + 1) i (k - i) (Nat.lt_succ_self _)
      have h3 : (plainL S.1).length ≤ 2 * S.1.length + 1 := plain_len2 S.1
      simp only [List.length_nil, List.length_append] at h1
      omega
  have all : ∀ (pre : List (Rn l)) S, 2 * (pre.foldl (stepS l) S).1.length + (pre.foldl (stepS l) S).2.length ≤ 2 * S.1.length + S.2.length + 3000 * pre.length := by
    intro pre
    induction pre with
    | nil => intro S; simp
    | cons p ps ih =>
      intro S
      rw [List.foldl_cons, List.length_cons]
      have := ih (stepS l S p)
      have := step S p
      omega
  have := all pre ([], [])
  simpa [SS] using this
theorem runs_len (l : List Int) : ∀ k i, (runs l k i).length ≤ k := by
  intro k
  induction k with
  | zero => intro i; simp [runs]
  | succ k ih =>
    intro i
    rw [runs]
    split
    · rw [List.length_cons]; have := ih (i + same l i); omega
    · simp
/-- The code of a list of octets, ahead of the question for its length. -/
def encL (l : List Int) : List Int := (SS l (runs l (l.length + 1) 0)).2 ++ plainL (SS l (runs l (l.length + 1) 0)).1 ++ [128]
theorem fr_below {w W0 W : World} {s : ByteArray} {C : Nat} (h : Start w s C W0) (hf : Fr (w.heap.size + 5) (w.heap.size + 1) w.heap.size W0 W) : Below w.heap.size w W :=
  ⟨hf.os.trans h.below.os, hf.tape.trans h.below.tape, hf.output.trans h.below.output, Nat.le_trans h.below.size hf.size, fun i hi => (hf.block i (by omega) (by omega) (by omega)).trans (h.below.block i hi)⟩
theorem below_put {w W : World} (h : Below w.heap.size w W) (D : Nat) (o o' : Obj) (hD : w.heap.size ≤ D) (hk : W.heap[D]? = some o) : Below w.heap.size w (W.putObj D o') :=
  h.grown (grownBy_putObj' W D o') (by have := (Array.getElem?_eq_some_iff.1 hk).1; omega) (fun k e => by cases e; exact hD)
def encR (r : List Int) : ByteArray × Int := if r.length > 65536 then (⟨#[]⟩, 3) else (strOfNums r, 0)
theorem enc_walk (s : ByteArray) (w : World) (hs : s.size ≤ 65536) (r : List Int) (hr : encL (bytesOf s) = r) (r1 : ByteArray) (r2 : Int) (hfin : encR r = (r1, r2)) :
    Calls Try.prog 11 #[.string s] w fun e w' => e = .returned (.tuple #[.string r1, .int .i64 r2]) ∧ Below w.heap.size w w' := by
  have HR := Aside0.mk hr
  have HF := Aside0.mk hfin
  clear hr hfin
  have b0 : decide (65536 < s.size) = false := decide_eq_false (by omega)
  have hmf : ∀ (fn : Fn) (first cap : Array Value) (w : World), (Instr.makeFunc fn first cap).run Try.prog w = .ok (.func fn first cap) w := fun _ _ _ _ => rfl
  have kb := fun W => print_bytes (P := Try.prog) 9 32 5 Try.underlying9 Try.underlying32 Try.underlying5 s W
  refine (callsIn_wide (n := 7)).1 ?_
  refine callsIn_of_wp_marks Try.func11 rfl trivial ?_ rfl
  simp only [Try.ntmps11, List.size_toArray, List.length_cons, List.length_nil, Nat.reduceAdd, Nat.reduceSub, Array.replicate_succ, Array.replicate_zero, List.push_toArray, List.append_toArray, List.nil_append, List.cons_append]
  gi_wp2_with fail
  refine ⟨trivial, callsIn_wide.2 ((runs_call _ _ _ _).mono ?_)⟩
  rintro e w1 ⟨rfl, rfl⟩
  have hst := start w s
  unfold W3 fv at hst
  obtain ⟨C, hC⟩ : ∃ C, grownCap (((w.alloc (Obj.cells #[Value.slice none 0 0] 32)).alloc (Obj.cells #[Value.slice none 0 0] 32)).alloc (Obj.cells #[Value.func (Fn.func 17) #[] #[Value.pointer (some { block := w.heap.size + 1, off := 0 }), Value.pointer (some { block := w.heap.size, off := 0 })]] 1)) s.size 0 5 = C := ⟨_, rfl⟩
  clear kb b0
  gi_wp2_with fail
  rw [hC] at hst
  clear hC
  have hz : (Lib.bytesWorld (((w.alloc (Obj.cells #[Value.slice none 0 0] 32)).alloc (Obj.cells #[Value.slice none 0 0] 32)).alloc (Obj.cells #[Value.func (Fn.func 17) #[] #[Value.pointer (some { block := w.heap.size + 1, off := 0 }), Value.pointer (some { block := w.heap.size, off := 0 })]] 1)) 5 s).heap.size = w.heap.size + 4 := by rw [Lib.bytesWorld_size]; simp
  rw [hz]
  simp only [Nat.add_assoc, Nat.reduceAdd]
  clear hz
  obtain ⟨W0, hW0⟩ : ∃ W0, (Lib.bytesWorld (((w.alloc (Obj.cells #[Value.slice none 0 0] 32)).alloc (Obj.cells #[Value.slice none 0 0] 32)).alloc (Obj.cells #[Value.func (Fn.func 17) #[] #[Value.pointer (some { block := w.heap.size + 1, off := 0 }), Value.pointer (some { block := w.heap.size, off := 0 })]] 1)) 5 s).alloc (.cells #[.slice (some ⟨w.heap.size + 3, 0, none⟩) s.size C] 32) = W0 := ⟨_, rfl⟩
  rw [hW0] at hst ⊢
  clear hW0
  have hlen : (bytesOf s).length = s.size := bytesOf_length s
  have hstops := runs_stops 6 (by decide) (w.heap.size + 4) (w.heap.size + 3) C (bytesOf s) W0 (by rw [hlen]; exact hst.box) hst.bytes (by rw [hst.size]; omega) (by rw [hlen]; exact hst.cap) (by rw [hlen]; exact hs)
  refine wpIn_rangeFunc_ownF (n := 7) rfl (by decide) (gf := 28) (lb := #[.pointer (some ⟨w.heap.size + 4, 0, none⟩)]) rfl trivial (enters_of Try.func28 (by kernel_rfl) rfl) hstops Kp_t (Kp_b (by rw [hst.size]; omega) (by rw [hst.size]; omega)) (Below.refl _ _) (fun _ => rfl) (II (bytesOf s) w W0) (fun _ _ _ => False) (II_own _ _ _ hst.size) (fun _ _ _ _ _ hs _ _ => hs) (II_start _ _ _ _ _ hst)
    ?a1 ?assign ?body ?done ?stop
  case assign =>
    intro l x W K hK
    unfold enc
    gi_wp2
    exact hK
  case body =>
    rintro l pre ⟨⟨i, k⟩, hik, hkl⟩ W ⟨⟨vs, vo, hst1⟩, hfr⟩ hN
    simp only at hik hkl
    have hsnoc := SS_snoc (bytesOf s) pre ⟨(i, k), hik, hkl⟩
    have hbnd : (SS (bytesOf s) pre).1.length ≤ 9000000000 ∧ (SS (bytesOf s) pre).2.length ≤ 9000000000 := by have := SS_bound (bytesOf s) (by omega) pre; omega
    have hoct := Octets.fr hst.bytes hfr (by omega) (by omega) (by omega)
    have hrun := run_reads (i := i) (m := k - i) hoct (by omega) (by rw [hlen]; exact hs)
    obtain ⟨run, hre⟩ : ∃ run, ((bytesOf s).drop i).take (k - i) = run := ⟨_, rfl⟩
    have hrl : run.length = k - i := by rw [← hre, List.length_take, List.length_drop]; omega
    obtain ⟨⟨sh, ou⟩, hSS⟩ : ∃ q, SS (bytesOf s) pre = q := ⟨_, rfl⟩
    rw [hSS] at hst1 hsnoc hbnd
    rw [hre] at hrun
    simp only at hst1 hbnd
    unfold stepS at hsnoc
    simp only [hre] at hsnoc
    have HSN := Aside0.mk hsnoc
    have HRN := Aside0.mk hrun
    have HFR := Aside0.mk hfr
    have HRL := Aside0.mk hrl
    have HST := Aside0.mk hst1
    clear hsnoc hrun hfr hrl hSS hre hoct hstops
    by_cases h3 : k - i < 3
    · have hcs := blk_cell hst1.hs 0
      have hfs := blk_frozen hst1.hs 0
      obtain ⟨A, c, rfl⟩ := own_slice hst1.s
      have hcs' : W.cell? ⟨w.heap.size + 1, 0, none⟩ = some (.slice A sh.length c) := hcs
      have q1 : decide (((k - i : Nat) : Int) < 3) = true := decide_eq_true (by omega)
      obtain ⟨l1, hl1⟩ : ∃ l1, sh ++ run = l1 := ⟨_, rfl⟩
      have HL1 := Aside0.mk hl1
      clear hcs hst1 hl1
      gi_wp2_with (gi_at_builtin; refine append_row_in (w.heap.size + 5) rfl (.tmp 21) (.tmp 22) 32 5 .u8 1 rfl Try.underlying32 info5 (by decide) (.slice A sh.length c) sh run ⟨w.heap.size + 3, i, none⟩ (k - i) (C - i) rfl rfl ?hm HST.out.s HRN.out HST.out.lb ?hl ?_; (case hm => omega); (case hl => omega); intro v1 w1 ho hg hat; rw [HL1.out] at ho; have HO1 := Aside0.mk ho; have HG1 := Aside0.mk hg; have HAT1 := Aside0.mk hat; clear ho hg hat; obtain ⟨A1, c1, rfl⟩ := own_slice HO1.out; obtain ⟨hb1, hb2⟩ := put_s_box HST.out HG1.out)
      obtain ⟨k1, k2⟩ := put_s HST.out HO1.out HG1.out HAT1.out
      exact ⟨k2.others, Kp_mv k2 (by omega) (by omega) (by omega) (by omega) (by omega) (by omega), ⟨_, _, by rw [HSN.out, if_pos h3, HL1.out]; exact k1⟩, HFR.out.mv k2⟩
    · have q1 : decide (((k - i : Nat) : Int) < 3) = false := decide_eq_false (by omega)
      have hff : W.cell? ⟨w.heap.size + 2, 0, none⟩ = some (.func (.func 17) #[] #[.pointer (some ⟨w.heap.size + 1, 0, none⟩), .pointer (some ⟨w.heap.size, 0, none⟩)]) := blk_cell ((HFR.out.block (w.heap.size + 2) (by omega) (by omega) (by omega)).trans hst.flush) 0
      have HSN2 : Aside0 (SS (bytesOf s) (pre ++ [⟨(i, k), hik, hkl⟩]) = (parts (k - i + 1) i (k - i)).foldl (piece (bytesOf s)) ([], ou ++ plainL sh)) := ⟨by rw [HSN.out, if_neg h3]⟩
      clear HSN hst1
      gi_wp2_with fail
      refine ⟨trivial, CallsIn.inRound l (callsIn_wide.2 ((flush (w.heap.size + 5) (w.heap.size + 1) w.heap.size vs vo sh ou W HST.out (by omega) (by omega)).mono ?_))⟩
      rintro e w1 ⟨rfl, hmv1, vo1, hst1⟩
      have HMV1 := Aside0.mk hmv1
      have HST1 := Aside0.mk hst1
      clear hmv1 hst1 HST hff
      gi_wp2_with fail
      refine ⟨trivial, CallsIn.inRound l (callsIn_wide.2 ((pieces (w.heap.size + 3) i (k - i) (C - i) _ w1 (fun _ => rfl) (by omega) (by have := hst.cap; omega)).mono ?_))⟩
      rintro e w2 ⟨vp, rfl, hop, hbp⟩
      obtain ⟨Ap, cp, rfl, hlp⟩ := hop.slice_
      have hst2 := HST1.out.below hbp
      have hmv2 : Mv (w.heap.size + 5) (w.heap.size + 1) w.heap.size W w2 := HMV1.out.trans (Mv.of_below hbp HST1.out.lb)
      have HB0 : Aside0 (w.heap.size + 5 ≤ w1.heap.size) := ⟨HST1.out.lb⟩
      obtain ⟨ps, hps⟩ : ∃ ps, parts (k - i + 1) i (k - i) = ps := ⟨_, rfl⟩
      obtain ⟨o0, ho0⟩ : ∃ o0, ou ++ plainL sh = o0 := ⟨_, rfl⟩
      have hol : o0.length ≤ 18200000000 := by
        have := plain_len sh (by omega)
        rw [← ho0, List.length_append]; omega
      have hpl : ps.length ≤ 513 := by
        have := parts_len (k - i + 1) i (k - i) (Nat.lt_succ_self _)
        rw [hps] at this; omega
      have hsn := HSN2.out
      rw [hps] at hop hlp hsn ⊢
      rw [ho0] at hst2 hsn
      have HSN3 := Aside0.mk hsn
      have HPS := Aside0.mk hps
      have HOP := Aside0.mk hop
      have HST2 := Aside0.mk hst2
      have HMV2 := Aside0.mk hmv2
      have HOL := Aside0.mk hol
      have hpl' : (ps.length : Int) ≤ 513 := by omega
      clear hps hop hst2 hmv2 hsn HSN2 ho0 hbp HMV1 HST1 hol HRN
      gi_wp2_with fail
      gi_loopw [29] (fun v29 wr => ∃ (j : Nat) (vs' vo' : Value), v29 = .int .i64 j ∧ j ≤ ps.length ∧ Aside0 (St wr (w.heap.size + 5) (w.heap.size + 1) w.heap.size vs' vo' ((ps.take j).foldl (piece (bytesOf s)) ([], o0)).1 ((ps.take j).foldl (piece (bytesOf s)) ([], o0)).2) ∧ Aside0 (OwnRow (Part (w.heap.size + 3)) 32 1 wr w1.heap.size (.slice Ap ps.length cp) ps) ∧ Aside0 (Mv (w.heap.size + 5) (w.heap.size + 1) w.heap.size W wr)) (fun v29 _ => ps.length - (intOf v29).toNat)
      case atStart => exact ⟨0, _, _, rfl, Nat.zero_le _, HST2, HOP, HMV2⟩
      case round =>
        obtain ⟨j, vs', vo', rfl, hj, HST, HOP, HMV⟩ := hrel
        by_cases hlt : j < ps.length
        · obtain ⟨g, A', c', rfl, hcell, hcc, hAA⟩ := part_at HOP.out j hlt
          obtain ⟨⟨o, m⟩, hom⟩ : ∃ q, ps[j] = q := ⟨_, rfl⟩
          rw [hom] at hcell hcc hAA
          simp only at hcell hcc hAA
          have hmem : (o, m) ∈ parts (k - i + 1) i (k - i) := by rw [HPS.out, ← hom]; exact List.getElem_mem hlt
          have hin := parts_in _ _ _ _ (Nat.lt_succ_self _) hmem
          have hm0 : 0 < m := parts_pos _ _ _ _ (Nat.lt_succ_self _) (by omega) hmem
          simp only at hin
          obtain rfl := hAA hm0
          obtain ⟨⟨T1, T2⟩, hT⟩ : ∃ q, (ps.take j).foldl (piece (bytesOf s)) ([], o0) = q := ⟨_, rfl⟩
          have hTl := fold_len (bytesOf s) (ps.take j) ([], o0)
          have hTn : (ps.take (j + 1)).foldl (piece (bytesOf s)) ([], o0) = piece (bytesOf s) (T1, T2) (o, m) := by
            rw [List.take_succ_eq_append_getElem hlt, List.foldl_append, hT, hom]; rfl
          have hS := HST.out
          rw [hT] at hS hTl
          simp only [List.length_nil, List.length_take] at hTl hS
          have HTN := Aside0.mk hTn
          have HS := Aside0.mk hS
          have HTL : Aside0 (T1.length + T2.length ≤ 18300000000) := ⟨by have := HOL.out; omega⟩
          have HOC : Aside0 (Octets wr (w.heap.size + 3) (bytesOf s)) := ⟨Octets.fr (Octets.fr hst.bytes HFR.out (by omega) (by omega) (by omega)) (Fr.mv (Fr.refl _ _ _ _) HMV.out) (by omega) (by omega) (by omega)⟩
          clear hmem hom hAA hT hTl hTn hS HST
          by_cases hm1 : m = 1
          · subst hm1
            have hcs := blk_cell HS.out.hs 0
            have hfs := blk_frozen HS.out.hs 0
            obtain ⟨A, c, rfl⟩ := own_slice HS.out.s
            have hcs' : wr.cell? ⟨w.heap.size + 1, 0, none⟩ = some (.slice A T1.length c) := hcs
            obtain ⟨l1, hl1⟩ : ∃ l1, T1 ++ ((bytesOf s).drop o).take 1 = l1 := ⟨_, rfl⟩
            have HL1 := Aside0.mk hl1
            have HRD := Aside0.mk (run_reads (i := o) (m := 1) HOC.out (by omega) (by rw [hlen]; exact hs))
            clear hcs hl1
            gi_wp2_with (gi_at_builtin; refine append_row_in (w.heap.size + 5) rfl (.tmp 36) (.tmp 37) 32 5 .u8 1 rfl Try.underlying32 info5 (by decide) (.slice A T1.length c) T1 (((bytesOf s).drop o).take 1) ⟨w.heap.size + 3, o, none⟩ 1 c' rfl rfl ?hm HS.out.s HRD.out HS.out.lb ?hl ?_; (case hm => omega); (case hl => have := HTL.out; omega); intro v1 w3 ho hg hat; rw [HL1.out] at ho; have HO1 := Aside0.mk ho; have HG1 := Aside0.mk hg; have HAT1 := Aside0.mk hat; clear ho hg hat; obtain ⟨A1, c1, rfl⟩ := own_slice HO1.out; obtain ⟨hb1, hb2⟩ := put_s_box HS.out HG1.out)
            obtain ⟨k1, k2⟩ := put_s HS.out HO1.out HG1.out HAT1.out
            have k3 := row_keep (g := w.heap.size + 1) (v1 := .slice A1 l1.length c1) HOP.out HS.out.s HG1.out (by have := HB0.out; omega)
            exact ⟨⟨j + 1, _, _, by go_num, by omega, ⟨by rw [HTN.out]; unfold piece; rw [if_pos rfl, HL1.out]; exact k1⟩, ⟨k3⟩, ⟨HMV.out.trans k2⟩⟩, by simp [intOf]; omega⟩
          · have hco := blk_cell HS.out.ho 0
            have hfo := blk_frozen HS.out.ho 0
            obtain ⟨A, c, rfl⟩ := own_slice HS.out.o
            have hco' : wr.cell? ⟨w.heap.size, 0, none⟩ = some (.slice A T2.length c) := hco
            have hch := HOC.out o (by omega)
            obtain ⟨ch, hcc2⟩ : ∃ ch, (bytesOf s).getD o 0 = ch := ⟨_, rfl⟩
            rw [hcc2] at hch
            have q2 : ((m : Int) == 1) = false := by simp; omega
            have q3 : (0 : Int) < (m : Int) := by omega
            have q4 : (m : Int) ≤ 128 := by omega
            clear hco
            have hmix : Try.prog.follows .mixedOrders = true := by kernel_rfl
            have hw1 : IntKind.i64.wrap (257 - (m : Int)) = 257 - (m : Int) := IntWalk.i64_in _ (by omega)
            have hw2 : IntKind.u8.wrap (257 - (m : Int)) = 257 - (m : Int) := by show (257 - (m : Int)) % 256 = _; omega
            have hTL := HTL.out
            obtain ⟨v1, w3, hrun, hb1, hb2, ⟨A1, c1, rfl⟩, k1, k2, hg⟩ := append_new HS.out [257 - (m : Int), ch] (by simp) (by simp; omega) 2
            simp only [List.length_cons, List.length_nil, Nat.zero_add, Nat.reduceAdd] at hrun k1 k2 hb1 hb2
            have k3 := row_keep (g := w.heap.size) (v1 := .slice A1 (T2.length + 2) c1) (HOP.out.below (((Below.refl _ _).alloc (Nat.le_refl _) _).drew)) (HS.out.below (((Below.refl _ _).alloc (Nat.le_refl _) _).drew)).o hg (by have := HB0.out; omega)
            have hrun' : appOut Try.prog 32 32 (.slice A T2.length c) (.slice (some ⟨wr.heap.size, 0, none⟩) 2 2) ((wr.alloc (.cells #[.int .u8 (257 - (m : Int)), .int .u8 ch] 5)).drew) = .ok (.slice A1 (T2.length + 2) c1) w3 := hrun
            have hco2 : (wr.alloc (.cells #[.int .u8 (257 - (m : Int)), .int .u8 ch] 5)).cell? ⟨w.heap.size, 0, none⟩ = some (.slice A T2.length c) := blk_cell (((Below.refl wr.heap.size wr).alloc (Nat.le_refl _) _).block w.heap.size (by have := HS.out.lb; omega) |>.trans HS.out.ho) 0
            have K1 := Aside0.mk k1
            have K2 := Aside0.mk k2
            have K3 := Aside0.mk k3
            have HCC := Aside0.mk hcc2
            clear hrun k1 k2 k3 hg hcc2 hTL
            gi_wp2_with fail
            refine wpIn_region_any (by assumption) ?_
            try (change wpAnyIn _ _ _ _ _ _ _ _ _ (World.drew _))
            refine wpAnyIn_ready (rs := [0, 1, 5]) (by kernel_rfl) (by simp) ?rgh1
            refine rgCons ?arg10000000000 ?wrg10000000000 #[true, false, false, false, false, false, false, false, false, false, false] rfl (by kernel_rfl) (fun K hK => ?rgs2) ?rgh3 ?rg10000000000
            case rgs2 => (go_simp; exact hK)
            refine rgCons ?arg01000000000 ?wrg01000000000 #[false, true, false, false, false, false, false, false, false, false, false] rfl (by kernel_rfl) (fun K hK => ?rgs4) ?rgh5 ?rg01000000000
            case rgs4 => (go_simp; exact hK)
            refine rgCons ?arg00000100000 ?wrg00000100000 #[false, false, false, false, false, true, false, false, false, false, false] rfl (by kernel_rfl) (fun K hK => ?rgs6) ?rgh7 ?rg00000100000
            case rgs6 => (go_simp; exact hK)
            exact AllReadyIn.nil
            refine wpAnyIn_ready (rs := [0, 1, 6]) (by kernel_rfl) (by simp) ?rgh8
            refine rgCons ?arg10000100000 ?wrg10000100000 #[true, false, false, false, false, true, false, false, false, false, false] rfl (by kernel_rfl) (fun K hK => ?rgs9) ?rgh10 ?rg10000100000
            case rgs9 => (go_simp; exact hK)
            refine rgCons ?arg01000100000 ?wrg01000100000 #[false, true, false, false, false, true, false, false, false, false, false] rfl (by kernel_rfl) (fun K hK => ?rgs11) ?rgh12 ?rg01000100000
            case rgs11 => (go_simp; exact hK)
            refine rgCons ?arg00000110000 ?wrg00000110000 #[false, false, false, false, false, true, true, false, false, false, false] rfl (by kernel_rfl) (fun K hK => ?rgs13) ?rgh14 ?rg00000110000
            case rgs13 => (go_simp; exact hK)
            exact AllReadyIn.nil
            refine wpAnyIn_ready (rs := [0, 1, 7]) (by kernel_rfl) (by simp) ?rgh15
            refine rgCons ?arg10000110000 ?wrg10000110000 #[true, false, false, false, false, true, true, false, false, false, false] rfl (by kernel_rfl) (fun K hK => ?rgs16) ?rgh17 ?rg10000110000
            case rgs16 => (go_simp; exact hK)
            refine rgCons ?arg01000110000 ?wrg01000110000 #[false, true, false, false, false, true, true, false, false, false, false] rfl (by kernel_rfl) (fun K hK => ?rgs18) ?rgh19 ?rg01000110000
            case rgs18 => (go_simp; exact hK)
            refine rgCons ?arg00000111000 ?wrg00000111000 #[false, false, false, false, false, true, true, true, false, false, false] rfl (by kernel_rfl) (fun K hK => ?rgs20) ?rgh21 ?rg00000111000
            case rgs20 => (go_simp; exact hK)
            exact AllReadyIn.nil
            refine wpAnyIn_ready (rs := [0, 1]) (by kernel_rfl) (by simp) ?rgh22
            refine rgCons ?arg10000111000 ?wrg10000111000 #[true, false, false, false, false, true, true, true, false, false, false] rfl (by kernel_rfl) (fun K hK => ?rgs23) ?rgh24 ?rg10000111000
            case rgs23 => (go_simp; exact hK)
            refine rgCons ?arg01000111000 ?wrg01000111000 #[false, true, false, false, false, true, true, true, false, false, false] rfl (by kernel_rfl) (fun K hK => ?rgs25) ?rgh26 ?rg01000111000
            case rgs25 => (go_simp; exact hK)
            exact AllReadyIn.nil
            refine wpAnyIn_ready (rs := [0, 2]) (by kernel_rfl) (by simp) ?rgh27
            refine rgCons ?arg11000111000 ?wrg11000111000 #[true, true, false, false, false, true, true, true, false, false, false] rfl (by kernel_rfl) (fun K hK => ?rgs28) ?rgh29 ?rg11000111000
            case rgs28 => (go_simp; exact hK)
            refine rgCons ?arg01100111000 ?wrg01100111000 #[false, true, true, false, false, true, true, true, false, false, false] rfl (by kernel_rfl) (fun K hK => ?rgs30) ?rgh31 ?rg01100111000
            case rgs30 => (go_simp; exact hK)
            exact AllReadyIn.nil
            refine wpAnyIn_ready (rs := [0, 3]) (by kernel_rfl) (by simp) ?rgh32
            refine rgCons ?arg11100111000 ?wrg11100111000 #[true, true, true, false, false, true, true, true, false, false, false] rfl (by kernel_rfl) (fun K hK => ?rgs33) ?rgh34 ?rg11100111000
            case rgs33 => (go_simp; exact hK)
            refine rgCons ?arg01110111000 ?wrg01110111000 #[false, true, true, true, false, true, true, true, false, false, false] rfl (by kernel_rfl) (fun K hK => ?rgs35) ?rgh36 ?rg01110111000
            case rgs35 => (go_simp; exact hK)
            exact AllReadyIn.nil
            refine wpAnyIn_ready (rs := [0, 4]) (by kernel_rfl) (by simp) ?rgh37
            refine rgCons ?arg11110111000 ?wrg11110111000 #[true, true, true, true, false, true, true, true, false, false, false] rfl (by kernel_rfl) (fun K hK => ?rgs38) ?rgh39 ?rg11110111000
            case rgs38 => (go_simp; exact hK)
            refine rgCons ?arg01111111000 ?wrg01111111000 #[false, true, true, true, true, true, true, true, false, false, false] rfl (by kernel_rfl) (fun K hK => ?rgs40) ?rgh41 ?rg01111111000
            case rgs40 => (go_simp; exact hK)
            exact AllReadyIn.nil
            refine wpAnyIn_ready (rs := [0, 8]) (by kernel_rfl) (by simp) ?rgh42
            refine rgCons ?arg11111111000 ?wrg11111111000 #[true, true, true, true, true, true, true, true, false, false, false] rfl (by kernel_rfl) (fun K hK => ?rgs43) ?rgh44 ?rg11111111000
            case rgs43 => (go_simp; exact hK)
            refine rgCons ?arg01111111100 ?wrg01111111100 #[false, true, true, true, true, true, true, true, true, false, false] rfl (by kernel_rfl) (fun K hK => ?rgs45) ?rgh46 ?rg01111111100
            case rgs45 => (go_simp; exact hK)
            exact AllReadyIn.nil
            refine wpAnyIn_ready (rs := [0]) (by kernel_rfl) (by simp) ?rgh47
            refine rgCons ?arg11111111100 ?wrg11111111100 #[true, true, true, true, true, true, true, true, true, false, false] rfl (by kernel_rfl) (fun K hK => ?rgs48) ?rgh49 ?rg11111111100
            case rgs48 => (go_simp; exact hK)
            exact AllReadyIn.nil
            refine wpAnyIn_ready (rs := [9]) (by kernel_rfl) (by simp) ?rgh50
            refine rgCons ?arg11111111110 ?wrg11111111110 #[true, true, true, true, true, true, true, true, true, true, false] rfl (by kernel_rfl) (fun K hK => ?rgs51) ?rgh52 ?rg11111111110
            case rgs51 => (rw [if_pos (by kernel_rfl)]; refine app_in (v := .slice A1 (T2.length + 2) c1) (w' := w3) hrun' ?_; exact hK)
            exact AllReadyIn.nil
            refine wpAnyIn_ready (rs := [10]) (by kernel_rfl) (by simp) ?rgh53
            refine rgCons ?argEnd ?wrgEnd #[true, true, true, true, true, true, true, true, true, true, true] rfl (by kernel_rfl) (fun K hK => ?rgs54) ?rgh55 ?rgEnd
            case rgs54 => (go_simp; exact hK)
            exact AllReadyIn.nil
            rotate_left
            refine wpAnyIn_ready (rs := [8]) (by kernel_rfl) (by simp) ?rgh56
            refine rgCons ?arg11111111100 ?wrg11111111100 #[true, true, true, true, true, true, true, true, true, false, false] rfl (by kernel_rfl) (fun K hK => ?rgs57) ?rgh58 ?rg11111111100
            case rgs57 => (go_simp; exact hK)
            exact AllReadyIn.nil
            refine wpAnyIn_ready (rs := [4]) (by kernel_rfl) (by simp) ?rgh59
            refine rgCons ?arg11111111000 ?wrg11111111000 #[true, true, true, true, true, true, true, true, false, false, false] rfl (by kernel_rfl) (fun K hK => ?rgs60) ?rgh61 ?rg11111111000
            case rgs60 => (go_simp; exact hK)
            exact AllReadyIn.nil
            refine wpAnyIn_ready (rs := [3]) (by kernel_rfl) (by simp) ?rgh62
            refine rgCons ?arg11110111000 ?wrg11110111000 #[true, true, true, true, false, true, true, true, false, false, false] rfl (by kernel_rfl) (fun K hK => ?rgs63) ?rgh64 ?rg11110111000
            case rgs63 => (go_simp; exact hK)
            exact AllReadyIn.nil
            refine wpAnyIn_ready (rs := [2]) (by kernel_rfl) (by simp) ?rgh65
            refine rgCons ?arg11100111000 ?wrg11100111000 #[true, true, true, false, false, true, true, true, false, false, false] rfl (by kernel_rfl) (fun K hK => ?rgs66) ?rgh67 ?rg11100111000
            case rgs66 => (go_simp; exact hK)
            exact AllReadyIn.nil
            refine wpAnyIn_ready (rs := [1]) (by kernel_rfl) (by simp) ?rgh68
            refine rgCons ?arg11000111000 ?wrg11000111000 #[true, true, false, false, false, true, true, true, false, false, false] rfl (by kernel_rfl) (fun K hK => ?rgs69) ?rgh70 ?rg11000111000
            case rgs69 => (go_simp; exact hK)
            exact AllReadyIn.nil
            refine wpAnyIn_ready (rs := [0, 2, 7]) (by kernel_rfl) (by simp) ?rgh71
            refine rgCons ?arg11000110000 ?wrg11000110000 #[true, true, false, false, false, true, true, false, false, false, false] rfl (by kernel_rfl) (fun K hK => ?rgs72) ?rgh73 ?rg11000110000
            case rgs72 => (go_simp; exact hK)
            refine rgCons ?arg01100110000 ?wrg01100110000 #[false, true, true, false, false, true, true, false, false, false, false] rfl (by kernel_rfl) (fun K hK => ?rgs74) ?rgh75 ?rg01100110000
            case rgs74 => (go_simp; exact hK)
            refine rgCons ?arg01000111000 ?wrg01000111000 #[false, true, false, false, false, true, true, true, false, false, false] rfl (by kernel_rfl) (fun K hK => ?rgs76) ?rgh77 ?rg01000111000
            case rgs76 => (go_simp; exact hK)
            exact AllReadyIn.nil
            refine wpAnyIn_ready (rs := [0, 3, 7]) (by kernel_rfl) (by simp) ?rgh78
            refine rgCons ?arg11100110000 ?wrg11100110000 #[true, true, true, false, false, true, true, false, false, false, false] rfl (by kernel_rfl) (fun K hK => ?rgs79) ?rgh80 ?rg11100110000
            case rgs79 => (go_simp; exact hK)
            refine rgCons ?arg01110110000 ?wrg01110110000 #[false, true, true, true, false, true, true, false, false, false, false] rfl (by kernel_rfl) (fun K hK => ?rgs81) ?rgh82 ?rg01110110000
            case rgs81 => (go_simp; exact hK)
            refine rgCons ?arg01100111000 ?wrg01100111000 #[false, true, true, false, false, true, true, true, false, false, false] rfl (by kernel_rfl) (fun K hK => ?rgs83) ?rgh84 ?rg01100111000
            case rgs83 => (go_simp; exact hK)
            exact AllReadyIn.nil
            refine wpAnyIn_ready (rs := [0, 4, 7]) (by kernel_rfl) (by simp) ?rgh85
            refine rgCons ?arg11110110000 ?wrg11110110000 #[true, true, true, true, false, true, true, false, false, false, false] rfl (by kernel_rfl) (fun K hK => ?rgs86) ?rgh87 ?rg11110110000
            case rgs86 => (go_simp; exact hK)
            refine rgCons ?arg01111110000 ?wrg01111110000 #[false, true, true, true, true, true, true, false, false, false, false] rfl (by kernel_rfl) (fun K hK => ?rgs88) ?rgh89 ?rg01111110000
            case rgs88 => (go_simp; exact hK)
            refine rgCons ?arg01110111000 ?wrg01110111000 #[false, true, true, true, false, true, true, true, false, false, false] rfl (by kernel_rfl) (fun K hK => ?rgs90) ?rgh91 ?rg01110111000
            case rgs90 => (go_simp; exact hK)
            exact AllReadyIn.nil
            refine wpAnyIn_ready (rs := [0, 7]) (by kernel_rfl) (by simp) ?rgh92
            refine rgCons ?arg11111110000 ?wrg11111110000 #[true, true, true, true, true, true, true, false, false, false, false] rfl (by kernel_rfl) (fun K hK => ?rgs93) ?rgh94 ?rg11111110000
            case rgs93 => (go_simp; exact hK)
            refine rgCons ?arg01111111000 ?wrg01111111000 #[false, true, true, true, true, true, true, true, false, false, false] rfl (by kernel_rfl) (fun K hK => ?rgs95) ?rgh96 ?rg01111111000
            case rgs95 => (go_simp; exact hK)
            exact AllReadyIn.nil
            refine wpAnyIn_ready (rs := [7]) (by kernel_rfl) (by simp) ?rgh97
            refine rgCons ?arg11111111000 ?wrg11111111000 #[true, true, true, true, true, true, true, true, false, false, false] rfl (by kernel_rfl) (fun K hK => ?rgs98) ?rgh99 ?rg11111111000
            case rgs98 => (go_simp; exact hK)
            exact AllReadyIn.nil
            refine wpAnyIn_ready (rs := [4, 7]) (by kernel_rfl) (by simp) ?rgh100
            refine rgCons ?arg11111110000 ?wrg11111110000 #[true, true, true, true, true, true, true, false, false, false, false] rfl (by kernel_rfl) (fun K hK => ?rgs101) ?rgh102 ?rg11111110000
            case rgs101 => (go_simp; exact hK)
            refine rgCons ?arg11110111000 ?wrg11110111000 #[true, true, true, true, false, true, true, true, false, false, false] rfl (by kernel_rfl) (fun K hK => ?rgs103) ?rgh104 ?rg11110111000
            case rgs103 => (go_simp; exact hK)
            exact AllReadyIn.nil
            refine wpAnyIn_ready (rs := [3, 7]) (by kernel_rfl) (by simp) ?rgh105
            refine rgCons ?arg11110110000 ?wrg11110110000 #[true, true, true, true, false, true, true, false, false, false, false] rfl (by kernel_rfl) (fun K hK => ?rgs106) ?rgh107 ?rg11110110000
            case rgs106 => (go_simp; exact hK)
            refine rgCons ?arg11100111000 ?wrg11100111000 #[true, true, true, false, false, true, true, true, false, false, false] rfl (by kernel_rfl) (fun K hK => ?rgs108) ?rgh109 ?rg11100111000
            case rgs108 => (go_simp; exact hK)
            exact AllReadyIn.nil
            refine wpAnyIn_ready (rs := [2, 7]) (by kernel_rfl) (by simp) ?rgh110
            refine rgCons ?arg11100110000 ?wrg11100110000 #[true, true, true, false, false, true, true, false, false, false, false] rfl (by kernel_rfl) (fun K hK => ?rgs111) ?rgh112 ?rg11100110000
            case rgs111 => (go_simp; exact hK)
            refine rgCons ?arg11000111000 ?wrg11000111000 #[true, true, false, false, false, true, true, true, false, false, false] rfl (by kernel_rfl) (fun K hK => ?rgs113) ?rgh114 ?rg11000111000
            case rgs113 => (go_simp; exact hK)
            exact AllReadyIn.nil
            refine wpAnyIn_ready (rs := [1, 7]) (by kernel_rfl) (by simp) ?rgh115
            refine rgCons ?arg11000110000 ?wrg11000110000 #[true, true, false, false, false, true, true, false, false, false, false] rfl (by kernel_rfl) (fun K hK => ?rgs116) ?rgh117 ?rg11000110000
            case rgs116 => (go_simp; exact hK)
            refine rgCons ?arg10000111000 ?wrg10000111000 #[true, false, false, false, false, true, true, true, false, false, false] rfl (by kernel_rfl) (fun K hK => ?rgs118) ?rgh119 ?rg10000111000
            case rgs118 => (go_simp; exact hK)
            exact AllReadyIn.nil
            refine wpAnyIn_ready (rs := [0, 2, 6]) (by kernel_rfl) (by simp) ?rgh120
            refine rgCons ?arg11000100000 ?wrg11000100000 #[true, true, false, false, false, true, false, false, false, false, false] rfl (by kernel_rfl) (fun K hK => ?rgs121) ?rgh122 ?rg11000100000
            case rgs121 => (go_simp; exact hK)
            refine rgCons ?arg01100100000 ?wrg01100100000 #[false, true, true, false, false, true, false, false, false, false, false] rfl (by kernel_rfl) (fun K hK => ?rgs123) ?rgh124 ?rg01100100000
            case rgs123 => (go_simp; exact hK)
            refine rgCons ?arg01000110000 ?wrg01000110000 #[false, true, false, false, false, true, true, false, false, false, false] rfl (by kernel_rfl) (fun K hK => ?rgs125) ?rgh126 ?rg01000110000
            case rgs125 => (go_simp; exact hK)
            exact AllReadyIn.nil
            refine wpAnyIn_ready (rs := [0, 3, 6]) (by kernel_rfl) (by simp) ?rgh127
            refine rgCons ?arg11100100000 ?wrg11100100000 #[true, true, true, false, false, true, false, false, false, false, false] rfl (by kernel_rfl) (fun K hK => ?rgs128) ?rgh129 ?rg11100100000
            case rgs128 => (go_simp; exact hK)
            refine rgCons ?arg01110100000 ?wrg01110100000 #[false, true, true, true, false, true, false, false, false, false, false] rfl (by kernel_rfl) (fun K hK => ?rgs130) ?rgh131 ?rg01110100000
            case rgs130 => (go_simp; exact hK)
            refine rgCons ?arg01100110000 ?wrg01100110000 #[false, true, true, false, false, true, true, false, false, false, false] rfl (by kernel_rfl) (fun K hK => ?rgs132) ?rgh133 ?rg01100110000
            case rgs132 => (go_simp; exact hK)
            exact AllReadyIn.nil
            refine wpAnyIn_ready (rs := [0, 4, 6]) (by kernel_rfl) (by simp) ?rgh134
            refine rgCons ?arg11110100000 ?wrg11110100000 #[true, true, true, true, false, true, false, false, false, false, false] rfl (by kernel_rfl) (fun K hK => ?rgs135) ?rgh136 ?rg11110100000
            case rgs135 => (go_simp; exact hK)
            refine rgCons ?arg01111100000 ?wrg01111100000 #[false, true, true, true, true, true, false, false, false, false, false] rfl (by kernel_rfl) (fun K hK => ?rgs137) ?rgh138 ?rg01111100000
            case rgs137 => (go_simp; exact hK)
            refine rgCons ?arg01110110000 ?wrg01110110000 #[false, true, true, true, false, true, true, false, false, false, false] rfl (by kernel_rfl) (fun K hK => ?rgs139) ?rgh140 ?rg01110110000
            case rgs139 => (go_simp; exact hK)
            exact AllReadyIn.nil
            refine wpAnyIn_ready (rs := [0, 6]) (by kernel_rfl) (by simp) ?rgh141
            refine rgCons ?arg11111100000 ?wrg11111100000 #[true, true, true, true, true, true, false, false, false, false, false] rfl (by kernel_rfl) (fun K hK => ?rgs142) ?rgh143 ?rg11111100000
            case rgs142 => (go_simp; exact hK)
            refine rgCons ?arg01111110000 ?wrg01111110000 #[false, true, true, true, true, true, true, false, false, false, false] rfl (by kernel_rfl) (fun K hK => ?rgs144) ?rgh145 ?rg01111110000
            case rgs144 => (go_simp; exact hK)
            exact AllReadyIn.nil
            refine wpAnyIn_ready (rs := [6]) (by kernel_rfl) (by simp) ?rgh146
            refine rgCons ?arg11111110000 ?wrg11111110000 #[true, true, true, true, true, true, true, false, false, false, false] rfl (by kernel_rfl) (fun K hK => ?rgs147) ?rgh148 ?rg11111110000
            case rgs147 => (go_simp; exact hK)
            exact AllReadyIn.nil
            refine wpAnyIn_ready (rs := [4, 6]) (by kernel_rfl) (by simp) ?rgh149
            refine rgCons ?arg11111100000 ?wrg11111100000 #[true, true, true, true, true, true, false, false, false, false, false] rfl (by kernel_rfl) (fun K hK => ?rgs150) ?rgh151 ?rg11111100000
            case rgs150 => (go_simp; exact hK)
            refine rgCons ?arg11110110000 ?wrg11110110000 #[true, true, true, true, false, true, true, false, false, false, false] rfl (by kernel_rfl) (fun K hK => ?rgs152) ?rgh153 ?rg11110110000
            case rgs152 => (go_simp; exact hK)
            exact AllReadyIn.nil
            refine wpAnyIn_ready (rs := [3, 6]) (by kernel_rfl) (by simp) ?rgh154
            refine rgCons ?arg11110100000 ?wrg11110100000 #[true, true, true, true, false, true, false, false, false, false, false] rfl (by kernel_rfl) (fun K hK => ?rgs155) ?rgh156 ?rg11110100000
            case rgs155 => (go_simp; exact hK)
            refine rgCons ?arg11100110000 ?wrg11100110000 #[true, true, true, false, false, true, true, false, false, false, false] rfl (by kernel_rfl) (fun K hK => ?rgs157) ?rgh158 ?rg11100110000
            case rgs157 => (go_simp; exact hK)
            exact AllReadyIn.nil
            refine wpAnyIn_ready (rs := [2, 6]) (by kernel_rfl) (by simp) ?rgh159
            refine rgCons ?arg11100100000 ?wrg11100100000 #[true, true, true, false, false, true, false, false, false, false, false] rfl (by kernel_rfl) (fun K hK => ?rgs160) ?rgh161 ?rg11100100000
            case rgs160 => (go_simp; exact hK)
            refine rgCons ?arg11000110000 ?wrg11000110000 #[true, true, false, false, false, true, true, false, false, false, false] rfl (by kernel_rfl) (fun K hK => ?rgs162) ?rgh163 ?rg11000110000
            case rgs162 => (go_simp; exact hK)
            exact AllReadyIn.nil
            refine wpAnyIn_ready (rs := [1, 6]) (by kernel_rfl) (by simp) ?rgh164
            refine rgCons ?arg11000100000 ?wrg11000100000 #[true, true, false, false, false, true, false, false, false, false, false] rfl (by kernel_rfl) (fun K hK => ?rgs165) ?rgh166 ?rg11000100000
            case rgs165 => (go_simp; exact hK)
            refine rgCons ?arg10000110000 ?wrg10000110000 #[true, false, false, false, false, true, true, false, false, false, false] rfl (by kernel_rfl) (fun K hK => ?rgs167) ?rgh168 ?rg10000110000
            case rgs167 => (go_simp; exact hK)
            exact AllReadyIn.nil
            refine wpAnyIn_ready (rs := [0, 2, 5]) (by kernel_rfl) (by simp) ?rgh169
            refine rgCons ?arg11000000000 ?wrg11000000000 #[true, true, false, false, false, false, false, false, false, false, false] rfl (by kernel_rfl) (fun K hK => ?rgs170) ?rgh171 ?rg11000000000
            case rgs170 => (go_simp; exact hK)
            refine rgCons ?arg01100000000 ?wrg01100000000 #[false, true, true, false, false, false, false, false, false, false, false] rfl (by kernel_rfl) (fun K hK => ?rgs172) ?rgh173 ?rg01100000000
            case rgs172 => (go_simp; exact hK)
            refine rgCons ?arg01000100000 ?wrg01000100000 #[false, true, false, false, false, true, false, false, false, false, false] rfl (by kernel_rfl) (fun K hK => ?rgs174) ?rgh175 ?rg01000100000
            case rgs174 => (go_simp; exact hK)
            exact AllReadyIn.nil
            refine wpAnyIn_ready (rs := [0, 3, 5]) (by kernel_rfl) (by simp) ?rgh176
            refine rgCons ?arg11100000000 ?wrg11100000000 #[true, true, true, false, false, false, false, false, false, false, false] rfl (by kernel_rfl) (fun K hK => ?rgs177) ?rgh178 ?rg11100000000
            case rgs177 => (go_simp; exact hK)
            refine rgCons ?arg01110000000 ?wrg01110000000 #[false, true, true, true, false, false, false, false, false, false, false] rfl (by kernel_rfl) (fun K hK => ?rgs179) ?rgh180 ?rg01110000000
            case rgs179 => (go_simp; exact hK)
            refine rgCons ?arg01100100000 ?wrg01100100000 #[false, true, true, false, false, true, false, false, false, false, false] rfl (by kernel_rfl) (fun K hK => ?rgs181) ?rgh182 ?rg01100100000
            case rgs181 => (go_simp; exact hK)
            exact AllReadyIn.nil
            refine wpAnyIn_ready (rs := [0, 4, 5]) (by kernel_rfl) (by simp) ?rgh183
            refine rgCons ?arg11110000000 ?wrg11110000000 #[true, true, true, true, false, false, false, false, false, false, false] rfl (by kernel_rfl) (fun K hK => ?rgs184) ?rgh185 ?rg11110000000
            case rgs184 => (go_simp; exact hK)
            refine rgCons ?arg01111000000 ?wrg01111000000 #[false, true, true, true, true, false, false, false, false, false, false] rfl (by kernel_rfl) (fun K hK => ?rgs186) ?rgh187 ?rg01111000000
            case rgs186 => (go_simp; exact hK)
            refine rgCons ?arg01110100000 ?wrg01110100000 #[false, true, true, true, false, true, false, false, false, false, false] rfl (by kernel_rfl) (fun K hK => ?rgs188) ?rgh189 ?rg01110100000
            case rgs188 => (go_simp; exact hK)
            exact AllReadyIn.nil
            refine wpAnyIn_ready (rs := [0, 5]) (by kernel_rfl) (by simp) ?rgh190
            refine rgCons ?arg11111000000 ?wrg11111000000 #[true, true, true, true, true, false, false, false, false, false, false] rfl (by kernel_rfl) (fun K hK => ?rgs191) ?rgh192 ?rg11111000000
            case rgs191 => (go_simp; exact hK)
            refine rgCons ?arg01111100000 ?wrg01111100000 #[false, true, true, true, true, true, false, false, false, false, false] rfl (by kernel_rfl) (fun K hK => ?rgs193) ?rgh194 ?rg01111100000
            case rgs193 => (go_simp; exact hK)
            exact AllReadyIn.nil
            refine wpAnyIn_ready (rs := [5]) (by kernel_rfl) (by simp) ?rgh195
            refine rgCons ?arg11111100000 ?wrg11111100000 #[true, true, true, true, true, true, false, false, false, false, false] rfl (by kernel_rfl) (fun K hK => ?rgs196) ?rgh197 ?rg11111100000
            case rgs196 => (go_simp; exact hK)
            exact AllReadyIn.nil
            refine wpAnyIn_ready (rs := [4, 5]) (by kernel_rfl) (by simp) ?rgh198
            refine rgCons ?arg11111000000 ?wrg11111000000 #[true, true, true, true, true, false, false, false, false, false, false] rfl (by kernel_rfl) (fun K hK => ?rgs199) ?rgh200 ?rg11111000000
            case rgs199 => (go_simp; exact hK)
            refine rgCons ?arg11110100000 ?wrg11110100000 #[true, true, true, true, false, true, false, false, false, false, false] rfl (by kernel_rfl) (fun K hK => ?rgs201) ?rgh202 ?rg11110100000
            case rgs201 => (go_simp; exact hK)
            exact AllReadyIn.nil
            refine wpAnyIn_ready (rs := [3, 5]) (by kernel_rfl) (by simp) ?rgh203
            refine rgCons ?arg11110000000 ?wrg11110000000 #[true, true, true, true, false, false, false, false, false, false, false] rfl (by kernel_rfl) (fun K hK => ?rgs204) ?rgh205 ?rg11110000000
            case rgs204 => (go_simp; exact hK)
            refine rgCons ?arg11100100000 ?wrg11100100000 #[true, true, true, false, false, true, false, false, false, false, false] rfl (by kernel_rfl) (fun K hK => ?rgs206) ?rgh207 ?rg11100100000
            case rgs206 => (go_simp; exact hK)
            exact AllReadyIn.nil
            refine wpAnyIn_ready (rs := [2, 5]) (by kernel_rfl) (by simp) ?rgh208
            refine rgCons ?arg11100000000 ?wrg11100000000 #[true, true, true, false, false, false, false, false, false, false, false] rfl (by kernel_rfl) (fun K hK => ?rgs209) ?rgh210 ?rg11100000000
            case rgs209 => (go_simp; exact hK)
            refine rgCons ?arg11000100000 ?wrg11000100000 #[true, true, false, false, false, true, false, false, false, false, false] rfl (by kernel_rfl) (fun K hK => ?rgs211) ?rgh212 ?rg11000100000
            case rgs211 => (go_simp; exact hK)
            exact AllReadyIn.nil
            refine wpAnyIn_ready (rs := [1, 5]) (by kernel_rfl) (by simp) ?rgh213
            refine rgCons ?arg11000000000 ?wrg11000000000 #[true, true, false, false, false, false, false, false, false, false, false] rfl (by kernel_rfl) (fun K hK => ?rgs214) ?rgh215 ?rg11000000000
            case rgs214 => (go_simp; exact hK)
            refine rgCons ?arg10000100000 ?wrg10000100000 #[true, false, false, false, false, true, false, false, false, false, false] rfl (by kernel_rfl) (fun K hK => ?rgs216) ?rgh217 ?rg10000100000
            case rgs216 => (go_simp; exact hK)
            exact AllReadyIn.nil
            refine wpAnyIn_done (by kernel_rfl) ?_ _
            gi_wp2_with fail
            exact ⟨⟨j + 1, _, _, by go_num, by omega, ⟨by rw [HTN.out]; unfold piece; rw [if_neg hm1, HCC.out]; exact K1.out⟩, ⟨K3.out⟩, ⟨HMV.out.trans K2.out⟩⟩, by simp [intOf]; omega⟩
        · have hje : j = ps.length := by omega
          subst hje
          gi_wp2_with fail
          refine ⟨HMV.out.others, Kp_mv HMV.out (by omega) (by omega) (by omega) (by omega) (by omega) (by omega), ⟨vs', vo', ?_⟩, HFR.out.mv HMV.out⟩
          rw [HSN3.out]
          have := HST.out
          rwa [List.take_length] at this
  case done =>
    rintro D xs W hD rfl ⟨⟨vs, vo, hst1⟩, hfr⟩ hK
    have hbnd := SS_bound (bytesOf s) (by omega) (runs (bytesOf s) ((bytesOf s).length + 1) 0)
    have hrl := runs_len (bytesOf s) ((bytesOf s).length + 1) 0
    have hr2 := HR.out
    unfold encL at hr2
    obtain ⟨⟨sh, ou⟩, hSS⟩ : ∃ q, SS (bytesOf s) (runs (bytesOf s) ((bytesOf s).length + 1) 0) = q := ⟨_, rfl⟩
    rw [hSS] at hst1 hbnd hr2
    simp only at hst1 hbnd hr2
    have hff : W.cell? ⟨w.heap.size + 2, 0, none⟩ = some (.func (.func 17) #[] #[.pointer (some ⟨w.heap.size + 1, 0, none⟩), .pointer (some ⟨w.heap.size, 0, none⟩)]) := blk_cell ((hfr.block (w.heap.size + 2) (by omega) (by omega) (by omega)).trans hst.flush) 0
    have HST := Aside0.mk hst1
    have HFR := Aside0.mk hfr
    have HK := Aside0.mk hK
    clear HR
    have HR := Aside0.mk hr2
    have hbs : sh.length ≤ 1000000000 ∧ ou.length ≤ 1000000000 := by omega
    have hD' : w.heap.size ≤ D := by have := hst.size; omega
    clear hst1 hfr hK hr2 hSS hbnd hrl hstops
    gi_wp2_with fail
    refine ⟨trivial, callsIn_wide.2 ((flush (w.heap.size + 5) (w.heap.size + 1) w.heap.size vs vo sh ou W HST.out (by omega) (by omega)).mono ?_)⟩
    rintro e w1 ⟨rfl, hmv1, vo1, hst1⟩
    have hpl := plain_len2 sh
    obtain ⟨o1, ho1⟩ : ∃ o1, ou ++ plainL sh = o1 := ⟨_, rfl⟩
    have hol : o1.length ≤ 4000000000 := by rw [← ho1, List.length_append]; omega
    have hr := HR.out
    rw [ho1] at hst1 hr
    have hco := blk_cell hst1.ho 0
    have hfo := blk_frozen hst1.ho 0
    obtain ⟨A, c, rfl⟩ := own_slice hst1.o
    have hco' : w1.cell? ⟨w.heap.size, 0, none⟩ = some (.slice A o1.length c) := hco
    have hbw : Below w1.heap.size w1 (w1.alloc (.cells #[.int .u8 128] 5)) := (Below.refl _ _).alloc (Nat.le_refl _) _
    have HS1 := Aside0.mk (hst1.below hbw)
    have HMB := Aside0.mk (Mv.of_below (bs := w.heap.size + 1) (bo := w.heap.size) hbw hst1.lb)
    have HRD : Aside0 (ReadsInt (w1.alloc (.cells #[.int .u8 128] 5)) .u8 (some ⟨w1.heap.size, 0, none⟩) 1 [128]) := ⟨⟨rfl, by omega, fun _ => ⟨_, rfl, fun j hj => by
      obtain rfl : j = 0 := by omega
      exact blk_cell (World.alloc_heap_new w1 _) 0⟩⟩⟩
    have hrl : r.length = o1.length + 1 := by rw [← hr]; simp
    have HM1 := Aside0.mk hmv1
    have HRE := Aside0.mk hr
    clear hr ho1 hpl hmv1 HR hco hbw hst1 hrl
    by_cases hbig : r.length > 65536
    · have hnum := hbig
      have hq : (65536 : Int) < (r.length : Int) := by omega
      have q1 : decide (65536 < (r.length : Int)) = true := decide_eq_true (by omega)
      clear hnum
      gi_wp2_with (gi_at_builtin; refine append_row_in (w.heap.size + 5) rfl (.tmp 52) (.tmp 53) 32 5 .u8 1 rfl Try.underlying32 info5 (by decide) (.slice A o1.length c) o1 [128] ⟨w1.heap.size, 0, none⟩ 1 1 rfl rfl (by decide) HS1.out.o HRD.out HS1.out.lb (by omega) ?_; intro v1 w3 ho hg hat; rw [HRE.out] at ho; have HO1 := Aside0.mk ho; have HG1 := Aside0.mk hg; have HAT1 := Aside0.mk hat; clear ho hg hat; obtain ⟨A1, c1, rfl⟩ := own_slice HO1.out; obtain ⟨hb1, hb2⟩ := put_o_box HS1.out HG1.out; have HPO := Aside0.mk (put_o HS1.out HO1.out HG1.out HAT1.out); have hcv := own_string (src := 32) (dst := 9) Try.underlying32 Try.underlying5 Try.underlying9 HPO.out.1.o; clear hbig)
      have hnum : r.length > 65536 := by omega
      have hmv := (HM1.out.trans HMB.out).trans HPO.out.2
      have hK' := hmv.others.same D _ HK.out rfl
      have hF := HF.out
      unfold encR at hF
      rw [if_pos hnum] at hF
      obtain ⟨rfl, rfl⟩ := Prod.mk.inj hF
      refine ⟨by simp, .inl ⟨_, _, rfl, run_takeDeferred hK', ?_⟩⟩
      exact ⟨_, by simp [results, Try.f11, go_sem], rfl, below_put (fr_below hst (HFR.out.mv hmv)) D _ _ hD' hK'⟩
    · have hq : (r.length : Int) ≤ 65536 := by omega
      have q1 : decide (65536 < (r.length : Int)) = false := decide_eq_false (by omega)
      gi_wp2_with (gi_at_builtin; refine append_row_in (w.heap.size + 5) rfl (.tmp 52) (.tmp 53) 32 5 .u8 1 rfl Try.underlying32 info5 (by decide) (.slice A o1.length c) o1 [128] ⟨w1.heap.size, 0, none⟩ 1 1 rfl rfl (by decide) HS1.out.o HRD.out HS1.out.lb (by omega) ?_; intro v1 w3 ho hg hat; rw [HRE.out] at ho; have HO1 := Aside0.mk ho; have HG1 := Aside0.mk hg; have HAT1 := Aside0.mk hat; clear ho hg hat; obtain ⟨A1, c1, rfl⟩ := own_slice HO1.out; obtain ⟨hb1, hb2⟩ := put_o_box HS1.out HG1.out; have HPO := Aside0.mk (put_o HS1.out HO1.out HG1.out HAT1.out); have hcv := own_string (src := 32) (dst := 9) Try.underlying32 Try.underlying5 Try.underlying9 HPO.out.1.o; clear hbig)
      have hnum : ¬ r.length > 65536 := by omega
      have hmv := (HM1.out.trans HMB.out).trans HPO.out.2
      have hK' := hmv.others.same D _ HK.out rfl
      have hF := HF.out
      unfold encR at hF
      rw [if_neg hnum] at hF
      obtain ⟨rfl, rfl⟩ := Prod.mk.inj hF
      refine ⟨by simp, .inl ⟨_, _, rfl, run_takeDeferred hK', ?_⟩⟩
      exact ⟨_, by simp [results, Try.f11, go_sem], rfl, below_put (fr_below hst (HFR.out.mv hmv)) D _ _ hD' hK'⟩
  case stop =>
    rintro D c pre W _ _ h _
    exact h.elim
theorem enc_long (s : ByteArray) (w : World) (hs : (s.size : Int) > 65536) :
    Calls Try.prog 11 #[.string s] w fun e w' => e = .returned (.tuple #[.string (⟨#[]⟩ : ByteArray), .int .i64 3]) ∧ Below w.heap.size w w' := by
  have b0 : decide (65536 < s.size) = true := decide_eq_true (by omega)
  have hmf : ∀ (fn : Fn) (first cap : Array Value) (w : World), (Instr.makeFunc fn first cap).run Try.prog w = .ok (.func fn first cap) w := fun _ _ _ _ => rfl
  refine (callsIn_wide (n := 7)).1 ?_
  refine callsIn_of_wp_marks Try.func11 rfl trivial ?_ rfl
  simp only [Try.ntmps11, List.size_toArray, List.length_cons, List.length_nil, Nat.reduceAdd, Nat.reduceSub, Array.replicate_succ, Array.replicate_zero, List.push_toArray, List.append_toArray, List.nil_append, List.cons_append]
  gi_wp2_with fail
  exact ⟨_, by simp [results, Try.f11, go_sem], rfl, Below.refl _ _⟩
def res (s : ByteArray) : ByteArray × Int := if (s.size : Int) > 65536 then (⟨#[]⟩, 3) else encR (encL (bytesOf s))
def runs_Encode.f (a0 : ByteArray) : Option (ByteArray × Int) := some (res a0)
theorem runs_Encode.calls (a0 : ByteArray) (r1 : ByteArray) (r2 : Int) (w : World) (h : runs_Encode.f a0 = some (r1, r2)) :
    Calls Try.prog 11 #[.string a0] w fun e w' => e = .returned (.tuple #[.string r1, .int .i64 r2]) ∧ Below w.heap.size w w' := by
  have h1 : res a0 = (r1, r2) := Option.some.inj h
  unfold res at h1
  by_cases hs : (a0.size : Int) > 65536
  · rw [if_pos hs] at h1
    obtain ⟨rfl, rfl⟩ := Prod.mk.inj h1
    exact enc_long a0 w hs
  · rw [if_neg hs] at h1
    exact enc_walk a0 w (by omega) _ rfl r1 r2 h1
end Go.Proofs.Ytbgndbehceajpaa.G05x
