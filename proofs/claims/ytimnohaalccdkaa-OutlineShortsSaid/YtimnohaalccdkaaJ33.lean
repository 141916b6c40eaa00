/- A region that draws its order, walked once: each operation, given the values of those that it waits for, yields a value of which its own law holds; worlds only grow; so the orders need not be branched over. -/
import Derived.RegionTactic
import Derived.Deep.RegionHeld
namespace Go.Proofs.Ytimnohaalccdkaa.J33
open Go
set_option linter.unusedVariables false
section
variable {P : Program} {ops : Array Oper} {Q : Exit → Act → World → Prop} {md : Region.Mode}
/-- The destination of operation i. -/
def dstAt (ops : Array Oper) (i : Nat) : Option Tmp := (ops[i]?).bind (·.dst)
theorem dstAt_eq {i : Nat} {o : Oper} (h : ops[i]? = some o) : dstAt ops i = o.dst := by unfold dstAt; rw [h]; rfl
theorem dstAt_lt {i : Nat} {d : Tmp} (h : dstAt ops i = some d) : i < ops.size := by
  unfold dstAt at h
  rcases Nat.lt_or_ge i ops.size with k | k
  · exact k
  · rw [Array.getElem?_eq_none k] at h; cases h
/-- The values of some operations, laid over an act. -/
def lay (ops : Array Oper) (vals : Nat → Value) : Act → List Nat → Act
  | a, [] => a
  | a, i :: L => lay ops vals (a.put (dstAt ops i) (vals i)) L
theorem lay_append (vals : Nat → Value) : ∀ (L L' : List Nat) (a : Act), lay ops vals a (L ++ L') = lay ops vals (lay ops vals a L) L'
  | [], _, _ => rfl
  | i :: L, L', a => lay_append vals L L' _
def Apart (ops : Array Oper) : Prop := ∀ i j, i ≠ j → ∀ d, dstAt ops i = some d → dstAt ops j ≠ some d
def apartB (ops : Array Oper) : Bool := (List.range ops.size).all fun i => (List.range ops.size).all fun j => i == j || (match dstAt ops i with | some d => dstAt ops j != some d | none => true)
theorem apart_of (h : apartB ops = true) : Apart ops := by
  intro i j hij d hi hj
  unfold apartB at h
  have h1 := List.all_eq_true.1 h i (List.mem_range.2 (dstAt_lt hi))
  have h2 := List.all_eq_true.1 h1 j (List.mem_range.2 (dstAt_lt hj))
  rw [hi, hj] at h2
  simp [hij] at h2
theorem lay_perm (ha : Apart ops) (vals : Nat → Value) {L L' : List Nat} (h : L.Perm L') : ∀ a, lay ops vals a L = lay ops vals a L' := by
  induction h with
  | nil => intro a; rfl
  | cons i _ ih => intro a; exact ih _
  | swap i j L =>
    intro a
    by_cases e : i = j
    · subst e; rfl
    · show lay ops vals ((a.put (dstAt ops j) (vals j)).put (dstAt ops i) (vals i)) L = lay ops vals ((a.put (dstAt ops i) (vals i)).put (dstAt ops j) (vals j)) L
      rw [Act.put_comm a (vals j) (vals i) (ha j i (Ne.symm e))]
  | trans _ _ h1 h2 => intro a; exact (h1 a).trans (h2 a)
theorem lay_congr {vals vals' : Nat → Value} : ∀ (L : List Nat) (a : Act), (∀ i ∈ L, vals i = vals' i) → lay ops vals a L = lay ops vals' a L
  | [], _, _ => rfl
  | i :: L, a, h => by
    show lay ops vals (a.put (dstAt ops i) (vals i)) L = lay ops vals' (a.put (dstAt ops i) (vals' i)) L
    rw [h i List.mem_cons_self]
    exact lay_congr L _ (fun j hj => h j (List.mem_cons_of_mem _ hj))
theorem lay_put {d : Option Tmp} (v : Value) {vals : Nat → Value} : ∀ (L : List Nat) (a : Act), (∀ i ∈ L, ∀ e, d = some e → dstAt ops i ≠ some e) → lay ops vals (a.put d v) L = (lay ops vals a L).put d v
  | [], _, _ => rfl
  | i :: L, a, h => by
    show lay ops vals ((a.put d v).put (dstAt ops i) (vals i)) L = (lay ops vals (a.put (dstAt ops i) (vals i)) L).put d v
    rw [Act.put_comm a v (vals i) (h i List.mem_cons_self)]
    exact lay_put v L _ (fun j hj => h j (List.mem_cons_of_mem _ hj))
theorem lay_defers {vals : Nat → Value} (x : List Deferred) : ∀ (L : List Nat) (a : Act), lay ops vals { a with defers := x } L = { lay ops vals a L with defers := x }
  | [], _ => rfl
  | i :: L, a => by
    show lay ops vals (({ a with defers := x } : Act).put (dstAt ops i) (vals i)) L = { lay ops vals (a.put (dstAt ops i) (vals i)) L with defers := x }
    rw [show (({ a with defers := x } : Act).put (dstAt ops i) (vals i)) = { a.put (dstAt ops i) (vals i) with defers := x } by cases dstAt ops i <;> rfl]
    exact lay_defers x L _
theorem defers_lay {vals : Nat → Value} : ∀ (L : List Nat) (a : Act), (lay ops vals a L).defers = a.defers
  | [], _ => rfl
  | i :: L, a => by
    show (lay ops vals (a.put (dstAt ops i) (vals i)) L).defers = a.defers
    rw [defers_lay L]
    cases dstAt ops i <;> rfl
theorem run_lay {o : Oper} (hs : ∀ cs b, o.op ≠ .select cs b) {vals : Nat → Value} : ∀ (L : List Nat) (a : Act), (∀ i ∈ L, ∀ d, dstAt ops i = some d → d ∉ o.looksAt ops) →
    execOp (lay ops vals a L).eval o = execOp a.eval o ∧ Region.wanted o (yielded ops (lay ops vals a L).tmps) = Region.wanted o (yielded ops a.tmps)
  | [], _, _ => ⟨rfl, rfl⟩
  | i :: L, a, h => by
    obtain ⟨h1, h2⟩ := run_lay hs (vals := vals) L (a.put (dstAt ops i) (vals i)) (fun j hj => h j (List.mem_cons_of_mem _ hj))
    exact ⟨h1.trans (execOp_put o hs a _ _ (h i List.mem_cons_self)), h2.trans (wanted_put o a _ _ (h i List.mem_cons_self))⟩
theorem wp_lay {o : Oper} (hs : ∀ cs b, o.op ≠ .select cs b) {vals : Nat → Value} {L : List Nat} {a : Act} (hl : ∀ i ∈ L, ∀ d, dstAt ops i = some d → d ∉ o.looksAt ops)
    (hd : ∀ i ∈ L, ∀ e, o.dst = some e → dstAt ops i ≠ some e) {K : Act → World → Prop} {w : World}
    (h : Oper.wp P o a w (fun b w' => K (lay ops vals b L) w') (fun _ _ _ => False)) : Oper.wp P o (lay ops vals a L) w K Q := by
  unfold Oper.wp at *
  rw [(run_lay hs L a hl).1]
  generalize (execOp a.eval o).run P w = r at *
  cases r with
  | ok n w' =>
    cases n <;> simp only [Oper.upon] at h ⊢
    case value u => rw [lay_put u L a hd] at h; exact h
    case skip => rw [lay_put undef L a hd] at h; exact h
    case defer d =>
      rw [lay_put undef L _ hd, lay_defers, ← defers_lay (ops := ops) (vals := vals) L a] at h
      exact h
    case enter f args =>
      refine Calls.mono h fun e w'' he => ?_
      cases e with
      | returned u => simp only at he; rw [lay_put u L a hd] at he; exact he
      | panicked c => cases he
      | outgrown => obtain ⟨_, _, he⟩ := he; cases he
    case row row args =>
      refine Rows.mono h fun u w'' he => ?_
      rw [lay_put u L a hd] at he
      exact he
  | halt x w' =>
    cases x <;> simp only [Oper.upon] at h ⊢
/-- What is shown of one operation: with the values of those that it waits for, it yields a value of which its law holds. -/
def StepFor (P : Program) (ops : Array Oper) (V : Nat → Value → World → Prop) (S : World → Prop) (Le : World → World → Prop) (deps : Nat → List Nat) (a0 : Act) (i : Nat) : Prop :=
  ∀ o, ops[i]? = some o → ∀ vals w, S w → (∀ k ∈ deps i, V k (vals k) w) → ∀ K : Act → World → Prop,
    Shut (∀ v w', V i v w' → S w' → Le w w' → K ((lay ops vals a0 (deps i)).put o.dst v) w') →
    if Region.wanted o (yielded ops (lay ops vals a0 (deps i)).tmps) = true then Oper.wp P o (lay ops vals a0 (deps i)) w K (fun _ _ _ => False) else K ((lay ops vals a0 (deps i)).put o.dst undef) w
/-- The values of some operations, their slots written out, laid over an act. -/
def layD (vals : Nat → Value) : Act → List (Option Tmp × Nat) → Act
  | a, [] => a
  | a, (d, k) :: D => layD vals (a.put d (vals k)) D
theorem lay_layD (vals : Nat → Value) : ∀ (L : List Nat) (a : Act), lay ops vals a L = layD vals a (L.map fun k => (dstAt ops k, k))
  | [], _ => rfl
  | i :: L, a => lay_layD vals L _
theorem step_mk {V : Nat → Value → World → Prop} {S : World → Prop} {Le : World → World → Prop} {deps : Nat → List Nat} {a0 : Act} {i : Nat} {o : Oper} (D : List (Option Tmp × Nat)) (ho : ops[i]? = some o) (hD : ((deps i).map fun k => (dstAt ops k, k)) = D)
    (h : ∀ vals w, S w → (∀ k ∈ deps i, V k (vals k) w) → ∀ K : Act → World → Prop, Shut (∀ v w', V i v w' → S w' → Le w w' → K ((layD vals a0 D).put o.dst v) w') →
      if Region.wanted o (yielded ops (layD vals a0 D).tmps) = true then Oper.wp P o (layD vals a0 D) w K (fun _ _ _ => False) else K ((layD vals a0 D).put o.dst undef) w) : StepFor P ops V S Le deps a0 i := by
  intro o' ho' vals w hS hV K hK
  rw [ho] at ho'
  injection ho' with ho'
  subst ho'
  rw [lay_layD, hD] at hK ⊢
  exact h vals w hS hV K hK
theorem step_un {V : Nat → Value → World → Prop} {S : World → Prop} {Le : World → World → Prop} {deps : Nat → List Nat} {a0 : Act} {i : Nat} {o : Oper} (D : List (Option Tmp × Nat)) (ho : ops[i]? = some o) (hg : o.guard = none) (hD : ((deps i).map fun k => (dstAt ops k, k)) = D)
    (h : ∀ vals w, S w → (∀ k ∈ deps i, V k (vals k) w) → ∀ K : Act → World → Prop, Shut (∀ v w', V i v w' → S w' → Le w w' → K ((layD vals a0 D).put o.dst v) w') →
      Oper.wp P o (layD vals a0 D) w K (fun _ _ _ => False)) : StepFor P ops V S Le deps a0 i :=
  step_mk D ho hD fun vals w hS hV K hK => by
    have e : Region.wanted o (yielded ops (layD vals a0 D).tmps) = true := by unfold Region.wanted; rw [hg]
    rw [if_pos e]
    exact h vals w hS hV K hK
def depsB (md : Region.Mode) (ops : Array Oper) (deps : Nat → List Nat) : Bool :=
  (List.range ops.size).all fun i => match ops[i]? with
    | none => true
    | some o => decide (deps i).Nodup && ((deps i).all fun k => o.after.any fun e => Region.binds md e && e.on == k) && ((List.range ops.size).all fun j => j == i || (deps i).contains j || (match dstAt ops j with | none => true | some d => !(o.looksAt ops).contains d)) && (o.after.all fun e => !Region.binds md e || decide (e.on < i))
theorem deps_of {deps : Nat → List Nat} (h : depsB md ops deps = true) {i : Nat} {o : Oper} (ho : ops[i]? = some o) :
    (deps i).Nodup ∧ (∀ k ∈ deps i, ∃ e ∈ o.after, Region.binds md e = true ∧ e.on = k) ∧ (∀ j, j ≠ i → j ∉ deps i → ∀ d, dstAt ops j = some d → d ∉ o.looksAt ops) ∧ (∀ e ∈ o.after, Region.binds md e = true → e.on < i) := by
  unfold depsB at h
  have hi : i < ops.size := (Array.getElem?_eq_some_iff.1 ho).1
  have h1 := List.all_eq_true.1 h i (List.mem_range.2 hi)
  rw [ho] at h1
  simp only [Bool.and_eq_true, decide_eq_true_eq] at h1
  obtain ⟨⟨⟨h1, h2⟩, h3⟩, h4⟩ := h1
  refine ⟨h1, fun k hk => ?_, fun j hji hj d hd => ?_, fun e he hb => ?_⟩
  · obtain ⟨e, he, hb⟩ := Array.any_eq_true'.1 (List.all_eq_true.1 h2 k hk)
    simp only [Bool.and_eq_true, beq_iff_eq] at hb
    exact ⟨e, he, hb.1, hb.2⟩
  · have h5 := List.all_eq_true.1 h3 j (List.mem_range.2 (dstAt_lt hd))
    rw [hd] at h5
    simp [hji, hj] at h5
    exact h5
  · have h5 := Array.all_eq_true_iff_forall_mem.1 h4 e he
    simp [hb] at h5
    exact h5
theorem inv_any {V : Nat → Value → World → Prop} {S : World → Prop} {Le : World → World → Prop} {deps : Nat → List Nat} {a0 : Act}
    (hsel : ∀ (j : Nat) (o : Oper) cs b, ops[j]? = some o → o.op ≠ .select cs b) (ha : Apart ops) (hdep : depsB md ops deps = true)
    (hstab : ∀ k, k < ops.size → ∀ v w w', V k v w → Le w w' → V k v w') (hstep : ∀ i, i < ops.size → StepFor P ops V S Le deps a0 i)
    (hend : ∀ vals w', S w' → (∀ i, i < ops.size → V i (vals i) w') → Q .normal (lay ops vals a0 (List.range ops.size)) w') :
    ∀ (fuel : Nat) (listed : Array Bool) (L R : List Nat) (vals : Nat → Value) (w : World), listed.size = ops.size → (L ++ R).Perm (List.range ops.size) → (∀ i, i < ops.size → (listed.getD i true = true ↔ i ∈ L)) →
      S w → (∀ k ∈ L, V k (vals k) w) → R.length ≤ fuel → wpAny P md ops Q fuel listed (lay ops vals a0 L) w := by
  have hdone : ∀ (listed : Array Bool) (L R : List Nat), listed.size = ops.size → (L ++ R).Perm (List.range ops.size) → (∀ i, i < ops.size → (listed.getD i true = true ↔ i ∈ L)) → Region.ready md ops listed = [] → ∀ i, i < ops.size → i ∈ L := by
    intro listed L R hsz hp hl hr i
    induction i using Nat.strongRecOn with
    | ind i ih =>
      intro hi
      by_cases hm : i ∈ L
      · exact hm
      · exfalso
        obtain ⟨o, ho⟩ : ∃ o, ops[i]? = some o := ⟨_, Array.getElem?_eq_getElem hi⟩
        have hin : i ∈ Region.ready md ops listed := by
          rw [mem_ready]
          refine ⟨?_, o, ho, fun e he hb => ?_⟩
          · cases hx : listed.getD i true with
            | false => rfl
            | true => exact absurd ((hl i hi).1 hx) hm
          · have hlt := (deps_of hdep ho).2.2.2 e he hb
            have h1 := (hl e.on (by omega)).2 (ih e.on hlt (by omega))
            have h2 : e.on < listed.size := by omega
            simp [h2] at h1 ⊢
            exact h1
        rw [hr] at hin
        cases hin
  have hfin : ∀ (listed : Array Bool) (L R : List Nat) (vals : Nat → Value) (w : World), listed.size = ops.size → (L ++ R).Perm (List.range ops.size) → (∀ i, i < ops.size → (listed.getD i true = true ↔ i ∈ L)) →
      S w → (∀ k ∈ L, V k (vals k) w) → Region.ready md ops listed = [] → Q .normal (lay ops vals a0 L) w := by
    intro listed L R vals w hsz hp hl hS hV hr
    have hall := hdone listed L R hsz hp hl hr
    have hnd : (L ++ R).Nodup := hp.nodup_iff.2 List.nodup_range
    have hLn : L.Nodup := (List.nodup_append.1 hnd).1
    have hper : L.Perm (List.range ops.size) := (List.perm_ext_iff_of_nodup hLn List.nodup_range).2 fun i => ⟨fun h => hp.subset (List.mem_append_left _ h), fun h => hall i (List.mem_range.1 h)⟩
    rw [lay_perm ha vals hper]
    exact hend vals w hS (fun i hi => hV i (hall i hi))
  intro fuel
  induction fuel with
  | zero =>
    intro listed L R vals w hsz hp hl hS hV hR
    have hr : Region.ready md ops listed = [] := by
      rw [List.eq_nil_iff_forall_not_mem]
      intro i hi
      obtain ⟨h0, o, ho, _⟩ := mem_ready.1 hi
      have hlt : i < ops.size := (Array.getElem?_eq_some_iff.1 ho).1
      have hR0 : R = [] := List.length_eq_zero_iff.1 (by omega)
      subst hR0
      have : i ∈ L := by simpa using hp.symm.subset (List.mem_range.2 hlt)
      rw [(hl i hlt).2 this] at h0
      cases h0
    exact ⟨hr, hfin listed L R vals w hsz hp hl hS hV hr⟩
  | succ fuel ih =>
    intro listed L R vals w hsz hp hl hS hV hR
    refine ⟨hfin listed L R vals w hsz hp hl hS hV, fun i hi => ?_⟩
    obtain ⟨h0, o, ho, hedge⟩ := mem_ready.1 hi
    have hlt : i < ops.size := (Array.getElem?_eq_some_iff.1 ho).1
    obtain ⟨d1, d2, d3, d4⟩ := deps_of hdep ho
    have hiL : i ∉ L := fun h => by rw [(hl i hlt).2 h] at h0; cases h0
    have hnd : (L ++ R).Nodup := hp.nodup_iff.2 List.nodup_range
    have hLn : L.Nodup := (List.nodup_append.1 hnd).1
    have hiR : i ∈ R := by
      rcases List.mem_append.1 (hp.symm.subset (List.mem_range.2 hlt)) with h | h
      · exact absurd h hiL
      · exact h
    have hsub : ∀ k ∈ deps i, k ∈ L := fun k hk => by
      obtain ⟨e, he, hb, rfl⟩ := d2 k hk
      have h1 := hedge e he hb
      have h2 : e.on < ops.size := by have := d4 e he hb; omega
      refine (hl e.on h2).1 ?_
      have h3 : e.on < listed.size := by omega
      simp [h3] at h1 ⊢
      exact h1
    obtain ⟨T, hT⟩ : ∃ T, T = L.filter (fun j => !(deps i).contains j) := ⟨_, rfl⟩
    have hTm : ∀ j, j ∈ T ↔ j ∈ L ∧ j ∉ deps i := fun j => by rw [hT]; simp
    have hper : L.Perm (deps i ++ T) := by
      refine (List.perm_ext_iff_of_nodup hLn ?_).2 fun j => ?_
      · refine List.nodup_append.2 ⟨d1, by rw [hT]; exact hLn.filter _, fun a h1 b h2 e => ?_⟩
        subst e
        exact ((hTm a).1 h2).2 h1
      · rw [List.mem_append, hTm]
        constructor
        · intro h
          by_cases hj : j ∈ deps i
          · exact .inl hj
          · exact .inr ⟨h, hj⟩
        · rintro (h | h)
          · exact hsub j h
          · exact h.1
    have hlook : ∀ j ∈ T, ∀ d, dstAt ops j = some d → d ∉ o.looksAt ops := fun j hj => d3 j (fun e => hiL (e ▸ ((hTm j).1 hj).1)) ((hTm j).1 hj).2
    have hdst : ∀ j ∈ T, ∀ e, o.dst = some e → dstAt ops j ≠ some e := fun j hj e he => ha i j (fun h => hiL (h ▸ ((hTm j).1 hj).1)) e ((dstAt_eq ho).trans he)
    have heq : lay ops vals a0 L = lay ops vals (lay ops vals a0 (deps i)) T := by rw [lay_perm ha vals hper, lay_append]
    have hnext : ∀ v w', V i v w' → S w' → Le w w' → wpAny P md ops Q fuel (listed.setIfInBounds i true) (lay ops vals ((lay ops vals a0 (deps i)).put o.dst v) T) w' := by
      intro v w' h1 h2 h3
      rw [lay_put v T _ hdst, ← heq]
      obtain ⟨vals', hv'⟩ : ∃ vals' : Nat → Value, vals' = fun k => if k = i then v else vals k := ⟨_, rfl⟩
      have e1 : lay ops vals a0 L = lay ops vals' a0 L := lay_congr L a0 (fun j hj => by rw [hv']; simp [show j ≠ i from fun e => hiL (e ▸ hj)])
      have e2 : (lay ops vals a0 L).put o.dst v = lay ops vals' a0 (L ++ [i]) := by
        rw [lay_append, ← e1]
        show _ = (lay ops vals a0 L).put (dstAt ops i) (vals' i)
        rw [dstAt_eq ho, hv']
        simp
      rw [e2]
      refine ih (listed.setIfInBounds i true) (L ++ [i]) (R.erase i) vals' w' (by simp [hsz]) ?_ ?_ h2 ?_ ?_
      · refine List.Perm.trans ?_ hp
        rw [List.append_assoc]
        exact (List.perm_cons_erase hiR).symm.append_left L
      · intro j hj
        by_cases hji : j = i
        · subst hji
          simp [hsz, hj]
        · rw [getD_set_ne true (Ne.symm hji), hl j hj]
          simp [hji]
      · intro k hk
        by_cases hki : k = i
        · subst hki; rw [hv']; simpa using h1
        · have : k ∈ L := by simpa [hki] using hk
          rw [hv']
          simp only [hki, if_false]
          exact hstab k (List.mem_range.1 (hp.subset (List.mem_append_left _ this))) _ w w' (hV k this) h3
      · rw [List.length_erase_of_mem hiR]; omega
    have hs := hstep i hlt o ho vals w hS (fun k hk => hV k (hsub k hk)) (fun b w' => wpAny P md ops Q fuel (listed.setIfInBounds i true) (lay ops vals b T) w') hnext
    have hwant := (run_lay (hsel i o · · ho) (vals := vals) T (lay ops vals a0 (deps i)) hlook).2
    rw [heq]
    unfold wpOp
    rw [ho]
    show if Region.wanted o (yielded ops (lay ops vals (lay ops vals a0 (deps i)) T).tmps) = true then _ else _
    rw [hwant]
    split
    · rename_i hw
      rw [if_pos hw] at hs
      exact .inl (wp_lay (hsel i o · · ho) hlook hdst hs)
    · rename_i hw
      rw [if_neg hw] at hs
      rw [lay_put undef T _ hdst] at hs
      exact hs
/-- The law. -/
theorem region_inv {id : Nat} {a0 : Act} {w : World} (n : Nat) (V : Nat → Value → World → Prop) (S : World → Prop) (Le : World → World → Prop) (deps : Nat → List Nat) (D : List (Option Tmp × Nat)) (hm : P.follows .mixedOrders = true)
    (hn : ops.size = n) (hsel : Region.noSelect ops = true) (ha : apartB ops = true) (hdep : depsB .any ops deps = true) (hD : ((List.range n).map fun k => (dstAt ops k, k)) = D) (hstab : ∀ k, k < n → ∀ v w w', V k v w → Le w w' → V k v w') (hS : S w.drew)
    (hstep : ∀ i, i < n → StepFor P ops V S Le deps a0 i)
    (hend : ∀ vals w', S w' → (∀ i, i < n → V i (vals i) w') → Q .normal (layD vals a0 D) w') : (Code.region id ops true).wp P Q a0 w := by
  subst hn
  subst hD
  refine wp_region_any hm (inv_any (Region.noSelect_spec hsel) (apart_of ha) hdep hstab hstep (fun vals w' h1 h2 => ?_) ops.size _ [] (List.range ops.size) (fun _ => undef) w.drew (by simp) (by simp) (fun i hi => by simp [hi]) hS (fun k hk => by cases hk) (by simp))
  rw [lay_layD]
  exact hend vals w' h1 h2
/-- All numbers below n, one after the other. -/
theorem all_succ {p : Nat → Prop} {n : Nat} (h : ∀ i, i < n → p i) (k : p n) : ∀ i, i < n + 1 → p i := fun i hi => by
  rcases Nat.lt_or_ge i n with h1 | h1
  · exact h i h1
  · obtain rfl : i = n := by omega
    exact k
theorem all_zero {p : Nat → Prop} : ∀ i, i < 0 → p i := fun i hi => absurd hi (Nat.not_lt_zero i)
end
end Go.Proofs.Ytimnohaalccdkaa.J33
