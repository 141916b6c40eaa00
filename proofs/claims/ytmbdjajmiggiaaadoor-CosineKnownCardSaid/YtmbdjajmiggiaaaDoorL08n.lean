/- The decoder undoes the coder (chapter 08), in plain Lean. -/
import Derived.Test.YtmbdjajmiggiaaaDoorD08
namespace Go.Proofs.YtmbdjajmiggiaaaDoor.L08n
open Go.Proofs.YtmbdjajmiggiaaaDoor.K08 Go.Proofs.YtmbdjajmiggiaaaDoor.G08 Go.Proofs.YtmbdjajmiggiaaaDoor.G08f Go.Proofs.YtmbdjajmiggiaaaDoor.Z08 Go.Proofs.YtmbdjajmiggiaaaDoor.O08 Go.Proofs.YtmbdjajmiggiaaaDoor.L08 Go.Proofs.YtmbdjajmiggiaaaDoor.E08 Go.Proofs.YtmbdjajmiggiaaaDoor.R08 Go.Proofs.YtmbdjajmiggiaaaDoor.R08b Go.Proofs.YtmbdjajmiggiaaaDoor.D08
open Go.RowKit Go.Proofs.YtmbdjajmiggiaaaDoorW.PrintWords Go.Proofs.YtmbdjajmiggiaaaDoorW.PrintLast Go.Proofs.YtmbdjajmiggiaaaDoorW.PrintMore
set_option linter.unusedVariables false
set_option linter.unusedSimpArgs false
set_option maxRecDepth 100000
/-! ### Octets and strings -/
theorem bytesOf_inj {a b : ByteArray} (h : bytesOf a = bytesOf b) : a = b := by
  unfold bytesOf at h
  have h2 : a.data.toList = b.data.toList := List.map_inj_right (fun x y hxy => by
    have : x.toNat = y.toNat := by omega
    exact UInt8.toNat_inj.1 this) |>.1 h
  cases a
  cases b
  simp only at h2
  congr
  exact Array.toList_inj.1 h2
theorem data_len (s : ByteArray) : s.data.toList.length = s.size := rfl
theorem bytesOf_len (s : ByteArray) : (bytesOf s).length = s.size := by unfold bytesOf; simp
def Oct (l : List Int) : Prop := ∀ b ∈ l, 0 ≤ b ∧ b < 256
theorem bytesOf_range (s : ByteArray) : Oct (bytesOf s) := by
  intro b hb
  unfold bytesOf at hb
  rw [List.mem_map] at hb
  obtain ⟨x, _, rfl⟩ := hb
  have := x.toNat_lt
  omega
theorem bytesOf_strOf (r : List Int) (h : Oct r) : bytesOf (strOfNums r) = r := by
  unfold bytesOf strOfNums
  simp only [List.map_map]
  refine (List.map_congr_left (fun x hx => ?_)).trans (List.map_id r)
  have := h x hx
  simp
  omega
theorem strOf_bytesOf (s : ByteArray) : strOfNums (bytesOf s) = s := bytesOf_inj (bytesOf_strOf _ (bytesOf_range s))
theorem bytesOf_append (a b : ByteArray) : bytesOf (a ++ b) = bytesOf a ++ bytesOf b := by
  unfold bytesOf
  simp
theorem strOf_size (r : List Int) : (strOfNums r).size = r.length := by
  unfold strOfNums
  simp [ByteArray.size]
theorem bytesOf_extract (s : ByteArray) (i j : Nat) : bytesOf (s.extract i j) = ((bytesOf s).drop i).take (j - i) := by
  unfold bytesOf
  simp [List.map_drop, List.map_take]
theorem Oct.app {a b : List Int} (h : Oct a) (k : Oct b) : Oct (a ++ b) := fun x hx => (List.mem_append.1 hx).elim (h x) (k x)
theorem Oct.one {x : Int} (h : 0 ≤ x) (k : x < 256) : Oct [x] := fun y hy => by rw [List.mem_singleton] at hy; subst hy; exact ⟨h, k⟩
theorem Oct.drop {a : List Int} (h : Oct a) (n : Nat) : Oct (a.drop n) := fun x hx => h x (List.mem_of_mem_drop hx)
theorem Oct.take {a : List Int} (h : Oct a) (n : Nat) : Oct (a.take n) := fun x hx => h x (List.mem_of_mem_take hx)
/-! ### Numbers -/
theorem unz_zig (v : Int) : unz (zig v) = v := by
  unfold unz zig
  by_cases h : v < 0
  · rw [if_pos h, if_pos (by omega)]; omega
  · rw [if_neg h, if_neg (by omega)]; omega
theorem zig_nonneg (v : Int) : 0 ≤ zig v := by unfold zig; split <;> omega
theorem zig_lt {v : Int} (h1 : -1048576 ≤ v) (h2 : v ≤ 1048575) : zig v < 2097152 := by unfold zig; split <;> omega
/-- The three forms of a number code. -/
theorem numR_forms (v : Int) (h1 : -1048576 ≤ v) (h2 : v ≤ 1048575) :
    (∃ a, numR v = [a] ∧ 0 ≤ a ∧ a < 128 ∧ zig v = a) ∨ (∃ a b, numR v = [a + 128, b] ∧ 0 ≤ a ∧ a < 128 ∧ 0 ≤ b ∧ b < 128 ∧ zig v = a + 128 * b) ∨
    (∃ a b c, numR v = [a + 128, b + 128, c] ∧ 0 ≤ a ∧ a < 128 ∧ 0 ≤ b ∧ b < 128 ∧ 0 ≤ c ∧ c < 128 ∧ zig v = a + 128 * b + 16384 * c) := by
  have h0 := zig_nonneg v
  have h3 := zig_lt h1 h2
  unfold numR
  generalize zig v = u at *
  unfold digs
  by_cases c1 : u < 128
  · rw [if_pos c1]; exact .inl ⟨u, rfl, h0, c1, rfl⟩
  · rw [if_neg c1]
    unfold digs
    by_cases c2 : u / 128 < 128
    · rw [if_pos c2]; exact .inr (.inl ⟨u % 128, u / 128, rfl, by omega, by omega, by omega, by omega, by omega⟩)
    · rw [if_neg c2]
      unfold digs
      exact .inr (.inr ⟨u % 128, u / 128 % 128, u / 128 / 128, rfl, by omega, by omega, by omega, by omega, by omega, by omega, by omega⟩)
theorem rdNum_back (v : Int) (h1 : -1048576 ≤ v) (h2 : v ≤ 1048575) (l : List Int) : rdNum 3 0 1 (numR v ++ l) = (v, l) := by
  have hz := unz_zig v
  rcases numR_forms v h1 h2 with ⟨a, e, a0, a1, hu⟩ | ⟨a, b, e, a0, a1, b0, b1, hu⟩ | ⟨a, b, c, e, a0, a1, b0, b1, c0, c1, hu⟩
  · rw [e, List.singleton_append, rd_cons, if_pos a1, show 0 + a % 128 * 1 = a by omega, ← hu, hz]
  · rw [e]
    show rdNum 3 0 1 ((a + 128) :: b :: l) = _
    rw [rd_cons, if_neg (by omega), rd_cons, if_pos b1, show 0 + (a + 128) % 128 * 1 + b % 128 * (1 * 128) = a + 128 * b by omega, ← hu, hz]
  · rw [e]
    show rdNum 3 0 1 ((a + 128) :: (b + 128) :: c :: l) = _
    rw [rd_cons, if_neg (by omega), rd_cons, if_neg (by omega), rd_cons, if_pos c1, show 0 + (a + 128) % 128 * 1 + (b + 128) % 128 * (1 * 128) + c % 128 * (1 * 128 * 128) = a + 128 * b + 16384 * c by omega, ← hu, hz]
theorem rdNum_part (v : Int) (h1 : -1048576 ≤ v) (h2 : v ≤ 1048575) (p t : List Int) (ht : t ≠ []) (hp : numR v = p ++ t) : (rdNum 3 0 1 p).1 = 0 := by
  rcases numR_forms v h1 h2 with ⟨a, e, a0, a1, hu⟩ | ⟨a, b, e, a0, a1, b0, b1, hu⟩ | ⟨a, b, c, e, a0, a1, b0, b1, c0, c1, hu⟩
  all_goals rw [e] at hp
  · rcases p with _ | ⟨x, p⟩
    · rfl
    · simp at hp; exact absurd hp.2.2 ht
  · rcases p with _ | ⟨x, _ | ⟨y, p⟩⟩
    · rfl
    · simp only [List.cons_append, List.cons.injEq] at hp
      obtain ⟨rfl, hp⟩ := hp
      rw [rd_cons, if_neg (by omega)]
      rfl
    · simp at hp; exact absurd hp.2.2.2 ht
  · rcases p with _ | ⟨x, _ | ⟨y, _ | ⟨z, p⟩⟩⟩
    · rfl
    · simp only [List.cons_append, List.cons.injEq] at hp
      obtain ⟨rfl, hp⟩ := hp
      rw [rd_cons, if_neg (by omega)]
      rfl
    · simp only [List.cons_append, List.cons.injEq] at hp
      obtain ⟨rfl, rfl, hp⟩ := hp
      rw [rd_cons, if_neg (by omega), rd_cons, if_neg (by omega)]
      rfl
    · simp at hp; exact absurd hp.2.2.2.2 ht
/-! ### Blocks -/
def fill (q : Int) : List Int → Nat → List Int → List Int
  | y, _, [] => y
  | y, k, v :: vs => fill q (if v = 0 then y else y.set (place k) (v * q)) (k + 1) vs
theorem fill_len (q : Int) : ∀ (vs : List Int) (k : Nat) (y : List Int), (fill q y k vs).length = y.length
  | [], _, _ => rfl
  | v :: vs, k, y => by unfold fill; rw [fill_len q vs]; split <;> simp
theorem rdBlk_back (q : Int) : ∀ (vs : List Int) (k z f : Nat) (y l : List Int), (∀ v ∈ vs, -1048576 ≤ v ∧ v ≤ 1048575) → k + z + vs.length ≤ 64 → vs.length < f → rdBlk q f k y (blkC vs z ++ l) = some (fill q y (k + z) vs, l)
  | [], k, z, f + 1, y, l, _, _, _ => by
    show rdBlk q (f + 1) k y (64 :: l) = _
    rw [rdBlk_cons, if_pos rfl]
    rfl
  | v :: vs, k, z, f + 1, y, l, hv, hk, hf => by
    simp only [List.length_cons] at hk hf
    have hv2 : ∀ x ∈ vs, -1048576 ≤ x ∧ x ≤ 1048575 := fun x hx => hv x (List.mem_cons_of_mem _ hx)
    by_cases h0 : v = 0
    · rw [show blkC (v :: vs) z = blkC vs (z + 1) by rw [blkC, if_pos h0], rdBlk_back q vs k (z + 1) (f + 1) y l hv2 (by omega) (by omega), fill, if_pos h0, Nat.add_assoc]
    · have hb := hv v List.mem_cons_self
      rw [show blkC (v :: vs) z = (z : Int) :: (numR v ++ blkC vs 0) by rw [blkC, if_neg h0], List.cons_append, rdBlk_cons, if_neg (by omega), if_neg (by omega), List.append_assoc, rdNum_back v hb.1 hb.2]
      simp only [h0, if_false, Int.toNat_natCast]
      rw [rdBlk_back q vs (k + z + 1) 0 f _ l hv2 (by omega) (by omega), fill, if_neg h0, Nat.add_zero]
theorem rdBlk_part (q : Int) : ∀ (vs : List Int) (k z f : Nat) (y p t : List Int), (∀ v ∈ vs, -1048576 ≤ v ∧ v ≤ 1048575) → k + z + vs.length ≤ 64 → t ≠ [] → blkC vs z = p ++ t → rdBlk q f k y p = none
  | _, _, _, 0, _, _, _, _, _, _, _ => rfl
  | _, _, _, f + 1, _, [], _, _, _, _, _ => rfl
  | [], k, z, f + 1, y, x :: p, t, _, _, ht, hp => by
    simp [blkC] at hp
    exact absurd hp.2.2 ht
  | v :: vs, k, z, f + 1, y, x :: p, t, hv, hk, ht, hp => by
    simp only [List.length_cons] at hk
    have hv2 : ∀ x ∈ vs, -1048576 ≤ x ∧ x ≤ 1048575 := fun x hx => hv x (List.mem_cons_of_mem _ hx)
    by_cases h0 : v = 0
    · rw [show blkC (v :: vs) z = blkC vs (z + 1) by rw [blkC, if_pos h0]] at hp
      exact rdBlk_part q vs k (z + 1) (f + 1) y (x :: p) t hv2 (by omega) ht hp
    · have hb := hv v List.mem_cons_self
      rw [show blkC (v :: vs) z = (z : Int) :: (numR v ++ blkC vs 0) by rw [blkC, if_neg h0], List.cons_append, List.cons.injEq] at hp
      obtain ⟨rfl, hp⟩ := hp
      rw [rdBlk_cons, if_neg (by omega), if_neg (by omega)]
      rcases List.append_eq_append_iff.1 hp with ⟨a', e1, e2⟩ | ⟨c', e1, e2⟩
      · rw [e1, rdNum_back v hb.1 hb.2]
        simp only [h0, if_false, Int.toNat_natCast]
        exact rdBlk_part q vs (k + z + 1) 0 f _ a' t hv2 (by omega) ht e2
      · by_cases hc : c' = []
        · subst hc
          rw [List.append_nil] at e1
          rw [← e1, show numR v = numR v ++ [] by simp, rdNum_back v hb.1 hb.2]
          simp only [h0, if_false, Int.toNat_natCast]
          exact rdBlk_part q vs (k + z + 1) 0 f _ [] (blkC vs 0) hv2 (by omega) (by rw [List.nil_append] at e2; rw [← e2]; exact ht) (by simp)
        · rw [rdNum_part v hb.1 hb.2 p c' hc e1, if_pos rfl]
theorem place_inj : ∀ i, i < 64 → ∀ j, j < 64 → place i = place j → i = j := by decide +kernel
theorem place_onto : ∀ m, m < 64 → ∃ k, k < 64 ∧ place k = m := by decide +kernel
theorem getD_set_ne (y : List Int) {a b : Nat} (h : a ≠ b) (v : Int) : (y.set a v).getD b 0 = y.getD b 0 := by
  rw [List.getD_eq_getElem?_getD, List.getElem?_set_ne h, List.getD_eq_getElem?_getD]
theorem getD_set_eq (y : List Int) {a : Nat} (h : a < y.length) (v : Int) : (y.set a v).getD a 0 = v := by
  rw [List.getD_eq_getElem?_getD, List.getElem?_set_self h]; rfl
theorem fill_get (q : Int) : ∀ (vs : List Int) (k : Nat) (y : List Int), y.length = 64 → k + vs.length ≤ 64 → (∀ j, k ≤ j → j < 64 → y.getD (place j) 0 = 0) → ∀ j, j < 64 → (fill q y k vs).getD (place j) 0 = if j < k then y.getD (place j) 0 else vs.getD (j - k) 0 * q
  | [], k, y, hl, hk, h0, j, hj => by
    unfold fill
    by_cases h : j < k
    · rw [if_pos h]
    · rw [if_neg h, h0 j (by omega) hj]; simp
  | v :: vs, k, y, hl, hk, h0, j, hj => by
    simp only [List.length_cons] at hk
    have hpk := place_lt k (by omega)
    obtain ⟨y2, hy2⟩ : ∃ y2, (if v = 0 then y else y.set (place k) (v * q)) = y2 := ⟨_, rfl⟩
    have hl2 : y2.length = 64 := by rw [← hy2]; split <;> simp [hl]
    have hne : ∀ m, m < 64 → m ≠ k → y2.getD (place m) 0 = y.getD (place m) 0 := fun m hm hmk => by
      rw [← hy2]
      split
      · rfl
      · exact getD_set_ne y (fun e => hmk (place_inj m hm k (by omega) e.symm)) _
    have heq : y2.getD (place k) 0 = v * q := by
      rw [← hy2]
      split
      · rename_i h; rw [h0 k (Nat.le_refl _) (by omega), h]; simp
      · exact getD_set_eq y (by omega) _
    unfold fill
    rw [hy2, fill_get q vs (k + 1) y2 hl2 (by omega) (fun m h1 h2 => by rw [hne m h2 (by omega)]; exact h0 m (by omega) h2) j hj]
    rcases Nat.lt_trichotomy j k with h | h | h
    · rw [if_pos (by omega), if_pos h, hne j hj (by omega)]
    · subst h
      rw [if_pos (by omega), if_neg (by omega), heq, Nat.sub_self]
      rfl
    · rw [if_neg (by omega), if_neg (by omega), show j - k = (j - (k + 1)) + 1 by omega]
      rfl
theorem z64_get (j : Nat) : z64.getD j 0 = 0 := by
  rw [List.getD_eq_getElem?_getD]
  rcases Nat.lt_or_ge j z64.length with h | h
  · rw [List.getElem?_eq_getElem h]; exact List.eq_of_mem_replicate (by unfold z64 at h ⊢; exact List.getElem_mem _)
  · rw [List.getElem?_eq_none h]; rfl
/-- The coefficients that the decoder finds. -/
def got (b : List Int) (q : Int) : List Int := fill q z64 0 (qnt (fwdL b) q)
theorem got_len (b : List Int) (q : Int) : (got b q).length = 64 := by unfold got; rw [fill_len]; rfl
theorem got_at (b : List Int) (q : Int) (m : Nat) (hm : m < 64) : (got b q).getD m 0 = (2 * (fwdL b).getD m 0 + q) / (2 * q) * q := by
  obtain ⟨k, hk, rfl⟩ := place_onto m hm
  unfold got
  rw [fill_get q _ 0 z64 rfl (by rw [qnt_len]; omega) (fun j _ _ => z64_get _) k hk, if_neg (by omega), Nat.sub_zero, qnt_at _ _ _ hk]
  rfl
theorem code_back (b : List Int) (hb : b.length = 64) (h : ∀ x ∈ b, -128 ≤ x ∧ x ≤ 128) (q : Int) (hq : 1 ≤ q) (l : List Int) : rdBlk q 65 0 z64 (codeL b q ++ l) = some (got b q, l) := by
  unfold codeL
  rw [rdBlk_back q _ 0 0 65 z64 l (fun v hv => ?_) (by rw [qnt_len]; omega) (by rw [qnt_len]; omega)]
  · rfl
  · obtain ⟨k, hk, rfl⟩ := List.getElem_of_mem hv
    rw [qnt_len] at hk
    have := qnt_bd b hb h q hq k hk
    rw [List.getD_eq_getElem?_getD, List.getElem?_eq_getElem (by rw [qnt_len]; exact hk)] at this
    simp only [Option.getD_some] at this
    omega
theorem code_part (b : List Int) (hb : b.length = 64) (h : ∀ x ∈ b, -128 ≤ x ∧ x ≤ 128) (q : Int) (hq : 1 ≤ q) (p t : List Int) (ht : t ≠ []) (hp : codeL b q = p ++ t) : rdBlk q 65 0 z64 p = none := by
  unfold codeL at hp
  refine rdBlk_part q _ 0 0 65 z64 p t (fun v hv => ?_) (by rw [qnt_len]; omega) ht hp
  obtain ⟨k, hk, rfl⟩ := List.getElem_of_mem hv
  rw [qnt_len] at hk
  have := qnt_bd b hb h q hq k hk
  rw [List.getD_eq_getElem?_getD, List.getElem?_eq_getElem (by rw [qnt_len]; exact hk)] at this
  simp only [Option.getD_some] at this
  omega
theorem codeL_ne (b : List Int) (q : Int) : codeL b q ≠ [] := by
  unfold codeL
  have : ∀ (vs : List Int) (z : Nat), blkC vs z ≠ [] := by
    intro vs
    induction vs with
    | nil => intro z; simp [blkC]
    | cons v vs ih => intro z; unfold blkC; split; exact ih _; simp
  exact this _ _
/-- The block that comes back is near the block. -/
theorem back_near (b : List Int) (hb : b.length = 64) (q : Int) (hq : 1 ≤ q) (k : Nat) (hk : k < 64) : b.getD k 0 - (17 * q + 100) / 200 ≤ (invL (got b q)).getD k 0 ∧ (invL (got b q)).getD k 0 ≤ b.getD k 0 + (17 * q + 100) / 200 := by
  have hr : k / 8 < 8 := by omega
  have hc : k % 8 < 8 := by omega
  unfold invL
  rw [blk8_get _ _ hk]
  unfold outI
  rw [isum_eq _ _ _ hc]
  obtain ⟨e, he⟩ : ∃ e : Nat → Int, e = fun m => (got b q).getD m 0 - (fwdL b).getD m 0 := ⟨_, rfl⟩
  have hsplit : inv (fun m => (got b q).getD m 0) (k / 8) (k % 8) = inv (fun m => (fwdL b).getD m 0) (k / 8) (k % 8) + inv e (k / 8) (k % 8) := by
    rw [← inv_add]
    refine inv_congr (fun m hm => ?_) _ _
    rw [he]
    simp only
    omega
  have hfw : inv (fun m => (fwdL b).getD m 0) (k / 8) (k % 8) = 8840 * 8840 * b.getD (8 * (k / 8) + k % 8) 0 := by
    refine inv_fwd (fun m => b.getD m 0) _ (fun i hi j hj => ?_) _ _ hr hc
    rw [fwdL_eq, blk8_get _ _ (by omega), outF_eq _ _ _ (by omega) (by omega), div8 i j hj, mod8 i j hj]
  have hbd : -(3634 * (3634 * q)) ≤ inv (fun m => e m + e m) (k / 8) (k % 8) ∧ inv (fun m => e m + e m) (k / 8) (k % 8) ≤ 3634 * (3634 * q) := by
    refine inv_bd _ q (fun m hm => ?_) _ _ hr hc
    have := quant_err ((fwdL b).getD m 0) q hq
    rw [he]
    simp only
    rw [got_at b q m hm]
    omega
  rw [inv_add] at hbd
  rw [hsplit, hfw, show 8 * (k / 8) + k % 8 = k by omega]
  exact near _ _ _ (by omega) (by omega)
/-! ### Pictures -/
/-- The octets at what has been decoded are near those of the picture. -/
def Near (w h : Nat) (B : Int) (s : ByteArray) (i j k : Nat) (o : List Int) : Prop :=
  o.length = w * h ∧ ∀ r c, r < h → c < w → (r / 8 < i ∨ r / 8 = i ∧ (c / 8 < j ∨ c / 8 = j ∧ 8 * (r % 8) + c % 8 < k)) → bAt s (w * r + c) - B ≤ o.getD (w * r + c) 0 ∧ o.getD (w * r + c) 0 ≤ bAt s (w * r + c) + B ∧ 0 ≤ o.getD (w * r + c) 0 ∧ o.getD (w * r + c) 0 ≤ 255
theorem at_inj {w r c r' c' : Nat} (hc : c < w) (hc' : c' < w) (h : w * r + c = w * r' + c') : r = r' ∧ c = c' := by
  have h1 : (w * r + c) / w = r := by rw [Nat.mul_add_div (by omega), Nat.div_eq_of_lt hc, Nat.add_zero]
  have h2 : (w * r' + c') / w = r' := by rw [Nat.mul_add_div (by omega), Nat.div_eq_of_lt hc', Nat.add_zero]
  have h3 : (w * r + c) % w = c := by rw [Nat.mul_add_mod, Nat.mod_eq_of_lt hc]
  have h4 : (w * r' + c') % w = c' := by rw [Nat.mul_add_mod, Nat.mod_eq_of_lt hc']
  rw [h] at h1 h3
  exact ⟨h1.symm.trans h2, h3.symm.trans h4⟩
theorem at_lt {w h r c : Nat} (hr : r < h) (hc : c < w) : w * r + c < w * h := by
  have : w * (r + 1) ≤ w * h := Nat.mul_le_mul_left w hr
  rw [Nat.mul_add] at this
  omega
theorem encB_at (s : ByteArray) (w h i j k : Nat) (hk : k < 64) (hr : 8 * i + k / 8 < h) (hc : 8 * j + k % 8 < w) : (encB s w h i j).getD k 0 = bAt s (w * (8 * i + k / 8) + (8 * j + k % 8)) - 128 := by
  unfold encB
  rw [List.getD_eq_getElem?_getD, List.getElem?_map, List.getElem?_range hk]
  simp only [Option.map_some, Option.getD_some]
  rw [Nat.min_eq_left (by omega), Nat.min_eq_left (by omega)]
theorem near_put {w h : Nat} {B : Int} {s : ByteArray} {i j : Nat} (hB : 0 ≤ B) (b : List Int)
    (hb : ∀ k, k < 64 → (encB s w h i j).getD k 0 - B ≤ b.getD k 0 ∧ b.getD k 0 ≤ (encB s w h i j).getD k 0 + B) (o : List Int) (ho : Near w h B s i j 0 o) : ∀ k, k ≤ 64 → Near w h B s i j k (putN w h i j b o k)
  | 0, _ => ho
  | k + 1, hk => by
    obtain ⟨hl, hn⟩ := near_put hB b hb o ho k (by omega)
    unfold putN
    by_cases hin : 8 * i + k / 8 < h ∧ 8 * j + k % 8 < w
    · rw [if_pos hin]
      refine ⟨by rw [List.length_set]; exact hl, fun r c hr hc hd => ?_⟩
      by_cases he : r = 8 * i + k / 8 ∧ c = 8 * j + k % 8
      · obtain ⟨rfl, rfl⟩ := he
        rw [getD_set_eq _ (by rw [hl]; exact at_lt hr hc)]
        have h1 := hb k (by omega)
        rw [encB_at s w h i j k (by omega) hr hc] at h1
        have h2 := bAt_bd s (w * (8 * i + k / 8) + (8 * j + k % 8))
        have h3 := cl_bd (b.getD k 0)
        generalize bAt s (w * (8 * i + k / 8) + (8 * j + k % 8)) = z at *
        generalize b.getD k 0 = x at *
        unfold cl at *
        repeat' split
        all_goals omega
      · rw [getD_set_ne _ (fun e => he (by obtain ⟨h1, h2⟩ := at_inj hin.2 hc e; exact ⟨h1.symm, h2.symm⟩))]
        refine hn r c hr hc ?_
        omega
    · rw [if_neg hin]
      refine ⟨hl, fun r c hr hc hd => hn r c hr hc ?_⟩
      omega
theorem near_row {w h : Nat} {B : Int} {s : ByteArray} {i j : Nat} {o : List Int} (ho : Near w h B s i j 64 o) : Near w h B s i (j + 1) 0 o :=
  ⟨ho.1, fun r c hr hc hd => ho.2 r c hr hc (by omega)⟩
theorem near_next {w h : Nat} {B : Int} {s : ByteArray} {i : Nat} {o : List Int} (ho : Near w h B s i (nb w) 0 o) : Near w h B s (i + 1) 0 0 o :=
  ⟨ho.1, fun r c hr hc hd => ho.2 r c hr hc (by unfold nb; omega)⟩
theorem dec_step {w h : Nat} {q : Int} (hq : 1 ≤ q) (s : ByteArray) (i j : Nat) (o l : List Int) (ho : Near w h ((17 * q + 100) / 200) s i j 0 o) :
    ∃ o', stepD w h q i j (o, codeL (encB s w h i j) q ++ l) = some (o', l) ∧ Near w h ((17 * q + 100) / 200) s i (j + 1) 0 o' := by
  refine ⟨putN w h i j (invL (got (encB s w h i j) q)) o 64, ?_, ?_⟩
  · unfold stepD
    rw [code_back _ (encB_len _ _ _ _ _) (encB_bd _ _ _ _ _) q hq]
    rfl
  · exact near_row (near_put (by omega) _ (fun k hk => back_near _ (encB_len _ _ _ _ _) q hq k hk) o ho 64 (Nat.le_refl _))
theorem dec_row {w h : Nat} {q : Int} (hq : 1 ≤ q) (s : ByteArray) (i : Nat) (o : List Int) (ho : Near w h ((17 * q + 100) / 200) s i 0 0 o) : ∀ (j : Nat) (l : List Int),
    ∃ o', decRow w h q i j (o, encRow s w h q i j ++ l) = some (o', l) ∧ Near w h ((17 * q + 100) / 200) s i j 0 o'
  | 0, l => ⟨o, by simp [decRow, encRow], ho⟩
  | j + 1, l => by
    obtain ⟨o1, e1, h1⟩ := dec_row hq s i o ho j (codeL (encB s w h i j) q ++ l)
    obtain ⟨o2, e2, h2⟩ := dec_step hq s i j o1 l h1
    refine ⟨o2, ?_, h2⟩
    unfold decRow
    rw [encRow_succ, List.append_assoc, e1]
    exact e2
theorem dec_all {w h : Nat} {q : Int} (hq : 1 ≤ q) (s : ByteArray) (o : List Int) (ho : Near w h ((17 * q + 100) / 200) s 0 0 0 o) : ∀ (i : Nat) (l : List Int),
    ∃ o', decAll w h q i (o, encAll s w h q i ++ l) = some (o', l) ∧ Near w h ((17 * q + 100) / 200) s i 0 0 o'
  | 0, l => ⟨o, by simp [decAll, encAll], ho⟩
  | i + 1, l => by
    obtain ⟨o1, e1, h1⟩ := dec_all hq s o ho i (encRow s w h q i (nb w) ++ l)
    obtain ⟨o2, e2, h2⟩ := dec_row hq s i o1 h1 (nb w) l
    refine ⟨o2, ?_, near_next h2⟩
    unfold decAll
    rw [encAll_succ, List.append_assoc, e1]
    exact e2
theorem row_part {w h : Nat} {q : Int} (hq : 1 ≤ q) (s : ByteArray) (i : Nat) (o : List Int) (ho : Near w h ((17 * q + 100) / 200) s i 0 0 o) : ∀ (j : Nat) (p t : List Int), t ≠ [] → encRow s w h q i j = p ++ t → decRow w h q i j (o, p) = none
  | 0, p, t, ht, hp => by
    simp [encRow] at hp
    exact absurd hp.2 ht
  | j + 1, p, t, ht, hp => by
    rw [encRow_succ] at hp
    have hbad : ∀ (o' p' : List Int), codeL (encB s w h i j) q = p' ++ t → stepD w h q i j (o', p') = none := fun o' p' e => by
      unfold stepD
      rw [code_part _ (encB_len _ _ _ _ _) (encB_bd _ _ _ _ _) q hq p' t ht e]
      rfl
    unfold decRow
    rcases List.append_eq_append_iff.1 hp with ⟨a', e1, e2⟩ | ⟨c', e1, e2⟩
    · obtain ⟨o1, e3, h1⟩ := dec_row hq s i o ho j a'
      rw [e1, e3]
      exact hbad _ _ e2
    · by_cases hc : c' = []
      · subst hc
        rw [List.append_nil] at e1
        obtain ⟨o1, e3, h1⟩ := dec_row hq s i o ho j []
        rw [← e1, show encRow s w h q i j = encRow s w h q i j ++ [] by simp, e3]
        exact hbad _ _ (by simpa using e2.symm)
      · rw [row_part hq s i o ho j p c' hc e1]
        rfl
theorem all_part {w h : Nat} {q : Int} (hq : 1 ≤ q) (s : ByteArray) (o : List Int) (ho : Near w h ((17 * q + 100) / 200) s 0 0 0 o) : ∀ (i : Nat) (p t : List Int), t ≠ [] → encAll s w h q i = p ++ t → decAll w h q i (o, p) = none
  | 0, p, t, ht, hp => by
    simp [encAll] at hp
    exact absurd hp.2 ht
  | i + 1, p, t, ht, hp => by
    rw [encAll_succ] at hp
    unfold decAll
    rcases List.append_eq_append_iff.1 hp with ⟨a', e1, e2⟩ | ⟨c', e1, e2⟩
    · obtain ⟨o1, e3, h1⟩ := dec_all hq s o ho i a'
      rw [e1, e3]
      exact row_part hq s i o1 h1 (nb w) a' t ht e2
    · by_cases hc : c' = []
      · subst hc
        rw [List.append_nil] at e1
        obtain ⟨o1, e3, h1⟩ := dec_all hq s o ho i []
        rw [← e1, show encAll s w h q i = encAll s w h q i ++ [] by simp, e3]
        exact row_part hq s i o1 h1 (nb w) [] t ht (by simpa using e2.symm)
      · rw [all_part hq s o ho i p c' hc e1]
        rfl
theorem near_zero (w h : Nat) (B : Int) (s : ByteArray) : Near w h B s 0 0 0 (List.replicate (w * h) 0) := ⟨by simp, fun r c hr hc hd => by omega⟩
end Go.Proofs.YtmbdjajmiggiaaaDoor.L08n
