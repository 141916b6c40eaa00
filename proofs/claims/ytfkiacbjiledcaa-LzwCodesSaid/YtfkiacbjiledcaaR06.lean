/- What the reference's Width, bits and Write answer. -/
import Derived.Test.YtfkiacbjiledcaaP06x
import Derived.Test.YtfkiacbjiledcaaL06b
namespace Go.Proofs.Ytfkiacbjiledcaa.R06
open Go.RowKit Go.Proofs.YtfkiacbjiledcaaW.PrintWords Go.Proofs.YtfkiacbjiledcaaW.PrintLast Go.Proofs.YtfkiacbjiledcaaW.PrintMore
open Go.Proofs.Ytfkiacbjiledcaa.K06 Go.Proofs.Ytfkiacbjiledcaa.L06 Go.Proofs.Ytfkiacbjiledcaa.L06b Go.Proofs.Ytfkiacbjiledcaa.P06
set_option linter.unusedVariables false
set_option maxRecDepth 100000
/-! ### An answer from some fuel on -/
def Evt {α : Type} (g : Nat → Option α) (r : α) : Prop := ∃ K, ∀ k, K ≤ k → g k = some r
theorem Evt.step {α : Type} {f F : Nat → Option α} {r : α} (e : Evt F r) (h : ∀ k, f (k + 1) = F k) : Evt f r := by
  obtain ⟨K, hK⟩ := e
  refine ⟨K + 1, fun k hk => ?_⟩
  cases k with
  | zero => omega
  | succ k => rw [h k]; exact hK k (by omega)
theorem Evt.same {α : Type} {f F : Nat → Option α} {r : α} (e : Evt F r) (h : ∀ k, f k = F k) : Evt f r := by
  obtain ⟨K, hK⟩ := e
  exact ⟨K, fun k hk => (h k).trans (hK k hk)⟩
theorem Evt.bind {α β : Type} {g : Nat → Option α} {h : Nat → α → Option β} {a : α} {r : β} (e : Evt g a) (d : Evt (fun k => h k a) r) : Evt (fun k => (g k).bind (h k)) r := by
  obtain ⟨K, hK⟩ := e
  obtain ⟨J, hJ⟩ := d
  refine ⟨K + J, fun k hk => ?_⟩
  simp only [hK k (by omega), Option.bind_some]
  exact hJ k (by omega)
theorem Evt.const {α : Type} (r : α) : Evt (fun _ => some r) r := ⟨0, fun _ _ => rfl⟩
theorem Evt.get {α : Type} {g : Nat → Option α} {r : α} (e : Evt g r) : ∃ k, g k = some r := by
  obtain ⟨K, hK⟩ := e
  exact ⟨K, hK K (Nat.le_refl _)⟩
theorem Evt.fn {α : Type} {g : Nat → Option α} {r q : α} (e : Evt g r) (d : Evt g q) : r = q := by
  obtain ⟨K, hK⟩ := e
  obtain ⟨J, hJ⟩ := d
  exact Option.some.inj ((hK (K + J) (by omega)).symm.trans (hJ (K + J) (by omega)))
/-! ### wrap64 on small numbers -/
theorem wN (n : Nat) (h : n < 4611686018427387904) : wrap64 (n : Int) = n := by
  unfold wrap64
  omega
theorem wA (a b : Nat) (h : a + b < 4611686018427387904) : wrap64 ((a : Int) + (b : Int)) = ((a + b : Nat) : Int) := by
  rw [← Int.natCast_add]; exact wN _ h
theorem wS (a b : Nat) (h : b ≤ a) (h2 : a < 4611686018427387904) : wrap64 ((a : Int) - (b : Int)) = ((a - b : Nat) : Int) := by
  rw [← Int.natCast_sub h]; exact wN _ (by omega)
theorem wM (a b : Nat) (h : a * b < 4611686018427387904) : wrap64 ((a : Int) * (b : Int)) = ((a * b : Nat) : Int) := by
  rw [← Int.natCast_mul]; exact wN _ h
theorem wD (a b : Nat) (h : a < 4611686018427387904) : wrap64 (Int.tdiv (a : Int) (b : Int)) = ((a / b : Nat) : Int) := by
  rw [← Int.ofNat_tdiv]
  exact wN _ (Nat.lt_of_le_of_lt (Nat.div_le_self _ _) h)
/-! ### Width -/
theorem wid (j : Nat) (h : j ≤ 3838) : Evt (fun k => chaseref06_Width.f k (j : Int)) ((wd j : Nat) : Int) := by
  have st : ∀ (w m : Nat), w < 100 → m < 100000 → ∀ k, chaseref06_Width.l0 (k + 1) (j : Int) (w : Int) (m : Int) = if 258 + j > m then chaseref06_Width.l0 k (j : Int) ((w + 1 : Nat) : Int) ((m * 2 : Nat) : Int) else some (w : Int) := by
    intro w m hw hm k
    rw [chaseref06_Width.l0]
    have e1 := wA 258 j (by omega)
    have e2 := wA w 1 (by omega)
    have e3 := wM m 2 (by omega)
    simp only [Int.cast_ofNat_Int] at e1 e2 e3
    rw [e1, e2, e3]
    by_cases c : 258 + j > m
    · rw [if_pos c, if_pos (by exact_mod_cast c)]
    · rw [if_neg c, if_neg (by exact_mod_cast c)]
  have go : ∀ (w m : Nat), w < 100 → m < 100000 → ∀ {r : Int}, (258 + j > m → Evt (fun k => chaseref06_Width.l0 k (j : Int) ((w + 1 : Nat) : Int) ((m * 2 : Nat) : Int)) r) → (¬ 258 + j > m → (w : Int) = r) → Evt (fun k => chaseref06_Width.l0 k (j : Int) (w : Int) (m : Int)) r := by
    intro w m hw hm r h1 h2
    by_cases c : 258 + j > m
    · exact (h1 c).step (fun k => by rw [st w m hw hm k, if_pos c])
    · exact (Evt.const r).step (fun k => by rw [st w m hw hm k, if_neg c, h2 c])
  show Evt (fun k => chaseref06_Width.l0 k (j : Int) ((9 : Nat) : Int) ((512 : Nat) : Int)) _
  unfold wd
  refine go 9 512 (by decide) (by decide) (fun c1 => ?_) (fun c1 => by rw [if_pos (by omega)])
  rw [if_neg (by omega)]
  refine go 10 1024 (by decide) (by decide) (fun c1 => ?_) (fun c1 => by rw [if_pos (by omega)])
  rw [if_neg (by omega)]
  refine go 11 2048 (by decide) (by decide) (fun c1 => ?_) (fun c1 => by rw [if_pos (by omega)])
  rw [if_neg (by omega), if_pos (by omega)]
  refine go 12 4096 (by decide) (by decide) (fun c1 => ?_) (fun c1 => rfl)
  omega
/-! ### bits -/
theorem shr (c m i : Nat) (h : m < i) : c / 2 ^ m / 2 = c / 2 ^ (m + 1) := by rw [Nat.div_div_eq_div_mul, Nat.pow_succ]
theorem bit_at (c i : Nat) : (Int.tmod ((c / 2 ^ i : Nat) : Int) 2 == 1) = c.testBit i := by
  have e : Int.tmod ((c / 2 ^ i : Nat) : Int) 2 = ((c / 2 ^ i % 2 : Nat) : Int) := (Int.ofNat_tmod _ _).symm
  rw [e]
  unfold Nat.testBit
  rw [Nat.shiftRight_eq_div_pow, Nat.one_and_eq_mod_two]
  rcases Nat.mod_two_eq_zero_or_one (c / 2 ^ i) with h | h <;> rw [h] <;> rfl
theorem bits_in (L : List Bool) (c n : Nat) (hn : n < 1000) (hc : c < 4611686018427387904) (hL : L.length < 140737488355328) (r : List Bool)
    (e : Evt (fun k => chaseref06_bits.l0 k (L ++ [c.testBit n]) (c : Int) ((n : Int) - 1)) r) : ∀ m i, i + m = n → Evt (fun k => chaseref06_bits.l1 k L (c : Int) (n : Int) ((c / 2 ^ i : Nat) : Int) (i : Int)) r := by
  intro m
  induction m with
  | zero =>
    intro i hi
    have hi' : i = n := by omega
    subst hi'
    refine e.step (fun k => ?_)
    rw [chaseref06_bits.l1, if_neg (by omega), if_pos hL, bit_at]
    have : wrap64 ((i : Int) - 1) = (i : Int) - 1 := by unfold wrap64; omega
    rw [this]
  | succ m ih =>
    intro i hi
    refine (ih (i + 1) (by omega)).step (fun k => ?_)
    have e1 := wD (c / 2 ^ i) 2 (Nat.lt_of_le_of_lt (Nat.div_le_self _ _) hc)
    have e2 := wA i 1 (by omega)
    simp only [Int.cast_ofNat_Int] at e1 e2
    rw [chaseref06_bits.l1, if_pos (by omega), e1, e2, Nat.div_div_eq_div_mul, Nat.pow_succ]
theorem bits_lo (c : Nat) (hc : c < 4611686018427387904) : ∀ (n : Nat) (L : List Bool), n < 1000 → L.length < 140737488350000 + (1000 - n) → Evt (fun k => chaseref06_bits.l0 k L (c : Int) ((n : Int) - 1)) (L ++ bw n c) := by
  intro n
  induction n with
  | zero =>
    intro L hn hL
    refine (Evt.const _).step (fun k => ?_)
    rw [chaseref06_bits.l0, if_neg (by omega)]
    simp [bw]
  | succ n ih =>
    intro L hn hL
    have h1 := ih (L ++ [c.testBit n]) (by omega) (by simp; omega)
    rw [List.append_assoc] at h1
    have h2 := bits_in L c n (by omega) hc (by omega) _ h1 n 0 (by omega)
    rw [Nat.pow_zero, Nat.div_one] at h2
    refine h2.step (fun k => ?_)
    have e : ((n + 1 : Nat) : Int) - 1 = (n : Int) := by omega
    rw [e, chaseref06_bits.l0, if_pos (by omega)]
    rfl
theorem bits_ev (L : List Bool) (c n : Nat) (hn : n < 1000) (hc : c < 4611686018427387904) (hL : L.length < 140737488350000) : Evt (fun k => chaseref06_bits.f k L (c : Int) (n : Int)) (L ++ bw n c) := by
  refine (bits_lo c hc n L hn (by omega)).same (fun k => ?_)
  unfold chaseref06_bits.f
  have : wrap64 ((n : Int) - 1) = (n : Int) - 1 := by unfold wrap64; omega
  rw [this]
/-! ### Write -/
/-- The numbers of codes are right. -/
def NumOk : Nat → List Nat → Prop
  | _, [] => True
  | j, c :: cs => j ≤ 3838 ∧ c < 4611686018427387904 ∧ NumOk (nextJ j c) cs
def ints (cs : List Nat) : List Int := cs.map (fun (c : Nat) => (c : Int))
theorem ints_len (cs : List Nat) : (ints cs).length = cs.length := List.length_map _
theorem ints_app (a b : List Nat) : ints (a ++ b) = ints a ++ ints b := List.map_append
theorem write_codes (r : ByteArray) : ∀ (cs pre : List Nat) (j : Nat) (L : List Bool), NumOk j cs → pre.length + cs.length < 1000000 → L.length + 12 * cs.length < 100000000 →
    Evt (fun k => chaseref06_Write.l1 k (L ++ cb j cs) [] 0) r → Evt (fun k => chaseref06_Write.l0 k (ints (pre ++ cs)) L (j : Int) (pre.length : Int)) r
  | [], pre, j, L, _, hp, hL, e => by
    simp only [cb, List.append_nil] at e
    refine e.step (fun k => ?_)
    rw [chaseref06_Write.l0, if_neg (by rw [ints_len]; simp)]
  | c :: cs, pre, j, L, ⟨h1, h2, h3⟩, hp, hL, e => by
    have hj := wd_le j
    simp only [List.length_cons] at hp hL
    have ih := write_codes r cs (pre ++ [c]) (nextJ j c) (L ++ bw (wd j) c) h3 (by simp; omega) (by rw [List.length_append, bw_len]; omega) (by rw [List.append_assoc]; exact e)
    rw [List.append_assoc, List.singleton_append, List.length_append, List.length_singleton] at ih
    have er : rd (ints (pre ++ c :: cs)) (pre.length : Int) = (c : Int) := by
      unfold rd
      rw [Int.toNat_natCast, ints_app]
      rw [List.getD_eq_getElem?_getD, List.getElem?_append_right (by rw [ints_len]; exact Nat.le_refl _), ints_len, Nat.sub_self]
      rfl
    have e2 := wA pre.length 1 (by omega)
    have e3 := wA j 1 (by omega)
    simp only [Int.cast_ofNat_Int] at e2 e3
    have key := (wid j h1).bind (h := fun k t105 => (chaseref06_bits.f k L (rd (ints (pre ++ c :: cs)) (pre.length : Int)) t105).bind fun t106 => (if (rd (ints (pre ++ c :: cs)) (pre.length : Int)) = 256 then (chaseref06_Write.l0 k (ints (pre ++ c :: cs)) t106 0 (wrap64 ((pre.length : Int) + 1))) else (chaseref06_Write.l0 k (ints (pre ++ c :: cs)) t106 (wrap64 ((j : Int) + 1)) (wrap64 ((pre.length : Int) + 1))))) (r := r) (by
      simp only [er, e2, e3]
      refine (bits_ev L c (wd j) (by omega) h2 (by omega)).bind (h := fun k t106 => if (c : Int) = 256 then _ else _) ?_
      refine ih.same (fun k => ?_)
      unfold nextJ
      by_cases c1 : c = 256
      · rw [if_pos c1, if_pos (by omega)]; rfl
      · rw [if_neg c1, if_neg (by omega)])
    refine key.step (fun k => ?_)
    rw [chaseref06_Write.l0, if_pos (by rw [ints_len]; simp; omega), if_pos (by omega)]
/-- The octets of bits, the last ones filled up with 0. -/
def IsPack (T : List Int) (L : List Bool) : Prop := Oct T ∧ ∃ p, p < 8 ∧ obits T = L ++ bw p 0

theorem pack_len {T : List Int} {L : List Bool} (h : IsPack T L) : L.length ≤ 8 * T.length ∧ 8 * T.length < L.length + 8 := by
  obtain ⟨_, p, hp, h2⟩ := h
  have := congrArg List.length h2
  rw [obits_len, List.length_append, bw_len] at this
  omega
theorem bw_get (n c i : Nat) (h : i < n) : (bw n c)[i]? = some (c.testBit (n - 1 - i)) := by
  induction n generalizing i with
  | zero => omega
  | succ n ih =>
    cases i with
    | zero => simp [bw]
    | succ i =>
      simp only [bw, List.getElem?_cons_succ]
      rw [ih i (by omega)]
      congr 2
      omega
theorem obits_get : ∀ (T : List Int) (m q : Nat), m < T.length → q < 8 → (obits T)[8 * m + q]? = some ((T.getD m 0).toNat.testBit (7 - q))
  | [], m, q, hm, hq => by simp at hm
  | c :: T, 0, q, hm, hq => by
    rw [obits_cons, List.getElem?_append_left (by rw [bw_len]; omega), Nat.mul_zero, Nat.zero_add, bw_get 8 _ q hq]
    rfl
  | c :: T, m + 1, q, hm, hq => by
    simp only [List.length_cons] at hm
    rw [obits_cons, List.getElem?_append_right (by rw [bw_len]; omega), bw_len, show 8 * (m + 1) + q - 8 = 8 * m + q by omega, obits_get T m q (by omega) hq]
    rfl
theorem pack_bit {T : List Int} {L : List Bool} (h : IsPack T L) (m q : Nat) (hm : m < T.length) (hq : q < 8) :
    (8 * m + q < L.length → L.getD (8 * m + q) false = (T.getD m 0).toNat.testBit (7 - q)) ∧ (¬ 8 * m + q < L.length → (T.getD m 0).toNat.testBit (7 - q) = false) := by
  have g := obits_get T m q hm hq
  have hl := pack_len h
  obtain ⟨_, p, hp, h2⟩ := h
  rw [h2] at g
  constructor
  · intro c
    rw [List.getElem?_append_left c] at g
    rw [List.getD_eq_getElem?_getD, g]
    rfl
  · intro c
    rw [List.getElem?_append_right (by omega)] at g
    have hz : ∀ (n : Nat), ∀ b ∈ bw n 0, b = false := by
      intro n
      induction n with
      | zero => intro b hb; simp [bw] at hb
      | succ n ih => intro b hb; simp only [bw, List.mem_cons, Nat.zero_testBit] at hb; exact hb.elim id (ih b)
    exact hz _ _ (List.mem_of_getElem? g)
theorem top_bit (t q : Nat) (hq : q < 8) : t / 2 ^ (8 - (q + 1)) = t / 2 ^ (8 - q) * 2 + (if t.testBit (7 - q) then 1 else 0) := by
  have e : t / 2 ^ (8 - q) = t / 2 ^ (7 - q) / 2 := by rw [Nat.div_div_eq_div_mul, ← Nat.pow_succ, show (7 - q).succ = 8 - q by omega]
  rw [e, show 8 - (q + 1) = 7 - q by omega]
  have h : t.testBit (7 - q) = decide (t / 2 ^ (7 - q) % 2 = 1) := by
    unfold Nat.testBit
    rw [Nat.shiftRight_eq_div_pow, Nat.one_and_eq_mod_two]
    rcases Nat.mod_two_eq_zero_or_one (t / 2 ^ (7 - q)) with h | h <;> rw [h] <;> rfl
  rw [h]
  generalize t / 2 ^ (7 - q) = u
  by_cases c : u % 2 = 1
  · simp only [c, decide_true, if_true]; omega
  · simp only [c, decide_false, Bool.false_eq_true, if_false]; omega
theorem pack_in {T : List Int} {L : List Bool} (h : IsPack T L) (hT : T.length < 100000000) (m : Nat) (hm : m < T.length) (r : ByteArray)
    (e : Evt (fun k => chaseref06_Write.l1 k L (T.take (m + 1)) ((8 * (m + 1) : Nat) : Int)) r) : ∀ n q, q + n = 8 →
    Evt (fun k => chaseref06_Write.l2 k L (T.take m) ((8 * m : Nat) : Int) (((T.getD m 0).toNat / 2 ^ (8 - q) : Nat) : Int) ((8 * m + q : Nat) : Int)) r := by
  have ho : 0 ≤ T.getD m 0 ∧ T.getD m 0 < 256 := by
    rw [List.getD_eq_getElem?_getD, List.getElem?_eq_getElem hm]
    exact h.1 _ (List.getElem_mem hm)
  have e8 := wA (8 * m) 8 (by omega)
  simp only [Int.cast_ofNat_Int] at e8
  intro n
  induction n with
  | zero =>
    intro q hq
    have hq' : q = 8 := by omega
    subst hq'
    refine e.step (fun k => ?_)
    have c1 : ¬ ((8 * m + 8 : Nat) : Int) < ((8 * m + 8 : Nat) : Int) := by omega
    have c2 : (T.take m).length < 140737488355328 := by rw [List.length_take]; omega
    have e3 : T.take m ++ [(((T.getD m 0).toNat / 2 ^ (8 - 8) : Nat) : Int) % 256] = T.take (m + 1) := by
      rw [Nat.sub_self, Nat.pow_zero, Nat.div_one, List.take_add_one, List.getElem?_eq_getElem hm]
      rw [List.getD_eq_getElem?_getD, List.getElem?_eq_getElem hm] at ho ⊢
      simp only [Option.getD_some, Option.toList_some] at ho ⊢
      rw [Int.toNat_of_nonneg ho.1, Int.emod_eq_of_lt ho.1 ho.2]
    rw [chaseref06_Write.l2, e8, if_neg c1, if_pos c2, e3]
    rfl
  | succ n ih =>
    intro q hq
    have hb := pack_bit h m q hm (by omega)
    have ht := top_bit (T.getD m 0).toNat q (by omega)
    have hsm : (T.getD m 0).toNat / 2 ^ (8 - q) < 256 := Nat.lt_of_le_of_lt (Nat.div_le_self _ _) (by omega)
    have ih' := ih (q + 1) (by omega)
    rw [ht] at ih'
    generalize hu : (T.getD m 0).toNat / 2 ^ (8 - q) = u at ih' hsm ⊢
    have c1 : ((8 * m + q : Nat) : Int) < ((8 * m + 8 : Nat) : Int) := by clear e8; omega
    have c0 : (0 : Int) ≤ ((8 * m + q : Nat) : Int) := Int.natCast_nonneg _
    have d1 : u * 2 < 4611686018427387904 := by clear e8; omega
    have d2 : u * 2 + 1 < 4611686018427387904 := by clear e8; omega
    have d3 : 8 * m + q + 1 < 4611686018427387904 := by clear e8; omega
    have e1 := wM u 2 d1
    have e2 := wA (u * 2) 1 d2
    have e3 := wA (8 * m + q) 1 d3
    simp only [Int.cast_ofNat_Int] at e1 e2 e3
    refine ih'.step (fun k => ?_)
    rw [chaseref06_Write.l2, e8, if_pos c1, e1, e2, e3]
    clear e1 e2 e3 e8 d1 d2 d3
    by_cases c2 : 8 * m + q < L.length
    · rw [if_pos (Int.ofNat_lt.2 c2), if_pos c0]
      have := hb.1 c2
      unfold rdOf
      rw [Int.toNat_natCast, this]
      cases (T.getD m 0).toNat.testBit (7 - q) <;> rfl
    · rw [if_neg (fun hh => c2 (Int.ofNat_lt.1 hh)), hb.2 c2]
      rfl
theorem pack_ev {T : List Int} {L : List Bool} (h : IsPack T L) (hT : T.length < 100000000) : ∀ n m, m + n = T.length → Evt (fun k => chaseref06_Write.l1 k L (T.take m) ((8 * m : Nat) : Int)) (strOfNums T) := by
  have hl := pack_len h
  intro n
  induction n with
  | zero =>
    intro m hm
    have hm' : m = T.length := by omega
    subst hm'
    refine (Evt.const _).step (fun k => ?_)
    rw [chaseref06_Write.l1, if_neg (by omega), List.take_length]
  | succ n ih =>
    intro m hm
    have h1 := pack_in h hT m (by omega) _ (ih (m + 1) (by omega)) 8 0 rfl
    have e0 : (T.getD m 0).toNat / 2 ^ (8 - 0) = 0 := by
      apply Nat.div_eq_of_lt
      have : T.getD m 0 < 256 := by
        rw [List.getD_eq_getElem?_getD, List.getElem?_eq_getElem (by omega)]
        exact (h.1 _ (List.getElem_mem (by omega))).2
      have h0 : (2 : Nat) ^ (8 - 0) = 256 := by decide
      omega
    rw [e0] at h1
    refine h1.step (fun k => ?_)
    rw [chaseref06_Write.l1, if_pos (by omega)]
    rfl
theorem write_ev {cs : List Nat} {T : List Int} (h : NumOk 0 cs) (hc : cs.length < 1000000) (hT : IsPack T (cb 0 cs)) : Evt (fun k => chaseref06_Write.f k (ints cs)) (strOfNums T) := by
  have hl := pack_len hT
  have hb := cb_len cs 0
  have h1 := pack_ev hT (by omega) T.length 0 (by omega)
  have h2 := write_codes (strOfNums T) cs [] 0 [] h (by simp; omega) (by simp; omega) (h1.same (fun k => by simp))
  exact h2
end Go.Proofs.Ytfkiacbjiledcaa.R06
