/- Laws of the plain codes of chapter 06: the reader reads what the writer wrote; the decoder undoes the coder. -/
import Derived.Test.YtfkiacbjiledcaaK06
namespace Go.Proofs.Ytfkiacbjiledcaa.L06
open Go.RowKit Go.Proofs.YtfkiacbjiledcaaW.PrintWords Go.Proofs.YtfkiacbjiledcaaW.PrintLast Go.Proofs.YtfkiacbjiledcaaW.PrintMore
open Go.Proofs.Ytfkiacbjiledcaa.K06
set_option linter.unusedVariables false
set_option maxRecDepth 100000
/-! ### Bits -/
def bw : Nat → Nat → List Bool
  | 0, _ => []
  | n + 1, c => c.testBit n :: bw n c
theorem bw_len (n c : Nat) : (bw n c).length = n := by
  induction n with
  | zero => rfl
  | succ n ih => simp [bw, ih]
theorem bw_congr (n a b : Nat) (h : ∀ i, i < n → a.testBit i = b.testBit i) : bw n a = bw n b := by
  induction n with
  | zero => rfl
  | succ n ih => simp only [bw]; rw [h n (by omega), ih (fun i hi => h i (by omega))]
theorem bw_bits (n a b : Nat) (h : bw n a = bw n b) : ∀ i, i < n → a.testBit i = b.testBit i := by
  induction n with
  | zero => intro i hi; omega
  | succ n ih =>
    simp only [bw, List.cons.injEq] at h
    intro i hi
    by_cases e : i = n
    · rw [e]; exact h.1
    · exact ih h.2 i (by omega)
theorem bw_inj {n a b : Nat} (ha : a < 2 ^ n) (hb : b < 2 ^ n) (h : bw n a = bw n b) : a = b := by
  apply Nat.eq_of_testBit_eq
  intro i
  by_cases hi : i < n
  · exact bw_bits n a b h i hi
  · rw [Nat.testBit_lt_two_pow (Nat.lt_of_lt_of_le ha (Nat.pow_le_pow_right (by decide) (by omega))), Nat.testBit_lt_two_pow (Nat.lt_of_lt_of_le hb (Nat.pow_le_pow_right (by decide) (by omega)))]
theorem bw_mod (n k c : Nat) (h : n ≤ k) : bw n (c % 2 ^ k) = bw n c := by
  apply bw_congr
  intro i hi
  rw [Nat.testBit_mod_two_pow]
  simp [show i < k by omega]
theorem bw_split (m n a b : Nat) (hb : b < 2 ^ n) : bw (m + n) (a * 2 ^ n + b) = bw m a ++ bw n b := by
  have key : ∀ i, (a * 2 ^ n + b).testBit i = if i < n then b.testBit i else a.testBit (i - n) := by
    intro i
    rw [Nat.mul_comm]
    exact Nat.testBit_two_pow_mul_add a hb i
  induction m with
  | zero =>
    rw [Nat.zero_add]
    simp only [bw, List.nil_append]
    apply bw_congr
    intro i hi
    rw [key, if_pos hi]
  | succ m ih =>
    rw [show m + 1 + n = (m + n) + 1 by omega]
    simp only [bw, List.cons_append]
    rw [ih, key, if_neg (by omega), show m + n - n = m by omega]
def obits (l : List Int) : List Bool := l.flatMap (fun c => bw 8 c.toNat)
theorem obits_app (a b : List Int) : obits (a ++ b) = obits a ++ obits b := by unfold obits; rw [List.flatMap_append]
theorem obits_cons (c : Int) (l : List Int) : obits (c :: l) = bw 8 c.toNat ++ obits l := rfl
theorem obits_one (c : Int) : obits [c] = bw 8 c.toNat := by unfold obits; simp
theorem obits_len (l : List Int) : (obits l).length = 8 * l.length := by
  induction l with
  | nil => rfl
  | cons c l ih => rw [obits_cons, List.length_append, ih, bw_len, List.length_cons]; omega
theorem app_inj {α : Type} {a b c d : List α} (h : a ++ b = c ++ d) (hl : a.length = c.length) : a = c ∧ b = d := List.append_inj h hl
theorem obits_inj : ∀ {a b : List Int}, Oct a → Oct b → obits a = obits b → a = b
  | [], [], _, _, _ => rfl
  | [], c :: b, _, _, h => by have := congrArg List.length h; rw [obits_len, obits_len] at this; simp at this
  | c :: a, [], _, _, h => by have := congrArg List.length h; rw [obits_len, obits_len] at this; simp at this
  | c :: a, d :: b, ha, hb, h => by
    rw [obits_cons, obits_cons] at h
    obtain ⟨h1, h2⟩ := app_inj h (by rw [bw_len, bw_len])
    have hc := ha c List.mem_cons_self
    have hd := hb d List.mem_cons_self
    have e := bw_inj (n := 8) (by omega) (by omega) h1
    have := obits_inj (fun x hx => ha x (List.mem_cons_of_mem _ hx)) (fun x hx => hb x (List.mem_cons_of_mem _ hx)) h2
    rw [this, show c = d by omega]
/-! ### The writer -/
def bitsW (w : Wr) : List Bool := obits w.out ++ bw w.held w.bits
structure Wok (w : Wr) : Prop where
  held : w.held < 8
  bits : w.bits < 2 ^ w.held
  oct : Oct w.out
theorem flush_ok : ∀ (f : Nat) (out : List Int) (bits held : Nat), bits < 2 ^ held → held < 8 * f + 8 → Oct out →
    obits (flushN f out bits held).1 ++ bw (flushN f out bits held).2.2 (flushN f out bits held).2.1 = obits out ++ bw held bits ∧ (flushN f out bits held).2.2 < 8 ∧ (flushN f out bits held).2.1 < 2 ^ (flushN f out bits held).2.2 ∧ Oct (flushN f out bits held).1
  | 0, out, bits, held, hb, hh, ho => ⟨rfl, (by show held < 8; omega), hb, ho⟩
  | f + 1, out, bits, held, hb, hh, ho => by
    unfold flushN
    by_cases h : held < 8
    · rw [if_pos h]
      exact ⟨rfl, h, hb, ho⟩
    · rw [if_neg h]
      have hp : 0 < 2 ^ (held - 8) := Nat.pow_pos (by decide)
      obtain ⟨k1, k2, k3, k4⟩ := flush_ok f (out ++ [((bits / 2 ^ (held - 8) % 256 : Nat) : Int)]) (bits % 2 ^ (held - 8)) (held - 8) (Nat.mod_lt _ hp) (by omega) (ho.app (Oct.one (by omega) (by omega)))
      refine ⟨?_, k2, k3, k4⟩
      rw [k1, obits_app, obits_one, List.append_assoc]
      congr 1
      have e1 : (((bits / 2 ^ (held - 8) % 256 : Nat) : Int)).toNat = bits / 2 ^ (held - 8) % 2 ^ 8 := Int.toNat_natCast _
      rw [e1, bw_mod 8 8 _ (Nat.le_refl _), ← bw_split 8 (held - 8) _ _ (Nat.mod_lt _ hp)]
      rw [show 8 + (held - 8) = held by omega, Nat.mul_comm, Nat.div_add_mod]
theorem put_ok {w : Wr} {c : Nat} (h : Wok w) (hj : w.j ≤ 3838) (hc : c ≤ 257 + w.j) : Wok (putW w c) ∧ bitsW (putW w c) = bitsW w ++ bw (wd w.j) c := by
  have hcw := wd_fits hj hc
  have hwl := wd_le w.j
  have hb : w.bits * 2 ^ wd w.j + c < 2 ^ (w.held + wd w.j) := by
    rw [Nat.pow_add]
    have : (w.bits + 1) * 2 ^ wd w.j ≤ 2 ^ w.held * 2 ^ wd w.j := Nat.mul_le_mul_right _ h.bits
    rw [Nat.add_mul] at this
    omega
  obtain ⟨k1, k2, k3, k4⟩ := flush_ok 3 w.out (w.bits * 2 ^ wd w.j + c) (w.held + wd w.j) hb (by have := h.held; omega) h.oct
  refine ⟨⟨k2, k3, k4⟩, ?_⟩
  unfold bitsW putW
  simp only
  rw [k1, bw_split _ _ _ _ hcw, List.append_assoc]
/-- The bits of codes. -/
def cb : Nat → List Nat → List Bool
  | _, [] => []
  | j, c :: cs => bw (wd j) c ++ cb (nextJ j c) cs
/-- Codes that end. -/
def Val : Nat → List Nat → Prop
  | _, [] => False
  | j, c :: cs => j ≤ 3838 ∧ c ≤ 257 + j ∧ (c = 257 ∧ cs = [] ∨ c ≠ 257 ∧ Val (nextJ j c) cs)
theorem fold_ok : ∀ (cs : List Nat) (w : Wr), Wok w → Val w.j cs → Wok (cs.foldl putW w) ∧ bitsW (cs.foldl putW w) = bitsW w ++ cb w.j cs
  | [], w, h, v => v.elim
  | c :: cs, w, h, ⟨h1, h2, h3⟩ => by
    obtain ⟨k1, k2⟩ := put_ok h h1 h2
    rw [List.foldl_cons]
    rcases h3 with ⟨rfl, rfl⟩ | ⟨hc, hv⟩
    · exact ⟨k1, by rw [List.foldl_nil, k2]; simp [cb]⟩
    · obtain ⟨g1, g2⟩ := fold_ok cs (putW w c) k1 hv
      exact ⟨g1, by rw [g2, k2, List.append_assoc]; rfl⟩
theorem bw_zero_shift (n p b : Nat) : bw (n + p) (b * 2 ^ p) = bw n b ++ bw p 0 := by
  have := bw_split n p b 0 (Nat.pow_pos (by decide))
  simpa using this
theorem close_ok {w : Wr} (h : Wok w) : Oct (closeW w) ∧ ∃ p, p < 8 ∧ obits (closeW w) = bitsW w ++ bw p 0 := by
  unfold closeW
  by_cases h0 : 0 < w.held
  · rw [if_pos h0]
    have hh := h.held
    refine ⟨h.oct.app (Oct.one (by omega) (by omega)), 8 - w.held, by omega, ?_⟩
    unfold bitsW
    rw [obits_app, obits_one, List.append_assoc, ← bw_zero_shift, show w.held + (8 - w.held) = 8 by omega]
    congr 1
    have e1 : (((w.bits * 2 ^ (8 - w.held) % 256 : Nat) : Int)).toNat = w.bits * 2 ^ (8 - w.held) % 2 ^ 8 := Int.toNat_natCast _
    rw [e1, bw_mod 8 8 _ (Nat.le_refl _)]
  · rw [if_neg h0]
    refine ⟨h.oct, 0, by decide, ?_⟩
    unfold bitsW
    have e : w.held = 0 := by omega
    rw [e]
    simp [bw]
theorem cb_len : ∀ (cs : List Nat) (j : Nat), (cb j cs).length ≤ 12 * cs.length
  | [], j => by simp [cb]
  | c :: cs, j => by
    have := cb_len cs (nextJ j c)
    have := wd_le j
    simp only [cb, List.length_append, bw_len, List.length_cons]
    omega
/-! ### The reader -/
def rem (l : List Int) (r : Rs) : List Bool := bw r.held r.bits ++ obits (l.drop r.at_)
structure Rok (l : List Int) (r : Rs) : Prop where
  held : r.held < 8
  bits : r.bits < 2 ^ r.held
  at_ : r.at_ ≤ l.length
theorem rem_len (l : List Int) (r : Rs) : (rem l r).length = r.held + 8 * (l.length - r.at_) := by
  unfold rem
  rw [List.length_append, bw_len, obits_len, List.length_drop]
theorem fill_ok (l : List Int) (ho : Oct l) (n : Nat) : ∀ (f : Nat) (r q : Rs), r.bits < 2 ^ r.held → r.at_ ≤ l.length → r.held < n + 8 → fillN f l n r = some q →
    rem l q = rem l r ∧ q.bits < 2 ^ q.held ∧ q.at_ ≤ l.length ∧ n ≤ q.held ∧ q.held < n + 8
  | 0, r, q, hb, ha, hh, he => by
    unfold fillN at he
    split at he
    · cases he; exact ⟨rfl, hb, ha, by assumption, hh⟩
    · cases he
  | f + 1, r, q, hb, ha, hh, he => by
    unfold fillN at he
    by_cases hn : n ≤ r.held
    · rw [if_pos hn] at he; cases he; exact ⟨rfl, hb, ha, hn, hh⟩
    · rw [if_neg hn] at he
      cases hc : l[r.at_]? with
      | none => rw [hc] at he; cases he
      | some c =>
        rw [hc] at he
        simp only at he
        obtain ⟨hlt, hcv⟩ := List.getElem?_eq_some_iff.1 hc
        have hco := ho c (hcv ▸ List.getElem_mem hlt)
        have hb2 : r.bits * 256 + c.toNat < 2 ^ (r.held + 8) := by rw [Nat.pow_add]; omega
        obtain ⟨k1, k2, k3, k4, k5⟩ := fill_ok l ho n f ⟨r.at_ + 1, r.bits * 256 + c.toNat, r.held + 8⟩ q hb2 hlt (by simp only; omega) he
        refine ⟨?_, k2, k3, k4, k5⟩
        rw [k1]
        unfold rem
        simp only
        rw [show (256 : Nat) = 2 ^ 8 from rfl, bw_split _ _ _ _ (by omega), List.append_assoc, List.drop_eq_getElem_cons hlt, obits_cons, hcv]
theorem fill_some (l : List Int) (n : Nat) : ∀ (f : Nat) (r : Rs), n ≤ r.held + 8 * f → n ≤ (rem l r).length → ∃ q, fillN f l n r = some q
  | 0, r, hf, hl => ⟨r, by unfold fillN; rw [if_pos (by omega)]⟩
  | f + 1, r, hf, hl => by
    unfold fillN
    by_cases hn : n ≤ r.held
    · exact ⟨r, by rw [if_pos hn]⟩
    · rw [if_neg hn]
      rw [rem_len] at hl
      have hlt : r.at_ < l.length := by omega
      rw [List.getElem?_eq_getElem hlt]
      simp only
      exact fill_some l n f _ (by simp only; omega) (by rw [rem_len]; simp only; omega)
theorem read_ok {l : List Int} (ho : Oct l) {j : Nat} {r : Rs} (hr : Rok l r) {c : Nat} {q : Rs} (h : readR l j r = some (c, q)) : rem l r = bw (wd j) c ++ rem l q ∧ c < 2 ^ wd j ∧ Rok l q ∧ 9 ≤ wd j := by
  unfold readR at h
  by_cases hw : wd j = 0
  · rw [if_pos hw] at h; cases h
  · rw [if_neg hw] at h
    cases hf : fillN 2 l (wd j) r with
    | none => rw [hf] at h; cases h
    | some p =>
      rw [hf] at h
      simp only [Option.some.injEq, Prod.mk.injEq] at h
      obtain ⟨rfl, rfl⟩ := h
      obtain ⟨k1, k2, k3, k4, k5⟩ := fill_ok l ho (wd j) 2 r p hr.bits hr.at_ (by have := hr.held; omega) hf
      have hp : 0 < 2 ^ (p.held - wd j) := Nat.pow_pos (by decide)
      refine ⟨?_, ?_, ⟨by simp only; omega, Nat.mod_lt _ hp, k3⟩, wd_ge hw⟩
      · rw [← k1]
        unfold rem
        simp only
        rw [← List.append_assoc, ← bw_split _ _ _ _ (Nat.mod_lt _ hp), Nat.mul_comm, Nat.div_add_mod, show wd j + (p.held - wd j) = p.held by omega]
      · rw [Nat.div_lt_iff_lt_mul hp, ← Nat.pow_add, show wd j + (p.held - wd j) = p.held by omega]
        exact k2
theorem read_of {l : List Int} (ho : Oct l) {j : Nat} {r : Rs} (hr : Rok l r) (hj : wd j ≠ 0) {c : Nat} {T : List Bool} (hc : c < 2 ^ wd j) (h : rem l r = bw (wd j) c ++ T) : ∃ q, readR l j r = some (c, q) ∧ rem l q = T ∧ Rok l q := by
  have hl := wd_le j
  obtain ⟨p, hp⟩ := fill_some l (wd j) 2 r (by omega) (by rw [h, List.length_append, bw_len]; omega)
  have hq : readR l j r = some (p.bits / 2 ^ (p.held - wd j), ⟨p.at_, p.bits % 2 ^ (p.held - wd j), p.held - wd j⟩) := by
    unfold readR
    rw [if_neg hj, hp]
  obtain ⟨k1, k2, k3, _⟩ := read_ok ho hr hq
  rw [h] at k1
  obtain ⟨e1, e2⟩ := app_inj k1 (by rw [bw_len, bw_len])
  have e := bw_inj hc k2 e1
  exact ⟨_, by rw [hq, e], e2.symm, k3⟩
theorem read_none {l : List Int} (ho : Oct l) {j : Nat} {r : Rs} (hr : Rok l r) (h : (rem l r).length < wd j) : readR l j r = none := by
  cases hq : readR l j r with
  | none => rfl
  | some p =>
    obtain ⟨c, q⟩ := p
    obtain ⟨k1, _⟩ := read_ok ho hr hq
    rw [k1, List.length_append, bw_len] at h
    omega
/-! ### Codes that were written are read -/
def runC : Nat → List Nat → Ds → Ds
  | _, [], d => d
  | j, c :: cs, d => match stepD d j c with
    | none => d
    | some d' => runC (nextJ j c) cs d'
theorem step_some (d : Ds) (j c : Nat) (h1 : c ≠ 257) (h2 : c ≤ 257 + j) : ∃ d', stepD d j c = some d' := by
  unfold stepD
  rw [if_neg h1]
  split
  · exact ⟨_, rfl⟩
  · rw [if_neg (by omega)]
    split
    · exact ⟨_, rfl⟩
    · split
      · exact ⟨_, rfl⟩
      · exact ⟨_, rfl⟩
theorem dec_codes {l : List Int} (ho : Oct l) {T : List Bool} : ∀ (cs : List Nat) (f j : Nat) (r : Rs) (d : Ds), Val j cs → rem l r = cb j cs ++ T → Rok l r → cs.length ≤ f →
    ∃ q, expandR (items f l j r) d = ((runC j cs d).out, (runC j cs d).total, q.bits == 0, q.at_) ∧ rem l q = T ∧ Rok l q
  | [], f, j, r, d, v, _, _, _ => v.elim
  | c :: cs, 0, j, r, d, _, _, _, hf => by simp at hf
  | c :: cs, f + 1, j, r, d, ⟨h1, h2, h3⟩, hr, hk, hf => by
    have hw := wd_pos h1
    simp only [cb] at hr
    rw [List.append_assoc] at hr
    obtain ⟨q, hq, hT, hok⟩ := read_of ho hk (by omega) (wd_fits h1 h2) hr
    unfold items
    rw [hq]
    simp only
    rcases h3 with ⟨rfl, rfl⟩ | ⟨hc, hv⟩
    · rw [if_pos rfl]
      refine ⟨q, ?_, by simpa [cb] using hT, hok⟩
      simp [expandR, runC, stepD]
    · rw [if_neg hc]
      obtain ⟨d', hd⟩ := step_some d j c hc h2
      simp only [expandR, runC, hd]
      exact dec_codes ho cs f (nextJ j c) q d' hv hT hok (by simpa using hf)
theorem dec_part {l : List Int} (ho : Oct l) {D : List Bool} (hD : D ≠ []) : ∀ (cs : List Nat) (f j : Nat) (r : Rs) (d : Ds), Val j cs → rem l r ++ D = cb j cs → Rok l r →
    (expandR (items f l j r) d).2.2.1 = false
  | [], f, j, r, d, v, _, _ => v.elim
  | c :: cs, 0, j, r, d, _, _, _ => by simp [items, expandR]
  | c :: cs, f + 1, j, r, d, ⟨h1, h2, h3⟩, hr, hk => by
    have hw := wd_pos h1
    simp only [cb] at hr
    by_cases hl : (rem l r).length < wd j
    · unfold items
      rw [read_none ho hk hl]
      simp [expandR]
    · -- the whole code is there
      have e1 : rem l r = bw (wd j) c ++ (rem l r).drop (wd j) := by
        have e0 := congrArg (List.take (wd j)) hr
        have e2 : (bw (wd j) c ++ cb (nextJ j c) cs).take (wd j) = bw (wd j) c := by
          rw [List.take_append_of_le_length (by rw [bw_len]; exact Nat.le_refl _), List.take_of_length_le (by rw [bw_len]; exact Nat.le_refl _)]
        rw [e2, List.take_append_of_le_length (by omega)] at e0
        rw [← e0, List.take_append_drop]
      obtain ⟨q, hq, hT, hok⟩ := read_of ho hk (by omega) (wd_fits h1 h2) e1
      have e2 : rem l q ++ D = cb (nextJ j c) cs := by
        rw [e1, List.append_assoc, ← hT] at hr
        exact (app_inj hr rfl).2
      unfold items
      rw [hq]
      simp only
      rcases h3 with ⟨rfl, rfl⟩ | ⟨hc, hv⟩
      · simp [cb] at e2
        exact absurd e2.2 hD
      · rw [if_neg hc]
        obtain ⟨d', hd⟩ := step_some d j c hc h2
        simp only [expandR, hd]
        exact dec_part ho hD cs f (nextJ j c) q d' hv e2 hok
end Go.Proofs.Ytfkiacbjiledcaa.L06
