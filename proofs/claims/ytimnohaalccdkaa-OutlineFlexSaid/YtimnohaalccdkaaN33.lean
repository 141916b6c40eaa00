/- The heads of charstrings (chapter 33): number and code of the program against readN and codeN. -/
import Derived.Test.YtimnohaalccdkaaO33
namespace Go.Proofs.Ytimnohaalccdkaa.N33
open Go.Proofs.Ytimnohaalccdkaa Go.Proofs.Ytimnohaalccdkaa.K33 Go.Proofs.Ytimnohaalccdkaa.M33 Go.Proofs.Ytimnohaalccdkaa.G33a Go.Proofs.Ytimnohaalccdkaa.O33 Go.Proofs.Ytimnohaalccdkaa.P33a
open Go.RowKit Go.Proofs.YtimnohaalccdkaaW.PrintWords Go.Proofs.YtimnohaalccdkaaW.PrintLast Go.Proofs.YtimnohaalccdkaaW.PrintMore
set_option linter.unusedVariables false
set_option linter.unusedSimpArgs false
set_option maxRecDepth 100000
theorem bt_of {s : ByteArray} {l : List Int} (h : bytesOf s = l) (i : Nat) : bt s (i : Int) = l.getD i 0 := by
  rw [← rd_bytesOf, h]; unfold rd; simp
theorem wraps_u32 (n : Int) (h₀ : 0 ≤ n) (h₁ : n < 2 ^ 32) : IntKind.u32.wrap n = n := by rw [IntKind.wrap_u32]; omega
theorem or24 (x y : Int) (h0 : 0 ≤ x) (h1 : x < 4294967296) (h2 : x % 16777216 = 0) (h3 : 0 ≤ y) (h4 : y < 16777216) : bits .or .u32 x y = x + y := bits_join .u32 32 (by decide) wraps_u32 24 x y h0 h2 (by omega) h3 h4 (by omega)
theorem or16 (x y : Int) (h0 : 0 ≤ x) (h1 : x < 4294967296) (h2 : x % 65536 = 0) (h3 : 0 ≤ y) (h4 : y < 65536) : bits .or .u32 x y = x + y := bits_join .u32 32 (by decide) wraps_u32 16 x y h0 h2 (by omega) h3 h4 (by omega)
theorem or8 (x y : Int) (h0 : 0 ≤ x) (h1 : x < 4294967296) (h2 : x % 256 = 0) (h3 : 0 ≤ y) (h4 : y < 256) : bits .or .u32 x y = x + y := bits_join .u32 32 (by decide) wraps_u32 8 x y h0 h2 (by omega) h3 h4 (by omega)
theorem four (a b c d : Int) (ha : 0 ≤ a ∧ a < 256) (hb : 0 ≤ b ∧ b < 256) (hc : 0 ≤ c ∧ c < 256) (hd : 0 ≤ d ∧ d < 256) :
    wrap64 (wrap32 (Go.bits .or .u32 (Go.bits .or .u32 (Go.bits .or .u32 (((a % 4294967296) * 16777216) % 4294967296) (((b % 4294967296) * 65536) % 4294967296)) (((c % 4294967296) * 256) % 4294967296)) (d % 4294967296))) = sgn32 (((a * 256 + b) * 256 + c) * 256 + d) := by
  have e1 : ((a % 4294967296) * 16777216) % 4294967296 = a * 16777216 := by omega
  have e2 : ((b % 4294967296) * 65536) % 4294967296 = b * 65536 := by omega
  have e3 : ((c % 4294967296) * 256) % 4294967296 = c * 256 := by omega
  have e4 : d % 4294967296 = d := by omega
  rw [e1, e2, e3, e4, or24 (a * 16777216) (b * 65536) (by omega) (by omega) (by omega) (by omega) (by omega), or16 (a * 16777216 + b * 65536) (c * 256) (by omega) (by omega) (by omega) (by omega) (by omega), or8 (a * 16777216 + b * 65536 + c * 256) d (by omega) (by omega) (by omega) (by omega) (by omega)]
  unfold sgn32 wrap64 wrap32
  split <;> omega
/-- What the program's readers return. -/
def headV (n : Nat) : Option (Int × List Int) → Int × Int
  | none => (0, 0)
  | some (v, r) => (v, (n : Int) - r.length)
theorem wid {x : Int} (h0 : -9223372036854775808 ≤ x) (h1 : x < 9223372036854775808) : wrap64 x = x := by unfold wrap64; omega
theorem number_eq (s : ByteArray) (h : 0 < s.size) : outline_number.f 4 s = some (headV s.size (readN (bytesOf s))) := by
  have hl := bytesOf_len s
  have ho := bytesOf_range s
  obtain ⟨l, hl'⟩ : ∃ l, bytesOf s = l := ⟨_, rfl⟩
  have b0 : bt s 0 = l.getD 0 0 := bt_of hl' 0
  have b1 : bt s 1 = l.getD 1 0 := bt_of hl' 1
  have b2 : bt s 2 = l.getD 2 0 := bt_of hl' 2
  have b3 : bt s 3 = l.getD 3 0 := bt_of hl' 3
  have b4 : bt s 4 = l.getD 4 0 := bt_of hl' 4
  rw [hl'] at hl ho ⊢
  clear hl'
  obtain ⟨v, r, rfl⟩ : ∃ v r, l = v :: r := by
    rcases l with _ | ⟨v, r⟩
    · simp at hl; omega
    · exact ⟨v, r, rfl⟩
  have hv := ho v (by simp)
  have e0 : bt s 0 = v := b0
  have ev : wrap64 (bt s 0) = v := by rw [e0]; exact wid (by omega) (by omega)
  have e1 : bt s 1 = r.getD 0 0 := b1
  have hs0 : 0 < (s.size : Int) := by omega
  have hsr : (s.size : Int) = 1 + r.length := by rw [← hl]; simp; omega
  unfold outline_number.f
  rw [if_pos hs0, ev]
  by_cases c1 : v < 32
  · rw [if_neg (by omega)]
    simp only [outline_number.j0, outline_number.j1, outline_number.j2]
    simp only [show ¬ v ≥ 247 by omega, show ¬ v ≥ 251 by omega, show ¬ v = 255 by omega, if_false, Bool.false_eq_true]
    simp [readN, c1, headV]
  rw [if_pos (by omega)]
  by_cases c2 : v ≤ 246
  · simp only [outline_number.j0, c2, decide_true, if_true]
    simp [readN, c1, c2, headV, wid (x := v - 139) (by omega) (by omega)]
    omega
  have d2 : decide (v ≤ 246) = false := decide_eq_false c2
  rw [d2]
  by_cases c3 : v ≤ 250
  · rcases r with _ | ⟨b, r⟩
    · have hd : decide ((s.size : Int) > 1) = false := decide_eq_false (by rw [hsr]; simp)
      simp only [outline_number.j0, outline_number.j1, outline_number.j2, hd, show v ≥ 247 by omega, c3, show ¬ v ≥ 251 by omega, show ¬ v = 255 by omega, if_false, if_true, Bool.false_eq_true]
      simp [readN, c1, c2, c3, headV]
    · have hb := ho b (by simp)
      have hd : decide ((s.size : Int) > 1) = true := decide_eq_true (by rw [hsr]; simp; omega)
      have hd2 : 1 < (s.size : Int) := by rw [hsr]; simp; omega
      have e1 : bt s 1 = b := e1
      simp only [outline_number.j0, outline_number.j1, hd, hd2, e1, show v ≥ 247 by omega, c3, if_false, if_true, Bool.false_eq_true]
      simp only [readN, c1, c2, c3, if_false, if_true, headV]
      rw [wid (x := v - 247) (by omega) (by omega), wid (x := b) (by omega) (by omega), wid (x := 256 * (v - 247)) (by omega) (by omega), wid (x := 256 * (v - 247) + b) (by omega) (by omega), wid (by omega) (by omega), hsr]
      simp
      omega
  by_cases c4 : v ≤ 254
  · rcases r with _ | ⟨b, r⟩
    · have hd : decide ((s.size : Int) > 1) = false := decide_eq_false (by rw [hsr]; simp)
      simp only [outline_number.j0, outline_number.j1, outline_number.j2, hd, show v ≥ 247 by omega, c3, c4, show v ≥ 251 by omega, show ¬ v = 255 by omega, if_false, if_true, Bool.false_eq_true]
      simp [readN, c1, c2, c3, c4, headV]
    · have hb := ho b (by simp)
      have hd : decide ((s.size : Int) > 1) = true := decide_eq_true (by rw [hsr]; simp; omega)
      have hd2 : 1 < (s.size : Int) := by rw [hsr]; simp; omega
      have e1 : bt s 1 = b := e1
      simp only [outline_number.j0, outline_number.j1, outline_number.j2, hd, hd2, e1, show v ≥ 247 by omega, show v ≥ 251 by omega, c3, c4, if_false, if_true, Bool.false_eq_true]
      simp only [readN, c1, c2, c3, c4, if_false, if_true, headV]
      rw [wid (x := v - 251) (by omega) (by omega), wid (x := b) (by omega) (by omega), wid (x := -256 * (v - 251)) (by omega) (by omega), wid (x := -256 * (v - 251) - b) (by omega) (by omega), wid (by omega) (by omega), hsr]
      simp
      omega
  obtain rfl : v = 255 := by omega
  by_cases c5 : 4 ≤ r.length
  · obtain ⟨a, b, c, d, r, rfl⟩ : ∃ a b c d r', r = a :: b :: c :: d :: r' := by
      rcases r with _ | ⟨a, _ | ⟨b, _ | ⟨c, _ | ⟨d, r⟩⟩⟩⟩ <;> first | (simp at c5; done) | (simp at c5; omega) | exact ⟨_, _, _, _, _, rfl⟩
    have e2 : bt s 2 = b := b2
    have e3 : bt s 3 = c := b3
    have e4 : bt s 4 = d := b4
    have e1 : bt s 1 = a := e1
    have hz : (s.size : Int) > 4 := by rw [hsr]; simp; omega
    simp only [outline_number.j0, outline_number.j1, outline_number.j2, e1, e2, e3, e4, hz, show (1:Int) < s.size by omega, show (2:Int) < s.size by omega, show (3:Int) < s.size by omega, if_false, if_true, Bool.false_eq_true, show (255 : Int) ≥ 247 by decide, show (255 : Int) ≥ 251 by decide, show ¬ (255 : Int) ≤ 250 by decide, show ¬ (255 : Int) ≤ 254 by decide]
    rw [four a b c d (ho a (by simp)) (ho b (by simp)) (ho c (by simp)) (ho d (by simp))]
    have hsz : (s.size : Int) = 5 + r.length := by rw [hsr]; simp; omega
    simp [readN, headV, hsz]
  · have hz : ¬ (s.size : Int) > 4 := by rw [hsr]; omega
    simp only [outline_number.j0, outline_number.j1, outline_number.j2, hz, if_false, if_true, Bool.false_eq_true, show (255 : Int) ≥ 247 by decide, show (255 : Int) ≥ 251 by decide, show ¬ (255 : Int) ≤ 250 by decide, show ¬ (255 : Int) ≤ 254 by decide]
    rcases r with _ | ⟨a, _ | ⟨b, _ | ⟨c, _ | ⟨d, r⟩⟩⟩⟩ <;> first | (simp at c5; done) | (simp at c5; omega) | simp [readN, headV]
theorem readN_drop {l : List Int} {n : Int} {r : List Int} (h : readN l = some (n, r)) : ∃ k, 0 < k ∧ k ≤ l.length ∧ r = l.drop k := by
  unfold readN at h
  repeat' split at h
  all_goals first | (cases h; done) | (injection h with h; injection h with h1 h2; subst h2; first | exact ⟨1, by decide, by simp, rfl⟩ | exact ⟨2, by decide, by simp, rfl⟩ | exact ⟨5, by decide, by simp, rfl⟩)
theorem readN_small {l : List Int} (ho : Oct l) {n : Int} {r : List Int} (h : readN l = some (n, r)) : -2147483648 ≤ n ∧ n ≤ 2147483648 := by
  rcases l with _ | ⟨v, l⟩
  · cases h
  have hv := ho v (by simp)
  unfold readN at h
  repeat' split at h
  all_goals first
    | (cases h; done)
    | (injection h with h; injection h with h1 h2; subst h1; omega)
    | (rename_i n1 _ _ _ r1 w1 r2 heq; rw [heq] at ho; have hn := ho n1 (by simp); have hb := ho w1 (by simp); simp at h; omega)
    | (rename_i n1 _ _ _ _ r1 w1 r2 heq; rw [heq] at ho; have hn := ho n1 (by simp); have hb := ho w1 (by simp); simp at h; omega)
    | (rename_i n1 _ _ _ _ r1 a b c d r2 heq; rw [heq] at ho; have ha := ho a (by simp); have hb := ho b (by simp); have hc := ho c (by simp); have hd := ho d (by simp); injection h with h; injection h with h1 h2; subst h1; unfold sgn32; split <;> omega)
theorem ref_read_eq (s : ByteArray) (h : 0 < s.size) : chaseref33_Read.f s = some (headV s.size (readN (bytesOf s))) := by
  have hl := bytesOf_len s
  have ho := bytesOf_range s
  obtain ⟨l, hl'⟩ : ∃ l, bytesOf s = l := ⟨_, rfl⟩
  have b0 : bt s 0 = l.getD 0 0 := bt_of hl' 0
  have b1 : bt s 1 = l.getD 1 0 := bt_of hl' 1
  have b2 : bt s 2 = l.getD 2 0 := bt_of hl' 2
  have b3 : bt s 3 = l.getD 3 0 := bt_of hl' 3
  have b4 : bt s 4 = l.getD 4 0 := bt_of hl' 4
  rw [hl'] at hl ho ⊢
  clear hl'
  obtain ⟨v, r, rfl⟩ : ∃ v r, l = v :: r := by
    rcases l with _ | ⟨v, r⟩
    · simp at hl; omega
    · exact ⟨v, r, rfl⟩
  have hv := ho v (by simp)
  have e0 : bt s 0 = v := b0
  have ev : wrap64 (bt s 0) = v := by rw [e0]; exact wid (by omega) (by omega)
  have e1 : bt s 1 = r.getD 0 0 := b1
  have hs0 : 0 < (s.size : Int) := by omega
  have hsr : (s.size : Int) = 1 + r.length := by rw [← hl]; simp; omega
  unfold chaseref33_Read.f
  rw [if_pos hs0, ev]
  by_cases c1 : v < 32
  · rw [if_pos c1]
    simp [readN, c1, headV]
  rw [if_neg c1]
  by_cases c2 : v ≤ 246
  · rw [if_pos c2]
    simp [readN, c1, c2, headV, wid (x := v - 139) (by omega) (by omega)]
    omega
  rw [if_neg c2]
  by_cases c5 : v = 255
  · subst c5
    rw [if_pos rfl]
    by_cases c5 : 4 ≤ r.length
    · obtain ⟨a, b, c, d, r, rfl⟩ : ∃ a b c d r', r = a :: b :: c :: d :: r' := by
        rcases r with _ | ⟨a, _ | ⟨b, _ | ⟨c, _ | ⟨d, r⟩⟩⟩⟩ <;> first | (simp at c5; done) | (simp at c5; omega) | exact ⟨_, _, _, _, _, rfl⟩
      have e2 : bt s 2 = b := b2
      have e3 : bt s 3 = c := b3
      have e4 : bt s 4 = d := b4
      have e1 : bt s 1 = a := e1
      have hsz : (s.size : Int) = 5 + r.length := by rw [hsr]; simp; omega
      have ha := ho a (by simp)
      have hb := ho b (by simp)
      have hc := ho c (by simp)
      have hd := ho d (by simp)
      rw [if_neg (by omega), if_pos (by omega), if_pos (by omega), if_pos (by omega), if_pos (by omega), e1, e2, e3, e4]
      rw [wid (x := a) (by omega) (by omega), wid (x := b) (by omega) (by omega), wid (x := c) (by omega) (by omega), wid (x := d) (by omega) (by omega), wid (x := a * 256) (by omega) (by omega), wid (x := a * 256 + b) (by omega) (by omega), wid (x := (a * 256 + b) * 256) (by omega) (by omega), wid (x := (a * 256 + b) * 256 + c) (by omega) (by omega), wid (x := ((a * 256 + b) * 256 + c) * 256) (by omega) (by omega), wid (x := ((a * 256 + b) * 256 + c) * 256 + d) (by omega) (by omega), wid (x := ((a * 256 + b) * 256 + c) * 256 + d - 4294967296) (by omega) (by omega)]
      simp only [readN, headV, hsz, show ¬ (255 : Int) < 32 by decide, show ¬ (255 : Int) ≤ 246 by decide, show ¬ (255 : Int) ≤ 250 by decide, show ¬ (255 : Int) ≤ 254 by decide, if_false, sgn32]
      split
      · congr 2; omega
      · congr 2; omega
    · rw [if_pos (by omega)]
      rcases r with _ | ⟨a, _ | ⟨b, _ | ⟨c, _ | ⟨d, r⟩⟩⟩⟩ <;> first | (simp at c5; done) | (simp at c5; omega) | simp [readN, headV]
  rw [if_neg c5]
  rcases r with _ | ⟨b, r⟩
  · rw [if_pos (by rw [hsr]; simp)]
    simp [readN, c1, c2, headV, show v ≤ 254 by omega]
  · have hb := ho b (by simp)
    have hsz : (s.size : Int) = 2 + r.length := by rw [hsr]; simp; omega
    have e1 : bt s 1 = b := e1
    rw [if_neg (by omega)]
    by_cases c3 : v ≤ 250
    · rw [if_pos c3, if_pos (by omega), e1, wid (x := v - 247) (by omega) (by omega), wid (x := b) (by omega) (by omega), wid (x := (v - 247) * 256) (by omega) (by omega), wid (x := (v - 247) * 256 + b) (by omega) (by omega), wid (by omega) (by omega)]
      simp only [readN, c1, c2, c3, if_false, if_true, headV, hsz]
      congr 2 <;> omega
    · rw [if_neg c3, if_pos (by omega), e1, wid (x := v - 251) (by omega) (by omega), wid (x := b) (by omega) (by omega), wid (x := -(v - 251)) (by omega) (by omega), wid (x := -(v - 251) * 256) (by omega) (by omega), wid (x := -(v - 251) * 256 - b) (by omega) (by omega), wid (by omega) (by omega)]
      simp only [readN, c1, c2, c3, show v ≤ 254 by omega, if_false, if_true, headV, hsz]
      congr 2 <;> omega
end Go.Proofs.Ytimnohaalccdkaa.N33
