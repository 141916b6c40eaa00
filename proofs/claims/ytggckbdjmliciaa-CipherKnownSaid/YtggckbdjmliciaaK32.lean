/- Plain laws of the cipher: decrypting an encryption gives the string back; the reference's functions answer as the program's. Numbers and lists alone. -/
import Derived.Test.YtggckbdjmliciaaPRx1
import Derived.Laws.BitsAllLaws
namespace Go.Proofs.Ytggckbdjmliciaa.K32
open Go.RowKit Go.Proofs.Ytggckbdjmliciaa.G32 Go.Proofs.Ytggckbdjmliciaa.PR Go.Proofs.YtggckbdjmliciaaW.PrintWords Go.Proofs.YtggckbdjmliciaaW.PrintLast Go.Proofs.YtggckbdjmliciaaW.PrintMore
set_option linter.unusedVariables false
set_option maxRecDepth 100000
theorem works_true : chaselaw32_works.f = some true := by decide +kernel

/-! ### octets and strings -/
def Octs (l : List Int) : Prop := ∀ p ∈ l, 0 ≤ p ∧ p ≤ 255
theorem bytesOf_str (l : List Int) (h : Octs l) : bytesOf (strOfNums l) = l := by
  unfold bytesOf
  rw [strOfNums_data, List.map_map]
  conv => rhs; rw [← List.map_id l]
  apply List.map_congr_left
  intro p hp
  obtain ⟨h0, h1⟩ := h p hp
  simp only [Function.comp, id]
  rw [UInt8.toNat_ofNat_of_lt' (by show p.toNat < 256; omega)]
  omega
theorem str_bytesOf (s : ByteArray) : strOfNums (bytesOf s) = s := by
  apply ByteArray.ext
  unfold strOfNums bytesOf
  rw [List.map_map]
  have : (fun n : Int => UInt8.ofNat n.toNat) ∘ (fun b : UInt8 => (b.toNat : Int)) = id := by funext b; simp
  rw [this]
  simp
theorem bytesOf_append (a b : ByteArray) : bytesOf (a ++ b) = bytesOf a ++ bytesOf b := by
  unfold bytesOf
  rw [ByteArray.data_append, Array.toList_append, List.map_append]
theorem bytesOf_extract (s : ByteArray) (i j : Nat) : bytesOf (s.extract i j) = ((bytesOf s).take j).drop i := by
  unfold bytesOf
  rw [ByteArray.data_extract, Array.toList_extract, List.extract_eq_take_drop, List.map_take, List.map_drop]
  rw [List.drop_take]
theorem bytesOf_inj {a b : ByteArray} (h : bytesOf a = bytesOf b) : a = b := by rw [← str_bytesOf a, ← str_bytesOf b, h]
theorem octs_bytesOf (s : ByteArray) : Octs (bytesOf s) := bytesOf_range s
theorem run_octs (st : Int → Int → Int × Int) (hst : G32.Good st) (ps : List Int) : ∀ r, 0 ≤ r → r ≤ 65535 → Octs ps → Octs (run st r ps).1 := by
  induction ps with
  | nil => intro r _ _ _ p hp; simp [run] at hp
  | cons x ps ih =>
    intro r h0 h1 hp
    have hx := hst r x h0 h1 (hp x (by simp)).1 (hp x (by simp)).2
    intro p hq
    simp only [run, List.mem_cons] at hq
    rcases hq with rfl | hq
    · exact ⟨hx.1, hx.2.1⟩
    · exact ih _ hx.2.2.1 hx.2.2.2 (fun q hq => hp q (by simp [hq])) p hq
theorem z4_bytes : bytesOf z4 = [0, 0, 0, 0] := by decide
/-! ### the octets' own law -/
theorem xor_xor (p r : Int) (hp0 : 0 ≤ p) (hp1 : p ≤ 255) (hr0 : 0 ≤ r) (hr1 : r ≤ 255) : bits .xor .u8 (bits .xor .u8 p r) r = p := by
  have h1 := xor_range p r
  rw [u8_xor p r hp0 (by omega) hr0 (by omega)] at h1 ⊢
  rw [u8_xor _ r h1.1 (by omega) hr0 (by omega), Int.toNat_natCast, Nat.xor_assoc, Nat.xor_self, Nat.xor_zero]
  omega
theorem back (ps : List Int) : ∀ r, 0 ≤ r → r ≤ 65535 → Octs ps → (run openS r (run sealS r ps).1).1 = ps := by
  induction ps with
  | nil => intro r _ _ _; rfl
  | cons x ps ih =>
    intro r h0 h1 hp
    have hx := hp x (by simp)
    have hn := nxt_range (bits .xor .u8 x (r / 256)) r
    simp only [run, sealS, openS]
    rw [xor_xor x (r / 256) hx.1 hx.2 (by omega) (by omega), ih _ hn.1 hn.2 (fun q hq => hp q (by simp [hq]))]
theorem run_take (st : Int → Int → Int × Int) (ps : List Int) : ∀ r n, (run st r (ps.take n)).1 = (run st r ps).1.take n := by
  induction ps with
  | nil => intro r n; simp [run]
  | cons x ps ih => intro r n; cases n with
    | zero => simp [run]
    | succ n => simp [run, ih]
/-! ### the reference's xor -/
theorem wrap_id (x : Int) (h0 : -9223372036854775808 ≤ x) (h1 : x ≤ 9223372036854775807) : wrap64 x = x := by unfold wrap64; omega
theorem xor_step (a b : Nat) : a ^^^ b = 2 * ((a / 2) ^^^ (b / 2)) + (if a % 2 = b % 2 then 0 else 1) := by
  have h1 : (a ^^^ b) / 2 = (a / 2) ^^^ (b / 2) := by have := @Nat.xor_div_two_pow a b 1; simpa using this
  have h2 : (a ^^^ b) % 2 = if a % 2 = b % 2 then 0 else 1 := by
    have h := @Nat.xor_mod_two_pow a b 1
    rw [Nat.pow_one] at h
    rw [h]
    rcases Nat.mod_two_eq_zero_or_one a with ha | ha <;> rcases Nat.mod_two_eq_zero_or_one b with hb | hb <;> rw [ha, hb] <;> decide
  omega
theorem xor_loop (d : Nat) : ∀ (k a b acc unit : Nat), d < k → d ≤ 8 → unit * 2 ^ d = 256 → a < 2 ^ d → b < 2 ^ d → acc + 256 * d ≤ 2048 →
    chaseref32_xor.l0 k a b acc unit (8 - d : Int) = some ((acc + unit * (a ^^^ b) : Nat) : Int) := by
  induction d with
  | zero =>
    intro k a b acc unit hk hd hu ha hb hacc
    obtain ⟨k, rfl⟩ : ∃ m, k = m + 1 := ⟨k - 1, by omega⟩
    have : a = 0 := by simpa using ha
    subst this
    have : b = 0 := by simpa using hb
    subst this
    simp [chaseref32_xor.l0]
  | succ d ih =>
    intro k a b acc unit hk hd hu ha hb hacc
    obtain ⟨k, rfl⟩ : ∃ m, k = m + 1 := ⟨k - 1, by omega⟩
    have hp : 2 ^ (d + 1) = 2 * 2 ^ d := by rw [Nat.pow_succ]; omega
    have hp0 : 0 < 2 ^ d := Nat.two_pow_pos d
    have hu2 : unit * 2 * 2 ^ d = 256 := by rw [← hu, hp, Nat.mul_assoc]
    have hle : unit ≤ 256 := by rw [← hu]; exact Nat.le_mul_of_pos_right unit (Nat.two_pow_pos _)
    have hle2 : 2 ^ (d + 1) ≤ 256 := Nat.pow_le_pow_right (show 0 < 2 by decide) (show d + 1 ≤ 8 by omega)
    have ha2 : a / 2 < 2 ^ d := by omega
    have hb2 : b / 2 < 2 ^ d := by omega
    have ha8 : a < 256 := Nat.lt_of_lt_of_le ha hle2
    have hb8 : b < 256 := Nat.lt_of_lt_of_le hb hle2
    clear hp hp0 hle2 ha hb hu
    simp only [chaseref32_xor.l0]
    rw [if_pos (by omega)]
    have e1 : Int.tmod (a : Int) 2 = ((a % 2 : Nat) : Int) := by rw [Int.tmod_eq_emod_of_nonneg (by omega)]; omega
    have e2 : Int.tmod (b : Int) 2 = ((b % 2 : Nat) : Int) := by rw [Int.tmod_eq_emod_of_nonneg (by omega)]; omega
    have e3 : wrap64 (Int.tdiv (a : Int) 2) = ((a / 2 : Nat) : Int) := by rw [Int.tdiv_eq_ediv_of_nonneg (by omega), wrap_id _ (by omega) (by omega)]; omega
    have e4 : wrap64 (Int.tdiv (b : Int) 2) = ((b / 2 : Nat) : Int) := by rw [Int.tdiv_eq_ediv_of_nonneg (by omega), wrap_id _ (by omega) (by omega)]; omega
    have e5 : wrap64 ((unit : Int) * 2) = ((unit * 2 : Nat) : Int) := by rw [wrap_id _ (by omega) (by omega)]; omega
    have e6 : wrap64 ((8 : Int) - ((d + 1 : Nat) : Int) + 1) = (8 : Int) - (d : Int) := by rw [wrap_id _ (by omega) (by omega)]; omega
    have e7 : wrap64 ((acc : Int) + (unit : Int)) = ((acc + unit : Nat) : Int) := by rw [wrap_id _ (by omega) (by omega)]; omega
    rw [e1, e2, e3, e4, e5, e6, e7]
    clear e1 e2 e3 e4 e5 e6 e7
    have k1 : d < k := by omega
    have k2 : d ≤ 8 := by omega
    have k3 : acc + 256 * d ≤ 2048 := by omega
    have k4 : acc + unit + 256 * d ≤ 2048 := by omega
    have hs := xor_step a b
    by_cases h : a % 2 = b % 2
    · rw [if_pos (by rw [h])]
      rw [if_pos h] at hs
      rw [ih k (a / 2) (b / 2) acc (unit * 2) k1 k2 hu2 ha2 hb2 k3]
      rw [hs, Nat.add_zero, Nat.mul_assoc]
    · rw [if_neg (fun e => h (Int.natCast_inj.mp e))]
      rw [if_neg h] at hs
      rw [ih k (a / 2) (b / 2) (acc + unit) (unit * 2) k1 k2 hu2 ha2 hb2 k4]
      rw [hs, Nat.mul_add, Nat.mul_one, ← Nat.mul_assoc]
      congr 2
      omega
theorem ref_xor (k : Nat) (hk : 8 < k) (p q : Int) (hp0 : 0 ≤ p) (hp1 : p ≤ 255) (hq0 : 0 ≤ q) (hq1 : q ≤ 255) : chaseref32_xor.f k p q = some (bits .xor .u8 p q) := by
  have h := xor_loop 8 k p.toNat q.toNat 0 1 (by omega) (by omega) (by decide) (by show _ < 256; omega) (by show _ < 256; omega) (by decide)
  unfold chaseref32_xor.f
  rw [u8_xor p q hp0 (by omega) hq0 (by omega)]
  simp only [Nat.zero_add, Nat.one_mul] at h
  rw [Int.toNat_of_nonneg hp0, Int.toNat_of_nonneg hq0] at h
  exact h
theorem nxt_wrap (c r : Int) (h0 : 0 ≤ c) (h1 : c ≤ 255) (h2 : 0 ≤ r) (h3 : r ≤ 65535) : Int.tmod (wrap64 ((wrap64 ((wrap64 (c + r)) * 52845)) + 22719)) 65536 = nxt c r := by
  rw [wrap_id (c + r) (by omega) (by omega), wrap_id ((c + r) * 52845) (by omega) (by omega), wrap_id _ (by omega) (by omega), Int.tmod_eq_emod_of_nonneg (by omega)]
  rfl
theorem key_wrap (r : Int) (h2 : 0 ≤ r) (h3 : r ≤ 65535) : wrap64 (Int.tdiv r 256) = r / 256 := by
  rw [Int.tdiv_eq_ediv_of_nonneg h2, wrap_id _ (by omega) (by omega)]
theorem bt_wrap (s : ByteArray) (i : Int) : wrap64 (bt s i) = bt s i := by
  have := bt_range s i
  exact wrap_id _ (by omega) (by omega)
def lst (s : ByteArray) : List Int := [0, 0, 0, 0] ++ bytesOf s
theorem lst_drop0 (s : ByteArray) (j : Nat) (h : j < 4) : (lst s).drop j = 0 :: (lst s).drop (j + 1) := by
  unfold lst
  have : j = 0 ∨ j = 1 ∨ j = 2 ∨ j = 3 := by omega
  rcases this with rfl | rfl | rfl | rfl <;> rfl
theorem bytes_drop (s : ByteArray) (j : Nat) (h : j < s.size) : (bytesOf s).drop j = bt s j :: (bytesOf s).drop (j + 1) := by
  have hl : j < (bytesOf s).length := by rw [bytesOf_length]; exact h
  rw [List.drop_eq_getElem_cons hl]
  congr 1
  have := rd_bytesOf s j
  simp only [rd, Int.toNat_natCast] at this
  rw [← this, List.getD_eq_getElem?_getD, List.getElem?_eq_getElem hl]
  rfl
theorem lst_drop1 (s : ByteArray) (j : Nat) (h : 4 ≤ j) (h1 : j < s.size + 4) : (lst s).drop j = bt s ((j : Int) - 4) :: (lst s).drop (j + 1) := by
  obtain ⟨m, rfl⟩ : ∃ m, j = m + 4 := ⟨j - 4, by omega⟩
  have e : ∀ n, (lst s).drop (n + 4) = (bytesOf s).drop n := fun n => rfl
  rw [e, show m + 4 + 1 = (m + 1) + 4 from by omega, e, bytes_drop s m (by omega)]
  congr 2
  omega
theorem enc_loop (s : ByteArray) (hs : (s.size : Int) ≤ 65532) (d : Nat) : ∀ (k j : Nat) (r : Int) (acc : List Int), d + 9 < k → j + d = s.size + 4 → acc.length = j → 0 ≤ r → r ≤ 65535 →
    chaseref32_Encrypt.l0 k s r acc ((j : Int) - 4) = some (strOfNums (acc ++ (run sealS r ((lst s).drop j)).1), 0) := by
  induction d with
  | zero =>
    intro k j r acc hk hj ha hr0 hr1
    obtain ⟨k, rfl⟩ : ∃ m, k = m + 1 := ⟨k - 1, by omega⟩
    simp only [chaseref32_Encrypt.l0]
    rw [if_neg (by omega), List.drop_of_length_le (by unfold lst; rw [List.length_append, bytesOf_length]; simp; omega)]
    simp [run]
  | succ d ih =>
    intro k j r acc hk hj ha hr0 hr1
    obtain ⟨k, rfl⟩ : ∃ m, k = m + 1 := ⟨k - 1, by omega⟩
    have hr2 : 0 ≤ r / 256 := by omega
    have hr3 : r / 256 ≤ 255 := by omega
    have e3 : wrap64 ((j : Int) - 4 + 1) = ((j + 1 : Nat) : Int) - 4 := by rw [wrap_id _ (by omega) (by omega)]; omega
    simp only [chaseref32_Encrypt.l0]
    rw [if_pos (by omega), key_wrap r hr0 hr1, e3]
    clear e3
    by_cases h4 : j < 4
    · rw [if_neg (by omega), ref_xor k (by omega) 0 (r / 256) (by decide) (by decide) hr2 hr3]
      have hx := xor_range 0 (r / 256)
      have hn := nxt_range (bits .xor .u8 0 (r / 256)) r
      simp only [Option.bind_some]
      rw [if_pos (by omega), nxt_wrap _ r hx.1 hx.2 hr0 hr1, Int.emod_eq_of_lt hx.1 (by omega), ih k (j + 1) _ _ (by omega) (by omega) (by simp [ha]) hn.1 hn.2, lst_drop0 s j h4]
      simp [run, sealS]
    · have hb := bt_range s ((j : Int) - 4)
      rw [if_pos (by omega), if_pos (by omega), bt_wrap, ref_xor k (by omega) _ (r / 256) hb.1 hb.2 hr2 hr3]
      have hx := xor_range (bt s ((j : Int) - 4)) (r / 256)
      have hn := nxt_range (bits .xor .u8 (bt s ((j : Int) - 4)) (r / 256)) r
      simp only [Option.bind_some]
      rw [if_pos (by omega), nxt_wrap _ r hx.1 hx.2 hr0 hr1, Int.emod_eq_of_lt hx.1 (by omega), ih k (j + 1) _ _ (by omega) (by omega) (by simp [ha]) hn.1 hn.2, lst_drop1 s j (by omega) (by omega)]
      simp [run, sealS]
theorem dec_loop (s : ByteArray) (hs : (s.size : Int) ≤ 65536) (d : Nat) : ∀ (k j : Nat) (r : Int) (acc : List Int), d + 9 < k → j + d = s.size → acc.length ≤ j → 0 ≤ r → r ≤ 65535 →
    chaseref32_Decrypt.l0 k s r acc (j : Int) = some (strOfNums (acc ++ (run openS r ((bytesOf s).drop j)).1.drop (4 - j)), 0) := by
  induction d with
  | zero =>
    intro k j r acc hk hj ha hr0 hr1
    obtain ⟨k, rfl⟩ : ∃ m, k = m + 1 := ⟨k - 1, by omega⟩
    simp only [chaseref32_Decrypt.l0]
    rw [if_neg (by omega), show (bytesOf s).drop j = [] from List.drop_of_length_le (by rw [bytesOf_length]; omega)]
    simp [run]
  | succ d ih =>
    intro k j r acc hk hj ha hr0 hr1
    obtain ⟨k, rfl⟩ : ∃ m, k = m + 1 := ⟨k - 1, by omega⟩
    have hr2 : 0 ≤ r / 256 := by omega
    have hr3 : r / 256 ≤ 255 := by omega
    have e3 : wrap64 ((j : Int) + 1) = ((j + 1 : Nat) : Int) := by rw [wrap_id _ (by omega) (by omega)]; omega
    have hb := bt_range s (j : Int)
    have hn := nxt_range (bt s (j : Int)) r
    simp only [chaseref32_Decrypt.l0]
    rw [if_pos (by omega), key_wrap r hr0 hr1, e3, bt_wrap, nxt_wrap _ r hb.1 hb.2 hr0 hr1, bytes_drop s j (by omega)]
    clear e3
    by_cases h4 : j < 4
    · obtain ⟨m, hm⟩ : ∃ m, 4 - j = m + 1 := ⟨3 - j, by omega⟩
      rw [if_neg (by omega), if_pos (by omega), ih k (j + 1) _ _ (by omega) (by omega) (by omega) hn.1 hn.2, hm, show 4 - (j + 1) = m from by omega]
      simp [run, openS]
    · rw [if_pos (by omega), if_pos (by omega), ref_xor k (by omega) _ (r / 256) hb.1 hb.2 hr2 hr3]
      have hx := xor_range (bt s (j : Int)) (r / 256)
      simp only [Option.bind_some]
      rw [if_pos (by omega), Int.emod_eq_of_lt hx.1 (by omega), ih k (j + 1) _ _ (by omega) (by omega) (by simp; omega) hn.1 hn.2, show 4 - j = 0 from by omega, show 4 - (j + 1) = 0 from by omega]
      simp [run, openS]
theorem str_drop (l : List Int) (n m : Nat) (hm : m = l.length) : (strOfNums l).extract n m = strOfNums (l.drop n) := by
  apply ByteArray.ext
  subst hm
  unfold strOfNums
  rw [ByteArray.data_extract]
  apply Array.ext'
  simp only [Array.toList_extract, List.extract_eq_take_drop, List.map_drop]
  rw [List.take_of_length_le (by simp)]
theorem chk3 (s : ByteArray) (key : Int) (h : (s.size : Int) > 65536) : chk s key = 3 := by unfold chk; rw [if_pos h]
theorem chk2 (s : ByteArray) (key : Int) (h : ¬ (s.size : Int) > 65536) (h2 : key < 0 ∨ key > 65535) : chk s key = 2 := by unfold chk; rw [if_neg h, if_pos h2]
theorem chk0 (s : ByteArray) (key : Int) (h : ¬ (s.size : Int) > 65536) (h2 : ¬ key < 0) (h3 : ¬ key > 65535) : chk s key = 0 := by unfold chk; rw [if_neg h, if_neg (by omega)]
theorem ref_enc (s : ByteArray) (key : Int) : chaseref32_Encrypt.f 70000 s key = cipher_Encrypt.f s key := by
  unfold chaseref32_Encrypt.f cipher_Encrypt.f
  by_cases h1 : (s.size : Int) > 65536
  · rw [if_pos h1, chk3 _ _ h1, if_neg (by decide)]
  rw [if_neg h1]
  by_cases h2 : key < 0
  · rw [if_pos h2, chk2 _ _ h1 (.inl h2), if_neg (by decide)]; rfl
  rw [if_neg h2]
  by_cases h3 : key > 65535
  · rw [chk2 _ _ h1 (.inr h3), if_neg (by decide), decide_eq_true h3]; rfl
  rw [chk0 _ _ h1 h2 h3, if_pos rfl, decide_eq_false h3]
  simp only [chaseref32_Encrypt.j0]
  rw [if_neg (by decide), wrap_id _ (by omega) (by omega)]
  by_cases h4 : (s.size : Int) > 65532
  · rw [if_pos (by omega), if_pos h4]
  rw [if_neg (by omega), if_neg h4]
  have h := enc_loop s (by omega) (s.size + 4) 69999 0 key [] (by omega) (by omega) rfl (by omega) (by omega)
  rw [show ((0 : Nat) : Int) - 4 = -4 from rfl] at h
  rw [h, bytesOf_append, z4_bytes]
  rfl
theorem ref_dec (s : ByteArray) (key : Int) : chaseref32_Decrypt.f 70000 s key = cipher_Decrypt.f s key := by
  unfold chaseref32_Decrypt.f cipher_Decrypt.f
  by_cases h1 : (s.size : Int) > 65536
  · rw [if_pos h1, chk3 _ _ h1, if_neg (by decide)]
  rw [if_neg h1]
  by_cases h2 : key < 0
  · rw [if_pos h2, chk2 _ _ h1 (.inl h2), if_neg (by decide)]; rfl
  rw [if_neg h2]
  by_cases h3 : key > 65535
  · rw [chk2 _ _ h1 (.inr h3), if_neg (by decide), decide_eq_true h3]; rfl
  rw [chk0 _ _ h1 h2 h3, if_pos rfl, decide_eq_false h3]
  simp only [chaseref32_Decrypt.j0]
  rw [if_neg (by decide)]
  by_cases h4 : (s.size : Int) < 4
  · rw [if_pos h4, if_pos h4]
  rw [if_neg h4, if_neg h4]
  have h := dec_loop s (by omega) s.size 69999 0 key [] (by omega) (by omega) (by simp) (by omega) (by omega)
  rw [show ((0 : Nat) : Int) = 0 from rfl] at h
  rw [h, str_drop _ 4 _ (by rw [run_length, bytesOf_length])]
  rfl
/-- What the program's two functions answer, where nothing is wrong. -/
theorem enc_some (s : ByteArray) (key : Int) (hs : (s.size : Int) ≤ 65532) (h0 : 0 ≤ key) (h1 : key ≤ 65535) : cipher_Encrypt.f s key = some (strOfNums (run sealS key (lst s)).1, 0) := by
  unfold cipher_Encrypt.f
  rw [if_pos (by unfold chk; rw [if_neg (by omega), if_neg (by omega)]), if_neg (by omega), bytesOf_append, z4_bytes]
  rfl
theorem dec_some (s : ByteArray) (key : Int) (hs : (s.size : Int) ≤ 65536) (h4 : 4 ≤ (s.size : Int)) (h0 : 0 ≤ key) (h1 : key ≤ 65535) : cipher_Decrypt.f s key = some (strOfNums ((run openS key (bytesOf s)).1.drop 4), 0) := by
  unfold cipher_Decrypt.f
  rw [if_pos (by unfold chk; rw [if_neg (by omega), if_neg (by omega)]), if_neg (by omega), str_drop _ 4 _ (by rw [run_length, bytesOf_length])]
theorem octs_lst (s : ByteArray) : Octs (lst s) := by
  intro p hp
  unfold lst at hp
  rcases List.mem_append.1 hp with h | h
  · simp at h; omega
  · exact octs_bytesOf s p h
theorem enc_size (s : ByteArray) (key : Int) : (strOfNums (run sealS key (lst s)).1).size = s.size + 4 := by
  rw [strOfNums_size, run_length]; unfold lst; rw [List.length_append, bytesOf_length]; simp; omega
theorem dec_enc (s : ByteArray) (key : Int) (hs : (s.size : Int) ≤ 65532) (h0 : 0 ≤ key) (h1 : key ≤ 65535) : cipher_Decrypt.f (strOfNums (run sealS key (lst s)).1) key = some (s, 0) := by
  have hz := enc_size s key
  rw [dec_some _ key (by omega) (by omega) h0 h1, bytesOf_str _ (run_octs sealS good_seal _ _ h0 h1 (octs_lst s)), back _ key h0 h1 (octs_lst s)]
  rw [show (lst s).drop 4 = bytesOf s from rfl, str_bytesOf]
end Go.Proofs.Ytggckbdjmliciaa.K32
