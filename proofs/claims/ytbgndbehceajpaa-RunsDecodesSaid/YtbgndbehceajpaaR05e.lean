/- The reference's Encode answers as Encode does. -/
import Derived.Test.YtbgndbehceajpaaR05
namespace Go.Proofs.Ytbgndbehceajpaa.R05e
open Go.RowKit Go.Proofs.YtbgndbehceajpaaW.PrintWords Go.Proofs.YtbgndbehceajpaaW.PrintLast Go.Proofs.YtbgndbehceajpaaW.PrintMore
open Go.Proofs.Ytbgndbehceajpaa.P05 Go.Proofs.Ytbgndbehceajpaa.L05 Go.Proofs.Ytbgndbehceajpaa.R05 Go.Proofs.Ytbgndbehceajpaa.G05e Go.Proofs.Ytbgndbehceajpaa.G05i Go.Proofs.Ytbgndbehceajpaa.G05x
set_option linter.unusedVariables false
theorem bt_getD (s : ByteArray) (i : Nat) : bt s (i : Int) = (bytesOf s).getD i 0 := by
  have := rd_bytesOf s i
  simp only [rd, Int.toNat_natCast] at this
  exact this.symm
theorem same_on (k : Nat) (s : ByteArray) (i n : Nat) (hs : s.size ≤ 65536) (h : i + n < s.size) :
    chaseref05_same.l0 (k + 1) s i n = if bt s ((i + n : Nat) : Int) = bt s (i : Int) then chaseref05_same.l0 k s i ((n + 1 : Nat) : Int) else some (n : Int) := by
  have c1 : ((i + n : Nat) : Int) < (s.size : Int) := by omega
  have c2 : (0 : Int) ≤ ((i + n : Nat) : Int) := by omega
  have c3 : (0 : Int) ≤ (i : Int) := by omega
  have c4 : (i : Int) < (s.size : Int) := by omega
  have e1 : wrap64 ((i : Int) + n) = ((i + n : Nat) : Int) := by rw [w64 _ (by omega) (by omega)]; omega
  have e2 : wrap64 ((n : Int) + 1) = ((n + 1 : Nat) : Int) := by clear e1; rw [w64 _ (by omega) (by omega)]; omega
  rw [chaseref05_same.l0, e1, e2, if_pos c1, if_pos c2, if_pos c3, if_pos c4]
theorem same_off (k : Nat) (s : ByteArray) (i n : Nat) (hs : s.size ≤ 65536) (h : i + n = s.size) : chaseref05_same.l0 (k + 1) s i n = some (n : Int) := by
  have c1 : ¬ ((i + n : Nat) : Int) < (s.size : Int) := by omega
  have e1 : wrap64 ((i : Int) + n) = ((i + n : Nat) : Int) := by rw [w64 _ (by omega) (by omega)]; omega
  rw [chaseref05_same.l0, e1, if_neg c1]
theorem ref_same (s : ByteArray) (i : Nat) (hs : s.size ≤ 65536) (hi : i < s.size) : ∃ k, chaseref05_same.f k s i = some ((same (bytesOf s) i : Nat) : Int) := by
  have hl := bytesOf_length s
  have hle := same_le (bytesOf s) i (by omega)
  have main : ∀ m n, n + m = same (bytesOf s) i → ∃ k, chaseref05_same.l0 k s i n = some ((same (bytesOf s) i : Nat) : Int) := by
    intro m
    induction m with
    | zero =>
      intro n hn
      have hn' : n = same (bytesOf s) i := by omega
      refine ⟨1, ?_⟩
      by_cases h : i + n < s.size
      · rw [same_on 0 s i n hs h, if_neg, hn']
        intro he
        rw [bt_getD, bt_getD] at he
        have := same_more (bytesOf s) i (i + n) (by omega) (by omega) (by omega) he
        omega
      · rw [same_off 0 s i n hs (by omega), hn']
    | succ m ih =>
      intro n hn
      obtain ⟨k, hk⟩ := ih (n + 1) (by omega)
      refine ⟨k + 1, ?_⟩
      have he : bt s ((i + n : Nat) : Int) = bt s (i : Int) := by
        rw [bt_getD, bt_getD]
        exact same_in (bytesOf s) i (i + n) (by omega) (by omega)
      rw [same_on k s i n hs (by omega), if_pos he]
      exact hk
  obtain ⟨k, hk⟩ := main (same (bytesOf s) i) 0 (by omega)
  exact ⟨k, hk⟩
theorem plain_on (k : Nat) (x out : ByteArray) (p : Nat) (h0 : 0 < x.size) (hp : p = min x.size 128) (hx : x.size ≤ 100000) (ho : out.size ≤ 100000000) :
    chaseref05_plain.l0 (k + 1) x out = chaseref05_plain.l0 k (x.extract p x.size) (out ++ strOfNums [(p : Int) - 1] ++ x.extract 0 p) := by
  have e0 : mn (x.size : Int) 128 = (p : Int) := by unfold mn; split <;> omega
  have e1 : ((p : Int) - 1) % 256 = (p : Int) - 1 := by omega
  have c1 : (x.size : Int) > 0 := by omega
  have z1 : (strOfNums [(p : Int) - 1]).size = 1 := by unfold strOfNums; simp [ByteArray.size]
  have z2 : (x.extract 0 p).size = p := by rw [ByteArray.size_extract]; omega
  have z3 : (out ++ strOfNums [(p : Int) - 1]).size = out.size + 1 := by rw [ByteArray.size_append, z1]
  have c2 : out.size + (strOfNums [(p : Int) - 1]).size ≤ 9223372036854775807 := by omega
  have c3 : (0 : Int) ≤ (p : Int) := by omega
  have c4 : (p : Int) ≤ (x.size : Int) := by omega
  have c5 : (out ++ strOfNums [(p : Int) - 1]).size + (x.extract 0 p).size ≤ 9223372036854775807 := by omega
  rw [chaseref05_plain.l0, if_pos c1, e0, e1]
  simp only [Option.bind_some, Int.toNat_natCast]
  rw [if_pos c2, if_pos c3, if_pos c4, if_pos c5]
theorem plain_off (k : Nat) (x out : ByteArray) (h0 : x.size = 0) : chaseref05_plain.l0 (k + 1) x out = some out := by
  have c1 : ¬ (x.size : Int) > 0 := by omega
  rw [chaseref05_plain.l0, if_neg c1]
theorem ref_plain_l (l : List Int) (hl : l.length ≤ 100000) : ∀ (K off : Nat) (x out : ByteArray), l.length - off < K → off ≤ l.length → bytesOf x = l.drop off → out.size ≤ 129 * off →
    ∃ k r, chaseref05_plain.l0 k x out = some r ∧ bytesOf r = bytesOf out ++ (parts K off (l.length - off)).flatMap (rec1 l) := by
  intro K
  induction K with
  | zero => intro off x out h; omega
  | succ K ih =>
    intro off x out hK hoff hx ho
    have hsz : x.size = l.length - off := by rw [← bytesOf_length, hx, List.length_drop]
    obtain ⟨n, hn⟩ : ∃ n, l.length - off = n := ⟨_, rfl⟩
    rw [hn] at hsz ⊢
    have bytes : ∀ p : Nat, 0 < p → p ≤ 128 → bytesOf (out ++ strOfNums [(p : Int) - 1] ++ x.extract 0 p) = bytesOf out ++ (((p : Int) - 1) :: (l.drop off).take p) := by
      intro p h1 h2
      rw [bytesOf_append, bytesOf_append, bytesOf_extract, bytesOf_strOf _ (by intro b hb; rw [List.mem_singleton.1 hb]; omega), hx, List.append_assoc]
      simp
    by_cases h : 128 < n
    · have hx2 : bytesOf (x.extract 128 x.size) = l.drop (off + 128) := by
        rw [bytesOf_extract, hx, List.drop_drop, List.take_of_length_le (by rw [List.length_drop]; omega)]
      obtain ⟨k, r, hk, hr⟩ := ih (off + 128) (x.extract 128 x.size) (out ++ strOfNums [((128 : Nat) : Int) - 1] ++ x.extract 0 128) (by omega) (by omega) hx2 (by
        have z1 : (strOfNums [((128 : Nat) : Int) - 1]).size = 1 := by unfold strOfNums; simp [ByteArray.size]
        rw [ByteArray.size_append, ByteArray.size_append, ByteArray.size_extract, z1]; omega)
      refine ⟨k + 1, r, ?_, ?_⟩
      · rw [plain_on k x out 128 (by omega) (by omega) (by omega) (by omega)]
        exact hk
      · have hr1 : rec1 l (off, 128) = (((128 : Nat) : Int) - 1) :: (l.drop off).take 128 := by simp [rec1]
        rw [hr, parts_big K off n h, List.flatMap_cons, bytes 128 (by omega) (by omega), hr1, show l.length - (off + 128) = n - 128 from by omega, List.append_assoc]
    · rw [parts_small K off n h, List.flatMap_cons, List.flatMap_nil, List.append_nil]
      rcases Nat.eq_zero_or_pos n with h0 | h0
      · refine ⟨1, out, plain_off 0 x out (by omega), ?_⟩
        subst h0
        simp [rec1]
      · refine ⟨2, _, ?_, bytes n h0 (by omega) |>.trans ?_⟩
        · rw [plain_on 1 x out n (by omega) (by omega) (by omega) (by omega)]
          exact plain_off 0 _ _ (by rw [ByteArray.size_extract]; omega)
        · simp [rec1, h0]
theorem ref_plain (x : ByteArray) (hx : x.size ≤ 65536) : ∃ k r, chaseref05_plain.f k x = some r ∧ bytesOf r = plainL (bytesOf x) := by
  obtain ⟨k, r, hk, hr⟩ := ref_plain_l (bytesOf x) (by rw [bytesOf_length]; omega) ((bytesOf x).length + 1) 0 x ⟨#[]⟩ (by omega) (by omega) rfl (by decide)
  refine ⟨k, r, hk, ?_⟩
  rw [hr]
  rfl
/-! ### More fuel -/
theorem same_up {k : Nat} {s : ByteArray} {i : Int} {r : Int} (h : chaseref05_same.f k s i = some r) : ∀ m, chaseref05_same.f (k + m) s i = some r := by
  intro m
  induction m with
  | zero => exact h
  | succ m ih => exact chaseref05_same.mono _ _ _ _ ih
theorem plain_up {k : Nat} {x : ByteArray} {r : ByteArray} (h : chaseref05_plain.f k x = some r) : ∀ m, chaseref05_plain.f (k + m) x = some r := by
  intro m
  induction m with
  | zero => exact h
  | succ m ih => exact chaseref05_plain.mono _ _ _ ih
theorem l0_up {k : Nat} {s : ByteArray} {o : List Int} {x : ByteArray} {i : Int} {r : ByteArray × Int} (h : chaseref05_Encode.l0 k s o x i = some r) : ∀ m, chaseref05_Encode.l0 (k + m) s o x i = some r := by
  intro m
  induction m with
  | zero => exact h
  | succ m ih => exact (chaseref05_Encode.mono_l (k + m)).1 _ _ _ _ _ ih
theorem l1_up {k : Nat} {s : ByteArray} {o : List Int} {x : ByteArray} {i n : Int} {r : ByteArray × Int} (h : chaseref05_Encode.l1 k s o x i n = some r) : ∀ m, chaseref05_Encode.l1 (k + m) s o x i n = some r := by
  intro m
  induction m with
  | zero => exact h
  | succ m ih => exact (chaseref05_Encode.mono_l (k + m)).2 _ _ _ _ _ _ ih
/-! ### The loops of Encode, a branch each -/
theorem l1_rec (k : Nat) (s : ByteArray) (o : List Int) (x : ByteArray) (i n p : Nat) (hn : 1 < n) (hp : p = min n 128) (hi : i < s.size) (hs : s.size ≤ 65536) (hn2 : n ≤ 65536) (ho : o.length ≤ 100000000000) :
    chaseref05_Encode.l1 (k + 1) s o x i n = chaseref05_Encode.l1 k s (o ++ [257 - (p : Int), bt s (i : Int)]) x ((i + p : Nat) : Int) ((n - p : Nat) : Int) := by
  have c1 : (n : Int) > 1 := by omega
  have c2 : (0 : Int) ≤ (i : Int) := by omega
  have c3 : (i : Int) < (s.size : Int) := by omega
  have c4 : o.length + [257 - (p : Int), bt s (i : Int)].length < 140737488355328 := by simp only [List.length_cons, List.length_nil]; omega
  have e0 : mn (n : Int) 128 = (p : Int) := by unfold mn; split <;> omega
  have e2 : (257 - (p : Int)) % 256 = 257 - (p : Int) := by omega
  have b1 : -9000000000000000000 ≤ 257 - (p : Int) := by omega
  have b2 : 257 - (p : Int) ≤ 9000000000000000000 := by omega
  have e3 : wrap64 ((i : Int) + p) = ((i + p : Nat) : Int) := by rw [w64 _ (by omega) (by omega)]; omega
  have e4 : wrap64 ((n : Int) - p) = ((n - p : Nat) : Int) := by clear e3; rw [w64 _ (by omega) (by omega)]; omega
  have e1 : wrap64 (257 - (p : Int)) = 257 - (p : Int) := w64 _ b1 b2
  rw [chaseref05_Encode.l1, if_pos c1, if_pos c2, if_pos c3, e0, e1, e2]
  simp only [Option.bind_some]
  rw [if_pos c4, e3, e4]
theorem l1_one (k : Nat) (s : ByteArray) (o : List Int) (x : ByteArray) (i : Nat) (hi : i < s.size) (hs : s.size ≤ 65536) :
    chaseref05_Encode.l1 (k + 1) s o x i 1 = chaseref05_Encode.l0 k s o (s.extract i (i + 1)) ((i + 1 : Nat) : Int) := by
  have c1 : ¬ (1 : Int) > 1 := by omega
  have c2 : (0 : Int) ≤ (i : Int) := by omega
  have c3 : (i : Int) ≤ ((i + 1 : Nat) : Int) := by omega
  have c4 : ((i + 1 : Nat) : Int) ≤ (s.size : Int) := by omega
  have e1 : wrap64 ((i : Int) + 1) = ((i + 1 : Nat) : Int) := by rw [w64 _ (by omega) (by omega)]; omega
  rw [chaseref05_Encode.l1, if_neg c1, if_pos rfl, if_pos c2, e1, if_pos c3, if_pos c4, Int.toNat_natCast, Int.toNat_natCast]
theorem l1_zero (k : Nat) (s : ByteArray) (o : List Int) (x : ByteArray) (i : Int) : chaseref05_Encode.l1 (k + 1) s o x i 0 = chaseref05_Encode.l0 k s o x i := by
  have c1 : ¬ (0 : Int) > 1 := by omega
  have c2 : ¬ (0 : Int) = 1 := by omega
  rw [chaseref05_Encode.l1, if_neg c1, if_neg c2]
theorem l0_short (k : Nat) (s : ByteArray) (o : List Int) (x : ByteArray) (i t : Nat) (hi : i < s.size) (hs : s.size ≤ 65536) (ht : chaseref05_same.f k s i = some (t : Int)) (h3 : t < 3) (hit : i + t ≤ s.size) (hx : x.size ≤ 65536) :
    chaseref05_Encode.l0 (k + 1) s o x i = chaseref05_Encode.l0 k s o (x ++ s.extract i (i + t)) ((i + t : Nat) : Int) := by
  have c1 : (i : Int) < (s.size : Int) := by omega
  have c2 : (t : Int) < 3 := by omega
  have c3 : (0 : Int) ≤ (i : Int) := by omega
  have c4 : (i : Int) ≤ ((i + t : Nat) : Int) := by omega
  have c5 : ((i + t : Nat) : Int) ≤ (s.size : Int) := by omega
  have hz : (s.extract i (i + t)).size = min (i + t) s.size - i := ByteArray.size_extract
  have c6 : x.size + (s.extract i (i + t)).size ≤ 9223372036854775807 := by omega
  have e1 : wrap64 ((i : Int) + t) = ((i + t : Nat) : Int) := by rw [w64 _ (by omega) (by omega)]; omega
  rw [chaseref05_Encode.l0, if_pos c1, ht]
  simp only [Option.bind_some]
  rw [if_pos c2, if_pos c3, e1, if_pos c4, if_pos c5, Int.toNat_natCast, Int.toNat_natCast, if_pos c6]
theorem l0_long (k : Nat) (s : ByteArray) (o : List Int) (x y : ByteArray) (i t : Nat) (hi : i < s.size) (ht : chaseref05_same.f k s i = some (t : Int)) (h3 : ¬ t < 3) (hy : chaseref05_plain.f k x = some y) (hyo : o.length + y.size ≤ 100000000000) :
    chaseref05_Encode.l0 (k + 1) s o x i = chaseref05_Encode.l1 k s (o ++ bytesOf y) ⟨#[]⟩ i t := by
  have c1 : (i : Int) < (s.size : Int) := by omega
  have c2 : ¬ (t : Int) < 3 := by omega
  have c3 : o.length + y.size < 140737488355328 := by omega
  rw [chaseref05_Encode.l0, if_pos c1, ht]
  simp only [Option.bind_some]
  rw [if_neg c2, hy]
  simp only [Option.bind_some]
  rw [if_pos c3]
theorem l0_fin (k : Nat) (s : ByteArray) (o : List Int) (x y : ByteArray) (i : Nat) (hi : ¬ i < s.size) (hy : chaseref05_plain.f k x = some y) (hyo : o.length + y.size ≤ 100000000000) :
    chaseref05_Encode.l0 (k + 1) s o x i = some (encR (o ++ bytesOf y ++ [128])) := by
  have c1 : ¬ (i : Int) < (s.size : Int) := by omega
  have c3 : o.length + y.size < 140737488355328 := by omega
  have c4 : (o ++ bytesOf y).length < 140737488355328 := by
    have hz : (o ++ bytesOf y).length = o.length + y.size := by rw [List.length_append, bytesOf_length]
    omega
  rw [chaseref05_Encode.l0, if_neg c1, hy]
  simp only [Option.bind_some]
  rw [if_pos c3, if_pos c4]
  unfold encR
  by_cases h : (o ++ bytesOf y ++ [128]).length > 65536
  · have c5 : ((o ++ bytesOf y ++ [128]).length : Int) > 65536 := by omega
    rw [if_pos c5, if_pos h]
  · have c5 : ¬ ((o ++ bytesOf y ++ [128]).length : Int) > 65536 := by omega
    rw [if_neg c5, if_neg h]
theorem ref_run (s : ByteArray) (hs : s.size ≤ 65536) (r : ByteArray × Int) (k : Nat) : ∀ (Kp off n : Nat) (o : List Int), n < Kp → 1 ≤ n → off + n ≤ s.size → o.length + 2 * n ≤ 1000000000 →
    (∀ x', bytesOf x' = ((parts Kp off n).foldl (piece (bytesOf s)) ([], o)).1 → chaseref05_Encode.l0 k s ((parts Kp off n).foldl (piece (bytesOf s)) ([], o)).2 x' ((off + n : Nat) : Int) = some r) →
      ∃ k', chaseref05_Encode.l1 k' s o ⟨#[]⟩ off n = some r := by
  intro Kp
  induction Kp with
  | zero => intro off n o h; omega
  | succ Kp ih =>
    intro off n o hK h1 hoff ho h
    by_cases hb : 128 < n
    · rw [parts_big Kp off n hb, List.foldl_cons] at h
      have hpc : piece (bytesOf s) ([], o) (off, 128) = ([], o ++ [257 - ((128 : Nat) : Int), bt s (off : Int)]) := by
        unfold piece
        rw [if_neg (by simp), bt_getD]
      rw [hpc] at h
      obtain ⟨k', hk'⟩ := ih (off + 128) (n - 128) (o ++ [257 - ((128 : Nat) : Int), bt s (off : Int)]) (by omega) (by omega) (by omega) (by simp only [List.length_append, List.length_cons, List.length_nil]; omega) (by
        intro x' hx'
        have := h x' hx'
        rw [show off + 128 + (n - 128) = off + n from by omega]
        exact this)
      refine ⟨k' + 1, ?_⟩
      rw [l1_rec k' s o _ off n 128 (by omega) (by omega) (by omega) hs (by omega) (by omega)]
      exact hk'
    · rw [parts_small Kp off n hb, List.foldl_cons, List.foldl_nil] at h
      by_cases h2 : n = 1
      · subst h2
        have hpc : piece (bytesOf s) ([], o) (off, 1) = (((bytesOf s).drop off).take 1, o) := by
          unfold piece
          rw [if_pos rfl]
          rfl
        rw [hpc] at h
        refine ⟨k + 1, ?_⟩
        have := h (s.extract off (off + 1)) (by rw [bytesOf_extract, show off + 1 - off = 1 from by omega])
        have e := l1_one k s o ⟨#[]⟩ off (by omega) hs
        exact e.trans this
      · have hpc : piece (bytesOf s) ([], o) (off, n) = ([], o ++ [257 - (n : Int), bt s (off : Int)]) := by
          unfold piece
          rw [if_neg h2, bt_getD]
        rw [hpc] at h
        refine ⟨k + 1 + 1, ?_⟩
        rw [l1_rec (k + 1) s o _ off n n (by omega) (by omega) (by omega) hs (by omega) (by omega), show n - n = 0 from by omega]
        have e := l1_zero k s (o ++ [257 - (n : Int), bt s (off : Int)]) ⟨#[]⟩ ((off + n : Nat) : Int)
        exact e.trans (h ⟨#[]⟩ rfl)
theorem inv_len {l : List Int} {i : Nat} {S : List Int × List Int} (h : Inv l i S) (hi : i ≤ l.length) : S.1.length ≤ i ∧ S.2.length ≤ 2 * i + 127 := by
  obtain ⟨y, _, hy, hs⟩ := h
  have hl := congrArg List.length hy
  rw [List.length_append, List.length_take] at hl
  rcases hs with ⟨e1, _⟩ | hs
  · rw [e1, List.length_nil]; omega
  · omega
theorem ref_loop (s : ByteArray) (hs : s.size ≤ 65536) : ∀ (K i : Nat) (S : List Int × List Int) (x : ByteArray), s.size - i < K → i ≤ s.size → Inv (bytesOf s) i S → bytesOf x = S.1 →
    ∃ k, chaseref05_Encode.l0 k s S.2 x i = some (encR (((runs (bytesOf s) K i).foldl (stepS (bytesOf s)) S).2 ++ plainL ((runs (bytesOf s) K i).foldl (stepS (bytesOf s)) S).1 ++ [128])) := by
  have hl := bytesOf_length s
  intro K
  induction K with
  | zero => intro i S x h; omega
  | succ K ih =>
    intro i S x hK hi hI hx
    obtain ⟨q1, q2⟩ := inv_len hI (by omega)
    have hxs : x.size = S.1.length := by rw [← hx, bytesOf_length]
    obtain ⟨kp, y, hy, hyb⟩ := ref_plain x (by omega)
    rw [hx] at hyb
    have hys : y.size ≤ 2 * S.1.length + 1 := by
      have := plain_len2 S.1
      rw [← hyb, bytesOf_length] at this
      exact this
    by_cases hlt : i < s.size
    · obtain ⟨t, ht⟩ : ∃ t, same (bytesOf s) i = t := ⟨_, rfl⟩
      have hp := same_pos (bytesOf s) i (by omega)
      have hq := same_le (bytesOf s) i (by omega)
      obtain ⟨ks, hks⟩ := ref_same s i hs hlt
      rw [runs_at (bytesOf s) K i (i + t) (by omega) (by rw [ht]) ⟨by simp only; omega, by simp only; omega⟩, List.foldl_cons]
      have hst := inv_step (bytesOf s) S i (i + t) ⟨by omega, by omega⟩ (fun m a b => same_in (bytesOf s) i m a (by omega)) hI
      rw [ht] at hks hp hq
      by_cases h3 : t < 3
      · have hx2 : bytesOf (x ++ s.extract i (i + t)) = (stepS (bytesOf s) S ⟨(i, i + t), ⟨by simp only; omega, by simp only; omega⟩⟩).1 := by
          unfold stepS
          simp only
          rw [if_pos (by omega), bytesOf_append, hx, bytesOf_extract]
        have hs2 : (stepS (bytesOf s) S ⟨(i, i + t), ⟨by simp only; omega, by simp only; omega⟩⟩).2 = S.2 := by
          unfold stepS
          simp only
          rw [if_pos (by omega)]
        obtain ⟨k, hk⟩ := ih (i + t) _ _ (by omega) (by omega) hst hx2
        refine ⟨k + ks + 1, ?_⟩
        have e := l0_short (k + ks) s S.2 x i t hlt hs (by rw [Nat.add_comm k ks]; exact same_up hks k) h3 (by omega) (by omega)
        rw [hs2] at hk
        exact e.trans (l0_up hk ks)
      · have hT : stepS (bytesOf s) S ⟨(i, i + t), ⟨by simp only; omega, by simp only; omega⟩⟩ = (parts (t + 1) i t).foldl (piece (bytesOf s)) ([], S.2 ++ plainL S.1) := by
          unfold stepS
          simp only
          rw [if_neg (by omega), show i + t - i = t from by omega]
        rw [hT] at hst ⊢
        obtain ⟨T, hTe⟩ : ∃ T, (parts (t + 1) i t).foldl (piece (bytesOf s)) ([], S.2 ++ plainL S.1) = T := ⟨_, rfl⟩
        rw [hTe] at hst ⊢
        obtain ⟨T1, T2⟩ := T
        have hoct : bytesOf (strOfNums T1) = T1 := by
          apply bytesOf_strOf
          obtain ⟨yy, _, he, _⟩ := hst
          intro b hb
          have : b ∈ (bytesOf s).take (i + t) := by rw [← he]; exact List.mem_append_right _ hb
          exact bytesOf_range s b (List.mem_of_mem_take this)
        obtain ⟨k, hk⟩ := ih (i + t) (T1, T2) (strOfNums T1) (by omega) (by omega) hst hoct
        have hpl := plain_len2 S.1
        obtain ⟨k', hk'⟩ := ref_run s hs _ k (t + 1) i t (S.2 ++ plainL S.1) (by omega) (by omega) (by omega) (by rw [List.length_append]; omega) (by
          rw [hTe]
          intro x' hx'
          have : x' = strOfNums T1 := bytesOf_inj (by rw [hx', hoct])
          rw [this]
          exact hk)
        refine ⟨k' + ks + kp + 1, ?_⟩
        have e := l0_long (k' + ks + kp) s S.2 x y i t hlt (by rw [show k' + ks + kp = ks + (k' + kp) from by omega]; exact same_up hks _) h3 (by rw [show k' + ks + kp = kp + (k' + ks) from by omega]; exact plain_up hy _) (by omega)
        rw [hyb] at e
        rw [e, show k' + ks + kp = k' + (ks + kp) from by omega]
        exact l1_up hk' _
    · rw [runs_end (bytesOf s) K i (by omega), List.foldl_nil]
      refine ⟨kp + 1, ?_⟩
      have e := l0_fin kp s S.2 x y i hlt hy (by omega)
      rw [hyb] at e
      exact e
theorem ref_encode (s : ByteArray) : ∃ k, chaseref05_Encode.f k s = some (G05x.res s) := by
  unfold chaseref05_Encode.f G05x.res
  by_cases hs : (s.size : Int) > 65536
  · exact ⟨0, by rw [if_pos hs, if_pos hs]⟩
  · obtain ⟨k, hk⟩ := ref_loop s (by omega) ((bytesOf s).length + 1) 0 ([], []) ⟨#[]⟩ (by rw [bytesOf_length]; omega) (Nat.zero_le _) ⟨[], .nil, by simp, .inl ⟨rfl, rfl⟩⟩ rfl
    refine ⟨k, ?_⟩
    rw [if_neg hs, if_neg hs]
    exact hk
end Go.Proofs.Ytbgndbehceajpaa.R05e
