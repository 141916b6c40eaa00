/- The walks of the laws on the cipher: each returns true for every string and every key. -/
import Derived.Test.YtggckbdjmliciaaK32
namespace Go.Proofs.Ytggckbdjmliciaa.V32
open Go.RowKit Go.Proofs.Ytggckbdjmliciaa.G32 Go.Proofs.Ytggckbdjmliciaa.PR Go.Proofs.Ytggckbdjmliciaa.K32 Go.Proofs.YtggckbdjmliciaaW.PrintWords Go.Proofs.YtggckbdjmliciaaW.PrintLast Go.Proofs.YtggckbdjmliciaaW.PrintMore
set_option linter.unusedVariables false
set_option maxRecDepth 100000
theorem wf16 {a : Int} (h : (Lit.int .u16 a).wf = true) : 0 ≤ a ∧ a ≤ 65535 := by
  simp only [Lit.wf, Bool.and_eq_true, decide_eq_true_eq] at h
  exact h
theorem wf8 {a : Int} (h : (Lit.int .u8 a).wf = true) : 0 ≤ a ∧ a ≤ 255 := by
  simp only [Lit.wf, Bool.and_eq_true, decide_eq_true_eq] at h
  exact h
theorem cut (m : Nat) (s : ByteArray) : ∃ n : Nat, (if (m:Int) < (s.size:Int) then (m:Int) else (s.size:Int)) = (n:Int) ∧ n ≤ s.size ∧ n ≤ m := by
  split
  · exact ⟨m, rfl, by omega, by omega⟩
  · exact ⟨s.size, rfl, by omega, by omega⟩
theorem back_walk (a0 : ByteArray) (a1 : Int) (w0 : a0.size ≤ 140737488351232) (w1 : (Lit.int .u16 a1).wf = true) (w : World) :
    Calls Try.prog 5 #[.string a0, .int .u16 a1] w fun e w' => e = .returned (.bool true) ∧ Below w.heap.size w w' := by
  obtain ⟨hk0, hk1⟩ := wf16 w1
  obtain ⟨n, hn, hn1, hn2⟩ := cut 1000 a0
  simp only [Int.cast_ofNat_Int] at hn
  have HW := Aside0.mk works_true
  have hs : (a0.extract 0 n).size = n := by rw [ByteArray.size_extract]; omega
  obtain ⟨s, hse⟩ : ∃ s, a0.extract 0 n = s := ⟨_, rfl⟩
  rw [hse] at hs
  have hx := enc_size s a1
  have he := enc_some s a1 (by omega) hk0 hk1
  have hd := dec_enc s a1 (by omega) hk0 hk1
  obtain ⟨x, hxx⟩ : ∃ x, strOfNums (run sealS a1 (lst s)).1 = x := ⟨_, rfl⟩
  rw [hxx] at he hd hx
  have t1 : ((x.size : Int) == (s.size : Int) + 4) = true := by rw [hx]; simp
  have t2 : (s.toList == s.toList) = true := by simp
  have HS := Aside0.mk hs
  have hs2 : s.size ≤ 1000 := by omega
  have HX := Aside0.mk hx
  have HE := Aside0.mk he
  have HD := Aside0.mk hd
  clear hx he hd hxx hs
  go_enter Try.func5, Try.ntmps5
  go_wp2_with (first | (go_at_call 9; refine (chaselaw32_works.calls true _ HW.out).mono ?_; rintro e w1 ⟨rfl, hb0⟩) | (go_at_call 10; refine (cipher_Encrypt.calls _ _ _ _ _ HE.out).mono ?_; rintro e w2 ⟨rfl, hb1⟩) | (go_at_call 12; refine (cipher_Decrypt.calls _ _ _ _ _ HD.out).mono ?_; rintro e w3 ⟨rfl, hb2⟩))
  go_ret
  exact ⟨rfl, below_step (below_step hb0 hb1) hb2⟩
theorem str_take (l : List Int) (n : Nat) : (strOfNums l).extract 0 n = strOfNums (l.take n) := by
  apply ByteArray.ext
  unfold strOfNums
  rw [ByteArray.data_extract]
  apply Array.ext'
  simp only [Array.toList_extract, List.extract_eq_take_drop, List.map_take, List.drop_zero, Nat.sub_zero]
theorem lst_take (s : ByteArray) (m : Nat) : lst (s.extract 0 m) = (lst s).take (m + 4) := by
  unfold lst
  rw [bytesOf_extract, List.drop_zero]
  rfl
theorem prefix_true (x y : ByteArray) (h : y.size ≤ x.size) (h2 : x.extract 0 y.size = y) : strings_HasPrefix.f x y = some true := by
  unfold strings_HasPrefix.f stringslite_HasPrefix.f
  rw [if_pos (by omega), if_pos (by omega), if_pos (by omega), Int.toNat_natCast, h2]
  simp
theorem parts_walk (a0 : ByteArray) (a1 a2 : Int) (w0 : a0.size ≤ 140737488351232) (w1 : (Lit.int .u16 a1).wf = true) (w2 : (Lit.int .u16 a2).wf = true) (w : World) :
    Calls Try.prog 7 #[.string a0, .int .u16 a1, .int .u16 a2] w fun e w' => e = .returned (.bool true) ∧ Below w.heap.size w w' := by
  obtain ⟨hk0, hk1⟩ := wf16 w1
  obtain ⟨ha0, ha1⟩ := wf16 w2
  obtain ⟨n, hn, hn1, hn2⟩ := cut 1000 a0
  simp only [Int.cast_ofNat_Int] at hn
  have HW := Aside0.mk works_true
  have hs : (a0.extract 0 n).size = n := by rw [ByteArray.size_extract]; omega
  obtain ⟨s, hse⟩ : ∃ s, a0.extract 0 n = s := ⟨_, rfl⟩
  rw [hse] at hs
  have hs2 : s.size ≤ 1000 := by omega
  obtain ⟨m, hm, hmn⟩ : ∃ m : Nat, a2 % ((n : Int) + 1) = (m : Int) ∧ m ≤ n := ⟨(a2 % ((n : Int) + 1)).toNat, by have := Int.emod_nonneg a2 (show (n : Int) + 1 ≠ 0 by omega); omega, by have := Int.emod_lt_of_pos a2 (show (0 : Int) < (n : Int) + 1 by omega); omega⟩
  have HE := Aside0.mk (enc_some s a1 (by omega) hk0 hk1)
  have HE2 := Aside0.mk (enc_some (s.extract 0 m) a1 (by rw [ByteArray.size_extract]; omega) hk0 hk1)
  have HP : strings_HasPrefix.f (strOfNums (run sealS a1 (lst s)).1) (strOfNums (run sealS a1 (lst (s.extract 0 m))).1) = some true := by
    have h1 := enc_size s a1
    have h2 := enc_size (s.extract 0 m) a1
    have h3 : (s.extract 0 m).size = m := by rw [ByteArray.size_extract]; omega
    refine prefix_true _ _ (by omega) ?_
    rw [h2, h3, str_take, ← run_take, lst_take]
  obtain ⟨x, hxx⟩ : ∃ x, strOfNums (run sealS a1 (lst s)).1 = x := ⟨_, rfl⟩
  obtain ⟨y, hyy⟩ : ∃ y, strOfNums (run sealS a1 (lst (s.extract 0 m))).1 = y := ⟨_, rfl⟩
  rw [hxx] at HE HP
  rw [hyy] at HE2 HP
  have HQ := Aside0.mk HP
  clear HP hxx hyy
  go_enter Try.func7, Try.ntmps7
  go_wp2_with (first | (go_at_call 9; refine (chaselaw32_works.calls true _ HW.out).mono ?_; rintro e w1 ⟨rfl, hb0⟩))
  refine (cipher_Encrypt.calls _ _ _ _ _ HE.out).mono ?_
  rintro e w2 ⟨rfl, hb1⟩
  go_wp2_with fail
  refine (cipher_Encrypt.calls _ _ _ _ _ HE2.out).mono ?_
  rintro e w3 ⟨rfl, hb2⟩
  go_wp2_with fail
  refine (strings_HasPrefix.calls _ _ true _ HQ.out).mono ?_
  rintro e w4 ⟨rfl, hb3⟩
  go_wp2
  go_ret
  exact ⟨rfl, below_step (below_step (below_step hb0 hb1) hb2) hb3.below⟩
def Row8 (W : World) (b n : Nat) (l : List Int) : Prop := ∀ i, i < n → W.cell? ⟨b, i, none⟩ = some (.int .u8 (l.getD i 0)) ∧ W.frozen? ⟨b, i, none⟩ = false
theorem xor_swap (c b k : Int) (hc0 : 0 ≤ c) (hc1 : c ≤ 255) (hb0 : 0 ≤ b) (hb1 : b ≤ 255) (hk0 : 0 ≤ k) (hk1 : k ≤ 255) : bits .xor .u8 (bits .xor .u8 c b) k = bits .xor .u8 (bits .xor .u8 c k) b := by
  have h1 := xor_range c b
  have h2 := xor_range c k
  rw [u8_xor c b hc0 (by omega) hb0 (by omega)] at h1 ⊢
  rw [u8_xor c k hc0 (by omega) hk0 (by omega)] at h2 ⊢
  rw [u8_xor _ k h1.1 (by omega) hk0 (by omega), u8_xor _ b h2.1 (by omega) hb0 (by omega), Int.toNat_natCast, Int.toNat_natCast, Nat.xor_assoc, Nat.xor_comm b.toNat, ← Nat.xor_assoc]
theorem run_split (st : Int → Int → Int × Int) (A : List Int) : ∀ r B, run st r (A ++ B) = ((run st r A).1 ++ (run st (run st r A).2 B).1, (run st (run st r A).2 B).2) := by
  induction A with
  | nil => intro r B; rfl
  | cons x A ih => intro r B; simp [run, ih]
/-- A changed octet changes that octet, and none before it. -/
theorem bent (L P : List Int) (r b : Int) (m : Nat) (hm : m < L.length) (hL : Octs L) (hP : (run openS r L).1 = P) (hr0 : 0 ≤ r) (hr1 : r ≤ 65535) (hb0 : 0 ≤ b) (hb1 : b ≤ 255) :
    (run openS r (L.set m (bits .xor .u8 (L.getD m 0) b))).1.take m = P.take m ∧ (run openS r (L.set m (bits .xor .u8 (L.getD m 0) b))).1.getD m 0 = bits .xor .u8 (P.getD m 0) b := by
  obtain ⟨A, c, B, rfl, hA⟩ : ∃ A c B, L = A ++ c :: B ∧ A.length = m := ⟨L.take m, L[m], L.drop (m + 1), by rw [← List.drop_eq_getElem_cons hm, List.take_append_drop], by rw [List.length_take]; omega⟩
  have hg : (A ++ c :: B).getD m 0 = c := by subst hA; simp
  have hs : ∀ v, (A ++ c :: B).set m v = A ++ v :: B := by intro v; subst hA; simp
  rw [hg, hs]
  rw [run_split] at hP ⊢
  have hl : (run openS r A).1.length = m := by rw [run_length, hA]
  have hc := hL c (by simp)
  have hk := run_bounds openS good_opn A (fun p hp => hL p (by simp [hp])) r hr0 hr1
  subst hP
  constructor
  · rw [List.take_append_of_le_length (by omega), List.take_append_of_le_length (by omega)]
  · simp only [run, openS]
    have e : ∀ v l, ((run openS r A).1 ++ v :: l).getD m 0 = v := by intro v l; rw [← hl]; simp
    rw [e, e]
    exact xor_swap c b _ hc.1 hc.2 hb0 hb1 (by omega) (by omega)
theorem bt_getD (s : ByteArray) (i : Nat) : bt s (i : Int) = (bytesOf s).getD i 0 := by
  have := rd_bytesOf s (i : Int)
  simpa [rd] using this.symm
theorem octs_set (L : List Int) (h : Octs L) (m : Nat) (v : Int) (hv : 0 ≤ v ∧ v ≤ 255) : Octs (L.set m v) := by
  intro p hp
  rcases List.mem_or_eq_of_mem_set hp with h1 | rfl
  · exact h p h1
  · exact hv
/-- What the decryption of the changed text is. -/
theorem bent_text (s : ByteArray) (key b : Int) (m : Nat) (hs : s.size ≤ 1000) (hm : m < s.size + 4) (h0 : 0 ≤ key) (h1 : key ≤ 65535) (hb0 : 0 ≤ b) (hb1 : b ≤ 255) :
    ∃ y, cipher_Decrypt.f (strOfNums ((run sealS key (lst s)).1.set m (bits .xor .u8 ((run sealS key (lst s)).1.getD m 0) b))) key = some (y, 0) ∧ y.size = s.size ∧
      (4 ≤ m → y.extract 0 (m - 4) = s.extract 0 (m - 4) ∧ bt y ((m - 4 : Nat) : Int) = bits .xor .u8 (bt s ((m - 4 : Nat) : Int)) b) := by
  have hL := run_octs sealS good_seal _ _ h0 h1 (octs_lst s)
  have hlen : (run sealS key (lst s)).1.length = s.size + 4 := by rw [run_length]; unfold lst; rw [List.length_append, bytesOf_length]; simp; omega
  obtain ⟨k1, k2⟩ := bent (run sealS key (lst s)).1 (lst s) key b m (by omega) hL (back _ key h0 h1 (octs_lst s)) h0 h1 hb0 hb1
  obtain ⟨L, hLe⟩ : ∃ L, (run sealS key (lst s)).1 = L := ⟨_, rfl⟩
  rw [hLe] at hL hlen k1 k2 ⊢
  obtain ⟨v, hv⟩ : ∃ v, bits .xor .u8 (L.getD m 0) b = v := ⟨_, rfl⟩
  have hvr : 0 ≤ v ∧ v ≤ 255 := by rw [← hv]; exact xor_range _ _
  rw [hv] at k1 k2 ⊢
  have hO := octs_set L hL m v hvr
  have hz : (strOfNums (L.set m v)).size = s.size + 4 := by rw [strOfNums_size, List.length_set, hlen]
  refine ⟨_, dec_some _ key (by omega) (by omega) h0 h1, ?_, ?_⟩
  · rw [strOfNums_size, List.length_drop, run_length, bytesOf_length, hz]; omega
  · intro h4
    rw [bytesOf_str _ hO]
    have hD := run_octs openS good_opn _ _ h0 h1 hO
    obtain ⟨D, hDe⟩ : ∃ D, (run openS key (L.set m v)).1 = D := ⟨_, rfl⟩
    rw [hDe] at k1 k2 hD ⊢
    have hdl : (lst s).drop 4 = bytesOf s := rfl
    constructor
    · apply bytesOf_inj
      rw [str_take, bytesOf_str, bytesOf_extract, List.drop_zero]
      · rw [← hdl, ← List.drop_take, ← List.drop_take, k1]
      · intro p hp
        exact hD p (List.mem_of_mem_drop (List.mem_of_mem_take hp))
    · rw [bt_getD, bytesOf_str _ (fun p hp => hD p (List.mem_of_mem_drop hp)), bt_getD, ← hdl]
      have e : ∀ l : List Int, (l.drop 4).getD (m - 4) 0 = l.getD m 0 := by
        intro l
        rw [List.getD_eq_getElem?_getD, List.getD_eq_getElem?_getD, List.getElem?_drop, show 4 + (m - 4) = m from by omega]
      rw [e, e, k2]
theorem bytes_frozen (W : World) (e : TypeId) (s : ByteArray) (j : Nat) (hj : j < s.size) : (Lib.bytesWorld W e s).frozen? ⟨W.heap.size, j, none⟩ = false := by
  have h := Lib.bytesWorld_at_new W e s
  have hl : s.size ≤ (Lib.bytesCells W e s).size := by
    unfold Lib.bytesCells
    rw [Array.size_append, Array.size_map]
    exact Nat.le_add_right _ _
  simp only [World.frozen?, h]
  simp
  omega
theorem bytes_cells (W : World) (e : TypeId) (s : ByteArray) (j : Nat) (hj : j < s.size) : (Lib.bytesWorld W e s).cell? ⟨W.heap.size, j, none⟩ = some (.int .u8 ((bytesOf s).getD j 0)) := by
  rw [Lib.bytesWorld_cell W e s j hj]
  unfold bytesOf
  have hml : j < s.data.toList.length := by rw [data_length]; exact hj
  simp [List.getD_eq_getElem?_getD, List.getElem?_eq_getElem hml]
theorem bytes_set (W : World) (e : TypeId) (s : ByteArray) (m : Nat) (v : Int) (hm : m < s.size) (j : Nat) (hj : j < s.size) :
    ((Lib.bytesWorld W e s).setCell ⟨W.heap.size, m, none⟩ (.int .u8 v)).cell? ⟨W.heap.size, j, none⟩ = some (.int .u8 (((bytesOf s).set m v).getD j 0)) := by
  by_cases h : m = j
  · subst h
    rw [World.cell?_setCell_same' _ _ _ (by rw [bytes_cells W e s m hj]; rfl)]
    rw [List.getD_eq_getElem?_getD, List.getElem?_set_self (by rw [bytesOf_length]; exact hj)]
    rfl
  · rw [World.cell?_setCell_other (h := by simp only [ne_eq, Addr.mk.injEq, not_and]; intro _ h2; exact absurd h2 h), bytes_cells W e s j hj, List.getD_eq_getElem?_getD, List.getD_eq_getElem?_getD, List.getElem?_set_ne h]
theorem change_walk (a0 : ByteArray) (a1 a2 a3 : Int) (w0 : a0.size ≤ 140737488351232) (w1 : (Lit.int .u16 a1).wf = true) (w2 : (Lit.int .u16 a2).wf = true) (w3 : (Lit.int .u8 a3).wf = true) (w : World) :
    Calls Try.prog 6 #[.string a0, .int .u16 a1, .int .u16 a2, .int .u8 a3] w fun e w' => e = .returned (.bool true) ∧ Below w.heap.size w w' := by
  obtain ⟨hk0, hk1⟩ := wf16 w1
  obtain ⟨ha0, ha1⟩ := wf16 w2
  obtain ⟨hc0, hc1⟩ := wf8 w3
  obtain ⟨n, hn, hn1, hn2⟩ := cut 1000 a0
  simp only [Int.cast_ofNat_Int] at hn
  have HW := Aside0.mk works_true
  have hs : (a0.extract 0 n).size = n := by rw [ByteArray.size_extract]; omega
  obtain ⟨s, hse⟩ : ∃ s, a0.extract 0 n = s := ⟨_, rfl⟩
  rw [hse] at hs
  have hs2 : s.size ≤ 1000 := by omega
  obtain ⟨m, hm, hmn⟩ : ∃ m : Nat, a2 % ((n : Int) + 4) = (m : Int) ∧ m < n + 4 := ⟨(a2 % ((n : Int) + 4)).toNat, by have := Int.emod_nonneg a2 (show (n : Int) + 4 ≠ 0 by omega); omega, by have := Int.emod_lt_of_pos a2 (show (0 : Int) < (n : Int) + 4 by omega); omega⟩
  have HE := Aside0.mk (enc_some s a1 (by omega) hk0 hk1)
  have hx := enc_size s a1
  obtain ⟨y, hd, hy, hyy⟩ := bent_text s a1 (1 + a3 % 255) m hs2 (by omega) hk0 hk1 (by omega) (by omega)
  have hL := bytesOf_str _ (run_octs sealS good_seal _ _ hk0 hk1 (octs_lst s))
  obtain ⟨x, hxx⟩ : ∃ x, strOfNums (run sealS a1 (lst s)).1 = x := ⟨_, rfl⟩
  rw [hxx] at HE hx hL
  rw [← hL, ← bt_getD] at hd
  clear hxx hL
  have HD := Aside0.mk hd
  clear hd
  rw [hs] at hx hy
  have HX := Aside0.mk hx
  go_enter Try.func6, Try.ntmps6
  go_wp2_with (first | (go_at_call 9; refine (chaselaw32_works.calls true _ HW.out).mono ?_; rintro e w1 ⟨rfl, hb0⟩))
  refine (cipher_Encrypt.calls _ _ _ _ _ HE.out).mono ?_
  rintro e w2 ⟨rfl, hb1⟩
  have kb := print_bytes (P := Try.prog) 9 30 5 Try.underlying9 Try.underlying30 Try.underlying5 x w2
  have hr := Lib.bytesWorld_cell w2 5 x m (by omega)
  have hbt : ((x.data.toList.getD m 0).toNat : Int) = bt x (m : Int) := by
    rw [bt_getD]; unfold bytesOf
    have hml : m < x.data.toList.length := by rw [data_length]; omega
    simp [List.getD_eq_getElem?_getD, List.getElem?_eq_getElem hml]
  rw [hbt] at hr
  clear hbt
  have hf := bytes_frozen w2 5 x m (by omega)
  have kc := run_convert_bytes_arg (P := Try.prog) ((Lib.bytesWorld w2 5 x).setCell ⟨w2.heap.size, m, none⟩ (.int .u8 (bits .xor .u8 (bt x (m : Int)) (1 + a3 % 255)))) 30 5 Try.underlying30 Try.underlying5 w2.heap.size 0 x.size (grownCap w2 x.size 0 5) ((bytesOf x).set m (bits .xor .u8 (bt x (m : Int)) (1 + a3 % 255))) (by rw [List.length_set, bytesOf_length]) (fun i hi => by rw [Nat.zero_add]; exact bytes_set w2 5 x m _ (by omega) i hi) 9 Try.underlying9
  rw [hx] at kc
  have hbr := bt_range x (m : Int)
  have hbel := bytes_below (w := w2) (W := w2) (Below.refl _ _) (Nat.le_refl _) 5 x
  have hbel2 := hbel.setCell (p := ⟨w2.heap.size, m, none⟩) (Nat.le_refl _) (.int .u8 (bits .xor .u8 (bt x (m : Int)) (1 + a3 % 255)))
  by_cases h4 : m < 4
  · clear hyy hbel
    go_wp2_with fail
    refine (cipher_Decrypt.calls _ _ _ _ _ HD.out).mono ?_
    rintro e w3 ⟨rfl, hb2⟩
    go_wp2_with fail
    go_ret
    exact ⟨rfl, below_step (below_step (below_step hb0 hb1) hbel2) hb2⟩
  · obtain ⟨h5, h6⟩ := hyy (by omega)
    clear hyy hbel
    have h4' : decide ((m : Int) < 4) = false := by simp; omega
    go_wp2_with fail
    refine (cipher_Decrypt.calls _ _ _ _ _ HD.out).mono ?_
    rintro e w3 ⟨rfl, hb2⟩
    have hbel3 := below_step (below_step (below_step hb0 hb1) hbel2) hb2
    clear kb kc hr hf hb0 hb1 hbel2 hb2 hbr HD HE HX
    have e1 : ((m : Int) - 4) = ((m - 4 : Nat) : Int) := by omega
    obtain ⟨i, hi⟩ : ∃ i, m - 4 = i := ⟨_, rfl⟩
    rw [hi] at h5 h6 e1
    have i1 : (i : Int) < (y.size : Int) := by omega
    have i2 : (i : Int) < (s.size : Int) := by omega
    have i3 : (0 : Int) ≤ (i : Int) := by omega
    have b1 := bt_at y (i : Int)
    have b2 := bt_at s (i : Int)
    rw [Int.toNat_natCast] at b1 b2
    have l1 : i < y.size := by omega
    have l2 : i < s.size := by omega
    clear hi
    have b3 := b1 l1
    have b4 := b2 l2
    clear b1 b2
    have t1 : ((y.extract 0 i).toList == (s.extract 0 i).toList) = true := by rw [h5]; simp
    have b5 := bt_range s (i : Int)
    go_wp2_with fail
    go_quiet (fail)
    go_wp2
    go_ret
    exact ⟨rfl, pw_below_drewN hbel3 _⟩
theorem seals_walk (a0 : ByteArray) (a1 a2 : Int) (w0 : a0.size ≤ 140737488351232) (w1 : (Lit.int .i64 a1).wf = true) (w2 : (Lit.int .u16 a2).wf = true) (w : World) :
    Calls Try.prog 3 #[.string a0, .int .i64 a1, .int .u16 a2] w fun e w' => e = .returned (.bool true) ∧ Below w.heap.size w w' := by
  obtain ⟨ha0, ha1⟩ := wf16 w2
  obtain ⟨n, hn, hn1, hn2⟩ := cut 66000 a0
  simp only [Int.cast_ofNat_Int] at hn
  have HW := Aside0.mk works_true
  obtain ⟨s, hse⟩ : ∃ s, a0.extract 0 n = s := ⟨_, rfl⟩
  go_enter Try.func3, Try.ntmps3
  go_wp2_with (first | (go_at_call 9; refine (chaselaw32_works.calls true _ HW.out).mono ?_; rintro e w1 ⟨rfl, hb0⟩))
  have hz : ∀ K, ∃ r : ByteArray × Int, cipher_Encrypt.f s K = some (r.1, r.2) ∧ chaseref32_Encrypt.f 70000 s K = some (r.1, r.2) := by
    intro K
    rw [ref_enc]
    have : ∃ r, cipher_Encrypt.f s K = some r := by unfold cipher_Encrypt.f; split <;> (try split) <;> exact ⟨_, rfl⟩
    obtain ⟨r, hr⟩ := this
    exact ⟨r, by rw [hr], by rw [hr]⟩
  have i0 : ∀ w, (Instr.index 24 (.agg #[.int .i64 a1, .int .i64 a2, .int .i64 55665]) (.int .i64 0)).run Try.prog w = .ok (.int .i64 a1) w := fun _ => by kernel_rfl
  have i1 : ∀ w, (Instr.index 24 (.agg #[.int .i64 a1, .int .i64 a2, .int .i64 55665]) (.int .i64 1)).run Try.prog w = .ok (.int .i64 a2) w := fun _ => by kernel_rfl
  have i2 : ∀ w, (Instr.index 24 (.agg #[.int .i64 a1, .int .i64 a2, .int .i64 55665]) (.int .i64 2)).run Try.prog w = .ok (.int .i64 55665) w := fun _ => by kernel_rfl
  go_loopw [24] (fun v wr => (v = .int .i64 0 ∨ v = .int .i64 1 ∨ v = .int .i64 2 ∨ v = .int .i64 3) ∧ Aside0 (Below w.heap.size w wr)) (fun v _ => 3 - (intOf v).toNat)
  case atStart => exact ⟨.inl rfl, ⟨hb0⟩⟩
  case round =>
    obtain ⟨hk, HB⟩ := hrel
    rcases hk with rfl | rfl | rfl | rfl
    · obtain ⟨⟨x, e⟩, HE, HF⟩ := hz a1
      have HE' := Aside0.mk HE
      have HF' := Aside0.mk HF
      clear HE HF hz
      have t1 : (x.toList != x.toList) = false := by simp
      have t2 : (e != e) = false := by simp
      go_wp2_with fail
      refine (cipher_Encrypt.calls _ _ _ _ _ HE'.out).mono ?_
      rintro e' w2 ⟨rfl, hb1⟩
      go_wp2_with fail
      refine (chaseref32_Encrypt.calls _ _ _ _ _ _ HF'.out).mono ?_
      rintro e' w3 ⟨rfl, hb2⟩
      go_wp2_with fail
      exact ⟨⟨by simp, ⟨below_step (below_step HB.out hb1) hb2⟩⟩, by decide⟩
    · obtain ⟨⟨x, e⟩, HE, HF⟩ := hz a2
      have HE' := Aside0.mk HE
      have HF' := Aside0.mk HF
      clear HE HF hz
      have t1 : (x.toList != x.toList) = false := by simp
      have t2 : (e != e) = false := by simp
      go_wp2_with fail
      refine (cipher_Encrypt.calls _ _ _ _ _ HE'.out).mono ?_
      rintro e' w2 ⟨rfl, hb1⟩
      go_wp2_with fail
      refine (chaseref32_Encrypt.calls _ _ _ _ _ _ HF'.out).mono ?_
      rintro e' w3 ⟨rfl, hb2⟩
      go_wp2_with fail
      exact ⟨⟨by simp, ⟨below_step (below_step HB.out hb1) hb2⟩⟩, by decide⟩
    · obtain ⟨⟨x, e⟩, HE, HF⟩ := hz 55665
      have HE' := Aside0.mk HE
      have HF' := Aside0.mk HF
      clear HE HF hz
      have t1 : (x.toList != x.toList) = false := by simp
      have t2 : (e != e) = false := by simp
      go_wp2_with fail
      refine (cipher_Encrypt.calls _ _ _ _ _ HE'.out).mono ?_
      rintro e' w2 ⟨rfl, hb1⟩
      go_wp2_with fail
      refine (chaseref32_Encrypt.calls _ _ _ _ _ _ HF'.out).mono ?_
      rintro e' w3 ⟨rfl, hb2⟩
      go_wp2_with fail
      exact ⟨⟨by simp, ⟨below_step (below_step HB.out hb1) hb2⟩⟩, by decide⟩
    · go_wp2_with fail
      go_ret
      exact ⟨rfl, HB.out⟩
theorem opens_walk (a0 : ByteArray) (a1 a2 : Int) (w0 : a0.size ≤ 140737488351232) (w1 : (Lit.int .i64 a1).wf = true) (w2 : (Lit.int .u16 a2).wf = true) (w : World) :
    Calls Try.prog 4 #[.string a0, .int .i64 a1, .int .u16 a2] w fun e w' => e = .returned (.bool true) ∧ Below w.heap.size w w' := by
  obtain ⟨ha0, ha1⟩ := wf16 w2
  obtain ⟨n, hn, hn1, hn2⟩ := cut 66000 a0
  simp only [Int.cast_ofNat_Int] at hn
  have HW := Aside0.mk works_true
  obtain ⟨s, hse⟩ : ∃ s, a0.extract 0 n = s := ⟨_, rfl⟩
  go_enter Try.func4, Try.ntmps4
  go_wp2_with (first | (go_at_call 9; refine (chaselaw32_works.calls true _ HW.out).mono ?_; rintro e w1 ⟨rfl, hb0⟩))
  have hz : ∀ K, ∃ r : ByteArray × Int, cipher_Decrypt.f s K = some (r.1, r.2) ∧ chaseref32_Decrypt.f 70000 s K = some (r.1, r.2) := by
    intro K
    rw [ref_dec]
    have : ∃ r, cipher_Decrypt.f s K = some r := by unfold cipher_Decrypt.f; split <;> (try split) <;> exact ⟨_, rfl⟩
    obtain ⟨r, hr⟩ := this
    exact ⟨r, by rw [hr], by rw [hr]⟩
  have i0 : ∀ w, (Instr.index 24 (.agg #[.int .i64 a1, .int .i64 a2, .int .i64 4330]) (.int .i64 0)).run Try.prog w = .ok (.int .i64 a1) w := fun _ => by kernel_rfl
  have i1 : ∀ w, (Instr.index 24 (.agg #[.int .i64 a1, .int .i64 a2, .int .i64 4330]) (.int .i64 1)).run Try.prog w = .ok (.int .i64 a2) w := fun _ => by kernel_rfl
  have i2 : ∀ w, (Instr.index 24 (.agg #[.int .i64 a1, .int .i64 a2, .int .i64 4330]) (.int .i64 2)).run Try.prog w = .ok (.int .i64 4330) w := fun _ => by kernel_rfl
  go_loopw [24] (fun v wr => (v = .int .i64 0 ∨ v = .int .i64 1 ∨ v = .int .i64 2 ∨ v = .int .i64 3) ∧ Aside0 (Below w.heap.size w wr)) (fun v _ => 3 - (intOf v).toNat)
  case atStart => exact ⟨.inl rfl, ⟨hb0⟩⟩
  case round =>
    obtain ⟨hk, HB⟩ := hrel
    rcases hk with rfl | rfl | rfl | rfl
    · obtain ⟨⟨x, e⟩, HE, HF⟩ := hz a1
      have HE' := Aside0.mk HE
      have HF' := Aside0.mk HF
      clear HE HF hz
      have t1 : (x.toList != x.toList) = false := by simp
      have t2 : (e != e) = false := by simp
      go_wp2_with fail
      refine (cipher_Decrypt.calls _ _ _ _ _ HE'.out).mono ?_
      rintro e' w2 ⟨rfl, hb1⟩
      go_wp2_with fail
      refine (chaseref32_Decrypt.calls _ _ _ _ _ _ HF'.out).mono ?_
      rintro e' w3 ⟨rfl, hb2⟩
      go_wp2_with fail
      exact ⟨⟨by simp, ⟨below_step (below_step HB.out hb1) hb2⟩⟩, by decide⟩
    · obtain ⟨⟨x, e⟩, HE, HF⟩ := hz a2
      have HE' := Aside0.mk HE
      have HF' := Aside0.mk HF
      clear HE HF hz
      have t1 : (x.toList != x.toList) = false := by simp
      have t2 : (e != e) = false := by simp
      go_wp2_with fail
      refine (cipher_Decrypt.calls _ _ _ _ _ HE'.out).mono ?_
      rintro e' w2 ⟨rfl, hb1⟩
      go_wp2_with fail
      refine (chaseref32_Decrypt.calls _ _ _ _ _ _ HF'.out).mono ?_
      rintro e' w3 ⟨rfl, hb2⟩
      go_wp2_with fail
      exact ⟨⟨by simp, ⟨below_step (below_step HB.out hb1) hb2⟩⟩, by decide⟩
    · obtain ⟨⟨x, e⟩, HE, HF⟩ := hz 4330
      have HE' := Aside0.mk HE
      have HF' := Aside0.mk HF
      clear HE HF hz
      have t1 : (x.toList != x.toList) = false := by simp
      have t2 : (e != e) = false := by simp
      go_wp2_with fail
      refine (cipher_Decrypt.calls _ _ _ _ _ HE'.out).mono ?_
      rintro e' w2 ⟨rfl, hb1⟩
      go_wp2_with fail
      refine (chaseref32_Decrypt.calls _ _ _ _ _ _ HF'.out).mono ?_
      rintro e' w3 ⟨rfl, hb2⟩
      go_wp2_with fail
      exact ⟨⟨by simp, ⟨below_step (below_step HB.out hb1) hb2⟩⟩, by decide⟩
    · go_wp2_with fail
      go_ret
      exact ⟨rfl, HB.out⟩
end Go.Proofs.Ytggckbdjmliciaa.V32
