/- The law of changed codes of variable width against the reference's Decode, walked (chapter 06). -/
import Derived.Test.YtfkiacbjiledcaaV06e
import Derived.Test.YtfkiacbjiledcaaL06c
import Derived.Test.YtfkiacbjiledcaaG06d
import Derived.Test.YtfkiacbjiledcaaG06f
namespace Go.Proofs.Ytfkiacbjiledcaa.V06d
open Go.RowKit Go.Proofs.YtfkiacbjiledcaaW.PrintWords Go.Proofs.YtfkiacbjiledcaaW.PrintLast Go.Proofs.YtfkiacbjiledcaaW.PrintMore
open Go.Proofs.Ytfkiacbjiledcaa.K06 Go.Proofs.Ytfkiacbjiledcaa.D06 Go.Proofs.Ytfkiacbjiledcaa.V06 Go.Proofs.Ytfkiacbjiledcaa.L06c Go.Proofs.Ytfkiacbjiledcaa.V06e
open Go.Proofs.Ytfkiacbjiledcaa.G06d (dec_call)
open Go.Proofs.Ytfkiacbjiledcaa.G06f (refdec)
set_option linter.unusedVariables false
set_option maxRecDepth 100000
theorem wf16 {a : Int} (h : (Lit.int .u16 a).wf = true) : 0 ≤ a ∧ a ≤ 65535 := by
  simp only [Lit.wf, Bool.and_eq_true, decide_eq_true_eq] at h
  exact h
theorem wf8 {a : Int} (h : (Lit.int .u8 a).wf = true) : 0 ≤ a ∧ a ≤ 255 := by
  simp only [Lit.wf, Bool.and_eq_true, decide_eq_true_eq] at h
  exact h
theorem bytes_frozen (W : World) (e : TypeId) (s : ByteArray) (j : Nat) (hj : j < s.size) : (Lib.bytesWorld W e s).frozen? ⟨W.heap.size, j, none⟩ = false := by
  have h := Lib.bytesWorld_at_new W e s
  have hl : s.size ≤ (Lib.bytesCells W e s).size := by
    unfold Lib.bytesCells
    rw [Array.size_append, Array.size_map]
    exact Nat.le_add_right _ _
  simp only [World.frozen?, h]
  simp
  omega
theorem bytes_cells (W : World) (e : TypeId) (s : ByteArray) (j : Nat) (hj : j < s.size) : (Lib.bytesWorld W e s).cell? ⟨W.heap.size, j, none⟩ = some (.int .u8 ((bytesOf s).getD j 0)) := by
  rw [Lib.bytesWorld_cell W e s j hj]
  unfold bytesOf
  have hml : j < s.data.toList.length := by rw [K06.data_len]; exact hj
  simp [List.getD_eq_getElem?_getD, List.getElem?_eq_getElem hml]
theorem bytes_set (W : World) (e : TypeId) (s : ByteArray) (m : Nat) (v : Int) (hm : m < s.size) (j : Nat) (hj : j < s.size) :
    ((Lib.bytesWorld W e s).setCell ⟨W.heap.size, m, none⟩ (.int .u8 v)).cell? ⟨W.heap.size, j, none⟩ = some (.int .u8 (((bytesOf s).set m v).getD j 0)) := by
  by_cases h : m = j
  · subst h
    rw [World.cell?_setCell_same' _ _ _ (by rw [bytes_cells W e s m hj]; rfl)]
    rw [List.getD_eq_getElem?_getD, List.getElem?_set_self (by rw [K06.bytesOf_len]; exact hj)]
    rfl
  · rw [World.cell?_setCell_other (h := by simp only [ne_eq, Addr.mk.injEq, not_and]; intro _ h2; exact absurd h2 h), bytes_cells W e s j hj, List.getD_eq_getElem?_getD, List.getD_eq_getElem?_getD, List.getElem?_set_ne h]
theorem draft_size {w : World} {A : Option Addr} {n : Nat} {ps : List (Int × Int)} (h : Pairs w A n ps) : (strOfNums (draftL ps)).size ≤ 12800 := by
  have h1 : (draftL ps).length ≤ 256 * (ps.take 50).length := flat_rep _ (fun p hp => by
    obtain ⟨i, hi, rfl⟩ := List.getElem_of_mem (List.mem_of_mem_take hp)
    obtain ⟨_, _, _, _, h4, _⟩ := h.2 i hi
    exact h4.2)
  have h2 : (strOfNums (draftL ps)).size = (draftL ps).length := by
    unfold strOfNums
    simp [ByteArray.size]
  rw [List.length_take] at h1
  omega
set_option maxHeartbeats 2000000 in
theorem decodes_walk (a0 : ByteArray) (a1 : Option Addr) (len1 cap1 : Nat) (z1 : List (Int × Int)) (a2 a3 : Int) (w : World) (w0 : a0.size ≤ 140737488351232) (w1 : Pairs w a1 len1 z1) (y1 : len1 ≤ 9223372036854775807) (w2 : (Lit.int .u16 a2).wf = true) (w3 : (Lit.int .u8 a3).wf = true) :
    Calls Try.prog 4 #[.string a0, .slice a1 len1 cap1, .int .u16 a2, .int .u8 a3] w fun e w' => e = .returned (.bool true) ∧ Below w.heap.size w w' := by
  have s0 := draft_size w1
  have d0 := fun W (hb : Below w.heap.size w W) => draft_walk a1 len1 cap1 z1 W (pairs_below w1 hb) y1
  obtain ⟨A, hA⟩ : ∃ A, strOfNums (draftL z1) = A := ⟨_, rfl⟩
  simp only [hA] at d0
  rw [hA] at s0
  have D0 := Aside0.mk d0
  have eA := R06c.ref_enc A
  rw [enc_ok A (by omega)] at eA
  obtain ⟨kA, eA⟩ := eA.get
  obtain ⟨x0, hx0⟩ : ∃ x0, code A = x0 := ⟨_, rfl⟩
  rw [hx0] at eA
  have EA := Aside0.mk eA
  obtain ⟨p, hp, hp1, hp2⟩ := cut 2900 x0
  simp only [Int.cast_ofNat_Int] at hp
  obtain ⟨x, hx⟩ : ∃ x, x0.extract 0 p = x := ⟨_, rfl⟩
  have hx3 : x.size ≤ 65536 := by rw [← hx, ByteArray.size_extract]; omega
  have x2 : x.size = p := by rw [← hx, ByteArray.size_extract]; omega
  clear d0 w1 hA eA hx0
  obtain ⟨ha0, ha1⟩ := wf16 w2
  obtain ⟨hc0, hc1⟩ := wf8 w3
  obtain ⟨b, hb⟩ : ∃ b, x ++ ⟨#[128]⟩ = b := ⟨_, rfl⟩
  have h1s : (⟨#[128]⟩ : ByteArray).size = 1 := rfl
  have hbs : b.size = p + 1 := by rw [← hb, ByteArray.size_append, x2, h1s]
  obtain ⟨m, hm, hmn⟩ : ∃ m : Nat, a2 % ((p : Int) + 1) = (m : Int) ∧ m < b.size := ⟨(a2 % ((p : Int) + 1)).toNat, by have := Int.emod_nonneg a2 (show (p : Int) + 1 ≠ 0 by omega); omega, by have := Int.emod_lt_of_pos a2 (show (0 : Int) < (p : Int) + 1 by omega); omega⟩
  obtain ⟨n, hn, hn1, hn2⟩ := cut 3000 a0
  simp only [Int.cast_ofNat_Int] at hn
  obtain ⟨s, hse⟩ : ∃ s, a0.extract 0 n = s := ⟨_, rfl⟩
  have hs3 : s.size ≤ 65536 := by rw [← hse, ByteArray.size_extract]; omega
  go_enter Try.func4, Try.ntmps4
  go_wp2_with fail
  refine (works_call _).mono ?_
  rintro e W1 ⟨rfl, hb1⟩
  go_wp2_with fail
  refine (D0.out _ hb1).mono ?_
  rintro e W2 ⟨rfl, hb2⟩
  have c2 := below_step hb1 hb2
  go_wp2_with fail
  refine (P06.chaseref06_Encode.calls _ _ _ _ _ EA.out).mono ?_
  rintro e W3 ⟨rfl, hb3⟩
  have c3 := below_step c2 hb3
  clear hb1 hb2 hb3 c2
  have kb := print_bytes (P := Try.prog) 9 32 5 Try.underlying9 Try.underlying32 Try.underlying5 b W3
  have hf := bytes_frozen W3 5 b m (by omega)
  have hr := bytes_cells W3 5 b m (by omega)
  have kc := fun q => run_convert_bytes_arg (P := Try.prog) (((Lib.bytesWorld W3 5 b).setCell ⟨W3.heap.size, m, none⟩ (.int .u8 a3)).drewN q) 32 5 Try.underlying32 Try.underlying5 W3.heap.size 0 b.size (grownCap W3 b.size 0 5) ((bytesOf b).set m a3) (by rw [List.length_set, bytesOf_len]) (fun i hi => by rw [Nat.zero_add]; exact bytes_set W3 5 b m _ (by omega) i hi) 9 Try.underlying9
  simp only [hbs] at kc
  have hbel := bytes_below (w := W3) (W := W3) (Below.refl _ _) (Nat.le_refl _) 5 b
  have hbel2 := below_step c3 (hbel.setCell (p := ⟨W3.heap.size, m, none⟩) (Nat.le_refl _) (.int .u8 a3))
  clear hbel
  go_wp2_with fail
  clear kb hf hr
  obtain ⟨y, hy⟩ : ∃ y, strOfNums ((bytesOf b).set m a3) = y := ⟨_, rfl⟩
  have hy3 : y.size ≤ 65536 := by rw [← hy, strOf_size, List.length_set, bytesOf_len]; omega
  simp only [hy] at kc
  go_quiet (fail)
  have hb3 := pw_below_drewN hbel2 nq
  have HB3 := Aside0.mk hb3
  clear hb3 hbel2 kc hy
  rw [hm]
  clear hm hn hbs hb
  have i0 : ∀ w, (Instr.index 33 (.agg #[.string s, .string x, .string y]) (.int .i64 0)).run Try.prog w = .ok (.string s) w := fun _ => by kernel_rfl
  have i1 : ∀ w, (Instr.index 33 (.agg #[.string s, .string x, .string y]) (.int .i64 1)).run Try.prog w = .ok (.string x) w := fun _ => by kernel_rfl
  have i2 : ∀ w, (Instr.index 33 (.agg #[.string s, .string x, .string y]) (.int .i64 2)).run Try.prog w = .ok (.string y) w := fun _ => by kernel_rfl
  go_wp2_with fail
  go_loopw [53] (fun v wr => (v = .int .i64 0 ∨ v = .int .i64 1 ∨ v = .int .i64 2 ∨ v = .int .i64 3) ∧ Aside0 (Below w.heap.size w wr)) (fun v _ => 3 - (intOf v).toNat)
  case atStart => exact ⟨.inl rfl, HB3⟩
  case round =>
    obtain ⟨hk, HB⟩ := hrel
    rcases hk with rfl | rfl | rfl | rfl
    · obtain ⟨u, v, e, hz⟩ : ∃ u v e, decRes s = (u, v, e) := ⟨_, _, _, rfl⟩
      have HX := Aside0.mk hz
      clear hz
      have t1 : (u.toList != u.toList) = false := by simp
      have t2 : (e != e) = false := by simp
      have t3 : (v != v) = false := by simp
      go_wp2_with fail
      refine (dec_call _ _ _ _ _ HX.out).mono ?_
      rintro e' w2 ⟨rfl, hb1⟩
      go_wp2_with fail
      refine (refdec _ _ _ _ _ hs3 HX.out).mono ?_
      rintro e' w3 ⟨rfl, hb2⟩
      go_wp2_with fail
      exact ⟨⟨by simp, ⟨below_step (below_step HB.out hb1) hb2⟩⟩, by decide⟩
    · obtain ⟨u, v, e, hz⟩ : ∃ u v e, decRes x = (u, v, e) := ⟨_, _, _, rfl⟩
      have HX := Aside0.mk hz
      clear hz
      have t1 : (u.toList != u.toList) = false := by simp
      have t2 : (e != e) = false := by simp
      have t3 : (v != v) = false := by simp
      go_wp2_with fail
      refine (dec_call _ _ _ _ _ HX.out).mono ?_
      rintro e' w2 ⟨rfl, hb1⟩
      go_wp2_with fail
      refine (refdec _ _ _ _ _ hx3 HX.out).mono ?_
      rintro e' w3 ⟨rfl, hb2⟩
      go_wp2_with fail
      exact ⟨⟨by simp, ⟨below_step (below_step HB.out hb1) hb2⟩⟩, by decide⟩
    · obtain ⟨u, v, e, hz⟩ : ∃ u v e, decRes y = (u, v, e) := ⟨_, _, _, rfl⟩
      have HX := Aside0.mk hz
      clear hz
      have t1 : (u.toList != u.toList) = false := by simp
      have t2 : (e != e) = false := by simp
      have t3 : (v != v) = false := by simp
      go_wp2_with fail
      refine (dec_call _ _ _ _ _ HX.out).mono ?_
      rintro e' w2 ⟨rfl, hb1⟩
      go_wp2_with fail
      refine (refdec _ _ _ _ _ hy3 HX.out).mono ?_
      rintro e' w3 ⟨rfl, hb2⟩
      go_wp2_with fail
      exact ⟨⟨by simp, ⟨below_step (below_step HB.out hb1) hb2⟩⟩, by decide⟩
    · go_wp2_with fail
      go_ret
      exact ⟨rfl, HB.out⟩
end Go.Proofs.Ytfkiacbjiledcaa.V06d
