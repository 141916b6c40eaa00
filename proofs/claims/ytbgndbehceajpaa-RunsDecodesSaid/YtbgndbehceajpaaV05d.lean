/- The law of changed codes of runs against the reference, walked. -/
import Derived.Test.YtbgndbehceajpaaV05
import Derived.Test.YtbgndbehceajpaaR05e
namespace Go.Proofs.Ytbgndbehceajpaa.V05d
open Go.RowKit Go.Proofs.YtbgndbehceajpaaW.PrintWords Go.Proofs.YtbgndbehceajpaaW.PrintLast Go.Proofs.YtbgndbehceajpaaW.PrintMore
open Go.Proofs.Ytbgndbehceajpaa.G05d Go.Proofs.Ytbgndbehceajpaa.K05 Go.Proofs.Ytbgndbehceajpaa.L05 Go.Proofs.Ytbgndbehceajpaa.V05 Go.Proofs.Ytbgndbehceajpaa.R05e Go.Proofs.Ytbgndbehceajpaa.R05
set_option linter.unusedVariables false
set_option maxRecDepth 100000
theorem wf16 {a : Int} (h : (Lit.int .u16 a).wf = true) : 0 ≤ a ∧ a ≤ 65535 := by
  simp only [Lit.wf, Bool.and_eq_true, decide_eq_true_eq] at h
  exact h
theorem wf8 {a : Int} (h : (Lit.int .u8 a).wf = true) : 0 ≤ a ∧ a ≤ 255 := by
  simp only [Lit.wf, Bool.and_eq_true, decide_eq_true_eq] at h
  exact h
theorem bytes_frozen (W : World) (e : TypeId) (s : ByteArray) (j : Nat) (hj : j < s.size) : (Lib.bytesWorld W e s).frozen? ⟨W.heap.size, j, none⟩ = false := by
  have h := Lib.bytesWorld_at_new W e s
  have hl : s.size ≤ (Lib.bytesCells W e s).size := by
    unfold Lib.bytesCells
    rw [Array.size_append, Array.size_map]
    exact Nat.le_add_right _ _
  simp only [World.frozen?, h]
  simp
  omega
theorem data_len (s : ByteArray) : s.data.toList.length = s.size := rfl
theorem bytes_cells (W : World) (e : TypeId) (s : ByteArray) (j : Nat) (hj : j < s.size) : (Lib.bytesWorld W e s).cell? ⟨W.heap.size, j, none⟩ = some (.int .u8 ((bytesOf s).getD j 0)) := by
  rw [Lib.bytesWorld_cell W e s j hj]
  unfold bytesOf
  have hml : j < s.data.toList.length := by rw [data_len]; exact hj
  simp [List.getD_eq_getElem?_getD, List.getElem?_eq_getElem hml]
theorem bytes_set (W : World) (e : TypeId) (s : ByteArray) (m : Nat) (v : Int) (hm : m < s.size) (j : Nat) (hj : j < s.size) :
    ((Lib.bytesWorld W e s).setCell ⟨W.heap.size, m, none⟩ (.int .u8 v)).cell? ⟨W.heap.size, j, none⟩ = some (.int .u8 (((bytesOf s).set m v).getD j 0)) := by
  by_cases h : m = j
  · subst h
    rw [World.cell?_setCell_same' _ _ _ (by rw [bytes_cells W e s m hj]; rfl)]
    rw [List.getD_eq_getElem?_getD, List.getElem?_set_self (by rw [show (bytesOf s).length = s.size by unfold bytesOf; simp]; exact hj)]
    rfl
  · rw [World.cell?_setCell_other (h := by simp only [ne_eq, Addr.mk.injEq, not_and]; intro _ h2; exact absurd h2 h), bytes_cells W e s j hj, List.getD_eq_getElem?_getD, List.getD_eq_getElem?_getD, List.getElem?_set_ne h]
theorem bytesOf_len (s : ByteArray) : (bytesOf s).length = s.size := by unfold bytesOf; simp
set_option maxHeartbeats 1000000 in
theorem decodes_walk (a0 : ByteArray) (a1 : Option Addr) (len1 cap1 : Nat) (z1 : List (Int × Int)) (a2 a3 : Int) (w : World) (w0 : a0.size ≤ 140737488351232) (w1 : Pairs w a1 len1 z1) (y1 : len1 ≤ 9223372036854775807) (w2 : (Lit.int .u16 a2).wf = true) (w3 : (Lit.int .u8 a3).wf = true) :
    Calls Try.prog 4 #[.string a0, .slice a1 len1 cap1, .int .u16 a2, .int .u8 a3] w fun e w' => e = .returned (.bool true) ∧ Below w.heap.size w w' := by
  have s0 := draft_size w1
  have d0 := fun W (hb : Below w.heap.size w W) => draft_walk a1 len1 cap1 z1 W (Pairs.below w1 hb) y1
  obtain ⟨A, hA⟩ : ∃ A, strOfNums (draftL z1) = A := ⟨_, rfl⟩
  simp only [hA] at d0
  rw [hA] at s0
  have D0 := Aside0.mk d0
  have eA := ref_encode A
  rw [enc_ok A (by omega)] at eA
  have zA := code_size A
  obtain ⟨x, hx⟩ : ∃ x, code A = x := ⟨_, rfl⟩
  rw [hx] at eA zA
  obtain ⟨kA, eA⟩ := eA
  have EA := Aside0.mk eA
  clear d0 w1 hA eA hx
  obtain ⟨ha0, ha1⟩ := wf16 w2
  obtain ⟨hc0, hc1⟩ := wf8 w3
  have x1 : 1 ≤ x.size := zA.1
  have x2 : x.size ≤ 13000 := by omega
  clear zA s0
  obtain ⟨b, hb⟩ : ∃ b, x ++ x = b := ⟨_, rfl⟩
  have hbs : b.size = x.size + x.size := by rw [← hb, ByteArray.size_append]
  obtain ⟨m, hm, hmn⟩ : ∃ m : Nat, a2 % ((x.size : Int) + (x.size : Int)) = (m : Int) ∧ m < b.size := ⟨(a2 % ((x.size : Int) + (x.size : Int))).toNat, by have := Int.emod_nonneg a2 (show (x.size : Int) + (x.size : Int) ≠ 0 by omega); omega, by have := Int.emod_lt_of_pos a2 (show (0 : Int) < (x.size : Int) + (x.size : Int) by omega); omega⟩
  obtain ⟨n, hn, hn1, hn2⟩ := cut 70000 a0
  simp only [Int.cast_ofNat_Int] at hn
  obtain ⟨s, hse⟩ : ∃ s, a0.extract 0 n = s := ⟨_, rfl⟩
  go_enter Try.func4, Try.ntmps4
  go_wp2_with fail
  refine (works_call _).mono ?_
  rintro e W1 ⟨rfl, hb1⟩
  go_wp2_with fail
  refine (D0.out _ hb1).mono ?_
  rintro e W2 ⟨rfl, hb2⟩
  have c2 := below_step hb1 hb2
  go_wp2_with fail
  refine (P05.chaseref05_Encode.calls _ _ _ _ _ EA.out).mono ?_
  rintro e W3 ⟨rfl, hb3⟩
  have c3 := below_step c2 hb3
  clear hb1 hb2 hb3 c2
  have kb := print_bytes (P := Try.prog) 9 32 5 Try.underlying9 Try.underlying32 Try.underlying5 b W3
  have hf := bytes_frozen W3 5 b m (by omega)
  have hr := bytes_cells W3 5 b m (by omega)
  have kc := fun q => run_convert_bytes_arg (P := Try.prog) (((Lib.bytesWorld W3 5 b).setCell ⟨W3.heap.size, m, none⟩ (.int .u8 a3)).drewN q) 32 5 Try.underlying32 Try.underlying5 W3.heap.size 0 b.size (grownCap W3 b.size 0 5) ((bytesOf b).set m a3) (by rw [List.length_set, bytesOf_len]) (fun i hi => by rw [Nat.zero_add]; exact bytes_set W3 5 b m _ (by omega) i hi) 9 Try.underlying9
  simp only [hbs] at kc
  have hbel := bytes_below (w := W3) (W := W3) (Below.refl _ _) (Nat.le_refl _) 5 b
  have hbel2 := below_step c3 (hbel.setCell (p := ⟨W3.heap.size, m, none⟩) (Nat.le_refl _) (.int .u8 a3))
  clear hbel
  go_wp2_with fail
  clear kb hf hr
  obtain ⟨y, hy⟩ : ∃ y, strOfNums ((bytesOf b).set m a3) = y := ⟨_, rfl⟩
  simp only [hy] at kc
  go_quiet (fail)
  have hb3 := pw_below_drewN hbel2 nq
  have HB3 := Aside0.mk hb3
  clear hb3 hbel2 kc hy
  rw [hm]
  clear hm hn hbs hb
  have i0 : ∀ w, (Instr.index 33 (.agg #[.string s, .string x, .string y]) (.int .i64 0)).run Try.prog w = .ok (.string s) w := fun _ => by kernel_rfl
  have i1 : ∀ w, (Instr.index 33 (.agg #[.string s, .string x, .string y]) (.int .i64 1)).run Try.prog w = .ok (.string x) w := fun _ => by kernel_rfl
  have i2 : ∀ w, (Instr.index 33 (.agg #[.string s, .string x, .string y]) (.int .i64 2)).run Try.prog w = .ok (.string y) w := fun _ => by kernel_rfl
  go_wp2_with fail
  go_loopw [49] (fun v wr => (v = .int .i64 0 ∨ v = .int .i64 1 ∨ v = .int .i64 2 ∨ v = .int .i64 3) ∧ Aside0 (Below w.heap.size w wr)) (fun v _ => 3 - (intOf v).toNat)
  case atStart => exact ⟨.inl rfl, HB3⟩
  case round =>
    obtain ⟨hk, HB⟩ := hrel
    rcases hk with rfl | rfl | rfl | rfl
    · obtain ⟨k, hr⟩ := ref_decode s
      obtain ⟨u, v, e, hx⟩ : ∃ u v e, G05.res s = (u, v, e) := ⟨_, _, _, rfl⟩
      rw [hx] at hr
      have HX := Aside0.mk hx
      have HR := Aside0.mk hr
      clear hx hr
      have t1 : (u.toList != u.toList) = false := by simp
      have t2 : (e != e) = false := by simp
      have t3 : (v != v) = false := by simp
      go_wp2_with fail
      refine (dec_call _ _ _ _ _ HX.out).mono ?_
      rintro e' w2 ⟨rfl, hb1⟩
      go_wp2_with fail
      refine (P05.chaseref05_Decode.calls _ _ _ _ _ _ HR.out).mono ?_
      rintro e' w3 ⟨rfl, hb2⟩
      go_wp2_with fail
      exact ⟨⟨by simp, ⟨below_step (below_step HB.out hb1) hb2⟩⟩, by decide⟩
    · obtain ⟨k, hr⟩ := ref_decode x
      obtain ⟨u, v, e, hx⟩ : ∃ u v e, G05.res x = (u, v, e) := ⟨_, _, _, rfl⟩
      rw [hx] at hr
      have HX := Aside0.mk hx
      have HR := Aside0.mk hr
      clear hx hr
      have t1 : (u.toList != u.toList) = false := by simp
      have t2 : (e != e) = false := by simp
      have t3 : (v != v) = false := by simp
      go_wp2_with fail
      refine (dec_call _ _ _ _ _ HX.out).mono ?_
      rintro e' w2 ⟨rfl, hb1⟩
      go_wp2_with fail
      refine (P05.chaseref05_Decode.calls _ _ _ _ _ _ HR.out).mono ?_
      rintro e' w3 ⟨rfl, hb2⟩
      go_wp2_with fail
      exact ⟨⟨by simp, ⟨below_step (below_step HB.out hb1) hb2⟩⟩, by decide⟩
    · obtain ⟨k, hr⟩ := ref_decode y
      obtain ⟨u, v, e, hx⟩ : ∃ u v e, G05.res y = (u, v, e) := ⟨_, _, _, rfl⟩
      rw [hx] at hr
      have HX := Aside0.mk hx
      have HR := Aside0.mk hr
      clear hx hr
      have t1 : (u.toList != u.toList) = false := by simp
      have t2 : (e != e) = false := by simp
      have t3 : (v != v) = false := by simp
      go_wp2_with fail
      refine (dec_call _ _ _ _ _ HX.out).mono ?_
      rintro e' w2 ⟨rfl, hb1⟩
      go_wp2_with fail
      refine (P05.chaseref05_Decode.calls _ _ _ _ _ _ HR.out).mono ?_
      rintro e' w3 ⟨rfl, hb2⟩
      go_wp2_with fail
      exact ⟨⟨by simp, ⟨below_step (below_step HB.out hb1) hb2⟩⟩, by decide⟩
    · go_wp2_with fail
      go_ret
      exact ⟨rfl, HB.out⟩
end Go.Proofs.Ytbgndbehceajpaa.V05d
