/- The law AsciiChanges, walked. -/
import Derived.Test.YtkfhpajnlaomeaaV02h
import Derived.Test.YtkfhpajnlaomeaaR02d
namespace Go.Proofs.Ytkfhpajnlaomeaa.V02j
open Go.RowKit Go.Proofs.YtkfhpajnlaomeaaW.PrintWords Go.Proofs.YtkfhpajnlaomeaaW.PrintLast Go.Proofs.YtkfhpajnlaomeaaW.PrintMore
open Go.Proofs.Ytkfhpajnlaomeaa.K02 Go.Proofs.Ytkfhpajnlaomeaa.L02 Go.Proofs.Ytkfhpajnlaomeaa.V02 Go.Proofs.Ytkfhpajnlaomeaa.R02 Go.Proofs.Ytkfhpajnlaomeaa.P02
open Go.Proofs.Ytkfhpajnlaomeaa.V02b (cut)
open Go.Proofs.Ytkfhpajnlaomeaa.V02h (wf8)
open Go.Proofs.Ytkfhpajnlaomeaa.R02c (ref_b85)
open Go.Proofs.Ytkfhpajnlaomeaa.R02d (ref_unb85)
open Go.Proofs.Ytkfhpajnlaomeaa.G02r (unhex_call)
open Go.Proofs.Ytkfhpajnlaomeaa.G02w (unb85_call)
set_option linter.unusedVariables false
set_option maxRecDepth 100000
theorem wf16 {a : Int} (h : (Lit.int .u16 a).wf = true) : 0 ≤ a ∧ a ≤ 65535 := by
  simp only [Lit.wf, Bool.and_eq_true, decide_eq_true_eq] at h
  exact h
theorem bytes_frozen (W : World) (e : TypeId) (s : ByteArray) (j : Nat) (hj : j < s.size) : (Lib.bytesWorld W e s).frozen? ⟨W.heap.size, j, none⟩ = false := by
  have h := Lib.bytesWorld_at_new W e s
  have hl : s.size ≤ (Lib.bytesCells W e s).size := by
    unfold Lib.bytesCells
    rw [Array.size_append, Array.size_map]
    exact Nat.le_add_right _ _
  simp only [World.frozen?, h]
  simp
  omega
theorem bytes_cells (W : World) (e : TypeId) (s : ByteArray) (j : Nat) (hj : j < s.size) : (Lib.bytesWorld W e s).cell? ⟨W.heap.size, j, none⟩ = some (.int .u8 ((bytesOf s).getD j 0)) := by
  rw [Lib.bytesWorld_cell W e s j hj]
  unfold bytesOf
  have hml : j < s.data.toList.length := by rw [data_len]; exact hj
  simp [List.getD_eq_getElem?_getD, List.getElem?_eq_getElem hml]
theorem bytes_set (W : World) (e : TypeId) (s : ByteArray) (m : Nat) (v : Int) (hm : m < s.size) (j : Nat) (hj : j < s.size) :
    ((Lib.bytesWorld W e s).setCell ⟨W.heap.size, m, none⟩ (.int .u8 v)).cell? ⟨W.heap.size, j, none⟩ = some (.int .u8 (((bytesOf s).set m v).getD j 0)) := by
  by_cases h : m = j
  · subst h
    rw [World.cell?_setCell_same' _ _ _ (by rw [bytes_cells W e s m hj]; rfl)]
    rw [List.getD_eq_getElem?_getD, List.getElem?_set_self (by rw [bytesOf_len]; exact hj)]
    rfl
  · rw [World.cell?_setCell_other (h := by simp only [ne_eq, Addr.mk.injEq, not_and]; intro _ h2; exact absurd h2 h), bytes_cells W e s j hj, List.getD_eq_getElem?_getD, List.getD_eq_getElem?_getD, List.getElem?_set_ne h]
theorem bytes_size (W : World) (s : ByteArray) : W.heap.size < (Lib.bytesWorld W 5 s).heap.size := by
  have h := Lib.bytesWorld_at_new W 5 s
  exact (Array.getElem?_eq_some_iff.1 h).1
theorem set_size (W : World) (p : Addr) (v : Value) : W.heap.size ≤ (W.setCell p v).heap.size := (Below.setCell (B := 0) (Below.refl 0 W) (p := p) (Nat.zero_le _) v).size
theorem conv_of (W : World) (s : ByteArray) (m : Nat) (v : Int) (hm : m < s.size) (c : Nat) : ∀ W', Below ((Lib.bytesWorld W 5 s).setCell ⟨W.heap.size, m, none⟩ (.int .u8 v)).heap.size ((Lib.bytesWorld W 5 s).setCell ⟨W.heap.size, m, none⟩ (.int .u8 v)) W' →
    (convert 32 9 (.slice (some ⟨W.heap.size, 0, none⟩) s.size c)).run Try.prog W' = .ok (.string (strOfNums ((bytesOf s).set m v))) W' := by
  intro W' hb
  refine run_convert_bytes_arg (P := Try.prog) W' 32 5 Try.underlying32 Try.underlying5 W.heap.size 0 s.size c ((bytesOf s).set m v) (by rw [List.length_set, bytesOf_len]) (fun i hi => ?_) 9 Try.underlying9
  have hlt := Nat.lt_of_lt_of_le (bytes_size W s) (set_size (Lib.bytesWorld W 5 s) ⟨W.heap.size, m, none⟩ (.int .u8 v))
  rw [hb.cell hlt, Nat.zero_add]
  exact bytes_set W 5 s m v hm i hi
theorem at_of (a : Int) (n : Nat) (hn : 1 ≤ n) : ∃ m : Nat, a % (n : Int) = (m : Int) ∧ m < n :=
  ⟨(a % (n : Int)).toNat, by have := Int.emod_nonneg a (show (n : Int) ≠ 0 by omega); omega, by have := Int.emod_lt_of_pos a (show (0 : Int) < (n : Int) by omega); omega⟩
set_option maxHeartbeats 2000000 in
theorem changes_walk (a0 : ByteArray) (a1 a2 : Int) (w0 : a0.size ≤ 140737488351232) (w1 : (Lit.int .u16 a1).wf = true) (w2 : (Lit.int .u8 a2).wf = true) (w : World) :
    Calls Try.prog 5 #[.string a0, .int .u16 a1, .int .u8 a2] w fun e w' => e = .returned (.bool true) ∧ Below w.heap.size w w' := by
  obtain ⟨hc0, hc1⟩ := wf16 w1
  obtain ⟨hd0, hd1⟩ := wf8 w2
  obtain ⟨n, hn, hn1, hn2⟩ := cut 100 a0
  simp only [Int.cast_ofNat_Int] at hn
  have hs : (a0.extract 0 n).size = n := by rw [ByteArray.size_extract]; omega
  obtain ⟨s, hse⟩ : ∃ s, a0.extract 0 n = s := ⟨_, rfl⟩
  rw [hse] at hs
  obtain ⟨kX, eX⟩ := ref_hex s (by omega)
  rw [hex_ok s (by omega)] at eX
  obtain ⟨kY, eY⟩ := ref_b85 s
  rw [b85_ok s (by omega)] at eY
  have zX := hx_size s
  have zY := bx_size s
  have zY2 := bx_le s
  obtain ⟨X, hX⟩ : ∃ X, L02.hx s = X := ⟨_, rfl⟩
  obtain ⟨Y, hY⟩ : ∃ Y, L02.bx s = Y := ⟨_, rfl⟩
  change chaseref02_Hex.f kX s = some (L02.hx s, 0) at eX
  rw [hX] at eX zX
  rw [hY] at eY zY zY2
  obtain ⟨mX, hmX, hmX2⟩ := at_of a1 X.size (by omega)
  obtain ⟨mY, hmY, hmY2⟩ := at_of a1 Y.size (by omega)
  have qX : X.size ≤ 1000 := by omega
  have qY : Y.size ≤ 1000 := by omega
  have EX := Aside0.mk eX
  have EY := Aside0.mk eY
  have MX := Aside0.mk hmX2
  have MY := Aside0.mk hmY2
  clear eX eY hX hY zX zY zY2 hs
  go_enter Try.func5, Try.ntmps5
  go_wp2_with fail
  refine (works_call _).mono ?_
  rintro e W1 ⟨rfl, hb1⟩
  go_wp2_with fail
  refine (P02.chaseref02_Hex.calls _ _ _ _ _ EX.out).mono ?_
  rintro e W2 ⟨rfl, hb2⟩
  have c2 := below_step hb1 hb2
  go_wp2_with fail
  refine (P02.chaseref02_Base85.calls _ _ _ _ _ EY.out).mono ?_
  rintro e W3 ⟨rfl, hb3⟩
  have c3 := below_step c2 hb3
  clear hb1 hb2 hb3 c2 hse hn
  have i0 : ∀ w, (Instr.index 24 (.agg #[.string X, .string Y]) (.int .i64 0)).run Try.prog w = .ok (.string X) w := fun _ => by kernel_rfl
  have i1 : ∀ w, (Instr.index 24 (.agg #[.string X, .string Y]) (.int .i64 1)).run Try.prog w = .ok (.string Y) w := fun _ => by kernel_rfl
  go_wp2_with fail
  try (conv in Act.put _ _ _ => simp [Act.put])
  go_loopw [40] (fun v wr => (v = .int .i64 0 ∨ v = .int .i64 1 ∨ v = .int .i64 2) ∧ Aside0 (Below w.heap.size w wr)) (fun v _ => 2 - (intOf v).toNat)
  case atStart => exact ⟨.inl rfl, ⟨c3⟩⟩
  case round =>
    obtain ⟨hk, HB⟩ := hrel
    rcases hk with rfl | rfl | rfl
    · have kb := print_bytes (P := Try.prog) 9 32 5 Try.underlying9 Try.underlying32 Try.underlying5 X wr
      have hf := bytes_frozen wr 5 X mX MX.out
      have hr := bytes_cells wr 5 X mX MX.out
      have hbel := bytes_below (w := wr) (W := wr) (Below.refl _ _) (Nat.le_refl _) 5 X
      have hbel2 := below_step HB.out (hbel.setCell (p := ⟨wr.heap.size, mX, none⟩) (Nat.le_refl _) (.int .u8 a2))
      clear hbel
      have kc := conv_of wr X mX a2 MX.out (grownCap wr X.size 0 5)
      obtain ⟨y, hy⟩ : ∃ y, strOfNums ((bytesOf X).set mX a2) = y := ⟨_, rfl⟩
      simp only [hy] at kc
      clear hy
      have kc0 := kc _ (Below.refl _ _)
      have hm := hmX
      obtain ⟨kA, urA⟩ := ref_unhex y
      obtain ⟨cA, pA, gA, uxA⟩ : ∃ c p g, unhexRes y = (c, p, g) := ⟨_, _, _, rfl⟩
      rw [uxA] at urA
      have UXA := Aside0.mk uxA
      have URA := Aside0.mk urA
      clear uxA urA
      have t3A : (cA.toList != cA.toList) = false := by simp
      have t4A : (pA != pA) = false := by simp
      have t5A : (gA != gA) = false := by simp
      obtain ⟨kB, urB⟩ := ref_unb85 y
      obtain ⟨cB, pB, gB, uxB⟩ : ∃ c p g, unb85Res y = (c, p, g) := ⟨_, _, _, rfl⟩
      rw [uxB] at urB
      have UXB := Aside0.mk uxB
      have URB := Aside0.mk urB
      clear uxB urB
      have t3B : (cB.toList != cB.toList) = false := by simp
      have t4B : (pB != pB) = false := by simp
      have t5B : (gB != gB) = false := by simp
      go_wp2_with fail
      refine (unhex_call _ _ _ _ _ UXA.out).mono ?_
      rintro e' w2 ⟨rfl, hb1⟩
      have kc1 := kc _ hb1
      go_wp2_with fail
      refine (P02.chaseref02_Unhex.calls _ _ _ _ _ _ URA.out).mono ?_
      rintro e' w3 ⟨rfl, hb2⟩
      have hb2 := below_step hb1 hb2
      have kc2 := kc _ hb2
      go_wp2_with fail
      refine (unb85_call _ _ _ _ _ UXB.out).mono ?_
      rintro e' w4 ⟨rfl, hb3⟩
      have hb3 := below_step hb2 hb3
      have kc3 := kc _ hb3
      go_wp2_with fail
      refine (P02.chaseref02_Unbase85.calls _ _ _ _ _ _ URB.out).mono ?_
      rintro e' w5 ⟨rfl, hb4⟩
      have hb4 := below_step hb3 hb4
      go_wp2_with fail
      exact ⟨⟨by simp, ⟨below_step hbel2 hb4⟩⟩, by decide⟩
    · have kb := print_bytes (P := Try.prog) 9 32 5 Try.underlying9 Try.underlying32 Try.underlying5 Y wr
      have hf := bytes_frozen wr 5 Y mY MY.out
      have hr := bytes_cells wr 5 Y mY MY.out
      have hbel := bytes_below (w := wr) (W := wr) (Below.refl _ _) (Nat.le_refl _) 5 Y
      have hbel2 := below_step HB.out (hbel.setCell (p := ⟨wr.heap.size, mY, none⟩) (Nat.le_refl _) (.int .u8 a2))
      clear hbel
      have kc := conv_of wr Y mY a2 MY.out (grownCap wr Y.size 0 5)
      obtain ⟨y, hy⟩ : ∃ y, strOfNums ((bytesOf Y).set mY a2) = y := ⟨_, rfl⟩
      simp only [hy] at kc
      clear hy
      have kc0 := kc _ (Below.refl _ _)
      have hm := hmY
      obtain ⟨kA, urA⟩ := ref_unhex y
      obtain ⟨cA, pA, gA, uxA⟩ : ∃ c p g, unhexRes y = (c, p, g) := ⟨_, _, _, rfl⟩
      rw [uxA] at urA
      have UXA := Aside0.mk uxA
      have URA := Aside0.mk urA
      clear uxA urA
      have t3A : (cA.toList != cA.toList) = false := by simp
      have t4A : (pA != pA) = false := by simp
      have t5A : (gA != gA) = false := by simp
      obtain ⟨kB, urB⟩ := ref_unb85 y
      obtain ⟨cB, pB, gB, uxB⟩ : ∃ c p g, unb85Res y = (c, p, g) := ⟨_, _, _, rfl⟩
      rw [uxB] at urB
      have UXB := Aside0.mk uxB
      have URB := Aside0.mk urB
      clear uxB urB
      have t3B : (cB.toList != cB.toList) = false := by simp
      have t4B : (pB != pB) = false := by simp
      have t5B : (gB != gB) = false := by simp
      go_wp2_with fail
      refine (unhex_call _ _ _ _ _ UXA.out).mono ?_
      rintro e' w2 ⟨rfl, hb1⟩
      have kc1 := kc _ hb1
      go_wp2_with fail
      refine (P02.chaseref02_Unhex.calls _ _ _ _ _ _ URA.out).mono ?_
      rintro e' w3 ⟨rfl, hb2⟩
      have hb2 := below_step hb1 hb2
      have kc2 := kc _ hb2
      go_wp2_with fail
      refine (unb85_call _ _ _ _ _ UXB.out).mono ?_
      rintro e' w4 ⟨rfl, hb3⟩
      have hb3 := below_step hb2 hb3
      have kc3 := kc _ hb3
      go_wp2_with fail
      refine (P02.chaseref02_Unbase85.calls _ _ _ _ _ _ URB.out).mono ?_
      rintro e' w5 ⟨rfl, hb4⟩
      have hb4 := below_step hb3 hb4
      go_wp2_with fail
      exact ⟨⟨by simp, ⟨below_step hbel2 hb4⟩⟩, by decide⟩
    · go_wp2_with fail
      go_ret
      exact ⟨rfl, HB.out⟩
end Go.Proofs.Ytkfhpajnlaomeaa.V02j
