/- ascii.Hex, walked. -/
import Derived.Test.YtkfhpajnlaomeaaB02
namespace Go.Proofs.Ytkfhpajnlaomeaa.G02h
open Go.RowKit Go.Proofs.YtkfhpajnlaomeaaW.PrintWords Go.Proofs.YtkfhpajnlaomeaaW.PrintLast Go.Proofs.YtkfhpajnlaomeaaW.PrintMore
open Go.Proofs.Ytkfhpajnlaomeaa.K02 Go.Proofs.Ytkfhpajnlaomeaa.B02
set_option linter.unusedVariables false
set_option maxRecDepth 100000
theorem hexL_length (l : List Int) : (hexL l).length = 2 * l.length := by
  induction l with
  | nil => rfl
  | cons b l ih => unfold hexL at ih ⊢; rw [List.flatMap_cons, List.length_append, ih]; simp only [List.length_cons, List.length_nil]; omega
theorem dg_range (n : Int) (h0 : 0 ≤ n) (h1 : n < 16) : 0 ≤ dg n ∧ dg n < 256 := by unfold dg; split <;> omega
theorem hexL_range (l : List Int) (h : ∀ b ∈ l, 0 ≤ b ∧ b < 256) : ∀ b ∈ hexL l, 0 ≤ b ∧ b < 256 := by
  intro b hb
  unfold hexL at hb
  rw [List.mem_flatMap] at hb
  obtain ⟨x, hx, hb⟩ := hb
  have := h x hx
  rcases List.mem_cons.1 hb with rfl | hb
  · exact dg_range _ (by omega) (by omega)
  · rw [List.mem_singleton.1 hb]
    exact dg_range _ (by omega) (by omega)
theorem hexL_snoc (l : List Int) (i : Nat) (h : i < l.length) : hexL (l.take (i + 1)) = (hexL (l.take i) ++ [dg (l.getD i 0 / 16)]) ++ [dg (l.getD i 0 % 16)] := by
  unfold hexL
  rw [List.take_add_one, List.flatMap_append, List.append_assoc]
  simp [List.getElem?_eq_getElem h, List.getD_eq_getElem?_getD]
def hexd : ByteArray := ⟨#[48, 49, 50, 51, 52, 53, 54, 55, 56, 57, 65, 66, 67, 68, 69, 70]⟩
theorem dg_at (n : Nat) (h : n < 16) : ((hexd[n]'(by exact h)).toNat : Int) = dg n := by
  match n, h with
  | 0, _ => rfl | 1, _ => rfl | 2, _ => rfl | 3, _ => rfl | 4, _ => rfl | 5, _ => rfl | 6, _ => rfl | 7, _ => rfl
  | 8, _ => rfl | 9, _ => rfl | 10, _ => rfl | 11, _ => rfl | 12, _ => rfl | 13, _ => rfl | 14, _ => rfl | 15, _ => rfl | n + 16, h => exact absurd h (by omega)
theorem dg_ix (x : Int) (h0 : 0 ≤ x) (h1 : x < 16) : ∀ h, (((⟨#[48, 49, 50, 51, 52, 53, 54, 55, 56, 57, 65, 66, 67, 68, 69, 70]⟩ : ByteArray)[x.toNat]'h).toNat : Int) = dg x := fun h => by
  have := dg_at x.toNat (by omega)
  rw [show ((x.toNat : Nat) : Int) = x by omega] at this
  exact this
theorem hex_walk (s : ByteArray) (r : ByteArray) (e : Int) (w : World) (h : hexRes s = (r, e)) :
    Calls Try.prog 11 #[.string s] w fun x w' => x = .returned (.tuple #[.string r, .int .i64 e]) ∧ Below w.heap.size w w' := by
  unfold hexRes at h
  by_cases hs : (s.size : Int) > 65536
  · rw [if_pos hs] at h
    obtain ⟨rfl, rfl⟩ := Prod.mk.inj h
    have b0 : decide (65536 < s.size) = true := decide_eq_true (by omega)
    clear h
    go_enter Try.func11, Try.ntmps11
    go_wp2_with fail
    go_ret2
    exact ⟨rfl, Below.refl _ _⟩
  · rw [if_neg hs] at h
    have b0 : decide (65536 < s.size) = false := decide_eq_false (by omega)
    have H := Aside0.mk h
    clear h
    go_enter Try.func11, Try.ntmps11
    go_wp2_with fail
    go_loopw [11] (fun v wr => ∃ i : Nat, v = .int .i64 i ∧ i ≤ s.size ∧ Aside0 (Lib.IsBuilder 39 5 w.heap.size w.heap.size (nums .u8 (hexL ((bytesOf s).take i))) wr) ∧ Aside0 (Below w.heap.size w wr)) (fun v _ => s.size - (intOf v).toNat)
    case atStart => exact ⟨0, rfl, Nat.zero_le _, ⟨Lib.fresh_isBuilder 39 5 w⟩, ⟨(Below.refl _ w).alloc (Nat.le_refl _) _⟩⟩
    case round =>
      obtain ⟨i, rfl, hi, HI, HB⟩ := hrel
      by_cases hlt : i < s.size
      · obtain ⟨x, hx⟩ : ∃ x, (bytesOf s).getD i 0 = x := ⟨_, rfl⟩
        have hxr : 0 ≤ x ∧ x < 256 := by
          rw [← hx, List.getD_eq_getElem?_getD, List.getElem?_eq_getElem (by rw [bytesOf_len]; exact hlt)]
          exact bytesOf_range s _ (List.getElem_mem _)
        have q0 : ∀ h, ((s[i]'h).toNat : Int) = x := fun h => by
          rw [← hx]
          unfold bytesOf
          have hml : i < s.data.toList.length := by rw [data_len]; exact hlt
          simp [List.getD_eq_getElem?_getD, List.getElem?_eq_getElem hml]
          rfl
        have q1 : (i : Int) < (s.size : Int) := by omega
        have q2 := dg_ix (x / 16) (by omega) (by omega)
        have q3 := dg_ix (x % 16) (by omega) (by omega)
        have hlen : (hexL ((bytesOf s).take i)).length ≤ 140000 := by rw [hexL_length, List.length_take]; omega
        have hsn := Aside0.mk (hexL_snoc (bytesOf s) i (by rw [bytesOf_len]; exact hlt))
        have hxx := Aside0.mk hx
        obtain ⟨L, hL⟩ : ∃ L, hexL ((bytesOf s).take i) = L := ⟨_, rfl⟩
        rw [hL] at HI hlen
        have HL := Aside0.mk hL
        clear hx hL
        go_wp2_with fail
        refine (write_byte _ _ _ _ _ HI.out (by rw [nums_length]; omega) HB.out.size).mono ?_
        rintro e1 w1 ⟨rfl, h1, hb1⟩
        have H1 := Aside0.mk h1
        have HB1 := Aside0.mk (HB.out.trans hb1)
        clear h1 hb1
        go_wp2_with fail
        refine (write_byte _ _ _ _ _ (.inr H1.out) (by rw [List.length_append, nums_length]; simp; omega) HB1.out.size).mono ?_
        rintro e2 w2 ⟨rfl, h2, hb2⟩
        have H2 := Aside0.mk h2
        have HB2 := Aside0.mk (HB1.out.trans hb2)
        clear h2 hb2
        go_wp2_with fail
        refine ⟨⟨i + 1, by go_num, by omega, ⟨?_⟩, HB2⟩, by simp [intOf]; omega⟩
        rw [hsn.out, hxx.out, HL.out, nums_append, nums_append]
        exact .inr H2.out
      · obtain rfl : i = s.size := by omega
        have hlen : (hexL (bytesOf s)).length ≤ 140000 := by rw [hexL_length, bytesOf_len]; omega
        have hrg := hexL_range (bytesOf s) (bytesOf_range s)
        rw [List.take_of_length_le (by rw [bytesOf_len]; exact Nat.le_refl _)] at HI
        obtain ⟨L, hL⟩ : ∃ L, hexL (bytesOf s) = L := ⟨_, rfl⟩
        rw [hL] at HI hlen hrg H
        clear hL
        have HR := Aside0.mk hrg
        clear hrg
        go_wp2_with fail
        refine (write_byte _ _ _ _ _ HI.out (by rw [nums_length]; omega) HB.out.size).mono ?_
        rintro e1 w1 ⟨rfl, h1, hb1⟩
        have H1 := Aside0.mk h1
        have HB1 := Aside0.mk (HB.out.trans hb1)
        clear h1 hb1
        go_wp2_with fail
        refine (string_nums w.heap.size w.heap.size (L ++ [62]) _ (fun b hb => by
          rcases List.mem_append.1 hb with hb | hb
          · exact HR.out b hb
          · rw [List.mem_singleton.1 hb]; omega) (by rw [nums_append]; exact .inr H1.out) HB1.out.size).mono ?_
        rintro e2 w2 ⟨rfl, hb2⟩
        have HB2 := Aside0.mk (HB1.out.trans hb2)
        clear hb2
        go_wp2_with fail
        refine (bounded_call _ _ r e ?_).mono ?_
        · rw [strOf_size]
          have := H.out
          unfold bnd at this
          by_cases hq : (L ++ [62]).length > 65536
          · rw [if_pos hq] at this
            rw [if_pos (by omega)]; exact this
          · rw [if_neg hq] at this
            rw [if_neg (by omega)]; exact this
        rintro e3 w3 ⟨rfl, rfl⟩
        go_wp2_with fail
        go_ret2
        exact ⟨rfl, HB2.out⟩
end Go.Proofs.Ytkfhpajnlaomeaa.G02h
