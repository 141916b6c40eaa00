/- The law of runs of equal octets, walked. -/
import Derived.Test.YtbgndbehceajpaaV05
import Derived.Test.YtbgndbehceajpaaL05k
import Derived.Test.YtbgndbehceajpaaShelf
namespace Go.Proofs.Ytbgndbehceajpaa.V05s
open Go.RowKit Go.Proofs.YtbgndbehceajpaaW.PrintWords Go.Proofs.YtbgndbehceajpaaW.PrintLast Go.Proofs.YtbgndbehceajpaaW.PrintMore
open Go.Proofs.Ytbgndbehceajpaa.G05d Go.Proofs.Ytbgndbehceajpaa.K05 Go.Proofs.Ytbgndbehceajpaa.L05 Go.Proofs.Ytbgndbehceajpaa.L05k Go.Proofs.Ytbgndbehceajpaa.V05 Go.Proofs.Ytbgndbehceajpaa.G05x
set_option linter.unusedVariables false
set_option maxRecDepth 100000
theorem wf16 {a : Int} (h : (Lit.int .u16 a).wf = true) : 0 ≤ a ∧ a ≤ 65535 := by
  simp only [Lit.wf, Bool.and_eq_true, decide_eq_true_eq] at h
  exact h
theorem wf8 {a : Int} (h : (Lit.int .u8 a).wf = true) : 0 ≤ a ∧ a ≤ 255 := by
  simp only [Lit.wf, Bool.and_eq_true, decide_eq_true_eq] at h
  exact h
theorem code_enc (s : ByteArray) : bytesOf (code s) = encL (bytesOf s) := by
  obtain ⟨c, e, hr, hl⟩ := enc_recs (bytesOf s)
  unfold code
  rw [bytesOf_strOf]
  intro b hb
  rw [e, List.mem_append] at hb
  rcases hb with hb | hb
  · exact hr.octets (bytesOf_range s) b hb
  · rw [List.mem_singleton.1 hb]; omega
theorem rep_call (s : ByteArray) (c : Nat) (w : World) (hlen : s.size * c ≤ 100000000) (hc : c ≤ 1000000) :
    Calls Try.prog 15 #[.string s, .int .i64 c] w fun e w' => e = .returned (.string (rep s c)) ∧ Below w.heap.size w w' :=
  Try.strings_Repeat s c w (by omega) (by omega)
theorem shrinks_walk (a0 a1 : Int) (w0 : (Lit.int .u8 a0).wf = true) (w1 : (Lit.int .u16 a1).wf = true) (w : World) :
    Calls Try.prog 7 #[.int .u8 a0, .int .u16 a1] w fun e w' => e = .returned (.bool true) ∧ Below w.heap.size w w' := by
  obtain ⟨hc0, hc1⟩ := wf8 w0
  obtain ⟨hn0, hn1⟩ := wf16 w1
  obtain ⟨m, hm⟩ : ∃ m : Nat, a1 % 5000 = (m : Int) := ⟨(a1 % 5000).toNat, by omega⟩
  have hm2 : m < 5000 := by omega
  have hs : (strOfNums [a0]).size = 1 := rfl
  have hb : bytesOf (strOfNums [a0]) = [a0] := bytesOf_strOf _ (fun b h => by rw [List.mem_singleton.1 h]; omega)
  obtain ⟨s, hse⟩ : ∃ s, strOfNums [a0] = s := ⟨_, rfl⟩
  rw [hse] at hs hb
  obtain ⟨n, hn⟩ : ∃ n : Nat, 3 + (m : Int) = (n : Int) := ⟨3 + m, by omega⟩
  have hn3 : 3 ≤ n := by omega
  have hn4 : n ≤ 5002 := by omega
  have hbr : bytesOf (rep s n) = List.replicate n a0 := by
    have : s = ⟨#[UInt8.ofNat a0.toNat]⟩ := bytesOf_inj (by rw [hb]; unfold bytesOf; simp; omega)
    rw [this, rep_one]
    congr 1
    simp; omega
  have hzr : (rep s n).size = n := by rw [rep_size, hs, Nat.mul_one]
  obtain ⟨hl, R, hR⟩ := enc_rep a0 n hn3
  rw [← hbr] at hl hR
  have hX := enc_ok (rep s n) (by omega)
  obtain ⟨x, hx⟩ : ∃ x, code (rep s n) = x := ⟨_, rfl⟩
  rw [hx] at hX
  have hxb : bytesOf x = encL (bytesOf (rep s n)) := by rw [← hx]; exact code_enc _
  rw [← hxb] at hl hR
  rw [bytesOf_length] at hl
  have b0 : bt x 0 = 257 - (min n 128 : Nat) := by
    have := bytesOf_cons x 0 (by omega)
    rw [hR] at this
    exact (List.cons.inj this).1.symm
  have b1 : bt x 1 = a0 := by
    have := bytesOf_cons x 1 (by omega)
    rw [hR] at this
    exact (List.cons.inj this).1.symm
  have q0 : ∀ h : 0 < x.size, ((x[0]'h).toNat : Int) = 257 - min (n : Int) 128 := fun h => by
    have := bt_at x 0 h
    rw [b0] at this
    rw [show (257 : Int) - min (n : Int) 128 = 257 - (min n 128 : Nat) by omega]
    exact this
  have q1 : ∀ h : 1 < x.size, ((x[1]'h).toNat : Int) = a0 := fun h => by
    have := bt_at x 1 h
    rw [b1] at this
    exact this
  have RC := Aside0.mk (fun W => rep_call s n W (by rw [hs]; omega) (by omega))
  have XC := Aside0.mk hX
  clear hX hR hxb hx
  go_enter Try.func7, Try.ntmps7
  go_wp2_with fail
  refine (works_call _).mono ?_
  rintro e W1 ⟨rfl, hb1⟩
  go_wp2_with fail
  have kc := run_convert_bytes_arg (P := Try.prog) (W1.alloc (Obj.cells #[Value.int .u8 a0] 5)) 32 5 Try.underlying32 Try.underlying5 W1.heap.size 0 1 1 [a0] rfl (fun i hi => by
    obtain rfl : i = 0 := by omega
    exact blk_cell (World.alloc_heap_new W1 _) 0) 9 Try.underlying9
  rw [hse] at kc

  go_wp2_with fail
  rw [kc]
  go_wp2_with fail
  refine (RC.out _).mono ?_
  rintro e W2 ⟨rfl, hb2⟩
  go_wp2_with fail
  refine (enc_call _ _ _ _ XC.out).mono ?_
  rintro e W3 ⟨rfl, hb3⟩
  have c3 := below_step (below_step (below_step hb1 ((Below.refl W1.heap.size W1).alloc (Nat.le_refl _) (Obj.cells #[Value.int .u8 a0] 5))) hb2) hb3
  clear hb1 hb2 hb3 kc
  go_wp2_with fail
  go_ret
  exact ⟨rfl, c3⟩
end Go.Proofs.Ytbgndbehceajpaa.V05s
