/- runs.Decode returns, for every string, what the Lean function runs_Decode.f says. -/
import Derived.Test.YtbgndbehceajpaaProg
import Derived.WalkKit
import Derived.KernelRfl
import Derived.Deep.LoopGhost
import Derived.Deep.QuietTactic
import Derived.BigQuiet
import Derived.Deep.DeepCutAuto
import Derived.Test.YtbgndbehceajpaaWWords
import Derived.Test.YtbgndbehceajpaaWLast
import Derived.Test.YtbgndbehceajpaaWMore
namespace Go.Proofs.Ytbgndbehceajpaa.G05
open Go.RowKit Go.Proofs.YtbgndbehceajpaaW.PrintWords Go.Proofs.YtbgndbehceajpaaW.PrintLast Go.Proofs.YtbgndbehceajpaaW.PrintMore
set_option linter.unusedVariables false
set_option maxRecDepth 100000
theorem info5 : (Try.prog.info? 5).map (fun i => (i.zero, i.size, i.bytes)) = some (some (.int .u8 0), 1, 1) := by kernel_rfl

/-- What a coded string denotes from an index on, behind what has been read, and where it ends; none: it is malformed. -/
def dec (s : ByteArray) : Nat → Nat → List Int → Option (List Int × Nat)
  | 0, _, _ => none
  | k + 1, i, out =>
    if i < s.size then
      if bt s i = 128 then some (out, i + 1)
      else if bt s i < 128 then
        if s.size < i + 2 + (bt s i).toNat then none
        else dec s k (i + 2 + (bt s i).toNat) (out ++ bytesOf (s.extract (i + 1) (i + 2 + (bt s i).toNat)))
      else if i + 1 = s.size then none
      else dec s k (i + 2) (out ++ List.replicate (257 - (bt s i).toNat) (bt s (i + 1 : Nat)))
    else none
def fin : Option (List Int × Nat) → ByteArray × Int × Int
  | none => (⟨#[]⟩, 0, 5)
  | some (out, i) => if out.length > 65536 then (⟨#[]⟩, 0, 3) else (strOfNums out, i, 0)
def res (s : ByteArray) : ByteArray × Int × Int :=
  if (s.size : Int) > 65536 then (⟨#[]⟩, 0, 3) else fin (dec s (s.size + 1) 0 [])
theorem fin_long (out : List Int) (i : Nat) (h : out.length > 65536) : fin (some (out, i)) = (⟨#[]⟩, 0, 3) := by unfold fin; exact if_pos h
theorem fin_ok (out : List Int) (i : Nat) (h : ¬ out.length > 65536) : fin (some (out, i)) = (strOfNums out, (i : Int), 0) := by unfold fin; exact if_neg h
theorem fin_none : fin none = (⟨#[]⟩, 0, 5) := rfl
theorem dec_long (s : ByteArray) (w : World) (hs : (s.size : Int) > 65536) :
    Calls Try.prog 13 #[.string s] w fun e w' => e = .returned (.tuple #[.string (⟨#[]⟩ : ByteArray), .int .i64 0, .int .i64 3]) ∧ Below w.heap.size w w' := by
  have b0 : decide (65536 < s.size) = true := decide_eq_true (by omega)
  go_enter Try.func13, Try.ntmps13
  go_wp2
  go_step3
  go_wp2
  rw [Exit.noGoto_ret]
  go_ret3
  exact ⟨rfl, Below.refl _ _⟩
def Own8 (W : World) (base : Nat) (v : Value) (l : List Int) : Prop := W.ownsRow base 5 1 v l.length (nums .u8 l)
theorem dec_short (s : ByteArray) (w : World) (hs : s.size ≤ 65536) (D : Option (List Int × Nat)) (hD : dec s (s.size + 1) 0 [] = D) (r1 : ByteArray) (r2 r3 : Int) (hfin : fin D = (r1, r2, r3)) :
    Calls Try.prog 13 #[.string s] w fun e w' => e = .returned (.tuple #[.string r1, .int .i64 r2, .int .i64 r3]) ∧ Below w.heap.size w w' := by
  have b0 : decide (65536 < s.size) = false := decide_eq_false (by omega)
  have HD := Aside0.mk hD
  have HF := Aside0.mk hfin
  clear hD hfin
  go_enter Try.func13, Try.ntmps13
  go_wp2
  go_step3
  go_wp2
  go_step3
  go_wp2
  go_loopw [5, 6, 7] (fun v5 v6 v7 wr => ∃ (k i : Nat) (out : List Int), v6 = .int .i64 i ∧ v7 = .bool false ∧ i ≤ s.size ∧ Aside0 (s.size < k + i) ∧ Aside0 (out.length ≤ 129 * i) ∧ Aside0 (dec s k i out = D) ∧ Aside0 (Own8 wr w.heap.size v5 out) ∧ Aside0 (Below w.heap.size w wr)) (fun _ v6 _ _ => s.size - (intOf v6).toNat)
  case atStart => exact ⟨s.size + 1, 0, [], rfl, rfl, Nat.zero_le _, ⟨by omega⟩, ⟨by simp⟩, HD, ⟨own_nil _ _ _ _⟩, ⟨Below.refl _ _⟩⟩
  case round =>
    obtain ⟨k, i, out, rfl, rfl, hi, HK, HL, HA, HO, HB⟩ := hrel
    clear HD
    obtain ⟨k, rfl⟩ : ∃ m, k = m + 1 := ⟨k - 1, by have := HK.out; omega⟩
    have hA := HA.out
    unfold dec at hA
    by_cases hlt : i < s.size
    · rw [if_pos hlt] at hA
      have hx := bt_at s (i : Int)
      rw [Int.toNat_natCast] at hx
      have hxx := hx hlt
      have hbr := bt_range s (i : Int)
      obtain ⟨n, hn⟩ : ∃ n : Nat, bt s (i : Int) = (n : Int) := ⟨(bt s (i : Int)).toNat, by omega⟩
      have hln : (s[i].toNat : Int) = (n : Int) := by rw [hxx, hn]
      rw [hn] at hA hbr
      rw [Int.toNat_natCast] at hA
      clear hx hxx
      have hn2 : n ≤ 255 := by omega
      by_cases c1 : n = 128
      · rw [if_pos (by omega)] at hA
        have q1 : ((n : Int) == 128) = true := by simp; omega
        clear HA hn HK HL
        have hcv := own_string (P := Try.prog) Try.underlying32 Try.underlying5 Try.underlying9 HO.out
        obtain ⟨A, c, rfl⟩ := own_slice HO.out
        subst hA
        have hF := HF.out
        clear HF
        by_cases hl : out.length > 65536
        · rw [fin_long _ _ hl] at hF
          simp only [Prod.mk.injEq] at hF
          obtain ⟨rfl, rfl, rfl⟩ := hF
          have q2 : decide (65536 < out.length) = true := decide_eq_true (by omega)
          go_wp2
          rw [Exit.noGoto_ret]
          go_ret3
          exact ⟨rfl, HB.out⟩
        · rw [fin_ok _ _ hl] at hF
          simp only [Prod.mk.injEq] at hF
          obtain ⟨rfl, rfl, rfl⟩ := hF
          have q2 : decide (65536 < out.length) = false := decide_eq_false (by omega)
          go_wp2
          rw [Exit.noGoto_ret]
          go_ret3
          exact ⟨rfl, HB.out⟩
      · rw [if_neg (by omega)] at hA
        have q1 : ((n : Int) == 128) = false := by simp; omega
        by_cases c2 : n < 128
        · rw [if_pos (by omega)] at hA
          by_cases c3 : s.size < i + 2 + n
          · rw [if_pos c3] at hA
            subst hA
            have hF := HF.out
            clear HF
            rw [fin_none] at hF
            simp only [Prod.mk.injEq] at hF
            obtain ⟨rfl, rfl, rfl⟩ := hF
            clear HA HK HL hn
            go_wp2
            rw [Exit.noGoto_ret]
            go_ret3
            exact ⟨rfl, HB.out⟩
          · rw [if_neg c3] at hA
            have HA' := Aside0.mk hA
            have hL := HL.out
            have hsz : (s.extract (i + 1) (i + 2 + n)).size = n + 1 := by rw [ByteArray.size_extract]; omega
            have HZ := Aside0.mk hsz
            clear hA HA hn hsz HL
            have c4 : (i : Int) + 1 + (n : Int) + 1 ≤ (s.size : Int) := by omega
            have e1 : ((i : Int) + 1 + (n : Int) + 1).toNat = i + 2 + n := by omega
            have e2 : ((i : Int) + 1).toNat = i + 1 := by omega
            have hsl : ∀ W, (Instr.slice 9 (.string s) (some (.int .i64 ((i : Int) + 1))) (some (.int .i64 ((i : Int) + 1 + (n : Int) + 1))) none).run Try.prog W = .ok (.string (s.extract (i + 1) (i + 2 + n))) W := by
              intro W
              have := run_slice_string (P := Try.prog) W 9 s .i64 .i64 ((i : Int) + 1) ((i : Int) + 1 + (n : Int) + 1) Try.underlying9 (by omega) (by omega) c4
              rwa [e1, e2] at this
            clear e1 e2
            go_wp2_with (at_builtin; refine print_append_str (w0 := w) w.heap.size rfl (.tmp 52) (.tmp 59) 32 9 5 rfl Try.underlying32 Try.underlying9 info5 u5 out (s.extract (i + 1) (i + 2 + n)) rfl ?hx HO.out HB.out ?hb ?hl ?_; (case hx => rfl); (case hb => exact HB.out.size); (case hl => have := HZ.out; omega); intro v1 w1 ho hb hg; have HO2 := Aside0.mk ho; have HB2 := Aside0.mk hb; clear ho hb hg HO HB)
            go_roundw
            case measure => simp [intOf]; omega
            case rel =>
              have h1 := HZ.out
              have h2 := HK.out
              refine ⟨k, i + 2 + n, _, congrArg (Value.int .i64) (by omega), rfl, by omega, ⟨by omega⟩, ⟨?_⟩, HA', ⟨?_⟩, HB2⟩
              · rw [List.length_append, bytesOf_length]; omega
              · exact HO2.out
        · rw [if_neg (by omega)] at hA
          by_cases c3 : i + 1 = s.size
          · rw [if_pos c3] at hA
            subst hA
            have hF := HF.out
            clear HF
            rw [fin_none] at hF
            simp only [Prod.mk.injEq] at hF
            obtain ⟨rfl, rfl, rfl⟩ := hF
            have q3 : ((i : Int) + 1 == (s.size : Int)) = true := by simp; omega
            clear HA HK HL hn c3
            go_wp2
            rw [Exit.noGoto_ret]
            go_ret3
            exact ⟨rfl, HB.out⟩
          · rw [if_neg c3] at hA
            have HA' := Aside0.mk hA
            have q3 : ((i : Int) + 1 == (s.size : Int)) = false := by simp; omega
            clear hA HA hn
            obtain ⟨ch, hch⟩ : ∃ ch, bt s ((i + 1 : Nat) : Int) = ch := ⟨_, rfl⟩
            have hx2 := bt_at s ((i + 1 : Nat) : Int)
            rw [Int.toNat_natCast, hch] at hx2
            have hx3 : (s[i + 1].toNat : Int) = ch := hx2 (by omega)
            have hcr := bt_range s ((i + 1 : Nat) : Int)
            rw [hch] at hcr HA'
            clear hx2 hch
            have i1 : (i : Int) + 1 < (s.size : Int) := by omega
            have i2 : (0 : Int) ≤ (i : Int) + 1 := by omega
            have i3 : ((i : Int) + 1).toNat = i + 1 := by omega
            obtain ⟨wo, rfl⟩ : ∃ wo, wo = wr := ⟨_, rfl⟩
            go_wp2
            go_loopw [5, 28] (fun v5 v28 w2 => ∃ j : Nat, v28 = .int .i64 j ∧ j ≤ 257 - n ∧ Aside0 (Own8 w2 w.heap.size v5 (out ++ List.replicate j ch)) ∧ Aside0 (Below w.heap.size w w2)) (fun _ v28 _ => 257 - n - (intOf v28).toNat)
            case atStart => exact ⟨0, rfl, Nat.zero_le _, ⟨by simpa using HO.out⟩, HB⟩
            case round =>
              obtain ⟨j, rfl, hj, HO2, HB2⟩ := hrel
              clear HO HB
              by_cases hjl : j < 257 - n
              · have q4 : decide ((j : Int) < 257 - (n : Int)) = true := decide_eq_true (by omega)
                have hlen : (out ++ List.replicate j ch).length + 1 ≤ 140737488355328 := by
                  have := HL.out
                  rw [List.length_append, List.length_replicate]; omega
                have HLEN := Aside0.mk hlen
                clear hlen
                go_wp2_with (at_builtin; refine print_append_num (w0 := w) w.heap.size rfl (.tmp 30) (.tmp 34) 32 5 .u8 1 rfl Try.underlying32 info5 (by decide) u5 (out ++ List.replicate j ch) ch rfl ?hx HO2.out HB2.out ?hb ?hl ?_; (case hx => rfl); (case hb => exact HB2.out.size); (case hl => have := HLEN.out; omega); intro v1 w1 ho hb hg hat; have HO3 := Aside0.mk ho; have HB3 := Aside0.mk hb; clear ho hb hg hat HO2 HB2)
                refine ⟨⟨j + 1, by go_num, by omega, ⟨?_⟩, HB3⟩, by simp [intOf]; omega⟩
                have h3 := HO3.out
                rw [List.append_assoc, ← List.replicate_succ'] at h3
                exact h3
              · obtain rfl : j = 257 - n := by omega
                have q4 : decide (((257 - n : Nat) : Int) < 257 - (n : Int)) = false := decide_eq_false (by omega)
                have h1 := HL.out
                have h2 := HK.out
                go_wp2
                refine ⟨⟨k, i + 2, _, congrArg (Value.int .i64) (by omega), rfl, by omega, ⟨by omega⟩, ⟨?_⟩, HA', HO2, HB2⟩, by simp [intOf]; omega⟩
                rw [List.length_append, List.length_replicate]; omega
    · rw [if_neg hlt] at hA
      subst hA
      have hF := HF.out
      clear HF
      rw [fin_none] at hF
      simp only [Prod.mk.injEq] at hF
      obtain ⟨rfl, rfl, rfl⟩ := hF
      clear HA HK HL
      go_wp2
      rw [Exit.noGoto_ret]
      go_ret3
      exact ⟨rfl, HB.out⟩
def runs_Decode.f (a0 : ByteArray) : Option (ByteArray × Int × Int) := some (res a0)
theorem runs_Decode.calls (a0 : ByteArray) (r1 : ByteArray) (r2 : Int) (r3 : Int) (w : World) (h : runs_Decode.f a0 = some (r1, r2, r3)) :
    Calls Try.prog 13 #[.string a0] w fun e w' => e = .returned (.tuple #[.string r1, .int .i64 r2, .int .i64 r3]) ∧ Below w.heap.size w w' := by
  have h1 : res a0 = (r1, r2, r3) := Option.some.inj h
  unfold res at h1
  by_cases hs : (a0.size : Int) > 65536
  · rw [if_pos hs] at h1
    simp only [Prod.mk.injEq] at h1
    obtain ⟨rfl, rfl, rfl⟩ := h1
    exact dec_long a0 w hs
  · rw [if_neg hs] at h1
    exact dec_short a0 w (by omega) _ rfl r1 r2 r3 h1
end Go.Proofs.Ytbgndbehceajpaa.G05
