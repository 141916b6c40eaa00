/- A draft of runs: what it is, and how it is read (chapter 06). -/
import Derived.Test.YtfkiacbjiledcaaM06
import Derived.WalkKit
import Derived.ProofKit
import Derived.OpenShut
import Derived.Deep.Slices
namespace Go.Proofs.Ytfkiacbjiledcaa.D06
open Go.RowKit Go.Proofs.YtfkiacbjiledcaaW.PrintWords Go.Proofs.YtfkiacbjiledcaaW.PrintLast Go.Proofs.YtfkiacbjiledcaaW.PrintMore
open Go.Proofs.Ytfkiacbjiledcaa.M06
set_option linter.unusedVariables false
set_option maxRecDepth 100000
/-- The cells of a slice of pairs of octets. -/
def Pairs (W : World) (A : Option Addr) (n : Nat) (ps : List (Int × Int)) : Prop :=
  ps.length = n ∧ ∀ j (h : j < ps.length), ∃ ad, A = some ad ∧ W.cell? (ad.add (j * 2)) = some (.int .u8 ps[j].1) ∧ W.cell? ⟨(ad.add (j * 2)).block, (ad.add (j * 2)).off + 1, none⟩ = some (.int .u8 ps[j].2) ∧ (0 ≤ ps[j].2 ∧ ps[j].2 < 256) ∧ 0 ≤ ps[j].1 ∧ ps[j].1 < 256
def rep (p : Int × Int) : List Int := List.replicate (p.2.toNat + 1) p.1
def draftL (ps : List (Int × Int)) : List Int := (ps.take 50).flatMap rep
theorem flat_rep (ps : List (Int × Int)) (h : ∀ p ∈ ps, p.2 < 256) : (ps.flatMap rep).length ≤ 256 * ps.length := by
  induction ps with
  | nil => simp
  | cons p ps ih =>
    rw [List.flatMap_cons, List.length_append, List.length_cons]
    have h1 := ih (fun q hq => h q (List.mem_cons_of_mem _ hq))
    have h2 := h p List.mem_cons_self
    have h3 : (rep p).length = p.2.toNat + 1 := by simp [rep]
    omega
theorem rep_snoc (acc : List Int) (i : Nat) (x : Int) : acc ++ List.replicate i x ++ [x] = acc ++ List.replicate (i + 1) x := by
  rw [List.append_assoc, List.replicate_succ']
theorem draft_walk (A : Option Addr) (n c : Nat) (ps : List (Int × Int)) (w : World) (hp : Pairs w A n ps) (hn : n ≤ 9223372036854775807) :
    Calls Try.prog 11 #[.slice A n c] w fun e w' => e = .returned (.string (strOfNums (draftL ps))) ∧ Below w.heap.size w w' := by
  have HP := Aside0.mk hp
  have hl := hp.1
  clear hp
  go_enter Try.func11, Try.ntmps11
  go_wp2
  go_loopw [3, 4] (fun v3 v4 wr => ∃ (j : Nat), v4 = .int .i64 j ∧ j ≤ n ∧ j ≤ 50 ∧ Aside0 (Own8 wr w.heap.size v3 (((ps.take j)).flatMap rep)) ∧ Aside0 (Below w.heap.size w wr)) (fun _ v4 _ => 50 - (intOf v4).toNat)
  case atStart => exact ⟨0, rfl, Nat.zero_le _, Nat.zero_le _, ⟨own_nil _ _ _ _⟩, ⟨Below.refl _ _⟩⟩
  case round =>
    obtain ⟨j, rfl, hj, hj50, HO, HB⟩ := hrel
    by_cases hlt : j < n ∧ j < 50
    · obtain ⟨h1, h2⟩ := hlt
      obtain ⟨ad, rfl, hc1, hc2, ⟨hb0, hb1⟩, hb2⟩ := HP.out.2 j (by omega)
      obtain ⟨⟨x, k⟩, hxk⟩ : ∃ q, ps[j] = q := ⟨_, rfl⟩
      rw [hxk] at hc1 hc2 hb0 hb1
      simp only at hc1 hc2 hb0 hb1
      obtain ⟨acc, hacc⟩ : ∃ acc, (ps.take j).flatMap rep = acc := ⟨_, rfl⟩
      have hl3 : acc.length ≤ 12800 := by
        have := flat_rep (ps.take j) (fun p hp => ?_)
        · rw [hacc, List.length_take] at this; omega
        · obtain ⟨i, hi, he⟩ := List.getElem_of_mem hp
          rw [List.length_take] at hi
          obtain ⟨_, _, _, _, ⟨h5, h6⟩, _⟩ := HP.out.2 i (by omega)
          rw [List.getElem_take] at he
          rw [← he]; exact h6
      have ho := HO.out
      rw [hacc] at ho
      have HO2 := Aside0.mk ho
      have hacc2 : (ps.take (j + 1)).flatMap rep = acc ++ List.replicate (k.toNat + 1) x := by
        rw [List.take_succ_eq_append_getElem (by omega), List.flatMap_append, hacc, hxk]; simp [rep]
      have HA2 := Aside0.mk hacc2
      have HC1 := Aside0.mk hc1
      have HC2 := Aside0.mk hc2
      have g1 : decide ((j : Int) < 50) = true := decide_eq_true (by omega)
      clear ho HO hacc hacc2 hc1 hc2
      go_wp2
      go_loopw [3, 5] (fun v3 v5 wr => ∃ (i : Nat), v5 = .int .i64 i ∧ i ≤ k.toNat + 1 ∧ Aside0 (Own8 wr w.heap.size v3 (acc ++ List.replicate i x)) ∧ Aside0 (Below w.heap.size w wr)) (fun _ v5 _ => 300 - (intOf v5).toNat)
      case atStart => exact ⟨0, rfl, Nat.zero_le _, ⟨by simpa using HO2.out⟩, HB⟩
      case round =>
        obtain ⟨i, rfl, hi, HO3, HB3⟩ := hrel
        have hd1 := pw_cell_below HB3.out HC1.out
        have hd2 := pw_cell_below HB3.out HC2.out
        have HLEN : Aside0 (i ≤ 300) := ⟨by omega⟩
        by_cases hik : (i : Int) ≤ k
        · go_wp2_with (at_builtin; refine print_append_num (w0 := w) w.heap.size rfl (.tmp 26) (.tmp 32) 32 5 .u8 1 rfl Try.underlying32 info5 (by decide) u3 (acc ++ List.replicate i x) x rfl ?hx HO3.out HB3.out ?hb ?hl ?_; (case hx => rfl); (case hb => exact HB3.out.size); (case hl => have := HLEN.out; rw [List.length_append, List.length_replicate]; omega); intro v1 w1 ho hb hg hat; have HO4 := Aside0.mk ho; have HB4 := Aside0.mk hb; clear ho hb hg hat HO3 HB3)
          exact ⟨⟨i + 1, congrArg (Value.int .i64) (by omega), by omega, ⟨by rw [← rep_snoc]; exact HO4.out⟩, HB4⟩, by simp [intOf]; omega⟩
        · have hie : i = k.toNat + 1 := by omega
          subst hie
          clear hd1
          go_wp2
          exact ⟨⟨j + 1, congrArg (Value.int .i64) (by omega), by omega, by omega, ⟨by rw [HA2.out]; exact HO3.out⟩, HB3⟩, by simp [intOf]; omega⟩
    · have hres : (ps.take j).flatMap rep = draftL ps := by
        unfold draftL
        by_cases h50 : j = 50
        · rw [h50]
        · rw [List.take_of_length_le (by omega), List.take_of_length_le (by omega)]
      have ho := HO.out
      rw [hres] at ho
      have HO2 := Aside0.mk ho
      clear ho HO hres
      obtain ⟨A3, c3, rfl⟩ := own_slice HO2.out
      have hcv := own_string (src := 32) (dst := 9) Try.underlying32 Try.underlying5 Try.underlying9 HO2.out
      by_cases h1 : j < n
      · have h50 : j = 50 := by omega
        subst h50
        go_wp2
        go_ret
        exact ⟨rfl, HB.out⟩
      · have hjn : j = n := by omega
        subst hjn
        go_wp2
        go_ret
        exact ⟨rfl, HB.out⟩
theorem arr48 : Try.prog.underlying 48 = some (.array 2 5) := by kernel_rfl
theorem u8wf {n : Int} (h : (Lit.int .u8 n).wf = true) : 0 ≤ n ∧ n < 256 := by
  simp [Lit.wf, IntKind.min, IntKind.max, IntKind.signed, IntKind.bits] at h
  omega
theorem open_draft {H : Type} {enc : TypeId × Value → H} {W : World} {A : Option Addr} {len cap : Nat} {d : DataW H} {p : List MemPlace} (h : DataW.Trod enc Try.prog W 0 (fun _ => true) true 23 (.slice A len cap) d p) :
    ∃ ps, Pairs W A len ps ∧ len ≤ 9223372036854775807 := by
  obtain ⟨fuel, hf⟩ := h
  rcases Go.Deep.open_slice (t := 23) (e := 48) (by kernel_rfl) hf with ⟨hcs, _⟩ | ⟨a, len', cap', m, n, D, Pl, hcs, hb, hl, hm, hmm, _, hx⟩
  · simp [Value.cells] at hcs
    obtain ⟨rfl, rfl, rfl⟩ := hcs
    exact ⟨[], ⟨rfl, fun j h => absurd h (Nat.not_lt_zero j)⟩, Nat.zero_le _⟩
  · simp [Value.cells] at hcs
    obtain ⟨rfl, rfl, rfl⟩ := hcs
    have c48 : Try.prog.cellsOf 48 = 2 := by kernel_rfl
    have c5 : Try.prog.cellsOf 5 = 1 := by kernel_rfl
    have each : ∀ i, i < len → ∃ q : Int × Int, W.cell? (a.add (i * 2)) = some (.int .u8 q.1) ∧ W.cell? ((a.add (i * 2)).add 1) = some (.int .u8 q.2) ∧ (0 ≤ q.2 ∧ q.2 < 256) ∧ 0 ≤ q.1 ∧ q.1 < 256 := by
      intro i hi
      obtain ⟨cs', h1, h2⟩ := hx i (by rw [hmm]; split <;> omega)
      rw [c48] at h1
      obtain ⟨_, hlen, hcell⟩ := World.cells?_some h1
      obtain ⟨xs, k, hk, hxy, _, hxl, hf⟩ := DataW.trod_array arr48 h2
      match xs, hxl, cs', hlen with
      | [y0, y1], _, [v0, v1], _ =>
        have g0 := hf 0 (by omega)
        have g1 := hf 1 (by omega)
        simp [c5] at g0 g1
        obtain ⟨n0, e0, _, w0⟩ := DataW.trod_int Try.underlying5 g0
        obtain ⟨n1, e1, _, w1⟩ := DataW.trod_int Try.underlying5 g1
        simp at e0 e1
        subst e0 e1
        have z0 := hcell 0 (by omega)
        have z1 := hcell 1 (by omega)
        exact ⟨(n0, n1), by simpa [Addr.add] using z0, by simpa using z1, u8wf w1, u8wf w0⟩
    obtain ⟨q, hq⟩ := Go.Deep.choose_lt each
    refine ⟨(List.range len).map q, ⟨by simp, fun j h => ⟨a, rfl, ?_⟩⟩, by simp only [maxLen] at hm; omega⟩
    have hj : j < len := by simpa using h
    simp only [List.getElem_map, List.getElem_range]
    exact hq j hj
end Go.Proofs.Ytfkiacbjiledcaa.D06
