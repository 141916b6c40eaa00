/- Decode (chapter 08). -/
import Derived.Test.YtmbdjajmiggiaaaDoorR08b
import Derived.Test.YtmbdjajmiggiaaaDoorN08
import Derived.Deep.RegionWith
import Derived.Deep.RegionLaw
namespace Go.Proofs.YtmbdjajmiggiaaaDoor.D08
open Go.Proofs.YtmbdjajmiggiaaaDoor.K08 Go.Proofs.YtmbdjajmiggiaaaDoor.G08 Go.Proofs.YtmbdjajmiggiaaaDoor.G08f Go.Proofs.YtmbdjajmiggiaaaDoor.Z08 Go.Proofs.YtmbdjajmiggiaaaDoor.O08 Go.Proofs.YtmbdjajmiggiaaaDoor.L08 Go.Proofs.YtmbdjajmiggiaaaDoor.E08 Go.Proofs.YtmbdjajmiggiaaaDoor.R08 Go.Proofs.YtmbdjajmiggiaaaDoor.R08b
open Go.RowKit Go.Proofs.YtmbdjajmiggiaaaDoorW.PrintWords Go.Proofs.YtmbdjajmiggiaaaDoorW.PrintLast Go.Proofs.YtmbdjajmiggiaaaDoorW.PrintMore
set_option linter.unusedVariables false
set_option linter.unusedSimpArgs false
set_option maxRecDepth 100000
/-- An element as an octet. -/
def cl (x : Int) : Int := if 255 < (if 128 + x < 0 then (0 : Int) else 128 + x) then 255 else if 128 + x < 0 then (0 : Int) else 128 + x
theorem cl_bd (x : Int) : 0 ≤ cl x ∧ cl x ≤ 255 := by unfold cl; repeat' split <;> omega
/-- The first n elements of a block laid into a picture. -/
def putN (w h i j : Nat) (b out : List Int) : Nat → List Int
  | 0 => out
  | k + 1 => if 8 * i + k / 8 < h ∧ 8 * j + k % 8 < w then (putN w h i j b out k).set (w * (8 * i + k / 8) + (8 * j + k % 8)) (cl (b.getD k 0)) else putN w h i j b out k
theorem putN_len (w h i j : Nat) (b out : List Int) : ∀ n, (putN w h i j b out n).length = out.length
  | 0 => rfl
  | k + 1 => by unfold putN; split <;> simp [putN_len w h i j b out k]
def stepR (w h i j : Nat) (o : List Int) : Option (List Int × List Int) → Option (List Int × List Int)
  | none => none
  | some (y, l) => some (putN w h i j (invL y) o 64, l)
def stepD (w h : Nat) (q : Int) (i j : Nat) (st : List Int × List Int) : Option (List Int × List Int) := stepR w h i j st.1 (rdBlk q 65 0 z64 st.2)
def decRow (w h : Nat) (q : Int) (i : Nat) : Nat → List Int × List Int → Option (List Int × List Int)
  | 0, st => some st
  | j + 1, st => (decRow w h q i j st).bind (stepD w h q i j)
def decAll (w h : Nat) (q : Int) : Nat → List Int × List Int → Option (List Int × List Int)
  | 0, st => some st
  | i + 1, st => (decAll w h q i st).bind (decRow w h q i (nb w))
theorem decRow_none {w h : Nat} {q : Int} {i : Nat} {st : List Int × List Int} {j : Nat} (hn : decRow w h q i j st = none) : ∀ d, decRow w h q i (j + d) st = none
  | 0 => hn
  | d + 1 => by rw [← Nat.add_assoc]; unfold decRow; rw [decRow_none hn d]; rfl
theorem decAll_none {w h : Nat} {q : Int} {st : List Int × List Int} {i : Nat} (hn : decAll w h q i st = none) : ∀ d, decAll w h q (i + d) st = none
  | 0 => hn
  | d + 1 => by rw [← Nat.add_assoc]; unfold decAll; rw [decAll_none hn d]; rfl
theorem decAll_bad {w h : Nat} {q : Int} {st cur cur2 : List Int × List Int} {i j m : Nat} (hi : i < m) (hj : j < nb w) (ha : decAll w h q i st = some cur) (hr : decRow w h q i j cur = some cur2) (hs : stepD w h q i j cur2 = none) : decAll w h q m st = none := by
  have h1 : decRow w h q i (j + 1) cur = none := by unfold decRow; rw [hr]; exact hs
  have h2 : decRow w h q i (nb w) cur = none := by have := decRow_none h1 (nb w - (j + 1)); rwa [show j + 1 + (nb w - (j + 1)) = nb w by omega] at this
  have h3 : decAll w h q (i + 1) st = none := by unfold decAll; rw [ha]; exact h2
  have := decAll_none h3 (m - (i + 1))
  rwa [show i + 1 + (m - (i + 1)) = m by omega] at this
theorem invL_bd (y : List Int) (hy : y.length = 64) (h : ∀ x ∈ y, -4294967296 ≤ x ∧ x ≤ 4294967296) : ∀ x ∈ invL y, -1000000000 ≤ x ∧ x ≤ 1000000000 := by
  refine blk8_all fun i j hi hj => ?_
  have HRB : ∀ x ∈ blk8 (irows y), -15607911153664 ≤ x ∧ x ≤ 15607911153664 := blk8_all fun i j hi hj => irows_bd y hy h i j hi hj 8 (Nat.le_refl _)
  have hnb := partw_bd 8 i (by omega) hi (fun i => (blk8 (irows y)).getD (8 * i + j) 0) 15607911153664 (by omega) (fun i hi => b_at (blk8_len _) HRB i j hi hj)
  have : -(3634 * 15607911153664) ≤ isum y i j ∧ isum y i j ≤ 3634 * 15607911153664 := hnb
  unfold outI rnd
  omega
/-- What Decode keeps: its reader and its octets. -/
structure DS (W wr : World) (s : ByteArray) (p : Nat) (out : List Int) : Prop where
  bel : Below W.heap.size W wr
  r : Rdr wr W.heap.size s p
  o : wr.heap[W.heap.size + 1]? = some (.cells (nums .u8 out).toArray 5 (0, 0))
theorem DS.below {W wr w2 : World} {s : ByteArray} {p : Nat} {out : List Int} (h : DS W wr s p out) (hb : Below wr.heap.size wr w2) : DS W w2 s p out :=
  ⟨below_step h.bel hb, h.r.below hb, blk_below h.o hb⟩
theorem DS.read {W wr w2 : World} {s : ByteArray} {p p' : Nat} {out : List Int} (h : DS W wr s p out) (hr : Rdr w2 W.heap.size s p') (hg : wr.grownBy w2 (some W.heap.size)) : DS W w2 s p' out :=
  ⟨h.bel.grown hg h.bel.size (fun k e => Nat.le_of_eq (Option.some.inj e)), hr, blk_grown h.o hg (fun e => by have := Option.some.inj e; omega)⟩
theorem DS.put {W wr : World} {s : ByteArray} {p : Nat} {out : List Int} (h : DS W wr s p out) (k : Nat) (x : Int) : DS W (wr.setCell ⟨W.heap.size + 1, k, none⟩ (.int .u8 x)) s p (out.set k x) :=
  ⟨below_set h.bel (by omega), Rdr.far h.r (by omega) _ _, by rw [blk_set h.o k]; congr 2; simp [nums]⟩
theorem DS.setRow {W wr : World} {s : ByteArray} {p : Nat} {out : List Int} (h : DS W wr s p out) {g : Nat} (hg : W.heap.size + 2 ≤ g) (cs : Array Value) : DS W (wr.setRow g cs) s p out :=
  ⟨G08.below_setRow h.bel (by omega) cs, Rdr.farRow h.r (by omega) cs, (heap_setRow_far _ _ _ _ (by omega)).trans h.o⟩
theorem DS.lt {W wr : World} {s : ByteArray} {p : Nat} {out : List Int} (h : DS W wr s p out) : W.heap.size + 2 ≤ wr.heap.size := by have := blk_lt h.o; omega
theorem made_nums (m : Nat) : madeCells #[Value.int .u8 0] m = (nums .u8 (List.replicate m 0)).toArray := by
  apply Array.ext'
  apply List.ext_getElem
  · simp [nums, madeCells]
  · intro i h1 h2
    simp [nums, madeCells, Nat.mod_one]
theorem DS.string {W wr : World} {s : ByteArray} {p m : Nat} {out : List Int} (h : DS W wr s p out) (hl : out.length = m) (hm : m ≤ 16384) : (convert 38 9 (.slice (some ⟨W.heap.size + 1, 0, none⟩) m m)).run Tryd.prog wr = .ok (.string (strOfNums out)) wr := by
  refine own_string (base := 0) (e' := 5) (n := m) (src := 38) (dst := 9) Tryd.underlying38 Tryd.underlying5 Tryd.underlying9 ⟨by simp [nums, hl], .inr ⟨W.heap.size + 1, m, _, rfl, Nat.zero_le _, h.o, Nat.le_refl _, by simp only [maxLen]; omega, by simp [nums, hl], ?_⟩⟩
  rw [Nat.mul_one]
  exact List.take_of_length_le (by simp [nums, hl])
set_option maxHeartbeats 8000000 in
theorem decode_ok (s : ByteArray) (wn hn qn : Nat) (hw1 : 1 ≤ wn) (hw2 : wn ≤ 128) (hh1 : 1 ≤ hn) (hh2 : hn ≤ 128) (hq1 : 1 ≤ qn) (hq2 : qn ≤ 255) (hs : s.size ≤ 65536) (W : World) (hm : Mat W) (hz : sizes s.size wn hn qn = 0) (R : ByteArray) (N E : Int)
    (hR : (match decAll wn hn qn (nb hn) (List.replicate (wn * hn) 0, bytesOf s) with | none => (⟨#[]⟩, 0, 5) | some (o, l) => (strOfNums o, (s.size : Int) - l.length, 0) : ByteArray × Int × Int) = (R, N, E)) :
    Calls Tryd.prog 25 #[.string s, .int .i64 wn, .int .i64 hn, .int .i64 qn] W fun e w' => e = .returned (.tuple #[.string R, .int .i64 N, .int .i64 E]) ∧ Below W.heap.size W w' := by
  have HRE := Aside0.mk hR
  have HM := Aside0.mk hm
  obtain ⟨m, hmm⟩ : ∃ m, wn * hn = m := ⟨_, rfl⟩
  have hwh : m ≤ 16384 := by rw [← hmm]; exact Nat.le_trans (Nat.mul_le_mul hw2 hh2) (by decide)
  have HMM := Aside0.mk hmm
  have hsc := sized_call s wn hn qn (by omega)
  rw [hz] at hsc
  have HSC := Aside0.mk hsc
  have t1 : (wn : Int) * (hn : Int) = (m : Int) := by rw [← hmm]; simp
  have hmk := print_make (P := Tryd.prog) 38 5 .u8 1 Tryd.underlying38 info5 (by decide) m (by omega)
  clear hR hm hsc hz hmm
  go_enter Tryd.func25, Tryd.ntmps25
  go_wp2_with fail
  refine (HSC.out W).mono ?_
  rintro e W1 ⟨rfl, rfl⟩
  go_wp2_with fail
  have HD0 : Aside0 (DS W ((W.alloc (.cells #[.string s, .int .i64 0] 76)).alloc (.cells (madeCells #[.int .u8 0] m) 5)) s 0 (List.replicate m 0)) := by
    refine ⟨⟨below_alloc (below_alloc (Below.refl _ _) _) _, blk_alloc (blk_new _ _) _, ?_⟩⟩
    have := blk_new (W.alloc (.cells #[.string s, .int .i64 0] 76)) (.cells (madeCells #[.int .u8 0] m) 5)
    rw [made_nums] at this ⊢
    simpa using this
  obtain ⟨w0, hw0⟩ : ∃ w0, (W.alloc (.cells #[.string s, .int .i64 0] 76)).alloc (.cells (madeCells #[.int .u8 0] m) 5) = w0 := ⟨_, rfl⟩
  rw [hw0] at HD0 ⊢
  clear hw0 hmk t1
  obtain ⟨st0, hst0⟩ : ∃ st0, (List.replicate m (0 : Int), bytesOf s) = st0 := ⟨_, rfl⟩
  have hre := HRE.out
  rw [HMM.out, hst0] at hre
  have HRE2 := Aside0.mk hre
  have HST : Aside0 (decAll wn hn qn 0 st0 = some (List.replicate m 0, rest s 0)) := ⟨by rw [← hst0]; rfl⟩
  clear hre hst0 HRE
  go_loopw [14] (fun v14 wr => ∃ (i p : Nat) (out : List Int), v14 = .int .i64 (8 * (i : Int)) ∧ i ≤ nb hn ∧ p ≤ s.size ∧ Aside0 (out.length = m) ∧ Aside0 (decAll wn hn qn i st0 = some (out, rest s p)) ∧ Aside0 (DS W wr s p out)) (fun v14 _ => 1000 - (intOf v14).toNat)
  case atStart => exact ⟨0, 0, _, rfl, by omega, Nat.zero_le _, ⟨by simp⟩, HST, HD0⟩
  case round =>
    clear HD0 HST
    obtain ⟨i, p, out, rfl, hi, hp, HOL, HDA, HD⟩ := hrel
    have hnb : nb hn ≤ 16 := by unfold nb; omega
    have hnbw : nb wn ≤ 16 := by unfold nb; omega
    by_cases hlt : i < nb hn
    · have t : decide (8 * (i : Int) < (hn : Int)) = true := decide_eq_true (by unfold nb at hlt; omega)
      obtain ⟨wo, rfl⟩ : ∃ wo, wo = wr := ⟨_, rfl⟩
      have hi16 : i < 16 := by omega
      have HI := Aside0.mk hlt
      clear hlt hi hnb hnbw
      go_wp2_with fail
      go_loopw [15] (fun v15 w2 => ∃ (j p2 : Nat) (o2 : List Int), v15 = .int .i64 (8 * (j : Int)) ∧ j ≤ 16 ∧ p2 ≤ s.size ∧ Aside0 (j ≤ nb wn) ∧ Aside0 (o2.length = m) ∧ Aside0 (decRow wn hn qn i j (out, rest s p) = some (o2, rest s p2)) ∧ Aside0 (DS W w2 s p2 o2)) (fun v15 _ => 1000 - (intOf v15).toNat)
      case atStart => exact ⟨0, p, out, rfl, by omega, hp, ⟨Nat.zero_le _⟩, HOL, ⟨rfl⟩, HD⟩
      case round =>
        clear HD
        obtain ⟨j, p2, o2, rfl, hj, hp2, HJ, HO2, HDR, HD⟩ := hrel
        by_cases hlt2 : j < nb wn
        · have t2 : decide (8 * (j : Int) < (wn : Int)) = true := decide_eq_true (by unfold nb at hlt2; omega)
          have hj16 : j < 16 := by unfold nb at hlt2; omega
          obtain ⟨wp, rfl⟩ : ∃ wp, wp = wr := ⟨_, rfl⟩
          have HJ2 := Aside0.mk hlt2
          clear hlt2 hj HJ
          obtain ⟨RES, hRES⟩ : ∃ RES, rdBlk qn 65 0 z64 (rest s p2) = RES := ⟨_, rfl⟩
          have HSD : Aside0 (stepD wn hn qn i j (o2, rest s p2) = stepR wn hn i j o2 RES) := ⟨by rw [← hRES]; rfl⟩
          have HRB := Aside0.mk (rblock_call W.heap.size s p2 qn (by omega) (by omega) wp HD.out.r hp2 hs RES hRES)
          clear hRES
          go_wp2_with fail
          refine HRB.out.mono ?_
          intro e w3 hpost
          cases RES with
          | none =>
            obtain ⟨y, rfl, hyl, hg⟩ := hpost
            have HB3 := Aside0.mk (HD.out.bel.grown hg HD.out.bel.size (fun k e => Nat.le_of_eq (Option.some.inj e)))
            have hlt3 := HD.out.lt
            have hsz3 := hg.size
            have hbad := decAll_bad HI.out HJ2.out HDA.out HDR.out HSD.out
            have hre := HRE2.out
            rw [hbad] at hre
            simp only [Prod.mk.injEq] at hre
            obtain ⟨rfl, rfl, rfl⟩ := hre
            clear hg hbad HRB
            go_wp2_with (first | (refine alloc_ar rfl rfl ?_) | (refine store_ar rfl _ _ rfl _ rfl z64 y rfl (blk_new _ _) rfl hyl ?_))
            go_ret3
            exact ⟨rfl, G08.below_setRow (below_alloc HB3.out _) (by omega) _⟩
          | some yl =>
            obtain ⟨y, l⟩ := yl
            obtain ⟨rfl, hyl, hyb, p3, hp3, hrest, hrd, hg⟩ := hpost
            have HD3 := Aside0.mk (HD.out.read hrd hg)
            have HYL := Aside0.mk hyl
            have HYB := Aside0.mk hyb
            have HRS := Aside0.mk hrest
            clear hg hrd hyl hyb hrest HRB
            have hlt3 := HD3.out.lt
            go_wp2_with (first | (refine alloc_ar rfl rfl ?_) | (refine store_ar rfl _ _ rfl _ rfl z64 y rfl (blk_new _ _) rfl HYL.out ?_) | (refine load_ar rfl _ rfl _ rfl y HYL.out (Blk.setRow (Blk.new _ _) _) ?_))
            have HD4 := Aside0.mk ((HD3.out.below (below_alloc (Below.refl _ _) (.cells (nums .i64 z64).toArray 22))).setRow (g := w3.heap.size) hlt3 (nums .i64 y).toArray)
            obtain ⟨w4, hw4⟩ : ∃ w4, (w3.alloc (.cells (nums .i64 z64).toArray 22)).setRow w3.heap.size (nums .i64 y).toArray = w4 := ⟨_, rfl⟩
            rw [hw4] at HD4 ⊢
            clear hw4
            refine (inverse_call y HYL.out w4 (HM.out.below HD4.out.bel) (wthn_yes fun k hk => getD_all HYB.out k hk)).mono ?_
            rintro e w5 ⟨rfl, hb5⟩
            have HD5 := Aside0.mk (HD4.out.below hb5)
            clear hb5
            obtain ⟨b, hb⟩ : ∃ b, invL y = b := ⟨_, rfl⟩
            have HBL : Aside0 (b.length = 64) := ⟨by rw [← hb]; exact blk8_len _⟩
            have HBB : Aside0 (∀ x ∈ b, -1000000000 ≤ x ∧ x ≤ 1000000000) := ⟨by rw [← hb]; exact invL_bd y HYL.out HYB.out⟩
            have hsd := HSD.out
            simp only [stepR, hb] at hsd
            have HSD2 := Aside0.mk hsd
            rw [hb]
            clear hb hsd HSD HD4
            have hlt5 := HD5.out.lt
            go_wp2_with (first | (refine alloc_ar rfl rfl ?_) | (refine store_ar rfl _ _ rfl _ rfl z64 b rfl (blk_new _ _) rfl HBL.out ?_) | (refine load_ar rfl _ rfl _ rfl b HBL.out (Blk.setRow (Blk.new _ _) _) ?_))
            have HD6 := Aside0.mk ((HD5.out.below (below_alloc (Below.refl _ _) (.cells (nums .i64 z64).toArray 22))).setRow (g := w5.heap.size) hlt5 (nums .i64 b).toArray)
            obtain ⟨w6, hw6⟩ : ∃ w6, (w5.alloc (.cells (nums .i64 z64).toArray 22)).setRow w5.heap.size (nums .i64 b).toArray = w6 := ⟨_, rfl⟩
            rw [hw6] at HD6 ⊢
            clear hw6 HD5 HD3
            go_loopw [64] (fun v64 w7 => ∃ k : Nat, v64 = .int .i64 k ∧ k ≤ 64 ∧ Aside0 (DS W w7 s p3 (putN wn hn i j b o2 k))) (fun v64 _ => 64 - (intOf v64).toNat)
            case atStart => exact ⟨0, rfl, by omega, HD6⟩
            case round =>
              clear HD6
              obtain ⟨k, rfl, hk, HD6⟩ := hrel
              by_cases hk64 : k < 64
              · have t4 : decide ((k : Int) < 64) = true := decide_eq_true (by omega)
                have hix := run_index_ar Tryd.underlying22 size3 agg3 b HBL.out k hk64 wr
                have hxb := getD_all HBB.out k (by rw [HBL.out]; exact hk64)
                obtain ⟨x, hx⟩ : ∃ x, b.getD k 0 = x := ⟨_, rfl⟩
                obtain ⟨r, hrr⟩ : ∃ r : Nat, 8 * i + k / 8 = r := ⟨_, rfl⟩
                obtain ⟨c, hcc⟩ : ∃ c : Nat, 8 * j + k % 8 = c := ⟨_, rfl⟩
                have er : 8 * (i : Int) + (k : Int) / 8 = (r : Int) := by omega
                have ec : 8 * (j : Int) + (k : Int) % 8 = (c : Int) := by omega
                have HPN : Aside0 (putN wn hn i j b o2 (k + 1) = if r < hn ∧ c < wn then (putN wn hn i j b o2 k).set (wn * r + c) (cl x) else putN wn hn i j b o2 k) := ⟨by rw [← hx, ← hrr, ← hcc]; rfl⟩
                have hr136 : r < 136 := by omega
                have hc136 : c < 136 := by omega
                rw [hx] at hix hxb
                have HOL2 : Aside0 ((putN wn hn i j b o2 k).length = m) := ⟨by rw [putN_len]; exact HO2.out⟩
                clear hx hrr hcc
                by_cases hrh : r < hn
                · have t5 : decide ((r : Int) < (hn : Int)) = true := decide_eq_true (by omega)
                  by_cases hcw : c < wn
                  · have t6 : decide ((c : Int) < (wn : Int)) = true := decide_eq_true (by omega)
                    have hpn := HPN.out
                    rw [if_pos ⟨hrh, hcw⟩] at hpn
                    have hlt9 := N08.idx_lt wn hn r c m HMM.out.symm hrh hcw
                    obtain ⟨P, hP⟩ : ∃ P : Nat, wn * r = P := ⟨_, rfl⟩
                    have hP2 : (wn : Int) * (r : Int) = (P : Int) := by rw [← hP]; simp
                    rw [hP] at hpn hlt9
                    obtain ⟨z, hz⟩ : ∃ z, (if 128 + x < 0 then (0 : Int) else 128 + x) = z := ⟨_, rfl⟩
                    have hzb : 0 ≤ z ∧ z ≤ 2000000000 := by rw [← hz]; split <;> omega
                    obtain ⟨y8, hy8⟩ : ∃ y8, (if 255 < z then (255 : Int) else z) = y8 := ⟨_, rfl⟩
                    have hyb8 : 0 ≤ y8 ∧ y8 ≤ 255 := by rw [← hy8]; split <;> omega
                    have hcl : cl x = y8 := by rw [← hy8, ← hz]; rfl
                    rw [hcl] at hpn
                    have HPN2 := Aside0.mk hpn
                    have q1 : (P : Int) + (c : Int) < (m : Int) := by omega
                    have q2 : ((P : Int) + (c : Int)).toNat = P + c := by omega
                    have f9 : wr.frozen? ⟨W.heap.size + 1, P + c, none⟩ = false := blk_frozen HD6.out.o _
                    obtain ⟨old, c9⟩ : ∃ v, wr.cell? ⟨W.heap.size + 1, P + c, none⟩ = some v := by
                      rw [blk_cell HD6.out.o (P + c)]
                      exact ⟨_, Array.getElem?_eq_getElem (by simp [nums, HOL2.out]; exact hlt9)⟩
                    clear hP hpn hcl HPN
                    go_wp2_with fail
                    go_roundw
                    case measure => simp [intOf]; omega
                    case rel => exact ⟨k + 1, by go_num, by omega, ⟨by rw [HPN2.out]; exact HD6.out.put _ _⟩⟩
                  · have t6 : decide ((c : Int) < (wn : Int)) = false := decide_eq_false (by omega)
                    have hpn := HPN.out
                    rw [if_neg (by omega)] at hpn
                    have HPN2 := Aside0.mk hpn
                    clear hpn HPN
                    go_wp2_with fail
                    go_roundw
                    case measure => simp [intOf]; omega
                    case rel => exact ⟨k + 1, by go_num, by omega, ⟨by rw [HPN2.out]; exact HD6.out⟩⟩
                · have t5 : decide ((r : Int) < (hn : Int)) = false := decide_eq_false (by omega)
                  have hpn := HPN.out
                  rw [if_neg (by omega)] at hpn
                  have HPN2 := Aside0.mk hpn
                  clear hpn HPN
                  go_wp2_with fail
                  go_roundw
                  case measure => simp [intOf]; omega
                  case rel => exact ⟨k + 1, by go_num, by omega, ⟨by rw [HPN2.out]; exact HD6.out⟩⟩
              · obtain rfl : k = 64 := by omega
                have t4 : decide (((64 : Nat) : Int) < 64) = false := by decide
                have HDR2 : Aside0 (decRow wn hn qn i (j + 1) (out, rest s p) = some (putN wn hn i j b o2 64, rest s p3)) := ⟨by unfold decRow; rw [HDR.out, HRS.out]; exact HSD2.out⟩
                have HO3 : Aside0 ((putN wn hn i j b o2 64).length = m) := ⟨by rw [putN_len]; exact HO2.out⟩
                go_wp2_with fail
                go_roundw
                case measure => simp [intOf]; omega
                case rel => exact ⟨j + 1, p3, _, by go_num, by omega, hp3, ⟨HJ2.out⟩, HO3, HDR2, HD6⟩
        · obtain rfl : j = nb wn := by have := HJ.out; omega
          have t2 : decide (8 * ((nb wn : Nat) : Int) < (wn : Int)) = false := decide_eq_false (by unfold nb; omega)
          have HDA2 : Aside0 (decAll wn hn qn (i + 1) st0 = some (o2, rest s p2)) := ⟨by unfold decAll; rw [HDA.out]; exact HDR.out⟩
          go_wp2_with fail
          go_roundw
          case measure => simp [intOf]; omega
          case rel => exact ⟨i + 1, p2, o2, by go_num, HI.out, hp2, HO2, HDA2, HD⟩
    · obtain rfl : i = nb hn := by omega
      have t : decide (8 * ((nb hn : Nat) : Int) < (hn : Int)) = false := decide_eq_false (by unfold nb; omega)
      have hre := HRE2.out
      rw [HDA.out] at hre
      simp only [Prod.mk.injEq] at hre
      obtain ⟨rfl, rfl, rfl⟩ := hre
      have hcv := DS.string (HD.out.below (w2 := wr.drew) (Below.drew (Below.refl _ _))) HOL.out hwh
      have c1 := HD.out.r.c1
      have hpl : (s.size : Int) - ((rest s p).length : Int) = (p : Int) := by unfold rest; simp [bytesOf]; omega
      have HPL := Aside0.mk hpl
      clear hpl
      go_wp2_with fail
      go_region
      all_goals
        go_wp2_with fail
        go_ret3
        rw [HPL.out]
        exact ⟨rfl, HD.out.bel.drew⟩
def decRes (s : ByteArray) (w h q : Int) : ByteArray × Int × Int :=
  if sizes s.size w h q ≠ 0 then (⟨#[]⟩, 0, sizes s.size w h q)
  else match decAll w.toNat h.toNat q (nb h.toNat) (List.replicate (w.toNat * h.toNat) 0, bytesOf s) with
    | none => (⟨#[]⟩, 0, 5)
    | some (o, l) => (strOfNums o, (s.size : Int) - l.length, 0)
set_option maxHeartbeats 1000000 in
theorem decode_call (s : ByteArray) (w h q : Int) (hs : s.size ≤ 140737488355328) (W : World) (hm : Mat W) :
    Calls Tryd.prog 25 #[.string s, .int .i64 w, .int .i64 h, .int .i64 q] W fun e w' => e = .returned (.tuple #[.string (decRes s w h q).1, .int .i64 (decRes s w h q).2.1, .int .i64 (decRes s w h q).2.2]) ∧ Below W.heap.size W w' := by
  obtain ⟨⟨R, N, E⟩, hR⟩ : ∃ r, decRes s w h q = r := ⟨_, rfl⟩
  rw [hR]
  unfold decRes at hR
  have HSC := Aside0.mk (sized_call s w h q hs)
  by_cases hz : sizes s.size w h q = 0
  · have hok : okArgs w h q = true ∧ s.size ≤ 65536 := by
      unfold sizes at hz
      split at hz
      · cases hz
      · split at hz
        · exact ⟨by assumption, by omega⟩
        · cases hz
    have hok2 := hok.1
    simp only [okArgs, decide_eq_true_eq] at hok2
    obtain ⟨wn, rfl⟩ := Int.eq_ofNat_of_zero_le (show 0 ≤ w by omega)
    obtain ⟨hn, rfl⟩ := Int.eq_ofNat_of_zero_le (show 0 ≤ h by omega)
    obtain ⟨qn, rfl⟩ := Int.eq_ofNat_of_zero_le (show 0 ≤ q by omega)
    rw [if_neg (by simpa using hz)] at hR
    exact decode_ok s wn hn qn (by omega) (by omega) (by omega) (by omega) (by omega) (by omega) hok.2 W hm hz R N E hR
  · rw [if_pos hz] at hR
    simp only [Prod.mk.injEq] at hR
    obtain ⟨rfl, rfl, rfl⟩ := hR
    obtain ⟨z, hzz⟩ : ∃ z, sizes s.size w h q = z := ⟨_, rfl⟩
    rw [hzz] at hz HSC ⊢
    have t0 : (z == 0) = false := by simpa using hz
    have t1 : (z != 0) = true := by simpa using hz
    clear hzz hz hm
    go_enter Tryd.func25, Tryd.ntmps25
    go_wp2_with fail
    refine (HSC.out W).mono ?_
    rintro e W1 ⟨rfl, rfl⟩
    go_wp2_with fail
    go_ret3
    exact ⟨rfl, Below.refl _ _⟩
end Go.Proofs.YtmbdjajmiggiaaaDoor.D08
