/- Several texts of this claim, one behind the other. -/
import Derived.Test.YtmbdjajmiggiaaaDoorW08
/- Closed facts of the chapter's examples (chapter 08). -/
namespace Go.Proofs.YtmbdjajmiggiaaaDoor.X08
open Go.Proofs.YtmbdjajmiggiaaaDoor.K08 Go.Proofs.YtmbdjajmiggiaaaDoor.G08 Go.Proofs.YtmbdjajmiggiaaaDoor.G08f Go.Proofs.YtmbdjajmiggiaaaDoor.Z08 Go.Proofs.YtmbdjajmiggiaaaDoor.O08 Go.Proofs.YtmbdjajmiggiaaaDoor.L08 Go.Proofs.YtmbdjajmiggiaaaDoor.E08 Go.Proofs.YtmbdjajmiggiaaaDoor.R08 Go.Proofs.YtmbdjajmiggiaaaDoor.R08b Go.Proofs.YtmbdjajmiggiaaaDoor.D08 Go.Proofs.YtmbdjajmiggiaaaDoor.W08
open Go.RowKit Go.Proofs.YtmbdjajmiggiaaaDoorW.PrintWords Go.Proofs.YtmbdjajmiggiaaaDoorW.PrintLast Go.Proofs.YtmbdjajmiggiaaaDoorW.PrintMore
set_option linter.unusedVariables false
set_option maxRecDepth 100000
def ones : List Int := List.replicate 64 1
theorem fwd_ones : fwdL ones = dot 64 := by kernel_rfl
theorem fwd_dot : (fwdL (dot 1)).getD 0 0 = 1 ∧ (fwdL (dot 1)).getD 1 0 = 10 ∧ (fwdL (dot 1)).getD 8 0 = 10 ∧ (fwdL (dot 1)).getD 9 0 = 100 := by decide +kernel
theorem inv_64 : invL (dot 64) = ones := by kernel_rfl
theorem inv_31 : invL (dot 31) = z64 := by kernel_rfl
theorem w_ones : wthn 1048576 ones = true := by kernel_rfl
theorem w_dot : wthn 1048576 (dot 1) = true := by kernel_rfl
theorem w_64 : wthn 4294967296 (dot 64) = true := by kernel_rfl
theorem w_31 : wthn 4294967296 (dot 31) = true := by kernel_rfl
theorem enc_81 : encRes ⟨#[129]⟩ 1 1 1 = (⟨#[0, 128, 1, 64]⟩, 0) := by kernel_rfl
theorem enc_80 : encRes ⟨#[128]⟩ 1 1 1 = (⟨#[64]⟩, 0) := by kernel_rfl
theorem dec_40 : decRes ⟨#[64]⟩ 1 1 1 = (⟨#[128]⟩, 1, 0) := by kernel_rfl
theorem dec_a : decRes ⟨#[0, 0, 64]⟩ 1 1 1 = (⟨#[]⟩, 0, 5) := by kernel_rfl
theorem dec_b : decRes ⟨#[0, 128, 1]⟩ 1 1 1 = (⟨#[]⟩, 0, 5) := by kernel_rfl
theorem dec_c : decRes ⟨#[0, 2]⟩ 1 1 1 = (⟨#[]⟩, 0, 5) := by kernel_rfl
theorem zAt1 : zAt 1 = (0, 1) ∧ zAt 2 = (1, 0) ∧ zAt 3 = (2, 0) ∧ zAt 63 = (7, 7) := by decide +kernel
end Go.Proofs.YtmbdjajmiggiaaaDoor.X08
/- The map of the chapter's examples (chapter 08). -/
namespace Go.Proofs.YtmbdjajmiggiaaaDoor.M08
open Go.Proofs.YtmbdjajmiggiaaaDoor.O08
open Go.RowKit
open Go.Maps (Keyed)
set_option maxRecDepth 100000
theorem keyed3 : Keyed Tryd.prog 3 := Go.Maps.int_keyed Tryd.underlying3
def RL : List Value → Option (DataW Unit × List MemPlace)
  | [.int .i64 a, .int .i64 b] => some (.agg [.lit (.int .i64 a), .lit (.int .i64 b)], [])
  | _ => none
/-- How two numbers read. -/
def RE : Value → Option (DataW Unit × List MemPlace)
  | .agg cs => RL cs.toList
  | _ => none
theorem RE_mk (a b : Int) : RE (.agg #[.int .i64 a, .int .i64 b]) = some (.agg [.lit (.int .i64 a), .lit (.int .i64 b)], []) := rfl
theorem RE_inv (v : Value) (y : DataW Unit × List MemPlace) (h : RE v = some y) : ∃ p : Int × Int, v = .agg #[.int .i64 p.1, .int .i64 p.2] := by
  cases v with
  | agg cs =>
    obtain ⟨l⟩ := cs
    have h2 : RL l = some y := h
    unfold RL at h2
    split at h2
    · exact ⟨(_, _), rfl⟩
    · cases h2
  | _ => cases h
def dd (a b : Int) : DataW Unit := .agg [.lit (.int .i64 a), .lit (.int .i64 b)]
def D4 : DataW Unit := (((DataW.put (.map []) (.int .i64 1) (dd 0 1)).put (.int .i64 2) (dd 1 0)).put (.int .i64 3) (dd 2 0)).put (.int .i64 63) (dd 7 7)
theorem D4_eq : D4 = .map [(.int .i64 1, dd 0 1), (.int .i64 2, dd 1 0), (.int .i64 3, dd 2 0), (.int .i64 63, dd 7 7)] := by
  unfold D4 dd
  simp [DataW.put, DataW.insert, Lit.sameKey, Lit.before]
theorem D4_has (x : Int) (h : Maps.has D4 (.int .i64 x) = true) : x = 1 ∨ x = 2 ∨ x = 3 ∨ x = 63 := by
  rw [D4_eq, Maps.has_eq] at h
  simp [Lit.sameKey] at h
  omega
theorem D4_at : D4.atKey (.int .i64 1) .nil = dd 0 1 ∧ D4.atKey (.int .i64 2) .nil = dd 1 0 ∧ D4.atKey (.int .i64 3) .nil = dd 2 0 ∧ D4.atKey (.int .i64 63) .nil = dd 7 7 := by
  rw [D4_eq]
  simp [DataW.atKey, Lit.sameKey, dd]
/-- What an entry of the map holds. -/
theorem entry (x : Int) (p : Int × Int) (y : DataW Unit × List MemPlace) (h : Maps.has D4 (.int .i64 x) = true) (hy : RE (.agg #[.int .i64 p.1, .int .i64 p.2]) = some y) (hat : ∀ zd, D4.atKey (.int .i64 x) zd = y.1) :
    ∃ k : Nat, k < 64 ∧ x = (k : Int) ∧ p.1 = (zAt k).1 ∧ p.2 = (zAt k).2 := by
  have e := hat .nil
  have hy2 : y = (dd p.1 p.2, []) := by rw [RE_mk] at hy; exact (Option.some.inj hy).symm
  rw [hy2] at e
  have z1 := X08.zAt1
  rcases D4_has x h with rfl | rfl | rfl | rfl
  · rw [D4_at.1] at e
    refine ⟨1, by omega, rfl, ?_⟩
    rw [z1.1]
    simp [dd] at e
    exact ⟨e.1.symm, e.2.symm⟩
  · rw [D4_at.2.1] at e
    refine ⟨2, by omega, rfl, ?_⟩
    rw [z1.2.1]
    simp [dd] at e
    exact ⟨e.1.symm, e.2.symm⟩
  · rw [D4_at.2.2.1] at e
    refine ⟨3, by omega, rfl, ?_⟩
    rw [z1.2.2.1]
    simp [dd] at e
    exact ⟨e.1.symm, e.2.symm⟩
  · rw [D4_at.2.2.2] at e
    refine ⟨63, by omega, rfl, ?_⟩
    rw [z1.2.2.2]
    simp [dd] at e
    exact ⟨e.1.symm, e.2.symm⟩
end Go.Proofs.YtmbdjajmiggiaaaDoor.M08
/- The chapter's examples hold: works returns true (chapter 08). -/
namespace Go.Proofs.YtmbdjajmiggiaaaDoor.V08
open Go.Proofs.YtmbdjajmiggiaaaDoor.K08 Go.Proofs.YtmbdjajmiggiaaaDoor.G08 Go.Proofs.YtmbdjajmiggiaaaDoor.G08f Go.Proofs.YtmbdjajmiggiaaaDoor.Z08 Go.Proofs.YtmbdjajmiggiaaaDoor.O08 Go.Proofs.YtmbdjajmiggiaaaDoor.L08 Go.Proofs.YtmbdjajmiggiaaaDoor.E08 Go.Proofs.YtmbdjajmiggiaaaDoor.N08 Go.Proofs.YtmbdjajmiggiaaaDoor.R08 Go.Proofs.YtmbdjajmiggiaaaDoor.R08b Go.Proofs.YtmbdjajmiggiaaaDoor.D08 Go.Proofs.YtmbdjajmiggiaaaDoor.W08 Go.Proofs.YtmbdjajmiggiaaaDoor.X08 Go.Proofs.YtmbdjajmiggiaaaDoor.M08
open Go.RowKit Go.Proofs.YtmbdjajmiggiaaaDoorW.PrintWords Go.Proofs.YtmbdjajmiggiaaaDoorW.PrintLast Go.Proofs.YtmbdjajmiggiaaaDoorW.PrintMore
open Go.Maps (Keyed)
set_option linter.unusedVariables false
set_option linter.unusedSimpArgs false
set_option maxRecDepth 100000
/-- k elements are 1. -/
def onesTo (k : Nat) : List Int := (List.range 64).map fun l => if l < k then 1 else 0
theorem onesTo_len (k : Nat) : (onesTo k).length = 64 := by simp [onesTo]
theorem onesTo_zero : onesTo 0 = z64 := by decide +kernel
theorem onesTo_all : onesTo 64 = ones := by decide +kernel
theorem onesTo_set (k : Nat) (hk : k < 64) : (onesTo k).set k 1 = onesTo (k + 1) := by
  apply List.ext_getElem
  · simp [onesTo]
  · intro n h1 h2
    simp only [onesTo, List.getElem_set, List.getElem_map, List.getElem_range]
    split
    · rename_i h; rw [← h, if_pos (by omega)]
    · by_cases h3 : n < k
      · rw [if_pos h3, if_pos (by omega)]
      · rw [if_neg h3, if_neg (by omega)]
theorem z64_set : z64.set 0 1 = dot 1 := rfl
theorem ix0 (w : World) : (Instr.index 63 (.agg #[.string ⟨#[0, 0, 64]⟩, .string ⟨#[0, 128, 1]⟩, .string ⟨#[0, 2]⟩]) (.int .i64 0)).run Tryd.prog w = .ok (.string ⟨#[0, 0, 64]⟩) w := by kernel_rfl
theorem ix1 (w : World) : (Instr.index 63 (.agg #[.string ⟨#[0, 0, 64]⟩, .string ⟨#[0, 128, 1]⟩, .string ⟨#[0, 2]⟩]) (.int .i64 1)).run Tryd.prog w = .ok (.string ⟨#[0, 128, 1]⟩) w := by kernel_rfl
theorem ix2 (w : World) : (Instr.index 63 (.agg #[.string ⟨#[0, 0, 64]⟩, .string ⟨#[0, 128, 1]⟩, .string ⟨#[0, 2]⟩]) (.int .i64 2)).run Tryd.prog w = .ok (.string ⟨#[0, 2]⟩) w := by kernel_rfl
theorem ones_len : ones.length = 64 := rfl
theorem z64_len : z64.length = 64 := rfl
theorem invL_len (y : List Int) : (invL y).length = 64 := blk8_len _
/-- A variable made and set at once. -/
def mk (w : World) (l : List Int) : World := (w.alloc (.cells (nums .i64 z64).toArray 22)).setRow w.heap.size (nums .i64 l).toArray
theorem mk_old {w : World} {g : Nat} {l : List Int} (h : Blk w g l) (l' : List Int) : Blk (mk w l') g l := (heap_setRow_far _ _ _ _ (Nat.ne_of_lt h.lt)).trans (blk_alloc h _)
theorem mk_new (w : World) (l : List Int) : Blk (mk w l) w.heap.size l := Blk.setRow (Blk.new _ _) _
theorem mk_below {w u : World} (h : Below u.heap.size u w) (l : List Int) : Below u.heap.size u (mk w l) := G08.below_setRow (below_alloc h _) h.size _
set_option maxHeartbeats 8000000 in
theorem works_call (w : World) (hm : Mat w) : Calls Tryd.prog 12 #[] w fun e w' => e = .returned (.bool true) ∧ Below w.heap.size w w' := by
  have HM := Aside0.mk hm
  clear hm
  go_enter Tryd.func12, Tryd.ntmps12
  go_wp2_with (refine alloc_ar rfl rfl ?_)
  go_loopw [31] (fun v31 wr => ∃ k : Nat, v31 = .int .i64 k ∧ k ≤ 64 ∧ Aside0 (Below w.heap.size w wr) ∧ Aside0 (Blk wr w.heap.size (onesTo k)) ∧ Aside0 (Blk wr (w.heap.size + 1) z64)) (fun v31 _ => 64 - (intOf v31).toNat)
  case atStart =>
    refine ⟨0, rfl, by omega, ⟨below_alloc (below_alloc (Below.refl _ _) _) _⟩, ⟨by rw [onesTo_zero]; exact blk_alloc (Blk.new _ _) _⟩, ⟨?_⟩⟩
    have := Blk.new (w.alloc (.cells (nums .i64 z64).toArray 22)) z64
    simpa using this
  case round =>
    obtain ⟨k, rfl, hk, HB, HF, HD⟩ := hrel
    by_cases hlt : k < 64
    · have t : decide ((k : Int) < 64) = true := decide_eq_true (by omega)
      have c1 := HF.out.cell k (by rw [onesTo_len]; exact hlt)
      have f1 : wr.frozen? ⟨w.heap.size, k, none⟩ = false := blk_frozen HF.out k
      go_wp2_with fail
      go_roundw
      case measure => simp [intOf]; omega
      case rel => exact ⟨k + 1, by go_num, by omega, ⟨below_set HB.out (Nat.le_refl _)⟩, ⟨by rw [← onesTo_set k hlt]; exact HF.out.set k 1⟩, ⟨HD.out.far (by omega) _ _⟩⟩
    · obtain rfl : k = 64 := by omega
      have t : decide (((64 : Nat) : Int) < 64) = false := by decide
      have hf := HF.out
      rw [onesTo_all] at hf
      have hsz := HD.out.lt
      have d1 := HD.out.set 0 1
      rw [z64_set] at d1
      have c1 := HD.out.cell 0 (by decide)
      have f1 : wr.frozen? ⟨w.heap.size + 1, 0, none⟩ = false := blk_frozen HD.out 0
      have HF2 : Aside0 (Blk (wr.setCell ⟨w.heap.size + 1, 0, none⟩ (.int .i64 1)) w.heap.size ones) := ⟨Blk.far hf (by omega) _ _⟩
      have HD2 := Aside0.mk d1
      have HB2 : Aside0 (Below w.heap.size w (wr.setCell ⟨w.heap.size + 1, 0, none⟩ (.int .i64 1))) := ⟨below_set HB.out (by omega)⟩
      clear hf d1
      go_wp2_with (first | (refine load_arG rfl _ rfl _ rfl ones ones_len HF2.out ?_))
      refine (forward_call ones ones_len _ (HM.out.below HB2.out) w_ones).mono ?_
      rintro e w1 ⟨rfl, hb1⟩
      rw [fwd_ones]
      have HB3 := Aside0.mk (below_step HB2.out hb1)
      have HF3 := Aside0.mk (HF2.out.below hb1)
      have HD3 := Aside0.mk (HD2.out.below hb1)
      clear c1 f1 hb1 HF2 HD2 HB2 HB HF HD t
      have HB4 := Aside0.mk (mk_below HB3.out (dot 64))
      have HF4 := Aside0.mk (mk_old HF3.out (dot 64))
      have HD4 := Aside0.mk (mk_old HD3.out (dot 64))
      have HA4 := Aside0.mk (mk_new w1 (dot 64))
      clear HB3 HF3 HD3
      go_wp2_with (first | (refine alloc_ar rfl rfl ?_) | (refine store_ar rfl _ _ rfl _ rfl z64 (dot 64) rfl (blk_new _ _) rfl (dot_len _) ?_) | (refine load_arG rfl _ rfl _ rfl (dot 1) (dot_len _) HD4.out ?_))
      obtain ⟨g1, hg1⟩ : ∃ g1, w1.heap.size = g1 := ⟨_, rfl⟩
      obtain ⟨w2, hw2⟩ : ∃ w2, mk w1 (dot 64) = w2 := ⟨_, rfl⟩
      have hw2' : (w1.alloc (.cells (nums .i64 z64).toArray 22)).setRow w1.heap.size (nums .i64 (dot 64)).toArray = w2 := hw2
      rw [hw2] at HB4 HF4 HD4 HA4
      rw [hw2']
      rw [hg1] at HA4 ⊢
      clear hw2 hw2' hg1
      refine (forward_call (dot 1) (dot_len _) _ (HM.out.below HB4.out) w_dot).mono ?_
      rintro e w3 ⟨rfl, hb3⟩
      have HB5 := Aside0.mk (mk_below (below_step HB4.out hb3) (fwdL (dot 1)))
      have HF5 := Aside0.mk (mk_old (HF4.out.below hb3) (fwdL (dot 1)))
      have HA5 := Aside0.mk (mk_old (HA4.out.below hb3) (fwdL (dot 1)))
      have HD5 := Aside0.mk (mk_new w3 (fwdL (dot 1)))
      clear hb3 HB4 HF4 HD4 HA4
      go_wp2_with (first | (refine alloc_ar rfl rfl ?_) | (refine store_ar rfl _ _ rfl _ rfl z64 (fwdL (dot 1)) rfl (blk_new _ _) rfl (fwdL_len _) ?_) | (refine build_dot rfl 64 rfl built64 ?_))
      obtain ⟨g2, hg2⟩ : ∃ g2, w3.heap.size = g2 := ⟨_, rfl⟩
      obtain ⟨w4, hw4⟩ : ∃ w4, mk w3 (fwdL (dot 1)) = w4 := ⟨_, rfl⟩
      have hw4' : (w3.alloc (.cells (nums .i64 z64).toArray 22)).setRow w3.heap.size (nums .i64 (fwdL (dot 1))).toArray = w4 := hw4
      rw [hw4] at HB5 HF5 HA5 HD5
      rw [hw4']
      rw [hg2] at HD5 ⊢
      clear hw4 hw4' hg2
      refine (inverse_call (dot 64) (dot_len _) _ (HM.out.below HB5.out) w_64).mono ?_
      rintro e w5 ⟨rfl, hb5⟩
      rw [inv_64]
      have HB6 := Aside0.mk (mk_below (below_step HB5.out hb5) ones)
      have HF6 := Aside0.mk (mk_old (HF5.out.below hb5) ones)
      have HA6 := Aside0.mk (mk_old (HA5.out.below hb5) ones)
      have HD6 := Aside0.mk (mk_old (HD5.out.below hb5) ones)
      have HC6 := Aside0.mk (mk_new w5 ones)
      clear hb5 HB5 HF5 HD5 HA5
      go_wp2_with (first | (refine alloc_ar rfl rfl ?_) | (refine store_ar rfl _ _ rfl _ rfl z64 ones rfl (blk_new _ _) rfl ones_len ?_) | (refine build_dot rfl 31 rfl built31 ?_))
      obtain ⟨g3, hg3⟩ : ∃ g3, w5.heap.size = g3 := ⟨_, rfl⟩
      obtain ⟨w6, hw6⟩ : ∃ w6, mk w5 ones = w6 := ⟨_, rfl⟩
      have hw6' : (w5.alloc (.cells (nums .i64 z64).toArray 22)).setRow w5.heap.size (nums .i64 ones).toArray = w6 := hw6
      rw [hw6] at HB6 HF6 HA6 HD6 HC6
      rw [hw6']
      rw [hg3] at HC6 ⊢
      clear hw6 hw6' hg3
      refine (inverse_call (dot 31) (dot_len _) _ (HM.out.below HB6.out) w_31).mono ?_
      rintro e w7 ⟨rfl, hb7⟩
      rw [inv_31]
      have HB8 := Aside0.mk (mk_below (below_step HB6.out hb7) z64)
      have HF8 := Aside0.mk (mk_old (HF6.out.below hb7) z64)
      have HA8 := Aside0.mk (mk_old (HA6.out.below hb7) z64)
      have HD8 := Aside0.mk (mk_old (HD6.out.below hb7) z64)
      have HC8 := Aside0.mk (mk_old (HC6.out.below hb7) z64)
      have HE8 := Aside0.mk (mk_new w7 z64)
      clear hb7 HB6 HF6 HD6 HA6 HC6
      have e0 : (mk w7 z64).cell? ⟨g2, 0, none⟩ = some (.int .i64 1) := (HD8.out.cell 0 (by decide)).trans (by rw [fwd_dot.1])
      have e1 : (mk w7 z64).cell? ⟨g2, 1, none⟩ = some (.int .i64 10) := (HD8.out.cell 1 (by decide)).trans (by rw [fwd_dot.2.1])
      have e8 : (mk w7 z64).cell? ⟨g2, 8, none⟩ = some (.int .i64 10) := (HD8.out.cell 8 (by decide)).trans (by rw [fwd_dot.2.2.1])
      have e9 : (mk w7 z64).cell? ⟨g2, 9, none⟩ = some (.int .i64 100) := (HD8.out.cell 9 (by decide)).trans (by rw [fwd_dot.2.2.2])
      unfold mk at e0 e1 e8 e9
      go_wp2_with (first | (refine alloc_ar rfl rfl ?_) | (refine store_ar rfl _ _ rfl _ rfl z64 z64 rfl (blk_new _ _) rfl z64_len ?_) | (refine load_arG rfl _ rfl g1 rfl (dot 64) (dot_len _) HA8.out ?_) | (refine load_arG rfl _ rfl g3 rfl ones ones_len HC8.out ?_) | (refine load_arG rfl _ rfl w.heap.size rfl ones ones_len HF8.out ?_) | (refine load_arG rfl _ rfl w7.heap.size rfl z64 z64_len HE8.out ?_) | (refine build_dot rfl 64 rfl built64 ?_) | (refine build_zero rfl rfl ?_) | (refine ne_ar rfl _ _ rfl (dot 64) (dot 64) rfl rfl (dot_len _) (dot_len _) ?_) | (refine ne_ar rfl _ _ rfl ones ones rfl rfl ones_len ones_len ?_) | (refine ne_ar rfl _ _ rfl z64 z64 rfl rfl z64_len z64_len ?_) | (refine brkO (x := .makeMap 62 none) rfl ?_))
      refine ⟨?_⟩
      have HW8 := Aside0.mk (show Below w.heap.size w ((w7.alloc (.cells (nums .i64 z64).toArray 22)).setRow w7.heap.size (nums .i64 z64).toArray) from HB8.out)
      obtain ⟨w8, hw8⟩ : ∃ w8, (w7.alloc (.cells (nums .i64 z64).toArray 22)).setRow w7.heap.size (nums .i64 z64).toArray = w8 := ⟨_, rfl⟩
      obtain ⟨g4, hg4⟩ : ∃ g4, w7.heap.size = g4 := ⟨_, rfl⟩
      rw [hw8] at HW8 ⊢
      rw [hg4]
      clear hw8 hg4 e0 e1 e8 e9 HB8 HF8 HA8 HD8 HC8 HE8 hsz hk hlt
      have hmm := @run_makeMap Tryd.prog
      have hsz8 := HW8.out.size
      go_wp2_with (first
        | (refine insert_own (H := Unit) rfl (.tmp 107) (.const (.int .i64 1)) (.tmp 108) 62 rfl 3 57 keyed3 Tryd.underlying62 RE w8.heap.size 0 (.map []) rfl (World.ownsMap_made w8 _ _ _) (by unfold maxLen; omega) _ _ (.int .i64 1) rfl rfl (Go.Maps.keyOf_int_mk Tryd.underlying3 (by decide)) _ _ (RE_mk 0 1) ?_; intro wA ho1 hg1)
        | (refine insert_own (H := Unit) rfl (.tmp 107) (.const (.int .i64 2)) (.tmp 109) 62 rfl 3 57 keyed3 Tryd.underlying62 RE w8.heap.size 1 _ rfl ho1 (by unfold maxLen; omega) _ _ (.int .i64 2) rfl rfl (Go.Maps.keyOf_int_mk Tryd.underlying3 (by decide)) _ _ (RE_mk 1 0) ?_; intro wB ho2 hg2)
        | (refine insert_own (H := Unit) rfl (.tmp 107) (.const (.int .i64 3)) (.tmp 110) 62 rfl 3 57 keyed3 Tryd.underlying62 RE w8.heap.size 2 _ rfl ho2 (by unfold maxLen; omega) _ _ (.int .i64 3) rfl rfl (Go.Maps.keyOf_int_mk Tryd.underlying3 (by decide)) _ _ (RE_mk 2 0) ?_; intro wC ho3 hg3)
        | (refine insert_own (H := Unit) rfl (.tmp 107) (.const (.int .i64 63)) (.tmp 111) 62 rfl 3 57 keyed3 Tryd.underlying62 RE w8.heap.size 3 _ rfl ho3 (by unfold maxLen; omega) _ _ (.int .i64 63) rfl rfl (Go.Maps.keyOf_int_mk Tryd.underlying3 (by decide)) _ _ (RE_mk 7 7) ?_; intro wD ho4 hg4)
        | (at_range; refine wpList_range_own _ rfl (.tmp 112) 62 rfl 3 57 keyed3 Tryd.underlying62 RE w8.heap.size 4 D4 rfl ho4 ?_; intro wE hrg hg5 hs5))
      go_frame
      have HRG := Aside0.mk hrg
      have hgE : w8.grownBy wE (some w8.heap.size) := (((((World.grownBy_alloc w8 (.map #[] 0) (some w8.heap.size)).trans hg1).trans hg2).trans hg3).trans hg4).trans (hg5.but _)
      have HWE := Aside0.mk (HW8.out.grown hgE hsz8 (fun k e => by cases e; exact hsz8))
      obtain ⟨bm, hbm⟩ : ∃ bm, w8.heap.size = bm := ⟨_, rfl⟩
      obtain ⟨rr, hrr⟩ : ∃ rr, wD.heap.size = rr := ⟨_, rfl⟩
      have hrr8 : w.heap.size ≤ rr ∧ w.heap.size ≤ bm := by have := hg1.size; have := hg2.size; have := hg3.size; have := hg4.size; simp at *; omega
      rw [hbm, hrr] at HRG
      rw [hbm, hrr]
      clear hgE hrg ho1 ho2 ho3 ho4 hg1 hg2 hg3 hg4 hg5 hs5 hbm hrr HW8 hmm hsz8
      go_loopw [] (fun wr => ∃ (left : Lit → Bool) (cnt : Nat), Aside0 (wr.ranges Tryd.prog 3 RE bm rr 4 D4 left cnt) ∧ Aside0 (∀ z, left z = true → Maps.has D4 z = true) ∧ Aside0 (Below w.heap.size w wr)) (fun wr => wr.rangeLeft bm rr)
      case atStart => exact ⟨_, _, HRG, ⟨fun _ h => h⟩, HWE⟩
      case round =>
        clear HRG HWE
        obtain ⟨left, cnt, HRG, HLE, HB⟩ := hrel
        go_wp2_with (refine brkO (x := .next (.tmp 113) false) rfl ?_)
        refine ⟨?_⟩
        refine wpList_next_ranges _ rfl _ rfl 3 keyed3 RE (Value.int .i64) (fun p : Int × Int => .agg #[.int .i64 p.1, .int .i64 p.2]) (fun key kl hk => by obtain ⟨x, rfl, _⟩ := Go.Maps.keyOf_int_inv Tryd.underlying3 hk; exact ⟨x, rfl⟩) RE_inv bm rr 4 D4 left cnt rfl HRG.out ?_ ?_
        · intro _ _
          have hmw : Mat wr := HM.out.below HB.out
          have HE1 := Aside0.mk (encode_call ⟨#[129]⟩ 1 1 1 (by decide) wr hmw)
          rw [enc_81] at HE1
          clear HRG HLE hmw
          go_frame
          go_wp2_with fail
          refine HE1.out.mono ?_
          rintro e wa ⟨rfl, hba⟩
          have HBa := Aside0.mk (below_step HB.out hba)
          have HE2 := Aside0.mk (encode_call ⟨#[128]⟩ 1 1 1 (by decide) wa (HM.out.below HBa.out))
          rw [enc_80] at HE2
          clear hba HE1
          dsimp only
          go_wp2_with fail
          refine HE2.out.mono ?_
          rintro e wb ⟨rfl, hbb⟩
          have HBb := Aside0.mk (below_step HBa.out hbb)
          have HE3 := Aside0.mk (decode_call ⟨#[64]⟩ 1 1 1 (by decide) wb (HM.out.below HBb.out))
          rw [dec_40] at HE3
          clear hbb HE2
          dsimp only
          go_wp2_with fail
          refine HE3.out.mono ?_
          rintro e wc ⟨rfl, hbc⟩
          have HBc := Aside0.mk (below_step HBb.out hbc)
          clear hbc HE3 HBa HBb HB
          dsimp only
          go_wp2_with fail
          go_loopw [153] (fun v153 wr2 => ∃ k : Nat, v153 = .int .i64 k ∧ k ≤ 3 ∧ Aside0 (Below w.heap.size w wr2)) (fun v153 _ => 3 - (intOf v153).toNat)
          case atStart => exact ⟨0, rfl, by omega, HBc⟩
          case round =>
            obtain ⟨k, rfl, hk, HBd⟩ := hrel
            have hkc : k = 0 ∨ k = 1 ∨ k = 2 ∨ k = 3 := by omega
            rcases hkc with rfl | rfl | rfl | rfl
            · have HD1 := Aside0.mk (decode_call ⟨#[0, 0, 64]⟩ 1 1 1 (by decide) wr (HM.out.below HBd.out))
              rw [dec_a] at HD1
              have hix := ix0
              go_wp2_with fail
              refine HD1.out.mono ?_
              rintro e we ⟨rfl, hbe⟩
              dsimp only
              have HBe := Aside0.mk (below_step HBd.out hbe)
              clear hbe
              go_wp2_with fail
              go_roundw
              case measure => simp [intOf]
              case rel => exact ⟨1, rfl, by omega, HBe⟩
            · have HD1 := Aside0.mk (decode_call ⟨#[0, 128, 1]⟩ 1 1 1 (by decide) wr (HM.out.below HBd.out))
              rw [dec_b] at HD1
              have hix := ix1
              go_wp2_with fail
              refine HD1.out.mono ?_
              rintro e we ⟨rfl, hbe⟩
              dsimp only
              have HBe := Aside0.mk (below_step HBd.out hbe)
              clear hbe
              go_wp2_with fail
              go_roundw
              case measure => simp [intOf]
              case rel => exact ⟨2, rfl, by omega, HBe⟩
            · have HD1 := Aside0.mk (decode_call ⟨#[0, 2]⟩ 1 1 1 (by decide) wr (HM.out.below HBd.out))
              rw [dec_c] at HD1
              have hix := ix2
              go_wp2_with fail
              refine HD1.out.mono ?_
              rintro e we ⟨rfl, hbe⟩
              dsimp only
              have HBe := Aside0.mk (below_step HBd.out hbe)
              clear hbe
              go_wp2_with fail
              go_roundw
              case measure => simp [intOf]
              case rel => exact ⟨3, rfl, by omega, HBe⟩
            · have HB1 := Aside0.mk (bound_call 1 (by decide) (by decide))
              have HB2 := Aside0.mk (bound_call 10 (by decide) (by decide))
              have HB3 := Aside0.mk (bound_call 255 (by decide) (by decide))
              go_wp2_with fail
              refine (HB1.out wr).mono ?_
              rintro e we ⟨rfl, rfl⟩
              go_wp2_with fail
              refine (HB2.out wr).mono ?_
              rintro e we ⟨rfl, rfl⟩
              go_wp2_with fail
              refine (HB3.out wr).mono ?_
              rintro e we ⟨rfl, rfl⟩
              go_wp2_with fail
              go_ret
              exact ⟨rfl, HBd.out⟩
        · intro x c kl y w1 cnt1 hkey hlk hRy hat hrg1 hlt hg1 hs1 hen
          obtain ⟨x', ex, rfl, hwx⟩ := Go.Maps.keyOf_int_inv Tryd.underlying3 hkey
          cases ex
          obtain ⟨k, hk64, rfl, hc1, hc2⟩ := entry x c y (HLE.out _ hlk) hRy hat
          obtain ⟨c1, c2⟩ := c
          simp only at hc1 hc2
          subst hc1 hc2
          have HRG1 := Aside0.mk hrg1
          have HLT := Aside0.mk hlt
          have HB1 := Aside0.mk (HB.out.grown hg1 HB.out.size (fun k e => by cases e; exact hrr8.1))
          clear hrg1 hlt hkey hlk hRy hat hg1 hs1 HB
          go_frame
          go_wp2_with fail
          refine (zigzag_call k hk64 _).mono ?_
          rintro e w2 ⟨rfl, hb2⟩
          have hbA : Below w1.heap.size w1 (w1.alloc (.cells #[.int .i64 ((zAt k).1 : Int), .int .i64 ((zAt k).2 : Int)] 57)) := below_alloc (Below.refl _ _) _
          have hbB := below_step hbA hb2
          have hblk := blk_below (blk_new w1 (.cells #[.int .i64 ((zAt k).1 : Int), .int .i64 ((zAt k).2 : Int)] 57)) hb2
          have c0 : w2.cell? ⟨w1.heap.size, 0, none⟩ = some (.int .i64 ((zAt k).1 : Int)) := (blk_cell hblk 0).trans (by simp)
          have c1 : w2.cell? ⟨w1.heap.size, 1, none⟩ = some (.int .i64 ((zAt k).2 : Int)) := (blk_cell hblk 1).trans (by simp)
          have HRG2 := Aside0.mk (HRG1.out.kept (R08.grown_of_below hbB none) (by simp) (by simp))
          have HB2 := Aside0.mk (below_step HB1.out hbB)
          clear hbA hbB hblk hb2
          go_wp2_with fail
          go_roundw
          case measure => have := HLT.out; rw [HRG2.out.left_eq, HRG.out.left_eq]; omega
          case rel => exact ⟨_, _, HRG2, ⟨fun z hz => HLE.out z (by simp only [Bool.and_eq_true] at hz; exact hz.1)⟩, HB2⟩
end Go.Proofs.YtmbdjajmiggiaaaDoor.V08
