/- A block that can be transformed (chapter 08): made. -/
import Derived.Test.YtmbdjajmiggiaaaDoorW08
namespace Go.Proofs.YtmbdjajmiggiaaaDoor.P08
open Go.Proofs.YtmbdjajmiggiaaaDoor.K08 Go.Proofs.YtmbdjajmiggiaaaDoor.G08 Go.Proofs.YtmbdjajmiggiaaaDoor.G08f Go.Proofs.YtmbdjajmiggiaaaDoor.Z08 Go.Proofs.YtmbdjajmiggiaaaDoor.O08 Go.Proofs.YtmbdjajmiggiaaaDoor.L08
open Go.RowKit Go.Proofs.YtmbdjajmiggiaaaDoorW.PrintWords Go.Proofs.YtmbdjajmiggiaaaDoorW.PrintLast Go.Proofs.YtmbdjajmiggiaaaDoorW.PrintMore
set_option linter.unusedVariables false
set_option linter.unusedSimpArgs false
set_option maxRecDepth 100000
def madeL (b : List Int) : List Int := b.map fun x => x.tmod 1048577
theorem madeL_len (b : List Int) : (madeL b).length = b.length := by simp [madeL]
/-- The first k elements are turned. -/
def partL (f : Int → Int) (b : List Int) (k : Nat) : List Int := (b.take k).map f ++ b.drop k
theorem partL_len (f : Int → Int) (b : List Int) (k : Nat) : (partL f b k).length = b.length := by
  unfold partL; simp; omega
theorem partL_zero (f : Int → Int) (b : List Int) : partL f b 0 = b := by simp [partL]
theorem partL_all (f : Int → Int) (b : List Int) (k : Nat) (h : b.length ≤ k) : partL f b k = b.map f := by unfold partL; simp [List.take_of_length_le h, List.drop_of_length_le h]
theorem partL_get (f : Int → Int) (b : List Int) (k : Nat) (h : k < b.length) : (partL f b k).getD k 0 = b.getD k 0 := by
  unfold partL
  rw [List.getD_eq_getElem?_getD, List.getElem?_append_right (by simp; omega), List.getD_eq_getElem?_getD]
  simp [Nat.min_eq_left (Nat.le_of_lt h)]
theorem partL_set (f : Int → Int) (b : List Int) (k : Nat) (h : k < b.length) : (partL f b k).set k (f (b.getD k 0)) = partL f b (k + 1) := by
  have e : b.getD k 0 = b[k] := by rw [List.getD_eq_getElem?_getD, List.getElem?_eq_getElem h]; rfl
  rw [e]
  unfold partL
  have e2 : k - ((b.take k).map f).length = 0 := by simp; omega
  rw [List.set_append_right _ _ (by simp; omega), e2, List.take_succ_eq_append_getElem h, List.map_append, List.append_assoc]
  congr 1
  conv => lhs; rw [List.drop_eq_getElem_cons h, List.set_cons_zero]
  rfl
set_option maxHeartbeats 1000000 in
theorem made_call (b : List Int) (hb : b.length = 64) (w : World) :
    Calls Tryd.prog 27 #[ar b] w fun e w' => e = .returned (ar (madeL b)) ∧ Below w.heap.size w w' := by
  have HL := Aside0.mk hb
  clear hb
  unfold ar
  go_enter Tryd.func27, Tryd.ntmps27
  go_wp2_with (refine alloc_ar rfl rfl ?_)
  go_loopw [4] (fun v4 wr => ∃ k : Nat, v4 = .int .i64 k ∧ k ≤ 64 ∧ Aside0 (Below w.heap.size w wr) ∧ Aside0 (Blk wr w.heap.size (partL (fun x => x.tmod 1048577) b k)) ∧ Aside0 (Blk wr (w.heap.size + 1) z64)) (fun v4 _ => 64 - (intOf v4).toNat)
  case atStart =>
    refine ⟨0, rfl, by omega, ⟨below_alloc (below_alloc (Below.refl _ _) _) _⟩, ⟨by rw [partL_zero]; exact blk_alloc (Blk.new _ _) _⟩, ⟨?_⟩⟩
    have := Blk.new (w.alloc (.cells (nums .i64 b).toArray 22)) z64
    simpa using this
  case round =>
    obtain ⟨k, rfl, hk, HB, HF, HD⟩ := hrel
    by_cases hlt : k < 64
    · have t : decide ((k : Int) < 64) = true := decide_eq_true (by omega)
      have c1 := HF.out.cell k (by rw [partL_len, HL.out]; exact hlt)
      rw [partL_get _ _ _ (by rw [HL.out]; exact hlt)] at c1
      have hset := partL_set (fun x => x.tmod 1048577) b k (by rw [HL.out]; exact hlt)
      obtain ⟨x, hx⟩ : ∃ x, b.getD k 0 = x := ⟨_, rfl⟩
      rw [hx] at c1 hset
      have HSET := Aside0.mk hset
      have f1 : wr.frozen? ⟨w.heap.size, k, none⟩ = false := blk_frozen HF.out k
      clear hset hx
      go_wp2_with fail
      go_roundw
      case measure => simp [intOf]; omega
      case rel => exact ⟨k + 1, by go_num, by omega, ⟨below_set HB.out (Nat.le_refl _)⟩, ⟨by rw [← HSET.out]; exact HF.out.set k _⟩, ⟨HD.out.far (by omega) _ _⟩⟩
    · obtain rfl : k = 64 := by omega
      have t : decide (((64 : Nat) : Int) < 64) = false := by decide
      have hf := HF.out
      rw [partL_all _ _ _ (Nat.le_of_eq HL.out)] at hf
      have HF2 : Aside0 (Blk wr w.heap.size (madeL b)) := ⟨hf⟩
      have HML : Aside0 ((madeL b).length = 64) := ⟨by rw [madeL_len]; exact HL.out⟩
      clear hf HF
      go_wp2_with (first | (refine load_ar rfl _ rfl _ rfl (madeL b) HML.out HF2.out ?_) | (refine store_ar rfl _ _ rfl _ rfl z64 (madeL b) rfl HD.out rfl HML.out ?_))
      refine bodyPost_ret (results_cell_row rfl _ _ (w.heap.size + 1) 22 (nums .i64 (madeL b)).toArray (0, 0) _ rfl (HD.out.setRow _) Tryd.underlying22 rfl (info22.trans (by simp [nums_length, HML.out]))) rfl ?_
      exact ⟨rfl, G08.below_setRow HB.out (by omega) _⟩
theorem tmod_bd (x : Int) : -1048576 ≤ x.tmod 1048577 ∧ x.tmod 1048577 ≤ 1048576 := by
  have h1 := Int.tmod_lt_of_pos x (show (0 : Int) < 1048577 by omega)
  have h2 := Int.tmod_lt_of_pos (-x) (show (0 : Int) < 1048577 by omega)
  rw [Int.neg_tmod] at h2
  omega
theorem madeL_in (b : List Int) : wthn 1048576 (madeL b) = true := wthn_yes fun k hk => by
  refine getD_all (p := fun x => -1048576 ≤ x ∧ x ≤ 1048576) ?_ k hk
  intro x hx
  obtain ⟨y, _, rfl⟩ := List.mem_map.1 hx
  exact tmod_bd y
/-- The coefficients of a block are small enough. -/
theorem fwd_in (b : List Int) (hb : b.length = 64) (h : wthn 1048576 b = true) : wthn 4294967296 (fwdL b) = true := wthn_yes fun k hk => by
  rw [fwdL_len] at hk
  rw [fwdL_eq, blk8_get _ _ hk, outF_eq _ _ _ (by omega) (by omega)]
  have := fwd_bd (fun k => b.getD k 0) 1048576 (by omega) (fun k hk => getD_all (G08f.wthn_bd h) k (by omega)) (k / 8) (k % 8) (by omega) (by omega)
  omega
/-- Inverse inverts Forward. -/
theorem inv_fwdL (b : List Int) (hb : b.length = 64) : invL (fwdL b) = b := by
  apply List.ext_getElem
  · rw [hb]; exact blk8_len _
  · intro k h1 h2
    have hk : k < 64 := by omega
    have e : (invL (fwdL b)).getD k 0 = b.getD k 0 := by
      unfold invL
      rw [blk8_get _ _ hk]
      unfold outI
      rw [isum_eq _ _ _ (by omega), inv_fwd (fun k => b.getD k 0) (fun k => (fwdL b).getD k 0) (fun i hi j hj => by rw [fwdL_eq, blk8_get _ _ (by omega), show (8 * i + j) / 8 = i by omega, show (8 * i + j) % 8 = j by omega, outF_eq _ _ _ hi hj]) (k / 8) (k % 8) (by omega) (by omega), rnd_exact]
      congr 1
      omega
    rw [List.getD_eq_getElem?_getD, List.getElem?_eq_getElem h1, List.getD_eq_getElem?_getD, List.getElem?_eq_getElem h2] at e
    exact e
end Go.Proofs.YtmbdjajmiggiaaaDoor.P08
