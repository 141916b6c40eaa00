/- The reader of codes (chapter 08): octet, number, block. -/
import Derived.Test.YtmbdjajmiggiaaaDoorE08
import Derived.WalkLawsBesides
import Derived.RangeFuncBox
namespace Go.Proofs.YtmbdjajmiggiaaaDoor.R08
open Go.Proofs.YtmbdjajmiggiaaaDoor.K08 Go.Proofs.YtmbdjajmiggiaaaDoor.G08 Go.Proofs.YtmbdjajmiggiaaaDoor.G08f Go.Proofs.YtmbdjajmiggiaaaDoor.Z08 Go.Proofs.YtmbdjajmiggiaaaDoor.O08 Go.Proofs.YtmbdjajmiggiaaaDoor.L08 Go.Proofs.YtmbdjajmiggiaaaDoor.E08
open Go.RowKit Go.Proofs.YtmbdjajmiggiaaaDoorW.PrintWords Go.Proofs.YtmbdjajmiggiaaaDoorW.PrintLast Go.Proofs.YtmbdjajmiggiaaaDoorW.PrintMore
set_option linter.unusedVariables false
set_option linter.unusedSimpArgs false
set_option maxRecDepth 100000
def unz (u : Int) : Int := if u % 2 = 1 then -((u + 1) / 2) else u / 2
/-- A number read: its value (0 if there is none that is right), and what is left. -/
def rdNum : Nat → Int → Int → List Int → Int × List Int
  | 0, _, _, l => (0, l)
  | _ + 1, _, _, [] => (0, [])
  | k + 1, u, un, d :: l => if d < 128 then (unz (u + d % 128 * un), l) else rdNum k (u + d % 128 * un) (un * 128) l
def place (p : Nat) : Nat := 8 * (zAt p).1 + (zAt p).2
theorem place_lt (p : Nat) (h : p < 64) : place p < 64 := by have := zAt_lt p h; unfold place; omega
def rdBlk (q : Int) : Nat → Nat → List Int → List Int → Option (List Int × List Int)
  | 0, _, _, _ => none
  | _ + 1, _, _, [] => none
  | f + 1, k, y, n :: l => if n = 64 then some (y, l) else if 64 < n ∨ 64 ≤ (k : Int) + n then none else
      if (rdNum 3 0 1 l).1 = 0 then none else rdBlk q f (k + n.toNat + 1) (y.set (place (k + n.toNat)) ((rdNum 3 0 1 l).1 * q)) (rdNum 3 0 1 l).2
/-- A reader in memory. -/
def Rdr (w : World) (b : Nat) (s : ByteArray) (p : Nat) : Prop := w.heap[b]? = some (.cells #[.string s, .int .i64 p] 76 (0, 0))
theorem Rdr.c0 {w : World} {b p : Nat} {s : ByteArray} (h : Rdr w b s p) : w.cell? ⟨b, 0, none⟩ = some (.string s) := (blk_cell h 0).trans (by simp)
theorem Rdr.c1 {w : World} {b p : Nat} {s : ByteArray} (h : Rdr w b s p) : w.cell? ⟨b, 1, none⟩ = some (.int .i64 p) := (blk_cell h 1).trans (by simp)
theorem Rdr.lt {w : World} {b p : Nat} {s : ByteArray} (h : Rdr w b s p) : b < w.heap.size := blk_lt h
theorem Rdr.set {w : World} {b p : Nat} {s : ByteArray} (h : Rdr w b s p) (p' : Nat) : Rdr (w.setCell ⟨b, 1, none⟩ (.int .i64 p')) b s p' := (blk_set h 1 _).trans (by simp)
theorem Rdr.below {w w' : World} {b p : Nat} {s : ByteArray} (h : Rdr w b s p) (hb : Below w.heap.size w w') : Rdr w' b s p := blk_below h hb
theorem grown_of_below {W W' : World} (h : Below W.heap.size W W') (row : Option Nat) : W.grownBy W' row := ⟨h.os, h.tape, h.output, h.size, fun k hk _ => h.block k hk⟩
theorem grown_set (W : World) (b i : Nat) (u : Value) : W.grownBy (W.setCell ⟨b, i, none⟩ u) (some b) :=
  ⟨rfl, rfl, rfl, by simp, fun k _ hk => Below.heap_setCell W ⟨b, i, none⟩ u k (fun e => hk (by rw [e]))⟩
theorem grown_drewN (W : World) (n : Nat) (row : Option Nat) : W.grownBy (W.drewN n) row := ⟨rfl, rfl, rfl, Nat.le_refl _, fun _ _ _ => rfl⟩
/-- What is left of a string. -/
def rest (s : ByteArray) (p : Nat) : List Int := (bytesOf s).drop p
theorem rest_nil (s : ByteArray) : rest s s.size = [] := by unfold rest; rw [List.drop_of_length_le]; simp [bytesOf]
theorem rest_cons (s : ByteArray) (p : Nat) (h : p < s.size) : rest s p = bAt s p :: rest s (p + 1) := by
  unfold rest bAt
  exact getD_drop (by simpa [bytesOf] using h)
theorem strAt (s : ByteArray) (k : Nat) (h : k < s.size) : ((s[k]'h).toNat : Int) = bAt s k := by
  unfold bAt bytesOf
  have hml : k < s.data.toList.length := by simpa using h
  simp [List.getD_eq_getElem?_getD, List.getElem?_eq_getElem hml]
  rfl
set_option maxHeartbeats 4000000 in
theorem octet_end (b : Nat) (s : ByteArray) (w : World) (h : Rdr w b s s.size) (hs : s.size ≤ 65536) :
    Calls Tryd.prog 58 #[.pointer (some ⟨b, 0, none⟩)] w fun e w' => e = .returned (.int .i64 (-1)) ∧ Rdr w' b s s.size ∧ w.grownBy w' (some b) := by
  have c0 := h.c0
  have c1 := h.c1
  have H := Aside0.mk h
  clear h
  go_enter Tryd.func58, Tryd.ntmps58
  go_wp2_with fail
  go_quiet (fail)
  go_wp2_with fail
  go_ret
  exact ⟨rfl, H.out, grown_drewN _ _ _⟩
set_option maxHeartbeats 4000000 in
theorem octet_call (b : Nat) (s : ByteArray) (p : Nat) (w : World) (h : Rdr w b s p) (hp : p < s.size) (hs : s.size ≤ 65536) :
    Calls Tryd.prog 58 #[.pointer (some ⟨b, 0, none⟩)] w fun e w' => e = .returned (.int .i64 (bAt s p)) ∧ Rdr w' b s (p + 1) ∧ w.grownBy w' (some b) := by
  have c0 := h.c0
  have c1 := h.c1
  have f1 : w.frozen? ⟨b, 1, none⟩ = false := blk_frozen h 1
  have H := Aside0.mk h
  have t0 : ((p : Int) == (s.size : Int)) = false := by simp; omega
  have q0 : ∀ hh, ((s[p]'hh).toNat : Int) = bAt s p := fun hh => strAt s p hh
  obtain ⟨x, hx⟩ : ∃ x, bAt s p = x := ⟨_, rfl⟩
  have hxb := bAt_bd s p
  rw [hx] at q0 hxb ⊢
  clear h hx
  go_enter Tryd.func58, Tryd.ntmps58
  go_wp2_with fail
  go_quiet (fail)
  go_wp2_with fail
  have h2 := Rdr.set (w := w.drewN nq) H.out (p + 1)
  have e1 : (((p + 1 : Nat)) : Int) = (p : Int) + 1 := by simp
  rw [e1] at h2
  have d0 := h2.c0
  have d1 := h2.c1
  rw [e1] at d1
  have k1 : IntKind.i64.wrap ((p : Int) + 1 - 1) = (p : Int) := by rw [Int.add_sub_cancel]; exact IntWalk.i64_in _ (by omega)
  have k2 : (p : Int) < (s.size : Int) := by omega
  have H2 := Aside0.mk h2
  clear h2 e1 c0 c1 f1
  go_quiet (fail)
  go_wp2_with fail
  go_ret
  exact ⟨rfl, H2.out, ((grown_drewN w _ (some b)).trans (grown_set _ b 1 _)).trans (grown_drewN _ _ _)⟩
def NumPost (b : Nat) (s : ByteArray) (w : World) (R : Int × List Int) (e : Ending) (w' : World) : Prop := ∃ p', e = .returned (.int .i64 R.1) ∧ p' ≤ s.size ∧ rest s p' = R.2 ∧ Rdr w' b s p' ∧ w.grownBy w' (some b)
theorem rd_cons (k : Nat) (u un d : Int) (l : List Int) : rdNum (k + 1) u un (d :: l) = if d < 128 then (unz (u + d % 128 * un), l) else rdNum k (u + d % 128 * un) (un * 128) l := rfl
theorem unz_odd (u : Int) (h0 : 0 ≤ u) (h1 : u < 2097152) (h : u % 2 = 1) : wrap64 (-(u + 1).tdiv 2) = unz u := by
  unfold unz
  rw [if_pos h, Int.tdiv_eq_ediv_of_nonneg (by omega)]
  unfold wrap64
  omega
theorem unz_even (u : Int) (h : ¬ u % 2 = 1) : u / 2 = unz u := by unfold unz; rw [if_neg h]
/-- How far the reading of a number has come. -/
def Stage (k : Nat) (u un : Int) : Prop := (k = 0 ∧ un = 1 ∧ u = 0) ∨ (k = 1 ∧ un = 128 ∧ 0 ≤ u ∧ u < 128) ∨ (k = 2 ∧ un = 16384 ∧ 0 ≤ u ∧ u < 16384) ∨ (k = 3 ∧ 0 ≤ u ∧ u < 2097152)
set_option maxHeartbeats 4000000 in
theorem number_read (b : Nat) (s : ByteArray) (p : Nat) (w : World) (h : Rdr w b s p) (hp : p ≤ s.size) (hs : s.size ≤ 65536) :
    Calls Tryd.prog 59 #[.pointer (some ⟨b, 0, none⟩)] w (NumPost b s w (rdNum 3 0 1 (rest s p))) := by
  obtain ⟨R, hR⟩ : ∃ R, rdNum 3 0 1 (rest s p) = R := ⟨_, rfl⟩
  rw [hR]
  have HR := Aside0.mk hR
  have H := Aside0.mk h
  clear hR h
  have hmf : ∀ (fn : Fn) (first cap : Array Value) (w : World), (Instr.makeFunc fn first cap).run Tryd.prog w = .ok (.func fn first cap) w := fun _ _ _ _ => rfl
  go_enter Tryd.func59, Tryd.ntmps59
  go_wp2_with fail
  go_loopw [3, 4, 9] (fun v3 v4 v9 wr => ∃ (k p2 : Nat) (u un : Int), v3 = .int .i64 u ∧ v4 = .int .i64 un ∧ v9 = .int .i64 k ∧ p2 ≤ s.size ∧ Stage k u un ∧ Aside0 (rdNum (3 - k) u un (rest s p2) = R) ∧ Aside0 (Rdr wr b s p2) ∧ Aside0 (w.grownBy wr (some b))) (fun _ _ v9 _ => 3 - (intOf v9).toNat)
  case atStart => exact ⟨0, p, 0, 1, rfl, rfl, rfl, hp, .inl ⟨rfl, rfl, rfl⟩, HR, H, ⟨World.grownBy.refl _ _⟩⟩
  case round =>
    obtain ⟨k, p2, u, un, rfl, rfl, rfl, hp2, hst, HR2, HRD, HG⟩ := hrel
    by_cases hk : k = 3
    · subst hk
      have t : decide (((3 : Nat) : Int) < 3) = false := by decide
      go_wp2_with fail
      go_ret
      exact ⟨p2, by rw [← HR2.out]; rfl, hp2, by rw [← HR2.out]; rfl, HRD.out, HG.out⟩
    · have hk3 : k < 3 := by unfold Stage at hst; omega
      have t : decide ((k : Int) < 3) = true := decide_eq_true (by omega)
      have hbb : 0 ≤ u ∧ u < 16384 ∧ 1 ≤ un ∧ un ≤ 16384 := by unfold Stage at hst; omega
      obtain ⟨m, hm⟩ : ∃ m, 3 - k = m + 1 := ⟨2 - k, by omega⟩
      have hr2 := HR2.out
      rw [hm] at hr2
      by_cases hlt : p2 < s.size
      · rw [rest_cons s p2 hlt, rd_cons] at hr2
        obtain ⟨d, hd⟩ : ∃ d, bAt s p2 = d := ⟨_, rfl⟩
        have hdb := bAt_bd s p2
        have HOC := Aside0.mk (octet_call b s p2 wr HRD.out hlt hs)
        rw [hd] at hr2 hdb HOC
        clear hd
        have hpr : 0 ≤ d % 128 * un ∧ d % 128 * un ≤ 127 * 16384 := by
          constructor
          · exact Int.mul_nonneg (by omega) (by omega)
          · exact Int.mul_le_mul (by omega) (by omega) (by omega) (by omega)
        have hst2 : u + d % 128 * un < 2097152 ∧ Stage (k + 1) (u + d % 128 * un) (un * 128) := by
          unfold Stage at hst ⊢
          rcases hst with ⟨rfl, rfl, rfl⟩ | ⟨rfl, rfl, h1, h2⟩ | ⟨rfl, rfl, h1, h2⟩ | ⟨rfl, _⟩ <;> omega
        obtain ⟨v, hv⟩ : ∃ v, d % 128 * un = v := ⟨_, rfl⟩
        rw [hv] at hr2 hpr hst2
        have t1 : decide (d < 0) = false := decide_eq_false (by omega)
        have HST := Aside0.mk hst2.2
        have hst1 := hst2.1
        clear hst hst2 HR2
        by_cases h128 : d < 128
        · have t2 : decide (d < 128) = true := decide_eq_true h128
          rw [if_pos h128] at hr2
          have HR3 := Aside0.mk hr2
          clear hr2
          by_cases hodd : (u + v) % 2 = 1
          · have t3 : ((u + v) % 2 == 1) = true := by simpa using hodd
            have e1 := unz_odd (u + v) (by omega) hst1 hodd
            have HE := Aside0.mk e1
            clear e1 hodd
            go_wp2_with fail
            refine HOC.out.mono ?_
            rintro e w3 ⟨rfl, hrd, hg⟩
            have HRD3 := Aside0.mk hrd
            have HG3 := Aside0.mk (HG.out.trans hg)
            clear hrd hg
            go_wp2_with fail
            go_ret
            refine ⟨p2 + 1, ?_, by omega, by rw [← HR3.out], HRD3.out, HG3.out⟩
            rw [← HR3.out]; dsimp only; rw [← HE.out]; rfl
          · have t3 : ((u + v) % 2 == 1) = false := by simpa using hodd
            have HE := Aside0.mk (unz_even (u + v) hodd)
            clear hodd
            go_wp2_with fail
            refine HOC.out.mono ?_
            rintro e w3 ⟨rfl, hrd, hg⟩
            have HRD3 := Aside0.mk hrd
            have HG3 := Aside0.mk (HG.out.trans hg)
            clear hrd hg
            go_wp2_with fail
            go_ret
            refine ⟨p2 + 1, ?_, by omega, by rw [← HR3.out], HRD3.out, HG3.out⟩
            rw [← HR3.out]; dsimp only; rw [← HE.out]; rfl
        · have t2 : decide (d < 128) = false := decide_eq_false h128
          rw [if_neg h128] at hr2
          have HR3 : Aside0 (rdNum (3 - (k + 1)) (u + v) (un * 128) (rest s (p2 + 1)) = R) := ⟨by rw [show 3 - (k + 1) = m by omega]; exact hr2⟩
          clear hr2
          go_wp2_with fail
          refine HOC.out.mono ?_
          rintro e w3 ⟨rfl, hrd, hg⟩
          have HRD3 := Aside0.mk hrd
          have HG3 := Aside0.mk (HG.out.trans hg)
          clear hrd hg
          go_wp2_with fail
          go_roundw
          case measure => simp [intOf]; omega
          case rel => exact ⟨k + 1, p2 + 1, u + v, un * 128, rfl, rfl, by go_num, by omega, HST.out, HR3, HRD3, HG3⟩
      · obtain rfl : p2 = s.size := by omega
        rw [rest_nil] at hr2
        have HR3 := Aside0.mk hr2
        clear hr2
        have HOC := Aside0.mk (octet_end b s wr HRD.out hs)
        go_wp2_with fail
        refine HOC.out.mono ?_
        rintro e w3 ⟨rfl, hrd, hg⟩
        have HRD3 := Aside0.mk hrd
        have HG3 := Aside0.mk (HG.out.trans hg)
        clear hrd hg
        go_wp2_with fail
        go_ret
        exact ⟨s.size, by rw [← HR3.out]; rfl, Nat.le_refl _, by rw [← HR3.out, rest_nil]; rfl, HRD3.out, HG3.out⟩
end Go.Proofs.YtmbdjajmiggiaaaDoor.R08
