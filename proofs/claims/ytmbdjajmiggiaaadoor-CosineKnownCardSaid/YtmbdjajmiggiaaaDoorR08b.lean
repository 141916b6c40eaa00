/- Several texts of this claim, one behind the other. -/
import Derived.Test.YtmbdjajmiggiaaaDoorE08
import Derived.WalkLawsBesides
import Derived.RangeFuncBox
/- The reader of codes (chapter 08): octet, number, block. -/
namespace Go.Proofs.YtmbdjajmiggiaaaDoor.R08
open Go.Proofs.YtmbdjajmiggiaaaDoor.K08 Go.Proofs.YtmbdjajmiggiaaaDoor.G08 Go.Proofs.YtmbdjajmiggiaaaDoor.G08f Go.Proofs.YtmbdjajmiggiaaaDoor.Z08 Go.Proofs.YtmbdjajmiggiaaaDoor.O08 Go.Proofs.YtmbdjajmiggiaaaDoor.L08 Go.Proofs.YtmbdjajmiggiaaaDoor.E08
open Go.RowKit Go.Proofs.YtmbdjajmiggiaaaDoorW.PrintWords Go.Proofs.YtmbdjajmiggiaaaDoorW.PrintLast Go.Proofs.YtmbdjajmiggiaaaDoorW.PrintMore
set_option linter.unusedVariables false
set_option linter.unusedSimpArgs false
set_option maxRecDepth 100000
def unz (u : Int) : Int := if u % 2 = 1 then -((u + 1) / 2) else u / 2
/-- A number read: its value (0 if there is none that is right), and what is left. -/
def rdNum : Nat → Int → Int → List Int → Int × List Int
  | 0, _, _, l => (0, l)
  | _ + 1, _, _, [] => (0, [])
  | k + 1, u, un, d :: l => if d < 128 then (unz (u + d % 128 * un), l) else rdNum k (u + d % 128 * un) (un * 128) l
def place (p : Nat) : Nat := 8 * (zAt p).1 + (zAt p).2
theorem place_lt (p : Nat) (h : p < 64) : place p < 64 := by have := zAt_lt p h; unfold place; omega
def rdBlk (q : Int) : Nat → Nat → List Int → List Int → Option (List Int × List Int)
  | 0, _, _, _ => none
  | _ + 1, _, _, [] => none
  | f + 1, k, y, n :: l => if n = 64 then some (y, l) else if 64 < n ∨ 64 ≤ (k : Int) + n then none else
      if (rdNum 3 0 1 l).1 = 0 then none else rdBlk q f (k + n.toNat + 1) (y.set (place (k + n.toNat)) ((rdNum 3 0 1 l).1 * q)) (rdNum 3 0 1 l).2
/-- A reader in memory. -/
def Rdr (w : World) (b : Nat) (s : ByteArray) (p : Nat) : Prop := w.heap[b]? = some (.cells #[.string s, .int .i64 p] 76 (0, 0))
theorem Rdr.c0 {w : World} {b p : Nat} {s : ByteArray} (h : Rdr w b s p) : w.cell? ⟨b, 0, none⟩ = some (.string s) := (blk_cell h 0).trans (by simp)
theorem Rdr.c1 {w : World} {b p : Nat} {s : ByteArray} (h : Rdr w b s p) : w.cell? ⟨b, 1, none⟩ = some (.int .i64 p) := (blk_cell h 1).trans (by simp)
theorem Rdr.lt {w : World} {b p : Nat} {s : ByteArray} (h : Rdr w b s p) : b < w.heap.size := blk_lt h
theorem Rdr.set {w : World} {b p : Nat} {s : ByteArray} (h : Rdr w b s p) (p' : Nat) : Rdr (w.setCell ⟨b, 1, none⟩ (.int .i64 p')) b s p' := (blk_set h 1 _).trans (by simp)
theorem Rdr.below {w w' : World} {b p : Nat} {s : ByteArray} (h : Rdr w b s p) (hb : Below w.heap.size w w') : Rdr w' b s p := blk_below h hb
theorem grown_of_below {W W' : World} (h : Below W.heap.size W W') (row : Option Nat) : W.grownBy W' row := ⟨h.os, h.tape, h.output, h.size, fun k hk _ => h.block k hk⟩
theorem grown_set (W : World) (b i : Nat) (u : Value) : W.grownBy (W.setCell ⟨b, i, none⟩ u) (some b) :=
  ⟨rfl, rfl, rfl, by simp, fun k _ hk => Below.heap_setCell W ⟨b, i, none⟩ u k (fun e => hk (by rw [e]))⟩
theorem grown_drewN (W : World) (n : Nat) (row : Option Nat) : W.grownBy (W.drewN n) row := ⟨rfl, rfl, rfl, Nat.le_refl _, fun _ _ _ => rfl⟩
/-- What is left of a string. -/
def rest (s : ByteArray) (p : Nat) : List Int := (bytesOf s).drop p
theorem rest_nil (s : ByteArray) : rest s s.size = [] := by unfold rest; rw [List.drop_of_length_le]; simp [bytesOf]
theorem rest_cons (s : ByteArray) (p : Nat) (h : p < s.size) : rest s p = bAt s p :: rest s (p + 1) := by
  unfold rest bAt
  exact getD_drop (by simpa [bytesOf] using h)
theorem strAt (s : ByteArray) (k : Nat) (h : k < s.size) : ((s[k]'h).toNat : Int) = bAt s k := by
  unfold bAt bytesOf
  have hml : k < s.data.toList.length := by simpa using h
  simp [List.getD_eq_getElem?_getD, List.getElem?_eq_getElem hml]
  rfl
set_option maxHeartbeats 4000000 in
theorem octet_end (b : Nat) (s : ByteArray) (w : World) (h : Rdr w b s s.size) (hs : s.size ≤ 65536) :
    Calls Tryd.prog 58 #[.pointer (some ⟨b, 0, none⟩)] w fun e w' => e = .returned (.int .i64 (-1)) ∧ Rdr w' b s s.size ∧ w.grownBy w' (some b) := by
  have c0 := h.c0
  have c1 := h.c1
  have H := Aside0.mk h
  clear h
  go_enter Tryd.func58, Tryd.ntmps58
  go_wp2_with fail
  go_quiet (fail)
  go_wp2_with fail
  go_ret
  exact ⟨rfl, H.out, grown_drewN _ _ _⟩
set_option maxHeartbeats 4000000 in
theorem octet_call (b : Nat) (s : ByteArray) (p : Nat) (w : World) (h : Rdr w b s p) (hp : p < s.size) (hs : s.size ≤ 65536) :
    Calls Tryd.prog 58 #[.pointer (some ⟨b, 0, none⟩)] w fun e w' => e = .returned (.int .i64 (bAt s p)) ∧ Rdr w' b s (p + 1) ∧ w.grownBy w' (some b) := by
  have c0 := h.c0
  have c1 := h.c1
  have f1 : w.frozen? ⟨b, 1, none⟩ = false := blk_frozen h 1
  have H := Aside0.mk h
  have t0 : ((p : Int) == (s.size : Int)) = false := by simp; omega
  have q0 : ∀ hh, ((s[p]'hh).toNat : Int) = bAt s p := fun hh => strAt s p hh
  obtain ⟨x, hx⟩ : ∃ x, bAt s p = x := ⟨_, rfl⟩
  have hxb := bAt_bd s p
  rw [hx] at q0 hxb ⊢
  clear h hx
  go_enter Tryd.func58, Tryd.ntmps58
  go_wp2_with fail
  go_quiet (fail)
  go_wp2_with fail
  have h2 := Rdr.set (w := w.drewN nq) H.out (p + 1)
  have e1 : (((p + 1 : Nat)) : Int) = (p : Int) + 1 := by simp
  rw [e1] at h2
  have d0 := h2.c0
  have d1 := h2.c1
  rw [e1] at d1
  have k1 : IntKind.i64.wrap ((p : Int) + 1 - 1) = (p : Int) := by rw [Int.add_sub_cancel]; exact IntWalk.i64_in _ (by omega)
  have k2 : (p : Int) < (s.size : Int) := by omega
  have H2 := Aside0.mk h2
  clear h2 e1 c0 c1 f1
  go_quiet (fail)
  go_wp2_with fail
  go_ret
  exact ⟨rfl, H2.out, ((grown_drewN w _ (some b)).trans (grown_set _ b 1 _)).trans (grown_drewN _ _ _)⟩
def NumPost (b : Nat) (s : ByteArray) (w : World) (R : Int × List Int) (e : Ending) (w' : World) : Prop := ∃ p', e = .returned (.int .i64 R.1) ∧ p' ≤ s.size ∧ rest s p' = R.2 ∧ Rdr w' b s p' ∧ w.grownBy w' (some b)
theorem rd_cons (k : Nat) (u un d : Int) (l : List Int) : rdNum (k + 1) u un (d :: l) = if d < 128 then (unz (u + d % 128 * un), l) else rdNum k (u + d % 128 * un) (un * 128) l := rfl
theorem unz_odd (u : Int) (h0 : 0 ≤ u) (h1 : u < 2097152) (h : u % 2 = 1) : wrap64 (-(u + 1).tdiv 2) = unz u := by
  unfold unz
  rw [if_pos h, Int.tdiv_eq_ediv_of_nonneg (by omega)]
  unfold wrap64
  omega
theorem unz_even (u : Int) (h : ¬ u % 2 = 1) : u / 2 = unz u := by unfold unz; rw [if_neg h]
/-- How far the reading of a number has come. -/
def Stage (k : Nat) (u un : Int) : Prop := (k = 0 ∧ un = 1 ∧ u = 0) ∨ (k = 1 ∧ un = 128 ∧ 0 ≤ u ∧ u < 128) ∨ (k = 2 ∧ un = 16384 ∧ 0 ≤ u ∧ u < 16384) ∨ (k = 3 ∧ 0 ≤ u ∧ u < 2097152)
set_option maxHeartbeats 4000000 in
theorem number_read (b : Nat) (s : ByteArray) (p : Nat) (w : World) (h : Rdr w b s p) (hp : p ≤ s.size) (hs : s.size ≤ 65536) :
    Calls Tryd.prog 59 #[.pointer (some ⟨b, 0, none⟩)] w (NumPost b s w (rdNum 3 0 1 (rest s p))) := by
  obtain ⟨R, hR⟩ : ∃ R, rdNum 3 0 1 (rest s p) = R := ⟨_, rfl⟩
  rw [hR]
  have HR := Aside0.mk hR
  have H := Aside0.mk h
  clear hR h
  have hmf : ∀ (fn : Fn) (first cap : Array Value) (w : World), (Instr.makeFunc fn first cap).run Tryd.prog w = .ok (.func fn first cap) w := fun _ _ _ _ => rfl
  go_enter Tryd.func59, Tryd.ntmps59
  go_wp2_with fail
  go_loopw [3, 4, 9] (fun v3 v4 v9 wr => ∃ (k p2 : Nat) (u un : Int), v3 = .int .i64 u ∧ v4 = .int .i64 un ∧ v9 = .int .i64 k ∧ p2 ≤ s.size ∧ Stage k u un ∧ Aside0 (rdNum (3 - k) u un (rest s p2) = R) ∧ Aside0 (Rdr wr b s p2) ∧ Aside0 (w.grownBy wr (some b))) (fun _ _ v9 _ => 3 - (intOf v9).toNat)
  case atStart => exact ⟨0, p, 0, 1, rfl, rfl, rfl, hp, .inl ⟨rfl, rfl, rfl⟩, HR, H, ⟨World.grownBy.refl _ _⟩⟩
  case round =>
    obtain ⟨k, p2, u, un, rfl, rfl, rfl, hp2, hst, HR2, HRD, HG⟩ := hrel
    by_cases hk : k = 3
    · subst hk
      have t : decide (((3 : Nat) : Int) < 3) = false := by decide
      go_wp2_with fail
      go_ret
      exact ⟨p2, by rw [← HR2.out]; rfl, hp2, by rw [← HR2.out]; rfl, HRD.out, HG.out⟩
    · have hk3 : k < 3 := by unfold Stage at hst; omega
      have t : decide ((k : Int) < 3) = true := decide_eq_true (by omega)
      have hbb : 0 ≤ u ∧ u < 16384 ∧ 1 ≤ un ∧ un ≤ 16384 := by unfold Stage at hst; omega
      obtain ⟨m, hm⟩ : ∃ m, 3 - k = m + 1 := ⟨2 - k, by omega⟩
      have hr2 := HR2.out
      rw [hm] at hr2
      by_cases hlt : p2 < s.size
      · rw [rest_cons s p2 hlt, rd_cons] at hr2
        obtain ⟨d, hd⟩ : ∃ d, bAt s p2 = d := ⟨_, rfl⟩
        have hdb := bAt_bd s p2
        have HOC := Aside0.mk (octet_call b s p2 wr HRD.out hlt hs)
        rw [hd] at hr2 hdb HOC
        clear hd
        have hpr : 0 ≤ d % 128 * un ∧ d % 128 * un ≤ 127 * 16384 := by
          constructor
          · exact Int.mul_nonneg (by omega) (by omega)
          · exact Int.mul_le_mul (by omega) (by omega) (by omega) (by omega)
        have hst2 : u + d % 128 * un < 2097152 ∧ Stage (k + 1) (u + d % 128 * un) (un * 128) := by
          unfold Stage at hst ⊢
          rcases hst with ⟨rfl, rfl, rfl⟩ | ⟨rfl, rfl, h1, h2⟩ | ⟨rfl, rfl, h1, h2⟩ | ⟨rfl, _⟩ <;> omega
        obtain ⟨v, hv⟩ : ∃ v, d % 128 * un = v := ⟨_, rfl⟩
        rw [hv] at hr2 hpr hst2
        have t1 : decide (d < 0) = false := decide_eq_false (by omega)
        have HST := Aside0.mk hst2.2
        have hst1 := hst2.1
        clear hst hst2 HR2
        by_cases h128 : d < 128
        · have t2 : decide (d < 128) = true := decide_eq_true h128
          rw [if_pos h128] at hr2
          have HR3 := Aside0.mk hr2
          clear hr2
          by_cases hodd : (u + v) % 2 = 1
          · have t3 : ((u + v) % 2 == 1) = true := by simpa using hodd
            have e1 := unz_odd (u + v) (by omega) hst1 hodd
            have HE := Aside0.mk e1
            clear e1 hodd
            go_wp2_with fail
            refine HOC.out.mono ?_
            rintro e w3 ⟨rfl, hrd, hg⟩
            have HRD3 := Aside0.mk hrd
            have HG3 := Aside0.mk (HG.out.trans hg)
            clear hrd hg
            go_wp2_with fail
            go_ret
            refine ⟨p2 + 1, ?_, by omega, by rw [← HR3.out], HRD3.out, HG3.out⟩
            rw [← HR3.out]; dsimp only; rw [← HE.out]; rfl
          · have t3 : ((u + v) % 2 == 1) = false := by simpa using hodd
            have HE := Aside0.mk (unz_even (u + v) hodd)
            clear hodd
            go_wp2_with fail
            refine HOC.out.mono ?_
            rintro e w3 ⟨rfl, hrd, hg⟩
            have HRD3 := Aside0.mk hrd
            have HG3 := Aside0.mk (HG.out.trans hg)
            clear hrd hg
            go_wp2_with fail
            go_ret
            refine ⟨p2 + 1, ?_, by omega, by rw [← HR3.out], HRD3.out, HG3.out⟩
            rw [← HR3.out]; dsimp only; rw [← HE.out]; rfl
        · have t2 : decide (d < 128) = false := decide_eq_false h128
          rw [if_neg h128] at hr2
          have HR3 : Aside0 (rdNum (3 - (k + 1)) (u + v) (un * 128) (rest s (p2 + 1)) = R) := ⟨by rw [show 3 - (k + 1) = m by omega]; exact hr2⟩
          clear hr2
          go_wp2_with fail
          refine HOC.out.mono ?_
          rintro e w3 ⟨rfl, hrd, hg⟩
          have HRD3 := Aside0.mk hrd
          have HG3 := Aside0.mk (HG.out.trans hg)
          clear hrd hg
          go_wp2_with fail
          go_roundw
          case measure => simp [intOf]; omega
          case rel => exact ⟨k + 1, p2 + 1, u + v, un * 128, rfl, rfl, by go_num, by omega, HST.out, HR3, HRD3, HG3⟩
      · obtain rfl : p2 = s.size := by omega
        rw [rest_nil] at hr2
        have HR3 := Aside0.mk hr2
        clear hr2
        have HOC := Aside0.mk (octet_end b s wr HRD.out hs)
        go_wp2_with fail
        refine HOC.out.mono ?_
        rintro e w3 ⟨rfl, hrd, hg⟩
        have HRD3 := Aside0.mk hrd
        have HG3 := Aside0.mk (HG.out.trans hg)
        clear hrd hg
        go_wp2_with fail
        go_ret
        exact ⟨s.size, by rw [← HR3.out]; rfl, Nat.le_refl _, by rw [← HR3.out, rest_nil]; rfl, HRD3.out, HG3.out⟩
end Go.Proofs.YtmbdjajmiggiaaaDoor.R08
/- The reader of a block (chapter 08). -/
namespace Go.Proofs.YtmbdjajmiggiaaaDoor.R08b
open Go.Proofs.YtmbdjajmiggiaaaDoor.K08 Go.Proofs.YtmbdjajmiggiaaaDoor.G08 Go.Proofs.YtmbdjajmiggiaaaDoor.G08f Go.Proofs.YtmbdjajmiggiaaaDoor.Z08 Go.Proofs.YtmbdjajmiggiaaaDoor.O08 Go.Proofs.YtmbdjajmiggiaaaDoor.L08 Go.Proofs.YtmbdjajmiggiaaaDoor.E08 Go.Proofs.YtmbdjajmiggiaaaDoor.R08
open Go.RowKit Go.Proofs.YtmbdjajmiggiaaaDoorW.PrintWords Go.Proofs.YtmbdjajmiggiaaaDoorW.PrintLast Go.Proofs.YtmbdjajmiggiaaaDoorW.PrintMore
set_option linter.unusedVariables false
set_option linter.unusedSimpArgs false
set_option maxRecDepth 100000
theorem grown_setNew {w w1 : World} {row : Option Nat} (h : w.grownBy w1 row) {g : Nat} (hg : w.heap.size ≤ g) (i : Nat) (v : Value) : w.grownBy (w1.setCell ⟨g, i, none⟩ v) row :=
  ⟨h.os, h.tape, h.output, by simpa using h.size, fun k hk hr => (Below.heap_setCell w1 ⟨g, i, none⟩ v k (by simp; omega)).trans (h.block k hk hr)⟩
theorem grown_setRowNew {w w1 : World} {row : Option Nat} (h : w.grownBy w1 row) {g : Nat} (hg : w.heap.size ≤ g) (cs : Array Value) : w.grownBy (w1.setRow g cs) row :=
  ⟨h.os, h.tape, h.output, by simpa [World.setRow] using h.size, fun k hk hr => (heap_setRow_far w1 g k cs (by omega)).trans (h.block k hk hr)⟩
theorem grown_allocNew {w w1 : World} {row : Option Nat} (h : w.grownBy w1 row) (o : Obj) : w.grownBy (w1.alloc o) row :=
  ⟨h.os, h.tape, h.output, by have := h.size; simp; omega, fun k hk hr => (Below.heap_alloc w1 o k (by have := h.size; omega)).trans (h.block k hk hr)⟩
theorem grown_then {w w1 w2 : World} {row : Option Nat} (h : w.grownBy w1 row) (k : w1.grownBy w2 row) : w.grownBy w2 row := h.trans k
theorem Rdr.far {w : World} {b p g : Nat} {s : ByteArray} (h : Rdr w b s p) (hne : b ≠ g) (i : Nat) (v : Value) : Rdr (w.setCell ⟨g, i, none⟩ v) b s p := blk_far h hne v
theorem Rdr.farRow {w : World} {b p g : Nat} {s : ByteArray} (h : Rdr w b s p) (hne : b ≠ g) (cs : Array Value) : Rdr (w.setRow g cs) b s p := (heap_setRow_far w g b cs hne).trans h
theorem Blk.grown {w w' : World} {g : Nat} {l : List Int} {row : Option Nat} (h : Blk w g l) (hg : w.grownBy w' row) (hne : some g ≠ row) : Blk w' g l := blk_grown h hg hne
theorem unz_bd (u : Int) (h0 : 0 ≤ u) (h1 : u < 2097152) : -1048576 ≤ unz u ∧ unz u ≤ 1048576 := by unfold unz; split <;> omega
theorem rdNum_bd : ∀ (l : List Int), (∀ d ∈ l, 0 ≤ d ∧ d ≤ 255) → -1048576 ≤ (rdNum 3 0 1 l).1 ∧ (rdNum 3 0 1 l).1 ≤ 1048576
  | [], _ => by decide
  | d1 :: l1, h => by
    have b1 := h d1 (by simp)
    rw [rd_cons]
    split
    · exact unz_bd _ (by omega) (by omega)
    · match l1, h with
      | [], h => simp [rdNum]
      | d2 :: l2, h =>
        have b2 := h d2 (by simp)
        rw [rd_cons]
        split
        · exact unz_bd _ (by omega) (by omega)
        · match l2, h with
          | [], h => simp [rdNum]
          | d3 :: l3, h =>
            have b3 := h d3 (by simp)
            rw [rd_cons]
            split
            · exact unz_bd _ (by omega) (by omega)
            · simp [rdNum]
theorem rest_range (s : ByteArray) (p : Nat) : ∀ d ∈ rest s p, 0 ≤ d ∧ d ≤ 255 := by
  intro d hd
  have := List.mem_of_mem_drop hd
  simp only [bytesOf, List.mem_map] at this
  obtain ⟨x, _, rfl⟩ := this
  have := x.toNat_lt
  omega
def BlkPost (b : Nat) (s : ByteArray) (w : World) (RES : Option (List Int × List Int)) (e : Ending) (w' : World) : Prop :=
  match RES with
  | none => ∃ y, e = .returned (.tuple #[ar y, .bool false]) ∧ y.length = 64 ∧ w.grownBy w' (some b)
  | some (y, l) => e = .returned (.tuple #[ar y, .bool true]) ∧ y.length = 64 ∧ (∀ x ∈ y, -4294967296 ≤ x ∧ x ≤ 4294967296) ∧ ∃ p', p' ≤ s.size ∧ rest s p' = l ∧ Rdr w' b s p' ∧ w.grownBy w' (some b)
theorem rdBlk_cons (q : Int) (f k : Nat) (y : List Int) (n : Int) (l : List Int) : rdBlk q (f + 1) k y (n :: l) = if n = 64 then some (y, l) else if 64 < n ∨ 64 ≤ (k : Int) + n then none else
      if (rdNum 3 0 1 l).1 = 0 then none else rdBlk q f (k + n.toNat + 1) (y.set (place (k + n.toNat)) ((rdNum 3 0 1 l).1 * q)) (rdNum 3 0 1 l).2 := rfl
/-- What stands behind every way out of the reader of a block. -/
structure BS (w wr : World) (b g2 : Nat) (s : ByteArray) (p : Nat) (y : List Int) : Prop where
  yy : Blk wr w.heap.size y
  yl : y.length = 64
  yb : ∀ x ∈ y, -4294967296 ≤ x ∧ x ≤ 4294967296
  o : Blk wr g2 orderL
  r : Rdr wr b s p
  g : w.grownBy wr (some b)
  lo : w.heap.size < g2
theorem BS.octet {w wr w2 : World} {b g2 : Nat} {s : ByteArray} {p p' : Nat} {y : List Int} (h : BS w wr b g2 s p y) (hb : b < w.heap.size) (hr : Rdr w2 b s p') (hg : wr.grownBy w2 (some b)) : BS w w2 b g2 s p' y :=
  ⟨Blk.grown h.yy hg (fun e => by cases e; omega), h.yl, h.yb, Blk.grown h.o hg (fun e => by cases e; have := h.lo; omega), hr, h.g.trans hg, h.lo⟩
theorem BS.set {w wr : World} {b g2 : Nat} {s : ByteArray} {p : Nat} {y : List Int} (h : BS w wr b g2 s p y) (hb : b < w.heap.size) (k : Nat) (x : Int) (hx : -4294967296 ≤ x ∧ x ≤ 4294967296) : BS w (wr.setCell ⟨w.heap.size, k, none⟩ (.int .i64 x)) b g2 s p (y.set k x) :=
  ⟨h.yy.set k x, by rw [List.length_set]; exact h.yl, fun z hz => by rcases List.mem_or_eq_of_mem_set hz with h1 | rfl; exact h.yb z h1; exact hx, h.o.far (by have := h.lo; omega) _ _, Rdr.far h.r (by omega) _ _, grown_setNew h.g (Nat.le_refl _) _ _, h.lo⟩
theorem all_z64 : ∀ x ∈ z64, -4294967296 ≤ x ∧ x ≤ 4294967296 := by intro x hx; have := List.eq_of_mem_replicate hx; omega
set_option maxHeartbeats 4000000 in
theorem rblock_call (b : Nat) (s : ByteArray) (p : Nat) (q : Int) (hq1 : 1 ≤ q) (hq2 : q ≤ 255) (w : World) (h : Rdr w b s p) (hp : p ≤ s.size) (hs : s.size ≤ 65536) (RES : Option (List Int × List Int)) (hR : rdBlk q 65 0 z64 (rest s p) = RES) :
    Calls Tryd.prog 45 #[.pointer (some ⟨b, 0, none⟩), .int .i64 q] w (BlkPost b s w RES) := by
  have hb := h.lt
  have HR := Aside0.mk hR
  have H := Aside0.mk h
  clear hR h
  go_enter Tryd.func45, Tryd.ntmps45
  go_wp2_with (refine alloc_ar rfl rfl ?_)
  refine (order_call _).mono ?_
  rintro e w1 ⟨rfl, hb1⟩
  have HB1 := Aside0.mk (below_step (below_alloc (Below.refl _ w) (.cells (nums .i64 z64).toArray 22)) hb1)
  have HY1 := Aside0.mk (Blk.below (Blk.new w z64) hb1)
  have hlt1 := HY1.out.lt
  clear hb1
  go_wp2_with (first | (refine alloc_ar rfl rfl ?_) | (refine store_ar rfl _ _ rfl _ rfl z64 orderL rfl (blk_new _ _) rfl orderL_len ?_))
  have HS : Aside0 (BS w ((w1.alloc (.cells (nums .i64 z64).toArray 22)).setRow w1.heap.size (nums .i64 orderL).toArray) b w1.heap.size s p z64) :=
    ⟨⟨(heap_setRow_far _ _ _ _ (by omega)).trans (blk_alloc HY1.out _), rfl, all_z64, Blk.setRow (Blk.new _ _) _, Rdr.farRow (blk_alloc (H.out.below HB1.out) _) (by omega) _, grown_setRowNew (grown_allocNew (R08.grown_of_below HB1.out _) _) (by omega) _, hlt1⟩⟩
  obtain ⟨w2, hw2⟩ : ∃ w2, (w1.alloc (.cells (nums .i64 z64).toArray 22)).setRow w1.heap.size (nums .i64 orderL).toArray = w2 := ⟨_, rfl⟩
  rw [hw2] at HS ⊢
  clear hw2 HB1 HY1 H
  obtain ⟨g2, hg2⟩ : ∃ g2, w1.heap.size = g2 := ⟨_, rfl⟩
  rw [hg2] at HS hlt1 ⊢
  clear hg2
  go_loopw [7] (fun v7 wr => ∃ (k f p2 : Nat) (y : List Int), v7 = .int .i64 k ∧ k ≤ 64 ∧ 65 ≤ f + k ∧ p2 ≤ s.size ∧ Aside0 (rdBlk q f k y (rest s p2) = RES) ∧ Aside0 (BS w wr b g2 s p2 y)) (fun v7 _ => 65 - (intOf v7).toNat)
  case atStart => exact ⟨0, 65, p, z64, rfl, by omega, by omega, hp, HR, HS⟩
  case round =>
    clear HR HS
    obtain ⟨k, f, p2, y, rfl, hk, hf, hp2, HR, HS⟩ := hrel
    obtain ⟨f, rfl⟩ : ∃ m, f = m + 1 := ⟨f - 1, by omega⟩
    have hr := HR.out
    by_cases hlt : p2 < s.size
    · rw [rest_cons s p2 hlt, rdBlk_cons] at hr
      obtain ⟨n, hn⟩ : ∃ n, bAt s p2 = n := ⟨_, rfl⟩
      have hnb := bAt_bd s p2
      have HOC := Aside0.mk (octet_call b s p2 wr HS.out.r hlt hs)
      rw [hn] at hr hnb HOC
      clear hn HR
      go_wp2_with fail
      refine HOC.out.mono ?_
      rintro e w3 ⟨rfl, hrd, hg⟩
      have HS3 := Aside0.mk (HS.out.octet hb hrd hg)
      clear hrd hg HOC HS
      by_cases h64 : n = 64
      · subst h64
        rw [if_pos rfl] at hr
        subst hr
        go_wp2_with (first | (refine load_ar rfl _ rfl _ rfl y HS3.out.yl HS3.out.yy ?_) | (refine store_ar rfl _ _ rfl _ rfl y y rfl HS3.out.yy HS3.out.yl HS3.out.yl ?_))
        refine bodyPost_ret (results_ar rfl _ _ _ y rfl (HS3.out.yy.setRow _) HS3.out.yl) rfl ?_
        exact ⟨rfl, HS3.out.yl, HS3.out.yb, p2 + 1, by omega, rfl, Rdr.farRow HS3.out.r (by omega) _, grown_setRowNew HS3.out.g (Nat.le_refl _) _⟩
      · have t0 : (n == 64) = false := by simpa using h64
        have t1 : decide (n < 0) = false := decide_eq_false (by omega)
        rw [if_neg h64] at hr
        clear h64
        obtain ⟨n, rfl⟩ := Int.eq_ofNat_of_zero_le hnb.1
        by_cases hbad : 64 < (n : Int) ∨ 64 ≤ (k : Int) + (n : Int)
        · rw [if_pos hbad] at hr
          subst hr
          by_cases hb1 : 64 < (n : Int)
          · have t2 : decide (64 < (n : Int)) = true := decide_eq_true hb1
            clear hbad hb1
            go_wp2_with (first | (refine load_ar rfl _ rfl _ rfl y HS3.out.yl HS3.out.yy ?_) | (refine store_ar rfl _ _ rfl _ rfl y y rfl HS3.out.yy HS3.out.yl HS3.out.yl ?_))
            refine bodyPost_ret (results_ar rfl _ _ _ y rfl (HS3.out.yy.setRow _) HS3.out.yl) rfl ?_
            exact ⟨y, rfl, HS3.out.yl, grown_setRowNew HS3.out.g (Nat.le_refl _) _⟩
          · have t2 : decide (64 < (n : Int)) = false := decide_eq_false hb1
            have t3 : decide (64 ≤ (k : Int) + (n : Int)) = true := decide_eq_true (by omega)
            clear hbad
            go_wp2_with (first | (refine load_ar rfl _ rfl _ rfl y HS3.out.yl HS3.out.yy ?_) | (refine store_ar rfl _ _ rfl _ rfl y y rfl HS3.out.yy HS3.out.yl HS3.out.yl ?_))
            refine bodyPost_ret (results_ar rfl _ _ _ y rfl (HS3.out.yy.setRow _) HS3.out.yl) rfl ?_
            exact ⟨y, rfl, HS3.out.yl, grown_setRowNew HS3.out.g (Nat.le_refl _) _⟩
        · rw [if_neg hbad] at hr
          have t2 : decide (64 < (n : Int)) = false := decide_eq_false (by omega)
          have t3 : decide (64 ≤ (k : Int) + (n : Int)) = false := decide_eq_false (by omega)
          have hkn : k + n < 64 := by omega
          have hvb := rdNum_bd (rest s (p2 + 1)) (rest_range s (p2 + 1))
          have HNC := Aside0.mk (number_read b s (p2 + 1) w3 HS3.out.r (by omega) hs)
          obtain ⟨⟨v, l⟩, hvl⟩ : ∃ v, rdNum 3 0 1 (rest s (p2 + 1)) = v := ⟨_, rfl⟩
          rw [hvl] at hr hvb HNC
          simp only [Int.toNat_natCast] at hr hvb
          clear hvl hbad
          go_wp2_with fail
          refine HNC.out.mono ?_
          rintro e w4 ⟨p3, rfl, hp3, hrest, hrd, hg⟩
          have HS4 := Aside0.mk (HS3.out.octet hb hrd hg)
          have HRS := Aside0.mk hrest
          clear hrd hg HNC HS3 hrest
          dsimp only
          by_cases hv0 : v = 0
          · rw [if_pos hv0] at hr
            subst hr
            have t4 : (v == 0) = true := by simpa using hv0
            clear hv0
            go_wp2_with (first | (refine load_ar rfl _ rfl _ rfl y HS4.out.yl HS4.out.yy ?_) | (refine store_ar rfl _ _ rfl _ rfl y y rfl HS4.out.yy HS4.out.yl HS4.out.yl ?_))
            refine bodyPost_ret (results_ar rfl _ _ _ y rfl (HS4.out.yy.setRow _) HS4.out.yl) rfl ?_
            exact ⟨y, rfl, HS4.out.yl, grown_setRowNew HS4.out.g (Nat.le_refl _) _⟩
          · rw [if_neg hv0] at hr
            have t4 : (v == 0) = false := by simpa using hv0
            have hpl := place_lt (k + n) hkn
            have hoa := order_at (k + n) hkn
            have c0 := HS4.out.o.cell (k + n) (by rw [orderL_len]; exact hkn)
            rw [hoa] at c0
            obtain ⟨P, hP⟩ : ∃ P, place (k + n) = P := ⟨_, rfl⟩
            have hP2 : 8 * (zAt (k + n)).1 + (zAt (k + n)).2 = P := hP
            rw [hP2] at c0
            rw [hP] at hr hpl
            have c1 := HS4.out.yy.cell P (by rw [HS4.out.yl]; exact hpl)
            have f1 : w4.frozen? ⟨w.heap.size, P, none⟩ = false := blk_frozen HS4.out.yy P
            have hvq : -267386880 ≤ v * q ∧ v * q ≤ 267386880 := by
              have hx := ab_mul (t := q) hvb.1 hvb.2
              have : ab q * 1048576 ≤ 267386880 := by unfold ab; split <;> omega
              rw [Int.mul_comm v q]
              omega
            obtain ⟨x, hx⟩ : ∃ x, v * q = x := ⟨_, rfl⟩
            rw [hx] at hr hvq
            have HR2 := Aside0.mk hr
            have HS5 := Aside0.mk (HS4.out.set hb P x (by omega))
            clear hr hP hP2 hoa hv0
            go_wp2_with fail
            go_roundw
            case measure => simp [intOf]; omega
            case rel => exact ⟨k + n + 1, f, p3, y.set P x, by go_num, by omega, by omega, hp3, ⟨by rw [HRS.out]; exact HR2.out⟩, HS5⟩
    · obtain rfl : p2 = s.size := by omega
      rw [rest_nil] at hr
      have hr2 : RES = none := by rw [← hr]; rfl
      subst hr2
      have HOC := Aside0.mk (octet_end b s wr HS.out.r hs)
      clear hr HR
      go_wp2_with fail
      refine HOC.out.mono ?_
      rintro e w3 ⟨rfl, hrd, hg⟩
      have HS3 := Aside0.mk (HS.out.octet hb hrd hg)
      clear hrd hg HOC HS
      go_wp2_with (first | (refine load_ar rfl _ rfl _ rfl y HS3.out.yl HS3.out.yy ?_) | (refine store_ar rfl _ _ rfl _ rfl y y rfl HS3.out.yy HS3.out.yl HS3.out.yl ?_))
      refine bodyPost_ret (results_ar rfl _ _ _ y rfl (HS3.out.yy.setRow _) HS3.out.yl) rfl ?_
      exact ⟨y, rfl, HS3.out.yl, grown_setRowNew HS3.out.g (Nat.le_refl _) _⟩
end Go.Proofs.YtmbdjajmiggiaaaDoor.R08b
