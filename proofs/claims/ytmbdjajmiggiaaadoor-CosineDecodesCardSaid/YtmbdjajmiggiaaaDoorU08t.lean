/- Several texts of this claim, one behind the other. -/
import Derived.Test.YtmbdjajmiggiaaaDoorR08b
import Derived.Test.YtmbdjajmiggiaaaDoorP08rx
import Derived.Test.YtmbdjajmiggiaaaDoorV08o
import Derived.Test.YtmbdjajmiggiaaaDoorU08b
import Derived.Test.YtmbdjajmiggiaaaDoorU08d
import Derived.Test.YtmbdjajmiggiaaaDoorD08
/- The reference's read 60 (chapter 08). -/
namespace Go.Proofs.YtmbdjajmiggiaaaDoor.U08r
open Go.Proofs.YtmbdjajmiggiaaaDoor.L08 Go.Proofs.YtmbdjajmiggiaaaDoor.R08 Go.Proofs.YtmbdjajmiggiaaaDoor.P08r
open Go.RowKit Go.Proofs.YtmbdjajmiggiaaaDoorW.PrintWords Go.Proofs.YtmbdjajmiggiaaaDoorW.PrintLast Go.Proofs.YtmbdjajmiggiaaaDoorW.PrintMore
set_option linter.unusedVariables false
set_option linter.unusedSimpArgs false
set_option maxRecDepth 100000
theorem bt_at (s : ByteArray) (k : Nat) (h : k < s.size) : bt s (k : Int) = bAt s k := by
  rw [← strAt s k h]
  unfold bt
  simp [h]
theorem w64 (n : Int) (h1 : -9223372036854775808 ≤ n) (h2 : n ≤ 9223372036854775807) : wrap64 n = n := IntWalk.wrap64_in _ ⟨h1, h2⟩
theorem step_w (d u un : Int) (hd : 0 ≤ d ∧ d ≤ 255) (h : un = 1 ∧ u = 0 ∨ un = 128 ∧ 0 ≤ u ∧ u < 128 ∨ un = 16384 ∧ 0 ≤ u ∧ u < 16384) :
    wrap64 d = d ∧ wrap64 (d % 128 * un) = d % 128 * un ∧ wrap64 (un * 128) = un * 128 ∧ wrap64 (u + d % 128 * un) = u + d % 128 * un ∧ 0 ≤ u + d % 128 * un ∧ u + d % 128 * un < 2097152 := by
  rcases h with ⟨rfl, rfl⟩ | ⟨rfl, h1, h2⟩ | ⟨rfl, h1, h2⟩
  all_goals exact ⟨w64 _ (by omega) (by omega), w64 _ (by omega) (by omega), w64 _ (by omega) (by omega), w64 _ (by omega) (by omega), by omega, by omega⟩
theorem fin_w (U : Int) (h1 : 0 ≤ U) (h2 : U < 2097152) : wrap64 (U + 1) = U + 1 ∧ wrap64 (-(U + 1)) = -(U + 1) ∧ wrap64 (U / 2) = U / 2 ∧ wrap64 (-((U + 1) / 2)) = -((U + 1) / 2) :=
  ⟨w64 _ (by omega) (by omega), w64 _ (by omega) (by omega), w64 _ (by omega) (by omega), w64 _ (by omega) (by omega)⟩
/-- What read answers: the number, and where it ends if it is not 0. -/
def ReadOk (s : ByteArray) (R : Int × List Int) (r : Option (Int × Int)) : Prop := ∃ v next, r = some (v, next) ∧ v = R.1 ∧ (v ≠ 0 → ∃ p' : Nat, next = (p' : Int) ∧ p' ≤ s.size ∧ rest s p' = R.2)
theorem read_from (s : ByteArray) (hs : s.size ≤ 140737488355328) (p : Nat) (hp : p ≤ s.size) : ∀ (k i : Nat) (u un : Int), i + k = 3 → Stage i u un → p + i ≤ s.size →
    ReadOk s (rdNum k u un (rest s (p + i))) (chaseref08_read.l0 (2 * k + 2) s p u un i)
  | 0, i, u, un, hik, hst, hpi => by
    obtain rfl : i = 3 := by omega
    refine ⟨0, 0, ?_, rfl, fun h => absurd rfl h⟩
    simp only [chaseref08_read.l0, chaseref08_read.j1]
    simp
  | k + 1, i, u, un, hik, hst, hpi => by
    have hi3 : (i : Int) < 3 := by omega
    have w1 : wrap64 ((p : Int) + (i : Int)) = ((p + i : Nat) : Int) := by rw [IntWalk.wrap64_in _ (by omega)]; simp
    rw [show 2 * (k + 1) + 2 = (2 * k + 2) + 1 + 1 by omega]
    simp only [chaseref08_read.l0, if_pos hi3, w1]
    by_cases hlt : p + i < s.size
    · have hd : decide (((p + i : Nat) : Int) < (s.size : Int)) = true := decide_eq_true (by omega)
      simp only [hd, chaseref08_read.j1, w1]
      have hb : bt s ((p + i : Nat) : Int) = bAt s (p + i) := bt_at s (p + i) hlt
      have hbd := bAt_bd s (p + i)
      have hfuel : 2 * k + 2 = 2 * k + 2 := rfl
      rw [rest_cons s (p + i) hlt, rd_cons]
      rw [hb]
      obtain ⟨d, hdd⟩ : ∃ d, bAt s (p + i) = d := ⟨_, rfl⟩
      rw [hdd] at hbd ⊢
      have t1 : d.tmod 128 = d % 128 := Int.tmod_eq_emod_of_nonneg hbd.1
      have hun : un = 1 ∧ u = 0 ∨ un = 128 ∧ 0 ≤ u ∧ u < 128 ∨ un = 16384 ∧ 0 ≤ u ∧ u < 16384 := by
        rcases hst with ⟨_, h1, h2⟩ | ⟨_, h1, h2, h3⟩ | ⟨_, h1, h2, h3⟩ | ⟨h0, _⟩
        · exact .inl ⟨h1, h2⟩
        · exact .inr (.inl ⟨h1, h2, h3⟩)
        · exact .inr (.inr ⟨h1, h2, h3⟩)
        · omega
      obtain ⟨w2, w3, w4, w7, hU⟩ := step_w d u un hbd hun
      clear w1 hd
      have hst' : d ≥ 128 → Stage (i + 1) (u + d % 128 * un) (un * 128) := fun _ => by
        rcases hst with ⟨rfl, rfl, rfl⟩ | ⟨rfl, rfl, h2, h3⟩ | ⟨rfl, rfl, h2, h3⟩ | ⟨h0, _⟩
        · exact .inr (.inl ⟨rfl, rfl, by omega, by omega⟩)
        · exact .inr (.inr (.inl ⟨rfl, rfl, by omega, by omega⟩))
        · exact .inr (.inr (.inr ⟨rfl, by omega, by omega⟩))
        · omega
      have w5 : wrap64 ((i : Int) + 1) = ((i + 1 : Nat) : Int) := by clear w2 w3 w4 w7; rw [w64 _ (by omega) (by omega)]; simp
      have w6 : wrap64 (((p + i : Nat) : Int) + 1) = ((p + i + 1 : Nat) : Int) := by clear w2 w3 w4 w5 w7; rw [w64 _ (by omega) (by omega)]; simp
      have hst2 : ¬ d < 128 → Stage (i + 1) (u + d % 128 * un) (un * 128) := by clear w2 w3 w4 w5 w6 w7; intro h; exact hst' (by omega)
      clear hst'
      rw [w2, t1, w3, w4, w5, w6, w7]
      generalize u + d % 128 * un = U at hU hst2 ⊢
      clear w2 t1 w3 w4 w5 w6 w7 hun hst
      have z1 : (0 : Int) ≤ ((p + i : Nat) : Int) := by omega
      have z2 : ((p + i : Nat) : Int) < (s.size : Int) := by omega
      rw [if_pos trivial, if_pos z1, if_pos z2]
      have t2 : U.tmod 2 = U % 2 := Int.tmod_eq_emod_of_nonneg hU.1
      have t3 : (-(U + 1)).tdiv 2 = -((U + 1) / 2) := by rw [Int.neg_tdiv, Int.tdiv_eq_ediv_of_nonneg (by omega)]
      have t4 : U.tdiv 2 = U / 2 := Int.tdiv_eq_ediv_of_nonneg hU.1
      obtain ⟨w8, w9, w10, w11⟩ := fin_w U hU.1 hU.2
      rw [t2, w8, w9, t3, t4]
      by_cases h128 : d < 128
      · rw [if_pos h128, if_pos h128]
        rw [w10, w11]
        have hz : unz U = if U % 2 = 1 then -((U + 1) / 2) else U / 2 := rfl
        by_cases h2 : U % 2 = 0
        · rw [if_pos h2]
          exact ⟨_, _, rfl, by rw [hz, if_neg (by clear w8 w9 w10 w11; omega)], fun _ => ⟨p + i + 1, rfl, by clear w8 w9 w10 w11; omega, rfl⟩⟩
        · rw [if_neg h2]
          exact ⟨_, _, rfl, by rw [hz, if_pos (by clear w8 w9 w10 w11; omega)], fun _ => ⟨p + i + 1, rfl, by clear w8 w9 w10 w11; omega, rfl⟩⟩
      · rw [if_neg h128, if_neg h128]
        exact read_from s hs p hp k (i + 1) U (un * 128) (by clear w8 w9 w10 w11; omega) (hst2 h128) (by clear w8 w9 w10 w11; omega)
    · have hd : decide (((p + i : Nat) : Int) < (s.size : Int)) = false := decide_eq_false (by omega)
      obtain e : p + i = s.size := by omega
      rw [e, rest_nil]
      refine ⟨0, 0, ?_, rfl, fun h => absurd rfl h⟩
      rw [e] at hd
      simp only [hd, chaseref08_read.j1]
      simp
theorem read_ref (s : ByteArray) (hs : s.size ≤ 140737488355328) (p : Nat) (hp : p ≤ s.size) (w : World) :
    Calls Tryd.prog 60 #[.string s, .int .i64 p] w fun e w' => ∃ next : Int, e = .returned (.tuple #[.int .i64 (rdNum 3 0 1 (rest s p)).1, .int .i64 next]) ∧ ((rdNum 3 0 1 (rest s p)).1 ≠ 0 → ∃ p' : Nat, next = (p' : Int) ∧ p' ≤ s.size ∧ rest s p' = (rdNum 3 0 1 (rest s p)).2) ∧ Drawn0 w w' := by
  obtain ⟨v, next, h1, h2, h3⟩ := read_from s hs p hp 3 0 0 1 rfl (.inl ⟨rfl, rfl, rfl⟩) (by omega)
  refine (chaseref08_read.calls 8 s p v next w h1).mono ?_
  rintro e w' ⟨rfl, hd⟩
  rw [Nat.add_zero] at h2 h3
  subst h2
  exact ⟨next, rfl, h3, hd⟩
end Go.Proofs.YtmbdjajmiggiaaaDoor.U08r
/- The reference's blocks 46 (chapter 08). -/
namespace Go.Proofs.YtmbdjajmiggiaaaDoor.U08s
open Go.Proofs.YtmbdjajmiggiaaaDoor.K08 Go.Proofs.YtmbdjajmiggiaaaDoor.G08 Go.Proofs.YtmbdjajmiggiaaaDoor.G08f Go.Proofs.YtmbdjajmiggiaaaDoor.Z08 Go.Proofs.YtmbdjajmiggiaaaDoor.O08 Go.Proofs.YtmbdjajmiggiaaaDoor.L08 Go.Proofs.YtmbdjajmiggiaaaDoor.E08 Go.Proofs.YtmbdjajmiggiaaaDoor.R08 Go.Proofs.YtmbdjajmiggiaaaDoor.R08b Go.Proofs.YtmbdjajmiggiaaaDoor.U08r
open Go.Proofs.YtmbdjajmiggiaaaDoor.V08o (place_call)
open Go.RowKit Go.Proofs.YtmbdjajmiggiaaaDoorW.PrintWords Go.Proofs.YtmbdjajmiggiaaaDoorW.PrintLast Go.Proofs.YtmbdjajmiggiaaaDoorW.PrintMore
set_option linter.unusedVariables false
set_option linter.unusedSimpArgs false
set_option maxRecDepth 100000
def BlkR (s : ByteArray) (w : World) (RES : Option (List Int × List Int)) (e : Ending) (w' : World) : Prop :=
  match RES with
  | none => ∃ y, e = .returned (.tuple #[ar y, .int .i64 (-1)]) ∧ y.length = 64 ∧ Below w.heap.size w w'
  | some (y, l) => ∃ p' : Nat, e = .returned (.tuple #[ar y, .int .i64 (p' : Int)]) ∧ y.length = 64 ∧ (∀ x ∈ y, -4294967296 ≤ x ∧ x ≤ 4294967296) ∧ p' ≤ s.size ∧ rest s p' = l ∧ Below w.heap.size w w'
structure RS (w wr : World) (y : List Int) : Prop where
  res : Blk wr w.heap.size z64
  yy : Blk wr (w.heap.size + 1) y
  yl : y.length = 64
  yb : ∀ x ∈ y, -4294967296 ≤ x ∧ x ≤ 4294967296
  bel : Below w.heap.size w wr
theorem RS.step {w wr w2 : World} {y : List Int} (h : RS w wr y) (hb : Below wr.heap.size wr w2) : RS w w2 y := ⟨h.res.below hb, h.yy.below hb, h.yl, h.yb, below_step h.bel hb⟩
set_option maxHeartbeats 4000000 in
theorem blocks_ref (s : ByteArray) (p : Nat) (q : Int) (hq1 : 1 ≤ q) (hq2 : q ≤ 255) (hp : p ≤ s.size) (hs : s.size ≤ 140737488355328) (w : World) (RES : Option (List Int × List Int)) (hR : rdBlk q 65 0 z64 (rest s p) = RES) :
    Calls Tryd.prog 46 #[.string s, .int .i64 p, .int .i64 q] w (BlkR s w RES) := by
  have HR := Aside0.mk hR
  clear hR
  go_enter Tryd.func46, Tryd.ntmps46
  go_wp2_with (refine alloc_ar rfl rfl ?_)
  have HS : Aside0 (RS w ((w.alloc (.cells (nums .i64 z64).toArray 22)).alloc (.cells (nums .i64 z64).toArray 22)) z64) := ⟨⟨blk_alloc (Blk.new w z64) _, by have := Blk.new (w.alloc (.cells (nums .i64 z64).toArray 22)) z64; simpa using this, rfl, all_z64, below_alloc (below_alloc (Below.refl _ _) _) _⟩⟩
  go_loopw [1, 9] (fun v1 v9 wr => ∃ (k f p2 : Nat) (y : List Int), v1 = .int .i64 p2 ∧ v9 = .int .i64 k ∧ k ≤ 64 ∧ 65 ≤ f + k ∧ p2 ≤ s.size ∧ Aside0 (rdBlk q f k y (rest s p2) = RES) ∧ Aside0 (RS w wr y)) (fun _ v9 _ => 65 - (intOf v9).toNat)
  case atStart => exact ⟨0, 65, p, z64, rfl, rfl, by omega, by omega, hp, HR, HS⟩
  case round =>
    clear HR HS
    obtain ⟨k, f, p2, y, rfl, rfl, hk, hf, hp2, HR, HS⟩ := hrel
    obtain ⟨f, rfl⟩ : ∃ m, f = m + 1 := ⟨f - 1, by omega⟩
    have hr := HR.out
    have b0 : (0 : Int) ≤ (p2 : Int) := by omega
    by_cases hlt : p2 < s.size
    · rw [rest_cons s p2 hlt, rdBlk_cons] at hr
      have q0 := R08.strAt s p2 hlt
      have hnb := bAt_bd s p2
      obtain ⟨n, hn⟩ : ∃ n, bAt s p2 = n := ⟨_, rfl⟩
      rw [hn] at hr hnb q0
      have q1 : ∀ h, ((s[p2]'h).toNat : Int) = n := fun h => q0
      clear hn HR q0
      by_cases h64 : n = 64
      · subst h64
        rw [if_pos rfl] at hr
        subst hr
        have kw : IntKind.i64.wrap ((p2 : Int) + 1) = (p2 : Int) + 1 := IntWalk.i64_in _ (by omega)
        go_wp2_with (first | (refine load_ar rfl _ rfl _ rfl y HS.out.yl HS.out.yy ?_) | (refine store_ar rfl _ _ rfl _ rfl z64 y rfl HS.out.res rfl HS.out.yl ?_))
        refine bodyPost_ret (results_ar rfl _ _ _ y rfl (HS.out.res.setRow _) HS.out.yl) rfl ?_
        exact ⟨p2 + 1, rfl, HS.out.yl, HS.out.yb, by omega, rfl, G08.below_setRow HS.out.bel (Nat.le_refl _) _⟩
      · rw [if_neg h64] at hr
        obtain ⟨n, rfl⟩ := Int.eq_ofNat_of_zero_le hnb.1
        have t0 : ((n : Int) == 64) = false := by simpa using h64
        have kw : IntKind.i64.wrap ((p2 : Int) + 1) = (p2 : Int) + 1 := IntWalk.i64_in _ (by omega)
        have kn : IntKind.i64.wrap (n : Int) = (n : Int) := IntWalk.i64_in _ (by omega)
        have kk : IntKind.i64.wrap ((k : Int) + (n : Int)) = (k : Int) + (n : Int) := IntWalk.i64_in _ (by omega)
        have HRD := Aside0.mk (read_ref s hs (p2 + 1) (by omega))
        have hvb := rdNum_bd (rest s (p2 + 1)) (rest_range s (p2 + 1))
        obtain ⟨⟨v, l⟩, hvl⟩ : ∃ v, rdNum 3 0 1 (rest s (p2 + 1)) = v := ⟨_, rfl⟩
        rw [hvl] at hr hvb HRD
        simp only [Int.toNat_natCast] at hr hvb HRD
        have ep : ((p2 + 1 : Nat) : Int) = (p2 : Int) + 1 := by simp
        rw [ep] at HRD
        clear hvl ep
        go_wp2_with fail
        refine (HRD.out _).mono ?_
        rintro e w3 ⟨next, rfl, hnx, nd, rfl⟩
        have HS3 := Aside0.mk (HS.out.step (pw_below_drewN (Below.refl _ _) nd))
        have HNX := Aside0.mk hnx
        clear hnx HS HRD
        by_cases hbad : 64 < (n : Int) ∨ 64 ≤ (k : Int) + (n : Int)
        · rw [if_pos hbad] at hr
          subst hr
          by_cases hb1 : 63 < n
          · go_wp2_with (first | (refine load_ar rfl _ rfl _ rfl y HS3.out.yl HS3.out.yy ?_) | (refine store_ar rfl _ _ rfl _ rfl z64 y rfl HS3.out.res rfl HS3.out.yl ?_))
            refine bodyPost_ret (results_ar rfl _ _ _ y rfl (HS3.out.res.setRow _) HS3.out.yl) rfl ?_
            exact ⟨y, rfl, HS3.out.yl, G08.below_setRow HS3.out.bel (Nat.le_refl _) _⟩
          · have hb2 : 63 < k + n := by omega
            have hb3 : (63 : Int) < (k : Int) + (n : Int) := by omega
            go_wp2_with (first | (refine load_ar rfl _ rfl _ rfl y HS3.out.yl HS3.out.yy ?_) | (refine store_ar rfl _ _ rfl _ rfl z64 y rfl HS3.out.res rfl HS3.out.yl ?_))
            refine bodyPost_ret (results_ar rfl _ _ _ y rfl (HS3.out.res.setRow _) HS3.out.yl) rfl ?_
            exact ⟨y, rfl, HS3.out.yl, G08.below_setRow HS3.out.bel (Nat.le_refl _) _⟩
        · rw [if_neg hbad] at hr
          have hb1 : ¬ 63 < n := by omega
          have hb3 : ¬ (63 : Int) < (k : Int) + (n : Int) := by omega
          have hkn : k + n < 64 := by omega
          by_cases hv0 : v = 0
          · rw [if_pos hv0] at hr
            subst hr
            subst hv0
            go_wp2_with (first | (refine load_ar rfl _ rfl _ rfl y HS3.out.yl HS3.out.yy ?_) | (refine store_ar rfl _ _ rfl _ rfl z64 y rfl HS3.out.res rfl HS3.out.yl ?_))
            refine bodyPost_ret (results_ar rfl _ _ _ y rfl (HS3.out.res.setRow _) HS3.out.yl) rfl ?_
            exact ⟨y, rfl, HS3.out.yl, G08.below_setRow HS3.out.bel (Nat.le_refl _) _⟩
          · rw [if_neg hv0] at hr
            obtain ⟨p3, rfl, hp3, hrest⟩ := HNX.out hv0
            have HRS := Aside0.mk hrest
            have HPL := Aside0.mk (place_call (k + n) hkn)
            have hpl := place_lt (k + n) hkn
            have ek : ((k + n : Nat) : Int) = (k : Int) + (n : Int) := by simp
            have epl : 8 * ((zAt (k + n)).1 : Int) + ((zAt (k + n)).2 : Int) = ((place (k + n) : Nat) : Int) := by unfold place; simp
            rw [ek, epl] at HPL
            have t4 : (v == 0) = false := by simpa using hv0
            clear hrest ek epl HNX
            go_wp2_with fail
            refine (HPL.out _).mono ?_
            rintro e w4 ⟨rfl, hb4⟩
            have HS4 := Aside0.mk (HS3.out.step hb4)
            obtain ⟨P, hP⟩ : ∃ P, place (k + n) = P := ⟨_, rfl⟩
            rw [hP] at hpl hr ⊢
            have c1 := HS4.out.yy.cell P (by rw [HS4.out.yl]; exact hpl)
            have f1 : w4.frozen? ⟨w.heap.size + 1, P, none⟩ = false := blk_frozen HS4.out.yy P
            have hvq : -267386880 ≤ v * q ∧ v * q ≤ 267386880 := by
              have hx := ab_mul (t := q) hvb.1 hvb.2
              have : ab q * 1048576 ≤ 267386880 := by unfold ab; split <;> omega
              rw [Int.mul_comm v q]
              omega
            have kx : IntKind.i64.wrap (v * q) = v * q := IntWalk.i64_in _ (by omega)
            have kk2 : IntKind.i64.wrap ((k : Int) + (n : Int) + 1) = (k : Int) + (n : Int) + 1 := IntWalk.i64_in _ (by omega)
            have g0 : (0 : Int) ≤ (P : Int) := by omega
            have g1 : (P : Int) < 64 := by omega
            have HR2 := Aside0.mk hr
            have HVQ := Aside0.mk hvq
            clear hr hP hb4 hvq hvb
            go_wp2_with fail
            go_roundw
            case measure => simp [intOf]; omega
            case rel =>
              exact ⟨k + n + 1, f, p3, y.set P (v * q), rfl, by go_num, by omega, by omega, hp3, ⟨by rw [HRS.out]; exact HR2.out⟩, ⟨⟨HS4.out.res.far (by omega) _ _, HS4.out.yy.set P (v * q), by rw [List.length_set]; exact HS4.out.yl, fun z hz => by rcases List.mem_or_eq_of_mem_set hz with h1 | rfl; exact HS4.out.yb z h1; have := HVQ.out; omega, below_set HS4.out.bel (by omega)⟩⟩⟩
    · obtain rfl : p2 = s.size := by omega
      rw [rest_nil] at hr
      have hr2 : RES = none := by rw [← hr]; rfl
      subst hr2
      clear hr HR
      go_wp2_with (first | (refine load_ar rfl _ rfl _ rfl y HS.out.yl HS.out.yy ?_) | (refine store_ar rfl _ _ rfl _ rfl z64 y rfl HS.out.res rfl HS.out.yl ?_))
      refine bodyPost_ret (results_ar rfl _ _ _ y rfl (HS.out.res.setRow _) HS.out.yl) rfl ?_
      exact ⟨y, rfl, HS.out.yl, G08.below_setRow HS.out.bel (Nat.le_refl _) _⟩
end Go.Proofs.YtmbdjajmiggiaaaDoor.U08s
/- The reference's Decode 26 (chapter 08). -/
namespace Go.Proofs.YtmbdjajmiggiaaaDoor.U08t
open Go.Proofs.YtmbdjajmiggiaaaDoor.K08 Go.Proofs.YtmbdjajmiggiaaaDoor.G08 Go.Proofs.YtmbdjajmiggiaaaDoor.G08f Go.Proofs.YtmbdjajmiggiaaaDoor.Z08 Go.Proofs.YtmbdjajmiggiaaaDoor.O08 Go.Proofs.YtmbdjajmiggiaaaDoor.L08 Go.Proofs.YtmbdjajmiggiaaaDoor.E08 Go.Proofs.YtmbdjajmiggiaaaDoor.R08 Go.Proofs.YtmbdjajmiggiaaaDoor.R08b Go.Proofs.YtmbdjajmiggiaaaDoor.D08 Go.Proofs.YtmbdjajmiggiaaaDoor.U08s Go.Proofs.YtmbdjajmiggiaaaDoor.U08b Go.Proofs.YtmbdjajmiggiaaaDoor.T08 Go.Proofs.YtmbdjajmiggiaaaDoor.U08d Go.Proofs.YtmbdjajmiggiaaaDoor.N08 Go.Proofs.YtmbdjajmiggiaaaDoor.U08
open Go.RowKit Go.Proofs.YtmbdjajmiggiaaaDoorW.PrintWords Go.Proofs.YtmbdjajmiggiaaaDoorW.PrintLast Go.Proofs.YtmbdjajmiggiaaaDoorW.PrintMore
set_option linter.unusedVariables false
set_option linter.unusedSimpArgs false
set_option maxRecDepth 100000
/-- What the reference's Decode keeps: its octets. -/
structure DR (W wr : World) (out : List Int) : Prop where
  bel : Below W.heap.size W wr
  o : wr.heap[W.heap.size]? = some (.cells (nums .u8 out).toArray 5 (0, 0))
theorem DR.below {W wr w2 : World} {out : List Int} (h : DR W wr out) (hb : Below wr.heap.size wr w2) : DR W w2 out :=
  ⟨below_step h.bel hb, blk_below h.o hb⟩
theorem DR.put {W wr : World} {out : List Int} (h : DR W wr out) (k : Nat) (x : Int) : DR W (wr.setCell ⟨W.heap.size, k, none⟩ (.int .u8 x)) (out.set k x) :=
  ⟨below_set h.bel (by omega), by rw [blk_set h.o k]; congr 2; simp [nums]⟩
theorem DR.setRow {W wr : World} {out : List Int} (h : DR W wr out) {g : Nat} (hg : W.heap.size + 1 ≤ g) (cs : Array Value) : DR W (wr.setRow g cs) out :=
  ⟨G08.below_setRow h.bel (by omega) cs, (heap_setRow_far _ _ _ _ (by omega)).trans h.o⟩
theorem DR.lt {W wr : World} {out : List Int} (h : DR W wr out) : W.heap.size + 1 ≤ wr.heap.size := by have := blk_lt h.o; omega
theorem DR.string {W wr : World} {m : Nat} {out : List Int} (h : DR W wr out) (hl : out.length = m) (hm : m ≤ 16384) : (convert 38 9 (.slice (some ⟨W.heap.size, 0, none⟩) m m)).run Tryd.prog wr = .ok (.string (strOfNums out)) wr := by
  refine own_string (base := 0) (e' := 5) (n := m) (src := 38) (dst := 9) Tryd.underlying38 Tryd.underlying5 Tryd.underlying9 ⟨by simp [nums, hl], .inr ⟨W.heap.size, m, _, rfl, Nat.zero_le _, h.o, Nat.le_refl _, by simp only [maxLen]; omega, by simp [nums, hl], ?_⟩⟩
  rw [Nat.mul_one]
  exact List.take_of_length_le (by simp [nums, hl])
set_option maxHeartbeats 8000000 in
theorem decode_okR (s : ByteArray) (wn hn qn : Nat) (hw1 : 1 ≤ wn) (hw2 : wn ≤ 128) (hh1 : 1 ≤ hn) (hh2 : hn ≤ 128) (hq1 : 1 ≤ qn) (hq2 : qn ≤ 255) (hs : s.size ≤ 65536) (W : World) (hz : sizes s.size wn hn qn = 0) (R : ByteArray) (N E : Int)
    (hR : (match decAll wn hn qn (nb hn) (List.replicate (wn * hn) 0, bytesOf s) with | none => (⟨#[]⟩, 0, 5) | some (o, l) => (strOfNums o, (s.size : Int) - l.length, 0) : ByteArray × Int × Int) = (R, N, E)) :
    Calls Tryd.prog 26 #[.string s, .int .i64 wn, .int .i64 hn, .int .i64 qn] W fun e w' => e = .returned (.tuple #[.string R, .int .i64 N, .int .i64 E]) ∧ Below W.heap.size W w' := by
  have HRE := Aside0.mk hR
  obtain ⟨m, hmm⟩ : ∃ m, wn * hn = m := ⟨_, rfl⟩
  have hwh : m ≤ 16384 := by rw [← hmm]; exact Nat.le_trans (Nat.mul_le_mul hw2 hh2) (by decide)
  have HMM := Aside0.mk hmm
  have hsc := sizes_ref s wn hn qn (by omega)
  rw [hz] at hsc
  have HSC := Aside0.mk hsc
  have t1 : (wn : Int) * (hn : Int) = (m : Int) := by rw [← hmm]; simp
  have hmk := print_make (P := Tryd.prog) 38 5 .u8 1 Tryd.underlying38 info5 (by decide) m (by omega)
  have g1 : IntKind.i64.wrap ((hn : Int) + 7) = (hn : Int) + 7 := IntWalk.i64_in _ (by omega)
  have g2 : ((hn : Int) + 7).tdiv 8 = ((nb hn : Nat) : Int) := by rw [Int.tdiv_eq_ediv_of_nonneg (by omega)]; unfold nb; omega
  have g3 : IntKind.i64.wrap ((nb hn : Nat) : Int) = ((nb hn : Nat) : Int) := IntWalk.i64_in _ (by unfold nb; omega)
  have g4 : IntKind.i64.wrap ((wn : Int) + 7) = (wn : Int) + 7 := IntWalk.i64_in _ (by omega)
  have g5 : ((wn : Int) + 7).tdiv 8 = ((nb wn : Nat) : Int) := by rw [Int.tdiv_eq_ediv_of_nonneg (by omega)]; unfold nb; omega
  have g6 : IntKind.i64.wrap ((nb wn : Nat) : Int) = ((nb wn : Nat) : Int) := IntWalk.i64_in _ (by unfold nb; omega)
  clear hR hsc hz hmm
  go_enter Tryd.func26, Tryd.ntmps26
  go_wp2_with fail
  refine (HSC.out W).mono ?_
  rintro e W1 ⟨rfl, nd, rfl⟩
  go_wp2_with fail
  have HD0 : Aside0 (DR W ((W.drewN nd).alloc (.cells (madeCells #[.int .u8 0] m) 5)) (List.replicate m 0)) := by
    refine ⟨below_alloc (pw_below_drewN (Below.refl _ _) _) _, ?_⟩
    have := blk_new (W.drewN nd) (.cells (madeCells #[.int .u8 0] m) 5)
    rw [made_nums] at this ⊢
    simpa using this
  obtain ⟨w0, hw0⟩ : ∃ w0, (W.drewN nd).alloc (.cells (madeCells #[.int .u8 0] m) 5) = w0 := ⟨_, rfl⟩
  rw [hw0] at HD0 ⊢
  clear hw0 hmk t1
  obtain ⟨st0, hst0⟩ : ∃ st0, (List.replicate m (0 : Int), bytesOf s) = st0 := ⟨_, rfl⟩
  have hre := HRE.out
  rw [HMM.out, hst0] at hre
  have HRE2 := Aside0.mk hre
  have HST : Aside0 (decAll wn hn qn 0 st0 = some (List.replicate m 0, rest s 0)) := ⟨by rw [← hst0]; rfl⟩
  clear hre hst0 HRE
  go_loopw [13, 14] (fun v13 v14 wr => ∃ (i p : Nat) (out : List Int), v13 = .int .i64 (p : Int) ∧ v14 = .int .i64 (i : Int) ∧ i ≤ nb hn ∧ p ≤ s.size ∧ Aside0 (out.length = m) ∧ Aside0 (decAll wn hn qn i st0 = some (out, rest s p)) ∧ Aside0 (DR W wr out)) (fun _ v14 _ => 1000 - (intOf v14).toNat)
  case atStart => exact ⟨0, 0, _, rfl, rfl, by omega, Nat.zero_le _, ⟨by simp⟩, HST, HD0⟩
  case round =>
    clear HD0 HST
    obtain ⟨i, p, out, rfl, rfl, hi, hp, HOL, HDA, HD⟩ := hrel
    have hnb : nb hn ≤ 16 := by unfold nb; omega
    have hnbw : nb wn ≤ 16 := by unfold nb; omega
    by_cases hlt : i < nb hn
    · have t : decide (i < nb hn) = true := decide_eq_true hlt
      obtain ⟨wo, rfl⟩ : ∃ wo, wo = wr := ⟨_, rfl⟩
      have hi16 : i < 16 := by omega
      have HI := Aside0.mk hlt
      clear hlt hi hnb hnbw
      go_wp2_with fail
      go_loopw [13, 15] (fun v13 v15 w2 => ∃ (j p2 : Nat) (o2 : List Int), v13 = .int .i64 (p2 : Int) ∧ v15 = .int .i64 (j : Int) ∧ j ≤ 16 ∧ p2 ≤ s.size ∧ Aside0 (j ≤ nb wn) ∧ Aside0 (o2.length = m) ∧ Aside0 (decRow wn hn qn i j (out, rest s p) = some (o2, rest s p2)) ∧ Aside0 (DR W w2 o2)) (fun _ v15 _ => 1000 - (intOf v15).toNat)
      case atStart => exact ⟨0, p, out, rfl, rfl, by omega, hp, ⟨Nat.zero_le _⟩, HOL, ⟨rfl⟩, HD⟩
      case round =>
        clear HD
        obtain ⟨j, p2, o2, rfl, rfl, hj, hp2, HJ, HO2, HDR, HD⟩ := hrel
        by_cases hlt2 : j < nb wn
        · have t2 : decide (j < nb wn) = true := decide_eq_true hlt2
          have hj16 : j < 16 := by unfold nb at hlt2; omega
          obtain ⟨wp, rfl⟩ : ∃ wp, wp = wr := ⟨_, rfl⟩
          have HJ2 := Aside0.mk hlt2
          clear hlt2 hj HJ
          obtain ⟨RES, hRES⟩ : ∃ RES, rdBlk qn 65 0 z64 (rest s p2) = RES := ⟨_, rfl⟩
          have HSD : Aside0 (stepD wn hn qn i j (o2, rest s p2) = stepR wn hn i j o2 RES) := ⟨by rw [← hRES]; rfl⟩
          have HRB := Aside0.mk (blocks_ref s p2 qn (by omega) (by omega) hp2 (by omega) wp RES hRES)
          clear hRES
          go_wp2_with fail
          refine HRB.out.mono ?_
          intro e w3 hpost
          cases RES with
          | none =>
            obtain ⟨y, rfl, hyl, hb⟩ := hpost
            have HB3 := Aside0.mk (below_step HD.out.bel hb)
            have hlt3 := HD.out.lt
            have hsz3 := hb.size
            have hbad := decAll_bad HI.out HJ2.out HDA.out HDR.out HSD.out
            have hre := HRE2.out
            rw [hbad] at hre
            simp only [Prod.mk.injEq] at hre
            obtain ⟨rfl, rfl, rfl⟩ := hre
            clear hb hbad HRB
            go_wp2_with (first | (refine alloc_ar rfl rfl ?_) | (refine store_ar rfl _ _ rfl _ rfl z64 y rfl (blk_new _ _) rfl hyl ?_))
            go_ret3
            exact ⟨rfl, G08.below_setRow (below_alloc HB3.out _) (by omega) _⟩
          | some yl =>
            obtain ⟨y, l⟩ := yl
            obtain ⟨p3, rfl, hyl, hyb, hp3, hrest, hb3⟩ := hpost
            have HD3 := Aside0.mk (HD.out.below hb3)
            have HYL := Aside0.mk hyl
            have HYB := Aside0.mk hyb
            have HRS := Aside0.mk hrest
            clear hb3 hyl hyb hrest HRB
            have t3 : decide ((p3 : Int) < 0) = false := decide_eq_false (by omega)
            have hlt3 := HD3.out.lt
            go_wp2_with (first | (refine alloc_ar rfl rfl ?_) | (refine store_ar rfl _ _ rfl _ rfl z64 y rfl (blk_new _ _) rfl HYL.out ?_) | (refine load_ar rfl _ rfl _ rfl y HYL.out (Blk.setRow (Blk.new _ _) _) ?_))
            have HD4 := Aside0.mk ((HD3.out.below (below_alloc (Below.refl _ _) (.cells (nums .i64 z64).toArray 22))).setRow (g := w3.heap.size) hlt3 (nums .i64 y).toArray)
            obtain ⟨w4, hw4⟩ : ∃ w4, (w3.alloc (.cells (nums .i64 z64).toArray 22)).setRow w3.heap.size (nums .i64 y).toArray = w4 := ⟨_, rfl⟩
            rw [hw4] at HD4 ⊢
            clear hw4
            refine (block_ref y HYL.out (wthn_yes fun k hk => getD_all HYB.out k hk) w4).mono ?_
            rintro e w5 ⟨rfl, hb5⟩
            have HD5 := Aside0.mk (HD4.out.below hb5)
            clear hb5
            obtain ⟨b, hb⟩ : ∃ b, invL y = b := ⟨_, rfl⟩
            have HBL : Aside0 (b.length = 64) := ⟨by rw [← hb]; exact blk8_len _⟩
            have HBB : Aside0 (∀ x ∈ b, -1000000000 ≤ x ∧ x ≤ 1000000000) := ⟨by rw [← hb]; exact invL_bd y HYL.out HYB.out⟩
            have hsd := HSD.out
            simp only [stepR, hb] at hsd
            have HSD2 := Aside0.mk hsd
            rw [hb]
            clear hb hsd HSD HD4
            have hlt5 := HD5.out.lt
            go_wp2_with (first | (refine alloc_ar rfl rfl ?_) | (refine store_ar rfl _ _ rfl _ rfl z64 b rfl (blk_new _ _) rfl HBL.out ?_) | (refine load_ar rfl _ rfl _ rfl b HBL.out (Blk.setRow (Blk.new _ _) _) ?_))
            have HD6 := Aside0.mk ((HD5.out.below (below_alloc (Below.refl _ _) (.cells (nums .i64 z64).toArray 22))).setRow (g := w5.heap.size) hlt5 (nums .i64 b).toArray)
            have HBK := Aside0.mk (Blk.setRow (Blk.new w5 z64) b)
            have HL5 := Aside0.mk hlt5
            obtain ⟨w6, hw6⟩ : ∃ w6, (w5.alloc (.cells (nums .i64 z64).toArray 22)).setRow w5.heap.size (nums .i64 b).toArray = w6 := ⟨_, rfl⟩
            rw [hw6] at HD6 HBK ⊢
            clear hw6 HD5 HD3 hlt5 hlt3
            go_loopw [19] (fun v19 w7 => ∃ k : Nat, v19 = .int .i64 k ∧ k ≤ 64 ∧ Aside0 (DR W w7 (putN wn hn i j b o2 k)) ∧ Aside0 (Blk w7 w5.heap.size b)) (fun v19 _ => 64 - (intOf v19).toNat)
            case atStart => exact ⟨0, rfl, by omega, HD6, HBK⟩
            case round =>
              clear HD6 HBK
              obtain ⟨k, rfl, hk, HD6, HBK⟩ := hrel
              by_cases hk64 : k < 64
              · have t4 : decide ((k : Int) < 64) = true := decide_eq_true (by omega)
                have hix := HBK.out.cell k (by rw [HBL.out]; exact hk64)
                have hxb := getD_all HBB.out k (by rw [HBL.out]; exact hk64)
                obtain ⟨x, hx⟩ : ∃ x, b.getD k 0 = x := ⟨_, rfl⟩
                obtain ⟨r, hrr⟩ : ∃ r : Nat, 8 * i + k / 8 = r := ⟨_, rfl⟩
                obtain ⟨c, hcc⟩ : ∃ c : Nat, 8 * j + k % 8 = c := ⟨_, rfl⟩
                have er : 8 * (i : Int) + (k : Int) / 8 = (r : Int) := by omega
                have ec : 8 * (j : Int) + (k : Int) % 8 = (c : Int) := by omega
                have a1 := tdiv8 k
                have a2 := tmod8 k
                have w0 : IntKind.i64.wrap ((k / 8 : Nat) : Int) = ((k / 8 : Nat) : Int) := IntWalk.i64_in _ (by omega)
                have w1 : IntKind.i64.wrap (8 * (i : Int)) = 8 * (i : Int) := IntWalk.i64_in _ (by omega)
                have w2 : IntKind.i64.wrap (8 * (j : Int)) = 8 * (j : Int) := IntWalk.i64_in _ (by omega)
                have e1 : 8 * (i : Int) + ((k / 8 : Nat) : Int) = ((8 * i + k / 8 : Nat) : Int) := by omega
                have e2 : 8 * (j : Int) + ((k % 8 : Nat) : Int) = ((8 * j + k % 8 : Nat) : Int) := by omega
                rw [hrr] at e1
                rw [hcc] at e2
                have HPN : Aside0 (putN wn hn i j b o2 (k + 1) = if r < hn ∧ c < wn then (putN wn hn i j b o2 k).set (wn * r + c) (cl x) else putN wn hn i j b o2 k) := ⟨by rw [← hx, ← hrr, ← hcc]; rfl⟩
                have hr136 : r < 136 := by omega
                have hc136 : c < 136 := by omega
                rw [hx] at hix hxb
                have HOL2 : Aside0 ((putN wn hn i j b o2 k).length = m) := ⟨by rw [putN_len]; exact HO2.out⟩
                have w3 : IntKind.i64.wrap (r : Int) = (r : Int) := IntWalk.i64_in _ (by omega)
                have w4 : IntKind.i64.wrap (c : Int) = (c : Int) := IntWalk.i64_in _ (by omega)
                clear hx hrr hcc er ec
                generalize k / 8 = k8 at a1 w0 e1
                generalize k % 8 = kr at a2 e2
                by_cases hrh : r < hn
                · have t5 : decide ((r : Int) < (hn : Int)) = true := decide_eq_true (by omega)
                  by_cases hcw : c < wn
                  · have t6 : decide ((c : Int) < (wn : Int)) = true := decide_eq_true (by omega)
                    have hpn := HPN.out
                    rw [if_pos ⟨hrh, hcw⟩] at hpn
                    have hlt9 := N08.idx_lt wn hn r c m HMM.out.symm hrh hcw
                    obtain ⟨P, hP⟩ : ∃ P : Nat, wn * r = P := ⟨_, rfl⟩
                    have hP2 : (r : Int) * (wn : Int) = (P : Int) := by rw [← hP, Int.mul_comm]; simp
                    rw [hP] at hpn hlt9
                    obtain ⟨z, hz⟩ : ∃ z, (if 128 + x < 255 then (128 + x) else (255 : Int)) = z := ⟨_, rfl⟩
                    have hzb : -2000000000 ≤ z ∧ z ≤ 255 := by rw [← hz]; split <;> omega
                    obtain ⟨y8, hy8⟩ : ∃ y8, (if 0 < z then z else (0 : Int)) = y8 := ⟨_, rfl⟩
                    have hyb8 : 0 ≤ y8 ∧ y8 ≤ 255 := by rw [← hy8]; split <;> omega
                    have hcl : cl x = y8 := by rw [← hy8, ← hz]; unfold cl; repeat' split <;> omega
                    rw [hcl] at hpn
                    have HPN2 := Aside0.mk hpn
                    have q1 : (P : Int) + (c : Int) < (m : Int) := by omega
                    have q2 : ((P : Int) + (c : Int)).toNat = P + c := by omega
                    have f9 : wr.frozen? ⟨W.heap.size, P + c, none⟩ = false := blk_frozen HD6.out.o _
                    obtain ⟨old, c9⟩ : ∃ v, wr.cell? ⟨W.heap.size, P + c, none⟩ = some v := by
                      rw [blk_cell HD6.out.o (P + c)]
                      exact ⟨_, Array.getElem?_eq_getElem (by simp [nums, HOL2.out]; exact hlt9)⟩
                    clear hP hpn hcl HPN
                    go_wp2_with fail
                    go_roundw
                    case measure => simp [intOf]; omega
                    case rel => exact ⟨k + 1, by go_num, by omega, ⟨by rw [HPN2.out]; exact HD6.out.put _ _⟩, ⟨HBK.out.far (by have := HL5.out; omega) _ _⟩⟩
                  · have t6 : decide ((c : Int) < (wn : Int)) = false := decide_eq_false (by omega)
                    have hpn := HPN.out
                    rw [if_neg (by omega)] at hpn
                    have HPN2 := Aside0.mk hpn
                    clear hpn HPN
                    go_wp2_with fail
                    go_roundw
                    case measure => simp [intOf]; omega
                    case rel => exact ⟨k + 1, by go_num, by omega, ⟨by rw [HPN2.out]; exact HD6.out⟩, HBK⟩
                · have t5 : decide ((r : Int) < (hn : Int)) = false := decide_eq_false (by omega)
                  have hpn := HPN.out
                  rw [if_neg (by omega)] at hpn
                  have HPN2 := Aside0.mk hpn
                  clear hpn HPN
                  go_wp2_with fail
                  go_roundw
                  case measure => simp [intOf]; omega
                  case rel => exact ⟨k + 1, by go_num, by omega, ⟨by rw [HPN2.out]; exact HD6.out⟩, HBK⟩
              · obtain rfl : k = 64 := by omega
                have t4 : decide (((64 : Nat) : Int) < 64) = false := by decide
                have HDR2 : Aside0 (decRow wn hn qn i (j + 1) (out, rest s p) = some (putN wn hn i j b o2 64, rest s p3)) := ⟨by unfold decRow; rw [HDR.out, HRS.out]; exact HSD2.out⟩
                have HO3 : Aside0 ((putN wn hn i j b o2 64).length = m) := ⟨by rw [putN_len]; exact HO2.out⟩
                go_wp2_with fail
                go_roundw
                case measure => simp [intOf]; omega
                case rel => exact ⟨j + 1, p3, _, rfl, by go_num, by omega, hp3, ⟨HJ2.out⟩, HO3, HDR2, HD6⟩
        · obtain rfl : j = nb wn := by have := HJ.out; omega
          have t2 : decide (((nb wn : Nat) : Int) < ((nb wn : Nat) : Int)) = false := decide_eq_false (by omega)
          have HDA2 : Aside0 (decAll wn hn qn (i + 1) st0 = some (o2, rest s p2)) := ⟨by unfold decAll; rw [HDA.out]; exact HDR.out⟩
          go_wp2_with fail
          go_roundw
          case measure => simp [intOf]; omega
          case rel => exact ⟨i + 1, p2, o2, rfl, by go_num, HI.out, hp2, HO2, HDA2, HD⟩
    · obtain rfl : i = nb hn := by omega
      have t : decide (((nb hn : Nat) : Int) < ((nb hn : Nat) : Int)) = false := decide_eq_false (by omega)
      have hre := HRE2.out
      rw [HDA.out] at hre
      simp only [Prod.mk.injEq] at hre
      obtain ⟨rfl, rfl, rfl⟩ := hre
      have hcv := DR.string HD.out HOL.out hwh
      have hpl : (s.size : Int) - ((rest s p).length : Int) = (p : Int) := by unfold rest; simp [bytesOf]; omega
      have HPL := Aside0.mk hpl
      clear hpl
      go_wp2_with fail
      go_ret3
      rw [HPL.out]
      exact ⟨rfl, HD.out.bel⟩
set_option maxHeartbeats 1000000 in
theorem decode_ref (s : ByteArray) (w h q : Int) (hs : s.size ≤ 140737488355328) (W : World) :
    Calls Tryd.prog 26 #[.string s, .int .i64 w, .int .i64 h, .int .i64 q] W fun e w' => e = .returned (.tuple #[.string (decRes s w h q).1, .int .i64 (decRes s w h q).2.1, .int .i64 (decRes s w h q).2.2]) ∧ Below W.heap.size W w' := by
  obtain ⟨⟨R, N, E⟩, hR⟩ : ∃ r, decRes s w h q = r := ⟨_, rfl⟩
  rw [hR]
  unfold decRes at hR
  have HSC := Aside0.mk (sizes_ref s w h q hs)
  by_cases hz : sizes s.size w h q = 0
  · have hok : okArgs w h q = true ∧ s.size ≤ 65536 := by
      unfold sizes at hz
      split at hz
      · cases hz
      · split at hz
        · exact ⟨by assumption, by omega⟩
        · cases hz
    have hok2 := hok.1
    simp only [okArgs, decide_eq_true_eq] at hok2
    obtain ⟨wn, rfl⟩ := Int.eq_ofNat_of_zero_le (show 0 ≤ w by omega)
    obtain ⟨hn, rfl⟩ := Int.eq_ofNat_of_zero_le (show 0 ≤ h by omega)
    obtain ⟨qn, rfl⟩ := Int.eq_ofNat_of_zero_le (show 0 ≤ q by omega)
    rw [if_neg (by simpa using hz)] at hR
    exact decode_okR s wn hn qn (by omega) (by omega) (by omega) (by omega) (by omega) (by omega) hok.2 W hz R N E hR
  · rw [if_pos hz] at hR
    simp only [Prod.mk.injEq] at hR
    obtain ⟨rfl, rfl, rfl⟩ := hR
    obtain ⟨z, hzz⟩ : ∃ z, sizes s.size w h q = z := ⟨_, rfl⟩
    rw [hzz] at hz HSC ⊢
    have t0 : (z == 0) = false := by simpa using hz
    have t1 : (z != 0) = true := by simpa using hz
    clear hzz hz
    go_enter Tryd.func26, Tryd.ntmps26
    go_wp2_with fail
    refine (HSC.out W).mono ?_
    rintro e W1 ⟨rfl, nd, rfl⟩
    go_wp2_with fail
    go_ret3
    exact ⟨rfl, pw_below_drewN (Below.refl _ _) _⟩
end Go.Proofs.YtmbdjajmiggiaaaDoor.U08t
