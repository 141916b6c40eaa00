/- A description of a picture (chapter 08): Draft.Size 23, Draft.Data 24. -/
import Derived.Test.YtmbdjajmiggiaaaDoorE08
import Derived.Deep.QuietTactic
namespace Go.Proofs.YtmbdjajmiggiaaaDoor.Y08
open Go.Proofs.YtmbdjajmiggiaaaDoor.K08 Go.Proofs.YtmbdjajmiggiaaaDoor.G08 Go.Proofs.YtmbdjajmiggiaaaDoor.G08f Go.Proofs.YtmbdjajmiggiaaaDoor.L08 Go.Proofs.YtmbdjajmiggiaaaDoor.E08
open Go.RowKit Go.Proofs.YtmbdjajmiggiaaaDoorW.PrintWords Go.Proofs.YtmbdjajmiggiaaaDoorW.PrintLast Go.Proofs.YtmbdjajmiggiaaaDoorW.PrintMore
set_option linter.unusedVariables false
set_option linter.unusedSimpArgs false
set_option maxRecDepth 100000
/-- A description, as the program holds it: width, height, step, slope, noise. -/
structure Dr where
  w : Int
  h : Int
  q : Int
  a : Int
  b : Int
  c : Int
  ns : List Int
/-- Its numbers lie in their types. -/
structure Dr.Ok (d : Dr) : Prop where
  w : 0 ≤ d.w ∧ d.w ≤ 255
  h : 0 ≤ d.h ∧ d.h ≤ 255
  q : 0 ≤ d.q ∧ d.q ≤ 255
  a : -128 ≤ d.a ∧ d.a ≤ 127
  b : -128 ≤ d.b ∧ d.b ≤ 127
  c : -128 ≤ d.c ∧ d.c ≤ 127
  ns : ∀ x ∈ d.ns, 0 ≤ x ∧ x ≤ 255
def Dr.cells (d : Dr) (A : Option Addr) (cp : Nat) : Array Value := #[.int .u8 d.w, .int .u8 d.h, .int .u8 d.q, .int .i8 d.a, .int .i8 d.b, .int .i8 d.c, .slice A d.ns.length cp]
def Dr.wn (d : Dr) : Nat := (1 + d.w % 24).toNat
def Dr.hn (d : Dr) : Nat := (1 + d.h % 24).toNat
def Dr.qn (d : Dr) : Nat := (1 + d.q % 255).toNat
set_option maxHeartbeats 2000000 in
theorem size_call (d : Dr) (hd : d.Ok) (A : Option Addr) (cp : Nat) (w : World) :
    Calls Tryd.prog 23 #[.agg (d.cells A cp)] w fun e w' => e = .returned (.tuple #[.int .i64 d.wn, .int .i64 d.hn, .int .i64 d.qn]) ∧ Below w.heap.size w w' := by
  have hw := hd.w
  have hh := hd.h
  have hq := hd.q
  have HW : Aside0 ((d.wn : Int) = 1 + d.w % 24) := ⟨by unfold Dr.wn; omega⟩
  have HH : Aside0 ((d.hn : Int) = 1 + d.h % 24) := ⟨by unfold Dr.hn; omega⟩
  have HQ : Aside0 ((d.qn : Int) = 1 + d.q % 255) := ⟨by unfold Dr.qn; omega⟩
  rw [HW.out, HH.out, HQ.out]
  clear HW HH HQ hd
  unfold Dr.cells
  generalize d.ns.length = n
  generalize d.w = W at hw ⊢
  generalize d.h = H at hh ⊢
  generalize d.q = Q at hq ⊢
  have e1 : W.tmod 24 = W % 24 := Int.tmod_eq_emod_of_nonneg hw.1
  have e2 : H.tmod 24 = H % 24 := Int.tmod_eq_emod_of_nonneg hh.1
  have e3 : Q.tmod 255 = Q % 255 := Int.tmod_eq_emod_of_nonneg hq.1
  have k1 : IntKind.i64.wrap (W % 24) = W % 24 := IntWalk.i64_in _ (by omega)
  have k2 : IntKind.i64.wrap (H % 24) = H % 24 := IntWalk.i64_in _ (by omega)
  have k3 : IntKind.i64.wrap (Q % 255) = Q % 255 := IntWalk.i64_in _ (by omega)
  have k4 : IntKind.i64.wrap (1 + W % 24) = 1 + W % 24 := IntWalk.i64_in _ (by omega)
  have k5 : IntKind.i64.wrap (1 + H % 24) = 1 + H % 24 := IntWalk.i64_in _ (by omega)
  have k6 : IntKind.i64.wrap (1 + Q % 255) = 1 + Q % 255 := IntWalk.i64_in _ (by omega)
  clear hw hh hq
  go_enter Tryd.func23, Tryd.ntmps23
  go_wp2_with fail
  go_quiet (fail)
  go_wp2_with fail
  go_ret3
  exact ⟨rfl, pw_below_drewN (below_alloc (Below.refl _ _) _) _⟩
/-- The noise lies in memory. -/
def Noise (W : World) (d : Dr) (A : Option Addr) : Prop := ∀ j, j < d.ns.length → ∃ a : Addr, A = some a ∧ (a.add j).block < W.heap.size ∧ W.cell? (a.add j) = some (.int .u8 (d.ns.getD j 0))
theorem Noise.below {W W' : World} {d : Dr} {A : Option Addr} (h : Noise W d A) (hb : Below W.heap.size W W') : Noise W' d A := fun j hj => by
  obtain ⟨a, e, h1, h2⟩ := h j hj
  exact ⟨a, e, Nat.lt_of_lt_of_le h1 hb.size, (hb.cell h1).trans h2⟩
def clampE (n : Int) : Int := let m := if n < 255 then n else 255; if 0 < m then m else 0
def Dr.smp (d : Dr) (i : Nat) : Int := if i < d.ns.length then d.ns.getD i 0 else 128 + d.a + (d.b * ((i % d.wn : Nat) : Int)).tdiv 4 + (d.c * ((i / d.wn : Nat) : Int)).tdiv 4
def Dr.dataL (d : Dr) (k : Nat) : List Int := (List.range k).map fun i => clampE (d.smp i)
def Dr.data (d : Dr) : ByteArray := strOfNums (d.dataL (d.wn * d.hn))
theorem dataL_len (d : Dr) (k : Nat) : (d.dataL k).length = k := by simp [Dr.dataL]
theorem dataL_succ (d : Dr) (k : Nat) : d.dataL (k + 1) = d.dataL k ++ [clampE (d.smp k)] := by unfold Dr.dataL; rw [List.range_succ, List.map_append]; rfl
theorem clampE_bd (n : Int) : 0 ≤ clampE n ∧ clampE n ≤ 255 := by unfold clampE; simp only; split <;> split <;> omega
theorem wn_bd (d : Dr) : 1 ≤ d.wn ∧ d.wn ≤ 24 := by unfold Dr.wn; omega
theorem hn_bd (d : Dr) : 1 ≤ d.hn ∧ d.hn ≤ 24 := by unfold Dr.hn; omega
theorem qn_bd (d : Dr) : 1 ≤ d.qn ∧ d.qn ≤ 255 := by unfold Dr.qn; omega
theorem td4 (x : Int) (h : -80000 ≤ x ∧ x ≤ 80000) : -20000 ≤ x.tdiv 4 ∧ x.tdiv 4 ≤ 20000 := by
  by_cases h0 : 0 ≤ x
  · rw [Int.tdiv_eq_ediv_of_nonneg h0]; omega
  · have e : x.tdiv 4 = -((-x).tdiv 4) := by rw [Int.neg_tdiv, Int.neg_neg]
    rw [e, Int.tdiv_eq_ediv_of_nonneg (by omega : 0 ≤ -x)]; omega
attribute [local go_sem] max2_int min2_int max_two min_two
set_option maxHeartbeats 4000000 in
theorem data_call (d : Dr) (hd : d.Ok) (A : Option Addr) (cp : Nat) (w : World) (hn : Noise w d A) :
    Calls Tryd.prog 24 #[.agg (d.cells A cp)] w fun e w' => e = .returned (.string d.data) ∧ Below w.heap.size w w' := by
  have HD := Aside0.mk hd
  have HN := Aside0.mk hn
  clear hd hn
  have hsz := size_call d HD.out A cp
  unfold Dr.cells at hsz ⊢
  have HSZ := Aside0.mk hsz
  clear hsz
  have HBX : Aside0 ((w.alloc (.cells (d.cells A cp) 40)).heap[w.heap.size]? = some (.cells (d.cells A cp) 40 (0, 0))) := ⟨blk_new _ _⟩
  go_enter Tryd.func24, Tryd.ntmps24
  go_wp2_with fail
  refine (HSZ.out _).mono ?_
  rintro e w1 ⟨rfl, hb1⟩
  have HB1 := Aside0.mk (below_step (below_alloc (Below.refl _ w) _) hb1)
  have HX1 : Aside0 (w1.heap[w.heap.size]? = some (.cells (d.cells A cp) 40 (0, 0))) := ⟨blk_below HBX.out hb1⟩
  have hl1 := HX1.out
  have hlt1 : w.heap.size < w1.heap.size := blk_lt hl1
  have HN1 : Aside0 (Noise w1 d A) := ⟨HN.out.below HB1.out⟩
  have hwn := wn_bd d
  have hhn := hn_bd d
  obtain ⟨N, hN⟩ : ∃ N, d.wn * d.hn = N := ⟨_, rfl⟩
  have hN2 : N ≤ 576 := by rw [← hN]; exact Nat.le_trans (Nat.mul_le_mul hwn.2 hhn.2) (by decide)
  have hN3 : (d.wn : Int) * (d.hn : Int) = (N : Int) := by rw [← hN]; simp
  have hN4 : IntKind.i64.wrap (N : Int) = (N : Int) := IntWalk.i64_in _ (by omega)
  have HNN := Aside0.mk hN
  clear hb1 hN hl1 HBX
  go_wp2_with fail
  go_loopw [6, 7] (fun v6 v7 wr => ∃ i : Nat, v7 = .int .i64 i ∧ i ≤ N ∧ Aside0 (Own8 wr w1.heap.size v6 (d.dataL i)) ∧ Aside0 (Below w1.heap.size w1 wr)) (fun _ v7 _ => 1000 - (intOf v7).toNat)
  case atStart => exact ⟨0, rfl, by omega, ⟨own_nil _ _ _ _⟩, ⟨Below.refl _ _⟩⟩
  case round =>
    obtain ⟨i, rfl, hi, HO, HB⟩ := hrel
    by_cases hlt : i < N
    · have HXr : Aside0 (wr.heap[w.heap.size]? = some (.cells (d.cells A cp) 40 (0, 0))) := ⟨blk_below HX1.out HB.out⟩
      have HNr : Aside0 (Noise wr d A) := ⟨HN1.out.below HB.out⟩
      have c3 : wr.cell? ⟨w.heap.size, 3, none⟩ = some (.int .i8 d.a) := blk_cell HXr.out 3
      have c4 : wr.cell? ⟨w.heap.size, 4, none⟩ = some (.int .i8 d.b) := blk_cell HXr.out 4
      have c5 : wr.cell? ⟨w.heap.size, 5, none⟩ = some (.int .i8 d.c) := blk_cell HXr.out 5
      have c6 : wr.cell? ⟨w.heap.size, 6, none⟩ = some (.slice A d.ns.length cp) := blk_cell HXr.out 6
      have ha := HD.out.a
      have hb := HD.out.b
      have hc := HD.out.c
      have e1 : (i : Int).tmod (d.wn : Int) = ((i % d.wn : Nat) : Int) := by rw [Int.tmod_eq_emod_of_nonneg (by omega)]; simp
      have e2 : (i : Int).tdiv (d.wn : Int) = ((i / d.wn : Nat) : Int) := by rw [Int.tdiv_eq_ediv_of_nonneg (by omega)]; simp
      have hm : i % d.wn < 24 := Nat.lt_of_lt_of_le (Nat.mod_lt _ hwn.1) hwn.2
      have hr : i / d.wn ≤ 576 := Nat.le_trans (Nat.div_le_self _ _) (by omega)
      have hsm : d.smp i = if i < d.ns.length then d.ns.getD i 0 else 128 + d.a + (d.b * ((i % d.wn : Nat) : Int)).tdiv 4 + (d.c * ((i / d.wn : Nat) : Int)).tdiv 4 := rfl
      have hwz : ¬ d.wn = 0 := by omega
      have HSU : Aside0 (d.dataL (i + 1) = d.dataL i ++ [clampE (d.smp i)]) := ⟨dataL_succ d i⟩
      have hcl := clampE_bd (d.smp i)
      have hce : clampE (d.smp i) = (if 0 < (if d.smp i < 255 then d.smp i else 255) then (if d.smp i < 255 then d.smp i else 255) else 0) := rfl
      generalize i % d.wn = m at e1 hm hsm
      generalize i / d.wn = r at e2 hr hsm
      have p1 := ab_mul (t := d.b) (x := (m : Int)) (m := 24) (by omega) (by omega)
      have p2 := ab_mul (t := d.c) (x := (r : Int)) (m := 576) (by omega) (by omega)
      have q1 : ab d.b ≤ 128 := by unfold ab; split <;> omega
      have q2 : ab d.c ≤ 128 := by unfold ab; split <;> omega
      have t1 := td4 (d.b * (m : Int)) (by omega)
      have t2 := td4 (d.c * (r : Int)) (by omega)
      have w1' : IntKind.i64.wrap (d.b * (m : Int)) = d.b * (m : Int) := IntWalk.i64_in _ (by omega)
      have w2' : IntKind.i64.wrap (d.c * (r : Int)) = d.c * (r : Int) := IntWalk.i64_in _ (by omega)
      have wm : IntKind.i64.wrap (m : Int) = (m : Int) := IntWalk.i64_in _ (by omega)
      have wr' : IntKind.i64.wrap (r : Int) = (r : Int) := IntWalk.i64_in _ (by omega)
      clear p1 p2 q1 q2
      obtain ⟨x1, hx1⟩ : ∃ x, (d.b * (m : Int)).tdiv 4 = x := ⟨_, rfl⟩
      obtain ⟨x2, hx2⟩ : ∃ x, (d.c * (r : Int)).tdiv 4 = x := ⟨_, rfl⟩
      rw [hx1] at t1 hsm
      rw [hx2] at t2 hsm
      have ka : IntKind.i64.wrap d.a = d.a := IntWalk.i64_in _ (by omega)
      have kb : IntKind.i64.wrap d.b = d.b := IntWalk.i64_in _ (by omega)
      have kc : IntKind.i64.wrap d.c = d.c := IntWalk.i64_in _ (by omega)
      have k1 : IntKind.i64.wrap (128 + d.a) = 128 + d.a := IntWalk.i64_in _ (by omega)
      have k2 : IntKind.i64.wrap x1 = x1 := IntWalk.i64_in _ (by omega)
      have k3 : IntKind.i64.wrap x2 = x2 := IntWalk.i64_in _ (by omega)
      have k4 : IntKind.i64.wrap (128 + d.a + x1) = 128 + d.a + x1 := IntWalk.i64_in _ (by omega)
      have k5 : IntKind.i64.wrap (128 + d.a + x1 + x2) = 128 + d.a + x1 + x2 := IntWalk.i64_in _ (by omega)
      generalize d.smp i = n at hsm hcl hce HSU
      obtain ⟨y, hy⟩ : ∃ y, clampE n = y := ⟨_, rfl⟩
      rw [hy] at hcl hce HSU
      obtain ⟨y1, hy1⟩ : ∃ y1, (if n < 255 then n else 255) = y1 := ⟨_, rfl⟩
      rw [hy1] at hce
      have ey : IntKind.u8.wrap y = y := by rw [IntKind.wrap_u8]; omega
      have hce' := hce.symm
      have HSM := Aside0.mk hsm
      have hO := HO.out
      have hll : (d.dataL i).length ≤ 576 := by rw [dataL_len]; omega
      clear hsm hce hy t1 t2 ha hb hc hcl
      by_cases hin : i < d.ns.length
      · have hsm := HSM.out
        rw [if_pos hin] at hsm
        obtain ⟨a, rfl, hab, c7⟩ := HNr.out i hin
        rw [← hsm] at c7
        have j1 : (0 : Int) ≤ (i : Int) := by omega
        have j2 : (i : Int) < (d.ns.length : Int) := by omega
        have kn : IntKind.i64.wrap n = n := by
          have := getD_all HD.out.ns i hin
          exact IntWalk.i64_in _ (by omega)
        clear hsm HSM
        go_wp2_with fail
        go_quiet (fail)
        clear hx1 hx2 k1 k2 k3 k4 k5 ka kb kc w1' w2' wm wr' e1 e2
        have HO2 := Aside0.mk (pw_own_below HO.out (pw_below_drewN (Below.refl wr.heap.size wr) nq))
        have HB2 := Aside0.mk (pw_below_drewN HB.out nq)
        clear hO HO HB
        go_wp2_with (at_builtin; refine print_append_num (w0 := w1) w1.heap.size rfl (.tmp 58) (.tmp 63) 38 5 .u8 1 rfl Tryd.underlying38 info5 (by decide) u6 (d.dataL i) y rfl rfl HO2.out HB2.out HB2.out.size (by omega) ?_; intro v1 wA ho1 hb1' hg1 hat1; have HO3 := Aside0.mk ho1; have HB3 := Aside0.mk hb1'; clear ho1 hb1' hg1 hat1)
        go_roundw
        case measure => simp [intOf]; omega
        case rel => exact ⟨i + 1, by go_num, by omega, ⟨by rw [HSU.out]; exact HO3.out⟩, HB3⟩
      · have hsm := HSM.out
        rw [if_neg hin] at hsm
        rw [hsm] at hy1
        have j2 : ¬ (i : Int) < (d.ns.length : Int) := by omega
        clear hsm HSM
        go_wp2_with fail
        go_quiet (fail)
        clear hx1 hx2 k1 k2 k3 k4 k5 ka kb kc w1' w2' wm wr' e1 e2
        have HO2 := Aside0.mk (pw_own_below HO.out (pw_below_drewN (Below.refl wr.heap.size wr) nq))
        have HB2 := Aside0.mk (pw_below_drewN HB.out nq)
        clear hO HO HB
        go_wp2_with (at_builtin; refine print_append_num (w0 := w1) w1.heap.size rfl (.tmp 58) (.tmp 63) 38 5 .u8 1 rfl Tryd.underlying38 info5 (by decide) u6 (d.dataL i) y rfl rfl HO2.out HB2.out HB2.out.size (by omega) ?_; intro v1 wA ho1 hb1' hg1 hat1; have HO3 := Aside0.mk ho1; have HB3 := Aside0.mk hb1'; clear ho1 hb1' hg1 hat1)
        go_roundw
        case measure => simp [intOf]; omega
        case rel => exact ⟨i + 1, by go_num, by omega, ⟨by rw [HSU.out]; exact HO3.out⟩, HB3⟩
    · obtain rfl : i = N := by omega
      have hdt : d.data = strOfNums (d.dataL i) := by unfold Dr.data; rw [HNN.out]
      have HDT := Aside0.mk hdt
      generalize d.dataL i = L at HO HDT
      obtain ⟨A', c', rfl⟩ := own_slice HO.out
      have hcv := own_string (src := 38) (dst := 9) Tryd.underlying38 Tryd.underlying5 Tryd.underlying9 HO.out
      have HB4 := Aside0.mk (below_step HB1.out HB.out)
      clear hdt
      go_wp2_with fail
      go_ret
      exact ⟨by rw [HDT.out]; rfl, HB4.out⟩
end Go.Proofs.YtmbdjajmiggiaaaDoor.Y08
