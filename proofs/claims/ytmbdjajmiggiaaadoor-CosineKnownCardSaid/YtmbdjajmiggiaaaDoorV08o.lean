/- CosineOrders walked (chapter 08). -/
import Derived.Test.YtmbdjajmiggiaaaDoorV08
import Derived.Test.YtmbdjajmiggiaaaDoorP08rx
namespace Go.Proofs.YtmbdjajmiggiaaaDoor.V08o
open Go.Proofs.YtmbdjajmiggiaaaDoor.K08 Go.Proofs.YtmbdjajmiggiaaaDoor.G08 Go.Proofs.YtmbdjajmiggiaaaDoor.G08f Go.Proofs.YtmbdjajmiggiaaaDoor.Z08 Go.Proofs.YtmbdjajmiggiaaaDoor.O08 Go.Proofs.YtmbdjajmiggiaaaDoor.L08 Go.Proofs.YtmbdjajmiggiaaaDoor.W08 Go.Proofs.YtmbdjajmiggiaaaDoor.P08r Go.Proofs.YtmbdjajmiggiaaaDoor.V08
open Go.RowKit Go.Proofs.YtmbdjajmiggiaaaDoorW.PrintWords Go.Proofs.YtmbdjajmiggiaaaDoorW.PrintLast Go.Proofs.YtmbdjajmiggiaaaDoorW.PrintMore
set_option linter.unusedVariables false
set_option linter.unusedSimpArgs false
set_option maxRecDepth 100000
theorem zAt_lt : ∀ k, k < 64 → (zAt k).1 < 8 ∧ (zAt k).2 < 8 := by decide +kernel
theorem place_eq : ∀ k, k < 64 → chaseref08_Place.f 600 ((k : Nat) : Int) = some (8 * ((zAt k).1 : Int) + ((zAt k).2 : Int)) := by decide +kernel
theorem place_call (k : Nat) (hk : k < 64) (w : World) : Calls Tryd.prog 19 #[.int .i64 k] w fun e w' => e = .returned (.int .i64 (8 * ((zAt k).1 : Int) + ((zAt k).2 : Int))) ∧ Below w.heap.size w w' := by
  refine (chaseref08_Place.calls 600 k _ w (place_eq k hk)).mono ?_
  rintro e w' ⟨rfl, hd⟩
  refine ⟨rfl, ?_⟩
  obtain ⟨q, rfl⟩ := hd
  exact pw_below_drewN (Below.refl _ _) _
set_option maxHeartbeats 8000000 in
theorem orders_walk (n : Int) (hn : (Lit.int .i64 n).wf = true) (w : World) (hm : Mat w) :
    Calls Tryd.prog 4 #[.int .i64 n] w fun e w' => e = .returned (.bool true) ∧ Below w.heap.size w w' := by
  have HM := Aside0.mk hm
  have HN := Aside0.mk hn
  clear hm hn
  go_enter Tryd.func4, Tryd.ntmps4
  go_wp2_with fail
  refine (works_call _ HM.out).mono ?_
  rintro e w1 ⟨rfl, hb1⟩
  have HB1 := Aside0.mk hb1
  clear hb1
  go_wp2_with fail
  go_loopw [3] (fun v3 wr => ∃ k : Int, v3 = .int .i64 k ∧ -1 ≤ k ∧ k ≤ 65 ∧ Aside0 (Below w.heap.size w wr)) (fun v3 _ => (65 - intOf v3).toNat)
  case atStart => exact ⟨-1, rfl, by omega, by omega, HB1⟩
  case round =>
    clear HB1
    obtain ⟨k, rfl, hk1, hk2, HBr⟩ := hrel
    by_cases hlt : k ≤ 64
    · have t : decide (k ≤ 64) = true := decide_eq_true hlt
      by_cases hbad : k < 0 ∨ 63 < k
      · have HZ := Aside0.mk (zigzag_bad k hbad)
        have kw : IntKind.i64.wrap (k + 1) = k + 1 := IntWalk.i64_in _ (by omega)
        by_cases h0 : k < 0
        · have t0 : decide (k < 0) = true := decide_eq_true h0
          go_wp2_with fail
          refine (HZ.out _).mono ?_
          rintro e w2 ⟨rfl, hb2⟩
          have HB2 := Aside0.mk (below_step HBr.out hb2)
          clear hb2
          go_wp2_with fail
          go_roundw
          case measure => simp [intOf]; omega
          case rel => exact ⟨k + 1, rfl, by omega, by omega, HB2⟩
        · have t0 : decide (k < 0) = false := decide_eq_false h0
          have t1 : decide (63 < k) = true := decide_eq_true (by omega)
          go_wp2_with fail
          refine (HZ.out _).mono ?_
          rintro e w2 ⟨rfl, hb2⟩
          have HB2 := Aside0.mk (below_step HBr.out hb2)
          clear hb2
          go_wp2_with fail
          go_roundw
          case measure => simp [intOf]; omega
          case rel => exact ⟨k + 1, rfl, by omega, by omega, HB2⟩
      · obtain ⟨j, rfl⟩ : ∃ j : Nat, k = (j : Int) := ⟨k.toNat, by omega⟩
        have HZ := Aside0.mk (zigzag_call j (by omega))
        have HP := Aside0.mk (place_call j (by omega))
        have hz := zAt_lt j (by omega)
        generalize (zAt j).1 = a at HZ HP hz
        generalize (zAt j).2 = b at HZ HP hz
        have t0 : decide ((j : Int) < 0) = false := decide_eq_false (by omega)
        have t1 : decide (63 < (j : Int)) = false := decide_eq_false (by omega)
        have t2 : decide ((b : Int) < 0) = false := decide_eq_false (by omega)
        have t3 : decide (7 < (b : Int)) = false := decide_eq_false (by omega)
        have kw : IntKind.i64.wrap ((j : Int) + 1) = (j : Int) + 1 := IntWalk.i64_in _ (by omega)
        have kx : IntKind.i64.wrap (8 * (a : Int)) = 8 * (a : Int) := IntWalk.i64_in _ (by omega)
        have ky : IntKind.i64.wrap (8 * (a : Int) + (b : Int)) = 8 * (a : Int) + (b : Int) := IntWalk.i64_in _ (by omega)
        clear hz hbad
        go_wp2_with fail
        refine (HZ.out _).mono ?_
        rintro e w2 ⟨rfl, hb2⟩
        have HB2 := Aside0.mk (below_step HBr.out hb2)
        clear hb2
        go_wp2_with fail
        refine (HP.out _).mono ?_
        rintro e w3 ⟨rfl, hb3⟩
        have HB3 := Aside0.mk (below_step HB2.out hb3)
        clear hb3
        go_wp2_with fail
        go_roundw
        case measure => simp [intOf]; omega
        case rel => exact ⟨(j : Int) + 1, rfl, by omega, by omega, HB3⟩
    · have t : decide (k ≤ 64) = false := decide_eq_false hlt
      clear hk1 hk2 hlt
      have kw : 1 ≤ n → n ≤ 255 → IntKind.i64.wrap (17 * n) = 17 * n ∧ IntKind.i64.wrap (17 * n + 100) = 17 * n + 100 ∧ (17 * n + 100).tdiv 200 = (17 * n + 100) / 200 := fun h1 h2 => ⟨IntWalk.i64_in _ (by omega), IntWalk.i64_in _ (by omega), Int.tdiv_eq_ediv_of_nonneg (by omega)⟩
      have HKW := Aside0.mk kw
      clear kw
      by_cases h0 : n < 0
      · have t0 : decide (n < 0) = true := decide_eq_true (by omega)
        have t1 : decide (63 < n) = false := decide_eq_false (by omega)
        have t2 : decide (n < 1) = true := decide_eq_true (by omega)
        have t3 : decide (255 < n) = false := decide_eq_false (by omega)
        go_wp2_with fail
        refine (zigzag_bad n (by omega) _).mono ?_
        rintro e w2 ⟨rfl, hb2⟩
        have HB2 := Aside0.mk (below_step HBr.out hb2)
        clear hb2
        go_wp2_with fail
        refine (bound_bad n (by omega) _).mono ?_
        rintro e w3 ⟨rfl, rfl⟩
        go_wp2_with fail
        go_ret
        exact ⟨rfl, HB2.out⟩
      by_cases h1 : 255 < n
      · have t0 : decide (n < 0) = false := decide_eq_false (by omega)
        have t1 : decide (63 < n) = true := decide_eq_true (by omega)
        have t2 : decide (n < 1) = false := decide_eq_false (by omega)
        have t3 : decide (255 < n) = true := decide_eq_true (by omega)
        go_wp2_with fail
        refine (zigzag_bad n (by omega) _).mono ?_
        rintro e w2 ⟨rfl, hb2⟩
        have HB2 := Aside0.mk (below_step HBr.out hb2)
        clear hb2
        go_wp2_with fail
        refine (bound_bad n (by omega) _).mono ?_
        rintro e w3 ⟨rfl, rfl⟩
        go_wp2_with fail
        go_ret
        exact ⟨rfl, HB2.out⟩
      by_cases h2 : 63 < n
      · have t0 : decide (n < 0) = false := decide_eq_false (by omega)
        have t1 : decide (63 < n) = true := decide_eq_true (by omega)
        have t2 : decide (n < 1) = false := decide_eq_false (by omega)
        have t3 : decide (255 < n) = false := decide_eq_false (by omega)
        obtain ⟨k1, k2, k3⟩ := HKW.out (by omega) (by omega)
        go_wp2_with fail
        refine (zigzag_bad n (by omega) _).mono ?_
        rintro e w2 ⟨rfl, hb2⟩
        have HB2 := Aside0.mk (below_step HBr.out hb2)
        clear hb2
        go_wp2_with fail
        refine (bound_call n (by omega) (by omega) _).mono ?_
        rintro e w3 ⟨rfl, rfl⟩
        go_wp2_with fail
        go_ret
        exact ⟨rfl, HB2.out⟩
      obtain ⟨q, rfl⟩ : ∃ q : Nat, n = (q : Int) := ⟨n.toNat, by omega⟩
      by_cases h3 : (q : Int) < 1
      · have t0 : decide ((q : Int) < 0) = false := decide_eq_false (by omega)
        have t1 : decide (63 < (q : Int)) = false := decide_eq_false (by omega)
        have t2 : decide ((q : Int) < 1) = true := decide_eq_true (by omega)
        have t3 : decide (255 < (q : Int)) = false := decide_eq_false (by omega)
        have HZ := Aside0.mk (zigzag_call q (by omega))
        generalize (zAt q).1 = a at HZ
        generalize (zAt q).2 = b at HZ
        go_wp2_with fail
        refine (HZ.out _).mono ?_
        rintro e w2 ⟨rfl, hb2⟩
        have HB2 := Aside0.mk (below_step HBr.out hb2)
        clear hb2
        go_wp2_with fail
        refine (bound_bad q (by omega) _).mono ?_
        rintro e w3 ⟨rfl, rfl⟩
        go_wp2_with fail
        go_ret
        exact ⟨rfl, HB2.out⟩
      · have t0 : decide ((q : Int) < 0) = false := decide_eq_false (by omega)
        have t1 : decide (63 < (q : Int)) = false := decide_eq_false (by omega)
        have t2 : decide ((q : Int) < 1) = false := decide_eq_false (by omega)
        have t3 : decide (255 < (q : Int)) = false := decide_eq_false (by omega)
        have HZ := Aside0.mk (zigzag_call q (by omega))
        generalize (zAt q).1 = a at HZ
        generalize (zAt q).2 = b at HZ
        obtain ⟨k1, k2, k3⟩ := HKW.out (by omega) (by omega)
        go_wp2_with fail
        refine (HZ.out _).mono ?_
        rintro e w2 ⟨rfl, hb2⟩
        have HB2 := Aside0.mk (below_step HBr.out hb2)
        clear hb2
        go_wp2_with fail
        refine (bound_call q (by omega) (by omega) _).mono ?_
        rintro e w3 ⟨rfl, rfl⟩
        go_wp2_with fail
        go_ret
        exact ⟨rfl, HB2.out⟩
end Go.Proofs.YtmbdjajmiggiaaaDoor.V08o
