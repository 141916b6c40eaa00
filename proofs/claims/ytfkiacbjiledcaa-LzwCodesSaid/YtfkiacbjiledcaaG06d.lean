/- lzw.Decode, walked (chapter 06). -/
import Derived.Test.YtfkiacbjiledcaaG06e
namespace Go.Proofs.Ytfkiacbjiledcaa.G06d
open Go.RowKit Go.Proofs.YtfkiacbjiledcaaW.PrintWords Go.Proofs.YtfkiacbjiledcaaW.PrintLast Go.Proofs.YtfkiacbjiledcaaW.PrintMore
open Go.Proofs.Ytfkiacbjiledcaa.K06 Go.Proofs.Ytfkiacbjiledcaa.G06 Go.Proofs.Ytfkiacbjiledcaa.M06 Go.Proofs.Ytfkiacbjiledcaa.G06r Go.Proofs.Ytfkiacbjiledcaa.G06e
set_option linter.unusedVariables false
set_option maxRecDepth 100000
set_option maxHeartbeats 1000000 in
theorem dec_call (s r1 : ByteArray) (r2 r3 : Int) (w : World) (h : decRes s = (r1, r2, r3)) :
    Calls Try.prog 14 #[.string s] w fun e w' => e = .returned (.tuple #[.string r1, .int .i64 r2, .int .i64 r3]) ∧ Below w.heap.size w w' := by
  unfold decRes at h
  by_cases hs : 65536 < s.size
  · rw [if_pos hs] at h
    cases h
    have t1 : decide ((65536 : Int) < (s.size : Int)) = true := decide_eq_true (by omega)
    go_enter Try.func14, Try.ntmps14
    go_wp2_with fail
    go_ret3
    exact ⟨rfl, Below.refl _ _⟩
  · rw [if_neg hs] at h
    have t1 : decide ((65536 : Int) < (s.size : Int)) = false := decide_eq_false (by omega)
    have he := expand_call w.heap.size s (w.alloc (rdO s 0 ⟨0, 0, 0⟩)) (World.alloc_heap_new w _) (by omega)
    obtain ⟨⟨out, total, ok, at_⟩, hq⟩ : ∃ q, expandL (bytesOf s) = q := ⟨_, rfl⟩
    rw [hq] at he h
    simp only at h
    have HE := Aside0.mk he
    have HH := Aside0.mk h
    unfold rdO at HE
    simp only at HE
    clear he h hq
    go_enter Try.func14, Try.ntmps14
    go_wp2_with fail
    refine HE.out.mono ?_
    rintro e w1 ⟨v, rfl, hown, hrd, hos, htape, hout, hsz, hblk⟩
    simp only at hown hrd
    obtain ⟨A, cc, rfl⟩ := own_slice hown
    have hbel : Below w.heap.size w w1 := ⟨hos, htape, hout, by simp at hsz; omega, fun i hi => (hblk i (by simp; omega) (by omega)).trans (Below.heap_alloc _ _ _ hi)⟩
    have HBEL := Aside0.mk hbel
    have HOWN := Aside0.mk hown
    have HRD := Aside0.mk hrd
    clear hown hrd hos htape hout hsz hblk hbel
    cases ok with
    | false =>
      have hh := HH.out
      rw [if_pos rfl] at hh
      cases hh
      go_wp2_with fail
      go_ret3
      exact ⟨rfl, HBEL.out⟩
    | true =>
      have hh := HH.out
      rw [if_neg (by decide)] at hh
      by_cases hb : 65536 < total
      · rw [if_pos hb] at hh
        cases hh
        have t2 : decide ((65536 : Int) < (total : Int)) = true := decide_eq_true (by omega)
        go_wp2_with fail
        go_ret3
        exact ⟨rfl, HBEL.out⟩
      · rw [if_neg hb] at hh
        obtain ⟨rfl, h2⟩ := Prod.mk.inj hh
        obtain ⟨rfl, rfl⟩ := Prod.mk.inj h2
        have t2 : decide ((65536 : Int) < (total : Int)) = false := decide_eq_false (by omega)
        obtain ⟨j, r, hr, hra⟩ := HRD.out rfl
        subst hra
        have c2 : w1.cell? ⟨w.heap.size, 2, none⟩ = some (.int .i64 r.at_) := (blk_cell hr 2).trans (by simp)
        have hcv := own_string (src := 32) (dst := 9) Try.underlying32 Try.underlying5 Try.underlying9 (own_drew HOWN.out)
        clear hh h2 hr
        go_wp2_with fail
        go_region
        all_goals
          go_wp2_with fail
          go_ret3
          exact ⟨rfl, pw_below_drewN HBEL.out 1⟩
end Go.Proofs.Ytfkiacbjiledcaa.G06d
