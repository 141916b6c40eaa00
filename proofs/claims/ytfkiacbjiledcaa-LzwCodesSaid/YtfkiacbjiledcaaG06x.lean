/- lzw.Encode, walked (chapter 06). -/
import Derived.Test.YtfkiacbjiledcaaG06c
import Derived.Test.YtfkiacbjiledcaaM06m
import Derived.Maps.OwnOps
import Derived.StillTailTactics
import Derived.Deep.CutBlock
namespace Go.Proofs.Ytfkiacbjiledcaa.G06x
open Go.RowKit Go.Proofs.YtfkiacbjiledcaaW.PrintWords Go.Proofs.YtfkiacbjiledcaaW.PrintLast Go.Proofs.YtfkiacbjiledcaaW.PrintMore
open Go.Proofs.Ytfkiacbjiledcaa.K06 Go.Proofs.Ytfkiacbjiledcaa.G06 Go.Proofs.Ytfkiacbjiledcaa.M06 Go.Proofs.Ytfkiacbjiledcaa.G06w Go.Proofs.Ytfkiacbjiledcaa.M06m
open Go.Maps
set_option linter.unusedVariables false
set_option maxRecDepth 100000
/-- Below base all but block b are as they were. -/
structure Fb (b base : Nat) (W0 W : World) : Prop where
  os : W.os = W0.os
  tape : W.tape = W0.tape
  output : W.output = W0.output
  size : W0.heap.size ≤ W.heap.size
  block : ∀ i, i < base → i ≠ b → W.heap[i]? = W0.heap[i]?
theorem Fb.refl (b base : Nat) (W : World) : Fb b base W W := ⟨rfl, rfl, rfl, Nat.le_refl _, fun _ _ _ => rfl⟩
theorem Fb.mv {b base : Nat} {W0 A B : World} (h : Fb b base W0 A) (k : Mv base b b A B) : Fb b base W0 B :=
  ⟨k.os.trans h.os, k.tape.trans h.tape, k.output.trans h.output, Nat.le_trans h.size k.size, fun i h1 h2 => (k.block i h1 h2 h2).trans (h.block i h1 h2)⟩
theorem Fb.below {b base : Nat} {W0 A B : World} (h : Fb b base W0 A) (hB : base ≤ W0.heap.size) (k : Below A.heap.size A B) : Fb b base W0 B :=
  ⟨k.os.trans h.os, k.tape.trans h.tape, k.output.trans h.output, Nat.le_trans h.size k.size, fun i h1 h2 => (k.block i (by have := h.size; omega)).trans (h.block i h1 h2)⟩
theorem Fb.grown {b base : Nat} {W0 A B : World} (h : Fb b base W0 A) (hB : base ≤ W0.heap.size) {bm : Nat} (hg : A.grownBy B (some bm)) (hb : base ≤ bm) : Fb b base W0 B :=
  ⟨hg.os.trans h.os, hg.tape.trans h.tape, hg.output.trans h.output, Nat.le_trans h.size hg.size, fun i h1 h2 => (hg.block i (by have := h.size; omega) (fun e => by cases e; omega)).trans (h.block i h1 h2)⟩
theorem WS.below {W W' : World} {base b : Nat} {x : Wr} (h : WS W base b x) (hb : Below W.heap.size W W') : WS W' base b x := by
  obtain ⟨⟨v, h1, h2⟩, h3, h4⟩ := h
  exact ⟨⟨v, (hb.block b (by omega)).trans h1, pw_own_below h2 hb⟩, h3, Nat.le_trans h4 hb.size⟩
theorem WS.grownMap {W W' : World} {base b bm : Nat} {x : Wr} (h : WS W base b x) (hg : W.grownBy W' (some bm)) (hbm : base ≤ bm) (ho : ∃ o : Obj, W.heap[bm]? = some o ∧ o.isCells = false) : WS W' base b x := by
  obtain ⟨⟨v, h1, h2⟩, h3, h4⟩ := h
  refine ⟨⟨v, blk_grown h1 hg (fun e => by cases e; omega), own_other h2 hg ?_⟩, h3, Nat.le_trans h4 hg.size⟩
  cases hv : v.ownBlock with
  | none => exact .inl rfl
  | some k =>
    refine .inr fun e => ?_
    cases e
    obtain ⟨o, ho1, ho2⟩ := ho
    rw [own_cells h2 bm o hv ho1] at ho2
    cases ho2
/-- The map lies where it lay behind a call of the writer's. -/
theorem map_mv {base b bm n : Nat} {A B : World} {D : DataW Nat} (k : Mv base b b A B) (h : A.ownsMap Try.prog 58 (plainElem Try.prog 3) bm n D) : B.ownsMap Try.prog 58 (plainElem Try.prog 3) bm n D := by
  obtain ⟨o, ho, hc⟩ := own_obj h
  exact own_same h ((k.others.same bm o ho hc).trans ho.symm)
theorem map_below {bm n : Nat} {A B : World} {D : DataW Nat} (k : Below A.heap.size A B) (h : A.ownsMap Try.prog 58 (plainElem Try.prog 3) bm n D) : B.ownsMap Try.prog 58 (plainElem Try.prog 3) bm n D := by
  obtain ⟨o, ho, hc⟩ := own_obj h
  exact own_same h (k.block bm (Array.getElem?_eq_some_iff.1 ho).1)
/-- What the coder is about to write. -/
def Fin (l : List Int) (i : Nat) (x : Wr) (K : List (Nat × Int)) (T : List Int) : Prop := ∃ f, (l.drop i).length ≤ f ∧ closeW ((enc f x.j K (l.drop i)).foldl putW x) = T
theorem oct_at (s : ByteArray) (i : Nat) (hlt : i < s.size) : ∃ c : Nat, (bytesOf s).getD i 0 = (c : Int) ∧ c < 256 ∧ ∀ h, ((s[i]'h).toNat : Int) = c := by
  have h1 : i < (bytesOf s).length := by rw [bytesOf_len]; omega
  have h2 := bytesOf_range s _ (List.getElem_mem h1)
  have h3 : (bytesOf s).getD i 0 = (bytesOf s)[i] := by rw [List.getD_eq_getElem?_getD, List.getElem?_eq_getElem h1]; rfl
  refine ⟨((bytesOf s)[i]).toNat, by rw [h3]; omega, by omega, fun h => ?_⟩
  have h4 : (bytesOf s)[i] = ((s[i]'h).toNat : Int) := by
    have hml : i < s.data.toList.length := by rw [data_len]; exact hlt
    have h5 : (bytesOf s)[i] = ((s.data.toList[i]'hml).toNat : Int) := by simp only [bytesOf, List.getElem_map]
    rw [h5]
    rfl
  rw [← h4]; omega
theorem drop_at (s : ByteArray) (i : Nat) (hlt : i < s.size) : (bytesOf s).drop i = (bytesOf s).getD i 0 :: (bytesOf s).drop (i + 1) := by
  have h1 : i < (bytesOf s).length := by rw [bytesOf_len]; omega
  rw [List.drop_eq_getElem_cons h1, List.getD_eq_getElem?_getD, List.getElem?_eq_getElem h1]; rfl
theorem ext_none {K : List (Nat × Int)} {c : Nat} {y : Int} {r : List Int} (h : lookK K (c, y) = none) : ext K c (y :: r) = (c, y :: r) := by unfold ext; rw [h]
theorem ext_some {K : List (Nat × Int)} {c d : Nat} {y : Int} {r : List Int} (h : lookK K (c, y) = some d) : ext K c (y :: r) = ext K d r := by
  conv => lhs; unfold ext
  rw [h]
/-- A place where the walk stands still. -/
structure Brk (p : Prop) : Prop where
  out : p
theorem brkO {P : Program} {W : World} {ops : Array Oper} {rest : List Oper} {o : Oper} {a : Act} {Q : Exit → Act → World → Prop} {x : Op} (_ho : o.op = x) (h : Brk (wpList P ops Q (o :: rest) a W)) : wpList P ops Q (o :: rest) a W := h.out
theorem zeroE3 (w : World) : (zeroValue 3).run Try.prog w = .ok (.int .i64 0) w := by kernel_rfl
/-- What the coder is about to write behind a clear. -/
def Mid (l : List Int) (i : Nat) (x : Wr) (K : List (Nat × Int)) (T : List Int) : Prop :=
  ∃ f, (l.drop (i + 1)).length ≤ f ∧ closeW (((ext K (l.getD i 0).toNat (l.drop (i + 1))).1 :: enc f (x.j + 1) (addK K (ext K (l.getD i 0).toNat (l.drop (i + 1))).1 (ext K (l.getD i 0).toNat (l.drop (i + 1))).2) (ext K (l.getD i 0).toNat (l.drop (i + 1))).2).foldl putW x) = T
theorem fin_mid {l : List Int} {i : Nat} {x : Wr} {K : List (Nat × Int)} {T : List Int} (h : Fin l i x K T) (hi : i < l.length) : (x.j ≠ 3838 → Mid l i x K T) ∧ (x.j = 3838 → Mid l i (putW x 256) [] T) := by
  obtain ⟨f, hf, he⟩ := h
  have hd : l.drop i = l.getD i 0 :: l.drop (i + 1) := by rw [List.drop_eq_getElem_cons hi, List.getD_eq_getElem?_getD, List.getElem?_eq_getElem hi]; rfl
  rw [hd] at he hf
  cases f with
  | zero => simp at hf
  | succ f =>
    unfold enc at he
    refine ⟨fun hj => ?_, fun hj => ?_⟩
    · rw [if_neg hj] at he
      exact ⟨f, by simpa using hf, he⟩
    · rw [if_pos hj, List.foldl_cons] at he
      exact ⟨f, by simpa using hf, he⟩
theorem fin_end {l : List Int} {x : Wr} {K : List (Nat × Int)} {T : List Int} (h : Fin l l.length x K T) : closeW (putW x 257) = T := by
  obtain ⟨f, hf, he⟩ := h
  rw [List.drop_length] at he
  cases f <;> exact he
/-- What stands ahead of a code. -/
structure Pt (s : ByteArray) (b : Nat) (w : World) (T : List Int) (i bm n : Nat) (x : Wr) (K : List (Nat × Int)) (D : DataW Nat) (wr : World) : Prop where
  bmlo : b + 1 ≤ bm
  ws : WS wr (b + 1) b x
  ok : L06.Wok x
  map : wr.ownsMap Try.prog 58 (plainElem Try.prog 3) bm n D
  rep : MRep K D
  fb : Fb b (b + 1) (w.alloc (.cells #[.int .i64 0, .slice none 0 0, .int .u64 0, .int .i64 0] 53)) wr
set_option maxHeartbeats 4000000 in
theorem enc_walk (s : ByteArray) (w : World) (hs : s.size ≤ 65536) (T : List Int) (hT : encOut (bytesOf s) = T) (r1 : ByteArray) (r2 : Int) (hr : (if 65536 < T.length then ((⟨#[]⟩ : ByteArray), (3 : Int)) else (strOfNums T, 0)) = (r1, r2)) :
    Calls Try.prog 12 #[.string s] w fun e w' => e = .returned (.tuple #[.string r1, .int .i64 r2]) ∧ Below w.heap.size w w' := by
  have HT := Aside0.mk hT
  have HR := Aside0.mk hr
  clear hT hr
  obtain ⟨b, hb⟩ : ∃ b, w.heap.size = b := ⟨_, rfl⟩
  have t1 : decide ((65536 : Int) < (s.size : Int)) = false := decide_eq_false (by omega)
  have hws : WS (w.alloc (.cells #[.int .i64 0, .slice none 0 0, .int .u64 0, .int .i64 0] 53)) (b + 1) b W0 := ⟨⟨_, by rw [← hb]; exact World.alloc_heap_new w _, own_nil _ _ _ _⟩, by omega, by simp; omega⟩
  have HWS := Aside0.mk hws
  have HB := Aside0.mk hb
  clear hws
  have hmm := @run_makeMap Try.prog
  go_enter Try.func12, Try.ntmps12
  go_wp2_with fail
  refine (put_call (b + 1) b W0 256 _ HWS.out (by decide) (by decide) (by decide) (by decide) (by decide)).mono ?_
  rintro e w1 ⟨rfl, hmv1, hws1⟩
  have HF1 : Aside0 (Fb b (b + 1) (w.alloc (.cells #[.int .i64 0, .slice none 0 0, .int .u64 0, .int .i64 0] 53)) w1) := ⟨(Fb.refl _ _ _).mv hmv1⟩
  have HWS1 := Aside0.mk hws1
  have hok1 := L06.put_ok (w := W0) (c := 256) L06b.W0_ok (by decide) (by decide)
  have HOK1 := Aside0.mk hok1.1
  have HFIN1 : Aside0 (Fin (bytesOf s) 0 (putW W0 256) [] T) := ⟨(bytesOf s).length, by simp, by rw [← HT.out]; rfl⟩
  have HL1 : Aside0 ((putW W0 256).out.length ≤ 3) := ⟨by have := putW_len W0 256; exact this⟩
  have HJ1 : Aside0 ((putW W0 256).j = 0) := ⟨rfl⟩
  clear hmv1 hws1 hok1
  go_wp2_with fail
  obtain ⟨x1, hx1⟩ : ∃ x1, putW W0 256 = x1 := ⟨_, rfl⟩
  simp only [hx1] at HWS1 HOK1 HFIN1 HL1 HJ1
  have HF2 := Aside0.mk (HF1.out.below (by simp; omega) ((Below.refl _ w1).alloc (Nat.le_refl _) (.map #[] 0)))
  have HWS2 := Aside0.mk (WS.below HWS1.out ((Below.refl _ w1).alloc (Nat.le_refl _) (.map #[] 0)))
  have HMAP2 := Aside0.mk (World.ownsMap_made w1 Try.prog 58 (plainElem (H := Nat) Try.prog 3))
  clear hx1
  go_loopw [5, 6, 7, 8, 9] (fun v5 v6 v7 v8 v9 wr => ∃ (i bm n : Nat) (x : Wr) (K : List (Nat × Int)) (D : DataW Nat), v5 = .map (some bm) ∧ v6 = .int .i64 i ∧ i ≤ s.size ∧ n ≤ i ∧ Aside0 (b + 1 ≤ bm) ∧ Aside0 (WS wr (b + 1) b x) ∧ Aside0 (L06.Wok x) ∧ Aside0 (x.j ≤ 3838) ∧ Aside0 (x.out.length ≤ 6 * (i + 1)) ∧ Aside0 (K.length ≤ x.j ∧ (i < s.size → K.length = x.j)) ∧ Aside0 (wr.ownsMap Try.prog 58 (plainElem Try.prog 3) bm n D) ∧ Aside0 (MRep K D) ∧ Aside0 (Fin (bytesOf s) i x K T) ∧ Aside0 (Fb b (b + 1) (w.alloc (.cells #[.int .i64 0, .slice none 0 0, .int .u64 0, .int .i64 0] 53)) wr)) (fun _ v6 _ _ _ _ => s.size - (intOf v6).toNat)
  case atStart =>
    exact ⟨0, w1.heap.size, 0, x1, [], .map [], rfl, rfl, Nat.zero_le _, Nat.le_refl _, ⟨by have := HWS1.out.lb; omega⟩, HWS2, HOK1, ⟨by rw [HJ1.out]; omega⟩, ⟨by have := HL1.out; omega⟩, ⟨by simp, fun _ => by rw [HJ1.out]; rfl⟩, HMAP2, ⟨MRep.nil⟩, HFIN1, HF2⟩
  case round =>
    obtain ⟨i, bm, n, x, K, D, rfl, rfl, hi, hni, HBM, HWS, HOK, HXJ, HXL, HKL, HMAP, HREP, HFIN, HF⟩ := hrel
    clear HF1 HWS1 HOK1 HFIN1 HL1 HJ1 HF2 HWS2 HMAP2
    by_cases hlt : i < s.size
    · have tl : decide ((i : Int) < (s.size : Int)) = true := decide_eq_true (by omega)
      obtain ⟨v, hv, hvo⟩ := HWS.out.own
      have cj : wr.cell? ⟨b, 0, none⟩ = some (.int .i64 x.j) := (blk_cell hv 0).trans (by simp)
      clear hv hvo
      go_upto_if 27 with (fail)
      go_cut [5] (fun v5 wc => ∃ (bm' n' : Nat) (x' : Wr) (K' : List (Nat × Int)) (D' : DataW Nat), v5 = .map (some bm') ∧ n' ≤ i ∧ Aside0 (Pt s b w T i bm' n' x' K' D' wc) ∧ Aside0 (x'.j < 3838) ∧ Aside0 (x'.out.length ≤ 6 * (i + 1) + 3) ∧ Aside0 (K'.length = x'.j) ∧ Aside0 (Mid (bytesOf s) i x' K' T))
      case first =>
        by_cases hj : x.j = 3838
        · have tj : ((x.j : Int) == 3838) = true := by simp; omega
          go_wp2_with fail
          refine (put_call (b + 1) b x 256 _ HWS.out HXJ.out (wd_fits HXJ.out (by omega)) HOK.out.held HOK.out.bits (by have := HXL.out; omega)).mono ?_
          rintro e w2 ⟨rfl, hmv2, hws2⟩
          have hpl := putW_len x 256
          have HMV2 := Aside0.mk hmv2
          have HWS2 := Aside0.mk hws2
          have HPL := Aside0.mk hpl
          clear hmv2 hws2 hpl cj
          go_wp2_with fail
          go_meet
          have hb2 : Below w2.heap.size w2 (w2.alloc (.map #[] 0)) := (Below.refl _ w2).alloc (Nat.le_refl _) _
          refine ⟨w2.heap.size, 0, putW x 256, [], .map [], rfl, Nat.zero_le _, ⟨⟨by have := HWS2.out.lb; omega, WS.below HWS2.out hb2, (L06.put_ok HOK.out HXJ.out (by omega)).1, World.ownsMap_made w2 Try.prog 58 (plainElem (H := Nat) Try.prog 3), MRep.nil, (HF.out.mv HMV2.out).below (by simp; omega) hb2⟩⟩, ⟨by show nextJ x.j 256 < 3838; unfold nextJ; simp⟩, ⟨by have := HPL.out; have := HXL.out; omega⟩, ⟨by show 0 = nextJ x.j 256; unfold nextJ; simp⟩, ⟨(fin_mid HFIN.out (by rw [bytesOf_len]; exact hlt)).2 hj⟩⟩
        · have tj : ((x.j : Int) == 3838) = false := by simp; omega
          go_wp2_with fail
          go_meet
          exact ⟨bm, n, x, K, D, rfl, hni, ⟨⟨HBM.out, HWS.out, HOK.out, HMAP.out, HREP.out, HF.out⟩⟩, ⟨by have := HXJ.out; omega⟩, ⟨by have := HXL.out; omega⟩, ⟨HKL.out.2 hlt⟩, ⟨(fin_mid HFIN.out (by rw [bytesOf_len]; exact hlt)).1 hj⟩⟩
      case rest =>
        obtain ⟨bm', n', x', K', D', rfl, hn', HP, HXJ', HXL', HKL', HMID⟩ := hcut
        clear cj HBM HWS HOK HXJ HXL HKL HMAP HREP HFIN HF
        obtain ⟨c0, hc0, hc256, hcs⟩ := oct_at s i hlt
        have HC0 := Aside0.mk hc0
        have hii : (i : Int) < (s.size : Int) := by omega
        clear hc0
        go_upto_block 2 with (fail)
        go_cut [6, 7] (fun v6 v7 wx => ∃ (i2 c2 : Nat), v6 = .int .i64 i2 ∧ v7 = .int .i64 c2 ∧ i < i2 ∧ i2 ≤ s.size ∧ wx = wc ∧ Aside0 (ext K' c0 ((bytesOf s).drop (i + 1)) = (c2, (bytesOf s).drop i2)) ∧ Aside0 (L06b.Held K' c2))
        case first =>
          go_wp2_with fail
          go_loop [6, 7, 8, 9] (fun v6 v7 v8 v9 => ∃ (i2 c2 : Nat), v6 = .int .i64 i2 ∧ v7 = .int .i64 c2 ∧ i < i2 ∧ i2 ≤ s.size ∧ Aside0 (ext K' c0 ((bytesOf s).drop (i + 1)) = ext K' c2 ((bytesOf s).drop i2)) ∧ Aside0 (L06b.Held K' c2)) (fun v6 _ _ _ => s.size - (intOf v6).toNat)
          case atStart => exact ⟨i + 1, c0, by go_num, rfl, by omega, by omega, ⟨rfl⟩, ⟨.inl hc256⟩⟩
          case round =>
            obtain ⟨i2, c2, rfl, rfl, hi2, hi2s, HEX, HHE⟩ := hrel
            by_cases hlt2 : i2 < s.size
            · have tl2 : decide ((i2 : Int) < (s.size : Int)) = true := decide_eq_true (by omega)
              obtain ⟨y, hy, hy256, hys⟩ := oct_at s i2 hlt2
              have hi2i : (i2 : Int) < (s.size : Int) := by omega
              have HY := Aside0.mk hy
              have HDR := Aside0.mk (drop_at s i2 hlt2)
              clear hy hcs
              go_wp2_with (with_reducible refine brkO (x := .lookup 55 (.tmp 44) (.tmp 49) true) rfl ?_)
              refine ⟨?_⟩
              have hc2 : c2 ≤ 1000000 := by
                have := HKL'.out; have := HXJ'.out
                rcases HHE.out with h | ⟨_, h⟩ <;> omega
              have hwf : Wfp (c2, (y : Int)) := ⟨by simp only; omega, by simp only; omega, by simp only; omega⟩
              have hkey := key_ok hwf
              have HEX2 := HEX.out
              rw [HDR.out, HY.out] at HEX2
              refine wpList_lookup_own_ok_int _ rfl (.tmp 44) (.tmp 49) 55 rfl 58 3 .i64 keyed58 Try.underlying55 Try.underlying3 (zeroE3 _) bm' n' D' rfl HP.out.map (pv (c2, (y : Int))) _ rfl hkey ?_
              intro c hat hwc
              cases hl : lookK K' (c2, (y : Int)) with
              | none =>
                rw [HP.out.rep.none_ _ hwf hl]
                rw [ext_none hl] at HEX2
                have HEX3 := Aside0.mk HEX2
                have HLK := Aside0.mk hl
                clear hat hwc HEX2 hl hkey hwf
                go_wp2_with fail
                go_meet
                exact ⟨i2, c2, rfl, rfl, hi2, hi2s, rfl, ⟨by rw [HEX3.out, HDR.out, HY.out]⟩, HHE⟩
              | some d =>
                obtain ⟨hh1, hh2⟩ := HP.out.rep.some_ _ _ hwf hl
                rw [hh1]
                rw [ext_some hl] at HEX2
                have hcd : c = (d : Int) := by
                  have := (hh2 (.lit (.int .i64 0))).symm.trans hat
                  injection this with this
                  injection this with _ this
                  exact this.symm
                subst hcd
                have hhe := L06b.lookK_some hl
                have HHE2 : Aside0 (L06b.Held K' d) := ⟨.inr ⟨hhe.1, (List.getElem?_eq_some_iff.1 hhe.2).1⟩⟩
                have HEX3 := Aside0.mk HEX2
                clear hat hwc HEX2 hl hkey hwf hh1 hh2 hhe
                go_wp2_with fail
                go_round
                case measure => simp [intOf]; omega
                case rel => exact ⟨i2 + 1, d, by go_num, rfl, by omega, by omega, HEX3, HHE2⟩
            · have tl2 : decide ((i2 : Int) < (s.size : Int)) = false := decide_eq_false (by omega)
              obtain rfl : i2 = s.size := by omega
              go_wp2_with fail
              go_meet
              exact ⟨s.size, c2, rfl, rfl, hi2, hi2s, rfl, ⟨by rw [HEX.out, List.drop_of_length_le (by rw [bytesOf_len]; exact Nat.le_refl _)]; rfl⟩, HHE⟩
        case rest =>
          obtain ⟨i2, c2, rfl, rfl, hi2, hi2s, rfl, HEX, HHE⟩ := hcut
          have hc2 : c2 ≤ 257 + x'.j := by
            have := HKL'.out
            rcases HHE.out with h | ⟨_, h⟩ <;> omega
          have hMid := HMID.out
          have hj38 : x'.j ≤ 3838 := by have := HXJ'.out; omega
          have HMID2 : Aside0 (∃ f, ((bytesOf s).drop i2).length ≤ f ∧ closeW ((enc f (x'.j + 1) (addK K' c2 ((bytesOf s).drop i2)) ((bytesOf s).drop i2)).foldl putW (putW x' c2)) = T) := ⟨by
            obtain ⟨f, hf, he⟩ := HMID.out
            rw [HC0.out, Int.toNat_natCast, HEX.out] at he
            exact ⟨f, by rw [List.length_drop] at hf ⊢; omega, he⟩⟩
          have hok2 := L06.put_ok HP.out.ok hj38 hc2
          have HOK2 := Aside0.mk hok2.1
          have hne6 : c2 ≠ 256 := by
            rcases HHE.out with h | ⟨h, _⟩ <;> omega
          have HJ2 : Aside0 ((putW x' c2).j = x'.j + 1) := ⟨by show nextJ x'.j c2 = _; unfold nextJ; rw [if_neg hne6]⟩
          have hpl := putW_len x' c2
          have HPL := Aside0.mk hpl
          have HC2 := Aside0.mk hc2
          clear hMid hok2 hpl hne6
          go_wp2_with fail
          refine (put_call (b + 1) b x' c2 _ HP.out.ws hj38 (wd_fits hj38 HC2.out) HP.out.ok.held HP.out.ok.bits (by have := HXL'.out; omega)).mono ?_
          rintro e w2 ⟨rfl, hmv2, hws2⟩
          have HMV2 := Aside0.mk hmv2
          have HWS2 := Aside0.mk hws2
          clear hmv2 hws2
          by_cases hlt2 : i2 < s.size
          · have tl2 : decide ((i2 : Int) < (s.size : Int)) = true := decide_eq_true (by omega)
            obtain ⟨y, hy, hy256, hys⟩ := oct_at s i2 hlt2
            have hi2i : (i2 : Int) < (s.size : Int) := by omega
            have hdr := drop_at s i2 hlt2
            rw [hy] at hdr
            have hlk : lookK K' (c2, (y : Int)) = none := by
              have h1 := ext_stop K' ((bytesOf s).drop (i + 1)) c0 (y : Int) ((bytesOf s).drop (i2 + 1))
              rw [HEX.out] at h1
              exact h1 hdr
            obtain ⟨v, hv, hvo⟩ := HWS2.out.own
            rw [HJ2.out] at hv
            have cj : w2.cell? ⟨b, 0, none⟩ = some (.int .i64 ((x'.j : Int) + 1)) := (blk_cell hv 0).trans (by simp)
            have hxj : (x'.j : Int) ≤ 3838 := by omega
            have HLK := Aside0.mk hlk
            have HDR := Aside0.mk hdr
            clear hy hdr hlk hv hvo hcs
            go_wp2_with fail
            go_still_tail 13, (by kernel_rfl)
            change wpList _ _ _ _ _ w2.drew
            obtain ⟨w3, hw3⟩ : ∃ w3, w2.drew = w3 := ⟨_, rfl⟩
            have hb3 : Below w2.heap.size w2 w3 := by rw [← hw3]; exact (Below.refl _ _).drew
            have HWS3 := Aside0.mk (WS.below HWS2.out hb3)
            have HMAP3 := Aside0.mk (map_below hb3 (map_mv HMV2.out HP.out.map))
            have HFB3 := Aside0.mk ((HP.out.fb.mv HMV2.out).below (by simp; omega) hb3)
            rw [hw3]
            clear hw3 hb3 cj
            have hwf : Wfp (c2, (y : Int)) := ⟨by have := HC2.out; simp only; omega, by simp only; omega, by simp only; omega⟩
            refine wpList_mapUpdate_own w3 rfl (.tmp 63) (.tmp 68) (.tmp 75) 55 rfl 58 3 keyed58 Try.underlying55 (plainElem Try.prog 3) bm' n' D' rfl HMAP3.out (by unfold maxLen; omega) (pv (c2, (y : Int))) (.int .i64 ((258 + x'.j : Nat) : Int)) _ rfl ?hv (key_ok hwf) _ [] (plainElem_int Try.underlying3 (wf64 _ (by omega) (by have := HXJ'.out; omega))) ?_
            case hv =>
              show Value.int .i64 (IntKind.i64.wrap (IntKind.i64.wrap (258 + ((x'.j : Int) + 1)) - 1)) = _
              rw [IntWalk.i64_in (258 + ((x'.j : Int) + 1)) (by omega), IntWalk.i64_in _ (by omega)]
              congr 1
              omega
            intro w4 hmap4 hg4
            have hrep4 := HP.out.rep.put hwf HLK.out
            rw [HKL'.out] at hrep4
            have HREP4 := Aside0.mk hrep4
            have HMAP4 := Aside0.mk hmap4
            have HWS4 := Aside0.mk (WS.grownMap HWS3.out hg4 HP.out.bmlo (own_obj HMAP3.out))
            have HFB4 := Aside0.mk (HFB3.out.grown (by simp; omega) hg4 HP.out.bmlo)
            clear hrep4 hmap4 hg4 hwf
            simp only [Act.put]
            go_wp2_with fail
            go_roundw
            case measure => simp [intOf]; omega
            case rel =>
              refine ⟨i2, bm', n' + 1, putW x' c2, K' ++ [(c2, (y : Int))], _, rfl, rfl, hi2s, by omega, ⟨HP.out.bmlo⟩, HWS4, HOK2, ⟨by rw [HJ2.out]; have := HXJ'.out; omega⟩, ⟨by have := HPL.out; have := HXL'.out; omega⟩, ⟨?_, ?_⟩, HMAP4, HREP4, ⟨?_⟩, HFB4⟩
              · rw [HJ2.out, List.length_append, List.length_singleton, HKL'.out]; exact Nat.le_refl _
              · intro _; rw [HJ2.out, List.length_append, List.length_singleton, HKL'.out]
              · obtain ⟨f, hf, he⟩ := HMID2.out
                refine ⟨f, hf, ?_⟩
                rw [HJ2.out]
                have ha : addK K' c2 ((bytesOf s).drop i2) = K' ++ [(c2, (y : Int))] := by rw [HDR.out]; rfl
                rw [ha] at he
                exact he
          · have tl2 : decide ((i2 : Int) < (s.size : Int)) = false := decide_eq_false (by omega)
            obtain rfl : i2 = s.size := by omega
            go_wp2_with fail
            go_roundw
            case measure => simp [intOf]; omega
            case rel =>
              refine ⟨s.size, bm', n', putW x' c2, K', D', rfl, rfl, Nat.le_refl _, by omega, ⟨HP.out.bmlo⟩, HWS2, HOK2, ⟨by rw [HJ2.out]; have := HXJ'.out; omega⟩, ⟨by have := HPL.out; have := HXL'.out; omega⟩, ⟨?_, fun h => absurd h (Nat.lt_irrefl _)⟩, ⟨map_mv HMV2.out HP.out.map⟩, ⟨HP.out.rep⟩, ⟨?_⟩, ⟨HP.out.fb.mv HMV2.out⟩⟩
              · rw [HJ2.out, HKL'.out]; omega
              · obtain ⟨f, hf, he⟩ := HMID2.out
                refine ⟨f, hf, ?_⟩
                rw [HJ2.out]
                have hd : (bytesOf s).drop s.size = [] := List.drop_of_length_le (by rw [bytesOf_len]; exact Nat.le_refl _)
                rw [hd] at he ⊢
                exact he
    · have tl : decide ((i : Int) < (s.size : Int)) = false := decide_eq_false (by omega)
      obtain rfl : i = s.size := by omega
      have hfin := HFIN.out
      rw [← bytesOf_len s] at hfin
      have HEND := Aside0.mk (fin_end hfin)
      have hok3 := L06.put_ok HOK.out HXJ.out (c := 257) (by omega)
      have HOK3 := Aside0.mk hok3.1
      have hpl := putW_len x 257
      have HPL := Aside0.mk hpl
      clear hfin hok3 hpl
      go_wp2_with fail
      refine (put_call (b + 1) b x 257 _ HWS.out HXJ.out (wd_fits HXJ.out (by omega)) HOK.out.held HOK.out.bits (by have := HXL.out; omega)).mono ?_
      rintro e w2 ⟨rfl, hmv2, hws2⟩
      have HMV2 := Aside0.mk hmv2
      have HWS2 := Aside0.mk hws2
      clear hmv2 hws2
      go_wp2_with fail
      refine (G06c.close_call (b + 1) b (putW x 257) _ HWS2.out HOK3.out.held HOK3.out.bits (by have := HPL.out; have := HXL.out; omega)).mono ?_
      rintro e w3 ⟨rfl, hmv3, v, hv, hvo⟩
      rw [HEND.out] at hvo
      obtain ⟨A, cc, rfl⟩ := own_slice hvo
      have cv : w3.cell? ⟨b, 1, none⟩ = some (.slice A T.length cc) := (blk_cell hv 1).trans (by simp)
      have hcv := own_string (src := 32) (dst := 9) Try.underlying32 Try.underlying5 Try.underlying9 hvo
      have HFE := Aside0.mk ((HF.out.mv HMV2.out).mv hmv3)
      clear hv hvo hmv3
      have hbel : Aside0 (Below w.heap.size w w3) := ⟨⟨HFE.out.os, HFE.out.tape, HFE.out.output, by have := HFE.out.size; simp at this; omega, fun i hi => (HFE.out.block i (by omega) (by omega)).trans (Below.heap_alloc _ _ _ hi)⟩⟩
      have hr := HR.out
      by_cases hbig : 65536 < T.length
      · rw [if_pos hbig] at hr
        cases hr
        have tb : decide ((65536 : Int) < (T.length : Int)) = true := decide_eq_true (by omega)
        go_wp2_with fail
        go_ret2
        exact ⟨rfl, hbel.out⟩
      · rw [if_neg hbig] at hr
        obtain ⟨rfl, rfl⟩ := Prod.mk.inj hr
        have tb : decide ((65536 : Int) < (T.length : Int)) = false := decide_eq_false (by omega)
        clear hr
        go_wp2_with fail
        go_ret2
        exact ⟨rfl, hbel.out⟩
set_option maxHeartbeats 1000000 in
theorem enc_call (s r1 : ByteArray) (r2 : Int) (w : World) (h : encRes s = (r1, r2)) :
    Calls Try.prog 12 #[.string s] w fun e w' => e = .returned (.tuple #[.string r1, .int .i64 r2]) ∧ Below w.heap.size w w' := by
  unfold encRes at h
  by_cases hs : 65536 < s.size
  · rw [if_pos hs] at h
    cases h
    have t1 : decide ((65536 : Int) < (s.size : Int)) = true := decide_eq_true (by omega)
    go_enter Try.func12, Try.ntmps12
    go_wp2_with fail
    go_ret2
    exact ⟨rfl, Below.refl _ _⟩
  · rw [if_neg hs] at h
    exact enc_walk s w (by omega) _ rfl r1 r2 h
end Go.Proofs.Ytfkiacbjiledcaa.G06x
