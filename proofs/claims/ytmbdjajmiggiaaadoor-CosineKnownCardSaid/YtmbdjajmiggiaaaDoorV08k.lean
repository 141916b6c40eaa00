/- CosineKnown: the examples, the limits and the order of errors (chapter 08). -/
import Derived.Test.YtmbdjajmiggiaaaDoorV08w
import Derived.Test.YtmbdjajmiggiaaaDoorShelf
namespace Go.Proofs.YtmbdjajmiggiaaaDoor.V08k
open Go.Proofs.YtmbdjajmiggiaaaDoor.K08 Go.Proofs.YtmbdjajmiggiaaaDoor.G08 Go.Proofs.YtmbdjajmiggiaaaDoor.G08f Go.Proofs.YtmbdjajmiggiaaaDoor.L08 Go.Proofs.YtmbdjajmiggiaaaDoor.E08 Go.Proofs.YtmbdjajmiggiaaaDoor.N08 Go.Proofs.YtmbdjajmiggiaaaDoor.R08 Go.Proofs.YtmbdjajmiggiaaaDoor.R08b Go.Proofs.YtmbdjajmiggiaaaDoor.V08 Go.Proofs.YtmbdjajmiggiaaaDoor.D08 Go.Proofs.YtmbdjajmiggiaaaDoor.L08n Go.Proofs.YtmbdjajmiggiaaaDoor.V08w
open Go.RowKit Go.Proofs.YtmbdjajmiggiaaaDoorW.PrintWords Go.Proofs.YtmbdjajmiggiaaaDoorW.PrintLast Go.Proofs.YtmbdjajmiggiaaaDoorW.PrintMore
set_option linter.unusedVariables false
set_option linter.unusedSimpArgs false
set_option maxRecDepth 100000
/-! ### Repeated strings -/
def rep (s : ByteArray) (n : Nat) : ByteArray := ⟨(Lib.repeatL s.data.toList n).toArray⟩
theorem rep_size (s : ByteArray) (n : Nat) : (rep s n).size = n * s.size := by
  show (Lib.repeatL s.data.toList n).toArray.size = _
  rw [List.size_toArray, Lib.repeatL_length]
  rfl
theorem rep_succ (s : ByteArray) (n : Nat) : bytesOf (rep s (n + 1)) = bytesOf s ++ bytesOf (rep s n) := by
  unfold bytesOf rep
  simp [Lib.repeatL]
theorem rep_oct {s : ByteArray} {c : Int} (hs : bytesOf s = [c]) (n : Nat) : bytesOf (rep s n) = List.replicate n c := by
  induction n with
  | zero => rfl
  | succ n ih => rw [rep_succ, ih, List.replicate_succ, hs]; rfl
theorem rep_call (s : ByteArray) (c : Nat) (w : World) (hlen : s.size * c ≤ 100000000) (hc : c ≤ 1000000) :
    Calls Tryd.prog 28 #[.string s, .int .i64 c] w fun e w' => e = .returned (.string (rep s c)) ∧ Below w.heap.size w w' :=
  Tryd.strings_Repeat s c w (by omega) (by omega)
/-! ### A flat picture -/
theorem flat_block (s : ByteArray) (w h : Nat) (hw : 1 ≤ w) (hh : 1 ≤ h) (hs : s.size = w * h) (hf : ∀ i, i < w * h → bAt s i = 128) (i j : Nat) : encB s w h i j = z64 := by
  unfold encB
  have : ∀ k ∈ List.range 64, bAt s (w * min (8 * i + k / 8) (h - 1) + min (8 * j + k % 8) (w - 1)) - 128 = 0 := fun k _ => by
    rw [hf _ (at_lt (by omega) (by omega))]
    rfl
  rw [List.map_congr_left this]
  rfl
theorem flat_code1 : codeL z64 1 = [64] := by decide +kernel
theorem flat_code2 : codeL z64 255 = [64] := by decide +kernel
theorem flat_inv : invL z64 = z64 := by decide +kernel
theorem flatMap_one {α : Type} (l : List α) (f : α → List Int) (n : Nat) (h : ∀ x ∈ l, f x = List.replicate n 64) : l.flatMap f = List.replicate (n * l.length) 64 := by
  induction l with
  | nil => simp
  | cons a l ih => rw [List.flatMap_cons, h a List.mem_cons_self, ih (fun x hx => h x (List.mem_cons_of_mem _ hx)), List.replicate_append_replicate, List.length_cons]; congr 1; rw [Nat.mul_add]; omega
theorem flat_enc (s : ByteArray) (w h : Nat) (q : Int) (hq : codeL z64 q = [64]) (hb : ∀ i j, encB s w h i j = z64) (m : Nat) : encAll s w h q m = List.replicate (nb w * m) 64 := by
  unfold encAll
  rw [flatMap_one _ _ (nb w) fun i _ => ?_, List.length_range]
  unfold encRow
  rw [flatMap_one _ _ 1 fun j _ => ?_, List.length_range, Nat.one_mul]
  rw [hb, hq]
  rfl
theorem flat_rd (q : Int) (l : List Int) : rdBlk q 65 0 z64 (64 :: l) = some (z64, l) := rfl
theorem flat_row {w h : Nat} (q : Int) (s : ByteArray) (i : Nat) (hb : ∀ i j, encB s w h i j = z64) (o : List Int) (ho : Near w h 0 s i 0 0 o) : ∀ (j : Nat) (l : List Int),
    ∃ o', decRow w h q i j (o, List.replicate j 64 ++ l) = some (o', l) ∧ Near w h 0 s i j 0 o'
  | 0, l => ⟨o, rfl, ho⟩
  | j + 1, l => by
    obtain ⟨o1, e1, h1⟩ := flat_row q s i hb o ho j (64 :: l)
    refine ⟨putN w h i j z64 o1 64, ?_, near_row (near_put (Int.le_refl _) _ (fun k hk => ?_) o1 h1 64 (Nat.le_refl _))⟩
    · unfold decRow
      rw [List.replicate_succ', List.append_assoc]
      rw [show [64] ++ l = 64 :: l from rfl, e1]
      show stepD w h q i j (o1, 64 :: l) = _
      unfold stepD
      rw [flat_rd]
      simp only [stepR, flat_inv]
    · rw [hb]; omega
theorem flat_all {w h : Nat} (q : Int) (s : ByteArray) (hb : ∀ i j, encB s w h i j = z64) (o : List Int) (ho : Near w h 0 s 0 0 0 o) : ∀ (i : Nat) (l : List Int),
    ∃ o', decAll w h q i (o, List.replicate (nb w * i) 64 ++ l) = some (o', l) ∧ Near w h 0 s i 0 0 o'
  | 0, l => ⟨o, by simp [decAll], ho⟩
  | i + 1, l => by
    obtain ⟨o1, e1, h1⟩ := flat_all q s hb o ho i (List.replicate (nb w) 64 ++ l)
    obtain ⟨o2, e2, h2⟩ := flat_row q s i hb o1 h1 (nb w) l
    refine ⟨o2, ?_, near_next h2⟩
    unfold decAll
    rw [Nat.mul_add, Nat.mul_one, ← List.replicate_append_replicate, List.append_assoc, e1]
    exact e2
theorem rep_at (n i : Nat) (hi : i < n) : bAt (rep ⟨#[128]⟩ n) i = 128 := by
  unfold bAt
  rw [rep_oct (c := 128) rfl, List.getD_eq_getElem?_getD, List.getElem?_replicate, if_pos hi]
  rfl
theorem big_enc : encRes (rep ⟨#[128]⟩ 16384) 128 128 1 = (rep ⟨#[64]⟩ 256, 0) := by
  have hs : (rep ⟨#[128]⟩ 16384).size = 16384 := by rw [rep_size]; rfl
  have hb := flat_block (rep ⟨#[128]⟩ 16384) 128 128 (by decide) (by decide) hs (fun i hi => rep_at _ i hi)
  have he := flat_enc _ 128 128 1 flat_code1 hb (nb 128)
  unfold encRes
  rw [sizes_zero _ _ _ _ (by omega) (by omega) (by omega) (by omega) (by omega) (by omega) (by omega), if_neg (by simp), if_neg (by rw [hs]; simp)]
  show (if (encAll (rep ⟨#[128]⟩ 16384) 128 128 1 (nb 128)).length > 65536 then ((⟨#[]⟩ : ByteArray), (3 : Int)) else (strOfNums (encAll (rep ⟨#[128]⟩ 16384) 128 128 1 (nb 128)), 0)) = _
  rw [he, if_neg (by rw [List.length_replicate]; decide)]
  have : strOfNums (List.replicate (nb 128 * nb 128) (64 : Int)) = rep ⟨#[64]⟩ 256 := bytesOf_inj (by
    rw [bytesOf_strOf _ (fun b hb => by rw [List.eq_of_mem_replicate hb]; omega), rep_oct (c := 64) rfl]
    rfl)
  rw [this]
theorem big_dec : decRes (rep ⟨#[64]⟩ 256) 128 128 255 = (rep ⟨#[128]⟩ 16384, 256, 0) := by
  have hs : (rep ⟨#[128]⟩ 16384).size = 16384 := by rw [rep_size]; rfl
  have hs2 : (rep ⟨#[64]⟩ 256).size = 256 := by rw [rep_size]; rfl
  have hb := flat_block (rep ⟨#[128]⟩ 16384) 128 128 (by decide) (by decide) hs (fun i hi => rep_at _ i hi)
  obtain ⟨o, e, ho⟩ := flat_all 255 _ hb _ (near_zero 128 128 0 (rep ⟨#[128]⟩ 16384)) (nb 128) []
  have hnear : ∀ i, i < 16384 → o.getD i 0 = 128 := fun i hi => by
    have h1 : i / 128 < 128 := by omega
    have h2 : i % 128 < 128 := by omega
    have h3 := ho.2 (i / 128) (i % 128) h1 h2 (by unfold nb; omega)
    rw [Nat.div_add_mod, rep_at _ _ hi] at h3
    omega
  have hol : o.length = 16384 := ho.1
  have hoo : ∀ d ∈ o, d = 128 := fun d hd => by
    obtain ⟨k, hk, rfl⟩ := List.getElem_of_mem hd
    have := hnear k (by omega)
    rw [List.getD_eq_getElem?_getD, List.getElem?_eq_getElem hk] at this
    exact this
  have hso : strOfNums o = rep ⟨#[128]⟩ 16384 := bytesOf_inj (by
    rw [bytesOf_strOf o (fun b hb => by rw [hoo b hb]; omega), rep_oct (c := 128) rfl]
    exact List.eq_replicate_iff.2 ⟨hol, hoo⟩)
  unfold decRes
  rw [sizes_zero _ _ _ _ (by omega) (by omega) (by omega) (by omega) (by omega) (by omega) (by omega), if_neg (by simp)]
  show (match decAll 128 128 255 (nb 128) (List.replicate (128 * 128) 0, bytesOf (rep ⟨#[64]⟩ 256)) with | none => ((⟨#[]⟩ : ByteArray), (0 : Int), (5 : Int)) | some (o, l) => (strOfNums o, ((rep ⟨#[64]⟩ 256).size : Int) - l.length, 0)) = _
  rw [rep_oct (c := 64) rfl]
  rw [List.append_nil] at e
  rw [show (256 : Nat) = nb 128 * nb 128 from rfl, e]
  simp only
  rw [hso]
  rw [show nb 128 * nb 128 = 256 from rfl, hs2]
  rfl
/-! ### The small examples -/
theorem k1 : encRes ⟨#[97]⟩ 1 1 256 = (⟨#[]⟩, 2) := by decide +kernel
theorem k2 : encRes ⟨#[97]⟩ 129 1 1 = (⟨#[]⟩, 2) := by decide +kernel
theorem k3 : encRes ⟨#[97, 98]⟩ 1 1 1 = (⟨#[]⟩, 180) := by decide +kernel
theorem k4 : decRes ⟨#[]⟩ 0 1 1 = (⟨#[]⟩, 0, 2) := by decide +kernel
theorem k5 : encRes ⟨#[255]⟩ 1 1 255 = (⟨#[0, 64, 64]⟩, 0) := by decide +kernel
theorem k6 : decRes ⟨#[0, 64, 64]⟩ 1 1 255 = (⟨#[255]⟩, 3, 0) := by decide +kernel
theorem k7 : encRes ⟨#[0]⟩ 1 1 255 = (⟨#[0, 63, 64]⟩, 0) := by decide +kernel
theorem k8 : decRes ⟨#[0, 63, 64]⟩ 1 1 255 = (⟨#[1]⟩, 3, 0) := by decide +kernel
theorem b1 : decRes ⟨#[65, 2, 64]⟩ 1 1 1 = (⟨#[]⟩, 0, 5) := by decide +kernel
theorem b2 : decRes ⟨#[63, 2, 0, 2, 64]⟩ 1 1 1 = (⟨#[]⟩, 0, 5) := by decide +kernel
theorem b3 : decRes ⟨#[0, 128, 128, 128, 1, 64]⟩ 1 1 1 = (⟨#[]⟩, 0, 5) := by decide +kernel
theorem b4 : decRes ⟨#[0, 128, 0, 64]⟩ 1 1 1 = (⟨#[]⟩, 0, 5) := by decide +kernel
theorem b5 : decRes ⟨#[0, 2]⟩ 1 1 1 = (⟨#[]⟩, 0, 5) := by decide +kernel
theorem b6 : decRes ⟨#[]⟩ 1 1 1 = (⟨#[]⟩, 0, 5) := by decide +kernel
set_option maxHeartbeats 4000000 in
theorem known_walk (w0 : World) (hm : Mat w0) : Calls Tryd.prog 11 #[] w0 fun e w' => e = .returned (.bool true) ∧ Below w0.heap.size w0 w' := by
  have HM := Aside0.mk hm
  have HEN := Aside0.mk (fun (t : ByteArray) (ht : t.size ≤ 140737488355328) (a b c : Int) W hM => encode_call t a b c ht W hM)
  have HDC := Aside0.mk (fun (t : ByteArray) (ht : t.size ≤ 140737488355328) (a b c : Int) W hM => decode_call t a b c ht W hM)
  have R1 := Aside0.mk (fun W => rep_call ⟨#[97]⟩ 65537 W (by show 1 * 65537 ≤ _; decide) (by decide))
  have R2 := Aside0.mk (fun W => rep_call ⟨#[128]⟩ 16384 W (by show 1 * 16384 ≤ _; decide) (by decide))
  have R3 := Aside0.mk (fun W => rep_call ⟨#[64]⟩ 256 W (by show 1 * 256 ≤ _; decide) (by decide))
  have z1 : (rep ⟨#[97]⟩ 65537).size = 65537 := rep_size _ _
  have z2 : (rep ⟨#[128]⟩ 16384).size = 16384 := rep_size _ _
  have z3 : (rep ⟨#[64]⟩ 256).size = 256 := rep_size _ _
  have e1 : encRes (rep ⟨#[97]⟩ 65537) 0 0 0 = (⟨#[]⟩, 3) := by
    have : sizes (rep ⟨#[97]⟩ 65537).size 0 0 0 = 3 := by unfold sizes; rw [if_pos (by omega)]
    unfold encRes
    rw [this]
    rfl
  have e2 := big_enc
  have d2 := big_dec
  obtain ⟨A, hA⟩ : ∃ A, rep ⟨#[97]⟩ 65537 = A := ⟨_, rfl⟩
  obtain ⟨B, hB⟩ : ∃ B, rep ⟨#[128]⟩ 16384 = B := ⟨_, rfl⟩
  obtain ⟨C, hC⟩ : ∃ C, rep ⟨#[64]⟩ 256 = C := ⟨_, rfl⟩
  simp only [hA] at R1
  simp only [hB] at R2
  simp only [hC] at R3
  rw [hA] at e1 z1
  rw [hB, hC] at e2 d2
  rw [hB] at z2
  rw [hC] at z3
  have E1 := Aside0.mk e1
  have E2 := Aside0.mk e2
  have D2 := Aside0.mk d2
  have ZA : Aside0 (A.size ≤ 140737488355328) := ⟨by omega⟩
  have ZB : Aside0 (B.size ≤ 140737488355328) := ⟨by omega⟩
  have ZC : Aside0 (C.size ≤ 140737488355328) := ⟨by omega⟩
  clear z1 z2 z3 e1 e2 d2 hA hB hC hm
  go_enter Tryd.func11, Tryd.ntmps11
  go_wp2_with fail
  refine (works_call _ HM.out).mono ?_
  rintro e w1 ⟨rfl, hb⟩
  have HB1 := Aside0.mk hb
  clear hb
  go_wp2_with fail
  refine (R1.out _).mono ?_
  rintro e w2 ⟨rfl, hb⟩
  have HB2 := Aside0.mk (below_step HB1.out hb)
  clear hb HB1
  go_wp2_with fail
  refine (HEN.out A ZA.out 0 0 0 _ (HM.out.below HB2.out)).mono ?_
  rintro e w3 ⟨rfl, hb⟩
  rw [E1.out]
  have HB3 := Aside0.mk (below_step HB2.out hb)
  clear hb HB2
  go_wp2_with fail
  refine (HEN.out ⟨#[97]⟩ (by decide) 1 1 256 _ (HM.out.below HB3.out)).mono ?_
  rintro e w4 ⟨rfl, hb⟩
  rw [k1]
  have HB4 := Aside0.mk (below_step HB3.out hb)
  clear hb HB3
  go_wp2_with fail
  refine (HEN.out ⟨#[97]⟩ (by decide) 129 1 1 _ (HM.out.below HB4.out)).mono ?_
  rintro e w5 ⟨rfl, hb⟩
  rw [k2]
  have HB5 := Aside0.mk (below_step HB4.out hb)
  clear hb HB4
  go_wp2_with fail
  refine (HEN.out ⟨#[97, 98]⟩ (by decide) 1 1 1 _ (HM.out.below HB5.out)).mono ?_
  rintro e w6 ⟨rfl, hb⟩
  rw [k3]
  have HB6 := Aside0.mk (below_step HB5.out hb)
  clear hb HB5
  go_wp2_with fail
  refine (HDC.out ⟨#[]⟩ (by decide) 0 1 1 _ (HM.out.below HB6.out)).mono ?_
  rintro e w7 ⟨rfl, hb⟩
  rw [k4]
  have HB7 := Aside0.mk (below_step HB6.out hb)
  clear hb HB6
  go_wp2_with fail
  refine (R2.out _).mono ?_
  rintro e w8 ⟨rfl, hb⟩
  have HB8 := Aside0.mk (below_step HB7.out hb)
  clear hb HB7
  go_wp2_with fail
  refine (HEN.out B ZB.out 128 128 1 _ (HM.out.below HB8.out)).mono ?_
  rintro e w9 ⟨rfl, hb⟩
  rw [E2.out]
  have HB9 := Aside0.mk (below_step HB8.out hb)
  clear hb HB8
  go_wp2_with fail
  refine (HDC.out C ZC.out 128 128 255 _ (HM.out.below HB9.out)).mono ?_
  rintro e w10 ⟨rfl, hb⟩
  rw [D2.out]
  have HB10 := Aside0.mk (below_step HB9.out hb)
  clear hb HB9
  go_wp2_with fail
  refine (HEN.out ⟨#[255]⟩ (by decide) 1 1 255 _ (HM.out.below HB10.out)).mono ?_
  rintro e w11 ⟨rfl, hb⟩
  rw [k5]
  have HB11 := Aside0.mk (below_step HB10.out hb)
  clear hb HB10
  go_wp2_with fail
  refine (HDC.out ⟨#[0, 64, 64]⟩ (by decide) 1 1 255 _ (HM.out.below HB11.out)).mono ?_
  rintro e w12 ⟨rfl, hb⟩
  rw [k6]
  have HB12 := Aside0.mk (below_step HB11.out hb)
  clear hb HB11
  go_wp2_with fail
  refine (HEN.out ⟨#[0]⟩ (by decide) 1 1 255 _ (HM.out.below HB12.out)).mono ?_
  rintro e w13 ⟨rfl, hb⟩
  rw [k7]
  have HB13 := Aside0.mk (below_step HB12.out hb)
  clear hb HB12
  go_wp2_with fail
  refine (HDC.out ⟨#[0, 63, 64]⟩ (by decide) 1 1 255 _ (HM.out.below HB13.out)).mono ?_
  rintro e w14 ⟨rfl, hb⟩
  rw [k8]
  have HB14 := Aside0.mk (below_step HB13.out hb)
  clear hb HB13
  have F1 : Aside0 (Blk (w14.alloc (.cells ((nums .i64 z64).set 63 (.int .i64 1048577)).toArray 22)) w14.heap.size (z64.set 63 1048577)) := ⟨blk_new w14 _⟩
  have N1 : Aside0 (wthn 1048576 (z64.set 63 1048577) = false) := ⟨by decide +kernel⟩
  have N2 : Aside0 (wthn 4294967296 (z64.set 63 (-4294967297)) = false) := ⟨by decide +kernel⟩
  have L1 : Aside0 ((z64.set 63 1048577).length = 64) := ⟨rfl⟩
  have L2 : Aside0 ((z64.set 63 (-4294967297)).length = 64) := ⟨rfl⟩
  go_wp2_with (first | (refine alloc_ar rfl rfl ?_) | (refine load_ar rfl _ rfl w14.heap.size rfl (z64.set 63 1048577) L1.out F1.out ?_))
  have HBA : Aside0 (Below w0.heap.size w0 (w14.alloc (.cells ((nums .i64 z64).set 63 (.int .i64 1048577)).toArray 22))) := ⟨below_alloc HB14.out _⟩
  obtain ⟨wA, hwA⟩ : ∃ wA, w14.alloc (.cells ((nums .i64 z64).set 63 (.int .i64 1048577)).toArray 22) = wA := ⟨_, rfl⟩
  rw [hwA] at HBA F1 ⊢
  clear hwA
  refine (forward_bad _ L1.out _ (HM.out.below HBA.out) N1.out).mono ?_
  rintro e w15 ⟨rfl, hb⟩
  have HB15 := Aside0.mk (below_step HBA.out hb)
  have F2 := Aside0.mk (F1.out.below hb)
  have hlt := HB14.out.size
  have hlt2 := F2.out.lt
  clear hb HBA F1
  obtain ⟨g, hg⟩ : ∃ g, w14.heap.size = g := ⟨_, rfl⟩
  rw [hg] at F2 hlt hlt2 ⊢
  have F3 := Aside0.mk (mk_old F2.out z64)
  have HB16 := Aside0.mk (mk_below HB15.out z64)
  obtain ⟨wM, hwM⟩ : ∃ wM, mk w15 z64 = wM := ⟨_, rfl⟩
  have hwM2 : (w15.alloc (.cells (nums .i64 z64).toArray 22)).setRow w15.heap.size (nums .i64 z64).toArray = wM := hwM
  have c2 : wM.cell? ⟨g, 63, none⟩ = some (.int .i64 1048577) := by rw [← hwM]; exact F3.out.cell 63 (by decide)
  have f2 : wM.frozen? ⟨g, 63, none⟩ = false := by rw [← hwM]; exact blk_frozen F3.out 63
  rw [hwM] at F3 HB16
  have F4 : Aside0 (Blk (wM.setCell ⟨g, 63, none⟩ (.int .i64 (-4294967297))) g (z64.set 63 (-4294967297))) := ⟨F3.out.set 63 (-4294967297)⟩
  have HB17 : Aside0 (Below w0.heap.size w0 (wM.setCell ⟨g, 63, none⟩ (.int .i64 (-4294967297)))) := ⟨below_set HB16.out hlt⟩
  clear hwM
  go_wp2_with (first | (refine alloc_ar rfl rfl ?_) | (refine store_ar rfl _ _ rfl _ rfl z64 z64 rfl (blk_new _ _) rfl rfl ?_; rw [hwM2]) | (refine load_ar rfl _ rfl g rfl (z64.set 63 (-4294967297)) L2.out F4.out ?_))
  refine (inverse_bad _ L2.out _ (HM.out.below HB17.out) N2.out).mono ?_
  rintro e w16 ⟨rfl, hb⟩
  have HB18 := Aside0.mk (mk_below (below_step HB17.out hb) z64)
  clear hb HB17 HB16 F4 F3 c2 f2 hwM2 F2 hlt hlt2
  obtain ⟨wN, hwN⟩ : ∃ wN, mk w16 z64 = wN := ⟨_, rfl⟩
  have hwN2 : (w16.alloc (.cells (nums .i64 z64).toArray 22)).setRow w16.heap.size (nums .i64 z64).toArray = wN := hwN
  rw [hwN] at HB18
  clear hwN
  have hcc : (C.toList == C.toList) = true := by simp
  have hbb : (B.toList == B.toList) = true := by simp
  go_wp2_with (first | (refine alloc_ar rfl rfl ?_) | (refine store_ar rfl _ _ rfl _ rfl z64 z64 rfl (blk_new _ _) rfl rfl ?_; rw [hwN2]; clear hwN2))
  refine (R3.out _).mono ?_
  rintro e w17 ⟨rfl, hb⟩
  have HB19 := Aside0.mk (below_step HB18.out hb)
  clear hb HB18
  go_wp2_with fail
  refine (R2.out _).mono ?_
  rintro e w18 ⟨rfl, hb⟩
  have HB20 := Aside0.mk (below_step HB19.out hb)
  clear hb HB19
  go_wp2_with fail
  have HX : Aside0 ((w18.alloc (.cells #[.string ⟨#[65, 2, 64]⟩, .string ⟨#[63, 2, 0, 2, 64]⟩, .string ⟨#[0, 128, 128, 128, 1, 64]⟩, .string ⟨#[0, 128, 0, 64]⟩, .string ⟨#[0, 2]⟩, .string ⟨#[]⟩] 9)).heap[w18.heap.size]? = some (.cells #[.string ⟨#[65, 2, 64]⟩, .string ⟨#[63, 2, 0, 2, 64]⟩, .string ⟨#[0, 128, 128, 128, 1, 64]⟩, .string ⟨#[0, 128, 0, 64]⟩, .string ⟨#[0, 2]⟩, .string ⟨#[]⟩] 9 (0, 0))) := ⟨blk_new _ _⟩
  have HB21 := Aside0.mk (below_alloc HB20.out (.cells #[.string ⟨#[65, 2, 64]⟩, .string ⟨#[63, 2, 0, 2, 64]⟩, .string ⟨#[0, 128, 128, 128, 1, 64]⟩, .string ⟨#[0, 128, 0, 64]⟩, .string ⟨#[0, 2]⟩, .string ⟨#[]⟩] 9))
  clear HB20
  go_loopw [188] (fun v wr => ∃ k : Nat, v = .int .i64 (k : Int) ∧ k ≤ 6 ∧ Aside0 (wr.heap[w18.heap.size]? = some (.cells #[.string ⟨#[65, 2, 64]⟩, .string ⟨#[63, 2, 0, 2, 64]⟩, .string ⟨#[0, 128, 128, 128, 1, 64]⟩, .string ⟨#[0, 128, 0, 64]⟩, .string ⟨#[0, 2]⟩, .string ⟨#[]⟩] 9 (0, 0))) ∧ Aside0 (Below w0.heap.size w0 wr)) (fun v _ => 6 - (intOf v).toNat)
  case atStart => exact ⟨0, rfl, by omega, HX, HB21⟩
  case round =>
    clear HX HB21
    obtain ⟨k, rfl, hk, HX, HB⟩ := hrel
    rcases (show k = 0 ∨ k = 1 ∨ k = 2 ∨ k = 3 ∨ k = 4 ∨ k = 5 ∨ k = 6 by omega) with rfl | rfl | rfl | rfl | rfl | rfl | rfl
    · have c0 : wr.cell? ⟨w18.heap.size, 0, none⟩ = some (.string ⟨#[65, 2, 64]⟩) := (blk_cell HX.out 0).trans rfl
      go_wp2_with fail
      refine (HDC.out ⟨#[65, 2, 64]⟩ (by decide) 1 1 1 _ (HM.out.below HB.out)).mono ?_
      rintro e wB ⟨rfl, hb⟩
      rw [b1]
      have HB2 := Aside0.mk (below_step HB.out hb)
      have HX2 : Aside0 (wB.heap[w18.heap.size]? = some (.cells #[.string ⟨#[65, 2, 64]⟩, .string ⟨#[63, 2, 0, 2, 64]⟩, .string ⟨#[0, 128, 128, 128, 1, 64]⟩, .string ⟨#[0, 128, 0, 64]⟩, .string ⟨#[0, 2]⟩, .string ⟨#[]⟩] 9 (0, 0))) := ⟨blk_below HX.out hb⟩
      clear hb c0
      go_wp2_with fail
      go_roundw
      case measure => simp [intOf]
      case rel => exact ⟨1, by go_num, by omega, HX2, HB2⟩
    · have c0 : wr.cell? ⟨w18.heap.size, 1, none⟩ = some (.string ⟨#[63, 2, 0, 2, 64]⟩) := (blk_cell HX.out 1).trans rfl
      go_wp2_with fail
      refine (HDC.out ⟨#[63, 2, 0, 2, 64]⟩ (by decide) 1 1 1 _ (HM.out.below HB.out)).mono ?_
      rintro e wB ⟨rfl, hb⟩
      rw [b2]
      have HB2 := Aside0.mk (below_step HB.out hb)
      have HX2 : Aside0 (wB.heap[w18.heap.size]? = some (.cells #[.string ⟨#[65, 2, 64]⟩, .string ⟨#[63, 2, 0, 2, 64]⟩, .string ⟨#[0, 128, 128, 128, 1, 64]⟩, .string ⟨#[0, 128, 0, 64]⟩, .string ⟨#[0, 2]⟩, .string ⟨#[]⟩] 9 (0, 0))) := ⟨blk_below HX.out hb⟩
      clear hb c0
      go_wp2_with fail
      go_roundw
      case measure => simp [intOf]
      case rel => exact ⟨2, by go_num, by omega, HX2, HB2⟩
    · have c0 : wr.cell? ⟨w18.heap.size, 2, none⟩ = some (.string ⟨#[0, 128, 128, 128, 1, 64]⟩) := (blk_cell HX.out 2).trans rfl
      go_wp2_with fail
      refine (HDC.out ⟨#[0, 128, 128, 128, 1, 64]⟩ (by decide) 1 1 1 _ (HM.out.below HB.out)).mono ?_
      rintro e wB ⟨rfl, hb⟩
      rw [b3]
      have HB2 := Aside0.mk (below_step HB.out hb)
      have HX2 : Aside0 (wB.heap[w18.heap.size]? = some (.cells #[.string ⟨#[65, 2, 64]⟩, .string ⟨#[63, 2, 0, 2, 64]⟩, .string ⟨#[0, 128, 128, 128, 1, 64]⟩, .string ⟨#[0, 128, 0, 64]⟩, .string ⟨#[0, 2]⟩, .string ⟨#[]⟩] 9 (0, 0))) := ⟨blk_below HX.out hb⟩
      clear hb c0
      go_wp2_with fail
      go_roundw
      case measure => simp [intOf]
      case rel => exact ⟨3, by go_num, by omega, HX2, HB2⟩
    · have c0 : wr.cell? ⟨w18.heap.size, 3, none⟩ = some (.string ⟨#[0, 128, 0, 64]⟩) := (blk_cell HX.out 3).trans rfl
      go_wp2_with fail
      refine (HDC.out ⟨#[0, 128, 0, 64]⟩ (by decide) 1 1 1 _ (HM.out.below HB.out)).mono ?_
      rintro e wB ⟨rfl, hb⟩
      rw [b4]
      have HB2 := Aside0.mk (below_step HB.out hb)
      have HX2 : Aside0 (wB.heap[w18.heap.size]? = some (.cells #[.string ⟨#[65, 2, 64]⟩, .string ⟨#[63, 2, 0, 2, 64]⟩, .string ⟨#[0, 128, 128, 128, 1, 64]⟩, .string ⟨#[0, 128, 0, 64]⟩, .string ⟨#[0, 2]⟩, .string ⟨#[]⟩] 9 (0, 0))) := ⟨blk_below HX.out hb⟩
      clear hb c0
      go_wp2_with fail
      go_roundw
      case measure => simp [intOf]
      case rel => exact ⟨4, by go_num, by omega, HX2, HB2⟩
    · have c0 : wr.cell? ⟨w18.heap.size, 4, none⟩ = some (.string ⟨#[0, 2]⟩) := (blk_cell HX.out 4).trans rfl
      go_wp2_with fail
      refine (HDC.out ⟨#[0, 2]⟩ (by decide) 1 1 1 _ (HM.out.below HB.out)).mono ?_
      rintro e wB ⟨rfl, hb⟩
      rw [b5]
      have HB2 := Aside0.mk (below_step HB.out hb)
      have HX2 : Aside0 (wB.heap[w18.heap.size]? = some (.cells #[.string ⟨#[65, 2, 64]⟩, .string ⟨#[63, 2, 0, 2, 64]⟩, .string ⟨#[0, 128, 128, 128, 1, 64]⟩, .string ⟨#[0, 128, 0, 64]⟩, .string ⟨#[0, 2]⟩, .string ⟨#[]⟩] 9 (0, 0))) := ⟨blk_below HX.out hb⟩
      clear hb c0
      go_wp2_with fail
      go_roundw
      case measure => simp [intOf]
      case rel => exact ⟨5, by go_num, by omega, HX2, HB2⟩
    · have c0 : wr.cell? ⟨w18.heap.size, 5, none⟩ = some (.string ⟨#[]⟩) := (blk_cell HX.out 5).trans rfl
      go_wp2_with fail
      refine (HDC.out ⟨#[]⟩ (by decide) 1 1 1 _ (HM.out.below HB.out)).mono ?_
      rintro e wB ⟨rfl, hb⟩
      rw [b6]
      have HB2 := Aside0.mk (below_step HB.out hb)
      have HX2 : Aside0 (wB.heap[w18.heap.size]? = some (.cells #[.string ⟨#[65, 2, 64]⟩, .string ⟨#[63, 2, 0, 2, 64]⟩, .string ⟨#[0, 128, 128, 128, 1, 64]⟩, .string ⟨#[0, 128, 0, 64]⟩, .string ⟨#[0, 2]⟩, .string ⟨#[]⟩] 9 (0, 0))) := ⟨blk_below HX.out hb⟩
      clear hb c0
      go_wp2_with fail
      go_roundw
      case measure => simp [intOf]
      case rel => exact ⟨6, by go_num, by omega, HX2, HB2⟩
    · go_wp2_with fail
      refine (works_call _ (HM.out.below HB.out)).mono ?_
      rintro e wB ⟨rfl, hb⟩
      have HB2 := Aside0.mk (below_step HB.out hb)
      clear hb
      go_wp2_with fail
      go_ret
      exact ⟨rfl, HB2.out⟩
end Go.Proofs.YtmbdjajmiggiaaaDoor.V08k
