/- The Go functions cipher.Encrypt and cipher.Decrypt return, for every string and every key, what the Lean functions cipher_Encrypt.f and cipher_Decrypt.f say. No conditions beyond the lengths that a string in memory has. -/
import Derived.Test.YtggckbdjmliciaaProg
import Derived.WalkKit
import Derived.KernelRfl
import Derived.Deep.LoopGhost
import Derived.Test.YtggckbdjmliciaaWWords
import Derived.Test.YtggckbdjmliciaaWLast
import Derived.Test.YtggckbdjmliciaaWMore
namespace Go.Proofs.Ytggckbdjmliciaa.G32
open Go.RowKit Go.Proofs.YtggckbdjmliciaaW.PrintWords Go.Proofs.YtggckbdjmliciaaW.PrintLast Go.Proofs.YtggckbdjmliciaaW.PrintMore
set_option linter.unusedVariables false
set_option maxRecDepth 100000
theorem info5 : (Try.prog.info? 5).map (fun i => (i.zero, i.size, i.bytes)) = some (some (.int .u8 0), 1, 1) := by kernel_rfl
/-- the results of a list of octets, and the key after it -/
def run (st : Int → Int → Int × Int) : Int → List Int → List Int × Int
  | r, [] => ([], r)
  | r, p :: ps => let q := st r p; let t := run st q.2 ps; (q.1 :: t.1, t.2)

theorem run_append (st : Int → Int → Int × Int) (ps : List Int) : ∀ r (p : Int), run st r (ps ++ [p]) = ((run st r ps).1 ++ [(st (run st r ps).2 p).1], (st (run st r ps).2 p).2) := by
  induction ps with
  | nil => intro r p; rfl
  | cons x ps ih => intro r p; simp [run, ih]
theorem run_length (st : Int → Int → Int × Int) (ps : List Int) : ∀ r, (run st r ps).1.length = ps.length := by
  induction ps with
  | nil => intro r; rfl
  | cons x ps ih => intro r; simp [run, ih]
def Good (st : Int → Int → Int × Int) : Prop := ∀ r p, 0 ≤ r → r ≤ 65535 → 0 ≤ p → p ≤ 255 → 0 ≤ (st r p).1 ∧ (st r p).1 ≤ 255 ∧ 0 ≤ (st r p).2 ∧ (st r p).2 ≤ 65535
theorem run_bounds (st : Int → Int → Int × Int) (hst : Good st) (ps : List Int) (hp : ∀ p ∈ ps, 0 ≤ p ∧ p ≤ 255) : ∀ r, 0 ≤ r → r ≤ 65535 → 0 ≤ (run st r ps).2 ∧ (run st r ps).2 ≤ 65535 := by
  induction ps with
  | nil => intro r h0 h1; exact ⟨h0, h1⟩
  | cons x ps ih =>
    intro r h0 h1
    have hx := hp x (by simp)
    have := hst r x h0 h1 hx.1 hx.2
    exact ih (fun p h => hp p (by simp [h])) _ this.2.2.1 this.2.2.2
def Does (F : FuncId) (st : Int → Int → Int × Int) : Prop := ∀ (g : Nat) (p r : Int) (w : World), w.cell? ⟨g, 0, none⟩ = some (.int .u16 r) → w.frozen? ⟨g, 0, none⟩ = false → 0 ≤ r → r ≤ 65535 → 0 ≤ p → p ≤ 255 →
    Calls Try.prog F #[.pointer (some ⟨g, 0, none⟩), .int .u8 p] w fun e w' => e = .returned (.int .u8 (st r p).1) ∧ w' = w.setCell ⟨g, 0, none⟩ (.int .u16 (st r p).2)
def bk (s : ByteArray) (k : Nat) : List Int := (bytesOf s).take k
theorem bk_all (s : ByteArray) : bk s s.size = bytesOf s := by unfold bk; rw [List.take_of_length_le]; rw [bytesOf_length]; exact Nat.le_refl _
theorem bk_succ (s : ByteArray) (k : Nat) (h : k < s.size) : bk s (k + 1) = bk s k ++ [bt s k] := by
  unfold bk
  rw [List.take_succ_eq_append_getElem (by rw [bytesOf_length]; exact h)]
  congr 2
  have := rd_bytesOf s k
  simp only [rd, Int.toNat_natCast] at this
  rw [← this, List.getD_eq_getElem?_getD, List.getElem?_eq_getElem (by rw [bytesOf_length]; exact h)]
  rfl
theorem bytesOf_range (s : ByteArray) : ∀ p ∈ bytesOf s, 0 ≤ p ∧ p ≤ 255 := by
  intro p hp
  simp only [bytesOf, List.mem_map] at hp
  obtain ⟨b, _, rfl⟩ := hp
  have := b.toNat_lt
  omega
theorem bk_range (s : ByteArray) (k : Nat) : ∀ p ∈ bk s k, 0 ≤ p ∧ p ≤ 255 := fun p hp => bytesOf_range s p (List.mem_of_mem_take hp)
def outs (st : Int → Int → Int × Int) (r : Int) (s : ByteArray) (k : Nat) : List Int := (run st r (bk s k)).1 ++ List.replicate (s.size - k) 0
def key (st : Int → Int → Int × Int) (r : Int) (s : ByteArray) (k : Nat) : Int := (run st r (bk s k)).2

theorem outs_get (st : Int → Int → Int × Int) (r : Int) (s : ByteArray) (k : Nat) (h : k < s.size) : (outs st r s k).set k (st (key st r s k) (bt s k)).1 = outs st r s (k + 1) := by
  unfold outs key
  rw [bk_succ s k h, run_append]
  have hl : (run st r (bk s k)).1.length = k := by rw [run_length]; unfold bk; rw [List.length_take, bytesOf_length]; omega
  obtain ⟨m, hm⟩ : ∃ m, s.size - k = m + 1 := ⟨s.size - k - 1, by omega⟩
  have hm2 : s.size - (k + 1) = m := by omega
  rw [hm, hm2, List.replicate_succ, List.set_append_right _ _ (by omega), hl, Nat.sub_self]
  simp
theorem key_succ (st : Int → Int → Int × Int) (r : Int) (s : ByteArray) (k : Nat) (h : k < s.size) : key st r s (k + 1) = (st (key st r s k) (bt s k)).2 := by
  unfold key
  rw [bk_succ s k h, run_append]
theorem pass (F : FuncId) (T : Nat) (hT : T ≠ 5) (st : Int → Int → Int × Int) (hst : Good st) (hF : Does F st) (hcf : ∀ args W, (callFunc F args).run Try.prog W = .ok (.enter F args) W)
  (g : Nat) (r : Int) (s : ByteArray) (w : World) (hw : w.heap[g]? = some (.cells #[.int .u16 r] T (0, 0))) (hr0 : 0 ≤ r) (hr1 : r ≤ 65535) (hs : s.size ≤ 140737488351232) :
    Calls Try.prog 17 #[.string s, .func (.func F) #[.pointer (some ⟨g, 0, none⟩)] #[]] w fun e w' => e = .returned (.string (strOfNums (run st r (bytesOf s)).1)) ∧ Below g w w' := by
  have hmk := print_make (P := Try.prog) 30 5 .u8 1 Try.underlying30 info5 (by decide) s.size (by omega)
  have hgl := blk_lt hw
  have HW := Aside0.mk hw
  clear hw
  go_enter Try.func17, Try.ntmps17
  go_wp2
  go_step3
  go_wp2
  go_step3
  go_wp2
  clear hmk
  go_loopw [6] (fun v6 wr => ∃ k : Nat, k ≤ s.size ∧ v6 = .int .i64 k ∧ Aside0 (wr.heap[g]? = some (.cells #[.int .u16 (key st r s k)] T (0, 0))) ∧ Aside0 (wr.ownsRow w.heap.size 5 1 (.slice (some ⟨w.heap.size, 0, none⟩) s.size s.size) s.size (nums .u8 (outs st r s k))) ∧ Aside0 (Below g w wr)) (fun v6 _ => s.size - (intOf v6).toNat)
  case atStart =>
    refine ⟨0, Nat.zero_le _, rfl, ⟨?_⟩, ⟨?_⟩, ⟨?_⟩⟩
    · rw [Below.heap_alloc w _ g hgl]; exact HW.out
    · have := own_made w w.heap.size 5 .u8 s.size (Nat.le_refl _) (by omega)
      simpa [outs, bk, run] using this
    · exact (Below.refl g w).alloc (by omega) _
  case round =>
    obtain ⟨k, hk, rfl, HG, HO, HB⟩ := hrel
    by_cases hlt : k < s.size
    · have q1 : ((k : Int) == (s.size : Int)) = false := by simp; omega
      have hx := bt_at s (k : Int)
      have hkb := run_bounds st hst (bk s k) (bk_range s k) r hr0 hr1
      have hbt := bt_range s (k : Int)
      have hcell := blk_cell HG.out 0
      have hfr := blk_frozen HG.out 0
      have hkk : (k : Int).toNat = k := by simp
      rw [hkk] at hx
      have hxx := hx hlt
      obtain ⟨hoc, hof⟩ := own_at HO.out (k : Int) (by omega) (by omega)
      rw [hkk] at hoc hof
      have hst2 := own_store HO.out (k : Int) (st (key st r s k) (bt s k)).1
      clear hx
      have HXX := Aside0.mk hxx
      clear hxx hkk
      go_wp2_with fail
      rw [HXX.out]
      refine (hF g (bt s k) (key st r s k) _ (by simpa using hcell) hfr hkb.1 hkb.2 hbt.1 hbt.2).mono ?_
      rintro e w' ⟨rfl, rfl⟩
      go_wp2
      go_roundw
      case measure => simp [intOf]; omega
      case rel =>
        refine ⟨k + 1, by omega, by go_num, ⟨?_⟩, ⟨?_⟩, ⟨?_⟩⟩
        · have h1 := blk_set HG.out 0 (.int .u16 (st (key st r s k) (bt s k)).2)
          have h2 := blk_far h1 (p := ⟨w.heap.size, k, none⟩) (by simp; omega) (.int .u8 (st (key st r s k) (bt s k)).1)
          rw [h2, key_succ st r s k hlt]
          rfl
        · have h1 := own_setCell HO.out (p := ⟨g, 0, none⟩) (by simp [Value.ownBlock]; omega) (.int .u16 (st (key st r s k) (bt s k)).2)
          have h2 := (own_store h1 (k : Int) (st (key st r s k) (bt s k)).1).1
          simp only [Int.toNat_natCast] at h2
          rw [outs_get st r s k hlt] at h2
          exact h2
        · exact (HB.out.setCell (by simp) _).setCell (by simp; omega) _
    · obtain rfl : k = s.size := by omega
      have q1 : ((s.size : Int) == (s.size : Int)) = true := by simp
      have hcv := own_string (P := Try.prog) Try.underlying30 Try.underlying5 Try.underlying9 HO.out
      have he : outs st r s s.size = (run st r (bytesOf s)).1 := by unfold outs; rw [bk_all]; simp
      rw [he] at hcv
      clear he
      go_wp2
      rw [Exit.noGoto_ret]
      go_ret
      exact ⟨rfl, HB.out⟩
theorem cf18 : ∀ args W, (callFunc 18 args).run Try.prog W = .ok (.enter 18 args) W := fun _ _ => by kernel_rfl
theorem cf20 : ∀ args W, (callFunc 20 args).run Try.prog W = .ok (.enter 20 args) W := fun _ _ => by kernel_rfl

def nxt (c r : Int) : Int := ((c + r) * 52845 + 22719) % 65536
def sealS (r p : Int) : Int × Int := (bits .xor .u8 p (r / 256), nxt (bits .xor .u8 p (r / 256)) r)
def openS (r p : Int) : Int × Int := (bits .xor .u8 p (r / 256), nxt p r)
theorem xor_range (p q : Int) : 0 ≤ bits .xor .u8 p q ∧ bits .xor .u8 p q ≤ 255 := bits_within .xor .u8 p q
theorem nxt_range (c r : Int) : 0 ≤ nxt c r ∧ nxt c r ≤ 65535 := by unfold nxt; omega
theorem good_seal : Good sealS := fun r p _ _ _ _ => ⟨(xor_range _ _).1, (xor_range _ _).2, (nxt_range _ _).1, (nxt_range _ _).2⟩
theorem good_opn : Good openS := fun r p _ _ _ _ => ⟨(xor_range _ _).1, (xor_range _ _).2, (nxt_range _ _).1, (nxt_range _ _).2⟩
theorem wrap_nxt (c r : Int) : IntKind.u16.wrap (IntKind.u16.wrap (IntKind.u16.wrap (c + r) * 52845) + 22719) = nxt c r := by
  have h (x : Int) : IntKind.u16.wrap x = x % 65536 := rfl
  simp only [h, nxt]
  omega
theorem wrap_nxt' (c r : Int) : IntKind.u16.wrap (IntKind.u16.wrap (IntKind.u16.wrap (IntKind.u16.wrap c + r) * 52845) + 22719) = nxt c r := by
  have h (x : Int) : IntKind.u16.wrap x = x % 65536 := rfl
  simp only [h, nxt]
  omega
theorem does_seal : Does 18 sealS := by
  intro g p r w hc hf hr0 hr1 hp0 hp1
  have hb : r / 256 ≤ 255 := by omega
  have hb0 : 0 ≤ r / 256 := by omega
  go_enter Try.func18, Try.ntmps18
  go_wp2
  go_end0
  go_wp2
  go_ret
  rw [wrap_nxt']
  exact ⟨rfl, rfl⟩
theorem does_opn : Does 20 openS := by
  intro g p r w hc hf hr0 hr1 hp0 hp1
  have hb : r / 256 ≤ 255 := by omega
  have hb0 : 0 ≤ r / 256 := by omega
  go_enter Try.func20, Try.ntmps20
  go_wp2
  go_end0
  go_wp2
  go_ret
  rw [wrap_nxt]
  exact ⟨rfl, rfl⟩
def z4 : ByteArray := ⟨#[0, 0, 0, 0]⟩
def chk (s : ByteArray) (key : Int) : Int := if (s.size : Int) > 65536 then 3 else if key < 0 ∨ key > 65535 then 2 else 0
theorem check_any (s : ByteArray) (key : Int) (w : World) : Calls Try.prog 16 #[.string s, .int .i64 key] w fun e w' => e = .returned (.int .i64 (chk s key)) ∧ w = w' := by
  by_cases h1 : (s.size : Int) > 65536
  · have hc : chk s key = 3 := by unfold chk; rw [if_pos h1]
    rw [hc]; clear hc
    have b0 : decide (65536 < s.size) = true := decide_eq_true (by omega)
    go_enter Try.func16, Try.ntmps16
    go_wp2
    go_ret
    exact ⟨rfl, rfl⟩
  · have b0 : decide (65536 < s.size) = false := decide_eq_false (by omega)
    by_cases h2 : key < 0
    · have hc : chk s key = 2 := by unfold chk; rw [if_neg h1, if_pos (.inl h2)]
      rw [hc]; clear hc
      go_enter Try.func16, Try.ntmps16
      go_wp2
      go_ret
      exact ⟨rfl, rfl⟩
    · by_cases h3 : key > 65535
      · have hc : chk s key = 2 := by unfold chk; rw [if_neg h1, if_pos (.inr h3)]
        rw [hc]; clear hc
        go_enter Try.func16, Try.ntmps16
        go_wp2
        go_ret
        exact ⟨rfl, rfl⟩
      · have hc : chk s key = 0 := by unfold chk; rw [if_neg h1, if_neg (by omega)]
        rw [hc]; clear hc
        go_enter Try.func16, Try.ntmps16
        go_wp2
        go_ret
        exact ⟨rfl, rfl⟩
theorem conv4 (w : World) (o : Obj) : (convert 30 9 (.slice (some ⟨w.heap.size + 1, 0, none⟩) 4 4)).run Try.prog ((w.alloc o).alloc (.cells #[.int .u8 0, .int .u8 0, .int .u8 0, .int .u8 0] 5)) = .ok (.string z4) ((w.alloc o).alloc (.cells #[.int .u8 0, .int .u8 0, .int .u8 0, .int .u8 0] 5)) := by
  have h := own_string (P := Try.prog) Try.underlying30 Try.underlying5 Try.underlying9 (own_lit (w.alloc o) 0 5 .u8 [0, 0, 0, 0] (Nat.zero_le _) (by decide))
  rw [World.size_alloc] at h
  exact h
theorem enc_ok (s : ByteArray) (key : Int) (w : World) (hs : (s.size : Int) ≤ 65532) (h0 : 0 ≤ key) (h1 : key ≤ 65535) :
    Calls Try.prog 10 #[.string s, .int .i64 key] w fun e w' => e = .returned (.tuple #[.string (strOfNums (run sealS key (bytesOf (z4 ++ s))).1), .int .i64 0]) ∧ Below w.heap.size w w' := by
  have hc : chk s key = 0 := by unfold chk; rw [if_neg (by omega), if_neg (by omega)]
  have HC := Aside0.mk hc
  clear hc
  have b1 : decide (65532 < s.size) = false := decide_eq_false (by omega)
  have hmf : ∀ (fn : Fn) (first cap : Array Value) (w : World), (Instr.makeFunc fn first cap).run Try.prog w = .ok (.func fn first cap) w := fun _ _ _ _ => rfl
  have hmk : ∀ W : World, (Instr.makeSlice 30 (.int .i64 4) (.int .i64 4)).run Try.prog W = .ok (.slice (some ⟨W.heap.size, 0, none⟩) 4 4) (W.alloc (.cells #[.int .u8 0, .int .u8 0, .int .u8 0, .int .u8 0] 5)) := fun _ => by kernel_rfl
  have hcv := fun o w => conv4 w o
  go_enter Try.func10, Try.ntmps10
  have hz4 : z4.size = 4 := by rfl
  have hz : z4.size + s.size ≤ 9223372036854775807 := by omega
  have HZ := Aside0.mk hz4
  clear hz4
  go_wp2_with (first | (go_at_call 16; refine (check_any _ _ _).mono ?_; rintro e w' ⟨rfl, rfl⟩; rw [HC.out]))
  refine (pass 18 40 (by decide) sealS good_seal does_seal cf18 w.heap.size key (z4 ++ s) _ ?_ h0 h1 ?_).mono ?_
  · rw [Below.heap_alloc _ _ _ (by simp)]; exact heap_alloc_new _ _
  · have := HZ.out
    simp
    omega
  rintro e w' ⟨rfl, hb⟩
  go_wp2
  go_ret2
  exact ⟨rfl, (((Below.refl _ _).alloc (Nat.le_refl _) _).alloc (by simp) _).trans hb⟩
theorem enc_long (s : ByteArray) (key : Int) (w : World) (hs0 : (s.size : Int) > 65532) (hs : (s.size : Int) ≤ 65536) (h0 : 0 ≤ key) (h1 : key ≤ 65535) :
    Calls Try.prog 10 #[.string s, .int .i64 key] w fun e w' => e = .returned (.tuple #[.string (⟨#[]⟩ : ByteArray), .int .i64 3]) ∧ Below w.heap.size w w' := by
  have hc : chk s key = 0 := by unfold chk; rw [if_neg (by omega), if_neg (by omega)]
  have HC := Aside0.mk hc
  clear hc
  have b1 : decide (65532 < s.size) = true := decide_eq_true (by omega)
  go_enter Try.func10, Try.ntmps10
  go_wp2_with (first | (go_at_call 16; refine (check_any _ _ _).mono ?_; rintro e w' ⟨rfl, rfl⟩; rw [HC.out]))
  go_ret2
  exact ⟨rfl, Below.refl _ _⟩
theorem enc_bad (s : ByteArray) (key : Int) (w : World) (c : Int) (hc : chk s key = c) (h : (c == 0) = false) :
    Calls Try.prog 10 #[.string s, .int .i64 key] w fun e w' => e = .returned (.tuple #[.string (⟨#[]⟩ : ByteArray), .int .i64 c]) ∧ Below w.heap.size w w' := by
  have HC := Aside0.mk hc
  clear hc
  have h' : (c != 0) = true := by simp [bne, h]
  go_enter Try.func10, Try.ntmps10
  go_wp2_with (first | (go_at_call 16; refine (check_any _ _ _).mono ?_; rintro e w' ⟨rfl, rfl⟩; rw [HC.out]))
  go_ret2
  exact ⟨rfl, Below.refl _ _⟩
def cipher_Encrypt.f (a0 : ByteArray) (a1 : Int) : Option (ByteArray × Int) :=
  if chk a0 a1 = 0 then (if (a0.size : Int) > 65532 then some (⟨#[]⟩, 3) else some (strOfNums (run sealS a1 (bytesOf (z4 ++ a0))).1, 0)) else some (⟨#[]⟩, chk a0 a1)
theorem chk_zero (s : ByteArray) (key : Int) (h : chk s key = 0) : (s.size : Int) ≤ 65536 ∧ 0 ≤ key ∧ key ≤ 65535 := by
  unfold chk at h
  split at h
  · cases h
  · split at h
    · cases h
    · omega
theorem cipher_Encrypt.calls (a0 : ByteArray) (a1 : Int) (r1 : ByteArray) (r2 : Int) (w : World) (h : cipher_Encrypt.f a0 a1 = some (r1, r2)) :
    Calls Try.prog 10 #[.string a0, .int .i64 a1] w fun e w' => e = .returned (.tuple #[.string r1, .int .i64 r2]) ∧ Below w.heap.size w w' := by
  unfold cipher_Encrypt.f at h
  by_cases hc : chk a0 a1 = 0
  · obtain ⟨k0, k1, k2⟩ := chk_zero _ _ hc
    rw [if_pos hc] at h
    by_cases hl : (a0.size : Int) > 65532
    · rw [if_pos hl] at h
      simp only [Option.some.injEq, Prod.mk.injEq] at h
      obtain ⟨rfl, rfl⟩ := h
      exact enc_long a0 a1 w hl k0 k1 k2
    · rw [if_neg hl] at h
      simp only [Option.some.injEq, Prod.mk.injEq] at h
      obtain ⟨rfl, rfl⟩ := h
      exact enc_ok a0 a1 w (by omega) k1 k2
  · rw [if_neg hc] at h
    simp only [Option.some.injEq, Prod.mk.injEq] at h
    obtain ⟨rfl, rfl⟩ := h
    exact enc_bad a0 a1 w _ rfl (by simpa using hc)
theorem dec_ok (s : ByteArray) (key : Int) (w : World) (hs0 : 4 ≤ (s.size : Int)) (hs : (s.size : Int) ≤ 65536) (h0 : 0 ≤ key) (h1 : key ≤ 65535) :
    Calls Try.prog 12 #[.string s, .int .i64 key] w fun e w' => e = .returned (.tuple #[.string ((strOfNums (run openS key (bytesOf s)).1).extract 4 s.size), .int .i64 0]) ∧ Below w.heap.size w w' := by
  have hc : chk s key = 0 := by unfold chk; rw [if_neg (by omega), if_neg (by omega)]
  have HC := Aside0.mk hc
  clear hc
  have b1 : decide (s.size < 4) = false := decide_eq_false (by omega)
  have hmf : ∀ (fn : Fn) (first cap : Array Value) (w : World), (Instr.makeFunc fn first cap).run Try.prog w = .ok (.func fn first cap) w := fun _ _ _ _ => rfl
  go_enter Try.func12, Try.ntmps12
  go_wp2_with (first | (go_at_call 16; refine (check_any _ _ _).mono ?_; rintro e w' ⟨rfl, rfl⟩; rw [HC.out]))
  refine (pass 20 45 (by decide) openS good_opn does_opn cf20 w.heap.size key s _ ?_ h0 h1 (by omega)).mono ?_
  · exact heap_alloc_new _ _
  rintro e w' ⟨rfl, hb⟩
  have hl : (strOfNums (run openS key (bytesOf s)).1).size = s.size := by rw [strOfNums_size, run_length, bytesOf_length]
  obtain ⟨X, hX⟩ : ∃ X, X = strOfNums (run openS key (bytesOf s)).1 := ⟨_, rfl⟩
  rw [← hX] at hl ⊢
  have HX := Aside0.mk hX
  clear hX
  have h4 : 4 ≤ X.size := by omega
  have HL := Aside0.mk hl
  clear hl
  go_wp2
  go_ret2
  rw [HL.out]
  obtain rfl := HX.out
  exact ⟨rfl, (((Below.refl _ _).alloc (Nat.le_refl _) _)).trans hb⟩
theorem dec_short (s : ByteArray) (key : Int) (w : World) (hs : (s.size : Int) < 4) (h0 : 0 ≤ key) (h1 : key ≤ 65535) :
    Calls Try.prog 12 #[.string s, .int .i64 key] w fun e w' => e = .returned (.tuple #[.string (⟨#[]⟩ : ByteArray), .int .i64 5]) ∧ Below w.heap.size w w' := by
  have hc : chk s key = 0 := by unfold chk; rw [if_neg (by omega), if_neg (by omega)]
  have HC := Aside0.mk hc
  clear hc
  have b1 : decide (s.size < 4) = true := decide_eq_true (by omega)
  go_enter Try.func12, Try.ntmps12
  go_wp2_with (first | (go_at_call 16; refine (check_any _ _ _).mono ?_; rintro e w' ⟨rfl, rfl⟩; rw [HC.out]))
  go_ret2
  exact ⟨rfl, Below.refl _ _⟩
theorem dec_bad (s : ByteArray) (key : Int) (w : World) (c : Int) (hc : chk s key = c) (h : (c == 0) = false) :
    Calls Try.prog 12 #[.string s, .int .i64 key] w fun e w' => e = .returned (.tuple #[.string (⟨#[]⟩ : ByteArray), .int .i64 c]) ∧ Below w.heap.size w w' := by
  have HC := Aside0.mk hc
  clear hc
  have h' : (c != 0) = true := by simp [bne, h]
  go_enter Try.func12, Try.ntmps12
  go_wp2_with (first | (go_at_call 16; refine (check_any _ _ _).mono ?_; rintro e w' ⟨rfl, rfl⟩; rw [HC.out]))
  go_ret2
  exact ⟨rfl, Below.refl _ _⟩
def cipher_Decrypt.f (a0 : ByteArray) (a1 : Int) : Option (ByteArray × Int) :=
  if chk a0 a1 = 0 then (if (a0.size : Int) < 4 then some (⟨#[]⟩, 5) else some ((strOfNums (run openS a1 (bytesOf a0)).1).extract 4 a0.size, 0)) else some (⟨#[]⟩, chk a0 a1)
theorem cipher_Decrypt.calls (a0 : ByteArray) (a1 : Int) (r1 : ByteArray) (r2 : Int) (w : World) (h : cipher_Decrypt.f a0 a1 = some (r1, r2)) :
    Calls Try.prog 12 #[.string a0, .int .i64 a1] w fun e w' => e = .returned (.tuple #[.string r1, .int .i64 r2]) ∧ Below w.heap.size w w' := by
  unfold cipher_Decrypt.f at h
  by_cases hc : chk a0 a1 = 0
  · obtain ⟨k0, k1, k2⟩ := chk_zero _ _ hc
    rw [if_pos hc] at h
    by_cases hl : (a0.size : Int) < 4
    · rw [if_pos hl] at h
      simp only [Option.some.injEq, Prod.mk.injEq] at h
      obtain ⟨rfl, rfl⟩ := h
      exact dec_short a0 a1 w hl k1 k2
    · rw [if_neg hl] at h
      simp only [Option.some.injEq, Prod.mk.injEq] at h
      obtain ⟨rfl, rfl⟩ := h
      exact dec_ok a0 a1 w (by omega) k0 k1 k2
  · rw [if_neg hc] at h
    simp only [Option.some.injEq, Prod.mk.injEq] at h
    obtain ⟨rfl, rfl⟩ := h
    exact dec_bad a0 a1 w _ rfl (by simpa using hc)
end Go.Proofs.Ytggckbdjmliciaa.G32
