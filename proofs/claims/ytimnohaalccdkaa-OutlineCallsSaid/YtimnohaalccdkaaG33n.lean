/- run of the machine (chapter 33): function 37; all depths. -/
import Derived.Test.YtimnohaalccdkaaG33m
namespace Go.Proofs.Ytimnohaalccdkaa.G33n
open Go.Proofs.Ytimnohaalccdkaa Go.Proofs.Ytimnohaalccdkaa.K33 Go.Proofs.Ytimnohaalccdkaa.M33 Go.Proofs.Ytimnohaalccdkaa.G33a Go.Proofs.Ytimnohaalccdkaa.G33b Go.Proofs.Ytimnohaalccdkaa.G33c Go.Proofs.Ytimnohaalccdkaa.G33d Go.Proofs.Ytimnohaalccdkaa.N33 Go.Proofs.Ytimnohaalccdkaa.G33i Go.Proofs.Ytimnohaalccdkaa.G33l Go.Proofs.Ytimnohaalccdkaa.G33m Go.Proofs.Ytimnohaalccdkaa.P33a
open Go.RowKit Go.Proofs.YtimnohaalccdkaaW.PrintWords Go.Proofs.YtimnohaalccdkaaW.PrintLast Go.Proofs.YtimnohaalccdkaaW.PrintMore
set_option linter.unusedVariables false
set_option linter.unusedSimpArgs false
set_option maxRecDepth 100000
def strLen : Value → Nat
  | .string s => s.size
  | _ => 0
theorem runL_num {call : M → Except Int M} {top : Bool} {f : Nat} {m : M} {l r : List Int} {n : Int} (h : readN l = some (n, r)) : runL call top (f + 1) m l = match push m n with | .error e => .error e | .ok m => runL call top f m r := by
  rcases l with _ | ⟨v, l⟩
  · cases h
  · show (match readN (v :: l) with | some (n, r) => _ | none => _) = _
    rw [h]
    rfl
theorem runL_none {call : M → Except Int M} {top : Bool} {f : Nat} {m : M} {l : List Int} (h : readN l = none) (h2 : codeN l = none) : runL call top (f + 1) m l = .error 39 := by
  rcases l with _ | ⟨v, l⟩
  · rfl
  · show (match readN (v :: l) with | some (n, r) => _ | none => _) = _
    rw [h]
    simp only
    rw [h2]
theorem runL_op {call : M → Except Int M} {deep : Int} {f : Nat} {m : M} {l r : List Int} {op : Int} (h : readN l = none) (h2 : codeN l = some (op, r)) :
    runL call (deep == 0) (f + 1) m l = match operL call deep op m with | .error e => .error e | .ok (d, m) => if d then .ok m else runL call (deep == 0) f m r := by
  rcases l with _ | ⟨v, l⟩
  · cases h2
  · show (match readN (v :: l) with | some (n, r) => _ | none => _) = _
    rw [h]
    simp only
    rw [h2]
    simp only
    unfold operL
    by_cases k1 : 4000 ≤ m.count
    · rw [if_pos k1, if_pos k1]
    rw [if_neg k1, if_neg k1]
    by_cases k2 : op = 11
    · rw [if_pos k2, if_pos k2]
      by_cases k3 : deep = 0
      · rw [if_pos (by simpa using k3), if_pos k3]
      · rw [if_neg (by simpa using k3), if_neg k3]; rfl
    rw [if_neg k2, if_neg k2]
    generalize (if op = 10 then call { m with count := m.count + 1 } else operM op { m with count := m.count + 1 }) = x
    rcases x with c | m2 <;> rfl
theorem operL_done {call : M → Except Int M} {deep op : Int} {m m2 : M} (h : operL call deep op m = .ok (false, m2)) : m2.done = false := by
  unfold operL at h
  split at h
  · cases h
  split at h
  · split at h
    · cases h
    · injection h with h; injection h with h1 h2; cases h1
  · unfold tell at h
    split at h
    · cases h
    · injection h with h; injection h with h1 h2; rw [← h2]; exact h1
theorem codeN_op {l : List Int} {n : Int} {r : List Int} (h : codeN l = some (n, r)) : isOp n = true := by
  unfold codeN at h
  repeat' split at h
  all_goals first
    | (cases h; done)
    | (injection h with h; injection h with h1 h2; subst h1; assumption)
theorem cutS (t : ByteArray) (k : Nat) (hk : k ≤ t.size) (W : World) : (Instr.slice 9 (.string t) (some (.int .i64 (k : Int))) none none).run Try.prog W = .ok (.string (t.extract k t.size)) W := by
  have := run_slice_string_l (P := Try.prog) W 9 t Try.underlying9 .i64 (k : Int) (by omega) (by omega)
  simpa using this
theorem ext_bytes (t : ByteArray) (k : Nat) : bytesOf (t.extract k t.size) = (bytesOf t).drop k := by
  rw [bytesOf_extract, List.take_of_length_le]
  rw [List.length_drop, bytesOf_len]
  exact Nat.le_refl _
theorem ext_size (t : ByteArray) (k : Nat) (h : k ≤ t.size) : (t.extract k t.size).size = t.size - k := by
  rw [← bytesOf_len, ext_bytes, List.length_drop, bytesOf_len]
set_option maxHeartbeats 8000000 in
theorem run_call {W0 w : World} {b : Nat} {sb : Value} {m : M} {ss : List ByteArray} (hs : Strs W0 sb ss) (h : Mach W0 w b sb m) (hd : m.done = false) (deep : Int) (hd0 : 0 ≤ deep) (go : Option (M → List Int → Except Int M))
    (hgo : (deep = 10 ∧ go = none) ∨ (deep < 10 ∧ ∃ g, go = some g ∧ Deeper W0 b sb deep g)) (s : ByteArray) (hsz : s.size ≤ 4000) :
    Calls Try.prog 37 #[.pointer (some ⟨b, 0, none⟩), .string s, .int .i64 deep] w (Did W0 b sb (runL (subrM (ss.map bytesOf) go) (deep == 0) (s.size + 1) m (bytesOf s))) := by
  have HM0 := Aside0.mk h
  have HD0 := Aside0.mk hd
  have HS := Aside0.mk hs
  have HGO := Aside0.mk hgo
  clear h hd hs hgo
  obtain ⟨call, hcall⟩ : ∃ call, subrM (ss.map bytesOf) go = call := ⟨_, rfl⟩
  have HOP : Aside0 (∀ (w : World) (m : M) (op : Int), Mach W0 w b sb m → m.done = false → 0 ≤ op → op ≤ 511 → isOp op = true → Calls Try.prog 56 #[.pointer (some ⟨b, 0, none⟩), .int .i64 op, .int .i64 deep] w (DidO W0 b sb (operL call deep op m))) := ⟨fun w m op h hd h0 h1 h2 => by rw [← hcall]; exact operate_call HS.out h hd deep op hd0 go HGO.out h0 h1 h2⟩
  rw [hcall]
  obtain ⟨res, hres⟩ : ∃ res, runL call (deep == 0) (s.size + 1) m (bytesOf s) = res := ⟨_, rfl⟩
  have HR := Aside0.mk hres
  rw [hres]
  clear hres hcall HGO HS
  go_enter Try.func37, Try.ntmps37
  go_wp2_with fail
  go_step3
  go_wp2_with fail
  go_step3
  go_wp2_with fail
  go_loopw [1, 7] (fun v1 v7 wr => ∃ (t : ByteArray) (m1 : M) (f : Nat), v1 = .string t ∧ v7 = .bool false ∧ t.size ≤ 4000 ∧ t.size < f ∧ Aside0 (m1.done = false) ∧ Aside0 (runL call (deep == 0) f m1 (bytesOf t) = res) ∧ Aside0 (Mach W0 wr b sb m1)) (fun v1 _ _ => strLen v1)
  case atStart => exact ⟨s, m, s.size + 1, rfl, rfl, hsz, by omega, HD0, HR, HM0⟩
  case round =>
    clear HD0 HR HM0 hsz
    obtain ⟨t, m1, f, rfl, rfl, hts, hf, HD, HR, HM⟩ := hrel
    obtain ⟨f, rfl⟩ : ∃ f', f = f' + 1 := ⟨f - 1, by omega⟩
    have HF := Aside0.mk hf
    by_cases h0 : t.size = 0
    · have hb0 : bytesOf t = [] := List.eq_nil_of_length_eq_zero (by rw [bytesOf_len]; exact h0)
      have tz : decide (0 < (t.size : Int)) = false := decide_eq_false (by omega)
      have tz2 : decide (0 < t.size) = false := decide_eq_false (by omega)
      have HE : Aside0 (res = .error 39) := ⟨by rw [← HR.out, hb0]; rfl⟩
      have HL := Aside0.mk (Mach.left HM.out)
      clear hb0 h0 hf
      go_wp2_with fail
      go_ret
      rw [HE.out]
      exact ⟨rfl, .inr rfl, HL.out⟩
    have tz : decide (0 < (t.size : Int)) = true := decide_eq_true (by omega)
    have tz2 : decide (0 < t.size) = true := decide_eq_true (by omega)
    have hne : ∃ v r, bytesOf t = v :: r := by
      cases hb : bytesOf t with
      | nil => have := bytesOf_len t; rw [hb] at this; simp at this; omega
      | cons v r => exact ⟨v, r, rfl⟩
    have hoct := bytesOf_range t
    have hbl := bytesOf_len t
    cases hrd : readN (bytesOf t) with
    | some p =>
      obtain ⟨n, r⟩ := p
      obtain ⟨k, hk0, hkl, hrk⟩ := readN_drop hrd
      rw [hbl] at hkl
      have hsm := readN_small hoct hrd
      have hrl : (t.size : Int) - r.length = (k : Int) := by rw [hrk, List.length_drop, hbl]; omega
      have HNUM : Aside0 (∀ W, Calls Try.prog 53 #[.string t] W fun e w' => e = .returned (.tuple #[.int .i64 n, .int .i64 (k : Int)]) ∧ Drawn0 W w') := ⟨fun W => outline_number.calls 4 t n (k : Int) W (by rw [number_eq t (by omega), hrd]; simp only [headV]; rw [hrl])⟩
      have hcut := cutS t k hkl
      have tk : decide (0 < (k : Int)) = true := decide_eq_true (by omega)
      have tk2 : decide (0 < k) = true := decide_eq_true hk0
      have HE : Aside0 (res = match push m1 n with | .error e => .error e | .ok m => runL call (deep == 0) f m r) := ⟨by rw [← HR.out]; exact runL_num hrd⟩
      have HSM := Aside0.mk hsm
      have HX := Aside0.mk (show bytesOf (t.extract k t.size) = r by rw [ext_bytes, hrk])
      have HXS := Aside0.mk (ext_size t k hkl)
      have HK := Aside0.mk (And.intro hk0 hkl)
      clear hrd hrk hrl hsm hoct hbl hne h0 hf hk0 hkl HR
      go_wp2_with fail
      refine (HNUM.out _).mono ?_
      rintro e w1 ⟨rfl, ⟨nd, rfl⟩⟩
      go_wp2_with fail
      refine (push_call (HM.out.below (pw_below_drewN (Below.refl _ _) nd)) n HSM.out).mono ?_
      intro e w2 hdid
      cases hp : push m1 n with
      | error c =>
        rw [hp] at hdid
        obtain ⟨rfl, hc, hl⟩ := hdid
        have HEE : Aside0 (res = .error c) := ⟨by rw [HE.out, hp]⟩
        have HC := Aside0.mk hc
        have HL := Aside0.mk hl
        have tc : (c != 0) = true := by rcases hc with rfl | rfl <;> rfl
        clear hc hl hp HNUM HM HE
        go_wp2_with fail
        go_ret
        rw [HEE.out]
        exact ⟨rfl, HC.out, HL.out⟩
      | ok m2 =>
        rw [hp] at hdid
        obtain ⟨rfl, hm⟩ := hdid
        have HM2 := Aside0.mk hm
        have HD2 : Aside0 (m2.done = false) := ⟨by rw [push_done hp]; exact HD.out⟩
        have HEE : Aside0 (runL call (deep == 0) f m2 (bytesOf (t.extract k t.size)) = res) := ⟨by rw [HE.out, hp, HX.out]⟩
        clear hm hp HNUM HM HE
        go_wp2_with fail
        refine ⟨⟨t.extract k t.size, m2, f, rfl, rfl, by rw [HXS.out]; omega, by rw [HXS.out]; have := HF.out; have := HK.out; omega, HD2, HEE, HM2⟩, ?_⟩
        show (t.extract k t.size).size < t.size
        rw [HXS.out]
        have := HK.out
        omega
    | none =>
      have HNUM : Aside0 (∀ W, Calls Try.prog 53 #[.string t] W fun e w' => e = .returned (.tuple #[.int .i64 0, .int .i64 0]) ∧ Drawn0 W w') := ⟨fun W => outline_number.calls 4 t 0 0 W (by rw [number_eq t (by omega), hrd]; rfl)⟩
      have HCODE := Aside0.mk (fun W => code_call t (by omega) (by omega) W)
      cases hcd : codeN (bytesOf t) with
      | none =>
        rw [hcd] at HCODE
        have HE : Aside0 (res = .error 39) := ⟨by rw [← HR.out]; exact runL_none hrd hcd⟩
        have HL := Aside0.mk (Mach.left HM.out)
        clear hrd hcd hoct hbl hne h0 hf HR
        go_wp2_with fail
        refine (HNUM.out _).mono ?_
        rintro e w1 ⟨rfl, ⟨nd, rfl⟩⟩
        go_wp2_with fail
        refine (HCODE.out _).mono ?_
        rintro e w2 ⟨rfl, hb2⟩
        have HB2 := Aside0.mk hb2
        clear hb2
        simp only [headV]
        go_wp2_with fail
        go_ret
        rw [HE.out]
        exact ⟨rfl, .inr rfl, HL.out.below (below_then (pw_below_drewN (Below.refl _ _) nd) (by simp) HB2.out)⟩
      | some p =>
        obtain ⟨op, r⟩ := p
        obtain ⟨k, hk0, hkl, hrk⟩ := codeN_drop hcd
        rw [hbl] at hkl
        have hrg := codeN_range hoct hcd
        have hop := codeN_op hcd
        have hrl : (t.size : Int) - r.length = (k : Int) := by rw [hrk, List.length_drop, hbl]; omega
        have HCD : Aside0 (∀ W, Calls Try.prog 55 #[.string t] W fun e w' => e = .returned (.tuple #[.int .i64 op, .int .i64 (k : Int)]) ∧ Below W.heap.size W w') := ⟨fun W => by
          have := HCODE.out W
          rw [hcd] at this
          simp only [headV] at this
          rw [hrl] at this
          exact this⟩
        have hcut := cutS t k hkl
        have tk : ((k : Int) == 0) = false := by simp; omega
        have HE : Aside0 (res = match operL call deep op m1 with | .error e => .error e | .ok (d, m) => if d then .ok m else runL call (deep == 0) f m r) := ⟨by rw [← HR.out]; exact runL_op hrd hcd⟩
        have HX := Aside0.mk (show bytesOf (t.extract k t.size) = r by rw [ext_bytes, hrk])
        have HXS := Aside0.mk (ext_size t k hkl)
        have HK := Aside0.mk (And.intro hk0 hkl)
        have HOPR := Aside0.mk (And.intro hrg hop)
        clear hrd hcd hrk hrl hoct hbl hne h0 hf hk0 hkl HR hrg hop HCODE
        go_wp2_with fail
        refine (HNUM.out _).mono ?_
        rintro e w1 ⟨rfl, ⟨nd, rfl⟩⟩
        go_wp2_with fail
        refine (HCD.out _).mono ?_
        rintro e w2 ⟨rfl, hb2⟩
        have HB2 := Aside0.mk hb2
        have HMM := Aside0.mk (HM.out.below (below_then (pw_below_drewN (Below.refl _ _) nd) (by simp) hb2))
        clear hb2
        go_wp2_with fail
        refine (HOP.out _ m1 op HMM.out HD.out HOPR.out.1.1 HOPR.out.1.2 HOPR.out.2).mono ?_
        intro e w3 hdid
        cases hp : operL call deep op m1 with
        | error c =>
          rw [hp] at hdid
          obtain ⟨⟨v, rfl⟩, hc, hl⟩ := hdid
          have HEE : Aside0 (res = .error c) := ⟨by rw [HE.out, hp]⟩
          have HC := Aside0.mk hc
          have HL := Aside0.mk hl
          have tc : (c != 0) = true := by rcases hc with rfl | rfl <;> rfl
          clear hc hl hp HNUM HM HE
          go_wp2_with fail
          go_ret
          rw [HEE.out]
          exact ⟨rfl, HC.out, HL.out⟩
        | ok p =>
          obtain ⟨d, m2⟩ := p
          rw [hp] at hdid
          obtain ⟨rfl, hm⟩ := hdid
          have HM2 := Aside0.mk hm
          cases d with
          | true =>
            have HEE : Aside0 (res = .ok m2) := ⟨by rw [HE.out, hp]; rfl⟩
            clear hm hp HNUM HM HE
            go_wp2_with fail
            go_ret
            rw [HEE.out]
            exact ⟨rfl, HM2.out⟩
          | false =>
            have HD2 : Aside0 (m2.done = false) := ⟨operL_done hp⟩
            have HEE : Aside0 (runL call (deep == 0) f m2 (bytesOf (t.extract k t.size)) = res) := ⟨by rw [HE.out, hp, HX.out]; rfl⟩
            clear hm hp HNUM HM HE
            go_wp2_with fail
            refine ⟨⟨t.extract k t.size, m2, f, rfl, rfl, by rw [HXS.out]; omega, by rw [HXS.out]; have := HF.out; have := HK.out; omega, HD2, HEE, HM2⟩, ?_⟩
            show (t.extract k t.size).size < t.size
            rw [HXS.out]
            have := HK.out
            omega
/-- A string runs at a depth. -/
theorem runD_call {W0 : World} {b : Nat} {sb : Value} {ss : List ByteArray} (hs : Strs W0 sb ss) : ∀ (d : Nat) (deep : Int), 0 ≤ deep → deep + d = 10 → ∀ (w : World) (m : M) (s : ByteArray), Mach W0 w b sb m → m.done = false → s.size ≤ 4000 →
    Calls Try.prog 37 #[.pointer (some ⟨b, 0, none⟩), .string s, .int .i64 deep] w (Did W0 b sb (runD (ss.map bytesOf) d (deep == 0) m (bytesOf s)))
  | 0, deep, h0, hd, w, m, s, hm, hdn, hsz => by
    have := run_call hs hm hdn deep h0 none (.inl ⟨by omega, rfl⟩) s hsz
    unfold runD
    rw [bytesOf_len]
    exact this
  | d + 1, deep, h0, hd, w, m, s, hm, hdn, hsz => by
    have := run_call hs hm hdn deep h0 (some fun m s => runD (ss.map bytesOf) d false m s) (.inr ⟨by omega, _, rfl, fun w m s hm hdn hsz => by
      have h1 := runD_call hs d (deep + 1) (by omega) (by omega) w m s hm hdn hsz
      have e : (deep + 1 == 0) = false := by simp; omega
      rw [e] at h1
      exact h1⟩) s hsz
    unfold runD
    rw [bytesOf_len]
    exact this
end Go.Proofs.Ytimnohaalccdkaa.G33n
