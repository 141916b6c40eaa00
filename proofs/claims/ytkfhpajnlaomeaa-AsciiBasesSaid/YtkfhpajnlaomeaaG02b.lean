/- ascii.Base85, walked. -/
import Derived.Test.YtkfhpajnlaomeaaG02h
import Derived.Test.YtkfhpajnlaomeaaM02
import Derived.WalkMore
import Derived.Laws.IdiomCopy
import Derived.Laws.StructEq
namespace Go.Proofs.Ytkfhpajnlaomeaa.G02b
open Go.RowKit Go.Proofs.YtkfhpajnlaomeaaW.PrintWords Go.Proofs.YtkfhpajnlaomeaaW.PrintLast Go.Proofs.YtkfhpajnlaomeaaW.PrintMore
open Go.Proofs.Ytkfhpajnlaomeaa.K02 Go.Proofs.Ytkfhpajnlaomeaa.B02
set_option linter.unusedVariables false
set_option maxRecDepth 100000
def grp (a b c d : Int) : Value := .agg #[.int .u8 a, .int .u8 b, .int .u8 c, .int .u8 d]
def txt (n : Int) : Value := .agg #[.int .u8 (33 + n / 52200625), .int .u8 (33 + n / 614125 % 85), .int .u8 (33 + n / 7225 % 85), .int .u8 (33 + n / 85 % 85), .int .u8 (33 + n % 85)]
theorem wraps_u32 (n : Int) (h₀ : 0 ≤ n) (h₁ : n < 2 ^ 32) : IntKind.u32.wrap n = n := by rw [IntKind.wrap_u32]; omega
theorem or24 (x y : Int) (h0 : 0 ≤ x) (h1 : x < 4294967296) (h2 : x % 16777216 = 0) (h3 : 0 ≤ y) (h4 : y < 16777216) : bits .or .u32 x y = x + y := bits_join .u32 32 (by decide) wraps_u32 24 x y h0 h2 (by omega) h3 h4 (by omega)
theorem or16 (x y : Int) (h0 : 0 ≤ x) (h1 : x < 4294967296) (h2 : x % 65536 = 0) (h3 : 0 ≤ y) (h4 : y < 65536) : bits .or .u32 x y = x + y := bits_join .u32 32 (by decide) wraps_u32 16 x y h0 h2 (by omega) h3 h4 (by omega)
theorem or8 (x y : Int) (h0 : 0 ≤ x) (h1 : x < 4294967296) (h2 : x % 256 = 0) (h3 : 0 ≤ y) (h4 : y < 256) : bits .or .u32 x y = x + y := bits_join .u32 32 (by decide) wraps_u32 8 x y h0 h2 (by omega) h3 h4 (by omega)
set_option maxHeartbeats 1000000 in
theorem spread_call (a b c d : Int) (ha : 0 ≤ a ∧ a < 256) (hb : 0 ≤ b ∧ b < 256) (hc : 0 ≤ c ∧ c < 256) (hd : 0 ≤ d ∧ d < 256) (w : World) :
    Calls Try.prog 28 #[grp a b c d] w fun e w' => e = .returned (txt (num256 [a, b, c, d])) ∧ Below w.heap.size w w' := by
  have o1 := or24 (a * 16777216) (b * 65536) (by omega) (by omega) (by omega) (by omega) (by omega)
  have o2 := or16 (a * 16777216 + b * 65536) (c * 256) (by omega) (by omega) (by omega) (by omega) (by omega)
  have o3 := or8 (a * 16777216 + b * 65536 + c * 256) d (by omega) (by omega) (by omega) (by omega) (by omega)
  obtain ⟨n, hn⟩ : ∃ n, a * 16777216 + b * 65536 + c * 256 + d = n := ⟨_, rfl⟩
  have hnum : num256 [a, b, c, d] = n := by
    unfold num256
    simp only [List.foldl_cons, List.foldl_nil]
    omega
  have hn0 : 0 ≤ n ∧ n < 4294967296 := by omega
  rw [hn] at o3
  rw [hnum]
  have HN := Aside0.mk hn
  clear hn hnum
  unfold grp txt
  go_enter Try.func28, Try.ntmps28
  go_wp2_with fail
  clear o1 o2 o3 ha hb hc hd
  obtain ⟨n1, d1⟩ : ∃ n1, n / 85 = n1 := ⟨_, rfl⟩
  obtain ⟨n2, d2⟩ : ∃ n2, n1 / 85 = n2 := ⟨_, rfl⟩
  obtain ⟨n3, d3⟩ : ∃ n3, n2 / 85 = n3 := ⟨_, rfl⟩
  obtain ⟨n4, d4⟩ : ∃ n4, n3 / 85 = n4 := ⟨_, rfl⟩
  have b1 : 0 ≤ n1 ∧ n1 < 4294967296 := by omega
  have b2 : 0 ≤ n2 ∧ n2 < 4294967296 := by omega
  have b3 : 0 ≤ n3 ∧ n3 < 4294967296 := by omega
  have b4 : 0 ≤ n4 ∧ n4 < 83 := by omega
  have E : Aside0 (n4 % 85 = n / 52200625 ∧ n3 % 85 = n / 614125 % 85 ∧ n2 % 85 = n / 7225 % 85 ∧ n1 % 85 = n / 85 % 85) := ⟨by omega, by omega, by omega, by omega⟩
  refine wp_loop_rounds 6 ?_
  rw [rounds_succ]
  go_wp2_with fail
  rw [rounds_succ]
  go_wp2_with fail
  rw [rounds_succ]
  go_wp2_with fail
  rw [rounds_succ]
  go_wp2_with fail
  rw [rounds_succ]
  go_wp2_with fail
  rw [rounds_succ]
  go_wp2_with fail
  obtain ⟨q1, q2, q3, q4⟩ := E.out
  rw [← q1, ← q2, ← q3, ← q4]
  refine bodyPost_ret (by simp [results, Try.f28, go_sem]; rfl) rfl ?_
  refine ⟨rfl, ?_⟩
  repeat' first | exact Below.refl _ _ | refine Below.alloc ?_ (by first | omega | (simp; omega) | simp) _
def g4 (l : List Int) (i : Nat) : Int := (l.take 4).getD i 0
def zeros : Obj := .cells #[.int .u8 0, .int .u8 0, .int .u8 0, .int .u8 0] 56
theorem set_group (wr : World) (l : List Int) (h0 : 0 < l.length) : (wr.alloc zeros).setCells wr.heap.size 0 (nums .u8 (l.take 4)) = wr.alloc (.cells #[.int .u8 (g4 l 0), .int .u8 (g4 l 1), .int .u8 (g4 l 2), .int .u8 (g4 l 3)] 56) := by
  unfold zeros
  match l, h0 with
  | [a], _ => simp [nums, World.setCells, World.setCell_alloc_new, g4]
  | [a, b], _ => simp [nums, World.setCells, World.setCell_alloc_new, g4]
  | [a, b, c], _ => simp [nums, World.setCells, World.setCell_alloc_new, g4]
  | a :: b :: c :: d :: r, _ => simp [nums, World.setCells, World.setCell_alloc_new, g4]
theorem copy_group (wr : World) (x : ByteArray) (h0 : 0 < x.size) :
    (Builtin.copy_ #[32, 9] 3 #[.slice (some ⟨wr.heap.size, 0, none⟩) 4 4, .string x]).run Try.prog (wr.alloc zeros) = .ok (.int .i64 (min x.size 4 : Nat)) (wr.alloc (.cells #[.int .u8 (g4 (bytesOf x) 0), .int .u8 (g4 (bytesOf x) 1), .int .u8 (g4 (bytesOf x) 2), .int .u8 (g4 (bytesOf x) 3)] 56)) := by
  have hl : ((x.extract 0 (min x.size 4)).data.map fun b => Value.int .u8 b.toNat).toList = nums .u8 ((bytesOf x).take 4) := by
    have e : bytesOf (x.extract 0 (min x.size 4)) = (bytesOf x).take 4 := by
      rw [bytesOf_extract, List.drop_zero, Nat.sub_zero]
      rcases Nat.le_total x.size 4 with h | h
      · rw [Nat.min_eq_left h, List.take_of_length_le (by rw [bytesOf_len]; exact Nat.le_refl _), List.take_of_length_le (by rw [bytesOf_len]; exact h)]
      · rw [Nat.min_eq_right h]
    rw [← e]
    unfold bytesOf nums
    simp
    rfl
  have hlen : (nums .u8 ((bytesOf x).take 4)).length = min 4 x.size := by rw [nums_length, List.length_take, bytesOf_len]
  have hst := run_storeCells_cells (P := Try.prog) wr.heap.size 0 (nums .u8 ((bytesOf x).take 4)) 0 (wr.alloc zeros)
    (fun j hj => by
      rw [hlen] at hj
      rw [show 0 + 0 + j = j by omega, blk_cell (World.alloc_heap_new wr zeros) j]
      match j, hj with
      | 0, _ => rfl
      | 1, _ => rfl
      | 2, _ => rfl
      | 3, _ => rfl
      | j + 4, hj => omega)
    (fun j hj => blk_frozen (World.alloc_heap_new wr zeros) _)
    (fun v hv => by
      unfold nums at hv
      obtain ⟨y, _, rfl⟩ := List.mem_map.1 hv
      rfl)
  have hmin : Nat.min x.size 4 = min x.size 4 := rfl
  simp [Builtin.copy_, run_underlying Try.underlying32, Builtin.lenOf, Builtin.firstCells, Try.sizeOf5, hmin]
  simp at hl
  rw [hl, hst, set_group wr (bytesOf x) (by rw [bytesOf_len]; exact h0)]
  rfl
theorem eq_group_d (D : Nat) (w : World) (a b c d : Int) (h5 : ∀ (a b : Int) w, (Op.equalIn D 5 (.int .u8 a) (.int .u8 b)).run Try.prog w = .ok (a == b) w) :
    (Op.equalIn (D + 1) 56 (.agg #[.int .u8 a, .int .u8 b, .int .u8 c, .int .u8 d]) (.agg #[.int .u8 0, .int .u8 0, .int .u8 0, .int .u8 0])).run Try.prog w = .ok (a == 0 && (b == 0 && (c == 0 && d == 0))) w := by
  have hz := Try.sizeOf5
  have hp : ∀ (p q r s : Int) w, (part 5 #[.int .u8 p, .int .u8 q, .int .u8 r, .int .u8 s] 0).run Try.prog w = .ok (.int .u8 p) w ∧ (part 5 #[.int .u8 p, .int .u8 q, .int .u8 r, .int .u8 s] 1).run Try.prog w = .ok (.int .u8 q) w ∧ (part 5 #[.int .u8 p, .int .u8 q, .int .u8 r, .int .u8 s] 2).run Try.prog w = .ok (.int .u8 r) w ∧ (part 5 #[.int .u8 p, .int .u8 q, .int .u8 r, .int .u8 s] 3).run Try.prog w = .ok (.int .u8 s) w := fun p q r s w => by
    have ha5 := Try.isAgg5
    refine ⟨?_, ?_, ?_, ?_⟩ <;> simp [part, hz, ha5]
  have hr : List.range' 0 4 = [0, 1, 2, 3] := rfl
  cases ha : (a == 0) <;> cases hb : (b == 0) <;> cases hc : (c == 0) <;> cases hd : (d == 0) <;>
    simp [Op.equalIn, run_underlying Try.underlying56, hz, h5, ha, hb, hc, hd, hr, (hp _ _ _ _ _).1, (hp _ _ _ _ _).2.1, (hp _ _ _ _ _).2.2.1, (hp _ _ _ _ _).2.2.2]
theorem eq_group (w : World) (a b c d : Int) : (Op.equalIn 10000 56 (.agg #[.int .u8 a, .int .u8 b, .int .u8 c, .int .u8 d]) (.agg #[.int .u8 0, .int .u8 0, .int .u8 0, .int .u8 0])).run Try.prog w = .ok (a == 0 && (b == 0 && (c == 0 && d == 0))) w :=
  eq_group_d 9999 w a b c d (fun a b w => run_equalIn_int w 9998 5 .u8 .u8 a b Try.underlying5)
theorem num_zero (a b c d : Int) (ha : 0 ≤ a) (hb : 0 ≤ b) (hc : 0 ≤ c) (hd : 0 ≤ d) : num256 [a, b, c, d] = 0 ↔ (a = 0 ∧ b = 0 ∧ c = 0 ∧ d = 0) := by
  unfold num256
  simp only [List.foldl_cons, List.foldl_nil]
  omega
theorem five_cells (w : World) (N : Int) (m : Nat) (hm : m ≤ 5) : ∀ j u, (nums .u8 ((five N).take m))[j]? = some u → (w.alloc (.cells #[.int .u8 (33 + N / 52200625), .int .u8 (33 + N / 614125 % 85), .int .u8 (33 + N / 7225 % 85), .int .u8 (33 + N / 85 % 85), .int .u8 (33 + N % 85)] 57)).cell? ((⟨w.heap.size, 0, none⟩ : Addr).add j) = some u := by
  intro j u hj
  rw [add_plain, blk_cell (World.alloc_heap_new w _) j]
  unfold nums at hj
  rw [List.getElem?_map, List.getElem?_take] at hj
  split at hj
  · match j with
    | 0 => simpa [five] using hj
    | 1 => simpa [five] using hj
    | 2 => simpa [five] using hj
    | 3 => simpa [five] using hj
    | 4 => simpa [five] using hj
    | j + 5 => omega
  · simp at hj
theorem bld_below {B b : Nat} {bs : List Value} {w w' : World} (h : Lib.IsBuilder 39 5 B b bs w) (hb : Below w.heap.size w w') : Lib.IsBuilder 39 5 B b bs w' := by
  rcases h with h | h
  · obtain ⟨h1, v, h2, h3, h4⟩ := id h
    exact .inl ⟨h1, v, (hb.block b h.lt).trans h2, pw_own_below h3 hb, h4⟩
  · obtain ⟨h1, v, h2, h3, h4⟩ := id h
    exact .inr ⟨h1, v, (hb.block b h.lt).trans h2, pw_own_below h3 hb, h4⟩
theorem pad (l : List Int) (h0 : 0 < l.length) : l.take 4 ++ List.replicate (4 - (l.take 4).length) 0 = [g4 l 0, g4 l 1, g4 l 2, g4 l 3] := by
  match l, h0 with
  | [a], _ => rfl
  | [a, b], _ => rfl
  | [a, b, c], _ => rfl
  | a :: b :: c :: d :: r, _ => rfl
theorem spread_len (g : List Int) (h : 1 ≤ g.length) : (spread g).length ≤ 5 * g.length := by
  unfold spread
  split
  · simp; omega
  · rw [List.length_take]; omega
/-- One group more. -/
theorem b85_step (x : ByteArray) (k : Nat) (hk : x.size < k) (n : Nat) (hn : min x.size 4 = n) (h0 : 0 < x.size) (a b c d N : Int) (ha : g4 (bytesOf x) 0 = a) (hb : g4 (bytesOf x) 1 = b) (hc : g4 (bytesOf x) 2 = c) (hd : g4 (bytesOf x) 3 = d) (hN : num256 [a, b, c, d] = N) :
    ∃ k', (x.extract n x.size).size < k' ∧ (x.extract n x.size).size + n = x.size ∧ b85 k (bytesOf x) = (if n = 4 ∧ N = 0 then [122] else (five N).take (n + 1)) ++ b85 k' (bytesOf (x.extract n x.size)) := by
  obtain ⟨k, rfl⟩ : ∃ m, k = m + 1 := ⟨k - 1, by omega⟩
  have hl := bytesOf_len x
  have hz : (x.extract n x.size).size = x.size - n := by rw [ByteArray.size_extract]; omega
  have hne : bytesOf x ≠ [] := fun e => by rw [e] at hl; simp at hl; omega
  have hd4 : bytesOf (x.extract n x.size) = (bytesOf x).drop 4 := by
    rw [bytesOf_extract, List.take_of_length_le (by rw [List.length_drop, hl]; exact Nat.le_refl _)]
    by_cases h4 : 4 ≤ x.size
    · rw [show n = 4 by omega]
    · rw [List.drop_of_length_le (by rw [hl]; omega), List.drop_of_length_le (by rw [hl]; omega)]
  have hg : ((bytesOf x).take 4).length = n := by rw [List.length_take, hl]; omega
  have hp := pad (bytesOf x) (by rw [hl]; exact h0)
  rw [ha, hb, hc, hd] at hp
  refine ⟨k, by omega, by omega, ?_⟩
  rw [b85, if_neg hne, hd4]
  congr 1
  unfold spread
  rw [hp, hN, hg]
  by_cases h4 : n = 4
  · have e : num256 ((bytesOf x).take 4) = N := by
      rw [← hN, ← hp, hg, h4]
      simp
    rw [e]
  · rw [if_neg (fun h => h4 h.1), if_neg (fun h => h4 h.1)]
theorem below_trans {B : Nat} {a b c : World} (h : Below B a b) (k : Below B b c) : Below B a c := h.trans k
theorem five_range (N : Int) (h0 : 0 ≤ N) (h1 : N < 4294967296) : ∀ b ∈ five N, 33 ≤ b ∧ b ≤ 117 := by
  intro b hb
  unfold five at hb
  simp only [List.mem_cons, List.not_mem_nil, or_false] at hb
  rcases hb with rfl | rfl | rfl | rfl | rfl <;> omega
set_option maxHeartbeats 1000000 in
theorem b85_walk (s : ByteArray) (r : ByteArray) (e : Int) (w : World) (h : b85Res s = (r, e)) :
    Calls Try.prog 15 #[.string s] w fun x w' => x = .returned (.tuple #[.string r, .int .i64 e]) ∧ Below w.heap.size w w' := by
  unfold b85Res at h
  by_cases hs : (s.size : Int) > 65536
  · rw [if_pos hs] at h
    obtain ⟨rfl, rfl⟩ := Prod.mk.inj h
    have b0 : decide (65536 < s.size) = true := decide_eq_true (by omega)
    clear h
    go_enter Try.func15, Try.ntmps15
    go_wp2_with fail
    go_ret2
    exact ⟨rfl, Below.refl _ _⟩
  · rw [if_neg hs] at h
    have b0 : decide (65536 < s.size) = false := decide_eq_false (by omega)
    have H := Aside0.mk h
    have hs2 : s.size ≤ 65536 := by omega
    clear h hs
    go_enter Try.func15, Try.ntmps15
    go_wp2_with fail
    clear b0
    go_loopw [0] (fun v0 wr => ∃ (x : ByteArray) (k : Nat) (L : List Int), v0 = .string x ∧ x.size ≤ 65536 ∧ Aside0 (x.size < k ∧ L ++ b85 k (bytesOf x) = b85 (s.size + 1) (bytesOf s) ∧ L.length + 5 * x.size ≤ 400000 ∧ ∀ b ∈ L, 0 ≤ b ∧ b < 256) ∧ Aside0 (Lib.IsBuilder 39 5 w.heap.size w.heap.size (nums .u8 L) wr) ∧ Aside0 (Below w.heap.size w wr)) (fun v0 _ => match v0 with | .string x => x.size | _ => 0)
    case atStart => exact ⟨s, s.size + 1, [], rfl, hs2, ⟨by omega, rfl, by simp; omega, fun b hb => by simp at hb⟩, ⟨Lib.fresh_isBuilder 39 5 w⟩, ⟨(Below.refl _ w).alloc (Nat.le_refl _) _⟩⟩
    case round =>
      obtain ⟨x, k, L, rfl, hx, HK, HI, HB⟩ := hrel
      by_cases hx0 : 0 < x.size
      · have q1 : decide ((0 : Int) < (x.size : Int)) = true := decide_eq_true (by omega)
        obtain ⟨n, hn⟩ : ∃ n, min x.size 4 = n := ⟨_, rfl⟩
        have hn1 : 1 ≤ n ∧ n ≤ 4 ∧ n ≤ x.size := by omega
        have hcp := copy_group wr x hx0
        unfold zeros at hcp
        rw [hn] at hcp
        have hgr : ∀ i, 0 ≤ g4 (bytesOf x) i ∧ g4 (bytesOf x) i < 256 := fun i => by
          unfold g4
          rw [List.getD_eq_getElem?_getD]
          rcases h : ((bytesOf x).take 4)[i]? with _ | y
          · simp
          · exact bytesOf_range x y (List.mem_of_mem_take (List.mem_of_getElem? h))
        obtain ⟨a, ha⟩ : ∃ a, g4 (bytesOf x) 0 = a := ⟨_, rfl⟩
        obtain ⟨b, hb⟩ : ∃ b, g4 (bytesOf x) 1 = b := ⟨_, rfl⟩
        obtain ⟨c, hc⟩ : ∃ c, g4 (bytesOf x) 2 = c := ⟨_, rfl⟩
        obtain ⟨d, hd⟩ : ∃ d, g4 (bytesOf x) 3 = d := ⟨_, rfl⟩
        have ra := hgr 0
        have rb := hgr 1
        have rc := hgr 2
        have rd' := hgr 3
        rw [ha] at ra
        rw [hb] at rb
        rw [hc] at rc
        rw [hd] at rd'
        simp only [ha, hb, hc, hd] at hcp
        have HA : Aside0 (g4 (bytesOf x) 0 = a ∧ g4 (bytesOf x) 1 = b ∧ g4 (bytesOf x) 2 = c ∧ g4 (bytesOf x) 3 = d ∧ min x.size 4 = n) := ⟨ha, hb, hc, hd, hn⟩
        have hsp := fun w' => spread_call a b c d ra rb rc rd' w'
        unfold grp txt at hsp
        obtain ⟨N, hN⟩ : ∃ N, num256 [a, b, c, d] = N := ⟨_, rfl⟩
        simp only [hN] at hsp
        have HSP := Aside0.mk hsp
        have HNN := Aside0.mk hN
        clear ha hb hc hd hgr hsp hN hn
        go_wp2_with fail
        refine (HSP.out _).mono ?_
        rintro e1 w1 ⟨rfl, hb1⟩
        have hbl := blk_lt (World.alloc_heap_new wr (.cells #[.int .u8 a, .int .u8 b, .int .u8 c, .int .u8 d] 56))
        have hg1 := (hb1.block wr.heap.size hbl).trans (World.alloc_heap_new wr (.cells #[.int .u8 a, .int .u8 b, .int .u8 c, .int .u8 d] 56))
        have hg2 := ((Below.refl w1.heap.size w1).alloc (Nat.le_refl _) (.cells #[.int .u8 (33 + N / 52200625), .int .u8 (33 + N / 614125 % 85), .int .u8 (33 + N / 7225 % 85), .int .u8 (33 + N / 85 % 85), .int .u8 (33 + N % 85)] 57)).block wr.heap.size (by have := hb1.size; omega)
        rw [hg1] at hg2
        have y0 := blk_cell hg2 0
        have y1 := blk_cell hg2 1
        have y2 := blk_cell hg2 2
        have y3 := blk_cell hg2 3
        have hbw : Below wr.heap.size wr (w1.alloc (.cells #[.int .u8 (33 + N / 52200625), .int .u8 (33 + N / 614125 % 85), .int .u8 (33 + N / 7225 % 85), .int .u8 (33 + N / 85 % 85), .int .u8 (33 + N % 85)] 57)) := (below_step ((Below.refl _ wr).alloc (Nat.le_refl _) _) hb1).alloc (by have := hb1.size; simp at this; omega) _
        have HBW := Aside0.mk hbw
        have HIW := Aside0.mk (bld_below HI.out hbw)
        have HAL := Aside0.mk (below_step HB.out hbw)
        have HNE : Aside0 (w1.heap.size ≠ w.heap.size) := ⟨by have h1 := hb1.size; have h2 := HB.out.size; simp at h1; omega⟩
        have HNR : Aside0 (0 ≤ N ∧ N < 4294967296) := ⟨by
          have := HNN.out
          unfold num256 at this
          simp only [List.foldl_cons, List.foldl_nil] at this
          omega⟩
        obtain ⟨k', hk1, hk2, hk3⟩ := b85_step x k HK.out.1 n HA.out.2.2.2.2 hx0 a b c d N HA.out.1 HA.out.2.1 HA.out.2.2.1 HA.out.2.2.2.1 HNN.out
        have HK1 := Aside0.mk hk1
        have HK2 := Aside0.mk hk2
        have HK3 := Aside0.mk hk3
        have HLL : Aside0 (L.length ≤ 400000) := ⟨by have := HK.out.2.2.1; omega⟩
        clear hb1 hbl hg1 hg2 hcp hbw hk1 hk2 hk3
        by_cases n4 : n = 4
        · subst n4
          have heq := fun w => eq_group w a b c d
          by_cases hz : a = 0 ∧ b = 0 ∧ c = 0 ∧ d = 0
          · have hv : (a == 0 && (b == 0 && (c == 0 && d == 0))) = true := by simp [hz]
            simp only [hv] at heq
            have HZ := Aside0.mk hz
            clear hz hv
            go_wp2_with fail
            refine (write_byte _ _ _ 122 _ HIW.out (by rw [nums_length]; have := HLL.out; omega) HAL.out.size).mono ?_
            rintro e2 w2 ⟨rfl, h2, hb2⟩
            have H2 := Aside0.mk h2
            have HB2 := Aside0.mk hb2
            clear h2 hb2
            go_wp2_with fail
            refine ⟨⟨x.extract 4 x.size, k', L ++ [122], rfl, by have := HK2.out; omega, ⟨HK1.out, ?_, ?_, ?_⟩, ⟨?_⟩, ⟨below_trans HAL.out HB2.out⟩⟩, by have := HK2.out; simp only; omega⟩
            · have := HK.out.2.1
              rw [HK3.out, if_pos (have hN0 := HNN.out.symm.trans ((num_zero a b c d ra.1 rb.1 rc.1 rd'.1).2 HZ.out); by first | exact ⟨rfl, hN0⟩ | exact ⟨trivial, hN0⟩ | simp [hN0]), ← List.append_assoc] at this
              exact this
            · have h1 := HK.out.2.2.1
              have h2 := HK2.out
              rw [List.length_append]
              simp only [List.length_singleton]; omega
            · intro y hy
              rcases List.mem_append.1 hy with hy | hy
              · exact HK.out.2.2.2 y hy
              · rw [List.mem_singleton.1 hy]; omega
            · rw [nums_append]
              exact .inr H2.out
          · have hv : (a == 0 && (b == 0 && (c == 0 && d == 0))) = false := by
              simp
              intro h1 h2 h3 h4
              exact hz ⟨h1, h2, h3, h4⟩
            simp only [hv] at heq
            go_wp2_with fail
            refine (write_slice _ _ _ ⟨w1.heap.size, 0, none⟩ 5 5 (nums .u8 ((five N).take 5)) _ HIW.out (by rw [nums_length, List.length_take]; first | (simp [five]; done) | (simp [five]; omega)) (five_cells w1 N 5 (by omega)) HNE.out (fun u hu => by
              unfold nums at hu
              obtain ⟨y, _, rfl⟩ := List.mem_map.1 hu
              rfl) (by rw [nums_length]; have := HLL.out; omega) HAL.out.size).mono ?_
            rintro e2 w2 ⟨rfl, h2, hb2⟩
            have H2 := Aside0.mk h2
            have HB2 := Aside0.mk hb2
            clear h2 hb2
            go_wp2_with fail
            refine ⟨⟨x.extract 4 x.size, k', L ++ (five N).take 5, rfl, by have := HK2.out; omega, ⟨HK1.out, ?_, ?_, ?_⟩, ⟨?_⟩, ⟨below_trans HAL.out HB2.out⟩⟩, by have := HK2.out; simp only; omega⟩
            · have := HK.out.2.1
              rw [HK3.out, if_neg (fun h => hz ((num_zero a b c d ra.1 rb.1 rc.1 rd'.1).1 (HNN.out.trans h.2))), ← List.append_assoc] at this
              exact this
            · have h1 := HK.out.2.2.1
              have h2 := HK2.out
              rw [List.length_append]
              rw [List.length_take]; omega
            · intro y hy
              rcases List.mem_append.1 hy with hy | hy
              · exact HK.out.2.2.2 y hy
              · have := five_range N HNR.out.1 HNR.out.2 y (List.mem_of_mem_take hy); omega
            · rw [nums_append]
              exact .inr H2.out
        · have q2 : ((n : Int) == 4) = false := by simp; omega
          obtain ⟨m, hm⟩ : ∃ m : Nat, (n : Int) + 1 = (m : Int) := ⟨n + 1, by omega⟩
          have hm5 : (m : Int) ≤ 5 := by omega
          go_wp2_with fail
          refine (write_slice _ _ _ ⟨w1.heap.size, 0, none⟩ m 5 (nums .u8 ((five N).take m)) _ HIW.out (by rw [nums_length, List.length_take]; first | (simp [five]; done) | (simp [five]; omega)) (five_cells w1 N m (by omega)) HNE.out (fun u hu => by
            unfold nums at hu
            obtain ⟨y, _, rfl⟩ := List.mem_map.1 hu
            rfl) (by rw [nums_length]; have := HLL.out; omega) HAL.out.size).mono ?_
          rintro e2 w2 ⟨rfl, h2, hb2⟩
          have H2 := Aside0.mk h2
          have HB2 := Aside0.mk hb2
          clear h2 hb2
          go_wp2_with fail
          refine ⟨⟨x.extract n x.size, k', L ++ (five N).take m, rfl, by have := HK2.out; omega, ⟨HK1.out, ?_, ?_, ?_⟩, ⟨?_⟩, ⟨below_trans HAL.out HB2.out⟩⟩, by have := HK2.out; simp only; omega⟩
          · have := HK.out.2.1
            rw [HK3.out, if_neg (fun h => n4 h.1), show n + 1 = m by omega, ← List.append_assoc] at this
            exact this
          · have h1 := HK.out.2.2.1
            have h2 := HK2.out
            rw [List.length_append]
            rw [List.length_take]; omega
          · intro y hy
            rcases List.mem_append.1 hy with hy | hy
            · exact HK.out.2.2.2 y hy
            · have := five_range N HNR.out.1 HNR.out.2 y (List.mem_of_mem_take hy); omega
          · rw [nums_append]
            exact .inr H2.out
      · have hx00 : x.size = 0 := by omega
        have q1 : decide ((0 : Int) < (x.size : Int)) = false := decide_eq_false (by omega)
        have hnil : bytesOf x = [] := List.eq_nil_of_length_eq_zero (by rw [bytesOf_len]; exact hx00)
        have hL : L = b85 (s.size + 1) (bytesOf s) := by
          have := HK.out.2.1
          obtain ⟨k, rfl⟩ : ∃ m, k = m + 1 := ⟨k - 1, by have := HK.out.1; omega⟩
          rw [hnil, b85, if_pos rfl, List.append_nil] at this
          exact this
        have hb := H.out
        rw [← hL] at hb
        have HBD := Aside0.mk hb
        have HLL : Aside0 (L.length ≤ 400000) := ⟨by have := HK.out.2.2.1; omega⟩
        clear hb hL hnil hx00
        go_wp2_with fail
        refine (write_string _ _ _ ⟨#[126, 62]⟩ _ HI.out (by rw [nums_length]; have := HLL.out; show L.length + 2 ≤ _; omega) HB.out.size).mono ?_
        rintro e2 w2 ⟨rfl, h2, hb2⟩
        have H2 := Aside0.mk h2
        have HB2 := Aside0.mk (below_trans HB.out hb2)
        clear h2 hb2
        go_wp2_with fail
        refine (string_nums w.heap.size w.heap.size (L ++ [126, 62]) _ (fun b hb => by
          rcases List.mem_append.1 hb with hb | hb
          · exact HK.out.2.2.2 b hb
          · simp only [List.mem_cons, List.not_mem_nil, or_false] at hb
            rcases hb with rfl | rfl <;> omega) (by rw [nums_append]; exact .inr H2.out) HB2.out.size).mono ?_
        rintro e3 w3 ⟨rfl, hb3⟩
        have HB3 := Aside0.mk (below_trans HB2.out hb3)
        clear hb3
        go_wp2_with fail
        refine (bounded_call _ _ r e ?_).mono ?_
        · rw [strOf_size]
          have := HBD.out
          unfold bnd at this
          by_cases hq : (L ++ [126, 62]).length > 65536
          · rw [if_pos hq] at this
            rw [if_pos (by omega)]; exact this
          · rw [if_neg hq] at this
            rw [if_neg (by omega)]; exact this
        rintro e4 w4 ⟨rfl, rfl⟩
        go_wp2_with fail
        go_ret2
        exact ⟨rfl, HB3.out⟩
end Go.Proofs.Ytkfhpajnlaomeaa.G02b
