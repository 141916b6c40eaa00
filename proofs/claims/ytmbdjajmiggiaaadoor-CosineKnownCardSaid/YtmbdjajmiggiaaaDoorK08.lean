/- Plain laws of the transform (chapter 08): sums, the matrix, both transforms, how they undo each other, how errors grow. -/
namespace Go.Proofs.YtmbdjajmiggiaaaDoor.K08
/-- A sum of the values below n. -/
def sm : Nat → (Nat → Int) → Int
  | 0, _ => 0
  | n + 1, f => sm n f + f n
theorem sm_congr {n : Nat} {f g : Nat → Int} (h : ∀ i, i < n → f i = g i) : sm n f = sm n g := by
  induction n with
  | zero => rfl
  | succ n ih => unfold sm; rw [ih (fun i hi => h i (by omega)), h n (by omega)]
theorem sm_mul (n : Nat) (c : Int) (f : Nat → Int) : c * sm n f = sm n (fun i => c * f i) := by
  induction n with
  | zero => simp [sm]
  | succ n ih => unfold sm; rw [Int.mul_add, ih]
theorem sm_mulr (n : Nat) (c : Int) (f : Nat → Int) : sm n f * c = sm n (fun i => f i * c) := by
  rw [Int.mul_comm, sm_mul]; exact sm_congr fun i _ => Int.mul_comm _ _
theorem sm_add (n : Nat) (f g : Nat → Int) : sm n (fun i => f i + g i) = sm n f + sm n g := by
  induction n with
  | zero => rfl
  | succ n ih => unfold sm; rw [ih]; dsimp only; omega
theorem sm_zero (n : Nat) : sm n (fun _ => 0) = 0 := by
  induction n with
  | zero => rfl
  | succ n ih => unfold sm; rw [ih]; rfl
theorem sm_swap (n m : Nat) (f : Nat → Nat → Int) : sm n (fun i => sm m (f i)) = sm m (fun j => sm n (fun i => f i j)) := by
  induction n with
  | zero => simp only [sm]; exact (sm_zero m).symm
  | succ n ih => conv => lhs; unfold sm
                 rw [ih, ← sm_add]; rfl
theorem sm_blocks (n : Nat) (f : Nat → Int) : sm (8 * n) f = sm n (fun r => sm 8 (fun c => f (8 * r + c))) := by
  induction n with
  | zero => rfl
  | succ n ih =>
    conv => rhs; unfold sm
    rw [← ih, show 8 * (n + 1) = 8 * n + 8 by omega]
    simp only [sm]
    simp only [Int.zero_add, Nat.add_zero]
    omega
theorem sm_64 (f : Nat → Int) : sm 64 f = sm 8 (fun r => sm 8 (fun c => f (8 * r + c))) := sm_blocks 8 f
theorem sm_le {n : Nat} {f g : Nat → Int} (h : ∀ i, i < n → f i ≤ g i) : sm n f ≤ sm n g := by
  induction n with
  | zero => exact Int.le_refl _
  | succ n ih => unfold sm; have := ih (fun i hi => h i (by omega)); have := h n (by omega); omega
theorem sm_one (n : Nat) (k : Nat) (hk : k < n) (f : Nat → Int) (h : ∀ i, i < n → i ≠ k → f i = 0) : sm n f = f k := by
  induction n with
  | zero => omega
  | succ n ih =>
    unfold sm
    by_cases e : k = n
    · subst e
      rw [sm_congr (g := fun _ => 0) (fun i hi => h i (by omega) (by omega)), sm_zero]; omega
    · rw [ih (by omega) (fun i hi hne => h i (by omega) hne), h n (by omega) (by omega)]; omega

/-- The matrix. -/
def mat : List (List Int) := [[1, 1, 1, 1, 1, 1, 1, 1], [10, 9, 6, 2, -2, -6, -9, -10], [3, 1, -1, -3, -3, -1, 1, 3], [9, -2, -10, -6, 6, 10, 2, -9], [1, -1, -1, 1, 1, -1, -1, 1], [6, -10, 2, 9, -9, -2, 10, -6], [1, -3, 3, -1, -1, 3, -3, 1], [2, -6, 9, -10, 10, -9, 6, -2]]
def T (i r : Nat) : Int := (mat.getD i []).getD r 0
def nrm (i : Nat) : Int := [8, 442, 40, 442, 8, 442, 40, 442].getD i 0
def wt (i : Nat) : Int := [1105, 20, 221, 20, 1105, 20, 221, 20].getD i 0
theorem nrm_eq : ∀ i, i < 8 → sm 8 (fun r => T i r * T i r) = nrm i := by decide
theorem wt_eq : ∀ i, i < 8 → 8840 / nrm i = wt i := by decide
theorem T_bd : ∀ i, i < 8 → ∀ r, r < 8 → -10 ≤ T i r ∧ T i r ≤ 10 := by decide
theorem wt_bd : ∀ i, i < 8 → 20 ≤ wt i ∧ wt i ≤ 1105 := by decide
theorem Tw_bd : ∀ i, i < 8 → ∀ r, r < 8 → -1105 ≤ T i r * wt i ∧ T i r * wt i ≤ 1105 := by decide
/-- The rows are orthogonal: by columns. -/
theorem orth : ∀ r, r < 8 → ∀ r', r' < 8 → sm 8 (fun i => T i r * wt i * T i r') = if r' = r then 8840 else 0 := by decide

/-- The coefficients, as the program sums them. -/
def fwd (b : Nat → Int) (i j : Nat) : Int := sm 8 fun r => T i r * sm 8 fun c => T j c * b (8 * r + c)
/-- The block's sums, as the program sums them. -/
def inv (y : Nat → Int) (r c : Nat) : Int := sm 8 fun i => T i r * wt i * sm 8 fun j => T j c * wt j * y (8 * i + j)
/-- As the reference sums them. -/
def fwdR (b : Nat → Int) (k : Nat) : Int := sm 64 fun l => T (k / 8) (l / 8) * T (k % 8) (l % 8) * b l
def invR (y : Nat → Int) (l : Nat) : Int := sm 64 fun k => T (k / 8) (l / 8) * T (k % 8) (l % 8) * y k * wt (k / 8) * wt (k % 8)
theorem div8 (r c : Nat) (h : c < 8) : (8 * r + c) / 8 = r := by omega
theorem mod8 (r c : Nat) (h : c < 8) : (8 * r + c) % 8 = c := by omega
theorem fwd_ref (b : Nat → Int) (k : Nat) : fwdR b k = fwd b (k / 8) (k % 8) := by
  unfold fwdR fwd
  rw [sm_64]
  refine sm_congr fun r hr => ?_
  rw [sm_mul]
  refine sm_congr fun c hc => ?_
  rw [div8 r c hc, mod8 r c hc, Int.mul_assoc]
theorem inv_ref (y : Nat → Int) (l : Nat) : invR y l = inv y (l / 8) (l % 8) := by
  unfold invR inv
  rw [sm_64]
  refine sm_congr fun r hr => ?_
  rw [sm_mul]
  refine sm_congr fun c hc => ?_
  rw [div8 r c hc, mod8 r c hc]
  simp only [Int.mul_assoc, Int.mul_left_comm, Int.mul_comm]
theorem inv_congr {y z : Nat → Int} (h : ∀ k, k < 64 → y k = z k) (r c : Nat) : inv y r c = inv z r c :=
  sm_congr fun i hi => by rw [sm_congr fun j hj => by rw [h (8 * i + j) (by omega)]]
theorem fwd_congr {y z : Nat → Int} (h : ∀ k, k < 64 → y k = z k) (r c : Nat) : fwd y r c = fwd z r c :=
  sm_congr fun i hi => by rw [sm_congr fun j hj => by rw [h (8 * i + j) (by omega)]]
theorem inv_add (y z : Nat → Int) (r c : Nat) : inv (fun k => y k + z k) r c = inv y r c + inv z r c := by
  unfold inv
  rw [← sm_add]
  refine sm_congr fun i _ => ?_
  rw [← Int.mul_add, ← sm_add]
  congr 1
  exact sm_congr fun j _ => Int.mul_add _ _ _
theorem fwd_add (y z : Nat → Int) (r c : Nat) : fwd (fun k => y k + z k) r c = fwd y r c + fwd z r c := by
  unfold fwd
  rw [← sm_add]
  refine sm_congr fun i _ => ?_
  rw [← Int.mul_add, ← sm_add]
  congr 1
  exact sm_congr fun j _ => Int.mul_add _ _ _
/-- One dimension: the transform back. -/
theorem back1 (x : Nat → Int) (c : Nat) (hc : c < 8) : sm 8 (fun j => T j c * wt j * sm 8 (fun d => T j d * x d)) = 8840 * x c := by
  have e : sm 8 (fun j => T j c * wt j * sm 8 (fun d => T j d * x d)) = sm 8 (fun j => sm 8 (fun d => T j c * wt j * T j d * x d)) :=
    sm_congr fun j _ => by rw [sm_mul]; exact sm_congr fun d _ => (Int.mul_assoc (T j c * wt j) (T j d) (x d)).symm
  rw [e, sm_swap]
  have e2 : sm 8 (fun d => sm 8 (fun j => T j c * wt j * T j d * x d)) = sm 8 (fun d => (if d = c then 8840 else 0) * x d) :=
    sm_congr fun d hd => by rw [← sm_mulr, orth c hc d hd]
  rw [e2, sm_one 8 c hc _ (fun i _ hi => by simp [hi])]
  simp
theorem inv_fwd (b y : Nat → Int) (hy : ∀ i, i < 8 → ∀ j, j < 8 → y (8 * i + j) = fwd b i j) (r c : Nat) (hr : r < 8) (hc : c < 8) : inv y r c = 8840 * 8840 * b (8 * r + c) := by
  unfold inv
  have e : ∀ i, i < 8 → sm 8 (fun j => T j c * wt j * y (8 * i + j)) = sm 8 (fun r' => T i r' * (8840 * b (8 * r' + c))) := fun i hi => by
    have e1 : sm 8 (fun j => T j c * wt j * y (8 * i + j)) = sm 8 (fun j => T j c * wt j * sm 8 (fun r' => T i r' * sm 8 fun d => T j d * b (8 * r' + d))) :=
      sm_congr fun j hj => by rw [hy i hi j hj]; rfl
    have e2 : ∀ j, j < 8 → T j c * wt j * sm 8 (fun r' => T i r' * sm 8 fun d => T j d * b (8 * r' + d)) = sm 8 (fun r' => T i r' * (T j c * wt j * sm 8 fun d => T j d * b (8 * r' + d))) := fun j _ => by
      rw [sm_mul]; exact sm_congr fun r' _ => Int.mul_left_comm _ _ _
    rw [e1, sm_congr e2, sm_swap]
    refine sm_congr fun r' hr' => ?_
    rw [← sm_mul, back1 (fun d => b (8 * r' + d)) c hc]
  rw [sm_congr fun i hi => by rw [e i hi], back1 (fun r' => 8840 * b (8 * r' + c)) r hr, Int.mul_assoc]
/-- One dimension: the sum of squares. -/
theorem pars1 (x : Nat → Int) : sm 8 (fun j => wt j * (sm 8 (fun d => T j d * x d) * sm 8 (fun d => T j d * x d))) = 8840 * sm 8 (fun d => x d * x d) := by
  have e : ∀ j, j < 8 → wt j * (sm 8 (fun d => T j d * x d) * sm 8 (fun d => T j d * x d)) = sm 8 (fun c => x c * (T j c * wt j * sm 8 (fun d => T j d * x d))) := fun j _ => by
    have : wt j * (sm 8 (fun d => T j d * x d) * sm 8 (fun d => T j d * x d)) = (wt j * sm 8 (fun d => T j d * x d)) * sm 8 (fun d => T j d * x d) := by rw [Int.mul_assoc]
    rw [this, sm_mul 8 (wt j * sm 8 (fun d => T j d * x d))]
    refine sm_congr fun c _ => ?_
    simp only [Int.mul_assoc, Int.mul_comm]
  rw [sm_congr e, sm_swap, sm_mul]
  refine sm_congr fun c hc => ?_
  rw [← sm_mul, back1 x c hc]
  exact Int.mul_left_comm _ _ _
theorem keeps (b y : Nat → Int) (hy : ∀ i, i < 8 → ∀ j, j < 8 → y (8 * i + j) = fwd b i j) : sm 64 (fun k => wt (k / 8) * wt (k % 8) * y k * y k) = 78145600 * sm 64 (fun k => b k * b k) := by
  rw [sm_64, sm_64]
  have e1 : ∀ i, i < 8 → sm 8 (fun j => wt ((8 * i + j) / 8) * wt ((8 * i + j) % 8) * y (8 * i + j) * y (8 * i + j)) = sm 8 (fun j => wt j * (wt i * (fwd b i j * fwd b i j))) := fun i hi =>
    sm_congr fun j hj => by
      rw [div8 i j hj, mod8 i j hj, hy i hi j hj]
      simp only [Int.mul_assoc, Int.mul_comm]
  rw [sm_congr e1, sm_swap]
  have e2 : ∀ j, j < 8 → sm 8 (fun i => wt j * (wt i * (fwd b i j * fwd b i j))) = wt j * (8840 * sm 8 (fun r => sm 8 (fun c => T j c * b (8 * r + c)) * sm 8 (fun c => T j c * b (8 * r + c)))) := fun j _ => by
    rw [← sm_mul]
    congr 1
    exact pars1 (fun r => sm 8 (fun c => T j c * b (8 * r + c)))
  rw [sm_congr e2]
  have e3 : ∀ j, j < 8 → wt j * (8840 * sm 8 (fun r => sm 8 (fun c => T j c * b (8 * r + c)) * sm 8 (fun c => T j c * b (8 * r + c)))) = 8840 * sm 8 (fun r => wt j * (sm 8 (fun c => T j c * b (8 * r + c)) * sm 8 (fun c => T j c * b (8 * r + c)))) := fun j _ => by
    rw [Int.mul_left_comm, sm_mul 8 (wt j)]
  rw [sm_congr e3, ← sm_mul, sm_swap, sm_congr fun r _ => pars1 (fun c => b (8 * r + c)), ← sm_mul, ← Int.mul_assoc]
  rfl
/-- How far errors of the coefficients reach. -/
def ab (x : Int) : Int := if x < 0 then -x else x
theorem reach : ∀ r, r < 8 → sm 8 (fun i => ab (T i r * wt i)) = 3634 := by decide
theorem reachT : ∀ i, i < 8 → sm 8 (fun r => ab (T i r)) ≤ 54 := by decide
theorem ab_mul {t x m : Int} (h1 : -m ≤ x) (h2 : x ≤ m) : -(ab t * m) ≤ t * x ∧ t * x ≤ ab t * m := by
  unfold ab
  split
  · have a := Int.mul_le_mul_of_nonneg_left (c := -t) h2 (by omega)
    have b := Int.mul_le_mul_of_nonneg_left (c := -t) h1 (by omega)
    simp only [Int.mul_neg, Int.neg_mul] at *
    omega
  · have a := Int.mul_le_mul_of_nonneg_left (c := t) h2 (by omega)
    have b := Int.mul_le_mul_of_nonneg_left (c := t) h1 (by omega)
    simp only [Int.mul_neg] at *
    omega
theorem sm_neg (n : Nat) (f : Nat → Int) : sm n (fun i => -f i) = -sm n f := by
  induction n with
  | zero => rfl
  | succ n ih => unfold sm; rw [ih]; dsimp only; omega
theorem sm_bd (n : Nat) (t x : Nat → Int) (m : Int) (h : ∀ i, i < n → -m ≤ x i ∧ x i ≤ m) : -(sm n (fun i => ab (t i)) * m) ≤ sm n (fun i => t i * x i) ∧ sm n (fun i => t i * x i) ≤ sm n (fun i => ab (t i)) * m := by
  rw [sm_mulr, ← sm_neg]
  exact ⟨sm_le fun i hi => (ab_mul (h i hi).1 (h i hi).2).1, sm_le fun i hi => (ab_mul (h i hi).1 (h i hi).2).2⟩
theorem inv_bd (y : Nat → Int) (m : Int) (h : ∀ k, k < 64 → -m ≤ y k ∧ y k ≤ m) (r c : Nat) (hr : r < 8) (hc : c < 8) : -(3634 * (3634 * m)) ≤ inv y r c ∧ inv y r c ≤ 3634 * (3634 * m) := by
  have h1 : ∀ i, i < 8 → -(3634 * m) ≤ sm 8 (fun j => T j c * wt j * y (8 * i + j)) ∧ sm 8 (fun j => T j c * wt j * y (8 * i + j)) ≤ 3634 * m := fun i hi => by
    have := sm_bd 8 (fun j => T j c * wt j) (fun j => y (8 * i + j)) m (fun j hj => h _ (by omega))
    rwa [reach c hc] at this
  have := sm_bd 8 (fun i => T i r * wt i) (fun i => sm 8 (fun j => T j c * wt j * y (8 * i + j))) (3634 * m) h1
  rwa [reach r hr] at this
theorem fwd_bd (b : Nat → Int) (m : Int) (hm : 0 ≤ m) (h : ∀ k, k < 64 → -m ≤ b k ∧ b k ≤ m) (i j : Nat) (hi : i < 8) (hj : j < 8) : -(54 * (54 * m)) ≤ fwd b i j ∧ fwd b i j ≤ 54 * (54 * m) := by
  have key : ∀ k, k < 8 → ∀ m : Int, 0 ≤ m → sm 8 (fun r => ab (T k r)) * m ≤ 54 * m := fun k hk m hm => Int.mul_le_mul_of_nonneg_right (reachT k hk) hm
  have h1 : ∀ r, r < 8 → -(54 * m) ≤ sm 8 (fun c => T j c * b (8 * r + c)) ∧ sm 8 (fun c => T j c * b (8 * r + c)) ≤ 54 * m := fun r hr => by
    have := sm_bd 8 (fun c => T j c) (fun c => b (8 * r + c)) m (fun c hc => h _ (by omega))
    have := key j hj m hm
    omega
  have := sm_bd 8 (fun r => T i r) (fun r => sm 8 (fun c => T j c * b (8 * r + c))) (54 * m) h1
  have := key i hi (54 * m) (by omega)
  unfold fwd
  omega
/-- The rounded quotient. -/
def rnd (n : Int) : Int := (2 * n + 78145600) / 156291200
theorem rnd_exact (b : Int) : rnd (8840 * 8840 * b) = b := by unfold rnd; omega
/-- The error of one coefficient and of one element. -/
theorem quant_err (y q : Int) (hq : 1 ≤ q) : -q ≤ 2 * ((2 * y + q) / (2 * q) * q - y) ∧ 2 * ((2 * y + q) / (2 * q) * q - y) ≤ q := by
  have h := Int.emod_add_mul_ediv (2 * y + q) (2 * q)
  have h0 := Int.emod_nonneg (2 * y + q) (show 2 * q ≠ 0 by omega)
  have h1 := Int.emod_lt_of_pos (2 * y + q) (show 0 < 2 * q by omega)
  have e : 2 * q * ((2 * y + q) / (2 * q)) = 2 * ((2 * y + q) / (2 * q) * q) := by rw [Int.mul_assoc, Int.mul_comm q]
  rw [e] at h
  omega
theorem near (b : Int) (e q : Int) (h1 : -(3634 * (3634 * q)) ≤ 2 * e) (h2 : 2 * e ≤ 3634 * (3634 * q)) : b - (17 * q + 100) / 200 ≤ rnd (8840 * 8840 * b + e) ∧ rnd (8840 * 8840 * b + e) ≤ b + (17 * q + 100) / 200 := by
  unfold rnd; omega
end Go.Proofs.YtmbdjajmiggiaaaDoor.K08
