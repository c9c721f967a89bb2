/- Doubles by their words: sign, rung, value; the order; twice and half exactly. Plain laws over the format. -/
import Ieee.Arith
namespace Go.Proofs.Ytebkbodkkehmfaa.F64
open Ieee

def B : Nat := 4503599627370496
def S : Nat := 9223372036854775808
def I : Nat := 9218868437227405312

theorem B_eq : B = 2 ^ 52 := by decide
theorem I_eq : I = 2047 * B := by decide
theorem S_eq : S = 2048 * B := by decide
theorem binade_eq : double.binade = B := by decide
theorem infRung_eq : double.infRung = I := by decide
theorem signWeight_eq : double.signWeight = S := by decide
theorem least_eq : double.leastPlace = -1074 := by decide
theorem frac_eq : double.fractionBits = 52 := rfl

/-- the value of a rung, in units of 2^-1074 -/
def V (r : Nat) : Nat := if r < B then r else (B + r % B) * 2 ^ (r / B - 1)
/-- significand and exponent of a rung: V r = K r * 2 ^ E r -/
def K (r : Nat) : Nat := if r < B then r else B + r % B
def E (r : Nat) : Nat := if r < B then 0 else r / B - 1

theorem B_pos : 0 < B := by decide
theorem V_eq (r : Nat) : V r = K r * 2 ^ E r := by
  unfold V K E; split <;> simp

theorem rung_eq (r : Nat) : E r * B + K r = r := by
  unfold E K
  split
  · simp
  · rename_i h
    have h1 : 1 ≤ r / B := (Nat.one_le_div_iff B_pos).2 (by omega)
    have h2 := Nat.div_add_mod r B
    obtain ⟨q, hq⟩ : ∃ q, r / B = q + 1 := ⟨r / B - 1, by omega⟩
    rw [hq] at h2 ⊢
    have : B * (q + 1) = q * B + B := by rw [Nat.mul_add, Nat.mul_one, Nat.mul_comm]
    simp only [Nat.add_sub_cancel]
    omega

theorem K_lt (r : Nat) : K r < 2 * B := by
  unfold K
  have := Nat.mod_lt r B_pos
  split <;> omega

theorem V_zero : V 0 = 0 := by decide

theorem V_succ (r : Nat) : V (r + 1) = V r + 2 ^ E r := by
  unfold V E
  by_cases h : r + 1 < B
  · rw [if_pos h, if_pos (by omega), if_pos (by omega)]
  · rw [if_neg h]
    by_cases h0 : r < B
    · have : r + 1 = B := by omega
      rw [if_pos h0, if_pos h0, this, Nat.mod_self, Nat.div_self B_pos]
      simp
    · rw [if_neg h0, if_neg h0]
      have hd := Nat.div_add_mod r B
      have hm := Nat.mod_lt r B_pos
      have h1 : 1 ≤ r / B := (Nat.one_le_div_iff B_pos).2 (by omega)
      by_cases hc : r % B + 1 < B
      · have e1 : (r + 1) / B = r / B := by
          rw [Nat.div_eq_iff B_pos]
          constructor
          · rw [Nat.mul_comm]; omega
          · have := Nat.mul_comm (r / B) B; omega
        have e2 : (r + 1) % B = r % B + 1 := by
          have := Nat.div_add_mod (r + 1) B
          rw [e1] at this; omega
        rw [e1, e2, ← Nat.add_assoc, Nat.add_mul, Nat.one_mul]
      · have hc' : r % B + 1 = B := by omega
        have e : r + 1 = B * (r / B + 1) := by rw [Nat.mul_add, Nat.mul_one]; omega
        have e1 : (r + 1) / B = r / B + 1 := by rw [e, Nat.mul_div_cancel_left _ B_pos]
        have e2 : (r + 1) % B = 0 := by rw [e, Nat.mul_mod_right]
        obtain ⟨q, hq⟩ : ∃ q, r / B = q + 1 := ⟨r / B - 1, by omega⟩
        have e3 : r % B = B - 1 := by omega
        have e4 : B + (B - 1) + 1 = B * 2 := by have := B_pos; omega
        rw [e1, e2, e3, hq]
        simp only [Nat.add_sub_cancel, Nat.add_zero]
        rw [← Nat.succ_mul, Nat.succ_eq_add_one, e4, Nat.pow_succ, Nat.mul_assoc, Nat.mul_comm 2]

theorem V_lt {r s : Nat} (h : r < s) : V r < V s := by
  induction s with
  | zero => omega
  | succ s ih =>
    have h2 := V_succ s
    have h3 : 0 < 2 ^ E s := Nat.two_pow_pos _
    by_cases e : r = s
    · subst e; omega
    · have := ih (by omega); omega
theorem V_lt_iff {r s : Nat} : V r < V s ↔ r < s := by
  constructor
  · intro h
    rcases Nat.lt_trichotomy r s with h1 | h1 | h1
    · exact h1
    · subst h1; omega
    · have := V_lt h1; omega
  · exact V_lt
theorem V_inj {r s : Nat} (h : V r = V s) : r = s := by
  rcases Nat.lt_trichotomy r s with h1 | h1 | h1
  · have := V_lt h1; omega
  · exact h1
  · have := V_lt h1; omega
theorem V_pos {r : Nat} (h : 0 < r) : 0 < V r := by have := V_lt h; rw [V_zero] at this; exact this

/-- doubling -/
theorem V_add {r : Nat} (h : B ≤ r) : V (r + B) = 2 * V r := by
  unfold V
  rw [if_neg (by have := B_pos; omega), if_neg (by omega), Nat.add_mod_right, Nat.add_div_right _ B_pos]
  have h1 : 1 ≤ r / B := (Nat.one_le_div_iff B_pos).2 (by omega)
  obtain ⟨q, hq⟩ : ∃ q, r / B = q + 1 := ⟨r / B - 1, by omega⟩
  rw [hq]
  simp only [Nat.add_sub_cancel]
  rw [Nat.pow_succ, ← Nat.mul_assoc, Nat.mul_comm 2]
theorem V_small {r : Nat} (h : r ≤ B) : V r = r := by
  unfold V
  by_cases e : r = B
  · subst e; rw [if_neg (by omega), Nat.mod_self, Nat.div_self B_pos]; simp
  · rw [if_pos (by omega)]
theorem V_low {r : Nat} (h : r ≤ 2 * B) : V r = r := by
  by_cases h0 : r ≤ B
  · exact V_small h0
  · by_cases h1 : r = 2 * B
    · subst h1
      have : 2 * B = B + B := by omega
      rw [this, V_add (Nat.le_refl _), V_small (Nat.le_refl _)]; omega
    · unfold V
      rw [if_neg (by omega)]
      have e1 : r / B = 1 := by rw [Nat.div_eq_iff B_pos]; constructor <;> omega
      have e2 := Nat.div_add_mod r B
      rw [e1] at e2 ⊢
      simp; omega
theorem V_twice {r : Nat} (h : r ≤ B) : V (2 * r) = 2 * V r := by rw [V_low (by omega), V_small h]

/-- every significand of at most 53 bits at any exponent is a rung's value -/
theorem V_scale (r t : Nat) (h : B ≤ r) : V (r + t * B) = V r * 2 ^ t := by
  induction t with
  | zero => simp
  | succ t ih =>
    have : r + (t + 1) * B = (r + t * B) + B := by rw [Nat.succ_mul]; omega
    rw [this, V_add (by omega), ih, Nat.pow_succ, Nat.mul_comm (2 ^ t) 2, Nat.mul_left_comm]

theorem V_unscale {r t n : Nat} (h : V r = n * 2 ^ t) (hn : 0 < n) (hn2 : n ≤ 2 * B) : ∀ j, j ≤ t → ∃ s, V s = n * 2 ^ j ∧ s ≤ r := by
  intro j hj
  induction t generalizing r with
  | zero => have : j = 0 := by omega
            subst this; exact ⟨r, h, Nat.le_refl _⟩
  | succ t ih =>
    by_cases e : j = t + 1
    · subst e; exact ⟨r, h, Nat.le_refl _⟩
    · by_cases hr : r < 2 * B
      · rw [V_low (by omega)] at h
        have hb : n * 2 ^ j ≤ r := by
          rw [h]; exact Nat.mul_le_mul_left _ (Nat.pow_le_pow_right (by omega) (by omega))
        exact ⟨n * 2 ^ j, V_low (by omega), hb⟩
      · have e1 : r = (r - B) + B := by omega
        rw [e1, V_add (by omega), Nat.pow_succ] at h
        obtain ⟨s, hs, hl⟩ := ih (r := r - B) (by rw [← Nat.mul_assoc] at h; omega) (by omega)
        exact ⟨s, hs, by omega⟩

theorem V_top (t : Nat) : V ((t + 1) * B) = B * 2 ^ t := by
  have : (t + 1) * B = B + t * B := by rw [Nat.succ_mul]; omega
  rw [this, V_scale _ _ (Nat.le_refl _), V_small (Nat.le_refl _)]

/-- a rung for every significand of at most 53 bits -/
theorem exists_rung {n t : Nat} (hn : n ≤ 2 * B) (ht : t ≤ 2045) : ∃ r, V r = n * 2 ^ t ∧ r ≤ I := by
  by_cases h0 : n ≤ B
  · -- grow from n
    induction t with
    | zero => exact ⟨n, by rw [V_small h0]; simp, by rw [I_eq]; have := B_pos; omega⟩
    | succ t ih =>
      obtain ⟨r, hr, hl⟩ := ih (by omega)
      have hmax : V r ≤ B * 2 ^ t := by rw [hr]; exact Nat.mul_le_mul_right _ h0
      have hr2 : r ≤ (t + 1) * B := by
        rcases Nat.lt_or_ge ((t + 1) * B) r with hlt | hge
        · have := V_lt hlt; rw [V_top] at this; omega
        · exact hge
      have hb : (t + 1) * B ≤ 2045 * B := Nat.mul_le_mul_right _ (by omega)
      by_cases hrB : B ≤ r
      · refine ⟨r + B, by rw [V_add hrB, hr, Nat.pow_succ, Nat.mul_comm (2 ^ t) 2, Nat.mul_left_comm], ?_⟩
        rw [I_eq]; omega
      · refine ⟨2 * r, by rw [V_twice (by omega), hr, Nat.pow_succ, Nat.mul_comm (2 ^ t) 2, Nat.mul_left_comm], ?_⟩
        rw [I_eq]; have := B_pos; omega
  · refine ⟨n + t * B, by rw [V_scale _ _ (by omega), V_low hn], ?_⟩
    have : t * B ≤ 2045 * B := Nat.mul_le_mul_right _ ht
    rw [I_eq]; omega

/-! ### words -/
def neg (w : Nat) : Bool := w / S % 2 == 1
def rung (w : Nat) : Nat := w % S
def isNaN (w : Nat) : Bool := decide (I < rung w)
/-- the place of a rung -/
theorem read_eq (w : Nat) : double.read w = if rung w < I then .number (neg w) (K (rung w)) (-1074 + (E (rung w) : Nat)) else if rung w = I then .infinity (neg w) else .nan (neg w) (rung w - I) := by
  unfold Format.read
  simp only [signWeight_eq, binade_eq, infRung_eq, least_eq]
  show (if rung w < B then _ else _) = _
  have hBI : B ≤ I := by decide
  unfold K E
  by_cases h : rung w < B
  · rw [if_pos h, if_pos (by omega)]
    simp only [if_pos h]
    rfl
  · rw [if_neg h]
    simp only [if_neg h]
    rfl

/-- the signed rung: by it the floats that are no NaN stand in their order -/
def sr (w : Nat) : Int := if neg w then -(rung w : Int) else (rung w : Int)

def sg (s : Bool) (v : Nat) : Int := if s then -(v : Int) else (v : Int)

theorem signed_eq (s : Bool) (m u : Nat) : signed s m u = sg s (m * 2 ^ u) := by
  unfold signed sg; rw [Nat.shiftLeft_eq]

theorem cmp_lt {x y : Int} (h : x < y) : compare x y = .lt := by
  show compareOfLessAndEq x y = _
  unfold compareOfLessAndEq; rw [if_pos h]
theorem cmp_gt {x y : Int} (h : y < x) : compare x y = .gt := by
  show compareOfLessAndEq x y = _
  unfold compareOfLessAndEq; rw [if_neg (by omega), if_neg (by omega)]
theorem cmp_self (x : Int) : compare x x = .eq := by
  show compareOfLessAndEq x x = _
  unfold compareOfLessAndEq; rw [if_neg (by omega), if_pos rfl]

theorem compare_mul (x y : Int) (c : Nat) (hc : 0 < c) : compare (x * c) (y * c) = compare x y := by
  have hc' : (0 : Int) < c := by omega
  rcases Int.lt_trichotomy x y with h | h | h
  · have h2 := Int.mul_lt_mul_of_pos_right h hc'
    rw [cmp_lt h, cmp_lt h2]
  · subst h; simp
  · have h2 := Int.mul_lt_mul_of_pos_right h hc'
    rw [cmp_gt h, cmp_gt h2]

theorem sg_mul (s : Bool) (v c : Nat) : sg s v * c = sg s (v * c) := by
  unfold sg; split
  · rw [Int.neg_mul, Int.natCast_mul]
  · rw [Int.natCast_mul]

theorem order_number (s t : Bool) (m n p q : Nat) : Datum.order (.number s m (-1074 + (p : Int))) (.number t n (-1074 + (q : Int))) = some (compare (sg s (m * 2 ^ p)) (sg t (n * 2 ^ q))) := by
  simp only [Datum.order, signed_eq]
  congr 1
  have hp : ((-1074 : Int) + p - min (-1074 + (p : Int)) (-1074 + (q : Int))).toNat = p - min p q := by omega
  have hq : ((-1074 : Int) + q - min (-1074 + (p : Int)) (-1074 + (q : Int))).toNat = q - min p q := by omega
  rw [hp, hq, ← compare_mul _ _ (2 ^ min p q) (Nat.two_pow_pos _), sg_mul, sg_mul, Nat.mul_assoc, Nat.mul_assoc, ← Nat.pow_add, ← Nat.pow_add]
  rw [Nat.sub_add_cancel (Nat.min_le_left _ _), Nat.sub_add_cancel (Nat.min_le_right _ _)]

theorem compare_sg (s t : Bool) (r r' : Nat) : compare (sg s (V r)) (sg t (V r')) = compare (sg s r) (sg t r') := by
  have hz := V_zero
  have key : ∀ x y : Nat, compare ((V x : Int)) (V y) = compare (x : Int) y := by
    intro x y
    rcases Nat.lt_trichotomy x y with h | h | h
    · have := V_lt h
      rw [cmp_lt (by omega), cmp_lt (by omega)]
    · subst h; simp
    · have := V_lt h
      rw [cmp_gt (by omega), cmp_gt (by omega)]
  have zero : ∀ x : Nat, V x = 0 ↔ x = 0 := fun x => ⟨fun h => V_inj (by rw [h, hz]), fun h => by rw [h, hz]⟩
  have negc : ∀ x y : Int, compare (-x) (-y) = compare y x := by
    intro x y
    rcases Int.lt_trichotomy x y with h | h | h
    · rw [cmp_gt (by omega), cmp_gt (by omega)]
    · subst h; simp
    · rw [cmp_lt (by omega), cmp_lt (by omega)]
  cases s <;> cases t <;> simp only [sg, Bool.false_eq_true, if_false, if_true]
  · exact key r r'
  · by_cases h : V r = 0 ∧ V r' = 0
    · rw [(zero r).1 h.1, (zero r').1 h.2, hz]
    · have h' : ¬ (r = 0 ∧ r' = 0) := fun h2 => h ⟨(zero r).2 h2.1, (zero r').2 h2.2⟩
      rw [cmp_gt (by omega), cmp_gt (by omega)]
  · by_cases h : V r = 0 ∧ V r' = 0
    · rw [(zero r).1 h.1, (zero r').1 h.2, hz]
    · have h' : ¬ (r = 0 ∧ r' = 0) := fun h2 => h ⟨(zero r).2 h2.1, (zero r').2 h2.2⟩
      rw [cmp_lt (by omega), cmp_lt (by omega)]
  · rw [negc, negc]; exact key r' r

theorem order_eq (a b : Nat) : double.order a b = if isNaN a || isNaN b then none else some (compare (sr a) (sr b)) := by
  unfold Format.order isNaN
  rw [read_eq, read_eq]
  by_cases ha : rung a < I
  · rw [if_pos ha]
    by_cases hb : rung b < I
    · rw [if_pos hb, order_number, ← V_eq, ← V_eq, compare_sg, if_neg (by simp; omega)]
      rfl
    · rw [if_neg hb]
      by_cases hb' : rung b = I
      · rw [if_pos hb', if_neg (by simp; omega)]
        simp only [Datum.order]
        congr 1
        unfold sr
        rw [hb']
        cases neg b
        · simp only [Bool.false_eq_true, if_false]
          exact (cmp_lt (by split <;> omega)).symm
        · simp only [if_true]
          exact (cmp_gt (by split <;> omega)).symm
      · rw [if_neg hb', if_pos (by simp; omega)]; rfl
  · rw [if_neg ha]
    by_cases ha' : rung a = I
    · rw [if_pos ha']
      by_cases hb : rung b < I
      · rw [if_pos hb, if_neg (by simp; omega)]
        simp only [Datum.order]
        congr 1
        unfold sr
        rw [ha']
        cases neg a
        · simp only [Bool.false_eq_true, if_false]
          exact (cmp_gt (by split <;> omega)).symm
        · simp only [if_true]
          exact (cmp_lt (by split <;> omega)).symm
      · rw [if_neg hb]
        by_cases hb' : rung b = I
        · rw [if_pos hb', if_neg (by simp; omega)]
          simp only [Datum.order]
          congr 1
          unfold sr
          rw [ha', hb']
          have : (0 : Int) < I := by decide
          cases neg a <;> cases neg b <;> simp only [Bool.false_eq_true, if_false, if_true, Bool.toNat_false, Bool.toNat_true]
          · simp
          · rw [cmp_gt (by omega)]; rfl
          · rw [cmp_lt (by omega)]; rfl
          · simp
        · rw [if_neg hb', if_pos (by simp; omega)]; rfl
    · have hc : (decide (I < rung a) || decide (I < rung b)) = true := by rw [Bool.or_eq_true]; left; rw [decide_eq_true_eq]; omega
      rw [if_neg ha', if_pos hc]
      by_cases hb : rung b < I
      · rw [if_pos hb]; rfl
      · rw [if_neg hb]; by_cases hb' : rung b = I
        · rw [if_pos hb']; rfl
        · rw [if_neg hb']; rfl

/-! ### writing -/
theorem word_eq (s : Bool) (r : Nat) : double.word s r = if s then S + r else r := by
  unfold Format.word; rw [signWeight_eq]

theorem log2_mul_pow (n k : Nat) (h : 0 < n) : (n * 2 ^ k).log2 = n.log2 + k := by
  induction k with
  | zero => simp
  | succ k ih =>
    have : n * 2 ^ (k + 1) = 2 * (n * 2 ^ k) := by rw [Nat.pow_succ]; rw [← Nat.mul_assoc, Nat.mul_comm]
    rw [this, Nat.log2_two_mul (Nat.mul_ne_zero (by omega) (Nat.pos_iff_ne_zero.1 (Nat.two_pow_pos _))), ih]; omega

theorem log2_V {r : Nat} (h : 0 < r) : (V r).log2 - 52 = E r ∧ (B ≤ r → (V r).log2 = 52 + E r) := by
  rw [V_eq]
  have hK : 0 < K r := by unfold K; have := B_pos; split <;> omega
  rw [log2_mul_pow _ _ hK]
  by_cases h0 : r < B
  · have e : E r = 0 := by unfold E; rw [if_pos h0]
    have k : K r = r := by unfold K; rw [if_pos h0]
    rw [e, k]
    have : r.log2 < 52 := (Nat.log2_lt (by omega)).2 (by rw [← B_eq]; exact h0)
    exact ⟨by omega, by omega⟩
  · have k1 : 2 ^ 52 ≤ K r := by rw [← B_eq]; unfold K; rw [if_neg h0]; omega
    have k2 : K r < 2 ^ 53 := by have := K_lt r; have e : (2 : Nat) ^ 53 = 2 * B := by decide
                                 omega
    have : (K r).log2 = 52 := (Nat.log2_eq_iff (by omega)).2 ⟨k1, k2⟩
    rw [this]
    exact ⟨by omega, by omega⟩

theorem cut_zero (way : Toward) (hw : way = .even ∨ way = .zero) (s : Bool) (n : Nat) : way.cut s n 0 = n := by
  unfold Toward.cut
  rcases hw with rfl | rfl <;> simp [Nat.mod_one]

theorem cut_exact (way : Toward) (hw : way = .even ∨ way = .zero) (s : Bool) (k d : Nat) (hk : 0 < k) : way.cut s (k * 2 ^ d) d = k := by
  have hlog : d ≤ (k * 2 ^ d).log2 := by rw [log2_mul_pow _ _ hk]; omega
  have hmin : min d ((k * 2 ^ d).log2 + 2) = d := by omega
  have hp := Nat.two_pow_pos d
  unfold Toward.cut
  simp only [hmin, Nat.shiftLeft_eq, Nat.one_mul]
  rw [Nat.mul_div_cancel _ hp, Nat.mul_mod_left]
  rcases hw with rfl | rfl
  · simp
  · simp

/-- what is written where the exact number is a rung's -/
theorem nearest_rung (s : Bool) (m u v r : Nat) (p : Int) (hp : p = -1074 + (u : Int) - v) (hm : 0 < m) (hr : r ≤ I) (h : m * 2 ^ u = V r * 2 ^ v) :
    double.nearest s m p = double.word s r := by
  have hr0 : 0 < r := by
    rcases Nat.eq_zero_or_pos r with e | e
    · subst e; rw [V_zero, Nat.zero_mul] at h
      have := Nat.mul_pos hm (Nat.two_pow_pos u); omega
    · exact e
  have hlog : m.log2 + u = (V r).log2 + v := by
    rw [← log2_mul_pow m u hm, ← log2_mul_pow _ v (V_pos hr0), h]
  obtain ⟨hE, _⟩ := log2_V hr0
  have hK : 0 < K r := by unfold K; have := B_pos; split <;> omega
  unfold Format.nearest
  rw [if_neg (by omega)]
  simp only [least_eq, frac_eq, binade_eq, infRung_eq]
  have hlast : max (p + (m.log2 : Int) - (52 : Nat)) (-1074) = -1074 + (E r : Int) := by
    rw [hp]; omega
  rw [hlast]
  have e1 : ((-1074 : Int) + (E r : Int) - -1074).toNat = E r := by omega
  rw [e1]
  have hkept : Toward.even.cut s (m <<< (p - (-1074 + (E r : Int))).toNat) ((-1074 + (E r : Int)) - p).toNat = K r := by
    rw [V_eq] at h
    by_cases hd : v + E r ≤ u
    · obtain ⟨d, hd'⟩ : ∃ d, u = d + (v + E r) := ⟨u - (v + E r), by omega⟩
      have ea : (p - (-1074 + (E r : Int))).toNat = d := by omega
      have eb : ((-1074 + (E r : Int)) - p).toNat = 0 := by omega
      rw [ea, eb, cut_zero _ (.inl rfl), Nat.shiftLeft_eq]
      have h2 : m * 2 ^ d * 2 ^ (v + E r) = K r * 2 ^ (v + E r) := by
        rw [Nat.mul_assoc, ← Nat.pow_add, ← hd', h, Nat.mul_assoc, ← Nat.pow_add, Nat.add_comm v]
      exact Nat.eq_of_mul_eq_mul_right (Nat.two_pow_pos _) h2
    · obtain ⟨d, hd'⟩ : ∃ d, v + E r = d + u := ⟨v + E r - u, by omega⟩
      have ea : (p - (-1074 + (E r : Int))).toNat = 0 := by omega
      have eb : ((-1074 + (E r : Int)) - p).toNat = d := by omega
      rw [ea, eb, Nat.shiftLeft_zero]
      have h2 : m * 2 ^ u = K r * 2 ^ d * 2 ^ u := by
        rw [h, Nat.mul_assoc, Nat.mul_assoc, ← Nat.pow_add, ← Nat.pow_add, ← hd', Nat.add_comm v]
      have h3 := Nat.eq_of_mul_eq_mul_right (Nat.two_pow_pos _) h2
      rw [h3]
      exact cut_exact _ (.inl rfl) _ _ _ hK
  rw [hkept, rung_eq, Nat.min_eq_left hr]

theorem nearest_zero (s : Bool) (p : Int) : double.nearest s 0 p = double.word s 0 := by
  unfold Format.nearest; rw [if_pos rfl]

/-- 2.0 -/
def two : Nat := 4611686018427387904
theorem read_two : double.read two = .number false B (-51) := by decide

theorem mul_two {w r : Nat} (hw : rung w < I) (hr : r ≤ I) (h : V r = 2 * V (rung w)) : double.mul w two = some (double.word (neg w) r) := by
  unfold Format.mul
  rw [read_eq, if_pos hw, read_two]
  simp only [Datum.product, Option.map_some, Format.write, Bool.xor_false]
  congr 1
  by_cases h0 : rung w = 0
  · rw [h0, V_zero] at h
    have : r = 0 := V_inj (by rw [h, V_zero])
    subst this
    have hk : K 0 = 0 := by decide
    rw [h0, hk, Nat.zero_mul, nearest_zero]
  · have hK : 0 < K (rung w) := by unfold K; have := B_pos; split <;> omega
    refine nearest_rung _ _ (E (rung w)) 51 r _ (by omega) (Nat.mul_pos hK B_pos) hr ?_
    have e : V (rung w) * B = V (rung w) * 2 * 2 ^ 51 := by rw [B_eq, Nat.mul_assoc]
    rw [Nat.mul_right_comm, ← V_eq, h, e, Nat.mul_comm 2]

theorem div_two {w r : Nat} (hw : rung w < I) (hr : r ≤ I) (h : V (rung w) = 2 * V r) : double.div w two = some (double.word (neg w) r) := by
  unfold Format.div
  rw [read_eq, if_pos hw, read_two]
  simp only [Datum.quotient, Bool.xor_false, frac_eq]
  rw [if_neg (by decide)]
  simp only [Option.map_some, Format.write]
  congr 1
  have hB : B.log2 = 52 := by decide
  rw [hB]
  have hKlt : K (rung w) < 2 ^ 53 := by have := K_lt (rung w); have e : (2 : Nat) ^ 53 = 2 * B := by decide
                                        omega
  have hlog : (K (rung w)).log2 ≤ 52 := by
    rcases Nat.eq_zero_or_pos (K (rung w)) with e | e
    · rw [e]; decide
    · have := (Nat.log2_lt (by omega)).2 hKlt; omega
  obtain ⟨q, hq⟩ : ∃ q, 52 + 2 + 52 - (K (rung w)).log2 = q + 52 := ⟨52 + 2 + 52 - (K (rung w)).log2 - 52, by omega⟩
  have hq1 : 1 ≤ q := by omega
  rw [hq]
  simp only [Nat.shiftLeft_eq]
  have e1 : K (rung w) * 2 ^ (q + 52) = K (rung w) * 2 ^ q * B := by rw [Nat.pow_add, ← Nat.mul_assoc, B_eq]
  rw [e1, Nat.mul_div_cancel _ B_pos, Nat.mul_mod_left]
  simp only [bne_self_eq_false, Bool.toNat_false, Nat.add_zero]
  by_cases h0 : rung w = 0
  · rw [h0, V_zero] at h
    have : r = 0 := V_inj (by rw [V_zero]; omega)
    subst this
    have hk : K 0 = 0 := by decide
    rw [h0, hk, Nat.zero_mul, Nat.mul_zero, nearest_zero]
  · have hK : 0 < K (rung w) := by unfold K; have := B_pos; split <;> omega
    refine nearest_rung _ _ (E (rung w) + 50) (q + 52) r _ (by omega) (Nat.mul_pos (by omega) (Nat.mul_pos hK (Nat.two_pow_pos _))) hr ?_
    have e2 : 2 * (K (rung w) * 2 ^ q) * 2 ^ (E (rung w) + 50) = (K (rung w) * 2 ^ E (rung w)) * (2 * 2 ^ q * 2 ^ 50) := by
      rw [Nat.pow_add]; ac_rfl
    have e3 : (2 : Nat) * V r * (2 * 2 ^ q * 2 ^ 50) = V r * 2 ^ (q + 52) := by
      have : (2 : Nat) ^ (q + 52) = 2 ^ q * (2 * 2 * 2 ^ 50) := by rw [Nat.pow_add]
      rw [this]; ac_rfl
    rw [e2, ← V_eq, h, e3]

/-- int(x) of a float that is a whole number -/
theorem toInt_whole {w n t : Nat} (ht : t = 1074) (hw : rung w < I) (hs : neg w = false) (h : V (rung w) = n * 2 ^ t) : (double.read w).toInt .zero = some (n : Int) := by
  rw [read_eq, if_pos hw, hs]
  simp only [Datum.toInt, Datum.integral, signed_eq]
  have hkey : Toward.zero.cut false (K (rung w) <<< (-1074 + (E (rung w) : Int)).toNat) (-(-1074 + (E (rung w) : Int))).toNat = n := by
    rw [V_eq] at h
    by_cases hd : t ≤ E (rung w)
    · obtain ⟨d, hd'⟩ : ∃ d, E (rung w) = d + t := ⟨E (rung w) - t, by omega⟩
      have ea : (-1074 + (E (rung w) : Int)).toNat = d := by omega
      have eb : (-(-1074 + (E (rung w) : Int))).toNat = 0 := by omega
      rw [ea, eb, cut_zero _ (.inr rfl), Nat.shiftLeft_eq]
      rw [hd', Nat.pow_add, ← Nat.mul_assoc] at h
      exact Nat.eq_of_mul_eq_mul_right (Nat.two_pow_pos _) h
    · obtain ⟨d, hd'⟩ : ∃ d, t = d + E (rung w) := ⟨t - E (rung w), by omega⟩
      have ea : (-1074 + (E (rung w) : Int)).toNat = 0 := by omega
      have eb : (-(-1074 + (E (rung w) : Int))).toNat = d := by omega
      rw [ea, eb, Nat.shiftLeft_zero]
      rw [hd', Nat.pow_add, ← Nat.mul_assoc] at h
      have h2 := Nat.eq_of_mul_eq_mul_right (Nat.two_pow_pos _) h
      rw [h2]
      rcases Nat.eq_zero_or_pos n with e | e
      · subst e
        rw [Nat.zero_mul]
        unfold Toward.cut; simp
      · exact cut_exact _ (.inr rfl) _ _ _ e
  rw [hkey]
  simp [sg]

theorem ofNat_rung {n r t : Nat} (ht : t = 1074) (hr : r ≤ I) (h : V r = n * 2 ^ t) : double.nearest false n 0 = r := by
  rcases Nat.eq_zero_or_pos n with e | e
  · subst e
    rw [Nat.zero_mul] at h
    have : r = 0 := V_inj (by rw [h, V_zero])
    rw [this, nearest_zero, word_eq]; rfl
  · rw [nearest_rung false n t 0 r 0 (by omega) e hr (by rw [h, Nat.pow_zero, Nat.mul_one]), word_eq]; rfl

theorem neg_word (s : Bool) {r : Nat} (h : r < S) : neg (double.word s r) = s ∧ rung (double.word s r) = r := by
  rw [word_eq]
  unfold neg rung
  have hS : 0 < S := by decide
  cases s
  · simp only [Bool.false_eq_true, if_false]
    rw [Nat.div_eq_of_lt h, Nat.mod_eq_of_lt h]; exact ⟨rfl, rfl⟩
  · simp only [if_true]
    rw [Nat.add_div_left _ hS, Nat.div_eq_of_lt h, Nat.add_mod_left, Nat.mod_eq_of_lt h]; exact ⟨rfl, rfl⟩

theorem word_of (w : Nat) (h : w < 2 * S) : double.word (neg w) (rung w) = w := by
  rw [word_eq]
  unfold neg rung
  have hS : 0 < S := by decide
  have hd := Nat.div_add_mod w S
  have h2 : w / S < 2 := by rw [Nat.div_lt_iff_lt_mul hS]; exact h
  clear h
  by_cases e : w / S = 0
  · rw [e] at hd ⊢; simp at hd ⊢; exact hd
  · have e1 : w / S = 1 := by revert e h2; generalize w / S = q; intro e h2; omega
    rw [e1] at hd ⊢; simp at hd ⊢; omega
end Go.Proofs.Ytebkbodkkehmfaa.F64
