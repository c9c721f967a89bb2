/- Walks of the float functions: comparisons, signs, classes. -/
import Derived.Test.YtebkbodkkehmfaaPFnExactFloatCmpx1
import Derived.Test.YtebkbodkkehmfaaF64
import Derived.Laws.FloatArith
import Derived.Laws.Externs
namespace Go.Proofs.Ytebkbodkkehmfaa.Fl
open Go.RowKit Go.Proofs.YtebkbodkkehmfaaW.PrintWords Go.Proofs.YtebkbodkkehmfaaW.PrintLast Go.Proofs.Ytebkbodkkehmfaa.F64
set_option linter.unusedVariables false
set_option linter.unusedSimpArgs false
theorem lss_eq (a b : Nat) : (FloatKind.f64.format.order a b == some .lt) = (!isNaN a && !isNaN b && decide (sr a < sr b)) := by
  have h : FloatKind.f64.format.order a b = _ := order_eq a b
  rw [h]
  cases isNaN a <;> cases isNaN b <;> simp
  rcases Int.lt_trichotomy (sr a) (sr b) with h | h | h
  · simp [cmp_lt h, h]
  · rw [h, cmp_self]; simp
  · rw [cmp_gt h]; have : ¬ sr a < sr b := by omega
    simp [this]
theorem gtr_eq (a b : Nat) : (FloatKind.f64.format.order a b == some .gt) = (!isNaN a && !isNaN b && decide (sr b < sr a)) := by
  have h : FloatKind.f64.format.order a b = _ := order_eq a b
  rw [h]
  cases isNaN a <;> cases isNaN b <;> simp
  rcases Int.lt_trichotomy (sr a) (sr b) with h | h | h
  · rw [cmp_lt h]; have : ¬ sr b < sr a := by omega
    simp [this]
  · rw [h, cmp_self]; simp
  · simp [cmp_gt h, h]
theorem eql_eq (a b : Nat) : (FloatKind.f64.format.order a b == some .eq) = (!isNaN a && !isNaN b && decide (sr a = sr b)) := by
  have h : FloatKind.f64.format.order a b = _ := order_eq a b
  rw [h]
  cases isNaN a <;> cases isNaN b <;> simp
  rcases Int.lt_trichotomy (sr a) (sr b) with h | h | h
  · rw [cmp_lt h]; have : ¬ sr a = sr b := by omega
    simp [this]
  · rw [h, cmp_self]; simp
  · rw [cmp_gt h]; have : ¬ sr a = sr b := by omega
    simp [this]
theorem neq_eq (a b : Nat) : (FloatKind.f64.format.order a b != some .eq) = !(!isNaN a && !isNaN b && decide (sr a = sr b)) := by
  rw [← eql_eq]; rfl
theorem nan_zero : isNaN 0 = false := by decide
theorem sr_zero : sr 0 = 0 := by decide
theorem IsNaN_calls (a : Nat) (w : World) : Calls Try.prog 23 #[.float .f64 a] w fun e w' => e = .returned (.bool (isNaN a)) ∧ w' = w := by
  go_enter Try.func23, Try.ntmps23
  go_wp2
  go_ret
  refine ⟨?_, rfl⟩
  rw [neq_eq]
  cases isNaN a <;> simp
theorem bits_fn (a : Nat) (w : World) : (callFunc 33 #[.float .f64 a]).run Try.prog w = .ok (.value (.int .u64 a)) w := by
  rw [run_callFunc_extern Try.func33 (by kernel_rfl) (by kernel_rfl) (by kernel_rfl) (e := Extern.MathFloatBits.float64bits) (by kernel_rfl)]
  rfl
theorem frombits_fn (n : Int) (w : World) : (callFunc 34 #[.int .u64 n]).run Try.prog w = .ok (.value (.float .f64 n.toNat)) w := by
  rw [run_callFunc_extern Try.func34 (by kernel_rfl) (by kernel_rfl) (by kernel_rfl) (e := Extern.MathFloatBits.float64frombits) (by kernel_rfl)]
  rfl
theorem sign_word (a : Nat) (ha : a < 2 * S) : decide (wrap64 (a : Int) < 0) = neg a := by
  unfold neg wrap64 S at *
  by_cases h : a < 9223372036854775808
  · have e1 : a / 9223372036854775808 % 2 = 0 := by omega
    rw [e1]; simp; omega
  · have e1 : a / 9223372036854775808 % 2 = 1 := by omega
    rw [e1]; simp; omega
theorem Signbit_calls (a : Nat) (ha : a < 2 * S) (w : World) : Calls Try.prog 25 #[.float .f64 a] w fun e w' => e = .returned (.bool (neg a)) ∧ w' = w := by
  go_enter Try.func25, Try.ntmps25
  go_wp2_with (simp only [bits_fn])
  go_ret
  refine ⟨?_, rfl⟩
  show Ending.returned (.bool (decide (wrap64 (a : Int) < 0))) = _
  rw [sign_word a ha]
theorem clear_sign (a : Nat) (ha : a < 2 * S) : (bits BinOp.andNot IntKind.u64 (a : Int) 9223372036854775808).toNat = rung a := by
  unfold S at ha
  have h : bits BinOp.andNot IntKind.u64 (a : Int) 9223372036854775808 = IntKind.u64.wrap ((BitVec.ofInt 64 a &&& ~~~(BitVec.ofInt 64 9223372036854775808)).toNat : Int) := rfl
  have e0 : BitVec.ofInt 64 (a : Int) = BitVec.ofNat 64 a := by simp
  have e1 : ~~~(BitVec.ofInt 64 9223372036854775808) = BitVec.ofNat 64 (2 ^ 63 - 1) := by decide
  rw [h, e0, e1, BitVec.toNat_and, BitVec.toNat_ofNat, BitVec.toNat_ofNat, Nat.mod_eq_of_lt (a := a) (by omega), Nat.mod_eq_of_lt (a := 2 ^ 63 - 1) (by decide), Nat.and_two_pow_sub_one_eq_mod]
  have : IntKind.u64.wrap ((a % 2 ^ 63 : Nat) : Int) = ((a % 2 ^ 63 : Nat) : Int) := by
    unfold IntKind.wrap; simp [IntKind.min, IntKind.max, IntKind.bits, IntKind.signed]; omega
  rw [this]
  rfl
theorem Abs_calls (a : Nat) (ha : a < 2 * S) (w : World) : Calls Try.prog 26 #[.float .f64 a] w fun e w' => e = .returned (.float .f64 (rung a)) ∧ w' = w := by
  go_enter Try.func26, Try.ntmps26
  go_wp2_with (simp only [bits_fn, frombits_fn])
  go_ret
  refine ⟨?_, rfl⟩
  show Ending.returned (.float .f64 (bits BinOp.andNot IntKind.u64 (a : Int) 9223372036854775808).toNat) = _
  rw [clear_sign a ha]
theorem zero_word {a : Nat} (ha : a < 2 * S) (h : rung a = 0) : a = 0 ∨ a = S := by
  unfold rung S at *; omega
theorem sr_neg (a : Nat) : sr a < 0 ↔ neg a = true ∧ rung a ≠ 0 := by
  unfold sr; cases neg a <;> simp <;> omega
theorem sr_zero_iff (a : Nat) : sr a = 0 ↔ rung a = 0 := by
  unfold sr; cases neg a <;> simp
theorem quo_law (x y r : Nat) (h : Ieee.double.div x y = some r) (t : TypeId) (w : World) : (binOp .quo t (.float .f64 x) (.float .f64 y)).run Try.prog w = .ok (.float .f64 r) w := run_float_arith w .quo t .f64 x y r h
theorem mul_law (x y r : Nat) (h : Ieee.double.mul x y = some r) (t : TypeId) (w : World) : (binOp .mul t (.float .f64 x) (.float .f64 y)).run Try.prog w = .ok (.float .f64 r) w := run_float_arith w .mul t .f64 x y r h
theorem minus_calls (a : Nat) (ha : a < 2 * S) (hn : isNaN a = false) (w : World) : Calls Try.prog 21 #[.float .f64 a] w fun e w' => e = .returned (.bool (neg a)) ∧ w' = w := by
  have hl : (FloatKind.f64.format.order a 0 == some .lt) = decide (sr a < 0) := by rw [lss_eq, hn, nan_zero, sr_zero]; rfl
  have he : (FloatKind.f64.format.order a 0 == some .eq) = decide (sr a = 0) := by rw [eql_eq, hn, nan_zero, sr_zero]; rfl
  by_cases h1 : sr a < 0
  · rw [decide_eq_true h1] at hl
    go_enter Try.func21, Try.ntmps21
    go_wp2_with (simp only [hl])
    go_ret
    exact ⟨by rw [((sr_neg a).1 h1).1]; rfl, rfl⟩
  · rw [decide_eq_false h1] at hl
    by_cases h2 : sr a = 0
    · rw [decide_eq_true h2] at he
      rcases zero_word ha ((sr_zero_iff a).1 h2) with rfl | rfl
      · have q := quo_law 4607182418800017408 0 I (by decide)
        have hl2 : (FloatKind.f64.format.order I 0 == some .lt) = false := by decide
        go_enter Try.func21, Try.ntmps21
        go_wp2_with (simp only [hl, he, q, hl2])
        go_ret
        exact ⟨rfl, rfl⟩
      · have q := quo_law 4607182418800017408 S (S + I) (by decide)
        have hl2 : (FloatKind.f64.format.order (S + I) 0 == some .lt) = true := by decide
        go_enter Try.func21, Try.ntmps21
        go_wp2_with (simp only [hl, he, q, hl2])
        go_ret
        exact ⟨rfl, rfl⟩
    · rw [decide_eq_false h2] at he
      go_enter Try.func21, Try.ntmps21
      go_wp2_with (simp only [hl, he])
      go_ret
      refine ⟨?_, rfl⟩
      have : neg a = false := by
        cases h : neg a
        · rfl
        · have := (sr_neg a).2 ⟨h, fun e => h2 ((sr_zero_iff a).2 e)⟩; omega
      rw [this]; rfl
theorem IsInf_calls (a : Nat) (ha : a < 2 * S) (s : Int) (hs : s = 0 ∨ s = 1) (w : World) : Calls Try.prog 24 #[.float .f64 a, .int .i64 s] w fun e w' => e = .returned (.bool (decide (rung a = I) && (decide (s = 0) || !neg a))) ∧ w' = w := by
  have hI : isNaN 9218868437227405311 = false := by decide
  have hI2 : sr 9218868437227405311 = 9218868437227405311 := by decide
  rcases hs with rfl | rfl
  · have hg : (FloatKind.f64.format.order (rung a) 9218868437227405311 == some .gt) = decide (rung a = I) := by
      have h1 : rung (rung a) = rung a := by unfold rung; exact Nat.mod_mod ..
      have h2 : neg (rung a) = false := by
        unfold neg rung S; have : a % 9223372036854775808 / 9223372036854775808 = 0 := by omega
        rw [this]; rfl
      have h3 : sr (rung a) = rung a := by unfold sr; rw [h2, h1]; rfl
      have h4 : isNaN (rung a) = decide (9218868437227405312 < rung a) := by unfold isNaN; rw [h1]; rfl
      rw [gtr_eq, hI, hI2, h3, h4, Bool.eq_iff_iff]
      simp only [Bool.not_false, Bool.and_true, Bool.and_eq_true, Bool.not_eq_true', decide_eq_false_iff_not, decide_eq_true_eq]
      have : I = 9218868437227405312 := rfl
      omega
    go_enter Try.func24, Try.ntmps24
    go_wp2_with (first | (go_at_call 26; refine (Abs_calls a ha _).mono ?_; rintro e w' ⟨rfl, rfl⟩) | simp only [hg])
    go_ret
    refine ⟨?_, rfl⟩
    simp
  · have hg : (FloatKind.f64.format.order a 9218868437227405311 == some .gt) = (decide (rung a = I) && !neg a) := by
      have h4 : isNaN a = decide (9218868437227405312 < rung a) := rfl
      rw [gtr_eq, hI, hI2, h4, Bool.eq_iff_iff]
      unfold sr
      have : I = 9218868437227405312 := rfl
      cases neg a
      · simp only [Bool.not_false, Bool.and_true, Bool.and_eq_true, Bool.not_eq_true', decide_eq_false_iff_not, decide_eq_true_eq, Bool.false_eq_true, if_false]
        omega
      · simp only [Bool.not_false, Bool.and_true, Bool.and_eq_true, Bool.not_eq_true', decide_eq_false_iff_not, decide_eq_true_eq, if_true, Bool.not_true, Bool.and_false, Bool.false_eq_true, iff_false]
        omega
    go_enter Try.func24, Try.ntmps24
    go_wp2_with (simp only [hg])
    go_ret
    refine ⟨?_, rfl⟩
    simp
/-- x - x of a number. -/
theorem sub_self_zero (a : Nat) (h : rung a < I) : Ieee.double.sub a a = some 0 := by
  unfold Ieee.Format.sub
  rw [read_eq, if_pos h]
  have hs : ∀ (s : Bool) (m : Nat), Ieee.signed s m 0 + Ieee.signed (!s) m 0 = 0 := by
    intro s m; unfold Ieee.signed; cases s <;> simp <;> omega
  simp only [Ieee.Datum.opposite, Ieee.Datum.sum, Int.min_self, Int.sub_self, Int.toNat_zero, hs, if_true, Bool.and_not_self, Option.map_some, Ieee.Format.write, Int.natAbs_zero, nearest_zero]
  rfl
theorem sub_inf (a : Nat) (h : rung a = I) : Ieee.double.sub a a = none := by
  unfold Ieee.Format.sub
  rw [read_eq, if_neg (by omega), if_pos h]
  simp only [Ieee.Datum.opposite, Ieee.Datum.sum]
  cases neg a <;> rfl
/-- a NaN's bits, as the tape has them -/
def nanW (x y : Nat) (w : World) : Nat := (Question.nanBits .f64 x y).cut (w.tape w.drawn (.nanBits .f64 x y))
theorem nanW_eq (x y : Nat) (w : World) : ∃ t, nanW x y w = (t % 2) * 9223372036854775808 + 9218868437227405312 + 1 + (t / 2) % 4503599627370495 := ⟨w.tape w.drawn (.nanBits .f64 x y), rfl⟩
theorem nanW_nan (x y : Nat) (w : World) : isNaN (nanW x y w) = true := by
  obtain ⟨t, e⟩ := nanW_eq x y w
  rw [e]
  unfold isNaN rung I S
  have h := Nat.mod_lt (t / 2) (show 4503599627370495 > 0 by decide)
  generalize (t / 2) % 4503599627370495 = q at *
  rw [decide_eq_true_eq]
  rcases Nat.mod_two_eq_zero_or_one t with h2 | h2 <;> rw [h2] <;> omega
theorem nanW_lt (x y : Nat) (w : World) : nanW x y w < 2 * S := by
  obtain ⟨t, e⟩ := nanW_eq x y w
  rw [e]
  unfold S
  have h := Nat.mod_lt (t / 2) (show 4503599627370495 > 0 by decide)
  omega
theorem sub_none (x y : Nat) (h : Ieee.double.sub x y = none) (t : TypeId) (w : World) : (binOp .sub t (.float .f64 x) (.float .f64 y)).run Try.prog w = .ok (.float .f64 (nanW x y w)) w.drew := by
  have h' : FloatKind.f64.format.sub x y = none := h
  have hq : (Question.nanBits .f64 x y).forced = false := rfl
  simp [binOp, Op.floatArith, h', hq, nanW]
theorem sub_law (x y r : Nat) (h : Ieee.double.sub x y = some r) (t : TypeId) (w : World) : (binOp .sub t (.float .f64 x) (.float .f64 y)).run Try.prog w = .ok (.float .f64 r) w := run_float_arith w .sub t .f64 x y r h
theorem two_calls (k : Int) (hk : -2000 ≤ k ∧ k ≤ 2000) (f : Nat → Nat) (h0 : f 0 = 4607182418800017408) (hm : ∀ i : Nat, (i : Int) < k → Ieee.double.mul (f i) two = some (f (i + 1))) (hd : ∀ i : Nat, (i : Int) < -k → Ieee.double.div (f i) two = some (f (i + 1))) (w : World) :
    Calls Try.prog 22 #[.int .i64 k] w fun e w' => e = .returned (.float .f64 (f k.natAbs)) ∧ w' = w := by
  go_enter Try.func22, Try.ntmps22
  go_wp2_with fail
  go_loop [3, 4] (fun x i => ∃ j : Nat, (j : Int) ≤ max k 0 ∧ i = .int .i64 j ∧ x = .float .f64 (f j)) (fun _ i => (max k 0 - intOf i).toNat)
  case atStart => exact ⟨0, by omega, rfl, by first | rfl | rw [h0]⟩
  case round =>
    obtain ⟨j, hj, rfl, rfl⟩ := hrel
    by_cases hlt : (j : Int) < k
    · have q' : ∀ t w, (binOp .mul t (.float .f64 (f j)) (.float .f64 4611686018427387904)).run Try.prog w = .ok (.float .f64 (f (j + 1))) w := mul_law _ _ _ (hm j hlt)
      go_wp2_with (simp only [q'])
      go_round
      case rel => exact ⟨j + 1, by omega, by go_num, rfl⟩
      case measure => simp [intOf]; omega
    · have hj2 : (j : Int) = max k 0 := by omega
      clear hj
      go_wp2_with fail
      go_loop [3, 5] (fun x i => ∃ m : Nat, (m : Int) ≤ max (-k) 0 ∧ i = .int .i64 (-(m : Int)) ∧ x = .float .f64 (f (j + m))) (fun _ i => (max (-k) 0 + intOf i).toNat)
      case atStart => exact ⟨0, by omega, rfl, rfl⟩
      case round =>
        obtain ⟨m, hm2, rfl, rfl⟩ := hrel
        by_cases hgt : -(m : Int) > k
        · have hj0 : j = 0 := by omega
          subst hj0
          have q' : ∀ t w, (binOp .quo t (.float .f64 (f m)) (.float .f64 4611686018427387904)).run Try.prog w = .ok (.float .f64 (f (m + 1))) w := quo_law _ _ _ (hd m (by omega))
          go_wp2_with (simp only [q'])
          go_round
          case rel => exact ⟨m + 1, by omega, by go_num, by rw [Nat.zero_add]⟩
          case measure => simp [intOf]; omega
        · go_wp2
          go_ret
          refine ⟨?_, rfl⟩
          have : j + m = k.natAbs := by omega
          rw [← this]; rfl

theorem float_calls (n k : Int) (hk : -2000 ≤ k ∧ k ≤ 2000) (f : Nat → Nat) (h0 : floatOfInt .f64 n = f 0) (hm : ∀ i : Nat, (i : Int) < k → Ieee.double.mul (f i) two = some (f (i + 1))) (hd : ∀ i : Nat, (i : Int) < -k → Ieee.double.div (f i) two = some (f (i + 1))) (w : World) :
    Calls Try.prog 31 #[.int .i64 n, .int .i64 k] w fun e w' => e = .returned (.float .f64 (f k.natAbs)) ∧ w' = w := by
  go_enter Try.func31, Try.ntmps31
  go_wp2_with fail
  go_loop [5, 6] (fun x i => ∃ j : Nat, (j : Int) ≤ max k 0 ∧ i = .int .i64 j ∧ x = .float .f64 (f j)) (fun _ i => (max k 0 - intOf i).toNat)
  case atStart => exact ⟨0, by omega, rfl, by first | rfl | rw [h0]⟩
  case round =>
    obtain ⟨j, hj, rfl, rfl⟩ := hrel
    by_cases hlt : (j : Int) < k
    · have q' : ∀ t w, (binOp .mul t (.float .f64 (f j)) (.float .f64 4611686018427387904)).run Try.prog w = .ok (.float .f64 (f (j + 1))) w := mul_law _ _ _ (hm j hlt)
      go_wp2_with (simp only [q'])
      go_round
      case rel => exact ⟨j + 1, by omega, by go_num, rfl⟩
      case measure => simp [intOf]; omega
    · have hj2 : (j : Int) = max k 0 := by omega
      clear hj
      go_wp2_with fail
      go_loop [5, 7] (fun x i => ∃ m : Nat, (m : Int) ≤ max (-k) 0 ∧ i = .int .i64 (-(m : Int)) ∧ x = .float .f64 (f (j + m))) (fun _ i => (max (-k) 0 + intOf i).toNat)
      case atStart => exact ⟨0, by omega, rfl, rfl⟩
      case round =>
        obtain ⟨m, hm2, rfl, rfl⟩ := hrel
        by_cases hgt : -(m : Int) > k
        · have hj0 : j = 0 := by omega
          subst hj0
          have q' : ∀ t w, (binOp .quo t (.float .f64 (f m)) (.float .f64 4611686018427387904)).run Try.prog w = .ok (.float .f64 (f (m + 1))) w := quo_law _ _ _ (hd m (by omega))
          go_wp2_with (simp only [q'])
          go_round
          case rel => exact ⟨m + 1, by omega, by go_num, by rw [Nat.zero_add]⟩
          case measure => simp [intOf]; omega
        · go_wp2
          go_ret
          refine ⟨?_, rfl⟩
          have : j + m = k.natAbs := by omega
          rw [← this]; rfl

theorem half_step {r : Nat} (h1 : B ≤ r) (h2 : r + B ≤ 1023 * B) : Ieee.double.div (r + B) two = some r := by
  have hr : rung (r + B) = r + B := by unfold rung S; unfold B at *; omega
  have hn : neg (r + B) = false := by
    unfold neg S; unfold B at *
    have : (r + 4503599627370496) / 9223372036854775808 = 0 := by omega
    rw [this]; rfl
  have e : V (rung (r + B)) = 2 * V r := by rw [hr]; exact V_add h1
  have hlt : rung (r + B) < I := by rw [hr]; unfold I; unfold B at *; omega
  have hle : r ≤ I := by unfold I; unfold B at *; omega
  have h := div_two hlt hle e
  rw [hn] at h
  exact h
/-- 2 to the -1022 is the least number of full digits. -/
theorem two_least (w : World) : Calls Try.prog 22 #[.int .i64 (-1022)] w fun e w' => e = .returned (.float .f64 B) ∧ w' = w := by
  obtain ⟨g, hg⟩ : ∃ g : Nat → Nat, g = fun i => (1023 - i) * B := ⟨_, rfl⟩
  have h0 : g 0 = 4607182418800017408 := by rw [hg]; rfl
  have h1 : g 1022 = B := by rw [hg]; rfl
  have hd : ∀ i : Nat, (i : Int) < -(-1022) → Ieee.double.div (g i) two = some (g (i + 1)) := by
    intro i hi
    have hi' : i < 1022 := by omega
    have e1 : g i = g (i + 1) + B := by
      rw [hg]
      show (1023 - i) * B = (1023 - (i + 1)) * B + B
      rw [← Nat.succ_mul]; congr 1; omega
    have b1 : g i ≤ 1023 * B := by rw [hg]; exact Nat.mul_le_mul_right _ (by omega)
    have b2 : 1 * B ≤ g (i + 1) := by rw [hg]; exact Nat.mul_le_mul_right _ (by omega)
    rw [e1] at b1 ⊢
    exact half_step (by omega) b1
  have h := two_calls (-1022) (by omega) g h0 (fun i hi => by omega) hd w
  have e : (-1022 : Int).natAbs = 1022 := rfl
  rw [e, h1] at h
  exact h
/-- what a float is: its class and its sign -/
def cls (a : Nat) : Int := if isNaN a then 0 else if rung a = I then 1 else if rung a = 0 then 2 else if rung a < B then 3 else 4
def clsNeg (a : Nat) : Bool := if isNaN a then false else neg a
theorem neg_law (a : Nat) (w : World) : (Op.unary .neg (.float .f64 a)).run Try.prog w = .ok (.float .f64 (Op.negFloat .f64 a)) w := by
  simp [Op.unary]
theorem negF (a : Nat) (ha : a < 2 * S) : rung (Op.negFloat .f64 a) = rung a ∧ neg (Op.negFloat .f64 a) = !neg a ∧ Op.negFloat .f64 a < 2 * S := by
  have e : Op.negFloat .f64 a = a ^^^ 2 ^ 63 := rfl
  have hx : a ^^^ 2 ^ 63 = if a < S then a + S else a - S := by
    have h1 := Nat.xor_div_two_pow (a := a) (b := 2 ^ 63) (n := 63)
    have h2 := Nat.xor_mod_two_pow (a := a) (b := 2 ^ 63) (n := 63)
    rw [Nat.div_self (by decide)] at h1
    rw [Nat.mod_self, Nat.xor_zero] at h2
    have hd := Nat.div_add_mod (a ^^^ 2 ^ 63) (2 ^ 63)
    rw [h1, h2] at hd
    have hda := Nat.div_add_mod a (2 ^ 63)
    rw [← hd]
    unfold S at *
    by_cases hs : a < 9223372036854775808
    · rw [if_pos hs]
      have : a / 2 ^ 63 = 0 := Nat.div_eq_of_lt (by omega)
      rw [this] at hda ⊢
      rw [show ((0 : Nat) ^^^ 1) = 1 from rfl]
      omega
    · rw [if_neg hs]
      have : a / 2 ^ 63 = 1 := by omega
      rw [this] at hda ⊢
      rw [show ((1 : Nat) ^^^ 1) = 0 from rfl]
      omega
  rw [e, hx]
  unfold rung neg S at *
  by_cases hs : a < 9223372036854775808
  · rw [if_pos hs]
    refine ⟨by omega, ?_, by omega⟩
    have e1 : (a + 9223372036854775808) / 9223372036854775808 % 2 = 1 := by omega
    have e2 : a / 9223372036854775808 % 2 = 0 := by omega
    rw [e1, e2]; rfl
  · rw [if_neg hs]
    refine ⟨by omega, ?_, by omega⟩
    have e1 : (a - 9223372036854775808) / 9223372036854775808 % 2 = 0 := by omega
    have e2 : a / 9223372036854775808 % 2 = 1 := by omega
    rw [e1, e2]; rfl
theorem specClass_calls (a : Nat) (ha : a < 2 * S) (w : World) : Calls Try.prog 13 #[.float .f64 a] w fun e w' => e = .returned (.tuple #[.int .i64 (cls a), .bool (clsNeg a)]) ∧ Drawn0 w w' := by
  have hne : ((FloatKind.f64.format.order a a != some .eq)) = isNaN a := by rw [neq_eq]; cases isNaN a <;> simp
  unfold cls clsNeg
  cases hn : isNaN a
  · rw [hn] at hne
    have hlt : (FloatKind.f64.format.order a 0 == some .lt) = decide (sr a < 0) := by rw [lss_eq, hn, nan_zero, sr_zero]; rfl
    have heq : (FloatKind.f64.format.order a 0 == some .eq) = decide (sr a = 0) := by rw [eql_eq, hn, nan_zero, sr_zero]; rfl
    have hle : rung a ≤ I := by unfold isNaN at hn; simpa using hn
    by_cases hI : rung a = I
    · have q := sub_none a a (sub_inf a hI)
      have q2 : ∀ w, (FloatKind.f64.format.order (nanW a a w) 0 != some .eq) = true := by intro w; rw [neq_eq, nanW_nan]; rfl
      have hs : decide (sr a < 0) = neg a := by
        unfold sr; rw [hI]; cases neg a <;> decide
      rw [hs] at hlt
      simp only [Bool.false_eq_true, if_false, if_pos hI]
      go_enter Try.func13, Try.ntmps13
      go_wp2_with (simp only [hne, q, q2, hlt])
      go_ret2
      exact ⟨rfl, ⟨⟨1, rfl⟩⟩⟩
    · simp only [Bool.false_eq_true, if_false, if_neg hI]
      have q := sub_law a a 0 (sub_self_zero a (by omega))
      have q2 : (FloatKind.f64.format.order 0 0 != some .eq) = false := by decide
      by_cases hz : rung a = 0
      · rw [decide_eq_true ((sr_zero_iff a).2 hz)] at heq
        simp only [if_pos hz]
        go_enter Try.func13, Try.ntmps13
        go_wp2_with (first | (go_at_call 21; refine (minus_calls a ha hn _).mono ?_; rintro e w' ⟨rfl, rfl⟩) | simp only [hne, q, q2, heq])
        go_ret2
        exact ⟨rfl, Drawn0.refl _⟩
      · have hz' : ¬ sr a = 0 := fun h => hz ((sr_zero_iff a).1 h)
        rw [decide_eq_false hz'] at heq
        obtain ⟨n1, n2, n3⟩ := negF a ha
        have hb : isNaN B = false := by decide
        have hbs : sr B = B := by decide
        have hnn : isNaN (Op.negFloat .f64 a) = false := by unfold isNaN at hn ⊢; rw [n1]; exact hn
        have ha1 : (FloatKind.f64.format.order a B == some .lt) = decide (sr a < B) := by rw [lss_eq, hn, hb, hbs]; rfl
        have ha2 : (FloatKind.f64.format.order (Op.negFloat .f64 a) B == some .lt) = decide (sr (Op.negFloat .f64 a) < B) := by rw [lss_eq, hnn, hb, hbs]; rfl
        have hs : decide (sr a < 0) = neg a := by
          unfold sr; cases neg a <;> simp <;> omega
        rw [hs] at hlt
        have hsn : sr (Op.negFloat .f64 a) = -(sr a) := by
          unfold sr; rw [n1, n2]; cases neg a <;> simp
        rw [hsn] at ha2
        simp only [if_neg hz]
        by_cases hsm : rung a < B
        · rw [decide_eq_true (show sr a < (B : Int) by unfold sr; cases neg a <;> simp <;> omega)] at ha1
          rw [decide_eq_true (show -(sr a) < (B : Int) by unfold sr; cases neg a <;> simp <;> omega)] at ha2
          simp only [if_pos hsm]
          go_enter Try.func13, Try.ntmps13
          go_wp2_with (first | (go_at_call 22; refine (two_least _).mono ?_; rintro e w' ⟨rfl, rfl⟩) | simp only [hne, q, q2, heq, ha1, ha2, hlt, neg_law])
          go_ret2
          exact ⟨rfl, Drawn0.refl _⟩
        · simp only [if_neg hsm]
          cases hng : neg a
          · rw [decide_eq_false (show ¬ sr a < (B : Int) by unfold sr; rw [hng]; simp; omega)] at ha1
            clear ha2
            rw [hng] at hlt
            go_enter Try.func13, Try.ntmps13
            go_wp2_with (first | (go_at_call 22; refine (two_least _).mono ?_; rintro e w' ⟨rfl, rfl⟩) | simp only [hne, q, q2, heq, ha1, hlt, neg_law])
            go_ret2
            exact ⟨rfl, Drawn0.refl _⟩
          · rw [decide_eq_true (show sr a < (B : Int) by unfold sr; rw [hng]; simp; omega)] at ha1
            rw [decide_eq_false (show ¬ -(sr a) < (B : Int) by unfold sr; rw [hng]; simp; omega)] at ha2
            rw [hng] at hlt
            go_enter Try.func13, Try.ntmps13
            go_wp2_with (first | (go_at_call 22; refine (two_least _).mono ?_; rintro e w' ⟨rfl, rfl⟩) | simp only [hne, q, q2, heq, ha1, ha2, hlt, neg_law])
            go_ret2
            exact ⟨rfl, Drawn0.refl _⟩
  · rw [hn] at hne
    simp only [if_true]
    go_enter Try.func13, Try.ntmps13
    go_wp2_with (simp only [hne])
    go_ret2
    exact ⟨rfl, Drawn0.refl _⟩
end Go.Proofs.Ytebkbodkkehmfaa.Fl
