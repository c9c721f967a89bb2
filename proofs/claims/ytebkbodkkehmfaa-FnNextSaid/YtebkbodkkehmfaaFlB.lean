/- Walks of the float functions: classes told by impl, the order. -/
import Derived.Test.YtebkbodkkehmfaaFlA
namespace Go.Proofs.Ytebkbodkkehmfaa.Fl
open Go.RowKit Go.Proofs.YtebkbodkkehmfaaW.PrintWords Go.Proofs.YtebkbodkkehmfaaW.PrintLast Go.Proofs.Ytebkbodkkehmfaa.F64
set_option linter.unusedVariables false
set_option linter.unusedSimpArgs false
theorem rung_le {a : Nat} (h : isNaN a = false) : rung a ≤ I := by unfold isNaN at h; simpa using h
theorem rung_rung (a : Nat) : rung (rung a) = rung a := by unfold rung; exact Nat.mod_mod ..
theorem neg_rung (a : Nat) : neg (rung a) = false := by
  unfold neg rung S
  have : a % 9223372036854775808 / 9223372036854775808 = 0 := by omega
  rw [this]; rfl
theorem sr_rung (a : Nat) : sr (rung a) = rung a := by unfold sr; rw [neg_rung, rung_rung]; rfl
theorem isNaN_rung (a : Nat) : isNaN (rung a) = isNaN a := by unfold isNaN; rw [rung_rung]
theorem IsInf0 (a : Nat) (ha : a < 2 * S) (b : Bool) (h : decide (rung a = I) = b) (w : World) : Calls Try.prog 24 #[.float .f64 a, .int .i64 0] w fun e w' => e = .returned (.bool b) ∧ w' = w := by
  have := IsInf_calls a ha 0 (.inl rfl) w
  rw [h] at this
  have e : (b && (decide ((0 : Int) = 0) || !neg a)) = b := by simp
  rw [e] at this
  exact this
set_option maxHeartbeats 8000000 in
theorem implClass_calls (a : Nat) (ha : a < 2 * S) (w : World) : Calls Try.prog 14 #[.float .f64 a] w fun e w' => e = .returned (.tuple #[.int .i64 (cls a), .bool (clsNeg a)]) ∧ Drawn0 w w' := by
  unfold cls clsNeg
  cases hn : isNaN a
  · have heq : (FloatKind.f64.format.order a 0 == some .eq) = decide (rung a = 0) := by
      rw [eql_eq, hn, nan_zero, sr_zero]
      simp only [Bool.not_false, Bool.true_and]
      rw [Bool.eq_iff_iff, decide_eq_true_eq, decide_eq_true_eq, sr_zero_iff]
    have hlt : (FloatKind.f64.format.order (rung a) 4503599627370496 == some .lt) = decide (rung a < B) := by
      have hb : isNaN 4503599627370496 = false := by decide
      have hbs : sr 4503599627370496 = 4503599627370496 := by decide
      rw [lss_eq, isNaN_rung, hn, hb, hbs, sr_rung]
      simp only [Bool.not_false, Bool.true_and]
      rw [Bool.eq_iff_iff, decide_eq_true_eq, decide_eq_true_eq]
      unfold B; omega
    by_cases hI : rung a = I
    · simp only [Bool.false_eq_true, if_false, if_pos hI]
      have HI := Aside0.mk hI
      clear hI
      go_enter Try.func14, Try.ntmps14
      go_wp2_with (first | (go_at_call 23; refine (IsNaN_calls a _).mono ?_; rintro e w' ⟨rfl, rfl⟩; rw [hn]) | (go_at_call 24; refine (IsInf0 a ha _ (decide_eq_true HI.out) _).mono ?_; rintro e w' ⟨rfl, rfl⟩) | (go_at_call 25; refine (Signbit_calls a ha _).mono ?_; rintro e w' ⟨rfl, rfl⟩))
      go_ret2
      exact ⟨rfl, Drawn0.refl _⟩
    · simp only [Bool.false_eq_true, if_false, if_neg hI]
      have HI := Aside0.mk hI
      clear hI
      by_cases hz : rung a = 0
      · rw [decide_eq_true hz] at heq
        simp only [if_pos hz]
        clear hz
        go_enter Try.func14, Try.ntmps14
        go_wp2_with (first | (go_at_call 23; refine (IsNaN_calls a _).mono ?_; rintro e w' ⟨rfl, rfl⟩; rw [hn]) | (go_at_call 24; refine (IsInf0 a ha _ (decide_eq_false HI.out) _).mono ?_; rintro e w' ⟨rfl, rfl⟩) | (go_at_call 25; refine (Signbit_calls a ha _).mono ?_; rintro e w' ⟨rfl, rfl⟩) | simp only [heq])
        go_ret2
        exact ⟨rfl, Drawn0.refl _⟩
      · rw [decide_eq_false hz] at heq
        simp only [if_neg hz]
        clear hz
        by_cases hs : rung a < B
        · rw [decide_eq_true hs] at hlt
          simp only [if_pos hs]
          clear hs
          go_enter Try.func14, Try.ntmps14
          go_wp2_with (first | (go_at_call 23; refine (IsNaN_calls a _).mono ?_; rintro e w' ⟨rfl, rfl⟩; rw [hn]) | (go_at_call 24; refine (IsInf0 a ha _ (decide_eq_false HI.out) _).mono ?_; rintro e w' ⟨rfl, rfl⟩) | (go_at_call 25; refine (Signbit_calls a ha _).mono ?_; rintro e w' ⟨rfl, rfl⟩) | (go_at_call 26; refine (Abs_calls a ha _).mono ?_; rintro e w' ⟨rfl, rfl⟩) | simp only [heq, hlt])
          go_ret2
          exact ⟨rfl, Drawn0.refl _⟩
        · rw [decide_eq_false hs] at hlt
          simp only [if_neg hs]
          clear hs
          go_enter Try.func14, Try.ntmps14
          go_wp2_with (first | (go_at_call 23; refine (IsNaN_calls a _).mono ?_; rintro e w' ⟨rfl, rfl⟩; rw [hn]) | (go_at_call 24; refine (IsInf0 a ha _ (decide_eq_false HI.out) _).mono ?_; rintro e w' ⟨rfl, rfl⟩) | (go_at_call 25; refine (Signbit_calls a ha _).mono ?_; rintro e w' ⟨rfl, rfl⟩) | (go_at_call 26; refine (Abs_calls a ha _).mono ?_; rintro e w' ⟨rfl, rfl⟩) | simp only [heq, hlt])
          go_ret2
          exact ⟨rfl, Drawn0.refl _⟩
  · simp only [if_true]
    go_enter Try.func14, Try.ntmps14
    go_wp2_with (go_at_call 23; refine (IsNaN_calls a _).mono ?_; rintro e w' ⟨rfl, rfl⟩; rw [hn])
    go_ret2
    exact ⟨rfl, Drawn0.refl _⟩
/-- a rank by which floats that are no NaN stand in their order -/
def rk (a : Nat) : Int := if neg a then -(rung a : Int) - 1 else (rung a : Int)
def cmpV (a b : Nat) : Int := if isNaN a = true ∨ isNaN b = true then (if isNaN a = true then (if isNaN b = true then 0 else 1) else -1) else if rk a < rk b then -1 else if rk b < rk a then 1 else 0
theorem rk_lt (a b : Nat) : rk a < rk b ↔ sr a < sr b ∨ (sr a = sr b ∧ neg a = true ∧ neg b = false) := by
  unfold rk sr
  cases neg a <;> cases neg b <;> simp <;> omega
theorem nanLast_calls (a : Nat) (w : World) : Calls Try.prog 28 #[.float .f64 a] w fun e w' => e = .returned (.int .i64 (if isNaN a then 1 else 0)) ∧ w' = w := by
  cases hn : isNaN a
  · go_enter Try.func28, Try.ntmps28
    go_wp2_with (go_at_call 23; refine (IsNaN_calls a _).mono ?_; rintro e w' ⟨rfl, rfl⟩; rw [hn])
    go_ret
    exact ⟨rfl, rfl⟩
  · go_enter Try.func28, Try.ntmps28
    go_wp2_with (go_at_call 23; refine (IsNaN_calls a _).mono ?_; rintro e w' ⟨rfl, rfl⟩; rw [hn])
    go_ret
    exact ⟨rfl, rfl⟩
theorem low_bits (a : Nat) (ha : a < 2 * S) : bits BinOp.and IntKind.i64 (wrap64 (a : Int)) 9223372036854775807 = (rung a : Int) := by
  unfold S at ha
  have h : bits BinOp.and IntKind.i64 (wrap64 (a : Int)) 9223372036854775807 = IntKind.i64.wrap ((BitVec.ofInt 64 (wrap64 (a : Int)) &&& BitVec.ofInt 64 9223372036854775807).toNat : Int) := rfl
  have e0 : BitVec.ofInt 64 (wrap64 (a : Int)) = BitVec.ofNat 64 a := by
    apply BitVec.eq_of_toNat_eq
    rw [BitVec.toNat_ofInt, BitVec.toNat_ofNat]
    unfold wrap64
    omega
  have e1 : BitVec.ofInt 64 9223372036854775807 = BitVec.ofNat 64 (2 ^ 63 - 1) := by decide
  rw [h, e0, e1, BitVec.toNat_and, BitVec.toNat_ofNat, BitVec.toNat_ofNat, Nat.mod_eq_of_lt (a := a) (by omega), Nat.mod_eq_of_lt (a := 2 ^ 63 - 1) (by decide), Nat.and_two_pow_sub_one_eq_mod]
  rw [IntKind.wrap_i64]
  unfold rung S
  omega
theorem flip_bits (r : Nat) (hr : r < S) : bits BinOp.xor IntKind.i64 (-1) (r : Int) = -(r : Int) - 1 := by
  unfold S at hr
  have h : bits BinOp.xor IntKind.i64 (-1) (r : Int) = IntKind.i64.wrap ((BitVec.ofInt 64 (-1) ^^^ BitVec.ofInt 64 (r : Int)).toNat : Int) := rfl
  have e0 : BitVec.ofInt 64 (r : Int) = BitVec.ofNat 64 r := by simp
  have e1 : BitVec.ofInt 64 (-1) = BitVec.allOnes 64 := by decide
  have e2 : BitVec.allOnes 64 ^^^ BitVec.ofNat 64 r = ~~~(BitVec.ofNat 64 r) := by rw [BitVec.allOnes_xor]
  rw [h, e0, e1, e2, BitVec.toNat_not, BitVec.toNat_ofNat, Nat.mod_eq_of_lt (a := r) (by omega), IntKind.wrap_i64]
  omega
theorem rung_lt (a : Nat) : rung a < S := by unfold rung S; omega
theorem rankOf_calls (a : Nat) (ha : a < 2 * S) (w : World) : Calls Try.prog 30 #[.float .f64 a] w fun e w' => e = .returned (.int .i64 (rk a)) ∧ w' = w := by
  have hs := sign_word a ha
  cases hn : neg a
  · rw [hn] at hs
    have e : wrap64 (a : Int) = rk a := by
      unfold rk; rw [hn]
      have := of_decide_eq_false hs
      unfold wrap64 rung S at *
      simp only [Bool.false_eq_true, if_false]
      omega
    have E := Aside0.mk e
    clear e
    go_enter Try.func30, Try.ntmps30
    go_wp2_with (simp only [bits_fn])
    go_ret
    exact ⟨by rw [← E.out]; rfl, rfl⟩
  · rw [hn] at hs
    have e : bits BinOp.xor IntKind.i64 (-1) (bits BinOp.and IntKind.i64 (wrap64 (a : Int)) 9223372036854775807) = rk a := by
      rw [low_bits a ha, flip_bits _ (rung_lt a)]
      unfold rk; rw [hn]; rfl
    go_enter Try.func30, Try.ntmps30
    go_wp2_with (simp only [bits_fn])
    all_goals first | (go_ret; exact ⟨by rw [← e]; rfl, rfl⟩) | (rename_i h; exact absurd h (by decide))
theorem eq_of {x y : Int} {f : Nat} {v : Value} {w : World} (h : Calls Try.prog f #[v] w fun e w' => e = .returned (.int .i64 x) ∧ w' = w) (e : x = y) : Calls Try.prog f #[v] w fun e w' => e = .returned (.int .i64 y) ∧ w' = w := e ▸ h
set_option maxHeartbeats 8000000 in
theorem implCmp_calls (a b : Nat) (ha : a < 2 * S) (hb : b < 2 * S) (w : World) : Calls Try.prog 16 #[.float .f64 a, .float .f64 b] w fun e w' => e = .returned (.int .i64 (cmpV a b)) ∧ Drawn0 w w' := by
  have C64 : ∀ x y z : Int, (if x < y then -1 else if y < x then 1 else 0) = z → ∀ w, Calls Try.prog 29 #[.int .i64 x, .int .i64 y] w fun e w' => e = .returned (.int .i64 z) ∧ Drawn0 w w' := fun x y z hz w => PFnExactFloatCmp.cmp_Compare_int64.calls x y _ w (by
    unfold PFnExactFloatCmp.cmp_Compare_int64.f PFnExactFloatCmp.cmp_isNaN_int64.f
    simp only [bne_self_eq_false, Option.bind_some, Bool.false_eq_true, if_false, gt_iff_lt]
    rw [← hz]
    split
    · rfl
    · split <;> rfl)
  have C32 : ∀ x y z : Int, (if x < y then -1 else if y < x then 1 else 0) = z → ∀ w, Calls Try.prog 27 #[.int .i64 x, .int .i64 y] w fun e w' => e = .returned (.int .i64 z) ∧ Drawn0 w w' := fun x y z hz w => PFnExactFloatCmp.cmp_Compare_int.calls x y _ w (by
    unfold PFnExactFloatCmp.cmp_Compare_int.f PFnExactFloatCmp.cmp_isNaN_int.f
    simp only [bne_self_eq_false, Option.bind_some, Bool.false_eq_true, if_false, gt_iff_lt]
    rw [← hz]
    split
    · rfl
    · split <;> rfl)
  have key : ∀ p q : Bool, isNaN a = p → isNaN b = q → Calls Try.prog 16 #[.float .f64 a, .float .f64 b] w fun e w' => e = .returned (.int .i64 (if p = true ∨ q = true then (if p = true then (if q = true then 0 else 1) else -1) else if rk a < rk b then -1 else if rk b < rk a then 1 else 0)) ∧ Drawn0 w w' := by
    intro p q hp hq
    have N1 : ∀ w, Calls Try.prog 23 #[.float .f64 a] w fun e w' => e = .returned (.bool p) ∧ w' = w := by rw [← hp]; exact fun w => IsNaN_calls a w
    have N2 : ∀ w, Calls Try.prog 23 #[.float .f64 b] w fun e w' => e = .returned (.bool q) ∧ w' = w := by rw [← hq]; exact fun w => IsNaN_calls b w
    have L1 : ∀ w, Calls Try.prog 28 #[.float .f64 a] w fun e w' => e = .returned (.int .i64 (if p = true then 1 else 0)) ∧ w' = w := by rw [← hp]; exact fun w => nanLast_calls a w
    have L2 : ∀ w, Calls Try.prog 28 #[.float .f64 b] w fun e w' => e = .returned (.int .i64 (if q = true then 1 else 0)) ∧ w' = w := by rw [← hq]; exact fun w => nanLast_calls b w
    have R1 := fun w => rankOf_calls a ha w
    have R2 := fun w => rankOf_calls b hb w
    have HC : (p = true ∨ q = true) → ∀ w, Calls Try.prog 27 #[.int .i64 (if p = true then 1 else 0), .int .i64 (if q = true then 1 else 0)] w fun e w' => e = .returned (.int .i64 (if p = true then (if q = true then 0 else 1) else -1)) ∧ Drawn0 w w' := fun h w => C32 _ _ _ (by cases p <;> cases q <;> simp at h ⊢) w
    generalize rk a = x at *
    generalize rk b = y at *
    clear hp hq ha hb
    cases p <;> cases q
    · simp only [Bool.false_eq_true, or_self, if_false]
      have C := Aside0.mk (C64 x y _ rfl)
      clear C64 C32 L1 L2 HC
      generalize (if x < y then (-1 : Int) else if y < x then 1 else 0) = z at *
      go_enter Try.func16, Try.ntmps16
      go_wp2_with (first | ((with_reducible refine gate_callee (f := 23) rfl ?_); refine goesL_ (some 6) rfl rfl Try.func23 (by kernel_rfl) rfl #[.float .f64 a] rfl (by (try simp only [List.map_toArray, List.map_cons, List.map_nil]); first | done | rfl) ?_; (with_reducible refine (N1 _).mono ?_); rintro e w' ⟨rfl, rfl⟩; refine ⟨_, rfl, ?_⟩) | (go_at_call 23; (with_reducible refine (N2 _).mono ?_); rintro e w' ⟨rfl, rfl⟩) | ((with_reducible refine gate_callee (f := 30) rfl ?_); refine goesL_ (some 17) rfl rfl Try.func30 (by kernel_rfl) rfl #[.float .f64 a] rfl (by (try simp only [List.map_toArray, List.map_cons, List.map_nil]); first | done | rfl) ?_; (with_reducible refine (R1 _).mono ?_); rintro e w' ⟨rfl, rfl⟩; refine ⟨_, rfl, ?_⟩) | ((with_reducible refine gate_callee (f := 30) rfl ?_); refine goesL_ (some 19) rfl rfl Try.func30 (by kernel_rfl) rfl #[.float .f64 b] rfl (by (try simp only [List.map_toArray, List.map_cons, List.map_nil]); first | done | rfl) ?_; (with_reducible refine (R2 _).mono ?_); rintro e w' ⟨rfl, rfl⟩; refine ⟨_, rfl, ?_⟩) | ((with_reducible refine gate_callee (f := 29) rfl ?_); refine goesL_ (some 20) rfl rfl Try.func29 (by kernel_rfl) rfl #[.int .i64 x, .int .i64 y] rfl (by (try simp only [List.map_toArray, List.map_cons, List.map_nil]); first | done | rfl) ?_; (with_reducible refine (C.out _).mono ?_); rintro e w' ⟨rfl, hd⟩; refine ⟨_, rfl, ?_⟩))
      go_ret
      exact ⟨rfl, hd⟩
    all_goals (
      have C := Aside0.mk (HC (by simp))
      clear HC
      simp only [Bool.false_eq_true, or_self, if_false, if_true, or_true, true_or, ↓reduceIte] at L1 L2 C ⊢
      clear C64 C32
      go_enter Try.func16, Try.ntmps16
      go_wp2_with (first | ((with_reducible refine gate_callee (f := 23) rfl ?_); refine goesL_ (some 6) rfl rfl Try.func23 (by kernel_rfl) rfl #[.float .f64 a] rfl (by (try simp only [List.map_toArray, List.map_cons, List.map_nil]); first | done | rfl) ?_; (with_reducible refine (N1 _).mono ?_); rintro e w' ⟨rfl, rfl⟩; refine ⟨_, rfl, ?_⟩) | (go_at_call 23; (with_reducible refine (N2 _).mono ?_); rintro e w' ⟨rfl, rfl⟩) | ((with_reducible refine gate_callee (f := 28) rfl ?_); refine goesL_ (some 12) rfl rfl Try.func28 (by kernel_rfl) rfl #[.float .f64 a] rfl (by (try simp only [List.map_toArray, List.map_cons, List.map_nil]); first | done | rfl) ?_; (with_reducible refine (L1 _).mono ?_); rintro e w' ⟨rfl, rfl⟩; refine ⟨_, rfl, ?_⟩) | ((with_reducible refine gate_callee (f := 28) rfl ?_); refine goesL_ (some 14) rfl rfl Try.func28 (by kernel_rfl) rfl #[.float .f64 b] rfl (by (try simp only [List.map_toArray, List.map_cons, List.map_nil]); first | done | rfl) ?_; (with_reducible refine (L2 _).mono ?_); rintro e w' ⟨rfl, rfl⟩; refine ⟨_, rfl, ?_⟩) | ((with_reducible refine gate_callee (f := 27) rfl ?_); refine goesL_ (some 15) rfl rfl Try.func27 (by kernel_rfl) rfl #[.int .i64 _, .int .i64 _] rfl (by (try simp only [List.map_toArray, List.map_cons, List.map_nil]); first | done | rfl) ?_; (with_reducible refine (C.out _).mono ?_); rintro e w' ⟨rfl, hd⟩; refine ⟨_, rfl, ?_⟩))
      go_ret
      exact ⟨rfl, hd⟩)
  have := key _ _ rfl rfl
  unfold cmpV
  exact this
end Go.Proofs.Ytebkbodkkehmfaa.Fl
