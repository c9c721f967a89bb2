/- The next float, as the reference finds it. -/
import Derived.Test.YtebkbodkkehmfaaFlD
namespace Go.Proofs.Ytebkbodkkehmfaa.Fl
open Go.RowKit Go.Proofs.YtebkbodkkehmfaaW.PrintWords Go.Proofs.YtebkbodkkehmfaaW.PrintLast Go.Proofs.Ytebkbodkkehmfaa.F64
set_option linter.unusedVariables false
set_option linter.unusedSimpArgs false

theorem wr {x : Int} (h1 : -9223372036854775808 ≤ x) (h2 : x ≤ 9223372036854775807) : wrap64 x = x := by
  unfold wrap64; omega
/-- the next float up -/
def nx (a : Nat) : Nat := if isNaN a = true ∨ (rung a = I ∧ neg a = false) then a else if neg a = true then (if rung a = 0 then 0 else S + (rung a - 1)) else rung a + 1
theorem pos_word {a : Nat} (ha : a < 2 * S) (h : neg a = false) : rung a = a := by
  have := word_of a ha; rw [h] at this; exact this
theorem neg_word' {a : Nat} (ha : a < 2 * S) (h : neg a = true) : a = S + rung a := by
  have := word_of a ha; rw [h] at this; exact this.symm
theorem negF_pos {r : Nat} (h : r ≤ I) : Op.negFloat .f64 r = S + r := by
  have hs : r < 2 * S := by unfold S; unfold I at h; omega
  obtain ⟨h1, h2, h3⟩ := negF r hs
  rw [neg_self h] at h2
  rw [neg_word' h3 h2, h1, rung_self h]
theorem negF_neg {a : Nat} (ha : a < 2 * S) (h : neg a = true) : Op.negFloat .f64 a = rung a := by
  obtain ⟨h1, h2, h3⟩ := negF a ha
  rw [h] at h2
  rw [← pos_word h3 h2, h1]
theorem E_pred {r : Nat} (h : 0 < r) : (K r = B ∧ 0 < E r → E (r - 1) = E r - 1 ∧ K (r - 1) = 2 * B - 1) ∧ (¬ (K r = B ∧ 0 < E r) → E (r - 1) = E r) := by
  unfold K E B
  constructor
  · intro h1
    by_cases hb : r < 4503599627370496
    · simp only [if_pos hb] at h1; omega
    · simp only [if_neg hb] at h1 ⊢
      have hb2 : ¬ r - 1 < 4503599627370496 := by omega
      simp only [if_neg hb2]
      omega
  · intro h1
    by_cases hb : r < 4503599627370496
    · simp only [if_pos hb] at h1 ⊢
      have hb2 : r - 1 < 4503599627370496 := by omega
      simp only [if_pos hb2]
    · simp only [if_neg hb] at h1 ⊢
      by_cases hb2 : r - 1 < 4503599627370496
      · simp only [if_pos hb2]; omega
      · simp only [if_neg hb2]; omega
theorem E_le {r : Nat} (h : r < I) : E r ≤ 2045 := by unfold E; unfold I at h; unfold B; split <;> omega
theorem E_top {r : Nat} (h : r + 1 ≤ I) : E r ≤ 2045 := E_le (by omega)
theorem K_top {r : Nat} : K r + 1 ≤ 2 * B := K_lt r
theorem up_word (r : Nat) (h : r < I) (w : World) : Calls Try.prog 31 #[.int .i64 (wrap64 ((K r : Int) + 1)), .int .i64 ((E r : Int) - 1074)] w fun e w' => e = .returned (.float .f64 (r + 1)) ∧ w' = w := by
  have hK := K_lt r
  have hE := E_le h
  have e : wrap64 ((K r : Int) + 1) = ((K r + 1 : Nat) : Int) := by rw [wr (by omega) (by unfold B at hK; omega)]; omega
  rw [e]
  refine float_word (K r + 1) _ (by omega) (by omega) (by omega) (r + 1) (by omega) ?_ w
  rw [V_succ, V_eq, show (1074 + ((E r : Int) - 1074)).toNat = E r from by omega, Nat.succ_mul]
theorem down_word (r : Nat) (h0 : 0 < r) (h : r ≤ I) (hc : ¬ (K r = B ∧ 0 < E r)) (hl : r < I) (w : World) : Calls Try.prog 31 #[.int .i64 (wrap64 ((K r : Int) - 1)), .int .i64 ((E r : Int) - 1074)] w fun e w' => e = .returned (.float .f64 (r - 1)) ∧ w' = w := by
  have hK := K_lt r
  have hE := E_le hl
  have hp := (E_pred h0).2 hc
  have hKp : 0 < K r := by unfold K B; split <;> omega
  have e : wrap64 ((K r : Int) - 1) = ((K r - 1 : Nat) : Int) := by rw [wr (by omega) (by unfold B at hK; omega)]; omega
  rw [e]
  refine float_word (K r - 1) _ (by omega) (by omega) (by omega) (r - 1) (by omega) ?_ w
  have hv := V_succ (r - 1)
  rw [show r - 1 + 1 = r from by omega, hp, V_eq r] at hv
  rw [show (1074 + ((E r : Int) - 1074)).toNat = E r from by omega, Nat.sub_mul]
  generalize 2 ^ E r = q at *
  omega
theorem down_word2 (r : Nat) (h0 : 0 < r) (hc : K r = B ∧ 0 < E r) (hl : r < I) (w : World) : Calls Try.prog 31 #[.int .i64 (wrap64 (wrap64 (2 * (K r : Int)) - 1)), .int .i64 (wrap64 ((E r : Int) - 1074 - 1))] w fun e w' => e = .returned (.float .f64 (r - 1)) ∧ w' = w := by
  have hE := E_le hl
  obtain ⟨p1, p2⟩ := (E_pred h0).1 hc
  have hB : (B : Int) = 4503599627370496 := rfl
  have e : wrap64 (wrap64 (2 * (K r : Int)) - 1) = ((2 * B - 1 : Nat) : Int) := by
    rw [hc.1, wr (x := 2 * (B : Int)) (by omega) (by omega), wr (by omega) (by omega)]
    have := B_pos; omega
  have e2 : wrap64 ((E r : Int) - 1074 - 1) = (E r : Int) - 1074 - 1 := wr (by omega) (by omega)
  rw [e, e2]
  refine float_word (2 * B - 1) _ (by omega) (by omega) (by omega) (r - 1) (by omega) ?_ w
  rw [V_eq, p1, p2, show (1074 + ((E r : Int) - 1074 - 1)).toNat = E r - 1 from by omega]
theorem inf_word (w : World) : Calls Try.prog 31 #[.int .i64 9007199254740991, .int .i64 971] w fun e w' => e = .returned (.float .f64 (I - 1)) ∧ w' = w := by
  have hB : B = 4503599627370496 := rfl
  have := float_word (2 * B - 1) 971 (by omega) (by omega) (by omega) (I - 1) (by omega) (by
    rw [V_eq]
    have h1 : K (I - 1) = 2 * B - 1 := by decide
    have h2 : E (I - 1) = (1074 + 971 : Int).toNat := by decide
    rw [h1, h2]) w
  exact this
set_option maxHeartbeats 8000000 in
theorem specUp_calls (a : Nat) (ha : a < 2 * S) (w : World) : Calls Try.prog 17 #[.float .f64 a] w fun e w' => e = .returned (.float .f64 (nx a)) ∧ Drawn0 w w' := by
  have HC := fun w => specClass_calls a ha w
  unfold nx
  by_cases hs : isNaN a = true ∨ (rung a = I ∧ neg a = false)
  · rw [if_pos hs]
    rcases hs with hs | ⟨h1, h2⟩
    · have c1 : cls a = 0 := by unfold cls; rw [if_pos hs]
      have c2 : clsNeg a = false := by unfold clsNeg; rw [if_pos hs]
      rw [c1, c2] at HC
      clear hs c1 c2 ha
      go_enter Try.func17, Try.ntmps17
      go_wp2_with (first | ((with_reducible refine gate_callee (f := 13) rfl ?_); refine goesL_ (some 11) rfl rfl Try.func13 (by kernel_rfl) rfl #[.float .f64 a] rfl (by (try simp only [List.map_toArray, List.map_cons, List.map_nil]); first | done | rfl) ?_; (with_reducible refine (HC _).mono ?_); rintro e w' ⟨rfl, ⟨nd, rfl⟩⟩; refine ⟨_, rfl, ?_⟩))
      go_ret
      exact ⟨rfl, by repeat (first | exact Drawn0.refl _ | apply Drawn0.step)⟩
    · have hn : isNaN a = false := by unfold isNaN; rw [h1]; decide
      have c1 : cls a = 1 := by unfold cls; rw [hn, if_pos h1]; rfl
      have c2 : clsNeg a = false := by unfold clsNeg; rw [hn]; exact h2
      rw [c1, c2] at HC
      clear hn h1 h2 c1 c2 ha
      go_enter Try.func17, Try.ntmps17
      go_wp2_with (first | ((with_reducible refine gate_callee (f := 13) rfl ?_); refine goesL_ (some 11) rfl rfl Try.func13 (by kernel_rfl) rfl #[.float .f64 a] rfl (by (try simp only [List.map_toArray, List.map_cons, List.map_nil]); first | done | rfl) ?_; (with_reducible refine (HC _).mono ?_); rintro e w' ⟨rfl, ⟨nd, rfl⟩⟩; refine ⟨_, rfl, ?_⟩))
      go_ret
      exact ⟨rfl, by repeat (first | exact Drawn0.refl _ | apply Drawn0.step)⟩
  · rw [if_neg hs]
    have hn : isNaN a = false := by cases h : isNaN a; rfl; exact absurd (.inl h) hs
    have hle := rung_le hn
    have c2 : clsNeg a = neg a := by unfold clsNeg; rw [hn]; rfl
    rw [c2] at HC
    by_cases hI : rung a = I
    · have hneg : neg a = true := by cases h : neg a; exact absurd (.inr ⟨hI, h⟩) hs; rfl
      have c1 : cls a = 1 := by unfold cls; rw [hn, if_pos hI]; rfl
      rw [c1, hneg] at HC
      rw [if_pos hneg, hI, if_neg (by decide)]
      have NL : ∀ w, (Op.unary .neg (.float .f64 (I - 1))).run Try.prog w = .ok (.float .f64 (S + (I - 1))) w := fun w => by rw [neg_law, negF_pos (by omega)]
      have HW := inf_word
      generalize I - 1 = v at *
      generalize S + v = u at *
      clear hs hn hle hI hneg c1 c2 ha
      go_enter Try.func17, Try.ntmps17
      go_wp2_with (first | ((with_reducible refine gate_callee (f := 13) rfl ?_); refine goesL_ (some 11) rfl rfl Try.func13 (by kernel_rfl) rfl #[.float .f64 a] rfl (by (try simp only [List.map_toArray, List.map_cons, List.map_nil]); first | done | rfl) ?_; (with_reducible refine (HC _).mono ?_); rintro e w' ⟨rfl, ⟨nd, rfl⟩⟩; refine ⟨_, rfl, ?_⟩) | ((with_reducible refine gate_callee (f := 31) rfl ?_); refine goesL_ (some 29) rfl rfl Try.func31 (by kernel_rfl) rfl #[.int .i64 9007199254740991, .int .i64 971] rfl (by (try simp only [List.map_toArray, List.map_cons, List.map_nil]); first | done | rfl) ?_; (with_reducible refine (HW _).mono ?_); rintro e w' ⟨rfl, rfl⟩; refine ⟨_, rfl, ?_⟩) | simp only [NL])
      go_ret
      exact ⟨rfl, by repeat (first | exact Drawn0.refl _ | apply Drawn0.step)⟩
    · have hlt : rung a < I := by omega
      cases hneg : neg a
      · rw [hneg] at HC
        have hr := pos_word ha hneg
        rw [if_neg (by decide), hr]
        rw [hr] at hlt
        have HP := fun w => parts_calls a hlt w
        have HW := fun w => up_word a hlt w
        have c1 : cls a = 2 ∨ cls a = 3 ∨ cls a = 4 := by unfold cls; rw [hn, if_neg hI]; simp only [Bool.false_eq_true, if_false]; split; exact .inl rfl; split; exact .inr (.inl rfl); exact .inr (.inr rfl)
        generalize (K a : Int) = m at *
        generalize (E a : Int) - 1074 = k at *
        generalize a + 1 = v at *
        generalize cls a = c at *
        clear hs hn hle hI hneg c2 ha hr hlt
        rcases c1 with rfl | rfl | rfl <;> (
          go_enter Try.func17, Try.ntmps17
          go_wp2_with (first | ((with_reducible refine gate_callee (f := 13) rfl ?_); refine goesL_ (some 11) rfl rfl Try.func13 (by kernel_rfl) rfl #[.float .f64 a] rfl (by (try simp only [List.map_toArray, List.map_cons, List.map_nil]); first | done | rfl) ?_; (with_reducible refine (HC _).mono ?_); rintro e w' ⟨rfl, ⟨nd, rfl⟩⟩; refine ⟨_, rfl, ?_⟩) | ((with_reducible refine gate_callee (f := 32) rfl ?_); refine goesL_ (some 42) rfl rfl Try.func32 (by kernel_rfl) rfl #[.float .f64 a] rfl (by (try simp only [List.map_toArray, List.map_cons, List.map_nil]); first | done | rfl) ?_; (with_reducible refine (HP _).mono ?_); rintro e w' ⟨rfl, rfl⟩; refine ⟨_, rfl, ?_⟩) | ((with_reducible refine gate_callee (f := 31) rfl ?_); refine goesL_ (some 48) rfl rfl Try.func31 (by kernel_rfl) rfl #[.int .i64 (wrap64 (m + 1)), .int .i64 k] rfl (by (try simp only [List.map_toArray, List.map_cons, List.map_nil]); first | done | rfl) ?_; (with_reducible refine (HW _).mono ?_); rintro e w' ⟨rfl, rfl⟩; refine ⟨_, rfl, ?_⟩))
          go_ret
          exact ⟨rfl, by repeat (first | exact Drawn0.refl _ | apply Drawn0.step)⟩)
      · rw [hneg] at HC
        rw [if_pos rfl]
        by_cases hz : rung a = 0
        · rw [if_pos hz]
          have c1 : cls a = 2 := by unfold cls; rw [hn, if_neg hI, if_pos hz]; rfl
          rw [c1] at HC
          clear hs hn hle hI hneg c1 c2 ha hlt hz
          go_enter Try.func17, Try.ntmps17
          go_wp2_with (first | ((with_reducible refine gate_callee (f := 13) rfl ?_); refine goesL_ (some 11) rfl rfl Try.func13 (by kernel_rfl) rfl #[.float .f64 a] rfl (by (try simp only [List.map_toArray, List.map_cons, List.map_nil]); first | done | rfl) ?_; (with_reducible refine (HC _).mono ?_); rintro e w' ⟨rfl, ⟨nd, rfl⟩⟩; refine ⟨_, rfl, ?_⟩))
          go_ret
          exact ⟨rfl, by repeat (first | exact Drawn0.refl _ | apply Drawn0.step)⟩
        · rw [if_neg hz]
          have c1 : cls a = 3 ∨ cls a = 4 := by unfold cls; rw [hn, if_neg hI, if_neg hz]; simp only [Bool.false_eq_true, if_false]; split; exact .inl rfl; exact .inr rfl
          have NL : ∀ w, (Op.unary .neg (.float .f64 a)).run Try.prog w = .ok (.float .f64 (rung a)) w := fun w => by rw [neg_law, negF_neg ha hneg]
          have NL2 : ∀ w, (Op.unary .neg (.float .f64 (rung a - 1))).run Try.prog w = .ok (.float .f64 (S + (rung a - 1))) w := fun w => by rw [neg_law, negF_pos (by omega)]
          generalize hr : rung a = r at *
          have HP := fun w => parts_calls r hlt w
          generalize S + (r - 1) = u at *
          by_cases hc : K r = B ∧ 0 < E r
          · have HW := fun w => down_word2 r (by omega) hc hlt w
            have hm : (K r : Int) = 4503599627370496 := by rw [hc.1]; rfl
            have hk : (E r : Int) - 1074 > -1074 := by omega
            rw [hm] at HP HW
            generalize (E r : Int) - 1074 = k at *
            generalize r - 1 = v at *
            have hmm : wrap64 (wrap64 (2 * 4503599627370496) - 1) = 9007199254740991 := by unfold wrap64; omega
            rw [hmm] at HW
            generalize hkk : wrap64 (k - 1) = k2 at *
            generalize cls a = c at *
            clear hs hn hle hI hneg c2 ha hr hlt hz hc hm hmm
            rcases c1 with rfl | rfl <;> (
              go_enter Try.func17, Try.ntmps17
              go_wp2_with (first | ((with_reducible refine gate_callee (f := 13) rfl ?_); refine goesL_ (some 11) rfl rfl Try.func13 (by kernel_rfl) rfl #[.float .f64 a] rfl (by (try simp only [List.map_toArray, List.map_cons, List.map_nil]); first | done | rfl) ?_; (with_reducible refine (HC _).mono ?_); rintro e w' ⟨rfl, ⟨nd, rfl⟩⟩; refine ⟨_, rfl, ?_⟩) | ((with_reducible refine gate_callee (f := 32) rfl ?_); refine goesL_ (some 52) rfl rfl Try.func32 (by kernel_rfl) rfl #[.float .f64 r] rfl (by (try simp only [List.map_toArray, List.map_cons, List.map_nil]); first | done | rfl) ?_; (with_reducible refine (HP _).mono ?_); rintro e w' ⟨rfl, rfl⟩; refine ⟨_, rfl, ?_⟩) | ((with_reducible refine gate_callee (f := 31) rfl ?_); refine goesL_ (some 66) rfl rfl Try.func31 (by kernel_rfl) rfl #[.int .i64 9007199254740991, .int .i64 k2] rfl (by (try simp only [List.map_toArray, List.map_cons, List.map_nil]); first | done | rfl) ?_; (with_reducible refine (HW _).mono ?_); rintro e w' ⟨rfl, rfl⟩; refine ⟨_, rfl, ?_⟩) | simp only [NL, NL2, hkk])
              go_ret
              exact ⟨rfl, by repeat (first | exact Drawn0.refl _ | apply Drawn0.step)⟩)
          · have HW := fun w => down_word r (by omega) (by omega) hc hlt w
            by_cases hm : (K r : Int) = 4503599627370496
            · have hk : decide ((E r : Int) - 1074 > -1074) = false := decide_eq_false (by
                have hB : (B : Int) = 4503599627370496 := rfl
                have : ¬ 0 < E r := fun h => hc ⟨by omega, h⟩
                omega)
              rw [hm] at HP HW
              have hmm : wrap64 (4503599627370496 - 1) = 4503599627370495 := by unfold wrap64; omega
              rw [hmm] at HW
              generalize (E r : Int) - 1074 = k at *
              generalize r - 1 = v at *
              generalize cls a = c at *
              clear hs hn hle hI hneg c2 ha hr hlt hz hc hm hmm
              rcases c1 with rfl | rfl <;> (
                go_enter Try.func17, Try.ntmps17
                go_wp2_with (first | ((with_reducible refine gate_callee (f := 13) rfl ?_); refine goesL_ (some 11) rfl rfl Try.func13 (by kernel_rfl) rfl #[.float .f64 a] rfl (by (try simp only [List.map_toArray, List.map_cons, List.map_nil]); first | done | rfl) ?_; (with_reducible refine (HC _).mono ?_); rintro e w' ⟨rfl, ⟨nd, rfl⟩⟩; refine ⟨_, rfl, ?_⟩) | ((with_reducible refine gate_callee (f := 32) rfl ?_); refine goesL_ (some 52) rfl rfl Try.func32 (by kernel_rfl) rfl #[.float .f64 r] rfl (by (try simp only [List.map_toArray, List.map_cons, List.map_nil]); first | done | rfl) ?_; (with_reducible refine (HP _).mono ?_); rintro e w' ⟨rfl, rfl⟩; refine ⟨_, rfl, ?_⟩) | ((with_reducible refine gate_callee (f := 31) rfl ?_); refine goesL_ (some 71) rfl rfl Try.func31 (by kernel_rfl) rfl #[.int .i64 4503599627370495, .int .i64 k] rfl (by (try simp only [List.map_toArray, List.map_cons, List.map_nil]); first | done | rfl) ?_; (with_reducible refine (HW _).mono ?_); rintro e w' ⟨rfl, rfl⟩; refine ⟨_, rfl, ?_⟩) | simp only [NL, NL2, hk])
                go_ret
                exact ⟨rfl, by repeat (first | exact Drawn0.refl _ | apply Drawn0.step)⟩)
            · generalize (E r : Int) - 1074 = k at *
              generalize (K r : Int) = m at *
              generalize r - 1 = v at *
              generalize cls a = c at *
              clear hs hn hle hI hneg c2 ha hr hlt hz hc
              rcases c1 with rfl | rfl <;> (
                go_enter Try.func17, Try.ntmps17
                go_wp2_with (first | ((with_reducible refine gate_callee (f := 13) rfl ?_); refine goesL_ (some 11) rfl rfl Try.func13 (by kernel_rfl) rfl #[.float .f64 a] rfl (by (try simp only [List.map_toArray, List.map_cons, List.map_nil]); first | done | rfl) ?_; (with_reducible refine (HC _).mono ?_); rintro e w' ⟨rfl, ⟨nd, rfl⟩⟩; refine ⟨_, rfl, ?_⟩) | ((with_reducible refine gate_callee (f := 32) rfl ?_); refine goesL_ (some 52) rfl rfl Try.func32 (by kernel_rfl) rfl #[.float .f64 r] rfl (by (try simp only [List.map_toArray, List.map_cons, List.map_nil]); first | done | rfl) ?_; (with_reducible refine (HP _).mono ?_); rintro e w' ⟨rfl, rfl⟩; refine ⟨_, rfl, ?_⟩) | ((with_reducible refine gate_callee (f := 31) rfl ?_); refine goesL_ (some 71) rfl rfl Try.func31 (by kernel_rfl) rfl #[.int .i64 (wrap64 (m - 1)), .int .i64 k] rfl (by (try simp only [List.map_toArray, List.map_cons, List.map_nil]); first | done | rfl) ?_; (with_reducible refine (HW _).mono ?_); rintro e w' ⟨rfl, rfl⟩; refine ⟨_, rfl, ?_⟩) | simp only [NL, NL2, hm])
                go_ret
                exact ⟨rfl, by repeat (first | exact Drawn0.refl _ | apply Drawn0.step)⟩)
end Go.Proofs.Ytebkbodkkehmfaa.Fl
