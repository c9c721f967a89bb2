/- Walks of the float functions: the order as the reference tells it. -/
import Derived.Test.YtebkbodkkehmfaaFlB
namespace Go.Proofs.Ytebkbodkkehmfaa.Fl
open Go.RowKit Go.Proofs.YtebkbodkkehmfaaW.PrintWords Go.Proofs.YtebkbodkkehmfaaW.PrintLast Go.Proofs.Ytebkbodkkehmfaa.F64
set_option linter.unusedVariables false
set_option linter.unusedSimpArgs false
set_option maxHeartbeats 8000000 in
theorem specCmp_calls (a b : Nat) (ha : a < 2 * S) (hb : b < 2 * S) (w : World) : Calls Try.prog 15 #[.float .f64 a, .float .f64 b] w fun e w' => e = .returned (.int .i64 (cmpV a b)) ∧ w' = w := by
  have hna : ((FloatKind.f64.format.order a a != some .eq)) = isNaN a := by rw [neq_eq]; cases isNaN a <;> simp
  have hnb : ((FloatKind.f64.format.order b b != some .eq)) = isNaN b := by rw [neq_eq]; cases isNaN b <;> simp
  by_cases hn : isNaN a = true ∨ isNaN b = true
  · unfold cmpV
    rw [if_pos hn]
    cases ha1 : isNaN a
    · have hb1 : isNaN b = true := by rw [ha1] at hn; simpa using hn
      rw [ha1] at hna
      rw [hb1] at hnb
      clear hn
      simp only [Bool.false_eq_true, if_false]
      go_enter Try.func15, Try.ntmps15
      go_wp2_with (simp only [hna, hnb])
      go_ret
      exact ⟨rfl, rfl⟩
    · rw [ha1] at hna
      simp only [if_true]
      clear hn
      cases hb1 : isNaN b
      · rw [hb1] at hnb
        simp only [Bool.false_eq_true, if_false]
        go_enter Try.func15, Try.ntmps15
        go_wp2_with (simp only [hna, hnb])
        go_ret
        exact ⟨rfl, rfl⟩
      · rw [hb1] at hnb
        simp only [if_true]
        go_enter Try.func15, Try.ntmps15
        go_wp2_with (simp only [hna, hnb])
        go_ret
        exact ⟨rfl, rfl⟩
  · have ha1 : isNaN a = false := by cases h : isNaN a; rfl; exact absurd (.inl h) hn
    have hb1 : isNaN b = false := by cases h : isNaN b; rfl; exact absurd (.inr h) hn
    unfold cmpV
    rw [if_neg hn]
    rw [ha1] at hna
    rw [hb1] at hnb
    clear hn
    have hlt : (FloatKind.f64.format.order a b == some .lt) = decide (sr a < sr b) := by rw [lss_eq, ha1, hb1]; rfl
    have heq : (FloatKind.f64.format.order a b == some .eq) = decide (sr a = sr b) := by rw [eql_eq, ha1, hb1]; rfl
    have hgt : (FloatKind.f64.format.order a b == some .gt) = decide (sr b < sr a) := by rw [gtr_eq, ha1, hb1]; rfl
    have k1 := rk_lt a b
    have k2 := rk_lt b a
    generalize hx : neg a = x at *
    generalize hy : neg b = y at *
    have HM1 : ∀ w, Calls Try.prog 21 #[.float .f64 a] w fun e w' => e = .returned (.bool x) ∧ w' = w := by rw [← hx]; exact fun w => minus_calls a ha ha1 w
    have HM2 : ∀ w, Calls Try.prog 21 #[.float .f64 b] w fun e w' => e = .returned (.bool y) ∧ w' = w := by rw [← hy]; exact fun w => minus_calls b hb hb1 w
    rcases Int.lt_trichotomy (sr a) (sr b) with h | h | h
    · rw [decide_eq_true h] at hlt
      rw [if_pos (k1.2 (.inl h))]
      clear k1 k2 hgt heq h
      go_enter Try.func15, Try.ntmps15
      go_wp2_with (first | ((with_reducible refine gate_callee (f := 21) rfl ?_); refine goesL_ (some 29) rfl rfl Try.func21 (by kernel_rfl) rfl #[.float .f64 a] rfl (by (try simp only [List.map_toArray, List.map_cons, List.map_nil]); first | done | rfl) ?_; (with_reducible refine (HM1 _).mono ?_); rintro e w' ⟨rfl, rfl⟩; refine ⟨_, rfl, ?_⟩) | ((with_reducible refine gate_callee (f := 21) rfl ?_); refine goesL_ (some 31) rfl rfl Try.func21 (by kernel_rfl) rfl #[.float .f64 b] rfl (by (try simp only [List.map_toArray, List.map_cons, List.map_nil]); first | done | rfl) ?_; (with_reducible refine (HM2 _).mono ?_); rintro e w' ⟨rfl, rfl⟩; refine ⟨_, rfl, ?_⟩) | simp only [hna, hnb, hlt])
      go_ret
      exact ⟨rfl, rfl⟩
    · rw [decide_eq_false (by omega)] at hlt
      rw [decide_eq_false (by omega)] at hgt
      rw [decide_eq_true h] at heq
      have c : (if rk a < rk b then (-1 : Int) else if rk b < rk a then 1 else 0) = if x then (if y then 0 else -1) else (if y then 1 else 0) := by
        have k1' : rk a < rk b ↔ x = true ∧ y = false := by
          rw [k1]
          exact ⟨fun h' => by rcases h' with h' | h'; omega; exact h'.2, fun h' => .inr ⟨h, h'⟩⟩
        have k2' : rk b < rk a ↔ y = true ∧ x = false := by
          rw [k2]
          exact ⟨fun h' => by rcases h' with h' | h'; omega; exact h'.2, fun h' => .inr ⟨h.symm, h'⟩⟩
        cases x <;> cases y <;> simp [k1', k2']
      rw [c]
      clear k1 k2 h c hx hy
      cases x <;> cases y <;> (
        simp only [Bool.false_eq_true, if_false, if_true]
        go_enter Try.func15, Try.ntmps15
        go_wp2_with (first | ((with_reducible refine gate_callee (f := 21) rfl ?_); refine goesL_ (some 29) rfl rfl Try.func21 (by kernel_rfl) rfl #[.float .f64 a] rfl (by (try simp only [List.map_toArray, List.map_cons, List.map_nil]); first | done | rfl) ?_; (with_reducible refine (HM1 _).mono ?_); rintro e w' ⟨rfl, rfl⟩; refine ⟨_, rfl, ?_⟩) | ((with_reducible refine gate_callee (f := 21) rfl ?_); refine goesL_ (some 31) rfl rfl Try.func21 (by kernel_rfl) rfl #[.float .f64 b] rfl (by (try simp only [List.map_toArray, List.map_cons, List.map_nil]); first | done | rfl) ?_; (with_reducible refine (HM2 _).mono ?_); rintro e w' ⟨rfl, rfl⟩; refine ⟨_, rfl, ?_⟩) | simp only [hna, hnb, hlt, heq, hgt])
        go_ret
        exact ⟨rfl, rfl⟩)
    · rw [decide_eq_false (by omega)] at hlt
      rw [decide_eq_false (by omega)] at heq
      rw [decide_eq_true h] at hgt
      have k1' : ¬ rk a < rk b := by rw [k1]; omega
      rw [if_neg k1', if_pos (k2.2 (.inl h))]
      clear k1 k2 h k1'
      go_enter Try.func15, Try.ntmps15
      go_wp2_with (first | ((with_reducible refine gate_callee (f := 21) rfl ?_); refine goesL_ (some 29) rfl rfl Try.func21 (by kernel_rfl) rfl #[.float .f64 a] rfl (by (try simp only [List.map_toArray, List.map_cons, List.map_nil]); first | done | rfl) ?_; (with_reducible refine (HM1 _).mono ?_); rintro e w' ⟨rfl, rfl⟩; refine ⟨_, rfl, ?_⟩) | ((with_reducible refine gate_callee (f := 21) rfl ?_); refine goesL_ (some 31) rfl rfl Try.func21 (by kernel_rfl) rfl #[.float .f64 b] rfl (by (try simp only [List.map_toArray, List.map_cons, List.map_nil]); first | done | rfl) ?_; (with_reducible refine (HM2 _).mono ?_); rintro e w' ⟨rfl, rfl⟩; refine ⟨_, rfl, ?_⟩) | simp only [hna, hnb, hlt, heq, hgt])
      go_ret
      exact ⟨rfl, rfl⟩
end Go.Proofs.Ytebkbodkkehmfaa.Fl
