/- NextUp answers as the reference at every float. -/
import Derived.Test.YtebkbodkkehmfaaFlF
namespace Go.Proofs.Ytebkbodkkehmfaa.Fl
open Go.RowKit Go.Proofs.YtebkbodkkehmfaaW.PrintWords Go.Proofs.YtebkbodkkehmfaaW.PrintLast Go.Proofs.Ytebkbodkkehmfaa.F64
set_option linter.unusedVariables false
set_option linter.unusedSimpArgs false

set_option maxHeartbeats 8000000 in
theorem same_calls (a b : Nat) (ha : a < 2 * S) (h : a = b ∨ (isNaN a = true ∧ isNaN b = true)) (w : World) : Calls Try.prog 11 #[.float .f64 a, .float .f64 b] w fun e w' => e = .returned (.bool true) ∧ w' = w := by
  have hna : ((FloatKind.f64.format.order a a != some .eq)) = isNaN a := by rw [neq_eq]; cases isNaN a <;> simp
  have hnb : ((FloatKind.f64.format.order b b != some .eq)) = isNaN b := by rw [neq_eq]; cases isNaN b <;> simp
  cases hn : isNaN a
  · have e : a = b := by rcases h with h | h; exact h; rw [hn] at h; exact absurd h.1 (by decide)
    subst e
    rw [hn] at hna
    clear hnb h
    have heq : (FloatKind.f64.format.order a 0 == some .eq) = decide (sr a = 0) := by rw [eql_eq, hn, nan_zero, sr_zero]; rfl
    have hself : (FloatKind.f64.format.order a a == some .eq) = true := by rw [eql_eq, hn]; simp
    by_cases h2 : sr a = 0
    · rw [decide_eq_true h2] at heq
      rcases zero_word ha ((sr_zero_iff a).1 h2) with rfl | rfl
      · have q := quo_law 4607182418800017408 0 I (by decide)
        have hl2 : (FloatKind.f64.format.order I 0 == some .gt) = true := by decide
        clear h2 hn ha
        go_enter Try.func11, Try.ntmps11
        go_wp2_with (simp only [hna, heq, q, hl2])
        go_ret
        exact ⟨rfl, rfl⟩
      · have q := quo_law 4607182418800017408 S (S + I) (by decide)
        have hl2 : (FloatKind.f64.format.order (S + I) 0 == some .gt) = false := by decide
        generalize S + I = u at *
        generalize S = v at *
        clear h2 hn ha
        go_enter Try.func11, Try.ntmps11
        go_wp2_with (simp only [hna, heq, q, hl2])
        go_ret
        exact ⟨rfl, rfl⟩
    · rw [decide_eq_false h2] at heq
      clear h2 hn ha
      go_enter Try.func11, Try.ntmps11
      go_wp2_with (simp only [hna, heq, hself])
      go_ret
      exact ⟨rfl, rfl⟩
  · have hb : isNaN b = true := by rcases h with h | h; rw [← h]; exact hn; exact h.2
    rw [hn] at hna
    rw [hb] at hnb
    clear h hn hb ha
    go_enter Try.func11, Try.ntmps11
    go_wp2_with (simp only [hna, hnb])
    go_ret
    exact ⟨rfl, rfl⟩
theorem wf_lt {a : Nat} (h : (Lit.float .f64 a).wf = true) : a < 2 * S := by
  simp only [Lit.wf, decide_eq_true_eq] at h
  exact h
set_option maxHeartbeats 8000000 in
theorem up_walk (a : Nat) (w : World) (hw : (Lit.float .f64 a).wf = true) : Calls Try.prog 6 #[.float .f64 a] w fun e w' => e = .returned (.bool true) ∧ Below w.heap.size w w' := by
  have ha := wf_lt hw
  have H1 := fun w => specUp_calls a ha w
  have H2 := fun w => implUp_calls a ha w
  have H3 := fun w => same_calls (nx a) (nx a) (nx_lt ha) (.inl rfl) w
  generalize nx a = v at *
  clear ha hw
  go_enter Try.func6, Try.ntmps6
  go_wp2_with (first | ((with_reducible refine gate_callee (f := 17) rfl ?_); refine goesL_ (some 6) rfl rfl Try.func17 (by kernel_rfl) rfl #[.float .f64 a] rfl (by (try simp only [List.map_toArray, List.map_cons, List.map_nil]); first | done | rfl) ?_; (with_reducible refine (H1 _).mono ?_); rintro e w' ⟨rfl, ⟨nd, rfl⟩⟩; refine ⟨_, rfl, ?_⟩) | ((with_reducible refine gate_callee (f := 18) rfl ?_); refine goesL_ (some 8) rfl rfl Try.func18 (by kernel_rfl) rfl #[.float .f64 a] rfl (by (try simp only [List.map_toArray, List.map_cons, List.map_nil]); first | done | rfl) ?_; (with_reducible refine (H2 _).mono ?_); rintro e w' ⟨rfl, ⟨nd, rfl⟩⟩; refine ⟨_, rfl, ?_⟩) | ((with_reducible refine gate_callee (f := 11) rfl ?_); refine goesL_ (some 11) rfl rfl Try.func11 (by kernel_rfl) rfl #[.float .f64 v, .float .f64 v] rfl (by (try simp only [List.map_toArray, List.map_cons, List.map_nil]); first | done | rfl) ?_; (with_reducible refine (H3 _).mono ?_); rintro e w' ⟨rfl, rfl⟩; refine ⟨_, rfl, ?_⟩))
  go_ret
  exact ⟨rfl, by repeat (first | exact Below.refl _ _ | apply pw_below_drewN)⟩
end Go.Proofs.Ytebkbodkkehmfaa.Fl
