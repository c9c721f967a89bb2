/- The next float, as impl finds it. -/
import Derived.Test.YtebkbodkkehmfaaFlE
namespace Go.Proofs.Ytebkbodkkehmfaa.Fl
open Go.RowKit Go.Proofs.YtebkbodkkehmfaaW.PrintWords Go.Proofs.YtebkbodkkehmfaaW.PrintLast Go.Proofs.Ytebkbodkkehmfaa.F64
set_option linter.unusedVariables false
set_option linter.unusedSimpArgs false

theorem IsInf1 (a : Nat) (ha : a < 2 * S) (b : Bool) (h : (decide (rung a = I) && !neg a) = b) (w : World) : Calls Try.prog 24 #[.float .f64 a, .int .i64 1] w fun e w' => e = .returned (.bool b) ∧ w' = w := by
  have := IsInf_calls a ha 1 (.inr rfl) w
  have e : (decide (rung a = I) && (decide ((1 : Int) = 0) || !neg a)) = b := by rw [← h]; simp
  rw [e] at this
  exact this
theorem nx_lt {a : Nat} (ha : a < 2 * S) : nx a < 2 * S := by
  have hr : rung a ≤ S - 1 := by have := rung_lt a; omega
  unfold nx
  split
  · exact ha
  · split
    · split
      · decide
      · unfold S at *; omega
    · unfold S at *; omega
set_option maxHeartbeats 8000000 in
theorem implUp_calls (a : Nat) (ha : a < 2 * S) (w : World) : Calls Try.prog 18 #[.float .f64 a] w fun e w' => e = .returned (.float .f64 (nx a)) ∧ Drawn0 w w' := by
  have HS := fun w => Signbit_calls a ha w
  have HN := fun w => IsNaN_calls a w
  have HI := fun (b : Bool) (h : (decide (rung a = I) && !neg a) = b) w => IsInf1 a ha b h w
  have HB := bits_fn a
  unfold nx
  by_cases hs : isNaN a = true ∨ (rung a = I ∧ neg a = false)
  · rw [if_pos hs]
    cases hn : isNaN a
    · have hI : rung a = I ∧ neg a = false := by rw [hn] at hs; simpa using hs
      have HI := HI true (by rw [hI.1, hI.2]; decide)
      rw [hn] at HN
      clear hs hn hI ha
      go_enter Try.func18, Try.ntmps18
      go_wp2_with (first | ((with_reducible refine gate_callee (f := 23) rfl ?_); refine goesL_ (some 8) rfl rfl Try.func23 (by kernel_rfl) rfl #[.float .f64 a] rfl (by (try simp only [List.map_toArray, List.map_cons, List.map_nil]); first | done | rfl) ?_; (with_reducible refine (HN _).mono ?_); rintro e w' ⟨rfl, rfl⟩; refine ⟨_, rfl, ?_⟩) | (go_at_call 24; (with_reducible refine (HI _).mono ?_); rintro e w' ⟨rfl, rfl⟩) | simp only [HB])
      go_ret
      exact ⟨rfl, Drawn0.refl _⟩
    · rw [hn] at HN
      clear hs hn ha HI
      go_enter Try.func18, Try.ntmps18
      go_wp2_with (first | ((with_reducible refine gate_callee (f := 23) rfl ?_); refine goesL_ (some 8) rfl rfl Try.func23 (by kernel_rfl) rfl #[.float .f64 a] rfl (by (try simp only [List.map_toArray, List.map_cons, List.map_nil]); first | done | rfl) ?_; (with_reducible refine (HN _).mono ?_); rintro e w' ⟨rfl, rfl⟩; refine ⟨_, rfl, ?_⟩) | simp only [HB])
      go_ret
      exact ⟨rfl, Drawn0.refl _⟩
  · rw [if_neg hs]
    have hn : isNaN a = false := by cases h : isNaN a; rfl; exact absurd (.inl h) hs
    have HI := HI false (by
      cases h : neg a
      · rw [decide_eq_false (fun h1 => hs (.inr ⟨h1, h⟩))]; rfl
      · simp)
    rw [hn] at HN
    cases hneg : neg a
    · rw [if_neg (by decide)]
      rw [hneg] at HS
      have hr := pos_word ha hneg
      have hlt := rung_lt a
      rw [hr] at hlt ⊢
      have hne : ¬ (a : Int) = 9223372036854775808 := by unfold S at hlt; omega
      have hF := frombits_fn ((a : Int) + 1)
      have hT : ((a : Int) + 1).toNat = a + 1 := by omega
      rw [hT] at hF
      have hw : IntKind.u64.wrap ((a : Int) + 1) = (a : Int) + 1 := by
        unfold S at hlt; rw [IntKind.wrap_u64]; omega
      clear hs hn hneg hr ha hT
      go_enter Try.func18, Try.ntmps18
      go_wp2_with (first | ((with_reducible refine gate_callee (f := 23) rfl ?_); refine goesL_ (some 8) rfl rfl Try.func23 (by kernel_rfl) rfl #[.float .f64 a] rfl (by (try simp only [List.map_toArray, List.map_cons, List.map_nil]); first | done | rfl) ?_; (with_reducible refine (HN _).mono ?_); rintro e w' ⟨rfl, rfl⟩; refine ⟨_, rfl, ?_⟩) | (go_at_call 24; (with_reducible refine (HI _).mono ?_); rintro e w' ⟨rfl, rfl⟩) | ((with_reducible refine gate_callee (f := 25) rfl ?_); refine goesL_ (some 19) rfl rfl Try.func25 (by kernel_rfl) rfl #[.float .f64 a] rfl (by (try simp only [List.map_toArray, List.map_cons, List.map_nil]); first | done | rfl) ?_; (with_reducible refine (HS _).mono ?_); rintro e w' ⟨rfl, rfl⟩; refine ⟨_, rfl, ?_⟩) | simp only [HB, hw, hF])
      go_ret
      exact ⟨rfl, Drawn0.refl _⟩
    · rw [if_pos rfl]
      rw [hneg] at HS
      have hr := neg_word' ha hneg
      by_cases hz : rung a = 0
      · rw [if_pos hz]
        have he : (a : Int) = 9223372036854775808 := by rw [hz] at hr; unfold S at hr; omega
        clear hs hn hneg hr ha hz
        go_enter Try.func18, Try.ntmps18
        go_wp2_with (first | ((with_reducible refine gate_callee (f := 23) rfl ?_); refine goesL_ (some 8) rfl rfl Try.func23 (by kernel_rfl) rfl #[.float .f64 a] rfl (by (try simp only [List.map_toArray, List.map_cons, List.map_nil]); first | done | rfl) ?_; (with_reducible refine (HN _).mono ?_); rintro e w' ⟨rfl, rfl⟩; refine ⟨_, rfl, ?_⟩) | (go_at_call 24; (with_reducible refine (HI _).mono ?_); rintro e w' ⟨rfl, rfl⟩) | ((with_reducible refine gate_callee (f := 25) rfl ?_); refine goesL_ (some 19) rfl rfl Try.func25 (by kernel_rfl) rfl #[.float .f64 a] rfl (by (try simp only [List.map_toArray, List.map_cons, List.map_nil]); first | done | rfl) ?_; (with_reducible refine (HS _).mono ?_); rintro e w' ⟨rfl, rfl⟩; refine ⟨_, rfl, ?_⟩) | simp only [HB])
        go_ret
        exact ⟨rfl, Drawn0.refl _⟩
      · rw [if_neg hz]
        have hne : ¬ (a : Int) = 9223372036854775808 := by unfold S at hr; omega
        have hF := frombits_fn ((a : Int) - 1)
        have hT : ((a : Int) - 1).toNat = S + (rung a - 1) := by omega
        rw [hT] at hF
        have hw : IntKind.u64.wrap ((a : Int) - 1) = (a : Int) - 1 := by
          unfold S at ha; rw [IntKind.wrap_u64]; omega
        generalize S + (rung a - 1) = v at *
        clear hs hn hneg hr ha hz hT
        go_enter Try.func18, Try.ntmps18
        go_wp2_with (first | ((with_reducible refine gate_callee (f := 23) rfl ?_); refine goesL_ (some 8) rfl rfl Try.func23 (by kernel_rfl) rfl #[.float .f64 a] rfl (by (try simp only [List.map_toArray, List.map_cons, List.map_nil]); first | done | rfl) ?_; (with_reducible refine (HN _).mono ?_); rintro e w' ⟨rfl, rfl⟩; refine ⟨_, rfl, ?_⟩) | (go_at_call 24; (with_reducible refine (HI _).mono ?_); rintro e w' ⟨rfl, rfl⟩) | ((with_reducible refine gate_callee (f := 25) rfl ?_); refine goesL_ (some 19) rfl rfl Try.func25 (by kernel_rfl) rfl #[.float .f64 a] rfl (by (try simp only [List.map_toArray, List.map_cons, List.map_nil]); first | done | rfl) ?_; (with_reducible refine (HS _).mono ?_); rintro e w' ⟨rfl, rfl⟩; refine ⟨_, rfl, ?_⟩) | simp only [HB, hw, hF])
        go_ret
        exact ⟨rfl, Drawn0.refl _⟩
end Go.Proofs.Ytebkbodkkehmfaa.Fl
