/- FloatCmp orders any two floats as the reference does. -/
import Derived.Test.YtebkbodkkehmfaaFlC
namespace Go.Proofs.Ytebkbodkkehmfaa.Fl
open Go.RowKit Go.Proofs.YtebkbodkkehmfaaW.PrintWords Go.Proofs.YtebkbodkkehmfaaW.PrintLast Go.Proofs.Ytebkbodkkehmfaa.F64
set_option linter.unusedVariables false
set_option linter.unusedSimpArgs false
theorem wf_lt {a : Nat} (h : (Lit.float .f64 a).wf = true) : a < 2 * S := by
  simp only [Lit.wf, decide_eq_true_eq] at h
  exact h

theorem cmp_walk (a b : Nat) (w : World) (hw : (Lit.float .f64 a).wf = true) (hw2 : (Lit.float .f64 b).wf = true) : Calls Try.prog 5 #[.float .f64 a, .float .f64 b] w fun e w' => e = .returned (.bool true) ∧ Below w.heap.size w w' := by
  have ha := wf_lt hw
  have hb := wf_lt hw2
  have H1 := fun w => specCmp_calls a b ha hb w
  have H2 := fun w => implCmp_calls a b ha hb w
  generalize cmpV a b = c at *
  clear ha hw hb hw2
  go_enter Try.func5, Try.ntmps5
  go_wp2_with (first | ((with_reducible refine gate_callee (f := 15) rfl ?_); refine goesL_ (some 9) rfl rfl Try.func15 (by kernel_rfl) rfl #[.float .f64 a, .float .f64 b] rfl (by (try simp only [List.map_toArray, List.map_cons, List.map_nil]); first | done | rfl) ?_; (with_reducible refine (H1 _).mono ?_); rintro e w' ⟨rfl, rfl⟩; refine ⟨_, rfl, ?_⟩) | ((with_reducible refine gate_callee (f := 16) rfl ?_); refine goesL_ (some 12) rfl rfl Try.func16 (by kernel_rfl) rfl #[.float .f64 a, .float .f64 b] rfl (by (try simp only [List.map_toArray, List.map_cons, List.map_nil]); first | done | rfl) ?_; (with_reducible refine (H2 _).mono ?_); rintro e w' ⟨rfl, ⟨nd, rfl⟩⟩; refine ⟨_, rfl, ?_⟩))
  go_ret
  exact ⟨rfl, by repeat (first | exact Below.refl _ _ | apply pw_below_drewN)⟩
end Go.Proofs.Ytebkbodkkehmfaa.Fl
