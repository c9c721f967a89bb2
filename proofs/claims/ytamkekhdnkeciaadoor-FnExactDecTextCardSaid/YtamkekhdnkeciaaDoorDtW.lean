/- The walk of the law DecText: both answer the numeral. -/
import Derived.Test.YtamkekhdnkeciaaDoorPureFnExactDecText
import Derived.Test.YtamkekhdnkeciaaDoorShI
namespace Go.Proofs.YtamkekhdnkeciaaDoor.Dt
open Go.RowKit Go.Proofs.YtamkekhdnkeciaaDoor.PFnExactDecText Go.Proofs.YtamkekhdnkeciaaDoorW.PrintWords Go.Proofs.YtamkekhdnkeciaaDoorW.PrintLast
theorem impl_calls (n : Int) (h1 : -9223372036854775808 ≤ n) (h2 : n ≤ 9223372036854775807) (w : World) (ht : Lib.TabIs Tryd.prog w "internal/strconv.uint64pow10" .u64 Lib.pow10Tab) :
    Calls Tryd.prog 11 #[.int .i64 n] w fun e w' => e = .returned (.string ⟨(Lib.itoa n).toArray⟩) ∧ ∃ k os, w' = Go.Sort.grow (w.drewN k) os := by
  have HC := Tryd.strconv_Itoa n h1 h2 w ht
  generalize (⟨(Lib.itoa n).toArray⟩ : ByteArray) = s at *
  go_enter Tryd.func11, Tryd.ntmps11
  go_wp2_with (go_at_call 22; (with_reducible refine HC.mono ?_); rintro e w' ⟨rfl, k, os, rfl⟩)
  go_ret
  exact ⟨rfl, _, _, rfl⟩
theorem tab_drew {w : World} {m : Nat} (ht : Lib.TabIs Tryd.prog w "internal/strconv.uint64pow10" .u64 Lib.pow10Tab) : Lib.TabIs Tryd.prog (w.drewN m) "internal/strconv.uint64pow10" .u64 Lib.pow10Tab := ht
theorem below_itoa (w : World) (q : Nat) (os : Array Obj) : Below w.heap.size w (Go.Sort.grow (w.drewN q) os) :=
  ⟨rfl, rfl, rfl, by show w.heap.size ≤ (w.heap ++ os).size; rw [Array.size_append]; omega, fun _ hj => Go.Sort.heap_grow_old (w.drewN q) os hj⟩
theorem law_walk (n : Int) (w : World) (hw : (Lit.int .i64 n).wf = true) (ht : Lib.TabIs Tryd.prog w "internal/strconv.uint64pow10" .u64 Lib.pow10Tab) :
    Calls Tryd.prog 4 #[.int .i64 n] w fun e w' => e = .returned (.bool true) ∧ Below w.heap.size w w' := by
  have hb : -9223372036854775808 ≤ n ∧ n ≤ 9223372036854775807 := by
    simp only [Lit.wf, Bool.and_eq_true, decide_eq_true_eq] at hw
    have e1 : IntKind.min .i64 = -9223372036854775808 := by decide
    have e2 : IntKind.max .i64 = 9223372036854775807 := by decide
    rw [e1, e2] at hw; exact hw
  obtain ⟨K, hK⟩ := Pure.AFnExactDecText.decText_eq n hb.1 hb.2
  have H1 := fun w => spec_DecText.calls K n _ w (hK K (Nat.le_refl _))
  have H2 := fun m => impl_calls n hb.1 hb.2 (w.drewN m) (tab_drew ht)
  generalize (⟨(Lib.itoa n).toArray⟩ : ByteArray) = s at *
  clear ht hK hw hb
  go_enter Tryd.func4, Tryd.ntmps4
  go_wp2_with (first | (go_at_call 10; (with_reducible refine (H1 _).mono ?_); rintro e w' ⟨rfl, ⟨m, rfl⟩⟩) | (go_at_call 11; (with_reducible refine (H2 _).mono ?_); rintro e w' ⟨rfl, k, os, rfl⟩))
  go_ret
  exact ⟨rfl, below_itoa _ _ _⟩
end Go.Proofs.YtamkekhdnkeciaaDoor.Dt
