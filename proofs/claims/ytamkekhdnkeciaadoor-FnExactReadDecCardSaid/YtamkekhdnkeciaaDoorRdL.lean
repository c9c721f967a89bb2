/- The walk of the law ReadDec. -/
import Derived.Test.YtamkekhdnkeciaaDoorPureFnExactReadDec
import Derived.Test.YtamkekhdnkeciaaDoorRdW
namespace Go.Proofs.YtamkekhdnkeciaaDoor.Rl
open Go.RowKit Go.Proofs.YtamkekhdnkeciaaDoor.PFnExactReadDec Go.Proofs.YtamkekhdnkeciaaDoor.Rd Go.Proofs.YtamkekhdnkeciaaDoorW.PrintWords Go.Proofs.YtamkekhdnkeciaaDoorW.PrintLast
theorem law_walk (s : ByteArray) (w : World) (ht : Laid w) :
    Calls Tryd.prog 3 #[.string s] w fun e w' => e = .returned (.bool true) ∧ Below w.heap.size w w' := by
  by_cases hs : s.size ≤ 1048576
  · obtain ⟨K, hK⟩ := Pure.AFnExactReadDec.readDec_eq s
    have H1 := fun w => spec_ReadDec.calls K s _ w (hK K (Nat.le_refl _))
    have H2 : ∀ m, Calls Tryd.prog 9 #[.string s] (w.drewN m) fun e w' => e = .returned (.int .i64 (Num.rd s.data.toList)) ∧ Below w.heap.size w w' := fun m =>
      (rd_calls s hs (w.drewN m) (ht.below (below_drewN (Below.refl _ _) m))).mono (by
        rintro e w' ⟨rfl, hb⟩
        exact ⟨rfl, (below_drewN (Below.refl _ _) m).trans hb⟩)
    have c0 : decide (1048576 < (s.size : Int)) = false := decide_eq_false (by omega)
    have c1 : decide (1048576 < s.size) = false := decide_eq_false (by omega)
    generalize Num.rd s.data.toList = r at *
    clear ht hK hs
    have H3 := Aside0.mk H2
    clear H2
    go_enter Tryd.func3, Tryd.ntmps3
    go_wp2_with (first | (go_at_call 8; (with_reducible refine (H1 _).mono ?_); rintro e w' ⟨rfl, ⟨m, rfl⟩⟩) | (go_at_call 9; (with_reducible refine (H3.out _).mono ?_); rintro e w' ⟨rfl, hb⟩; have HB := Aside0.mk hb; clear hb))
    go_ret
    exact ⟨rfl, HB.out⟩
  · have c0 : decide (1048576 < (s.size : Int)) = true := decide_eq_true (by omega)
    have c1 : decide (1048576 < s.size) = true := decide_eq_true (by omega)
    clear hs ht
    go_enter Tryd.func3, Tryd.ntmps3
    go_wp2
    go_ret
    exact ⟨rfl, Below.refl _ _⟩
end Go.Proofs.YtamkekhdnkeciaaDoor.Rl
