/- The walk of the law FnDec. -/
import Derived.Test.YtamkekhdnkeciaaDoorPureFnDec
import Derived.Test.YtamkekhdnkeciaaDoorRdW
namespace Go.Proofs.YtamkekhdnkeciaaDoor.Fd
open Go.RowKit Go.Proofs.YtamkekhdnkeciaaDoor.PFnDec Go.Proofs.YtamkekhdnkeciaaDoor.Rd Go.Proofs.YtamkekhdnkeciaaDoorW.PrintWords Go.Proofs.YtamkekhdnkeciaaDoorW.PrintLast
theorem below_drawn {w w1 w' : World} (h : Below w.heap.size w w1) (hd : Drawn0 w1 w') : Below w.heap.size w w' := by
  obtain ⟨m, rfl⟩ := hd
  exact below_drewN h m
theorem law_core (A : Option Addr) (len cap : Nat) (n rdn : Int) (s : ByteArray) (w : World)
    (G1 : Aside0 (∀ w1, Below w.heap.size w w1 → Calls Tryd.prog 12 #[.slice A len cap] w1 fun e w' => e = .returned (.bool false) ∧ Below w.heap.size w w')) (G2 : Aside0 (∀ w1, Below w.heap.size w w1 → Calls Tryd.prog 13 #[.slice A len cap] w1 fun e w' => e = .returned (.int .i64 n) ∧ Below w.heap.size w w')) (G3 : Aside0 (∀ w1, Below w.heap.size w w1 → Calls Tryd.prog 11 #[.int .i64 n] w1 fun e w' => e = .returned (.string s) ∧ Below w.heap.size w w')) (G4 : Aside0 (∀ w1, Below w.heap.size w w1 → Calls Tryd.prog 10 #[.int .i64 n] w1 fun e w' => e = .returned (.string s) ∧ Below w.heap.size w w')) (G5 : Aside0 (∀ w1, Below w.heap.size w w1 → Calls Tryd.prog 9 #[.string s] w1 fun e w' => e = .returned (.int .i64 rdn) ∧ Below w.heap.size w w'))
    (hr : rdn = if 0 ≤ n ∧ n ≤ 999999999 then n else -1) :
    Calls Tryd.prog 5 #[.slice A len cap] w fun e w' => e = .returned (.bool true) ∧ Below w.heap.size w w' := by
  have HB0 : Aside0 (Below w.heap.size w w) := ⟨Below.refl _ _⟩
  by_cases h0 : 0 ≤ n
  · by_cases h1 : n ≤ 999999999
    · rw [if_pos ⟨h0, h1⟩] at hr
      subst hr
      have c0 : decide (0 ≤ rdn) = true := decide_eq_true h0
      have c1 : decide (rdn ≤ 999999999) = true := decide_eq_true h1
      clear h0 h1
      go_enter Tryd.func5, Tryd.ntmps5
      go_wp2_with (first | (go_at_call 12; (with_reducible refine (G1.out _ HB0.out).mono ?_); rintro e w' ⟨rfl, hb⟩; have HB1 := Aside0.mk hb; clear hb) | (go_at_call 13; (with_reducible refine (G2.out _ HB1.out).mono ?_); rintro e w' ⟨rfl, hb⟩; have HB2 := Aside0.mk hb; clear hb) | (go_at_call 11; (with_reducible refine (G3.out _ HB2.out).mono ?_); rintro e w' ⟨rfl, hb⟩; have HB3 := Aside0.mk hb; clear hb) | (go_at_call 10; (with_reducible refine (G4.out _ HB3.out).mono ?_); rintro e w' ⟨rfl, hb⟩; have HB4 := Aside0.mk hb; clear hb) | (go_at_call 9; (with_reducible refine (G5.out _ HB4.out).mono ?_); rintro e w' ⟨rfl, hb⟩; have HB5 := Aside0.mk hb; clear hb))
      go_ret
      exact ⟨rfl, HB5.out⟩
    · rw [if_neg (fun h => h1 h.2)] at hr
      subst hr
      have c0 : decide (0 ≤ n) = true := decide_eq_true h0
      have c1 : decide (n ≤ 999999999) = false := decide_eq_false h1
      clear h0 h1
      go_enter Tryd.func5, Tryd.ntmps5
      go_wp2_with (first | (go_at_call 12; (with_reducible refine (G1.out _ HB0.out).mono ?_); rintro e w' ⟨rfl, hb⟩; have HB1 := Aside0.mk hb; clear hb) | (go_at_call 13; (with_reducible refine (G2.out _ HB1.out).mono ?_); rintro e w' ⟨rfl, hb⟩; have HB2 := Aside0.mk hb; clear hb) | (go_at_call 11; (with_reducible refine (G3.out _ HB2.out).mono ?_); rintro e w' ⟨rfl, hb⟩; have HB3 := Aside0.mk hb; clear hb) | (go_at_call 10; (with_reducible refine (G4.out _ HB3.out).mono ?_); rintro e w' ⟨rfl, hb⟩; have HB4 := Aside0.mk hb; clear hb) | (go_at_call 9; (with_reducible refine (G5.out _ HB4.out).mono ?_); rintro e w' ⟨rfl, hb⟩; have HB5 := Aside0.mk hb; clear hb))
      go_ret
      exact ⟨rfl, HB5.out⟩
  · rw [if_neg (fun h => h0 h.1)] at hr
    subst hr
    have c0 : decide (0 ≤ n) = false := decide_eq_false h0
    clear h0
    go_enter Tryd.func5, Tryd.ntmps5
    go_wp2_with (first | (go_at_call 12; (with_reducible refine (G1.out _ HB0.out).mono ?_); rintro e w' ⟨rfl, hb⟩; have HB1 := Aside0.mk hb; clear hb) | (go_at_call 13; (with_reducible refine (G2.out _ HB1.out).mono ?_); rintro e w' ⟨rfl, hb⟩; have HB2 := Aside0.mk hb; clear hb) | (go_at_call 11; (with_reducible refine (G3.out _ HB2.out).mono ?_); rintro e w' ⟨rfl, hb⟩; have HB3 := Aside0.mk hb; clear hb) | (go_at_call 10; (with_reducible refine (G4.out _ HB3.out).mono ?_); rintro e w' ⟨rfl, hb⟩; have HB4 := Aside0.mk hb; clear hb) | (go_at_call 9; (with_reducible refine (G5.out _ HB4.out).mono ?_); rintro e w' ⟨rfl, hb⟩; have HB5 := Aside0.mk hb; clear hb))
    go_ret
    exact ⟨rfl, HB5.out⟩
theorem law_big (A : Option Addr) (len cap : Nat) (w : World) (G1 : Aside0 (∀ w1, Below w.heap.size w w1 → Calls Tryd.prog 12 #[.slice A len cap] w1 fun e w' => e = .returned (.bool true) ∧ Below w.heap.size w w')) :
    Calls Tryd.prog 5 #[.slice A len cap] w fun e w' => e = .returned (.bool true) ∧ Below w.heap.size w w' := by
  have HB0 : Aside0 (Below w.heap.size w w) := ⟨Below.refl _ _⟩
  go_enter Tryd.func5, Tryd.ntmps5
  go_wp2_with (go_at_call 12; (with_reducible refine (G1.out _ HB0.out).mono ?_); rintro e w' ⟨rfl, hb⟩; have HB1 := Aside0.mk hb; clear hb)
  go_ret
  exact ⟨rfl, HB1.out⟩
theorem law_walk (A : Option Addr) (cap : Nat) (l : List Int) (w : World) (hr0 : Kd.C (Kd.int .u8) w A l.length l) (hc0 : l.length ≤ cap) (ht : Laid w) :
    Calls Tryd.prog 5 #[.slice A l.length cap] w fun e w' => e = .returned (.bool true) ∧ Below w.heap.size w w' := by
  have G1 : ∀ w1, Below w.heap.size w w1 → Calls Tryd.prog 12 #[.slice A l.length cap] w1 fun e w' => e = .returned (.bool (decide ((l.length : Int) > 1048576))) ∧ Below w.heap.size w w' := fun w1 hb =>
    (laws_big.calls A cap l _ w1 (Kd.C_below hr0 hb) hc0 rfl).mono (by rintro e w' ⟨rfl, hd⟩; exact ⟨rfl, below_drawn hb hd⟩)
  by_cases hs : l.length ≤ 1048576
  · obtain ⟨k, n, e, h1, h2⟩ := Pure.AFnDec.dec_some l hs
    have e0 : decide ((l.length : Int) > 1048576) = false := decide_eq_false (by omega)
    rw [e0] at G1
    obtain ⟨K, hK⟩ := Pure.AFnDec.decText_eq n h1 h2
    have hsz : (⟨(Lib.itoa n).toArray⟩ : ByteArray).size ≤ 1048576 := by
      have hb : n.natAbs < 10 ^ (18 + 1) := by have : (10 : Nat) ^ (18 + 1) = 10000000000000000000 := by decide
                                               omega
      have hd := Pure.AFnDec.dec_size n.natAbs 18 hb
      have hd2 := Pure.AFnDec.dec_size n.toNat 18 (by omega)
      show (Lib.itoa n).toArray.size ≤ 1048576
      rw [List.size_toArray]
      unfold Lib.itoa
      split
      · rw [List.length_cons]; omega
      · omega
    refine law_core A l.length cap n (Num.rd (Lib.itoa n)) ⟨(Lib.itoa n).toArray⟩ w ⟨G1⟩ ⟨fun w1 hb => ?_⟩ ⟨fun w1 hb => ?_⟩ ⟨fun w1 hb => ?_⟩ ⟨fun w1 hb => ?_⟩ (Num.rd_dec n)
    · exact (spec_DrawDecText.calls k A cap l n w1 (Kd.C_below hr0 hb) hc0 e).mono (by rintro e w' ⟨rfl, hd⟩; exact ⟨rfl, hb.trans (hd.mono hb.size)⟩)
    · exact (dec_calls n h1 h2 w1 (ht.below hb)).mono (by rintro e w' ⟨rfl, hd⟩; exact ⟨rfl, hb.trans (hd.mono hb.size)⟩)
    · exact (spec_DecText.calls K n _ w1 (hK K (Nat.le_refl _))).mono (by rintro e w' ⟨rfl, hd⟩; exact ⟨rfl, below_drawn hb hd⟩)
    · exact (rd_calls ⟨(Lib.itoa n).toArray⟩ hsz w1 (ht.below hb)).mono (by rintro e w' ⟨rfl, hd⟩; exact ⟨rfl, hb.trans (hd.mono hb.size)⟩)
  · have e0 : decide ((l.length : Int) > 1048576) = true := decide_eq_true (by omega)
    rw [e0] at G1
    exact law_big A l.length cap w ⟨G1⟩
end Go.Proofs.YtamkekhdnkeciaaDoor.Fd
