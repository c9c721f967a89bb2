/- The next float stands behind; the one ahead of that is the first one again; nothing but the greatest infinity and NaN is its own next one. -/
import Derived.Test.YtebkbodkkehmfaaFlJ
namespace Go.Proofs.Ytebkbodkkehmfaa.Fl
open Go.RowKit Go.Proofs.YtebkbodkkehmfaaW.PrintWords Go.Proofs.YtebkbodkkehmfaaW.PrintLast Go.Proofs.YtebkbodkkehmfaaW.PrintMore Go.Proofs.Ytebkbodkkehmfaa.PFnNext Go.Proofs.Ytebkbodkkehmfaa.F64
set_option linter.unusedVariables false
set_option linter.unusedSimpArgs false

theorem newAll_loop (b : List Int) (hn : b.length ≤ 9223372036854775806) (d : Nat) : ∀ (i : Nat) (h : Int), i + d = b.length → ∃ h', ∀ k, d < k → spec_l01New.l0 k b h (i : Int) = some (b, 0, h') := by
  induction d with
  | zero =>
    intro i h hi
    refine ⟨h, fun k hk => ?_⟩
    obtain ⟨k, rfl⟩ : ∃ m, k = m + 1 := ⟨k - 1, by omega⟩
    simp only [spec_l01New.l0]
    rw [if_neg (by omega)]
  | succ d ih =>
    intro i h hi
    by_cases h4 : (i : Int) < 4000
    · obtain ⟨h', hh⟩ := ih (i + 1) (Go.bits .and .i64 (wrap64 ((wrap64 ((wrap64 (h * 131)) + (wrap64 (rd b (i : Int))))) + 7)) 1073741823) (by omega)
      refine ⟨h', fun k hk => ?_⟩
      obtain ⟨k, rfl⟩ : ∃ m, k = m + 1 := ⟨k - 1, by omega⟩
      simp only [spec_l01New.l0]
      rw [if_pos (by omega), if_pos h4, if_pos (by omega), wr_ (x := (i : Int) + 1) (by omega) (by omega)]
      exact hh k (by omega)
    · refine ⟨h, fun k hk => ?_⟩
      obtain ⟨k, rfl⟩ : ∃ m, k = m + 1 := ⟨k - 1, by omega⟩
      simp only [spec_l01New.l0]
      rw [if_pos (by omega), if_neg h4]
theorem new_ex (b : List Int) (hn : b.length ≤ 9223372036854775806) : ∃ h, spec_l01New.f (b.length + 1) b = some (b, 0, h) := by
  obtain ⟨h, hh⟩ := newAll_loop b hn b.length 0 _ (by omega)
  exact ⟨h, hh _ (by omega)⟩
set_option maxHeartbeats 8000000 in
theorem draw_calls (A : Option Addr) (c : Nat) (l : List Int) (w : World) (hC : Kd.C (Kd.int .u8) w A l.length l) (hc : l.length ≤ c) (hn : l.length ≤ 9223372036854775806) :
    Calls Try.prog 20 #[.slice A l.length c] w fun e w' => ∃ x : Nat, e = .returned (.float .f64 x) ∧ x < 2 * S ∧ Below w.heap.size w w' := by
  obtain ⟨h, e⟩ := new_ex l hn
  have E := Aside0.mk e
  have HC := Aside0.mk hC
  have HH := Aside0.mk hc
  clear e hC hc
  go_enter Try.func20, Try.ntmps20
  go_wp2_with (first | ((with_reducible refine gate_callee (f := 35) rfl ?_); refine goesL_ (some 5) rfl rfl Try.func35 (by kernel_rfl) rfl #[.slice A l.length c] rfl (by (try simp only [List.map_toArray, List.map_cons, List.map_nil]); first | done | rfl) ?_; (with_reducible refine (spec_l01New.calls _ _ _ l l 0 h w _ (Below.refl _ _) HC.out HH.out E.out).mono ?_); rintro e w' ⟨g, rfl, hi, hb, _⟩; refine ⟨_, rfl, ?_⟩; have HI := Aside0.mk hi; have HB := Aside0.mk hb; clear hi hb) | ((with_reducible refine gate_callee (f := 36) rfl ?_); refine goesL_ (some 7) rfl rfl Try.func36 (by kernel_rfl) rfl #[.pointer (some ⟨g, 0, none⟩)] rfl (by (try simp only [List.map_toArray, List.map_cons, List.map_nil]); first | done | rfl) ?_; (with_reducible refine (any_calls g l 0 h w _ HI.out HB.out hn (Int.le_refl 0)).mono ?_); rintro e w' ⟨x, rfl, hx, hb⟩; refine ⟨_, rfl, ?_⟩; have HX := Aside0.mk hx; have HB2 := Aside0.mk hb; clear hx hb))
  go_ret
  exact ⟨_, rfl, HX.out, HB2.out⟩
theorem rk_neg (a : Nat) (ha : a < 2 * S) : rk (Op.negFloat .f64 a) = -(rk a) - 1 := by
  obtain ⟨h1, h2, _⟩ := negF a ha
  unfold rk
  rw [h1, h2]
  cases neg a <;> simp <;> omega
theorem nan_neg (a : Nat) (ha : a < 2 * S) : isNaN (Op.negFloat .f64 a) = isNaN a := by
  obtain ⟨h1, _, _⟩ := negF a ha
  unfold isNaN; rw [h1]
theorem nx_rk {a : Nat} (ha : a < 2 * S) (hn : isNaN a = false) (hi : ¬ (rung a = I ∧ neg a = false)) : isNaN (nx a) = false ∧ rk (nx a) = rk a + 1 := by
  have hle := rung_le hn
  have hIS : I < S := by decide
  unfold nx
  rw [if_neg (by rw [hn]; simpa using hi)]
  cases h : neg a
  · have hlt : rung a < I := by
      rcases Nat.lt_or_eq_of_le hle with h' | h'
      · exact h'
      · exact absurd ⟨h', h⟩ hi
    rw [if_neg (by decide)]
    refine ⟨isNaN_self (by omega), ?_⟩
    unfold rk
    rw [h, neg_self (by omega), rung_self (by omega)]
    simp
  · rw [if_pos rfl]
    by_cases hz : rung a = 0
    · rw [if_pos hz]
      refine ⟨by decide, ?_⟩
      have e0 : rk 0 = 0 := by decide
      unfold rk at *
      rw [e0, h, hz]; rfl
    · rw [if_neg hz]
      have e : S + (rung a - 1) = Ieee.double.word true (rung a - 1) := by rw [word_eq]; rfl
      obtain ⟨w1, w2⟩ := neg_word true (r := rung a - 1) (by omega)
      rw [← e] at w1 w2
      refine ⟨by unfold isNaN; rw [w2]; simp; omega, ?_⟩
      unfold rk
      rw [w1, w2, h]
      simp only [if_true]
      omega
theorem cmpV_of {a b : Nat} (ha : isNaN a = false) (hb : isNaN b = false) : cmpV a b = if rk a < rk b then -1 else if rk b < rk a then 1 else 0 := by
  unfold cmpV; rw [ha, hb]; simp
theorem cmpV_refl (a : Nat) : cmpV a a = 0 := by
  unfold cmpV
  cases isNaN a <;> simp
set_option maxHeartbeats 16000000 in
theorem next_walk (A : Option Addr) (c : Nat) (l : List Int) (w : World) (hC : Kd.C (Kd.int .u8) w A l.length l) (hc : l.length ≤ c) :
    Calls Try.prog 7 #[.slice A l.length c] w fun e w' => e = .returned (.bool true) ∧ Below w.heap.size w w' := by
  have HC := Aside0.mk hC
  have HH := Aside0.mk hc
  clear hC hc
  have BG := Aside0.mk (laws_big.calls A c l _ w HC.out HH.out rfl)
  by_cases hl : (l.length : Int) > 1048576
  · rw [decide_eq_true hl] at BG
    clear hl
    go_enter Try.func7, Try.ntmps7
    go_wp2_with (first | ((with_reducible refine gate_callee (f := 19) rfl ?_); refine goesL_ (some 10) rfl rfl Try.func19 (by kernel_rfl) rfl #[.slice A l.length c] rfl (by (try simp only [List.map_toArray, List.map_cons, List.map_nil]); first | done | rfl) ?_; (with_reducible refine (BG.out).mono ?_); rintro e w' ⟨rfl, ⟨nd, rfl⟩⟩; refine ⟨_, rfl, ?_⟩))
    go_ret
    exact ⟨rfl, by repeat (first | exact Below.refl _ _ | apply pw_below_drewN)⟩
  · rw [decide_eq_false hl] at BG
    have HN := Aside0.mk (show l.length ≤ 9223372036854775806 by omega)
    clear hl
    have key : ∀ x : Nat, x < 2 * S → ∃ (c0 : Int) (n0 : Bool) (y z1 z2 z3 : Nat), cls x = c0 ∧ clsNeg x = n0 ∧ nx x = y ∧ y < 2 * S ∧ Op.negFloat .f64 y = z1 ∧ z1 < 2 * S ∧ nx z1 = z2 ∧ z2 < 2 * S ∧ Op.negFloat .f64 z2 = z3 ∧ z3 < 2 * S ∧
        ((c0 = 0 ∧ cmpV x y = 0) ∨ (c0 = 1 ∧ n0 = false ∧ cmpV x y = 0) ∨ (((c0 = 1 ∧ n0 = true) ∨ (c0 ≠ 0 ∧ c0 ≠ 1)) ∧ cmpV x y = -1 ∧ cmpV y x = 1 ∧ cmpV z3 x = 0)) := by
      intro x hx
      have hy := nx_lt hx
      have hz1 := (negF (nx x) hy).2.2
      have hz2 := nx_lt hz1
      have hz3 := (negF (nx (Op.negFloat .f64 (nx x))) hz2).2.2
      refine ⟨_, _, _, _, _, _, rfl, rfl, rfl, hy, rfl, hz1, rfl, hz2, rfl, hz3, ?_⟩
      cases hN : isNaN x
      · by_cases hI : rung x = I ∧ neg x = false
        · refine .inr (.inl ⟨?_, ?_, ?_⟩)
          · unfold cls; rw [hN, if_pos hI.1]; rfl
          · unfold clsNeg; rw [hN]; exact hI.2
          · have : nx x = x := by unfold nx; rw [if_pos (.inr hI)]
            rw [this]; exact cmpV_refl x
        · obtain ⟨yN, yr⟩ := nx_rk hx hN hI
          have z1N : isNaN (Op.negFloat .f64 (nx x)) = false := by rw [nan_neg _ hy]; exact yN
          have z1r := rk_neg _ hy
          have z1I : ¬ (rung (Op.negFloat .f64 (nx x)) = I ∧ neg (Op.negFloat .f64 (nx x)) = false) := by
            rintro ⟨a1, a2⟩
            have b1 : rk (Op.negFloat .f64 (nx x)) = I := by unfold rk; rw [a1, a2]; rfl
            have b2 := rung_le hN
            have b3 : -(I : Int) - 1 ≤ rk x := by unfold rk; split <;> omega
            omega
          obtain ⟨z2N, z2r⟩ := nx_rk hz1 z1N z1I
          have z3N : isNaN (Op.negFloat .f64 (nx (Op.negFloat .f64 (nx x)))) = false := by rw [nan_neg _ hz2]; exact z2N
          have z3r := rk_neg _ hz2
          refine .inr (.inr ⟨?_, ?_, ?_, ?_⟩)
          · by_cases h1 : rung x = I
            · refine .inl ⟨by unfold cls; rw [hN, if_pos h1]; rfl, ?_⟩
              unfold clsNeg; rw [hN]
              cases h : neg x
              · exact absurd ⟨h1, h⟩ hI
              · rfl
            · refine .inr ?_
              unfold cls; rw [hN, if_neg h1]
              simp only [Bool.false_eq_true, if_false]
              split
              · omega
              · split <;> omega
          · rw [cmpV_of hN yN, if_pos (by omega)]
          · rw [cmpV_of yN hN, if_neg (by omega), if_pos (by omega)]
          · rw [cmpV_of z3N hN, if_neg (by omega), if_neg (by omega)]
      · refine .inl ⟨by unfold cls; rw [hN]; rfl, ?_⟩
        have : nx x = x := by unfold nx; rw [if_pos (.inl hN)]
        rw [this]; exact cmpV_refl x
    -- the law's first steps draw x: what follows is told for any x
    have DR := fun w (hC : Kd.C (Kd.int .u8) w A l.length l) => draw_calls A c l w hC HH.out HN.out
    have KEY := Aside0.mk key
    have DRW := Aside0.mk DR
    clear key DR
    have B0 := Aside0.mk (Below.refl w.heap.size w)
    go_enter Try.func7, Try.ntmps7
    go_upto_region 4 with (first | ((with_reducible refine gate_callee (f := 19) rfl ?_); refine goesL_ (some 10) rfl rfl Try.func19 (by kernel_rfl) rfl #[.slice A l.length c] rfl (by (try simp only [List.map_toArray, List.map_cons, List.map_nil]); first | done | rfl) ?_; (with_reducible refine (BG.out).mono ?_); rintro e w' ⟨rfl, ⟨nd, rfl⟩⟩; refine ⟨_, rfl, ?_⟩) | ((with_reducible refine gate_callee (f := 20) rfl ?_); refine goesL_ (some 12) rfl rfl Try.func20 (by kernel_rfl) rfl #[.slice A l.length c] rfl (by (try simp only [List.map_toArray, List.map_cons, List.map_nil]); first | done | rfl) ?_; (with_reducible refine (DRW.out _ (Kd.C_drewN HC.out nd)).mono ?_); rintro e w' ⟨x, rfl, hx, hb⟩; refine ⟨_, rfl, ?_⟩; have HX := Aside0.mk hx; have HB := Aside0.mk (below_step (pw_below_drewN B0.out nd) hb); clear hx hb))
    obtain ⟨c0, n0, y, z1, z2, z3, e1, e2, e3, ly, e4, l1, e5, l2, e6, l3, hcase⟩ := KEY.out x HX.out
    have U1 := fun w => implUp_calls x HX.out w
    have U2 := fun w => implUp_calls z1 l1 w
    have I1 := fun w => implClass_calls x HX.out w
    have S1 := fun w => specClass_calls x HX.out w
    have C1 := fun w => implCmp_calls x y HX.out ly w
    have C2 := fun w => implCmp_calls y x ly HX.out w
    have C3 := fun w => implCmp_calls z3 x l3 HX.out w
    have NL1 := neg_law y
    have NL2 := neg_law z2
    rw [e1, e2] at I1 S1
    rw [e3] at U1
    rw [e5] at U2
    rw [e4] at NL1
    rw [e6] at NL2
    clear e1 e2 e3 e4 e5 e6 ly l1 l2 l3 KEY DRW BG
    rcases hcase with ⟨rfl, h1⟩ | ⟨rfl, rfl, h1⟩ | ⟨hc, h1, h2, h3⟩
    · rw [h1] at C1
      clear h1
      go_wp2_with (first | ((with_reducible refine gate_callee (f := 18) rfl ?_); refine goesL_ (some 14) rfl rfl Try.func18 (by kernel_rfl) rfl #[.float .f64 x] rfl (by (try simp only [List.map_toArray, List.map_cons, List.map_nil]); first | done | rfl) ?_; (with_reducible refine (U1 _).mono ?_); rintro e w' ⟨rfl, ⟨nd, rfl⟩⟩; refine ⟨_, rfl, ?_⟩) | ((with_reducible refine gate_callee (f := 14) rfl ?_); refine goesL_ (some 17) rfl rfl Try.func14 (by kernel_rfl) rfl #[.float .f64 x] rfl (by (try simp only [List.map_toArray, List.map_cons, List.map_nil]); first | done | rfl) ?_; (with_reducible refine (I1 _).mono ?_); rintro e w' ⟨rfl, ⟨nd, rfl⟩⟩; refine ⟨_, rfl, ?_⟩) | ((with_reducible refine gate_callee (f := 13) rfl ?_); refine goesL_ (some 22) rfl rfl Try.func13 (by kernel_rfl) rfl #[.float .f64 x] rfl (by (try simp only [List.map_toArray, List.map_cons, List.map_nil]); first | done | rfl) ?_; (with_reducible refine (S1 _).mono ?_); rintro e w' ⟨rfl, ⟨nd, rfl⟩⟩; refine ⟨_, rfl, ?_⟩) | ((with_reducible refine gate_callee (f := 16) rfl ?_); refine goesL_ (some 45) rfl rfl Try.func16 (by kernel_rfl) rfl #[.float .f64 x, .float .f64 y] rfl (by (try simp only [List.map_toArray, List.map_cons, List.map_nil]); first | done | rfl) ?_; (with_reducible refine (C1 _).mono ?_); rintro e w' ⟨rfl, ⟨nd, rfl⟩⟩; refine ⟨_, rfl, ?_⟩))
      go_ret
      exact ⟨rfl, by repeat (first | exact HB.out | apply pw_below_drewN)⟩
    · rw [h1] at C1
      clear h1
      go_wp2_with (first | ((with_reducible refine gate_callee (f := 18) rfl ?_); refine goesL_ (some 14) rfl rfl Try.func18 (by kernel_rfl) rfl #[.float .f64 x] rfl (by (try simp only [List.map_toArray, List.map_cons, List.map_nil]); first | done | rfl) ?_; (with_reducible refine (U1 _).mono ?_); rintro e w' ⟨rfl, ⟨nd, rfl⟩⟩; refine ⟨_, rfl, ?_⟩) | ((with_reducible refine gate_callee (f := 14) rfl ?_); refine goesL_ (some 17) rfl rfl Try.func14 (by kernel_rfl) rfl #[.float .f64 x] rfl (by (try simp only [List.map_toArray, List.map_cons, List.map_nil]); first | done | rfl) ?_; (with_reducible refine (I1 _).mono ?_); rintro e w' ⟨rfl, ⟨nd, rfl⟩⟩; refine ⟨_, rfl, ?_⟩) | ((with_reducible refine gate_callee (f := 13) rfl ?_); refine goesL_ (some 22) rfl rfl Try.func13 (by kernel_rfl) rfl #[.float .f64 x] rfl (by (try simp only [List.map_toArray, List.map_cons, List.map_nil]); first | done | rfl) ?_; (with_reducible refine (S1 _).mono ?_); rintro e w' ⟨rfl, ⟨nd, rfl⟩⟩; refine ⟨_, rfl, ?_⟩) | ((with_reducible refine gate_callee (f := 16) rfl ?_); refine goesL_ (some 45) rfl rfl Try.func16 (by kernel_rfl) rfl #[.float .f64 x, .float .f64 y] rfl (by (try simp only [List.map_toArray, List.map_cons, List.map_nil]); first | done | rfl) ?_; (with_reducible refine (C1 _).mono ?_); rintro e w' ⟨rfl, ⟨nd, rfl⟩⟩; refine ⟨_, rfl, ?_⟩))
      go_ret
      exact ⟨rfl, by repeat (first | exact HB.out | apply pw_below_drewN)⟩
    · rw [h1] at C1
      rw [h2] at C2
      rw [h3] at C3
      clear h1 h2 h3
      rcases hc with ⟨rfl, rfl⟩ | ⟨hc0, hc1⟩
      · go_wp2_with (first | ((with_reducible refine gate_callee (f := 18) rfl ?_); refine goesL_ (some 14) rfl rfl Try.func18 (by kernel_rfl) rfl #[.float .f64 x] rfl (by (try simp only [List.map_toArray, List.map_cons, List.map_nil]); first | done | rfl) ?_; (with_reducible refine (U1 _).mono ?_); rintro e w' ⟨rfl, ⟨nd, rfl⟩⟩; refine ⟨_, rfl, ?_⟩) | ((with_reducible refine gate_callee (f := 14) rfl ?_); refine goesL_ (some 17) rfl rfl Try.func14 (by kernel_rfl) rfl #[.float .f64 x] rfl (by (try simp only [List.map_toArray, List.map_cons, List.map_nil]); first | done | rfl) ?_; (with_reducible refine (I1 _).mono ?_); rintro e w' ⟨rfl, ⟨nd, rfl⟩⟩; refine ⟨_, rfl, ?_⟩) | ((with_reducible refine gate_callee (f := 13) rfl ?_); refine goesL_ (some 22) rfl rfl Try.func13 (by kernel_rfl) rfl #[.float .f64 x] rfl (by (try simp only [List.map_toArray, List.map_cons, List.map_nil]); first | done | rfl) ?_; (with_reducible refine (S1 _).mono ?_); rintro e w' ⟨rfl, ⟨nd, rfl⟩⟩; refine ⟨_, rfl, ?_⟩) | ((with_reducible refine gate_callee (f := 16) rfl ?_); refine goesL_ (some 49) rfl rfl Try.func16 (by kernel_rfl) rfl #[.float .f64 x, .float .f64 y] rfl (by (try simp only [List.map_toArray, List.map_cons, List.map_nil]); first | done | rfl) ?_; (with_reducible refine (C1 _).mono ?_); rintro e w' ⟨rfl, ⟨nd, rfl⟩⟩; refine ⟨_, rfl, ?_⟩) | (go_at_call 16; (with_reducible refine (C2 _).mono ?_); rintro e w' ⟨rfl, ⟨nd, rfl⟩⟩) | (go_at_call 18; (with_reducible refine (U2 _).mono ?_); rintro e w' ⟨rfl, ⟨nd, rfl⟩⟩) | (go_at_call 16; (with_reducible refine (C3 _).mono ?_); rintro e w' ⟨rfl, ⟨nd, rfl⟩⟩) | simp only [NL1, NL2])
        go_ret
        exact ⟨rfl, by repeat (first | exact HB.out | apply pw_below_drewN)⟩
      · go_wp2_with (first | ((with_reducible refine gate_callee (f := 18) rfl ?_); refine goesL_ (some 14) rfl rfl Try.func18 (by kernel_rfl) rfl #[.float .f64 x] rfl (by (try simp only [List.map_toArray, List.map_cons, List.map_nil]); first | done | rfl) ?_; (with_reducible refine (U1 _).mono ?_); rintro e w' ⟨rfl, ⟨nd, rfl⟩⟩; refine ⟨_, rfl, ?_⟩) | ((with_reducible refine gate_callee (f := 14) rfl ?_); refine goesL_ (some 17) rfl rfl Try.func14 (by kernel_rfl) rfl #[.float .f64 x] rfl (by (try simp only [List.map_toArray, List.map_cons, List.map_nil]); first | done | rfl) ?_; (with_reducible refine (I1 _).mono ?_); rintro e w' ⟨rfl, ⟨nd, rfl⟩⟩; refine ⟨_, rfl, ?_⟩) | ((with_reducible refine gate_callee (f := 13) rfl ?_); refine goesL_ (some 22) rfl rfl Try.func13 (by kernel_rfl) rfl #[.float .f64 x] rfl (by (try simp only [List.map_toArray, List.map_cons, List.map_nil]); first | done | rfl) ?_; (with_reducible refine (S1 _).mono ?_); rintro e w' ⟨rfl, ⟨nd, rfl⟩⟩; refine ⟨_, rfl, ?_⟩) | ((with_reducible refine gate_callee (f := 16) rfl ?_); refine goesL_ (some 49) rfl rfl Try.func16 (by kernel_rfl) rfl #[.float .f64 x, .float .f64 y] rfl (by (try simp only [List.map_toArray, List.map_cons, List.map_nil]); first | done | rfl) ?_; (with_reducible refine (C1 _).mono ?_); rintro e w' ⟨rfl, ⟨nd, rfl⟩⟩; refine ⟨_, rfl, ?_⟩) | (go_at_call 16; (with_reducible refine (C2 _).mono ?_); rintro e w' ⟨rfl, ⟨nd, rfl⟩⟩) | (go_at_call 18; (with_reducible refine (U2 _).mono ?_); rintro e w' ⟨rfl, ⟨nd, rfl⟩⟩) | (go_at_call 16; (with_reducible refine (C3 _).mono ?_); rintro e w' ⟨rfl, ⟨nd, rfl⟩⟩) | simp only [NL1, NL2])
        go_ret
        exact ⟨rfl, by repeat (first | exact HB.out | apply pw_below_drewN)⟩
theorem next_row (a0 : Option Addr) (len0 cap0 : Nat) (z0 : List Int) (w : World) (w0 : (a0 = none ∧ len0 = 0 ∧ cap0 = 0 ∧ z0 = []) ∨ ∃ x, a0 = some x ∧ len0 ≤ cap0 ∧ cap0 ≤ maxLen ∧ z0.length = cap0 ∧ (∀ i, i < z0.length → w.cell? (x.add i) = some (.int .u8 (z0.getD i 0))) ∧ ∀ n ∈ z0, (Lit.int .u8 n).wf = true) :
    Calls Try.prog 7 #[.slice a0 len0 cap0] w fun e w' => e = .returned (.bool true) ∧ Below w.heap.size w w' := by
  obtain ⟨l0, rfl, hr0, _, _, hc0⟩ := ReadsInt.ofRowC w0
  exact next_walk a0 cap0 l0 w (Kd.C_of_reads (d := (0 : Int)) (h1 := fun _ => rfl) hr0) hc0
end Go.Proofs.Ytebkbodkkehmfaa.Fl
