/- A float's parts, and a float of its parts. -/
import Derived.Test.YtebkbodkkehmfaaFlC
namespace Go.Proofs.Ytebkbodkkehmfaa.Fl
open Go.RowKit Go.Proofs.YtebkbodkkehmfaaW.PrintWords Go.Proofs.YtebkbodkkehmfaaW.PrintLast Go.Proofs.Ytebkbodkkehmfaa.F64
set_option linter.unusedVariables false
set_option linter.unusedSimpArgs false

theorem rung_self {r : Nat} (h : r ≤ I) : rung r = r := by unfold rung S; unfold I at h; omega
theorem neg_self {r : Nat} (h : r ≤ I) : neg r = false := by
  unfold neg S; unfold I at h
  have : r / 9223372036854775808 = 0 := by omega
  rw [this]; rfl
theorem isNaN_self {r : Nat} (h : r ≤ I) : isNaN r = false := by unfold isNaN; rw [rung_self h]; simp; exact h
theorem sr_self {r : Nat} (h : r ≤ I) : sr r = r := by unfold sr; rw [neg_self h, rung_self h]; rfl
theorem word_false (r : Nat) : Ieee.double.word false r = r := rfl
theorem mul_step {r s : Nat} (hr : r < I) (hs : s ≤ I) (h : V s = 2 * V r) : Ieee.double.mul r two = some s := by
  have hlt : rung r < I := by rw [rung_self (by omega)]; exact hr
  have e : V s = 2 * V (rung r) := by rw [rung_self (by omega)]; exact h
  have := mul_two hlt hs e
  rw [neg_self (by omega)] at this
  exact this
theorem div_step {r s : Nat} (hr : r < I) (hs : s ≤ I) (h : V r = 2 * V s) : Ieee.double.div r two = some s := by
  have hlt : rung r < I := by rw [rung_self (by omega)]; exact hr
  have e : V (rung r) = 2 * V s := by rw [rung_self (by omega)]; exact h
  have := div_two hlt hs e
  rw [neg_self (by omega)] at this
  exact this
/-- float64(n) -/
theorem ofInt_rung {n r T : Nat} (hT : T = 1074) (hr : r ≤ I) (h : V r = n * 2 ^ T) : floatOfInt .f64 (n : Int) = r := by
  have e : floatOfInt .f64 (n : Int) = Ieee.double.nearest (decide ((n : Int) < 0)) n 0 := rfl
  have e2 : decide ((n : Int) < 0) = false := by simp
  rw [e, e2]
  exact ofNat_rung hT hr h
theorem pow_mono {a b : Nat} (h : a ≤ b) : 2 ^ a ≤ 2 ^ b := Nat.pow_le_pow_right (by decide) h
/-- m times 2 to the k, where that is a rung's -/
theorem float_word (m : Nat) (k : Int) (hm : m ≤ 2 * B) (hk : -1074 ≤ k) (hk2 : k ≤ 971) (r : Nat) (hr : r ≤ I) (h : V r = m * 2 ^ (1074 + k).toNat) (w : World) :
    Calls Try.prog 31 #[.int .i64 (m : Int), .int .i64 k] w fun e w' => e = .returned (.float .f64 r) ∧ w' = w := by
  obtain ⟨T, hT⟩ : ∃ T, T = 1074 := ⟨_, rfl⟩
  by_cases h0 : 0 ≤ k
  · have hex : ∀ i, ∃ s, V s = m * 2 ^ (min (T + i) 2045) ∧ s ≤ I := fun i => exists_rung hm (by omega)
    obtain ⟨f, hf⟩ := Classical.skolem.1 hex
    have hi : ∀ i : Nat, (i : Int) ≤ k → V (f i) = m * 2 ^ (T + i) := by
      intro i hi; rw [(hf i).1, show min (T + i) 2045 = T + i from by omega]
    have e := float_calls (m : Int) k (by omega) f (ofInt_rung hT (hf 0).2 (hi 0 (by omega))) (fun i hik => by
      have v1 := hi i (by omega)
      have v2 := hi (i + 1) (by omega)
      have v3 : V (f (i + 1)) = 2 * V (f i) := by
        rw [v1, v2, show T + (i + 1) = (T + i) + 1 from by omega, Nat.pow_succ]
        generalize 2 ^ (T + i) = q
        rw [Nat.mul_comm q 2, ← Nat.mul_assoc, Nat.mul_comm m 2, Nat.mul_assoc]
      refine mul_step ?_ (hf (i + 1)).2 v3
      by_cases hz : V (f i) = 0
      · have : f i = 0 := V_inj (by rw [hz, V_zero])
        rw [this]; decide
      · have : V (f i) < V (f (i + 1)) := by omega
        have := V_lt_iff.1 this
        have := (hf (i + 1)).2
        omega) (fun i hik => by omega) w
    have e2 : f k.natAbs = r := V_inj (by
      rw [hi k.natAbs (by omega), h, show T + k.natAbs = (1074 + k).toNat from by omega])
    rw [e2] at e
    exact e
  · have hex : ∀ i, ∃ s, V s = m * 2 ^ (T - i) ∧ s ≤ I := fun i => exists_rung hm (by omega)
    obtain ⟨f, hf⟩ := Classical.skolem.1 hex
    have e := float_calls (m : Int) k (by omega) f (ofInt_rung hT (hf 0).2 (hf 0).1) (fun i hik => by omega) (fun i hik => by
      have v1 := (hf i).1
      have v2 := (hf (i + 1)).1
      have v3 : V (f i) = 2 * V (f (i + 1)) := by
        rw [v1, v2, show T - i = (T - (i + 1)) + 1 from by omega, Nat.pow_succ]
        generalize 2 ^ (T - (i + 1)) = q
        rw [Nat.mul_comm q 2, ← Nat.mul_assoc, Nat.mul_comm m 2, Nat.mul_assoc]
      refine div_step ?_ (hf (i + 1)).2 v3
      obtain ⟨Z, hZ⟩ : ∃ Z, Z = 2046 := ⟨_, rfl⟩
      have b1 : V (f i) < V I := by
        have : V I = B * 2 ^ Z := by rw [show I = (Z + 1) * B from by rw [hZ]; rfl]; exact V_top Z
        rw [v1, this]
        have p1 : 2 ^ (T - i) ≤ 2 ^ T := pow_mono (by omega)
        have p2 : m * 2 ^ (T - i) ≤ 2 * B * 2 ^ T := Nat.mul_le_mul hm p1
        have p3 : 2 * B * 2 ^ T = B * 2 ^ (T + 1) := by rw [Nat.mul_comm 2 B, Nat.mul_assoc, ← Nat.pow_succ']
        have p4 : B * 2 ^ (T + 1) < B * 2 ^ Z := Nat.mul_lt_mul_of_pos_left (Nat.pow_lt_pow_right (by decide) (by omega)) B_pos
        omega
      exact V_lt_iff.1 b1) w
    have e2 : f k.natAbs = r := V_inj (by
      rw [(hf k.natAbs).1, h, show T - k.natAbs = (1074 + k).toNat from by omega])
    rw [e2] at e
    exact e
theorem geq_self {r : Nat} (c : Nat) (hr : r ≤ I) (hc : c ≤ I) : (FloatKind.f64.format.order r c == some .gt || FloatKind.f64.format.order r c == some .eq) = decide (c ≤ r) := by
  rw [gtr_eq, eql_eq, isNaN_self hr, isNaN_self hc, sr_self hr, sr_self hc]
  simp only [Bool.not_false, Bool.true_and]
  rw [Bool.eq_iff_iff]; simp; omega
theorem lss_self {r : Nat} (c : Nat) (hr : r ≤ I) (hc : c ≤ I) : (FloatKind.f64.format.order r c == some .lt) = decide (r < c) := by
  rw [lss_eq, isNaN_self hr, isNaN_self hc, sr_self hr, sr_self hc]
  simp only [Bool.not_false, Bool.true_and]
  rw [Bool.eq_iff_iff]; simp
theorem int_law (r n T : Nat) (hT : T = 1074) (hr : r < I) (h : V r = n * 2 ^ T) (hn : n ≤ 2 * B) (w : World) : (convert 23 3 (.float .f64 r)).run Try.prog w = .ok (.int .i64 (n : Int)) w := by
  refine run_convert_float_int w 23 3 .f64 .i64 r n (by rw [Try.underlying23]; rfl) Try.underlying3 ?_
  have hlt : rung r < I := by rw [rung_self (by omega)]; exact hr
  have e := toInt_whole (w := r) (n := n) (t := T) hT hlt (neg_self (by omega)) (by rw [rung_self (by omega)]; exact h)
  unfold floatToIntVal
  have e' : (FloatKind.f64.decode r).toInt .zero = some (n : Int) := e
  rw [e']
  have b : IntKind.min .i64 ≤ (n : Int) ∧ (n : Int) ≤ IntKind.max .i64 := by
    have h1 : IntKind.min .i64 = -9223372036854775808 := by decide
    have h2 : IntKind.max .i64 = 9223372036854775807 := by decide
    rw [h1, h2]; unfold B at hn; omega
  simp only [b, and_self, if_true]
set_option maxHeartbeats 8000000 in
theorem parts_calls (r : Nat) (hr : r < I) (w : World) : Calls Try.prog 32 #[.float .f64 r] w fun e w' => e = .returned (.tuple #[.int .i64 (K r : Int), .int .i64 ((E r : Int) - 1074)]) ∧ w' = w := by
  have hK := K_lt r
  have hV := V_eq r
  have hE : E r ≤ 2045 := by unfold E; unfold I at hr; unfold B; split <;> omega
  have hKB : 0 < E r → B ≤ K r := by
    unfold E K; intro h
    by_cases hb : r < B
    · rw [if_pos hb] at h; omega
    · rw [if_neg hb]; omega
  have hKB2 : K r < B → E r = 0 := fun h => by
    rcases Nat.eq_zero_or_pos (E r) with h' | h'
    · exact h'
    · have := hKB h'; omega
  obtain ⟨T, hT⟩ : ∃ T, T = 1074 := ⟨_, rfl⟩
  generalize K r = M at *
  generalize E r = X at *
  obtain ⟨h, hh⟩ := Classical.skolem.1 (fun i => exists_rung (n := M) (t := X - i) (by omega) (by omega))
  have h00 : h 0 = r := V_inj (by rw [(hh 0).1, hV]; rfl)
  obtain ⟨g, hg⟩ := Classical.skolem.1 (fun j => exists_rung (n := M) (t := min (min X T + j) T) (by omega) (by omega))
  have hg0 : g 0 = h (X - T) := V_inj (by rw [(hg 0).1, (hh _).1, show min (min X T + 0) T = X - (X - T) from by omega])
  have T1 : V (((T + 2) * B)) = B * 2 ^ (T + 1) := V_top (T + 1)
  have T2 : V (((T + 1) * B)) = B * 2 ^ T := V_top T
  have e1075 : B * 2 ^ (T + 1) = 2 * B * 2 ^ T := by rw [Nat.mul_comm 2 B, Nat.mul_assoc, ← Nat.pow_succ']
  have e1074 : B * 2 ^ T = 2 * B * 2 ^ (T - 1) := by rw [Nat.mul_comm 2 B, Nat.mul_assoc, ← Nat.pow_succ', show (T - 1).succ = T from by omega]
  have cc1 : (T + 2) * B = 4845873199050653696 := by rw [hT]; rfl
  have cc2 : (T + 1) * B = 4841369599423283200 := by rw [hT]; rfl
  have c1I : ((T + 2) * B) ≤ I := by rw [cc1]; unfold I; omega
  have c2I : ((T + 1) * B) ≤ I := by rw [cc2]; unfold I; omega
  -- the loops' conditions
  have H1 : ∀ i, i < X - T → ((T + 2) * B) ≤ h i := by
    intro i hi
    have : ¬ V (h i) < V (((T + 2) * B)) := by
      rw [(hh i).1, T1]
      have := Nat.mul_le_mul (hKB (by omega)) (pow_mono (show T + 1 ≤ X - i by omega))
      omega
    rw [V_lt_iff] at this; omega
  have H2 : h (X - T) < ((T + 2) * B) := by
    rw [← V_lt_iff, (hh _).1, T1, e1075]
    have := Nat.mul_le_mul_left M (pow_mono (show X - (X - T) ≤ T by omega))
    have := Nat.mul_lt_mul_of_pos_right hK (Nat.two_pow_pos T)
    omega
  have G1 : ∀ j, j < T - min X T → g j < ((T + 1) * B) := by
    intro j hj
    rw [← V_lt_iff, (hg _).1, T2, e1074]
    have := Nat.mul_le_mul_left M (pow_mono (show min (min X T + j) T ≤ T - 1 by omega))
    have := Nat.mul_lt_mul_of_pos_right hK (Nat.two_pow_pos (T - 1))
    omega
  have G3 : ∀ j, g j < ((T + 2) * B) := by
    intro j
    rw [← V_lt_iff, (hg _).1, T1, e1075]
    have := Nat.mul_le_mul_left M (pow_mono (show min (min X T + j) T ≤ T by omega))
    have := Nat.mul_lt_mul_of_pos_right hK (Nat.two_pow_pos T)
    omega
  have G2 : B ≤ M → ¬ g (T - min X T) < ((T + 1) * B) := by
    intro hM
    rw [← V_lt_iff, (hg _).1, T2]
    have e : min (min X T + (T - min X T)) T = T := by omega
    rw [e]
    have := Nat.mul_le_mul_right (2 ^ T) hM
    omega
  have GI : V (g (T - min X T)) = M * 2 ^ T := by
    rw [(hg _).1, show min (min X T + (T - min X T)) T = T from by omega]
  have D : ∀ i, i < X - T → Ieee.double.div (h i) two = some (h (i + 1)) := by
    intro i hi
    have v3 : V (h i) = 2 * V (h (i + 1)) := by
      rw [(hh i).1, (hh (i + 1)).1, show X - i = (X - (i + 1)) + 1 from by omega, Nat.pow_succ]
      generalize 2 ^ (X - (i + 1)) = q
      rw [Nat.mul_comm q 2, ← Nat.mul_assoc, Nat.mul_comm M 2, Nat.mul_assoc]
    refine div_step ?_ (hh (i + 1)).2 v3
    have : V (h i) ≤ V r := by
      rw [(hh i).1, hV]
      exact Nat.mul_le_mul_left M (pow_mono (by omega))
    have : ¬ V r < V (h i) := by omega
    rw [V_lt_iff] at this
    omega
  have P : ∀ j, j < T - min X T → Ieee.double.mul (g j) two = some (g (j + 1)) := by
    intro j hj
    have v3 : V (g (j + 1)) = 2 * V (g j) := by
      rw [(hg j).1, (hg (j + 1)).1, show min (min X T + (j + 1)) T = (min (min X T + j) T) + 1 from by omega, Nat.pow_succ]
      generalize 2 ^ (min (min X T + j) T) = q
      rw [Nat.mul_comm q 2, ← Nat.mul_assoc, Nat.mul_comm M 2, Nat.mul_assoc]
    exact mul_step (by have := G3 j; omega) (hg (j + 1)).2 v3
  have hI := int_law (g (T - min X T)) M T hT (by have := G3 (T - min X T); omega) GI (by omega)
  have q1 : ∀ i, (FloatKind.f64.format.order (h i) 4845873199050653696 == some .gt || FloatKind.f64.format.order (h i) 4845873199050653696 == some .eq) = decide (((T + 2) * B) ≤ h i) := fun i => by rw [← cc1]; exact geq_self ((T + 2) * B) (hh i).2 c1I
  have q2 : ∀ j, (FloatKind.f64.format.order (g j) 4841369599423283200 == some .lt) = decide (g j < ((T + 1) * B)) := fun j => by rw [← cc2]; exact lss_self ((T + 1) * B) (hg j).2 c2I
  have QF := Aside0.mk hI
  clear hI T1 T2 e1075 e1074 c1I c2I cc1 cc2 GI hV hh hg
  generalize hJ : T - min X T = J at *
  generalize hI0 : X - T = I0 at *
  have AQ1 := Aside0.mk q1
  have AQ2 := Aside0.mk q2
  have AH1 := Aside0.mk H1
  have AH2 := Aside0.mk H2
  have AG1 := Aside0.mk G1
  have AG2 := Aside0.mk G2
  have AD := Aside0.mk D
  have AP := Aside0.mk P
  have AK := Aside0.mk hKB2
  have hIb : I0 ≤ 971 := by omega
  have hJb : J ≤ 1074 := by omega
  have AT := Aside0.mk hT
  have AJ := Aside0.mk hJ
  have AI := Aside0.mk hI0
  have AE := Aside0.mk hE
  have A0 := Aside0.mk h00
  have AG0 := Aside0.mk hg0
  clear hT hJ hI0 hE hr h00 hg0
  clear q1 q2 H1 H2 G1 G2 G3 D P hKB hKB2 hK
  go_enter Try.func32, Try.ntmps32
  go_wp2_with fail
  go_loop [0, 4] (fun x k => ∃ i : Nat, i ≤ I0 ∧ k = .int .i64 (i : Int) ∧ x = .float .f64 (h i)) (fun _ k => (I0 : Int).toNat - (intOf k).toNat)
  case atStart => exact ⟨0, by omega, rfl, by rw [← A0.out]⟩
  case round =>
    obtain ⟨i, hi, rfl, rfl⟩ := hrel
    by_cases hlt : i < I0
    · have q := AQ1.out i
      rw [decide_eq_true (AH1.out i hlt)] at q
      have q' : ∀ t w, (binOp .quo t (.float .f64 (h i)) (.float .f64 4611686018427387904)).run Try.prog w = .ok (.float .f64 (h (i + 1))) w := quo_law _ _ _ (AD.out i hlt)
      go_wp2_with (simp only [q, q'])
      go_round
      case rel => exact ⟨i + 1, by omega, by go_num, rfl⟩
      case measure => simp [intOf]; omega
    · have hi2 : i = I0 := by omega
      subst hi2
      have q := AQ1.out i
      rw [decide_eq_false (by have := AH2.out; omega)] at q
      clear hi hlt
      go_wp2_with (simp only [q])
      go_loop [0, 4] (fun x k => ∃ j : Nat, j ≤ J ∧ k = .int .i64 ((i : Int) - j) ∧ x = .float .f64 (g j)) (fun _ k => (J + (intOf k - i)).toNat)
      case atStart => exact ⟨0, by omega, by simp, by rw [AG0.out]⟩
      case round =>
        obtain ⟨j, hj, rfl, rfl⟩ := hrel
        by_cases hlt : j < J
        · have q3 := AQ2.out j
          rw [decide_eq_true (AG1.out j hlt)] at q3
          have q' : ∀ t w, (binOp .mul t (.float .f64 (g j)) (.float .f64 4611686018427387904)).run Try.prog w = .ok (.float .f64 (g (j + 1))) w := mul_law _ _ _ (AP.out j hlt)
          have hgt : (i : Int) - j > -1074 := by have := AT.out; have := AJ.out; omega
          go_wp2_with (simp only [q3, q'])
          go_round
          case rel => exact ⟨j + 1, by omega, by go_num, rfl⟩
          case measure => simp [intOf]; omega
        · have hj2 : j = J := by omega
          subst hj2
          have q3 := AQ2.out j
          have QI := QF.out
          have hk : (i : Int) - j = (X : Int) - 1074 := by have := AT.out; have := AJ.out; have := AI.out; omega
          by_cases hM : B ≤ M
          · rw [decide_eq_false (AG2.out hM)] at q3
            clear hlt hj
            go_wp2_with (simp only [q3, QI])
            go_ret2
            exact ⟨by first | rfl | (rw [← hk]; rfl), rfl⟩
          · have hX := AK.out (by omega)
            have hgt : ¬ (i : Int) - j > -1074 := by have := AT.out; omega
            clear hlt hj
            generalize hd : decide (g j < ((T + 1) * B)) = d at q3
            cases d
            · go_wp2_with (simp only [q3, QI])
              go_ret2
              exact ⟨by first | rfl | (rw [← hk]; rfl), rfl⟩
            · go_wp2_with (simp only [q3, QI])
              go_ret2
              exact ⟨by first | rfl | (rw [← hk]; rfl), rfl⟩
end Go.Proofs.Ytebkbodkkehmfaa.Fl
