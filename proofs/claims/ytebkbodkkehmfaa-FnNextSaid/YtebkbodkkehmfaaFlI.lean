/- What a draw of floats needs: the cursor's numbers, floats that are there. -/
import Derived.Test.YtebkbodkkehmfaaPureFnExactNextUp
import Derived.Test.YtebkbodkkehmfaaMFnNextx1
namespace Go.Proofs.Ytebkbodkkehmfaa.Fl
open Go.RowKit Go.Proofs.YtebkbodkkehmfaaW.PrintWords Go.Proofs.YtebkbodkkehmfaaW.PrintLast Go.Proofs.YtebkbodkkehmfaaW.PrintMore Go.Proofs.Ytebkbodkkehmfaa.PFnNext Go.Proofs.Ytebkbodkkehmfaa.F64
set_option linter.unusedVariables false
set_option linter.unusedSimpArgs false

theorem wr_ {x : Int} (h1 : -9223372036854775808 ≤ x) (h2 : x ≤ 9223372036854775807) : wrap64 x = x := by
  unfold wrap64; omega

theorem and_range (x : Int) : 0 ≤ Go.bits .and .i64 x 255 ∧ Go.bits .and .i64 x 255 ≤ 255 := by
  have h : Go.bits .and .i64 x 255 = IntKind.i64.wrap ((BitVec.ofInt 64 x &&& BitVec.ofInt 64 255).toNat : Int) := rfl
  rw [h, BitVec.toNat_and]
  have h2 : (BitVec.ofInt 64 255).toNat = 255 := by decide
  rw [h2]
  have h3 : (BitVec.ofInt 64 x).toNat &&& 255 ≤ 255 := Nat.and_le_right
  rw [IntKind.wrap_i64]
  omega
theorem byte_some (b : List Int) (i h : Int) (hi : 0 ≤ i) (hn : b.length ≤ 9223372036854775806) : ∃ r i' h', spec_l01Byte.f b i h = some (r, i', h') ∧ 0 ≤ r ∧ r ≤ 255 ∧ 0 ≤ i' := by
  unfold spec_l01Byte.f
  by_cases hlt : i < (b.length : Int)
  · rw [if_pos hlt, if_pos hi]
    exact ⟨_, _, _, rfl, (and_range _).1, (and_range _).2, by rw [wr_ (by omega) (by omega)]; omega⟩
  · rw [if_neg hlt]
    exact ⟨_, _, _, rfl, (and_range _).1, (and_range _).2, hi⟩
theorem below_some (b : List Int) (i h n : Int) (hi : 0 ≤ i) (hn : b.length ≤ 9223372036854775806) : ∃ r i' h', spec_l01Below.f b i h n = some (r, i', h') ∧ 0 ≤ r ∧ (0 < n → r < n) ∧ (n ≤ 0 → r = 0) ∧ 0 ≤ i' := by
  unfold spec_l01Below.f
  by_cases h0 : n ≤ 0
  · rw [if_pos h0]; exact ⟨_, _, _, rfl, by omega, fun h => by omega, fun _ => rfl, hi⟩
  · rw [if_neg h0]
    by_cases h1 : n ≤ 256
    · rw [if_pos h1]
      obtain ⟨r, i1, h1, e1, ra, rb, hi1⟩ := byte_some b i h hi hn
      rw [e1]
      simp only [Option.bind_some]
      rw [if_neg (by omega)]
      refine ⟨_, _, _, rfl, ?_, fun _ => ?_, fun h => absurd h h0, hi1⟩
      · rw [Int.tmod_eq_emod_of_nonneg ra]; exact Int.emod_nonneg _ (by omega)
      · rw [Int.tmod_eq_emod_of_nonneg ra]; exact Int.emod_lt_of_pos _ (by omega)
    · rw [if_neg h1]
      obtain ⟨r1, i1, h1, e1, ra1, rb1, hi1⟩ := byte_some b i h hi hn
      obtain ⟨r2, i2, h2, e2, ra2, rb2, hi2⟩ := byte_some b i1 h1 hi1 hn
      obtain ⟨r3, i3, h3, e3, ra3, rb3, hi3⟩ := byte_some b i2 h2 hi2 hn
      obtain ⟨r4, i4, h4, e4, ra4, rb4, hi4⟩ := byte_some b i3 h3 hi3 hn
      rw [e1]; simp only [Option.bind_some]
      rw [e2]; simp only [Option.bind_some]
      rw [e3]; simp only [Option.bind_some]
      rw [e4]; simp only [Option.bind_some]
      rw [if_neg (by omega), wr_ (x := r1 * 16777216) (by omega) (by omega), wr_ (x := r2 * 65536) (by omega) (by omega), wr_ (x := r3 * 256) (by omega) (by omega)]
      rw [wr_ (x := r1 * 16777216 + r2 * 65536) (by omega) (by omega), wr_ (x := r1 * 16777216 + r2 * 65536 + r3 * 256) (by omega) (by omega), wr_ (x := r1 * 16777216 + r2 * 65536 + r3 * 256 + r4) (by omega) (by omega)]
      have hnn : 0 ≤ r1 * 16777216 + r2 * 65536 + r3 * 256 + r4 := by omega
      refine ⟨_, _, _, rfl, ?_, fun _ => ?_, fun h => absurd h h0, hi4⟩
      · rw [Int.tmod_eq_emod_of_nonneg hnn]; exact Int.emod_nonneg _ (by omega)
      · rw [Int.tmod_eq_emod_of_nonneg hnn]; exact Int.emod_lt_of_pos _ (by omega)
theorem new_loop (b : List Int) (hn : b.length ≤ 9223372036854775806) (d : Nat) : ∀ (k i : Nat) (h : Int), i + d = b.length → d < k → ∃ h', spec_l01New.l0 k b h (i : Int) = some (b, 0, h') := by
  induction d with
  | zero =>
    intro k i h hi hk
    obtain ⟨k, rfl⟩ : ∃ m, k = m + 1 := ⟨k - 1, by omega⟩
    simp only [spec_l01New.l0]
    rw [if_neg (by omega)]
    exact ⟨_, rfl⟩
  | succ d ih =>
    intro k i h hi hk
    obtain ⟨k, rfl⟩ : ∃ m, k = m + 1 := ⟨k - 1, by omega⟩
    simp only [spec_l01New.l0]
    rw [if_pos (by omega)]
    by_cases h4 : (i : Int) < 4000
    · rw [if_pos h4, if_pos (by omega), wr_ (x := (i : Int) + 1) (by omega) (by omega)]
      exact ih k (i + 1) _ (by omega) (by omega)
    · rw [if_neg h4]; exact ⟨_, rfl⟩
theorem new_some (b : List Int) (hn : b.length ≤ 9223372036854775806) (k : Nat) (hk : b.length < k) : ∃ h, spec_l01New.f k b = some (b, 0, h) := by
  unfold spec_l01New.f
  exact new_loop b hn b.length k 0 _ (by omega) hk

theorem pickInt_some (b : List Int) (i h : Int) (l : List Int) (hi : 0 ≤ i) (hn : b.length ≤ 9223372036854775806) (hl : 0 < l.length) : ∃ r i' h', spec_l01PickInt.f b i h l = some (r, i', h') ∧ r ∈ l ∧ 0 ≤ i' := by
  unfold spec_l01PickInt.f
  obtain ⟨r, i', h', e, h0, h1, _, hi'⟩ := below_some b i h (l.length : Int) hi hn
  have h1 := h1 (by omega)
  rw [e]; simp only [Option.bind_some]
  rw [if_pos h0, if_pos h1]
  obtain ⟨n, rfl⟩ := Int.eq_ofNat_of_zero_le h0
  have hn' : n < l.length := by omega
  refine ⟨_, _, _, rfl, ?_, hi'⟩
  unfold rd
  simp [List.getD, List.getElem?_eq_getElem hn']

theorem once_some (b : List Int) (hn : b.length ≤ 9223372036854775806) (p h m : Int) (hp : 0 ≤ p) : ∃ r p' h', spec_l01Once.f b p h m = some (r, p', h') ∧ 0 ≤ p' := by
  obtain ⟨r, p2, h2, e2, _, _, _, hp2⟩ := below_some b p h m hp hn
  exact ⟨_, _, _, by unfold spec_l01Once.f; rw [e2]; rfl, hp2⟩
theorem quo_none (x y : Nat) (h : Ieee.double.div x y = none) (t : TypeId) (w : World) : (binOp .quo t (.float .f64 x) (.float .f64 y)).run Try.prog w = .ok (.float .f64 (nanW x y w)) w.drew := by
  have h' : FloatKind.f64.format.div x y = none := h
  have hq : (Question.nanBits .f64 x y).forced = false := rfl
  simp [binOp, Op.floatArith, h', hq, nanW]
theorem le_lt {r : Nat} (h : r ≤ I) : r < 2 * S := by unfold S; unfold I at h; omega
theorem float_ex (m : Nat) (k : Int) (hm : m ≤ 2 * F64.B) (hk : -1074 ≤ k) (hk2 : k ≤ 971) : ∃ x, x < 2 * S ∧ ∀ w, Calls Try.prog 31 #[.int .i64 (m : Int), .int .i64 k] w fun e w' => e = .returned (.float .f64 x) ∧ w' = w := by
  obtain ⟨r, h1, h2⟩ := exists_rung (n := m) (t := (1074 + k).toNat) hm (by omega)
  exact ⟨r, le_lt h2, fun w => float_word m k hm hk hk2 r h2 h1 w⟩
theorem ofInt_ex (m : Nat) (hm : m ≤ 2 * F64.B) : ∃ x, x < I ∧ floatOfInt .f64 (m : Int) = x ∧ (0 < m → 0 < x) := by
  obtain ⟨T, hT⟩ : ∃ T, T = 1074 := ⟨_, rfl⟩
  obtain ⟨r, h1, h2⟩ := exists_rung (n := m) (t := T) hm (by omega)
  refine ⟨r, ?_, ofInt_rung hT h2 h1, fun h => ?_⟩
  · obtain ⟨Z, hZ⟩ : ∃ Z, Z = 2046 := ⟨_, rfl⟩
    rw [← V_lt_iff]
    have : V I = F64.B * 2 ^ Z := by rw [show I = (Z + 1) * F64.B from by rw [hZ]; rfl]; exact V_top Z
    rw [h1, this]
    have p2 : m * 2 ^ T ≤ 2 * F64.B * 2 ^ T := Nat.mul_le_mul_right _ hm
    have p3 : 2 * F64.B * 2 ^ T = F64.B * 2 ^ (T + 1) := by rw [Nat.mul_comm 2 F64.B, Nat.mul_assoc, ← Nat.pow_succ']
    have p4 : F64.B * 2 ^ (T + 1) < F64.B * 2 ^ Z := Nat.mul_lt_mul_of_pos_left (Nat.pow_lt_pow_right (by decide) (by omega)) B_pos
    omega
  · rcases Nat.eq_zero_or_pos r with e | e
    · rw [e, V_zero] at h1
      have := Nat.mul_pos h (Nat.two_pow_pos T)
      omega
    · exact e
theorem div_some {x y : Nat} (hx : x < I) (hy : y < I) (h0 : 0 < y) : ∃ r, Ieee.double.div x y = some r ∧ r < 2 * S := by
  have e : ∃ r, Ieee.double.div x y = some r := by
    unfold Ieee.Format.div
    rw [read_eq, read_eq, if_pos (by rw [rung_self (by omega)]; exact hx), if_pos (by rw [rung_self (by omega)]; exact hy)]
    have hk : K (rung y) ≠ 0 := by rw [rung_self (by omega)]; unfold K F64.B; split <;> omega
    simp only [Ieee.Datum.quotient, hk, if_false, Option.map_some]
    exact ⟨_, rfl⟩
  obtain ⟨r, e⟩ := e
  exact ⟨r, e, Ieee.double.div_lt e⟩
theorem two_ex (k : Int) (hk : -1074 ≤ k) (hk2 : k ≤ 1024) : ∃ x, x < 2 * S ∧ ∀ w, Calls Try.prog 22 #[.int .i64 k] w fun e w' => e = .returned (.float .f64 x) ∧ w' = w := by
  by_cases h0 : 0 ≤ k
  · obtain ⟨g, hg⟩ : ∃ g : Nat → Nat, g = fun i => (1023 + i) * F64.B := ⟨_, rfl⟩
    have hI : ∀ i : Nat, i ≤ 1024 → g i ≤ I := fun i hi => by
      rw [hg, I_eq]; exact Nat.mul_le_mul_right _ (by omega)
    have gs : ∀ i, g (i + 1) = g i + F64.B := by
      intro i; rw [hg]; show (1023 + (i + 1)) * F64.B = (1023 + i) * F64.B + F64.B; rw [← Nat.succ_mul]; congr 1
    have gB : ∀ i, F64.B ≤ g i := by
      intro i; rw [hg]; have := Nat.mul_le_mul_right F64.B (show 1 ≤ 1023 + i by omega); rw [Nat.one_mul] at this; exact this
    refine ⟨g k.natAbs, le_lt (hI _ (by omega)), fun w => two_calls k (by omega) g (by rw [hg]; rfl) (fun i hi => ?_) (fun i hi => by omega) w⟩
    have b1 := hI (i + 1) (by omega)
    have b2 := gs i
    have b3 := gB i
    have bp := B_pos
    refine mul_step (by omega) b1 ?_
    rw [b2]; exact V_add b3
  · obtain ⟨T, hT⟩ : ∃ T, T = 1074 := ⟨_, rfl⟩
    obtain ⟨f, hf⟩ := Classical.skolem.1 (fun i => exists_rung (n := 1) (t := T - i) (by decide) (by omega))
    have hlt : ∀ i, f i < I := fun i => by
      obtain ⟨Z, hZ⟩ : ∃ Z, Z = 2046 := ⟨_, rfl⟩
      rw [← V_lt_iff]
      have : V I = F64.B * 2 ^ Z := by rw [show I = (Z + 1) * F64.B from by rw [hZ]; rfl]; exact V_top Z
      rw [(hf i).1, this, Nat.one_mul]
      have p1 : 2 ^ (T - i) < 2 ^ Z := Nat.pow_lt_pow_right (by decide) (by omega)
      have p2 : 1 * 2 ^ Z ≤ F64.B * 2 ^ Z := Nat.mul_le_mul_right _ B_pos
      omega
    have f0 : f 0 = 4607182418800017408 := by
      obtain ⟨Z, hZ⟩ : ∃ Z, Z = 1022 := ⟨_, rfl⟩
      have e : (Z + 1) * F64.B = 4607182418800017408 := by rw [hZ]; rfl
      rw [← e]
      refine V_inj ?_
      rw [(hf 0).1, V_top Z, Nat.one_mul, B_eq, ← Nat.pow_add, show T - 0 = 52 + Z from by omega]
    refine ⟨f k.natAbs, le_lt (by have := hlt k.natAbs; omega), fun w => two_calls k (by omega) f f0 (fun i hi => by omega) (fun i hi => ?_) w⟩
    refine div_step (hlt i) (by have := hlt (i + 1); omega) ?_
    rw [(hf i).1, (hf (i + 1)).1, show T - i = (T - (i + 1)) + 1 from by omega, Nat.pow_succ]
    omega
end Go.Proofs.Ytebkbodkkehmfaa.Fl
