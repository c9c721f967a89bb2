/- Of two numbers other than 0 the greatest common divisor and the least common multiple make their product; at every code of the draw. -/
import Derived.Test.YtgjnjimlaipjcaaMFnDivisorsx3
namespace Go.Proofs.Ytgjnjimlaipjcaa.Pure
open Go.RowKit Go.Proofs.Ytgjnjimlaipjcaa.PFnDivisors Go.Proofs.YtgjnjimlaipjcaaW.PrintWords Go.Proofs.YtgjnjimlaipjcaaW.PrintLast
namespace AFnDivisors

theorem wr {x : Int} (h1 : -9223372036854775808 ≤ x) (h2 : x ≤ 9223372036854775807) : wrap64 x = x := by
  unfold wrap64; omega

def smB (n : Int) : Bool := decide (-1000000000 ≤ n ∧ n ≤ 1000000000)
theorem smB_iff {n : Int} : smB n = true ↔ -1000000000 ≤ n ∧ n ≤ 1000000000 := by unfold smB; simp

theorem gcd_step (a b : Int) : (Int.gcd b (Int.tmod a b) : Int) = Int.gcd a b := by
  unfold Int.gcd
  rw [Int.natAbs_tmod, Nat.gcd_comm, ← Nat.gcd_rec, Nat.gcd_comm]
theorem gcd_nought (a : Int) : (Int.gcd a 0 : Int) = if a < 0 then -a else a := by
  rw [Int.gcd_zero_right]; split <;> omega

theorem small_eq (n : Int) : spec_l01Small.f n = some (smB n) := by
  unfold spec_l01Small.f spec_l01In.f smB
  by_cases h : -1000000000 ≤ n
  · rw [if_pos h]; simp [h]
  · rw [if_neg h]; simp [h]
theorem abs_eq {n : Int} (h : -9223372036854775808 < n) (h2 : n ≤ 9223372036854775807) : spec_l01Abs.f n = some (n.natAbs : Int) := by
  unfold spec_l01Abs.f
  split
  · rw [wr (by omega) (by omega)]; congr 1; omega
  · congr 1; omega
theorem gcdSpec_loop (d : Nat) : ∀ (k : Nat) (a b : Int), 0 ≤ a → 0 ≤ b → b.toNat ≤ d → d < k → spec_Gcd.l0 k a b = some (Int.gcd a b : Int) := by
  induction d with
  | zero =>
    intro k a b ha hb hd hk
    obtain ⟨k, rfl⟩ : ∃ m, k = m + 1 := ⟨k - 1, by omega⟩
    obtain rfl : b = 0 := by omega
    simp only [spec_Gcd.l0]
    rw [if_neg (by omega), gcd_nought, if_neg (by omega)]
  | succ d ih =>
    intro k a b ha hb hd hk
    obtain ⟨k, rfl⟩ : ∃ m, k = m + 1 := ⟨k - 1, by omega⟩
    simp only [spec_Gcd.l0]
    by_cases hz : b = 0
    · subst hz
      rw [if_neg (by omega), gcd_nought, if_neg (by omega)]
    · rw [if_pos (by omega), if_neg hz]
      have h1 : Int.tmod a b = a % b := Int.tmod_eq_emod_of_nonneg ha
      have h2 : 0 ≤ a % b := Int.emod_nonneg _ hz
      have h3 : a % b < b := Int.emod_lt_of_pos _ (by omega)
      rw [ih k b _ hb (by omega) (by omega) (by omega), gcd_step]
theorem gcdSpec_eq (k : Nat) (a b : Int) (hk : b.natAbs + 2 ≤ k) : spec_Gcd.f k a b = some (if (smB a && smB b) = true then (Int.gcd a b : Int) else 0) := by
  obtain ⟨k, rfl⟩ : ∃ m, k = m + 1 := ⟨k - 1, by omega⟩
  unfold spec_Gcd.f
  rw [small_eq, small_eq]
  cases ha : smB a
  · simp [spec_Gcd.j0]
  · cases hb : smB b
    · simp [spec_Gcd.j0]
    · have ha := smB_iff.1 ha
      have hb := smB_iff.1 hb
      simp only [Option.bind_some, if_true, Bool.not_true, Bool.and_self, spec_Gcd.j0, Bool.false_eq_true, if_false]
      rw [abs_eq (by omega) (by omega), abs_eq (by omega) (by omega)]
      simp only [Option.bind_some]
      rw [gcdSpec_loop b.natAbs k _ _ (by omega) (by omega) (by omega) (by omega)]
      simp [Int.gcd]

theorem mx_abs {a : Int} (h : -9223372036854775808 < a) (h2 : a ≤ 9223372036854775807) : mx a (wrap64 (-a)) = (a.natAbs : Int) := by
  rw [wr (by omega) (by omega)]; unfold mx; split <;> omega
theorem gcdImpl_loop (d : Nat) : ∀ (k : Nat) (a b : Int), -9223372036854775808 < a → a ≤ 9223372036854775807 → -9223372036854775808 < b → b ≤ 9223372036854775807 → b.natAbs ≤ d → d < k → impl_gcd.l0 k a b = some (Int.gcd a b : Int) := by
  induction d with
  | zero =>
    intro k a b ha ha' hb hb' hd hk
    obtain ⟨k, rfl⟩ : ∃ m, k = m + 1 := ⟨k - 1, by omega⟩
    have hz : b = 0 := by omega
    simp only [impl_gcd.l0]
    rw [if_pos hz, mx_abs ha ha', hz, Int.gcd_zero_right]
  | succ d ih =>
    intro k a b ha ha' hb hb' hd hk
    obtain ⟨k, rfl⟩ : ∃ m, k = m + 1 := ⟨k - 1, by omega⟩
    simp only [impl_gcd.l0]
    by_cases hz : b = 0
    · rw [if_pos hz, mx_abs ha ha', hz, Int.gcd_zero_right]
    · rw [if_neg hz]
      have h1 : (Int.tmod a b).natAbs = a.natAbs % b.natAbs := Int.natAbs_tmod a b
      have h2 : a.natAbs % b.natAbs < b.natAbs := Nat.mod_lt _ (by omega)
      rw [ih k b _ hb hb' (by omega) (by omega) (by omega) (by omega), gcd_step]
theorem gcdImpl_eq (k : Nat) (a b : Int) (ha : -9223372036854775808 < a) (ha' : a ≤ 9223372036854775807) (hb : -9223372036854775808 < b) (hb' : b ≤ 9223372036854775807) (hk : b.natAbs + 1 ≤ k) : impl_gcd.f k a b = some (Int.gcd a b : Int) :=
  gcdImpl_loop b.natAbs k a b ha ha' hb hb' (Nat.le_refl _) (by omega)

theorem isSmall_eq (n : Int) : impl_isSmall.f n = some (smB n) := by
  unfold impl_isSmall.f smB
  by_cases h : -1000000000 ≤ n
  · rw [if_pos h]; simp [h]
  · rw [if_neg h]; simp [h]

theorem GcdImpl_eq (k : Nat) (a b : Int) (hk : b.natAbs + 1 ≤ k) : impl_Gcd.f k a b = some (if (smB a && smB b) = true then (Int.gcd a b : Int) else 0) := by
  unfold impl_Gcd.f
  rw [isSmall_eq, isSmall_eq]
  cases ha : smB a
  · simp
  · cases hb : smB b
    · simp
    · have ha := smB_iff.1 ha
      have hb := smB_iff.1 hb
      simp only [Option.bind_some, if_true, Bool.and_self]
      rw [gcdImpl_eq k a b (by omega) (by omega) (by omega) (by omega) hk]; rfl

theorem LcmSpec_eq (k : Nat) (a b : Int) (hk : b.natAbs + 3 ≤ k) : spec_Lcm.f k a b = some (if (smB a && smB b && a != 0 && b != 0) = true then wrap64 (wrap64 (Int.tdiv (a.natAbs : Int) (Int.gcd a b : Int)) * (b.natAbs : Int)) else 0) := by
  obtain ⟨k, rfl⟩ : ∃ m, k = m + 1 := ⟨k - 1, by omega⟩
  unfold spec_Lcm.f
  rw [small_eq, small_eq]
  cases ha : smB a
  · simp [spec_Lcm.j0]
  · cases hb : smB b
    · simp [spec_Lcm.j0]
    · have ha' := smB_iff.1 ha
      have hb' := smB_iff.1 hb
      by_cases ha0 : a = 0
      · simp [ha0, spec_Lcm.j0]
      · by_cases hb0 : b = 0
        · simp [hb0, spec_Lcm.j0]
        · have hg : ¬ ((Int.gcd a b : Int) = 0) := by
            intro h
            have h' : Int.gcd a b = 0 := by omega
            exact ha0 (Int.gcd_eq_zero_iff.1 h').1
          have haa : (a != 0) = true := by simp [ha0]
          have hbn : (b != 0) = true := by simp [hb0]
          have hbb : (b == 0) = false := by simp [hb0]
          simp only [Option.bind_some, if_true, if_neg ha0, hbb, haa, hbn, Bool.and_self, spec_Lcm.j0, Bool.false_eq_true, if_false]
          rw [abs_eq (by omega) (by omega), abs_eq (by omega) (by omega), gcdSpec_eq k a b (by omega), ha, hb]
          simp only [Option.bind_some, Bool.and_self, if_true]
          rw [if_neg hg]
theorem LcmImpl_eq (k : Nat) (a b : Int) (hk : b.natAbs + 1 ≤ k) : impl_Lcm.f k a b = some (if (smB a && smB b && a != 0 && b != 0) = true then wrap64 (wrap64 (Int.tdiv (a.natAbs : Int) (Int.gcd a b : Int)) * (b.natAbs : Int)) else 0) := by
  unfold impl_Lcm.f
  rw [isSmall_eq, isSmall_eq]
  cases ha : smB a
  · simp
  · cases hb : smB b
    · simp
    · have ha' := smB_iff.1 ha
      have hb' := smB_iff.1 hb
      by_cases ha0 : a = 0
      · simp [ha0]
      · by_cases hb0 : b = 0
        · simp [hb0]
        · have hg : ¬ ((Int.gcd a b : Int) = 0) := by
            intro h
            have h' : Int.gcd a b = 0 := by omega
            exact ha0 (Int.gcd_eq_zero_iff.1 h').1
          have haa : (a != 0) = true := by simp [ha0]
          have hbn : (b != 0) = true := by simp [hb0]
          simp only [Option.bind_some, if_true, if_neg ha0, if_neg hb0, haa, hbn, Bool.and_self]
          rw [gcdImpl_eq k a b (by omega) (by omega) (by omega) (by omega) hk]
          simp only [Option.bind_some]
          rw [if_neg hg, mx_abs (by omega) (by omega), mx_abs (by omega) (by omega)]

theorem and_range (x : Int) : 0 ≤ Go.bits .and .i64 x 255 ∧ Go.bits .and .i64 x 255 ≤ 255 := by
  have h : Go.bits .and .i64 x 255 = IntKind.i64.wrap ((BitVec.ofInt 64 x &&& BitVec.ofInt 64 255).toNat : Int) := rfl
  rw [h, BitVec.toNat_and]
  have h2 : (BitVec.ofInt 64 255).toNat = 255 := by decide
  rw [h2]
  have h3 : (BitVec.ofInt 64 x).toNat &&& 255 ≤ 255 := Nat.and_le_right
  rw [IntKind.wrap_i64]
  omega
theorem byte_some (b : List Int) (i h : Int) (hi : 0 ≤ i) (hn : b.length ≤ 9223372036854775806) : ∃ r i' h', spec_l01Byte.f b i h = some (r, i', h') ∧ 0 ≤ r ∧ r ≤ 255 ∧ 0 ≤ i' := by
  unfold spec_l01Byte.f
  by_cases hlt : i < (b.length : Int)
  · rw [if_pos hlt, if_pos hi]
    exact ⟨_, _, _, rfl, (and_range _).1, (and_range _).2, by rw [wr (by omega) (by omega)]; omega⟩
  · rw [if_neg hlt]
    exact ⟨_, _, _, rfl, (and_range _).1, (and_range _).2, hi⟩
theorem below_some (b : List Int) (i h n : Int) (hi : 0 ≤ i) (hn : b.length ≤ 9223372036854775806) : ∃ r i' h', spec_l01Below.f b i h n = some (r, i', h') ∧ 0 ≤ r ∧ (0 < n → r < n) ∧ (n ≤ 0 → r = 0) ∧ 0 ≤ i' := by
  unfold spec_l01Below.f
  by_cases h0 : n ≤ 0
  · rw [if_pos h0]; exact ⟨_, _, _, rfl, by omega, fun h => by omega, fun _ => rfl, hi⟩
  · rw [if_neg h0]
    by_cases h1 : n ≤ 256
    · rw [if_pos h1]
      obtain ⟨r, i1, h1, e1, ra, rb, hi1⟩ := byte_some b i h hi hn
      rw [e1]
      simp only [Option.bind_some]
      rw [if_neg (by omega)]
      refine ⟨_, _, _, rfl, ?_, fun _ => ?_, fun h => absurd h h0, hi1⟩
      · rw [Int.tmod_eq_emod_of_nonneg ra]; exact Int.emod_nonneg _ (by omega)
      · rw [Int.tmod_eq_emod_of_nonneg ra]; exact Int.emod_lt_of_pos _ (by omega)
    · rw [if_neg h1]
      obtain ⟨r1, i1, h1, e1, ra1, rb1, hi1⟩ := byte_some b i h hi hn
      obtain ⟨r2, i2, h2, e2, ra2, rb2, hi2⟩ := byte_some b i1 h1 hi1 hn
      obtain ⟨r3, i3, h3, e3, ra3, rb3, hi3⟩ := byte_some b i2 h2 hi2 hn
      obtain ⟨r4, i4, h4, e4, ra4, rb4, hi4⟩ := byte_some b i3 h3 hi3 hn
      rw [e1]; simp only [Option.bind_some]
      rw [e2]; simp only [Option.bind_some]
      rw [e3]; simp only [Option.bind_some]
      rw [e4]; simp only [Option.bind_some]
      rw [if_neg (by omega), wr (x := r1 * 16777216) (by omega) (by omega), wr (x := r2 * 65536) (by omega) (by omega), wr (x := r3 * 256) (by omega) (by omega)]
      rw [wr (x := r1 * 16777216 + r2 * 65536) (by omega) (by omega), wr (x := r1 * 16777216 + r2 * 65536 + r3 * 256) (by omega) (by omega), wr (x := r1 * 16777216 + r2 * 65536 + r3 * 256 + r4) (by omega) (by omega)]
      have hnn : 0 ≤ r1 * 16777216 + r2 * 65536 + r3 * 256 + r4 := by omega
      refine ⟨_, _, _, rfl, ?_, fun _ => ?_, fun h => absurd h h0, hi4⟩
      · rw [Int.tmod_eq_emod_of_nonneg hnn]; exact Int.emod_nonneg _ (by omega)
      · rw [Int.tmod_eq_emod_of_nonneg hnn]; exact Int.emod_lt_of_pos _ (by omega)
theorem new_loop (b : List Int) (hn : b.length ≤ 9223372036854775806) (d : Nat) : ∀ (k i : Nat) (h : Int), i + d = b.length → d < k → ∃ h', spec_l01New.l0 k b h (i : Int) = some (b, 0, h') := by
  induction d with
  | zero =>
    intro k i h hi hk
    obtain ⟨k, rfl⟩ : ∃ m, k = m + 1 := ⟨k - 1, by omega⟩
    simp only [spec_l01New.l0]
    rw [if_neg (by omega)]
    exact ⟨_, rfl⟩
  | succ d ih =>
    intro k i h hi hk
    obtain ⟨k, rfl⟩ : ∃ m, k = m + 1 := ⟨k - 1, by omega⟩
    simp only [spec_l01New.l0]
    rw [if_pos (by omega)]
    by_cases h4 : (i : Int) < 4000
    · rw [if_pos h4, if_pos (by omega), wr (x := (i : Int) + 1) (by omega) (by omega)]
      exact ih k (i + 1) _ (by omega) (by omega)
    · rw [if_neg h4]; exact ⟨_, rfl⟩
theorem new_some (b : List Int) (hn : b.length ≤ 9223372036854775806) (k : Nat) (hk : b.length < k) : ∃ h, spec_l01New.f k b = some (b, 0, h) := by
  unfold spec_l01New.f
  exact new_loop b hn b.length k 0 _ (by omega) hk

theorem pickInt_some (b : List Int) (i h : Int) (l : List Int) (hi : 0 ≤ i) (hn : b.length ≤ 9223372036854775806) (hl : 0 < l.length) : ∃ r i' h', spec_l01PickInt.f b i h l = some (r, i', h') ∧ r ∈ l ∧ 0 ≤ i' := by
  unfold spec_l01PickInt.f
  obtain ⟨r, i', h', e, h0, h1, _, hi'⟩ := below_some b i h (l.length : Int) hi hn
  have h1 := h1 (by omega)
  rw [e]; simp only [Option.bind_some]
  rw [if_pos h0, if_pos h1]
  obtain ⟨n, rfl⟩ := Int.eq_ofNat_of_zero_le h0
  have hn' : n < l.length := by omega
  refine ⟨_, _, _, rfl, ?_, hi'⟩
  unfold rd
  simp [List.getD, List.getElem?_eq_getElem hn']

theorem num_some (b : List Int) (i h : Int) (hi : 0 ≤ i) (hn : b.length ≤ 9223372036854775806) : ∃ r i' h', spec_l01Num.f b i h = some (r, i', h') ∧ 0 ≤ i' := by
  unfold spec_l01Num.f
  obtain ⟨r1, i1, h1, e1, _, _, _, hi1⟩ := below_some b i h 100000 hi hn
  obtain ⟨r2, i2, h2, e2, _, _, _, hi2⟩ := below_some b i1 h1 1000 hi1 hn
  obtain ⟨r3, i3, h3, e3, _, _, _, hi3⟩ := below_some b i2 h2 1000 hi2 hn
  rw [e1]; simp only [Option.bind_some]
  rw [e2]; simp only [Option.bind_some]
  rw [e3]; simp only [Option.bind_some]
  obtain ⟨r, i', h', e, _, hi'⟩ := pickInt_some b i3 h3 [0, 1, (-1), 2, 6, 12, (-60), 999999999, 1000000000, (-1000000000), 1000000001, (-1000000001), 9223372036854775807, (-9223372036854775808), r1, wrap64 (6 * r2), wrap64 ((-10) * r3)] hi3 hn (by simp)
  rw [e]
  exact ⟨_, _, _, rfl, hi'⟩
theorem div_fact {x y g : Nat} (hx : 0 < x) (hg : g = Nat.gcd x y) (bx : x ≤ 1000000000) (by' : y ≤ 1000000000) :
    0 < g ∧ Int.tmod (x : Int) g = 0 ∧ Int.tmod (y : Int) g = 0 ∧ wrap64 (wrap64 (Int.tdiv (x : Int) g) * (y : Int)) = ((x / g * y : Nat) : Int) ∧
    Int.tmod ((x / g * y : Nat) : Int) x = 0 ∧ Int.tmod ((x / g * y : Nat) : Int) y = 0 := by
  have g0 : 0 < g := by rw [hg]; exact Nat.gcd_pos_of_pos_left _ hx
  have gx : g ∣ x := by rw [hg]; exact Nat.gcd_dvd_left x y
  have gy : g ∣ y := by rw [hg]; exact Nat.gcd_dvd_right x y
  have hq : x / g ≤ x := Nat.div_le_self _ _
  have hm : x / g * y ≤ 1000000000 * 1000000000 := Nat.mul_le_mul (by omega) by'
  have t : Int.tdiv (x : Int) g = ((x / g : Nat) : Int) := Int.ofNat_tdiv x g
  have w1 : wrap64 ((x / g : Nat) : Int) = ((x / g : Nat) : Int) := by
    clear t hm; generalize x / g = q at *; exact wr (by omega) (by omega)
  refine ⟨g0, ?_, ?_, ?_, ?_, ?_⟩
  · rw [← Int.ofNat_tmod, Nat.mod_eq_zero_of_dvd gx]; rfl
  · rw [← Int.ofNat_tmod, Nat.mod_eq_zero_of_dvd gy]; rfl
  · rw [t, w1, ← Int.natCast_mul]
    clear t w1; generalize x / g * y = q at *
    exact wr (by omega) (by omega)
  · rw [← Int.ofNat_tmod]
    obtain ⟨c, hc⟩ := gy
    have : x ∣ x / g * y := ⟨c, by rw [hc, ← Nat.mul_assoc, Nat.div_mul_cancel gx]⟩
    rw [Nat.mod_eq_zero_of_dvd this]; rfl
  · rw [← Int.ofNat_tmod, Nat.mod_eq_zero_of_dvd (Nat.dvd_mul_left _ _)]; rfl
theorem divisors_end (k : Nat) (a b : Int) (g l : Nat) (ha : -1000000000 ≤ a ∧ a ≤ 1000000000) (hb : -1000000000 ≤ b ∧ b ≤ 1000000000) (ha0 : ¬ a = 0) (hb0 : ¬ b = 0) (hl : ¬ (l : Int) = 0) (xg : ¬ (g : Int) = 0)
    (m1 : Int.tmod (a.natAbs : Int) g = 0) (m2 : Int.tmod (b.natAbs : Int) g = 0) (m3 : wrap64 (wrap64 (Int.tdiv (a.natAbs : Int) g) * (b.natAbs : Int)) = (l : Int))
    (m4 : Int.tmod (l : Int) a.natAbs = 0) (m5 : Int.tmod (l : Int) b.natAbs = 0) : laws_FnDivisors.j0 (k + 1) a b g l false = some true := by
  simp only [laws_FnDivisors.j0, Bool.false_eq_true, if_false]
  rw [if_neg hl]
  have xa : ¬ (a.natAbs : Int) = 0 := by omega
  have xb : ¬ (b.natAbs : Int) = 0 := by omega
  by_cases sa : a < 0
  · have na : wrap64 (-a) = (a.natAbs : Int) := by rw [wr (by omega) (by omega)]; omega
    by_cases sb : b < 0
    · have nb : wrap64 (-b) = (b.natAbs : Int) := by rw [wr (by omega) (by omega)]; omega
      simp only [if_pos sa, if_pos sb, na, nb, m1, m2, m3, m4, m5, if_neg xa, if_neg xb, if_neg xg, if_true, beq_self_eq_true]
    · have nb : b = (b.natAbs : Int) := by omega
      generalize b.natAbs = y at *
      subst nb
      simp only [if_pos sa, if_neg sb, na, m1, m2, m3, m4, m5, if_neg xa, if_neg xb, if_neg xg, if_true, beq_self_eq_true]
  · have na : a = (a.natAbs : Int) := by omega
    generalize a.natAbs = x at *
    subst na
    by_cases sb : b < 0
    · have nb : wrap64 (-b) = (b.natAbs : Int) := by rw [wr (by omega) (by omega)]; omega
      simp only [if_neg sa, if_pos sb, nb, m1, m2, m3, m4, m5, if_neg xa, if_neg xb, if_neg xg, if_true, beq_self_eq_true]
    · have nb : b = (b.natAbs : Int) := by omega
      generalize b.natAbs = y at *
      subst nb
      simp only [if_neg sa, if_neg sb, m1, m2, m3, m4, m5, if_neg xa, if_neg xb, if_neg xg, if_true, beq_self_eq_true]
end AFnDivisors
open AFnDivisors

theorem FnDivisors : laws_FnDivisors.Pure := by
  intro code _ hn _
  have hn' : code.length ≤ 9223372036854775806 := by omega
  obtain ⟨h0, e0⟩ := new_some code hn' (code.length + 1) (by omega)
  obtain ⟨a, i1, h1, e1, hi1⟩ := num_some code 0 h0 (by omega) hn'
  obtain ⟨b, i2, h2, e2, hi2⟩ := num_some code i1 h1 hi1 hn'
  refine ⟨code.length + b.natAbs + 10, ?_⟩
  have e0 := at_rounds (k' := code.length + b.natAbs + 10) (g := fun k => spec_l01New.f k code) (fun k => spec_l01New.mono code k) (by omega) e0
  unfold laws_FnDivisors.f laws_big.f
  simp only [Option.bind_some]
  by_cases hb : (code.length : Int) > 1048576
  · rw [if_pos (by simpa using hb)]
  rw [if_neg (by simpa using hb)]
  unfold spec_DrawGcd.f
  rw [e0]; simp only [Option.bind_some]
  rw [e1]; simp only [Option.bind_some]
  rw [e2]; simp only [Option.bind_some]
  rw [GcdImpl_eq _ a b (by omega)]; simp only [Option.bind_some]
  rw [LcmImpl_eq _ a b (by omega)]; simp only [Option.bind_some]
  rw [gcdSpec_eq _ a b (by omega)]; simp only [Option.bind_some, if_true]
  rw [LcmSpec_eq _ a b (by omega)]; simp only [Option.bind_some, bne_self_eq_false]
  by_cases hc : (smB a && smB b && a != 0 && b != 0) = true
  · have hc' := hc
    simp only [Bool.and_eq_true, bne_iff_ne, ne_eq] at hc'
    obtain ⟨⟨⟨ha, hb⟩, ha0⟩, hb0⟩ := hc'
    have hab : (smB a && smB b) = true := by rw [ha, hb]; rfl
    simp only [hc, if_true]
    simp only [hab, if_true]
    have ha := smB_iff.1 ha
    have hb := smB_iff.1 hb
    obtain ⟨g0, m1, m2, m3, m4, m5⟩ := div_fact (x := a.natAbs) (y := b.natAbs) (g := Int.gcd a b) (by omega) rfl (by omega) (by omega)
    rw [m3]
    have hl : 0 < a.natAbs / Int.gcd a b * b.natAbs := by
      refine Nat.mul_pos ?_ (by omega)
      exact Nat.div_pos (Nat.le_of_dvd (by omega) (Nat.gcd_dvd_left _ _)) g0
    exact divisors_end _ a b _ _ ha hb ha0 hb0 (fun h => by rw [Int.natCast_eq_zero] at h; rw [h] at hl; exact absurd hl (Nat.lt_irrefl 0)) (fun h => by rw [Int.natCast_eq_zero] at h; rw [h] at g0; exact absurd g0 (Nat.lt_irrefl 0)) m1 m2 m3 m4 m5
  · simp only [hc, Bool.false_eq_true, if_false]
    simp only [laws_FnDivisors.j0, Bool.false_eq_true, if_false, if_true]

end Go.Proofs.Ytgjnjimlaipjcaa.Pure
