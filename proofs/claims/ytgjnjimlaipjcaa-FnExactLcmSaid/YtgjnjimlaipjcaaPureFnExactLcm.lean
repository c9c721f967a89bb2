/- Lcm answers as the reference at any two numbers. -/
import Derived.Test.YtgjnjimlaipjcaaPFnExactLcmx1
namespace Go.Proofs.Ytgjnjimlaipjcaa.Pure
open Go.RowKit Go.Proofs.Ytgjnjimlaipjcaa.PFnExactLcm Go.Proofs.YtgjnjimlaipjcaaW.PrintWords Go.Proofs.YtgjnjimlaipjcaaW.PrintLast
namespace AFnExactLcm

theorem wr {x : Int} (h1 : -9223372036854775808 ≤ x) (h2 : x ≤ 9223372036854775807) : wrap64 x = x := by
  unfold wrap64; omega

def smB (n : Int) : Bool := decide (-1000000000 ≤ n ∧ n ≤ 1000000000)
theorem smB_iff {n : Int} : smB n = true ↔ -1000000000 ≤ n ∧ n ≤ 1000000000 := by unfold smB; simp

theorem gcd_step (a b : Int) : (Int.gcd b (Int.tmod a b) : Int) = Int.gcd a b := by
  unfold Int.gcd
  rw [Int.natAbs_tmod, Nat.gcd_comm, ← Nat.gcd_rec, Nat.gcd_comm]
theorem gcd_nought (a : Int) : (Int.gcd a 0 : Int) = if a < 0 then -a else a := by
  rw [Int.gcd_zero_right]; split <;> omega

theorem small_eq (n : Int) : spec_l01Small.f n = some (smB n) := by
  unfold spec_l01Small.f spec_l01In.f smB
  by_cases h : -1000000000 ≤ n
  · rw [if_pos h]; simp [h]
  · rw [if_neg h]; simp [h]
theorem abs_eq {n : Int} (h : -9223372036854775808 < n) (h2 : n ≤ 9223372036854775807) : spec_l01Abs.f n = some (n.natAbs : Int) := by
  unfold spec_l01Abs.f
  split
  · rw [wr (by omega) (by omega)]; congr 1; omega
  · congr 1; omega
theorem gcdSpec_loop (d : Nat) : ∀ (k : Nat) (a b : Int), 0 ≤ a → 0 ≤ b → b.toNat ≤ d → d < k → spec_Gcd.l0 k a b = some (Int.gcd a b : Int) := by
  induction d with
  | zero =>
    intro k a b ha hb hd hk
    obtain ⟨k, rfl⟩ : ∃ m, k = m + 1 := ⟨k - 1, by omega⟩
    obtain rfl : b = 0 := by omega
    simp only [spec_Gcd.l0]
    rw [if_neg (by omega), gcd_nought, if_neg (by omega)]
  | succ d ih =>
    intro k a b ha hb hd hk
    obtain ⟨k, rfl⟩ : ∃ m, k = m + 1 := ⟨k - 1, by omega⟩
    simp only [spec_Gcd.l0]
    by_cases hz : b = 0
    · subst hz
      rw [if_neg (by omega), gcd_nought, if_neg (by omega)]
    · rw [if_pos (by omega), if_neg hz]
      have h1 : Int.tmod a b = a % b := Int.tmod_eq_emod_of_nonneg ha
      have h2 : 0 ≤ a % b := Int.emod_nonneg _ hz
      have h3 : a % b < b := Int.emod_lt_of_pos _ (by omega)
      rw [ih k b _ hb (by omega) (by omega) (by omega), gcd_step]
theorem gcdSpec_eq (k : Nat) (a b : Int) (hk : b.natAbs + 2 ≤ k) : spec_Gcd.f k a b = some (if (smB a && smB b) = true then (Int.gcd a b : Int) else 0) := by
  obtain ⟨k, rfl⟩ : ∃ m, k = m + 1 := ⟨k - 1, by omega⟩
  unfold spec_Gcd.f
  rw [small_eq, small_eq]
  cases ha : smB a
  · simp [spec_Gcd.j0]
  · cases hb : smB b
    · simp [spec_Gcd.j0]
    · have ha := smB_iff.1 ha
      have hb := smB_iff.1 hb
      simp only [Option.bind_some, if_true, Bool.not_true, Bool.and_self, spec_Gcd.j0, Bool.false_eq_true, if_false]
      rw [abs_eq (by omega) (by omega), abs_eq (by omega) (by omega)]
      simp only [Option.bind_some]
      rw [gcdSpec_loop b.natAbs k _ _ (by omega) (by omega) (by omega) (by omega)]
      simp [Int.gcd]

theorem mx_abs {a : Int} (h : -9223372036854775808 < a) (h2 : a ≤ 9223372036854775807) : mx a (wrap64 (-a)) = (a.natAbs : Int) := by
  rw [wr (by omega) (by omega)]; unfold mx; split <;> omega
theorem gcdImpl_loop (d : Nat) : ∀ (k : Nat) (a b : Int), -9223372036854775808 < a → a ≤ 9223372036854775807 → -9223372036854775808 < b → b ≤ 9223372036854775807 → b.natAbs ≤ d → d < k → impl_gcd.l0 k a b = some (Int.gcd a b : Int) := by
  induction d with
  | zero =>
    intro k a b ha ha' hb hb' hd hk
    obtain ⟨k, rfl⟩ : ∃ m, k = m + 1 := ⟨k - 1, by omega⟩
    have hz : b = 0 := by omega
    simp only [impl_gcd.l0]
    rw [if_pos hz, mx_abs ha ha', hz, Int.gcd_zero_right]
  | succ d ih =>
    intro k a b ha ha' hb hb' hd hk
    obtain ⟨k, rfl⟩ : ∃ m, k = m + 1 := ⟨k - 1, by omega⟩
    simp only [impl_gcd.l0]
    by_cases hz : b = 0
    · rw [if_pos hz, mx_abs ha ha', hz, Int.gcd_zero_right]
    · rw [if_neg hz]
      have h1 : (Int.tmod a b).natAbs = a.natAbs % b.natAbs := Int.natAbs_tmod a b
      have h2 : a.natAbs % b.natAbs < b.natAbs := Nat.mod_lt _ (by omega)
      rw [ih k b _ hb hb' (by omega) (by omega) (by omega) (by omega), gcd_step]
theorem gcdImpl_eq (k : Nat) (a b : Int) (ha : -9223372036854775808 < a) (ha' : a ≤ 9223372036854775807) (hb : -9223372036854775808 < b) (hb' : b ≤ 9223372036854775807) (hk : b.natAbs + 1 ≤ k) : impl_gcd.f k a b = some (Int.gcd a b : Int) :=
  gcdImpl_loop b.natAbs k a b ha ha' hb hb' (Nat.le_refl _) (by omega)

theorem isSmall_eq (n : Int) : impl_isSmall.f n = some (smB n) := by
  unfold impl_isSmall.f smB
  by_cases h : -1000000000 ≤ n
  · rw [if_pos h]; simp [h]
  · rw [if_neg h]; simp [h]

theorem LcmSpec_eq (k : Nat) (a b : Int) (hk : b.natAbs + 3 ≤ k) : spec_Lcm.f k a b = some (if (smB a && smB b && a != 0 && b != 0) = true then wrap64 (wrap64 (Int.tdiv (a.natAbs : Int) (Int.gcd a b : Int)) * (b.natAbs : Int)) else 0) := by
  obtain ⟨k, rfl⟩ : ∃ m, k = m + 1 := ⟨k - 1, by omega⟩
  unfold spec_Lcm.f
  rw [small_eq, small_eq]
  cases ha : smB a
  · simp [spec_Lcm.j0]
  · cases hb : smB b
    · simp [spec_Lcm.j0]
    · have ha' := smB_iff.1 ha
      have hb' := smB_iff.1 hb
      by_cases ha0 : a = 0
      · simp [ha0, spec_Lcm.j0]
      · by_cases hb0 : b = 0
        · simp [hb0, spec_Lcm.j0]
        · have hg : ¬ ((Int.gcd a b : Int) = 0) := by
            intro h
            have h' : Int.gcd a b = 0 := by omega
            exact ha0 (Int.gcd_eq_zero_iff.1 h').1
          have haa : (a != 0) = true := by simp [ha0]
          have hbn : (b != 0) = true := by simp [hb0]
          have hbb : (b == 0) = false := by simp [hb0]
          simp only [Option.bind_some, if_true, if_neg ha0, hbb, haa, hbn, Bool.and_self, spec_Lcm.j0, Bool.false_eq_true, if_false]
          rw [abs_eq (by omega) (by omega), abs_eq (by omega) (by omega), gcdSpec_eq k a b (by omega), ha, hb]
          simp only [Option.bind_some, Bool.and_self, if_true]
          rw [if_neg hg]
theorem LcmImpl_eq (k : Nat) (a b : Int) (hk : b.natAbs + 1 ≤ k) : impl_Lcm.f k a b = some (if (smB a && smB b && a != 0 && b != 0) = true then wrap64 (wrap64 (Int.tdiv (a.natAbs : Int) (Int.gcd a b : Int)) * (b.natAbs : Int)) else 0) := by
  unfold impl_Lcm.f
  rw [isSmall_eq, isSmall_eq]
  cases ha : smB a
  · simp
  · cases hb : smB b
    · simp
    · have ha' := smB_iff.1 ha
      have hb' := smB_iff.1 hb
      by_cases ha0 : a = 0
      · simp [ha0]
      · by_cases hb0 : b = 0
        · simp [hb0]
        · have hg : ¬ ((Int.gcd a b : Int) = 0) := by
            intro h
            have h' : Int.gcd a b = 0 := by omega
            exact ha0 (Int.gcd_eq_zero_iff.1 h').1
          have haa : (a != 0) = true := by simp [ha0]
          have hbn : (b != 0) = true := by simp [hb0]
          simp only [Option.bind_some, if_true, if_neg ha0, if_neg hb0, haa, hbn, Bool.and_self]
          rw [gcdImpl_eq k a b (by omega) (by omega) (by omega) (by omega) hk]
          simp only [Option.bind_some]
          rw [if_neg hg, mx_abs (by omega) (by omega), mx_abs (by omega) (by omega)]
end AFnExactLcm
open AFnExactLcm

theorem FnExactLcm : laws_FnExactLcm.Pure := by
  intro a b _ _
  refine ⟨b.natAbs + 3, ?_⟩
  unfold laws_FnExactLcm.f
  rw [LcmSpec_eq _ a b (Nat.le_refl _), LcmImpl_eq _ a b (by omega)]
  simp

end Go.Proofs.Ytgjnjimlaipjcaa.Pure
