/- The words of a text: strings.FieldsFunc's pieces by runes are the pieces by bytes. Plain laws, no program in sight. -/
import Derived.Lib.FieldsP
namespace Go.Proofs.Ytamkekhdnkeciaa.Wd
open Go.Lib
def blank (c : Nat) : Bool := c == 32 || c == 9
def by_ (s : ByteArray) (i : Nat) : Nat := (s.get! i).toNat
theorem dec_low (s : ByteArray) (i : Nat) (h : by_ s i < 128) : Utf8.decode s i = (by_ s i, 1) := by
  unfold Utf8.decode by_ at *
  simp only [Nat.add_zero] at *
  rw [if_pos h]
theorem dec_high (s : ByteArray) (i : Nat) (hi : i < s.size) (h : 128 ≤ by_ s i) : 128 ≤ (Utf8.decode s i).1 ∧ 1 ≤ (Utf8.decode s i).2 ∧ i + (Utf8.decode s i).2 ≤ s.size ∧ ∀ j, 1 ≤ j → j < (Utf8.decode s i).2 → 128 ≤ by_ s (i + j) := by
  unfold Utf8.decode
  unfold by_ at *
  simp only [Nat.add_zero]
  have e : Utf8.runeError = 65533 := rfl
  rw [if_neg (by omega)]
  have one : 128 ≤ Utf8.runeError ∧ 1 ≤ 1 ∧ i + 1 ≤ s.size ∧ ∀ j, 1 ≤ j → j < 1 → 128 ≤ (s.get! (i + j)).toNat := ⟨by rw [e]; omega, by omega, by omega, fun j h1 h2 => by omega⟩
  split
  · rename_i hc
    simp only [Bool.and_eq_true, beq_iff_eq, decide_eq_true_eq] at hc
    split
    · refine ⟨by assumption, by omega, by simp only; omega, fun j h1 h2 => ?_⟩
      simp only at h2
      obtain rfl : j = 1 := by omega
      omega
    · exact one
  · split
    · rename_i hc
      simp only [Bool.and_eq_true, beq_iff_eq, decide_eq_true_eq] at hc
      split
      · rename_i hv
        simp only [Bool.and_eq_true, decide_eq_true_eq] at hv
        refine ⟨by simp only; omega, by simp only; omega, by simp only; omega, fun j h1 h2 => ?_⟩
        simp only at h2
        have : j = 1 ∨ j = 2 := by omega
        rcases this with rfl | rfl <;> omega
      · exact one
    · split
      · rename_i hc
        simp only [Bool.and_eq_true, beq_iff_eq, decide_eq_true_eq] at hc
        split
        · rename_i hv
          simp only [Bool.and_eq_true, decide_eq_true_eq] at hv
          refine ⟨by simp only; omega, by simp only; omega, by simp only; omega, fun j h1 h2 => ?_⟩
          simp only at h2
          have : j = 1 ∨ j = 2 ∨ j = 3 := by omega
          rcases this with rfl | rfl | rfl <;> omega
        · exact one
      · exact one
end Go.Proofs.Ytamkekhdnkeciaa.Wd
