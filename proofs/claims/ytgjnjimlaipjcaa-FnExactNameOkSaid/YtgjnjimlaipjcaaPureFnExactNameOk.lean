/- NameOk answers as the reference at any text. -/
import Derived.Test.YtgjnjimlaipjcaaPFnExactNameOkx1
namespace Go.Proofs.Ytgjnjimlaipjcaa.Pure
open Go.RowKit Go.Proofs.Ytgjnjimlaipjcaa.PFnExactNameOk Go.Proofs.YtgjnjimlaipjcaaW.PrintWords Go.Proofs.YtgjnjimlaipjcaaW.PrintLast
namespace AFnExactNameOk

theorem wr {x : Int} (h1 : -9223372036854775808 ≤ x) (h2 : x ≤ 9223372036854775807) : wrap64 x = x := by
  unfold wrap64; omega

def letB (c : Int) : Bool := decide ((97 ≤ c ∧ c ≤ 122) ∨ (65 ≤ c ∧ c ≤ 90))
def digB (c : Int) : Bool := decide (48 ≤ c ∧ c ≤ 57)
theorem letS {c : Int} (h0 : 0 ≤ c) (h1 : c ≤ 255) : spec_l01Letter.f c = some (letB c) := by
  unfold spec_l01Letter.f spec_l01In.f letB
  rw [wr (by omega) (by omega)]
  by_cases h : 97 ≤ c
  · by_cases h' : c ≤ 122
    · simp [h, h']
    · have : ¬ c ≤ 90 := by omega
      simp [h, h', this]
  · by_cases h' : 65 ≤ c
    · simp [h, h']
    · simp [h, h']
theorem digS {c : Int} (h0 : 0 ≤ c) (h1 : c ≤ 255) : spec_l01Digit.f c = some (digB c) := by
  unfold spec_l01Digit.f spec_l01In.f digB
  rw [wr (by omega) (by omega)]
  by_cases h : 48 ≤ c <;> simp [h]
theorem lettI (c : Int) : impl_isLetter.f c = some (letB c) := by
  unfold impl_isLetter.f letB
  by_cases h : 65 ≤ c
  · by_cases h' : c ≤ 90
    · simp [h, h']
    · by_cases h'' : 97 ≤ c <;> simp [h, h', h'']
  · by_cases h'' : 97 ≤ c
    · omega
    · simp [h, h'']
theorem diggI (c : Int) : impl_isDigit.f c = some (digB c) := by
  unfold impl_isDigit.f digB
  by_cases h : 48 ≤ c <;> simp [h]
/-- from a place on: nothing but letters, digits and underscores -/
def restB (s : ByteArray) (i : Nat) : Nat → Bool
  | 0 => true
  | d + 1 => (letB (bt s i) || digB (bt s i) || decide (bt s i = 95)) && restB s (i + 1) d
theorem restS (s : ByteArray) (hn : s.size ≤ 140737488351232) (d : Nat) : ∀ (k i : Nat), i + d = s.size → d < k → spec_NameOk.l0 k s (i : Int) = some (restB s i d) := by
  induction d with
  | zero =>
    intro k i hi hk
    obtain ⟨k, rfl⟩ : ∃ m, k = m + 1 := ⟨k - 1, by omega⟩
    simp only [spec_NameOk.l0, restB]
    rw [if_neg (by omega)]
  | succ d ih =>
    intro k i hi hk
    obtain ⟨k, rfl⟩ : ∃ m, k = m + 1 := ⟨k - 1, by omega⟩
    have hb := bt_range s i
    simp only [spec_NameOk.l0, restB]
    rw [if_pos (by omega), if_pos (by omega), letS hb.1 hb.2, digS hb.1 hb.2, wr (by omega) (by omega)]
    have e := ih k (i + 1) (by omega) (by omega)
    rw [Int.natCast_add] at e
    have e' : spec_NameOk.l0 k s ((i : Int) + 1) = some (restB s (i + 1) d) := e
    simp only [Option.bind_some, e']
    cases letB (bt s i) <;> cases digB (bt s i) <;> by_cases h : bt s i = 95 <;> simp [h]
theorem restI (s : ByteArray) (hn : s.size ≤ 140737488351232) (d : Nat) : ∀ (k i : Nat), i + d = s.size → d < k → impl_isName.l0 k s (s.size : Int) (i : Int) = some (restB s i d) := by
  induction d with
  | zero =>
    intro k i hi hk
    obtain ⟨k, rfl⟩ : ∃ m, k = m + 1 := ⟨k - 1, by omega⟩
    simp only [impl_isName.l0, restB]
    rw [if_neg (by omega)]
  | succ d ih =>
    intro k i hi hk
    obtain ⟨k, rfl⟩ : ∃ m, k = m + 1 := ⟨k - 1, by omega⟩
    simp only [impl_isName.l0, restB]
    rw [if_pos (by omega), if_pos (by omega), if_pos (by omega), lettI, diggI, wr (by omega) (by omega)]
    have e := ih k (i + 1) (by omega) (by omega)
    rw [Int.natCast_add] at e
    have e' : impl_isName.l0 k s (s.size : Int) ((i : Int) + 1) = some (restB s (i + 1) d) := e
    simp only [Option.bind_some, e']
    cases letB (bt s i) <;> cases digB (bt s i) <;> by_cases h : bt s i = 95 <;> simp [h]
def nameB (s : ByteArray) : Bool := decide (1 ≤ s.size ∧ s.size ≤ 12) && letB (bt s 0) && restB s 0 s.size
theorem nameS (s : ByteArray) (hn : s.size ≤ 140737488351232) (k : Nat) (hk : s.size + 2 ≤ k) : spec_NameOk.f k s = some (nameB s) := by
  obtain ⟨k, rfl⟩ : ∃ m, k = m + 1 := ⟨k - 1, by omega⟩
  have hb := bt_range s 0
  have e := restS s hn s.size k 0 (by omega) (by omega)
  have e' : spec_NameOk.l0 k s 0 = some (restB s 0 s.size) := e
  unfold spec_NameOk.f spec_l01In.f nameB
  by_cases h1 : 1 ≤ s.size
  · by_cases h2 : s.size ≤ 12
    · have h3 : (s.size : Int) ≤ 12 := by omega
      rw [if_pos (by omega)]
      simp only [h1, h2, h3, and_self, decide_true, Option.bind_some, if_true]
      rw [if_pos (by omega), letS hb.1 hb.2]
      simp only [Option.bind_some, spec_NameOk.j0, e']
      cases letB (bt s 0) <;> simp
    · have h3 : ¬ (s.size : Int) ≤ 12 := by omega
      rw [if_pos (by omega)]
      simp [h2, h3, spec_NameOk.j0]
  · rw [if_neg (by omega)]
    simp [h1, spec_NameOk.j0]
theorem nameI (s : ByteArray) (hn : s.size ≤ 140737488351232) (k : Nat) (hk : s.size + 2 ≤ k) : impl_isName.f k s = some (nameB s) := by
  obtain ⟨k, rfl⟩ : ∃ m, k = m + 1 := ⟨k - 1, by omega⟩
  have e := restI s hn s.size k 0 (by omega) (by omega)
  have e' : impl_isName.l0 k s (s.size : Int) 0 = some (restB s 0 s.size) := e
  unfold impl_isName.f nameB
  by_cases h1 : 1 ≤ s.size
  · by_cases h2 : s.size ≤ 12
    · rw [if_neg (by omega), if_neg (by omega), if_pos (by omega), lettI]
      simp only [h1, h2, and_self, decide_true, Option.bind_some, impl_isName.j0, e']
      cases letB (bt s 0) <;> simp
    · rw [if_neg (by omega), if_pos (by omega)]
      simp [h2, impl_isName.j0]
  · rw [if_pos (by omega)]
    simp [h1, impl_isName.j0]
end AFnExactNameOk
open AFnExactNameOk

theorem FnExactNameOk : laws_FnExactNameOk.Pure := by
  intro s hn
  refine ⟨s.size + 2, ?_⟩
  unfold laws_FnExactNameOk.f impl_NameOk.f
  rw [nameS s hn _ (Nat.le_refl _), nameI s hn _ (Nat.le_refl _)]
  simp

end Go.Proofs.Ytgjnjimlaipjcaa.Pure
