/- PartOk answers as the reference at every part. -/
import Derived.Test.YtgjnjimlaipjcaaPFnExactPartOkx2
namespace Go.Proofs.Ytgjnjimlaipjcaa.Pure
open Go.RowKit Go.Proofs.Ytgjnjimlaipjcaa.PFnExactPartOk Go.Proofs.YtgjnjimlaipjcaaW.PrintWords Go.Proofs.YtgjnjimlaipjcaaW.PrintLast
namespace AFnExactPartOk

theorem wr {x : Int} (h1 : -9223372036854775808 ≤ x) (h2 : x ≤ 9223372036854775807) : wrap64 x = x := by
  unfold wrap64; omega

def smB (n : Int) : Bool := decide (-1000000000 ≤ n ∧ n ≤ 1000000000)
theorem smB_iff {n : Int} : smB n = true ↔ -1000000000 ≤ n ∧ n ≤ 1000000000 := by unfold smB; simp

theorem gcd_step (a b : Int) : (Int.gcd b (Int.tmod a b) : Int) = Int.gcd a b := by
  unfold Int.gcd
  rw [Int.natAbs_tmod, Nat.gcd_comm, ← Nat.gcd_rec, Nat.gcd_comm]
theorem gcd_nought (a : Int) : (Int.gcd a 0 : Int) = if a < 0 then -a else a := by
  rw [Int.gcd_zero_right]; split <;> omega

theorem small_eq (n : Int) : spec_l01Small.f n = some (smB n) := by
  unfold spec_l01Small.f spec_l01In.f smB
  by_cases h : -1000000000 ≤ n
  · rw [if_pos h]; simp [h]
  · rw [if_neg h]; simp [h]
theorem abs_eq {n : Int} (h : -9223372036854775808 < n) (h2 : n ≤ 9223372036854775807) : spec_l01Abs.f n = some (n.natAbs : Int) := by
  unfold spec_l01Abs.f
  split
  · rw [wr (by omega) (by omega)]; congr 1; omega
  · congr 1; omega
theorem gcdSpec_loop (d : Nat) : ∀ (k : Nat) (a b : Int), 0 ≤ a → 0 ≤ b → b.toNat ≤ d → d < k → spec_Gcd.l0 k a b = some (Int.gcd a b : Int) := by
  induction d with
  | zero =>
    intro k a b ha hb hd hk
    obtain ⟨k, rfl⟩ : ∃ m, k = m + 1 := ⟨k - 1, by omega⟩
    obtain rfl : b = 0 := by omega
    simp only [spec_Gcd.l0]
    rw [if_neg (by omega), gcd_nought, if_neg (by omega)]
  | succ d ih =>
    intro k a b ha hb hd hk
    obtain ⟨k, rfl⟩ : ∃ m, k = m + 1 := ⟨k - 1, by omega⟩
    simp only [spec_Gcd.l0]
    by_cases hz : b = 0
    · subst hz
      rw [if_neg (by omega), gcd_nought, if_neg (by omega)]
    · rw [if_pos (by omega), if_neg hz]
      have h1 : Int.tmod a b = a % b := Int.tmod_eq_emod_of_nonneg ha
      have h2 : 0 ≤ a % b := Int.emod_nonneg _ hz
      have h3 : a % b < b := Int.emod_lt_of_pos _ (by omega)
      rw [ih k b _ hb (by omega) (by omega) (by omega), gcd_step]
theorem gcdSpec_eq (k : Nat) (a b : Int) (hk : b.natAbs + 2 ≤ k) : spec_Gcd.f k a b = some (if (smB a && smB b) = true then (Int.gcd a b : Int) else 0) := by
  obtain ⟨k, rfl⟩ : ∃ m, k = m + 1 := ⟨k - 1, by omega⟩
  unfold spec_Gcd.f
  rw [small_eq, small_eq]
  cases ha : smB a
  · simp [spec_Gcd.j0]
  · cases hb : smB b
    · simp [spec_Gcd.j0]
    · have ha := smB_iff.1 ha
      have hb := smB_iff.1 hb
      simp only [Option.bind_some, if_true, Bool.not_true, Bool.and_self, spec_Gcd.j0, Bool.false_eq_true, if_false]
      rw [abs_eq (by omega) (by omega), abs_eq (by omega) (by omega)]
      simp only [Option.bind_some]
      rw [gcdSpec_loop b.natAbs k _ _ (by omega) (by omega) (by omega) (by omega)]
      simp [Int.gcd]

theorem mx_abs {a : Int} (h : -9223372036854775808 < a) (h2 : a ≤ 9223372036854775807) : mx a (wrap64 (-a)) = (a.natAbs : Int) := by
  rw [wr (by omega) (by omega)]; unfold mx; split <;> omega
theorem gcdImpl_loop (d : Nat) : ∀ (k : Nat) (a b : Int), -9223372036854775808 < a → a ≤ 9223372036854775807 → -9223372036854775808 < b → b ≤ 9223372036854775807 → b.natAbs ≤ d → d < k → impl_gcd.l0 k a b = some (Int.gcd a b : Int) := by
  induction d with
  | zero =>
    intro k a b ha ha' hb hb' hd hk
    obtain ⟨k, rfl⟩ : ∃ m, k = m + 1 := ⟨k - 1, by omega⟩
    have hz : b = 0 := by omega
    simp only [impl_gcd.l0]
    rw [if_pos hz, mx_abs ha ha', hz, Int.gcd_zero_right]
  | succ d ih =>
    intro k a b ha ha' hb hb' hd hk
    obtain ⟨k, rfl⟩ : ∃ m, k = m + 1 := ⟨k - 1, by omega⟩
    simp only [impl_gcd.l0]
    by_cases hz : b = 0
    · rw [if_pos hz, mx_abs ha ha', hz, Int.gcd_zero_right]
    · rw [if_neg hz]
      have h1 : (Int.tmod a b).natAbs = a.natAbs % b.natAbs := Int.natAbs_tmod a b
      have h2 : a.natAbs % b.natAbs < b.natAbs := Nat.mod_lt _ (by omega)
      rw [ih k b _ hb hb' (by omega) (by omega) (by omega) (by omega), gcd_step]
theorem gcdImpl_eq (k : Nat) (a b : Int) (ha : -9223372036854775808 < a) (ha' : a ≤ 9223372036854775807) (hb : -9223372036854775808 < b) (hb' : b ≤ 9223372036854775807) (hk : b.natAbs + 1 ≤ k) : impl_gcd.f k a b = some (Int.gcd a b : Int) :=
  gcdImpl_loop b.natAbs k a b ha ha' hb hb' (Nat.le_refl _) (by omega)

def letB (c : Int) : Bool := decide ((97 ≤ c ∧ c ≤ 122) ∨ (65 ≤ c ∧ c ≤ 90))
def digB (c : Int) : Bool := decide (48 ≤ c ∧ c ≤ 57)
theorem letS {c : Int} (h0 : 0 ≤ c) (h1 : c ≤ 255) : spec_l01Letter.f c = some (letB c) := by
  unfold spec_l01Letter.f spec_l01In.f letB
  rw [wr (by omega) (by omega)]
  by_cases h : 97 ≤ c
  · by_cases h' : c ≤ 122
    · simp [h, h']
    · have : ¬ c ≤ 90 := by omega
      simp [h, h', this]
  · by_cases h' : 65 ≤ c
    · simp [h, h']
    · simp [h, h']
theorem digS {c : Int} (h0 : 0 ≤ c) (h1 : c ≤ 255) : spec_l01Digit.f c = some (digB c) := by
  unfold spec_l01Digit.f spec_l01In.f digB
  rw [wr (by omega) (by omega)]
  by_cases h : 48 ≤ c <;> simp [h]
theorem lettI (c : Int) : impl_isLetter.f c = some (letB c) := by
  unfold impl_isLetter.f letB
  by_cases h : 65 ≤ c
  · by_cases h' : c ≤ 90
    · simp [h, h']
    · by_cases h'' : 97 ≤ c <;> simp [h, h', h'']
  · by_cases h'' : 97 ≤ c
    · omega
    · simp [h, h'']
theorem diggI (c : Int) : impl_isDigit.f c = some (digB c) := by
  unfold impl_isDigit.f digB
  by_cases h : 48 ≤ c <;> simp [h]
/-- from a place on: nothing but letters, digits and underscores -/
def restB (s : ByteArray) (i : Nat) : Nat → Bool
  | 0 => true
  | d + 1 => (letB (bt s i) || digB (bt s i) || decide (bt s i = 95)) && restB s (i + 1) d
theorem restS (s : ByteArray) (hn : s.size ≤ 140737488351232) (d : Nat) : ∀ (k i : Nat), i + d = s.size → d < k → spec_NameOk.l0 k s (i : Int) = some (restB s i d) := by
  induction d with
  | zero =>
    intro k i hi hk
    obtain ⟨k, rfl⟩ : ∃ m, k = m + 1 := ⟨k - 1, by omega⟩
    simp only [spec_NameOk.l0, restB]
    rw [if_neg (by omega)]
  | succ d ih =>
    intro k i hi hk
    obtain ⟨k, rfl⟩ : ∃ m, k = m + 1 := ⟨k - 1, by omega⟩
    have hb := bt_range s i
    simp only [spec_NameOk.l0, restB]
    rw [if_pos (by omega), if_pos (by omega), letS hb.1 hb.2, digS hb.1 hb.2, wr (by omega) (by omega)]
    have e := ih k (i + 1) (by omega) (by omega)
    rw [Int.natCast_add] at e
    have e' : spec_NameOk.l0 k s ((i : Int) + 1) = some (restB s (i + 1) d) := e
    simp only [Option.bind_some, e']
    cases letB (bt s i) <;> cases digB (bt s i) <;> by_cases h : bt s i = 95 <;> simp [h]
theorem restI (s : ByteArray) (hn : s.size ≤ 140737488351232) (d : Nat) : ∀ (k i : Nat), i + d = s.size → d < k → impl_isName.l0 k s (s.size : Int) (i : Int) = some (restB s i d) := by
  induction d with
  | zero =>
    intro k i hi hk
    obtain ⟨k, rfl⟩ : ∃ m, k = m + 1 := ⟨k - 1, by omega⟩
    simp only [impl_isName.l0, restB]
    rw [if_neg (by omega)]
  | succ d ih =>
    intro k i hi hk
    obtain ⟨k, rfl⟩ : ∃ m, k = m + 1 := ⟨k - 1, by omega⟩
    simp only [impl_isName.l0, restB]
    rw [if_pos (by omega), if_pos (by omega), if_pos (by omega), lettI, diggI, wr (by omega) (by omega)]
    have e := ih k (i + 1) (by omega) (by omega)
    rw [Int.natCast_add] at e
    have e' : impl_isName.l0 k s (s.size : Int) ((i : Int) + 1) = some (restB s (i + 1) d) := e
    simp only [Option.bind_some, e']
    cases letB (bt s i) <;> cases digB (bt s i) <;> by_cases h : bt s i = 95 <;> simp [h]
def nameB (s : ByteArray) : Bool := decide (1 ≤ s.size ∧ s.size ≤ 12) && letB (bt s 0) && restB s 0 s.size
theorem nameS (s : ByteArray) (hn : s.size ≤ 140737488351232) (k : Nat) (hk : s.size + 2 ≤ k) : spec_NameOk.f k s = some (nameB s) := by
  obtain ⟨k, rfl⟩ : ∃ m, k = m + 1 := ⟨k - 1, by omega⟩
  have hb := bt_range s 0
  have e := restS s hn s.size k 0 (by omega) (by omega)
  have e' : spec_NameOk.l0 k s 0 = some (restB s 0 s.size) := e
  unfold spec_NameOk.f spec_l01In.f nameB
  by_cases h1 : 1 ≤ s.size
  · by_cases h2 : s.size ≤ 12
    · have h3 : (s.size : Int) ≤ 12 := by omega
      rw [if_pos (by omega)]
      simp only [h1, h2, h3, and_self, decide_true, Option.bind_some, if_true]
      rw [if_pos (by omega), letS hb.1 hb.2]
      simp only [Option.bind_some, spec_NameOk.j0, e']
      cases letB (bt s 0) <;> simp
    · have h3 : ¬ (s.size : Int) ≤ 12 := by omega
      rw [if_pos (by omega)]
      simp [h2, h3, spec_NameOk.j0]
  · rw [if_neg (by omega)]
    simp [h1, spec_NameOk.j0]
theorem nameI (s : ByteArray) (hn : s.size ≤ 140737488351232) (k : Nat) (hk : s.size + 2 ≤ k) : impl_isName.f k s = some (nameB s) := by
  obtain ⟨k, rfl⟩ : ∃ m, k = m + 1 := ⟨k - 1, by omega⟩
  have e := restI s hn s.size k 0 (by omega) (by omega)
  have e' : impl_isName.l0 k s (s.size : Int) 0 = some (restB s 0 s.size) := e
  unfold impl_isName.f nameB
  by_cases h1 : 1 ≤ s.size
  · by_cases h2 : s.size ≤ 12
    · rw [if_neg (by omega), if_neg (by omega), if_pos (by omega), lettI]
      simp only [h1, h2, and_self, decide_true, Option.bind_some, impl_isName.j0, e']
      cases letB (bt s 0) <;> simp
    · rw [if_neg (by omega), if_pos (by omega)]
      simp [h2, impl_isName.j0]
  · rw [if_pos (by omega)]
    simp [h1, impl_isName.j0]
end AFnExactPartOk
open AFnExactPartOk

theorem power_eq (k : Nat) (p q : Int) (hk : 30 ≤ k) : ∃ r, spec_l06Power.f k p q = some r ∧ impl_isPower.f k p q = some r := by
  unfold spec_l06Power.f spec_l01In.f impl_isPower.f
  by_cases h1 : -12 ≤ p
  · by_cases h2 : p ≤ 12
    · by_cases h3 : 1 ≤ q
      · by_cases h4 : q ≤ 12
        · have ha : smB p = true := smB_iff.2 ⟨by omega, by omega⟩
          have hb : smB q = true := smB_iff.2 ⟨by omega, by omega⟩
          rw [gcdSpec_eq k p q (by omega), gcdImpl_eq k p q (by omega) (by omega) (by omega) (by omega) (by omega), ha, hb]
          simp only [ge_iff_le, if_pos h1, h2, if_pos h3, h4, decide_true, Option.bind_some, if_true, Bool.and_self]
          exact ⟨_, rfl, rfl⟩
        · simp only [ge_iff_le, if_pos h1, h2, if_pos h3, h4, decide_true, decide_false, Option.bind_some, if_true, Bool.false_eq_true, if_false]
          exact ⟨_, rfl, rfl⟩
      · simp only [ge_iff_le, if_pos h1, h2, if_neg h3, decide_true, Option.bind_some, if_true, Bool.false_eq_true, if_false]
        exact ⟨_, rfl, rfl⟩
    · simp only [ge_iff_le, if_pos h1, h2, decide_false, Option.bind_some, Bool.false_eq_true, if_false]
      exact ⟨_, rfl, rfl⟩
  · simp only [ge_iff_le, if_neg h1, Option.bind_some, Bool.false_eq_true, if_false]
    exact ⟨_, rfl, rfl⟩
theorem FnExactPartOk (s : ByteArray) (p q : Int) (hm : s.size ≤ maxLen) : ∃ k, laws_FnExactPartOk.f k s p q = some true := by
  refine ⟨s.size + 40, ?_⟩
  unfold maxLen at hm
  unfold laws_FnExactPartOk.f laws_szPart.f
  rw [wr (x := 1048576 - (s.size : Int)) (by omega) (by omega)]
  by_cases h : (1048576 - (s.size : Int)) < 0
  · simp only [if_pos h, Option.bind_some]
    rw [if_pos (by decide)]
  · simp only [if_neg h, Option.bind_some]
    obtain ⟨r, e1, e2⟩ := power_eq (s.size + 40) p q (by omega)
    have n1 := nameS s (by omega) (s.size + 40) (by omega)
    have n2 := nameI s (by omega) (s.size + 40) (by omega)
    unfold laws_toPart.f spec_PartOk.f impl_PartOk.f impl_isPart.f
    simp only [n1, n2, e1, e2, Option.bind_some]
    cases nameB s <;> simp
theorem partOk_walk (s : ByteArray) (p q : Int) (w : World) (hm : s.size ≤ maxLen) (_ : (Lit.int .i64 p).wf = true) (_ : (Lit.int .i64 q).wf = true) :
    Calls Try.prog 13 #[.agg #[.string s, .int .i64 p, .int .i64 q]] w fun e w' => e = .returned (.bool true) ∧ Below w.heap.size w w' := by
  obtain ⟨k, h⟩ := FnExactPartOk s p q hm
  exact laws_FnExactPartOk.calls k s p q true w h

end Go.Proofs.Ytgjnjimlaipjcaa.Pure
