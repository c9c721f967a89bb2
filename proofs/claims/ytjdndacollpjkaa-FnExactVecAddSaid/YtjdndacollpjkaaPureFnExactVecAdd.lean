/- VecAdd answers as the reference at every two vectors, in memory of its own, and leaves its arguments. -/
import Derived.Test.YtjdndacollpjkaaMFnExactVecAddx7
namespace Go.Proofs.Ytjdndacollpjkaa.Pure
set_option linter.unusedVariables false
set_option linter.unusedSimpArgs false
open Go.RowKit Go.Proofs.Ytjdndacollpjkaa.MFnExactVecAdd Go.Proofs.YtjdndacollpjkaaW.PrintWords Go.Proofs.YtjdndacollpjkaaW.PrintLast
namespace AFnExactVecAdd

theorem wr {x : Int} (h1 : -9223372036854775808 ≤ x) (h2 : x ≤ 9223372036854775807) : wrap64 x = x := by
  unfold wrap64; omega

def smB (n : Int) : Bool := decide (-1000000000 ≤ n ∧ n ≤ 1000000000)
theorem smB_iff {n : Int} : smB n = true ↔ -1000000000 ≤ n ∧ n ≤ 1000000000 := by unfold smB; simp

theorem gcd_step (a b : Int) : (Int.gcd b (Int.tmod a b) : Int) = Int.gcd a b := by
  unfold Int.gcd
  rw [Int.natAbs_tmod, Nat.gcd_comm, ← Nat.gcd_rec, Nat.gcd_comm]
theorem gcd_nought (a : Int) : (Int.gcd a 0 : Int) = if a < 0 then -a else a := by
  rw [Int.gcd_zero_right]; split <;> omega

theorem small_eq (n : Int) : spec_l01Small.f n = some (smB n) := by
  unfold spec_l01Small.f spec_l01In.f smB
  by_cases h : -1000000000 ≤ n
  · rw [if_pos h]; simp [h]
  · rw [if_neg h]; simp [h]
theorem abs_eq {n : Int} (h : -9223372036854775808 < n) (h2 : n ≤ 9223372036854775807) : spec_l01Abs.f n = some (n.natAbs : Int) := by
  unfold spec_l01Abs.f
  split
  · rw [wr (by omega) (by omega)]; congr 1; omega
  · congr 1; omega
theorem gcdSpec_loop (d : Nat) : ∀ (k : Nat) (a b : Int), 0 ≤ a → 0 ≤ b → b.toNat ≤ d → d < k → spec_Gcd.l0 k a b = some (Int.gcd a b : Int) := by
  induction d with
  | zero =>
    intro k a b ha hb hd hk
    obtain ⟨k, rfl⟩ : ∃ m, k = m + 1 := ⟨k - 1, by omega⟩
    obtain rfl : b = 0 := by omega
    simp only [spec_Gcd.l0]
    rw [if_neg (by omega), gcd_nought, if_neg (by omega)]
  | succ d ih =>
    intro k a b ha hb hd hk
    obtain ⟨k, rfl⟩ : ∃ m, k = m + 1 := ⟨k - 1, by omega⟩
    simp only [spec_Gcd.l0]
    by_cases hz : b = 0
    · subst hz
      rw [if_neg (by omega), gcd_nought, if_neg (by omega)]
    · rw [if_pos (by omega), if_neg hz]
      have h1 : Int.tmod a b = a % b := Int.tmod_eq_emod_of_nonneg ha
      have h2 : 0 ≤ a % b := Int.emod_nonneg _ hz
      have h3 : a % b < b := Int.emod_lt_of_pos _ (by omega)
      rw [ih k b _ hb (by omega) (by omega) (by omega), gcd_step]
theorem gcdSpec_eq (k : Nat) (a b : Int) (hk : b.natAbs + 2 ≤ k) : spec_Gcd.f k a b = some (if (smB a && smB b) = true then (Int.gcd a b : Int) else 0) := by
  obtain ⟨k, rfl⟩ : ∃ m, k = m + 1 := ⟨k - 1, by omega⟩
  unfold spec_Gcd.f
  rw [small_eq, small_eq]
  cases ha : smB a
  · simp [spec_Gcd.j0]
  · cases hb : smB b
    · simp [spec_Gcd.j0]
    · have ha := smB_iff.1 ha
      have hb := smB_iff.1 hb
      simp only [Option.bind_some, if_true, Bool.not_true, Bool.and_self, spec_Gcd.j0, Bool.false_eq_true, if_false]
      rw [abs_eq (by omega) (by omega), abs_eq (by omega) (by omega)]
      simp only [Option.bind_some]
      rw [gcdSpec_loop b.natAbs k _ _ (by omega) (by omega) (by omega) (by omega)]
      simp [Int.gcd]

theorem rd_at {xs : List Int} {i : Nat} (h : i < xs.length) : rd xs (i : Int) = xs[i] := by
  unfold rd; simp [List.getD, List.getElem?_eq_getElem h]
theorem eqIntS_loop (xs ys : List Int) (hl : xs.length = ys.length) (hn : xs.length ≤ 1152921504606846976) (d : Nat) : ∀ (k i : Nat), i + d = xs.length → d < k →
    laws_eqIntS.l0 k xs ys (i : Int) = some (decide (xs.drop i = ys.drop i)) := by
  induction d with
  | zero =>
    intro k i hi hk
    obtain ⟨k, rfl⟩ : ∃ m, k = m + 1 := ⟨k - 1, by omega⟩
    simp only [laws_eqIntS.l0]
    rw [if_neg (by omega), List.drop_eq_nil_of_le (by omega), List.drop_eq_nil_of_le (by omega)]
    simp
  | succ d ih =>
    intro k i hi hk
    obtain ⟨k, rfl⟩ : ∃ m, k = m + 1 := ⟨k - 1, by omega⟩
    have hx : i < xs.length := by omega
    have hy : i < ys.length := by omega
    have e := ih k (i + 1) (by omega) (by omega)
    rw [Int.natCast_add] at e
    have e' : laws_eqIntS.l0 k xs ys ((i : Int) + 1) = _ := e
    simp only [laws_eqIntS.l0]
    rw [if_pos (by omega), if_pos (by omega), if_pos (by omega), rd_at hx, rd_at hy, wr (by omega) (by omega), e', List.drop_eq_getElem_cons hx, List.drop_eq_getElem_cons hy]
    by_cases h : xs[i] = ys[i]
    · rw [if_pos h, h]; simp only [List.cons.injEq, true_and]
    · rw [if_neg h]; simp only [List.cons.injEq, h, false_and, decide_false]
theorem eqIntS_eq (k : Nat) (xs ys : List Int) (hn : xs.length ≤ 1152921504606846976) (hk : xs.length < k) : laws_eqIntS.f k xs ys = some (decide (xs = ys)) := by
  unfold laws_eqIntS.f
  by_cases h : xs.length = ys.length
  · rw [if_pos (by omega)]
    have e := eqIntS_loop xs ys h hn xs.length k 0 (by omega) hk
    have e' : laws_eqIntS.l0 k xs ys 0 = _ := e
    rw [e']; simp
  · rw [if_neg (by omega)]
    have : ¬ xs = ys := fun e => h (by rw [e])
    simp [this]

/-- a, a + 1, .. -/
def marks (a : Int) : Nat → List Int
  | 0 => []
  | n + 1 => a :: marks (a + 1) n
theorem marks_length (n : Nat) : ∀ a, (marks a n).length = n := by
  induction n with
  | zero => intro a; rfl
  | succ n ih => intro a; simp [marks, ih]
theorem markIntS_loop (d : Nat) : ∀ (k i : Nat) (xs : List Int) (a : Int), 0 ≤ a → a + d ≤ 9223372036854775807 → i + d = xs.length → xs.length ≤ 1152921504606846976 → d < k →
    laws_markIntS.l0 k xs a (i : Int) = some (a + (d : Int), xs.take i ++ marks a d) := by
  induction d with
  | zero =>
    intro k i xs a ha hb hi hn hk
    obtain ⟨k, rfl⟩ : ∃ m, k = m + 1 := ⟨k - 1, by omega⟩
    simp only [laws_markIntS.l0]
    rw [if_neg (by omega), List.take_of_length_le (by omega)]
    simp [marks]
  | succ d ih =>
    intro k i xs a ha hb hi hn hk
    obtain ⟨k, rfl⟩ : ∃ m, k = m + 1 := ⟨k - 1, by omega⟩
    simp only [laws_markIntS.l0]
    rw [if_pos (by omega), if_pos (by omega), wr (by omega) (by omega), wr (by omega) (by omega), Int.toNat_natCast]
    have e := ih k (i + 1) (xs.set i a) (a + 1) (by omega) (by omega) (by simp; omega) (by simp; omega) (by omega)
    rw [Int.natCast_add] at e
    have e' : laws_markIntS.l0 k (xs.set i a) (a + 1) ((i : Int) + 1) = _ := e
    have hs : i < (xs.set i a).length := by rw [List.length_set]; omega
    have ht : (xs.set i a).take (i + 1) = xs.take i ++ [a] := by
      rw [List.take_succ_eq_append_getElem hs, List.getElem_set_self, List.take_set_of_le (Nat.le_refl i)]
    rw [e', ht, List.append_assoc]
    simp only [marks, List.cons_append, List.nil_append, Option.some.injEq, Prod.mk.injEq]
    exact ⟨by omega, trivial⟩
theorem markIntS_eq (k : Nat) (xs : List Int) (hn : xs.length ≤ 1152921504606846976) (hk : xs.length < k) : laws_markIntS.f k xs 1 = some ((1 : Int) + (xs.length : Int), marks 1 xs.length) := by
  have e := markIntS_loop xs.length k 0 xs 1 (by omega) (by omega) (by omega) hn hk
  have e' : laws_markIntS.l0 k xs 1 0 = _ := e
  unfold laws_markIntS.f
  rw [e']; simp

theorem heldIntS_loop (d : Nat) : ∀ (k i : Nat) (xs : List Int) (a : Int), 0 ≤ a → a + d ≤ 9223372036854775807 → i + d = xs.length → xs.length ≤ 1152921504606846976 → xs.drop i = marks a d → d < k →
    laws_heldIntS.l0 k xs a (i : Int) = some (a + (d : Int)) := by
  induction d with
  | zero =>
    intro k i xs a ha hb hi hn hm hk
    obtain ⟨k, rfl⟩ : ∃ m, k = m + 1 := ⟨k - 1, by omega⟩
    simp only [laws_heldIntS.l0]
    rw [if_neg (by omega)]
    simp
  | succ d ih =>
    intro k i xs a ha hb hi hn hm hk
    obtain ⟨k, rfl⟩ : ∃ m, k = m + 1 := ⟨k - 1, by omega⟩
    have hx : i < xs.length := by omega
    rw [List.drop_eq_getElem_cons hx] at hm
    simp only [marks, List.cons.injEq] at hm
    have e := ih k (i + 1) xs (a + 1) (by omega) (by omega) (by omega) hn hm.2 (by omega)
    rw [Int.natCast_add] at e
    have e' : laws_heldIntS.l0 k xs (a + 1) ((i : Int) + 1) = _ := e
    simp only [laws_heldIntS.l0]
    rw [if_pos (by omega), if_pos (by omega), rd_at hx, if_pos hm.1, wr (by omega) (by omega), wr (by omega) (by omega), e']
    congr 1; omega
theorem heldIntS_eq (k n : Nat) (hn : n ≤ 1152921504606846976) (hk : n < k) : laws_heldIntS.f k (marks 1 n) 1 = some ((1 : Int) + (n : Int)) := by
  have e := heldIntS_loop n k 0 (marks 1 n) 1 (by omega) (by omega) (by rw [marks_length]; omega) (by rw [marks_length]; exact hn) rfl hk
  unfold laws_heldIntS.f
  exact e

theorem eqVec_eq (k : Nat) (a b : Int) (xs ys : List Int) (hn : xs.length ≤ 1152921504606846976) (hk : xs.length < k) : laws_eqVec.f k a xs b ys = some (decide (a = b ∧ xs = ys)) := by
  unfold laws_eqVec.f
  by_cases h : a = b
  · rw [if_pos h, eqIntS_eq k xs ys hn hk]
    by_cases h' : xs = ys <;> simp [h, h']
  · rw [if_neg h]; simp [h]
theorem markVec_eq (k : Nat) (d : Int) (xs : List Int) (hn : xs.length ≤ 1152921504606846976) (hk : xs.length < k) : laws_markVec.f k d xs 1 = some ((1 : Int) + (xs.length : Int), marks 1 xs.length) := by
  unfold laws_markVec.f
  rw [markIntS_eq k xs hn hk]; rfl
theorem heldVec_eq (k n : Nat) (d : Int) (hn : n ≤ 1152921504606846976) (hk : n < k) : laws_heldVec.f k d (marks 1 n) 1 = some ((1 : Int) + (n : Int)) := by
  unfold laws_heldVec.f
  rw [heldIntS_eq k n hn hk]
  simp only [Option.bind_some]
  rw [if_neg (by omega)]

theorem copy_loop_laws_toIntS (xs : List Int) (hn : xs.length ≤ 1152921504606846976) (d : Nat) : ∀ (k i : Nat) (ys : List Int), i + d = xs.length → ys.length = xs.length → ys.take i = xs.take i → d < k →
    laws_toIntS.l0 k xs ys (i : Int) = some xs := by
  induction d with
  | zero =>
    intro k i ys hi hl ht hk
    obtain ⟨k, rfl⟩ : ∃ m, k = m + 1 := ⟨k - 1, by omega⟩
    simp only [laws_toIntS.l0]
    rw [if_neg (by omega)]
    rw [List.take_of_length_le (by omega), List.take_of_length_le (by omega)] at ht
    rw [ht]
  | succ d ih =>
    intro k i ys hi hl ht hk
    obtain ⟨k, rfl⟩ : ∃ m, k = m + 1 := ⟨k - 1, by omega⟩
    have hx : i < xs.length := by omega
    simp only [laws_toIntS.l0]
    rw [if_pos (by omega), if_pos (by omega), if_pos (by omega), rd_at hx, wr (by omega) (by omega), Int.toNat_natCast]
    have hs : i < (ys.set i xs[i]).length := by rw [List.length_set]; omega
    have e := ih k (i + 1) (ys.set i xs[i]) (by omega) (by simp; omega) (by
      rw [List.take_succ_eq_append_getElem hs, List.getElem_set_self, List.take_set_of_le (Nat.le_refl i), ht, ← List.take_succ_eq_append_getElem hx]) (by omega)
    rw [Int.natCast_add] at e
    exact e
theorem copy_eq_laws_toIntS (k : Nat) (xs : List Int) (hn : xs.length ≤ 1152921504606846976) (hn2 : xs.length ≤ 35184372088832) (hk : xs.length < k) : laws_toIntS.f k xs = some xs := by
  unfold laws_toIntS.f
  rw [if_pos (by omega), if_pos (by omega)]
  have e := copy_loop_laws_toIntS xs hn xs.length k 0 (List.replicate ((xs.length : Int)).toNat 0) (by omega) (by simp) (by simp) hk
  exact e

theorem in_far (x : Int) : spec_l01In.f x (-100000) 100000 = some (!(hv_far x)) := by
  unfold spec_l01In.f hv_far
  by_cases h : -100000 ≤ x
  · rw [if_pos h]
    have : decide (x < -100000) = false := by simp; omega
    rw [this, Bool.false_or]
    congr 1
    by_cases h2 : x ≤ 100000
    · simp [h2]
    · simp [h2]; omega
  · rw [if_neg h]
    have : decide (x < -100000) = true := by simp; omega
    rw [this]; rfl
theorem far_not {x : Int} (h : hv_far x = false) : -100000 ≤ x ∧ x ≤ 100000 := by
  unfold hv_far at h; simp at h; omega
theorem gcd_le {g x M : Int} (h0 : 0 ≤ g) (h1 : g ≤ M) (hx : x.natAbs ≤ M.natAbs) (hM : 0 ≤ M) : (Int.gcd g x : Int) ≤ M := by
  by_cases hz : x = 0
  · rw [hz, Int.gcd_zero_right]; omega
  · have := Nat.le_of_dvd (by omega) (Nat.gcd_dvd_right g.natAbs x.natAbs)
    have e : Int.gcd g x = Nat.gcd g.natAbs x.natAbs := rfl
    omega
theorem vok_loop (l : List Int) (hl : l.length ≤ 1000000) (n : Nat) : ∀ (k i : Nat) (g d : Int), 0 ≤ g → g ≤ 100000 → i + n = l.length → n + 2000010 ≤ k →
    spec_VecOk.l0 k g (i : Int) d l = some (!((l.drop i).any hv_far) && decide (hv_common g (l.drop i) = 1)) := by
  induction n with
  | zero =>
    intro k i g d h0 h1 hi hk
    obtain ⟨k, rfl⟩ : ∃ m, k = m + 1 := ⟨k - 1, by omega⟩
    simp only [spec_VecOk.l0]
    rw [if_neg (by omega), List.drop_eq_nil_of_le (by omega)]
    have e : hv_common g [] = g := rfl
    have e2 : (g == 1) = decide (g = 1) := by rw [Bool.eq_iff_iff]; simp
    rw [e, e2]; rfl
  | succ n ih =>
    intro k i g d h0 h1 hi hk
    obtain ⟨k, rfl⟩ : ∃ m, k = m + 1 := ⟨k - 1, by omega⟩
    have hx : i < l.length := by omega
    simp only [spec_VecOk.l0]
    rw [if_pos (by omega), if_pos (by omega), rd_at hx, in_far, List.drop_eq_getElem_cons hx]
    simp only [Option.bind_some, List.any_cons]
    generalize hv : l[i] = x
    cases hf : hv_far x
    · obtain ⟨b1, b2⟩ := far_not hf
      have ha : smB g = true := smB_iff.2 ⟨by omega, by omega⟩
      have hb : smB x = true := smB_iff.2 ⟨by omega, by omega⟩
      simp only [Bool.not_false, if_true, Bool.false_or]
      rw [gcdSpec_eq k g x (by omega), ha, hb]
      simp only [Bool.and_self, if_true, Option.bind_some]
      rw [wr (by omega) (by omega)]
      have e := ih k (i + 1) (Int.gcd g x : Int) d (by omega) (gcd_le h0 h1 (by omega) (by omega)) (by omega) (by omega)
      rw [Int.natCast_add] at e
      have e' : spec_VecOk.l0 k (Int.gcd g x : Int) ((i : Int) + 1) d l = _ := e
      rw [e']
      have e2 : hv_common g (x :: l.drop (i + 1)) = hv_common (Int.gcd g x : Int) (l.drop (i + 1)) := rfl
      rw [e2]
    · simp
theorem vok_eq (k : Nat) (d : Int) (l : List Int) (hl : l.length ≤ 1000000) (hk : 4000000 ≤ k) : spec_VecOk.f k d l = some (hv_okB d l) := by
  obtain ⟨k, rfl⟩ : ∃ m, k = m + 1 := ⟨k - 1, by omega⟩
  unfold spec_VecOk.f hv_okB
  by_cases h8 : (l.length : Int) > 8
  · have e : decide (l.length ≤ 8 ∧ 1 ≤ d ∧ d ≤ 720) = false := by simp; omega
    rw [if_pos h8, e]
    simp [spec_VecOk.j0]
  · rw [if_neg h8]
    unfold spec_l01In.f
    by_cases h1 : 1 ≤ d
    · by_cases h2 : d ≤ 720
      · have e : decide (l.length ≤ 8 ∧ 1 ≤ d ∧ d ≤ 720) = true := by simp; omega
        rw [if_pos h1, e]
        have hv := vok_loop l hl l.length k 0 d d (by omega) (by omega) (by omega) (by omega)
        have hv' : spec_VecOk.l0 k d 0 d l = _ := hv
        simp only [h2, decide_true, Option.bind_some, Bool.not_true, spec_VecOk.j0, Bool.false_eq_true, if_false, hv']
        simp
      · have e : decide (l.length ≤ 8 ∧ 1 ≤ d ∧ d ≤ 720) = false := by simp; omega
        rw [if_pos h1, e]
        simp [h2, spec_VecOk.j0]
    · have e : decide (l.length ≤ 8 ∧ 1 ≤ d ∧ d ≤ 720) = false := by simp; omega
      rw [if_neg h1, e]
      simp [spec_VecOk.j0]
theorem isVec_eq (k : Nat) (d : Int) (l : List Int) : impl_isVec.f k d l = some (hv_okB d l) := rfl

theorem szVec_eq (d : Int) (l : List Int) (left : Int) (h0 : 0 ≤ left) (h1 : left ≤ 1048576) (hl : l.length ≤ 9223372036854775807) : laws_szVec.f d l left = some (if left - l.length < 0 then -1 else left - l.length) := by
  unfold laws_szVec.f laws_szIntS.f
  rw [wr (x := left - (l.length : Int)) (by omega) (by omega)]
  by_cases h : left - (l.length : Int) < 0
  · simp [h]
  · simp only [if_neg h, Option.bind_some]
theorem toVec_eq (k : Nat) (d : Int) (l : List Int) (hl : l.length ≤ 1048576) (hk : l.length < k) : laws_toVec.f k d l = some (d, l) := by
  unfold laws_toVec.f
  rw [copy_eq_laws_toIntS k l (by omega) (by omega) hk]; rfl

theorem l04abs {n : Int} (h : -9223372036854775808 < n) (h2 : n ≤ 9223372036854775807) : spec_l01Abs.f n = some (n.natAbs : Int) := abs_eq h h2
theorem l04Gcd_loop (d : Nat) : ∀ (k : Nat) (a b : Int), 0 ≤ a → 0 ≤ b → b.toNat ≤ d → d < k → spec_l04Gcd.l0 k a b = some (Int.gcd a b : Int) := by
  induction d with
  | zero =>
    intro k a b ha hb hd hk
    obtain ⟨k, rfl⟩ : ∃ m, k = m + 1 := ⟨k - 1, by omega⟩
    obtain rfl : b = 0 := by omega
    simp only [spec_l04Gcd.l0]
    rw [if_neg (by omega), gcd_nought, if_neg (by omega)]
  | succ d ih =>
    intro k a b ha hb hd hk
    obtain ⟨k, rfl⟩ : ∃ m, k = m + 1 := ⟨k - 1, by omega⟩
    simp only [spec_l04Gcd.l0]
    by_cases hz : b = 0
    · subst hz
      rw [if_neg (by omega), gcd_nought, if_neg (by omega)]
    · rw [if_pos (by omega), if_neg hz]
      have h1 : Int.tmod a b = a % b := Int.tmod_eq_emod_of_nonneg ha
      have h2 : 0 ≤ a % b := Int.emod_nonneg _ hz
      have h3 : a % b < b := Int.emod_lt_of_pos _ (by omega)
      rw [ih k b _ hb (by omega) (by omega) (by omega), gcd_step]
theorem l04Gcd_eq (k : Nat) (a b : Int) (ha : -9223372036854775808 < a) (ha2 : a ≤ 9223372036854775807) (hb : -9223372036854775808 < b) (hb2 : b ≤ 9223372036854775807) (hk : b.natAbs + 1 ≤ k) : spec_l04Gcd.f k a b = some (Int.gcd a b : Int) := by
  unfold spec_l04Gcd.f
  rw [abs_eq ha ha2, abs_eq hb hb2]
  simp only [Option.bind_some]
  rw [l04Gcd_loop b.natAbs k _ _ (by omega) (by omega) (by omega) (by omega)]
  simp [Int.gcd]
/-- the bound on all numbers here -/
def InM (x : Int) : Prop := -1000000000000000 ≤ x ∧ x ≤ 1000000000000000
theorem gcd_in {g x : Int} (hg : InM g) (hx : InM x) : InM (Int.gcd g x : Int) ∧ 0 ≤ (Int.gcd g x : Int) := by
  unfold InM at *
  have e : Int.gcd g x = Nat.gcd g.natAbs x.natAbs := rfl
  by_cases hz : x = 0
  · subst hz; rw [Int.gcd_zero_right]; omega
  · have := Nat.le_of_dvd (by omega) (Nat.gcd_dvd_right g.natAbs x.natAbs)
    omega
theorem common_in (l : List Int) (hb : ∀ x ∈ l, InM x) : ∀ g, InM g → InM (hv_common g l) := by
  induction l with
  | nil => intro g hg; exact hg
  | cons x l ih =>
    intro g hg
    exact ih (fun y hy => hb y (List.mem_cons_of_mem _ hy)) _ (gcd_in hg (hb x (List.mem_cons_self ..))).1
theorem common_pos (l : List Int) : ∀ g, 0 ≤ g → 0 ≤ hv_common g l := by
  induction l with
  | nil => intro g hg; exact hg
  | cons x l ih => intro g hg; exact ih _ (Int.natCast_nonneg _)
theorem common_ne (l : List Int) : ∀ g, g ≠ 0 → hv_common g l ≠ 0 := by
  induction l with
  | nil => intro g hg; exact hg
  | cons x l ih =>
    intro g hg
    refine ih _ ?_
    intro h
    have h' : Int.gcd g x = 0 := Int.natCast_eq_zero.1 h
    exact hg (Int.gcd_eq_zero_iff.1 h').1
theorem make_l0 (l : List Int) (d : Int) (hl : l.length ≤ 1000000) (hb : ∀ x ∈ l, InM x) (n : Nat) : ∀ (i : Nat) (g : Int), InM g → i + n = l.length →
    ∃ c, ∀ k, 1000000000000010 ≤ k → spec_l04Make.l0 (k + c) l d g (i : Int) = ((spec_l01Abs.f (hv_common g (l.drop i))).bind fun t => if d < 0 then spec_l04Make.j1 k l d (wrap64 (-t)) else spec_l04Make.j1 k l d t) := by
  induction n with
  | zero =>
    intro i g hg hi
    refine ⟨1, fun k hk => ?_⟩
    simp only [spec_l04Make.l0]
    rw [if_neg (by omega), List.drop_eq_nil_of_le (by omega)]; rfl
  | succ n ih =>
    intro i g hg hi
    have hx : i < l.length := by omega
    have hxb := hb _ (List.getElem_mem hx)
    obtain ⟨c, hc⟩ := ih (i + 1) (Int.gcd g l[i] : Int) (gcd_in hg hxb).1 (by omega)
    refine ⟨c + 1, fun k hk => ?_⟩
    rw [show k + (c + 1) = (k + c) + 1 from by omega]
    have hg' := hg; have hxb' := hxb
    unfold InM at hg' hxb'
    simp only [spec_l04Make.l0]
    rw [if_pos (by omega), if_pos (by omega), rd_at hx, l04Gcd_eq (k + c) g l[i] (by omega) (by omega) (by omega) (by omega) (by omega)]
    simp only [Option.bind_some]
    rw [wr (by omega) (by omega), List.drop_eq_getElem_cons hx]
    have e := hc k hk
    rw [Int.natCast_add] at e
    exact e
def quo (g x : Int) : Int := wrap64 (Int.tdiv x g)
theorem make_l1 (l : List Int) (g D : Int) (hg : g ≠ 0) (hl : l.length ≤ 1000000) (n : Nat) : ∀ (i : Nat) (acc : List Int), acc = (l.take i).map (quo g) → i + n = l.length →
    ∃ c, ∀ k, 4000000 ≤ k → spec_l04Make.l1 (k + c) l g (i : Int) D acc = some (if hv_okB D (l.map (quo g)) = true then (D, l.map (quo g), true) else (0, [], false)) := by
  induction n with
  | zero =>
    intro i acc ha hi
    refine ⟨1, fun k hk => ?_⟩
    simp only [spec_l04Make.l1]
    rw [if_neg (by omega)]
    rw [List.take_of_length_le (by omega)] at ha
    subst ha
    rw [vok_eq k D _ (by simp; omega) hk]
    simp only [Option.bind_some]
    split <;> rfl
  | succ n ih =>
    intro i acc ha hi
    have hx : i < l.length := by omega
    obtain ⟨c, hc⟩ := ih (i + 1) (acc ++ [quo g l[i]]) (by rw [ha, List.take_succ_eq_append_getElem hx, List.map_append]; rfl) (by omega)
    refine ⟨c + 1, fun k hk => ?_⟩
    rw [show k + (c + 1) = (k + c) + 1 from by omega]
    simp only [spec_l04Make.l1]
    have hal : acc.length ≤ 1000000 := by rw [ha, List.length_map, List.length_take]; omega
    rw [if_pos (by omega), if_pos (by omega), if_neg hg, if_pos (by omega), rd_at hx, wr (x := (i : Int) + 1) (by omega) (by omega)]
    have e := hc k hk
    rw [Int.natCast_add] at e
    exact e
/-- the divisor with its sign -/
def tG (d : Int) (l : List Int) : Int := if d < 0 then -((hv_common d l).natAbs : Int) else ((hv_common d l).natAbs : Int)
def toldF (l : List Int) (d : Int) : Int × List Int × Bool := if hv_okB (quo (tG d l) d) (l.map (quo (tG d l))) = true then (quo (tG d l) d, l.map (quo (tG d l)), true) else (0, [], false)
theorem tG_ne {d : Int} (l : List Int) (hd : d ≠ 0) : tG d l ≠ 0 := by
  have := common_ne l d hd
  unfold tG; split <;> omega
theorem make_eq (l : List Int) (d : Int) (hd : d ≠ 0) (hdM : InM d) (hl : l.length ≤ 1000000) (hb : ∀ x ∈ l, InM x) : ∃ K, ∀ k, K ≤ k → spec_l04Make.f k l d = some (toldF l d) := by
  have hM := common_in l hb d hdM
  have hG := tG_ne l hd
  obtain ⟨c0, h0⟩ := make_l0 l d hl hb l.length 0 d hdM (by omega)
  obtain ⟨c1, h1⟩ := make_l1 l (tG d l) (quo (tG d l) d) hG hl l.length 0 [] (by simp) (by omega)
  refine ⟨1000000000000010 + c0 + c1 + 5000000, fun k hk => ?_⟩
  obtain ⟨m, rfl⟩ : ∃ m, k = (m + c1 + 1) + c0 := ⟨k - c0 - c1 - 1, by omega⟩
  unfold spec_l04Make.f
  have e0 := h0 (m + c1 + 1) (by omega)
  have e0' : spec_l04Make.l0 (m + c1 + 1 + c0) l d d 0 = _ := e0
  rw [e0', List.drop_zero]
  have e1 := h1 m (by omega)
  have e1' : spec_l04Make.l1 (m + c1) l (tG d l) 0 (quo (tG d l) d) [] = some (toldF l d) := e1
  have hM' := hM
  unfold InM at hM'
  rw [abs_eq (by omega) (by omega)]
  simp only [Option.bind_some]
  have key : spec_l04Make.j1 (m + c1 + 1) l d (tG d l) = some (toldF l d) := by
    simp only [spec_l04Make.j1]
    rw [if_neg hG]
    exact e1'
  by_cases hn : d < 0
  · rw [if_pos hn, wr (by omega) (by omega)]
    have : tG d l = -((hv_common d l).natAbs : Int) := by unfold tG; rw [if_pos hn]
    rw [← this]; exact key
  · rw [if_neg hn]
    have : tG d l = ((hv_common d l).natAbs : Int) := by unfold tG; rw [if_neg hn]
    rw [← this]; exact key
theorem told_l0 (l : List Int) (g D : Int) (hg : g ≠ 0) (hl : l.length ≤ 1000000) (n : Nat) : ∀ (i : Nat) (acc : List Int), acc = (l.take i).map (quo g) → i + n = l.length →
    ∃ c, ∀ k, impl_toldVec.l0 (k + c) g l (l.length : Int) (i : Int) D acc = some (if hv_okB D (l.map (quo g)) = true then (D, l.map (quo g), true) else (0, [], false)) := by
  induction n with
  | zero =>
    intro i acc ha hi
    refine ⟨1, fun k => ?_⟩
    simp only [impl_toldVec.l0]
    rw [if_neg (by omega)]
    rw [List.take_of_length_le (by omega)] at ha
    subst ha
    rw [isVec_eq]
    simp only [Option.bind_some]
    split <;> rfl
  | succ n ih =>
    intro i acc ha hi
    have hx : i < l.length := by omega
    obtain ⟨c, hc⟩ := ih (i + 1) (acc ++ [quo g l[i]]) (by rw [ha, List.take_succ_eq_append_getElem hx, List.map_append]; rfl) (by omega)
    refine ⟨c + 1, fun k => ?_⟩
    rw [show k + (c + 1) = (k + c) + 1 from by omega]
    simp only [impl_toldVec.l0]
    have hal : acc.length ≤ 1000000 := by rw [ha, List.length_map, List.length_take]; omega
    rw [if_pos (by omega), if_pos (by omega), if_pos (by omega), if_neg hg, if_pos (by omega), rd_at hx, wr (x := (i : Int) + 1) (by omega) (by omega)]
    have e := hc k
    rw [Int.natCast_add] at e
    exact e
theorem told_eq (l : List Int) (d : Int) (hd : d ≠ 0) (hdM : InM d) (hl : l.length ≤ 1000000) (hb : ∀ x ∈ l, InM x) : ∃ K, ∀ k, K ≤ k → impl_toldVec.f k l d = some (toldF l d) := by
  have hM := common_in l hb d hdM
  have hne := common_ne l d hd
  have hG := tG_ne l hd
  obtain ⟨c1, h1⟩ := told_l0 l (tG d l) (quo (tG d l) d) hG hl l.length 0 [] (by simp) (by omega)
  refine ⟨l.length + 1000000000000010 + c1 + 1, fun k hk => ?_⟩
  unfold impl_toldVec.f
  have hdM' := hdM
  have hM' := hM
  unfold InM at hdM' hM'
  have ec : impl_commonOf.f k d l = some (hv_common d l) := by
    unfold impl_commonOf.f
    have e := hv_common_loop l hl hb l.length k 0 d hdM'.1 hdM'.2 (by omega) (by omega)
    exact e
  rw [ec]
  simp only [Option.bind_some]
  obtain ⟨m, rfl⟩ : ∃ m, k = (m + c1) + 1 := ⟨k - c1 - 1, by omega⟩
  have key : impl_toldVec.j0 (m + c1 + 1) l d (tG d l) = some (toldF l d) := by
    simp only [impl_toldVec.j0]
    rw [if_neg hG]
    exact h1 m
  have hs : d < 0 ∨ 0 ≤ hv_common d l := by
    by_cases h : d < 0
    · exact Or.inl h
    · exact Or.inr (common_pos l d (by omega))
  by_cases hn : d < 0
  · by_cases hc : hv_common d l < 0
    · have e : ((decide (hv_common d l < 0)) != (decide (d < 0))) = false := by simp [hn, hc]
      rw [e, if_neg (by decide)]
      have : tG d l = hv_common d l := by unfold tG; rw [if_pos hn]; omega
      rw [← this]; exact key
    · have e : ((decide (hv_common d l < 0)) != (decide (d < 0))) = true := by simp [hn, hc]
      rw [e, if_pos rfl, wr (by omega) (by omega)]
      have : tG d l = -(hv_common d l) := by unfold tG; rw [if_pos hn]; omega
      rw [← this]; exact key
  · have hc : ¬ hv_common d l < 0 := by omega
    have e : ((decide (hv_common d l < 0)) != (decide (d < 0))) = false := by simp [hn, hc]
    rw [e, if_neg (by decide)]
    have : tG d l = hv_common d l := by unfold tG; rw [if_neg hn]; omega
    rw [← this]; exact key
theorem toldF_length (l : List Int) (d : Int) (hl : l.length ≤ 1000000) : (toldF l d).2.1.length ≤ 1000000 := by
  unfold toldF; split <;> simp <;> omega

theorem vok_any (k : Nat) (d : Int) (l : List Int) (hk : 4000000 ≤ k) : spec_VecOk.f k d l = some (hv_okB d l) := by
  by_cases hl2 : l.length ≤ 1000000
  · exact vok_eq k d l hl2 hk
  · have e : hv_okB d l = false := by unfold hv_okB; simp; omega
    obtain ⟨k, rfl⟩ : ∃ m, k = m + 1 := ⟨k - 1, by omega⟩
    unfold spec_VecOk.f
    rw [if_pos (by omega), e]
    simp [spec_VecOk.j0]
theorem okB_len {d : Int} {l : List Int} (h : hv_okB d l = true) : l.length ≤ 8 := by
  unfold hv_okB at h; simp at h; omega

theorem okB_in {d : Int} {l : List Int} (h : hv_okB d l = true) : 1 ≤ d ∧ d ≤ 720 ∧ ∀ x ∈ l, -100000 ≤ x ∧ x ≤ 100000 := by
  unfold hv_okB at h
  simp only [Bool.and_eq_true, decide_eq_true_eq, Bool.not_eq_true'] at h
  refine ⟨h.1.1.2.1, h.1.1.2.2, fun x hx => ?_⟩
  have := List.any_eq_false.1 h.1.2 x hx
  exact far_not (by simpa using this)
theorem mul_in {x y a b : Int} (ha : 0 ≤ a) (hb : 0 ≤ b) (h1 : -a ≤ x) (h2 : x ≤ a) (h3 : -b ≤ y) (h4 : y ≤ b) : -(a * b) ≤ x * y ∧ x * y ≤ a * b := by
  have h := Int.natAbs_mul x y
  have hx : x.natAbs ≤ a.toNat := by omega
  have hy : y.natAbs ≤ b.toNat := by omega
  have hm := Nat.mul_le_mul hx hy
  rw [← h] at hm
  have e : ((a.toNat * b.toNat : Nat) : Int) = a * b := by rw [Int.natCast_mul, Int.toNat_of_nonneg ha, Int.toNat_of_nonneg hb]
  omega

def adM (d1 d2 : Int) (x y : Int) : Int := wrap64 (wrap64 (x * d2) + wrap64 (y * d1))
def addF (d1 : Int) (l1 : List Int) (d2 : Int) (l2 : List Int) : Int × List Int × Bool := if hv_okB d1 l1 = true ∧ hv_okB d2 l2 = true ∧ l1.length = l2.length then toldF (List.zipWith (adM d1 d2) l1 l2) (wrap64 (d1 * d2)) else (0, [], false)
theorem specA_loop (d1 d2 : Int) (l1 l2 : List Int) (hl : l1.length = l2.length) (h8 : l1.length ≤ 8) (r : Int × List Int × Bool) (K : Nat) (hK : ∀ k, K ≤ k → spec_l04Make.f k (List.zipWith (adM d1 d2) l1 l2) (wrap64 (d1 * d2)) = some r) (n : Nat) : ∀ (k i : Nat) (acc : List Int), acc = (List.zipWith (adM d1 d2) l1 l2).take i → i + n = l1.length → K + n + 1 ≤ k →
    spec_VecAdd.l0 k acc (i : Int) d1 l1 d2 l2 = some r := by
  have hz : (List.zipWith (adM d1 d2) l1 l2).length = l1.length := by rw [List.length_zipWith]; omega
  induction n with
  | zero =>
    intro k i acc ha hi hk
    obtain ⟨k, rfl⟩ : ∃ m, k = m + 1 := ⟨k - 1, by omega⟩
    rw [List.take_of_length_le (by omega)] at ha
    subst ha
    simp only [spec_VecAdd.l0]
    rw [if_neg (by omega), hK k (by omega)]; rfl
  | succ n ih =>
    intro k i acc ha hi hk
    obtain ⟨k, rfl⟩ : ∃ m, k = m + 1 := ⟨k - 1, by omega⟩
    have hx : i < l1.length := by omega
    have hy : i < l2.length := by omega
    have hal : acc.length ≤ 8 := by rw [ha, List.length_take]; omega
    have hzi : i < (List.zipWith (adM d1 d2) l1 l2).length := by omega
    simp only [spec_VecAdd.l0]
    rw [if_pos (by omega), if_pos (by omega), if_pos (by omega), if_pos (by omega), rd_at hx, rd_at hy, wr (x := (i : Int) + 1) (by omega) (by omega)]
    have e := ih k (i + 1) (acc ++ [adM d1 d2 l1[i] l2[i]]) (by rw [ha, List.take_succ_eq_append_getElem hzi, List.getElem_zipWith]) (by omega) (by omega)
    rw [Int.natCast_add] at e
    exact e
theorem implA_loop (d1 d2 : Int) (l1 l2 : List Int) (hl : l1.length = l2.length) (h8 : l1.length ≤ 8) (r : Int × List Int × Bool) (K : Nat) (hK : ∀ k, K ≤ k → impl_toldVec.f k (List.zipWith (adM d1 d2) l1 l2) (wrap64 (d1 * d2)) = some r) (n : Nat) : ∀ (k i : Nat) (acc : List Int), acc = (List.zipWith (adM d1 d2) l1 l2).take i → i + n = l1.length → K + n + 1 ≤ k →
    impl_vecAdd.l0 k acc l1 (l1.length : Int) (i : Int) d1 l1 d2 l2 = some r := by
  have hz : (List.zipWith (adM d1 d2) l1 l2).length = l1.length := by rw [List.length_zipWith]; omega
  induction n with
  | zero =>
    intro k i acc ha hi hk
    obtain ⟨k, rfl⟩ : ∃ m, k = m + 1 := ⟨k - 1, by omega⟩
    rw [List.take_of_length_le (by omega)] at ha
    subst ha
    simp only [impl_vecAdd.l0]
    rw [if_neg (by omega), hK k (by omega)]; rfl
  | succ n ih =>
    intro k i acc ha hi hk
    obtain ⟨k, rfl⟩ : ∃ m, k = m + 1 := ⟨k - 1, by omega⟩
    have hx : i < l1.length := by omega
    have hy : i < l2.length := by omega
    have hal : acc.length ≤ 8 := by rw [ha, List.length_take]; omega
    have hzi : i < (List.zipWith (adM d1 d2) l1 l2).length := by omega
    simp only [impl_vecAdd.l0]
    rw [if_pos (by omega), if_pos (by omega), if_pos (by omega), if_pos (by omega), if_pos (by omega), rd_at hx, rd_at hy, wr (x := (i : Int) + 1) (by omega) (by omega)]
    have e := ih k (i + 1) (acc ++ [adM d1 d2 l1[i] l2[i]]) (by rw [ha, List.take_succ_eq_append_getElem hzi, List.getElem_zipWith]) (by omega) (by omega)
    rw [Int.natCast_add] at e
    exact e
theorem add_cond {d1 d2 : Int} {l1 l2 : List Int} (h : hv_okB d1 l1 = true ∧ hv_okB d2 l2 = true ∧ l1.length = l2.length) : wrap64 (d1 * d2) ≠ 0 ∧ InM (wrap64 (d1 * d2)) ∧ ∀ x ∈ List.zipWith (adM d1 d2) l1 l2, InM x := by
  obtain ⟨h1, h2, hl⟩ := h
  obtain ⟨a1, a2, a3⟩ := okB_in h1
  obtain ⟨b1, b2, b3⟩ := okB_in h2
  obtain ⟨p, q⟩ := mul_in (x := d1) (y := d2) (a := 720) (b := 720) (by omega) (by omega) (by omega) (by omega) (by omega) (by omega)
  have hne : d1 * d2 ≠ 0 := Int.mul_ne_zero (by omega) (by omega)
  rw [wr (by omega) (by omega)]
  refine ⟨hne, by unfold InM; omega, fun x hm => ?_⟩
  obtain ⟨i, hi, rfl⟩ := List.mem_iff_getElem.1 hm
  rw [List.getElem_zipWith]
  have hi1 : i < l1.length := by rw [List.length_zipWith] at hi; omega
  have hi2 : i < l2.length := by rw [List.length_zipWith] at hi; omega
  obtain ⟨u, v⟩ := a3 _ (List.getElem_mem hi1)
  obtain ⟨u', v'⟩ := b3 _ (List.getElem_mem hi2)
  obtain ⟨p, q⟩ := mul_in (x := l1[i]) (y := d2) (a := 100000) (b := 720) (by omega) (by omega) (by omega) (by omega) (by omega) (by omega)
  obtain ⟨p', q'⟩ := mul_in (x := l2[i]) (y := d1) (a := 100000) (b := 720) (by omega) (by omega) (by omega) (by omega) (by omega) (by omega)
  unfold adM
  rw [wr (x := l1[i] * d2) (by omega) (by omega), wr (x := l2[i] * d1) (by omega) (by omega), wr (by omega) (by omega)]
  unfold InM; omega
theorem add_both (d1 : Int) (l1 : List Int) (d2 : Int) (l2 : List Int) : ∃ K, ∀ k, K ≤ k → spec_VecAdd.f k d1 l1 d2 l2 = some (addF d1 l1 d2 l2) ∧ impl_VecAdd.f k d1 l1 d2 l2 = some (addF d1 l1 d2 l2) := by
  by_cases h : hv_okB d1 l1 = true ∧ hv_okB d2 l2 = true ∧ l1.length = l2.length
  · obtain ⟨c1, c2, c3⟩ := add_cond h
    have h8 := okB_len h.1
    have hzl : (List.zipWith (adM d1 d2) l1 l2).length ≤ 1000000 := by rw [List.length_zipWith]; omega
    obtain ⟨K1, h1⟩ := make_eq (List.zipWith (adM d1 d2) l1 l2) (wrap64 (d1 * d2)) c1 c2 hzl c3
    obtain ⟨K2, h2⟩ := told_eq (List.zipWith (adM d1 d2) l1 l2) (wrap64 (d1 * d2)) c1 c2 hzl c3
    obtain ⟨K, hK⟩ : ∃ K, K1 + K2 + 4000012 ≤ K := ⟨_, Nat.le_refl _⟩
    refine ⟨K, fun k hk => ?_⟩
    unfold addF
    rw [if_pos h]
    obtain ⟨ha, hb, hl⟩ := h
    have e1 := fun m (hm : K1 + l1.length + 1 ≤ m) => specA_loop d1 d2 l1 l2 hl h8 _ K1 h1 l1.length m 0 [] (by simp) (by omega) (by omega)
    have e2 := fun m (hm : K2 + l1.length + 1 ≤ m) => implA_loop d1 d2 l1 l2 hl h8 _ K2 h2 l1.length m 0 [] (by simp) (by omega) (by omega)
    have z : ((l1.length : Int) != (l2.length : Int)) = false := by simp; omega
    constructor
    · unfold spec_VecAdd.f
      rw [vok_any k d1 l1 (by omega), vok_any k d2 l2 (by omega), ha, hb]
      simp only [Option.bind_some, if_true, z]
      obtain ⟨k, rfl⟩ : ∃ m, k = m + 1 := ⟨k - 1, by omega⟩
      simp only [spec_VecAdd.j0, Bool.false_eq_true, if_false]
      exact e1 k (by omega)
    · unfold impl_VecAdd.f impl_vecAdd.f
      rw [isVec_eq, isVec_eq, ha, hb]
      simp only [Option.bind_some, if_true, z]
      obtain ⟨k, rfl⟩ : ∃ m, k = m + 1 := ⟨k - 1, by omega⟩
      simp only [impl_vecAdd.j0, Bool.false_eq_true, if_false]
      have e := e2 k (by omega)
      have e' : impl_vecAdd.l0 k [] l1 (l1.length : Int) 0 d1 l1 d2 l2 = _ := e
      rw [e']; rfl
  · refine ⟨4000001, fun k hk => ?_⟩
    unfold addF
    rw [if_neg h]
    obtain ⟨m, hm⟩ : ∃ m, k = m + 1 := ⟨k - 1, by omega⟩
    have t1 : spec_VecAdd.j0 k true d1 l1 d2 l2 = some (0, [], false) := by rw [hm]; simp [spec_VecAdd.j0]
    have t2 : impl_vecAdd.j0 k true d1 l1 d2 l2 = some (0, [], false) := by rw [hm]; simp [impl_vecAdd.j0]
    unfold spec_VecAdd.f impl_VecAdd.f impl_vecAdd.f
    rw [vok_any k d1 l1 (by omega), vok_any k d2 l2 (by omega), isVec_eq, isVec_eq, t1, t2]
    simp only [Option.bind_some]
    cases ha : hv_okB d1 l1
    · simp
    · cases hb : hv_okB d2 l2
      · simp
      · have z : ¬ l1.length = l2.length := fun hz => h ⟨ha, hb, hz⟩
        have z2 : ((l1.length : Int) != (l2.length : Int)) = true := by simp; omega
        simp [z2, t1, t2]
theorem addF_length (d1 : Int) (l1 : List Int) (d2 : Int) (l2 : List Int) : (addF d1 l1 d2 l2).2.1.length ≤ 1000000 := by
  unfold addF
  split
  · rename_i h
    have := okB_len h.1
    exact toldF_length _ _ (by rw [List.length_zipWith]; omega)
  · simp
end AFnExactVecAdd
open AFnExactVecAdd

theorem markVec_at (k : Nat) (d : Int) (xs : List Int) (a : Int) (h0 : 0 ≤ a) (h1 : a ≤ 10000000) (hn : xs.length ≤ 1048576) (hk : xs.length < k) : laws_markVec.f k d xs a = some (a + (xs.length : Int), marks a xs.length) := by
  unfold laws_markVec.f laws_markIntS.f
  have e := markIntS_loop xs.length k 0 xs a (by omega) (by omega) (by omega) (by omega) hk
  have e' : laws_markIntS.l0 k xs a 0 = _ := e
  rw [e']; simp
theorem FnExactVecAdd (d1 d2 : Int) (l1 l2 : List Int) (hm1 : l1.length ≤ maxLen) (hm2 : l2.length ≤ maxLen) : ∃ k, laws_FnExactVecAdd.f k d1 l1 d2 l2 = some true := by
  unfold maxLen at hm1 hm2
  obtain ⟨K1, h1⟩ := add_both d1 l1 d2 l2
  obtain ⟨K, hK⟩ : ∃ K, K1 + 4000010 ≤ K := ⟨_, Nat.le_refl _⟩
  refine ⟨K, ?_⟩
  unfold laws_FnExactVecAdd.f
  rw [szVec_eq d1 l1 1048576 (by omega) (by omega) (by omega)]
  simp only [Option.bind_some]
  by_cases h : (1048576 : Int) - l1.length < 0
  · simp only [if_pos h]; rw [if_pos (by decide)]
  · simp only [if_neg h]
    rw [szVec_eq d2 l2 _ (by omega) (by omega) (by omega)]
    simp only [Option.bind_some]
    by_cases h2 : (1048576 : Int) - l1.length - l2.length < 0
    · simp only [if_pos h2]; rw [if_pos (by decide)]
    · simp only [if_neg h2]
      have hl1 : l1.length ≤ 1048576 := by omega
      have hl2 : l2.length ≤ 1048576 := by omega
      have hml := addF_length d1 l1 d2 l2
      obtain ⟨D, A, g, hF⟩ : ∃ D A g, addF d1 l1 d2 l2 = (D, A, g) := ⟨_, _, _, rfl⟩
      rw [hF] at h1 hml
      have hml : A.length ≤ 1000000 := hml
      have e1 := (h1 K (by omega)).1
      have e2 := (h1 K (by omega)).2
      simp only [toVec_eq K d1 l1 hl1 (by omega), toVec_eq K d2 l2 hl2 (by omega), e1, e2, Option.bind_some]
      rw [eqVec_eq K D D A A (by omega) (by omega)]
      simp only [and_self, decide_true, Option.bind_some, if_true, bne_self_eq_false]
      obtain ⟨k, hk⟩ : ∃ k, K = k + 1 + 1 + 1 := ⟨K - 3, by omega⟩
      rw [hk]
      have c0 : ∀ k', k ≤ k' → laws_toVec.f k' d1 l1 = some (d1, l1) := fun k' hk' => toVec_eq k' d1 l1 hl1 (by omega)
      have c0' : ∀ k', k ≤ k' → laws_toVec.f k' d2 l2 = some (d2, l2) := fun k' hk' => toVec_eq k' d2 l2 hl2 (by omega)
      have c1 : ∀ k', k ≤ k' → laws_eqVec.f k' d1 l1 d1 l1 = some true := fun k' hk' => by rw [eqVec_eq k' d1 d1 l1 l1 (by omega) (by omega)]; simp
      have c1' : ∀ k', k ≤ k' → laws_eqVec.f k' d2 l2 d2 l2 = some true := fun k' hk' => by rw [eqVec_eq k' d2 d2 l2 l2 (by omega) (by omega)]; simp
      have c2 : ∀ k', k ≤ k' → laws_eqVec.f k' D A D A = some true := fun k' hk' => by rw [eqVec_eq k' D D A A (by omega) (by omega)]; simp
      have c3 : ∀ k', k ≤ k' → laws_markVec.f k' d1 l1 1 = some (1 + (l1.length : Int), marks 1 l1.length) := fun k' hk' => markVec_eq k' d1 l1 (by omega) (by omega)
      have c3' : ∀ k', k ≤ k' → laws_markVec.f k' d2 l2 (1 + (l1.length : Int)) = some (1 + (l1.length : Int) + (l2.length : Int), marks (1 + (l1.length : Int)) l2.length) := fun k' hk' => markVec_at k' d2 l2 _ (by omega) (by omega) hl2 (by omega)
      have c4 : ∀ k', k ≤ k' → laws_markVec.f k' D A 1 = some (1 + (A.length : Int), marks 1 A.length) := fun k' hk' => markVec_eq k' D A (by omega) (by omega)
      have c5 : ∀ k', k ≤ k' → laws_heldVec.f k' D (marks 1 A.length) 1 = some (1 + (A.length : Int)) := fun k' hk' => heldVec_eq k' A.length D (by omega) (by omega)
      have c6 : ∀ k', k ≤ k' → impl_VecAdd.f k' d1 l1 d2 l2 = some (D, A, g) := fun k' hk' => (h1 k' (by omega)).2
      have p1 : ¬ (1 + (l1.length : Int) + (l2.length : Int)) < 0 := by omega
      have p2 : ¬ (1 + (A.length : Int)) < 0 := by omega
      clear hF h1 hml e1 e2 hK hk
      simp only [laws_FnExactVecAdd.j0, laws_FnExactVecAdd.j1, laws_FnExactVecAdd.j2, c0 k (by omega), c0 (k + 1) (by omega), c0 (k + 1 + 1) (by omega), c0' k (by omega), c0' (k + 1) (by omega), c0' (k + 1 + 1) (by omega), c1 (k + 1 + 1) (by omega), c1' (k + 1 + 1) (by omega), c2 k (by omega), c2 (k + 1) (by omega), c2 (k + 1 + 1) (by omega),
        c3 (k + 1 + 1) (by omega), c3' (k + 1 + 1) (by omega), c4 k (by omega), c4 (k + 1) (by omega), c4 (k + 1 + 1) (by omega), c5 k (by omega), c5 (k + 1) (by omega), c5 (k + 1 + 1) (by omega), c6 k (by omega), c6 (k + 1) (by omega), c6 (k + 1 + 1) (by omega),
        Option.bind_some, Bool.false_eq_true, if_false, if_true, bne_self_eq_false, if_neg p1, if_neg p2]
theorem vecAdd_walk (d : Int) (a0 : Option Addr) (len0 cap0 : Nat) (z0 : List Int) (e : Int) (a1 : Option Addr) (len1 cap1 : Nat) (z1 : List Int) (w : World) (_ : (Lit.int .i64 d).wf = true) (w0 : (a0 = none ∧ len0 = 0 ∧ cap0 = 0 ∧ z0 = []) ∨ ∃ x, a0 = some x ∧ len0 ≤ cap0 ∧ cap0 ≤ maxLen ∧ z0.length = cap0 ∧ (∀ i, i < z0.length → w.cell? (x.add i) = some (.int .i64 (z0.getD i 0))) ∧ ∀ n ∈ z0, (Lit.int .i64 n).wf = true) (_ : (Lit.int .i64 e).wf = true) (w1 : (a1 = none ∧ len1 = 0 ∧ cap1 = 0 ∧ z1 = []) ∨ ∃ x, a1 = some x ∧ len1 ≤ cap1 ∧ cap1 ≤ maxLen ∧ z1.length = cap1 ∧ (∀ i, i < z1.length → w.cell? (x.add i) = some (.int .i64 (z1.getD i 0))) ∧ ∀ n ∈ z1, (Lit.int .i64 n).wf = true) :
    Calls Try.prog 6 #[.agg #[.int .i64 d, .slice a0 len0 cap0], .agg #[.int .i64 e, .slice a1 len1 cap1]] w fun e w' => e = .returned (.bool true) ∧ Below w.heap.size w w' := by
  obtain ⟨l0, rfl, hr0, hm0, _, hc0⟩ := ReadsInt.ofRowC w0
  obtain ⟨l1, rfl, hr1, hm1, _, hc1⟩ := ReadsInt.ofRowC w1
  obtain ⟨k, h⟩ := FnExactVecAdd d e l0 l1 hm0 hm1
  exact laws_FnExactVecAdd.calls k d _ _ l0 e _ _ l1 true w rfl (Kd.C_of_reads (d := (0 : Int)) (h1 := fun _ => rfl) hr0) hc0 (Kd.C_of_reads (d := (0 : Int)) (h1 := fun _ => rfl) hr1) hc1 h

end Go.Proofs.Ytjdndacollpjkaa.Pure
