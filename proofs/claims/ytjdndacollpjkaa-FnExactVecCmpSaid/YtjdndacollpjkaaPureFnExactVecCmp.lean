/- VecCmp answers as the reference at every two vectors, and leaves both. -/
import Derived.Test.YtjdndacollpjkaaMFnExactVecCmpx4
namespace Go.Proofs.Ytjdndacollpjkaa.Pure
set_option linter.unusedVariables false
set_option linter.unusedSimpArgs false
open Go.RowKit Go.Proofs.Ytjdndacollpjkaa.MFnExactVecCmp Go.Proofs.YtjdndacollpjkaaW.PrintWords Go.Proofs.YtjdndacollpjkaaW.PrintLast
namespace AFnExactVecCmp

theorem wr {x : Int} (h1 : -9223372036854775808 ≤ x) (h2 : x ≤ 9223372036854775807) : wrap64 x = x := by
  unfold wrap64; omega

def smB (n : Int) : Bool := decide (-1000000000 ≤ n ∧ n ≤ 1000000000)
theorem smB_iff {n : Int} : smB n = true ↔ -1000000000 ≤ n ∧ n ≤ 1000000000 := by unfold smB; simp

theorem gcd_step (a b : Int) : (Int.gcd b (Int.tmod a b) : Int) = Int.gcd a b := by
  unfold Int.gcd
  rw [Int.natAbs_tmod, Nat.gcd_comm, ← Nat.gcd_rec, Nat.gcd_comm]
theorem gcd_nought (a : Int) : (Int.gcd a 0 : Int) = if a < 0 then -a else a := by
  rw [Int.gcd_zero_right]; split <;> omega

theorem small_eq (n : Int) : spec_l01Small.f n = some (smB n) := by
  unfold spec_l01Small.f spec_l01In.f smB
  by_cases h : -1000000000 ≤ n
  · rw [if_pos h]; simp [h]
  · rw [if_neg h]; simp [h]
theorem abs_eq {n : Int} (h : -9223372036854775808 < n) (h2 : n ≤ 9223372036854775807) : spec_l01Abs.f n = some (n.natAbs : Int) := by
  unfold spec_l01Abs.f
  split
  · rw [wr (by omega) (by omega)]; congr 1; omega
  · congr 1; omega
theorem gcdSpec_loop (d : Nat) : ∀ (k : Nat) (a b : Int), 0 ≤ a → 0 ≤ b → b.toNat ≤ d → d < k → spec_Gcd.l0 k a b = some (Int.gcd a b : Int) := by
  induction d with
  | zero =>
    intro k a b ha hb hd hk
    obtain ⟨k, rfl⟩ : ∃ m, k = m + 1 := ⟨k - 1, by omega⟩
    obtain rfl : b = 0 := by omega
    simp only [spec_Gcd.l0]
    rw [if_neg (by omega), gcd_nought, if_neg (by omega)]
  | succ d ih =>
    intro k a b ha hb hd hk
    obtain ⟨k, rfl⟩ : ∃ m, k = m + 1 := ⟨k - 1, by omega⟩
    simp only [spec_Gcd.l0]
    by_cases hz : b = 0
    · subst hz
      rw [if_neg (by omega), gcd_nought, if_neg (by omega)]
    · rw [if_pos (by omega), if_neg hz]
      have h1 : Int.tmod a b = a % b := Int.tmod_eq_emod_of_nonneg ha
      have h2 : 0 ≤ a % b := Int.emod_nonneg _ hz
      have h3 : a % b < b := Int.emod_lt_of_pos _ (by omega)
      rw [ih k b _ hb (by omega) (by omega) (by omega), gcd_step]
theorem gcdSpec_eq (k : Nat) (a b : Int) (hk : b.natAbs + 2 ≤ k) : spec_Gcd.f k a b = some (if (smB a && smB b) = true then (Int.gcd a b : Int) else 0) := by
  obtain ⟨k, rfl⟩ : ∃ m, k = m + 1 := ⟨k - 1, by omega⟩
  unfold spec_Gcd.f
  rw [small_eq, small_eq]
  cases ha : smB a
  · simp [spec_Gcd.j0]
  · cases hb : smB b
    · simp [spec_Gcd.j0]
    · have ha := smB_iff.1 ha
      have hb := smB_iff.1 hb
      simp only [Option.bind_some, if_true, Bool.not_true, Bool.and_self, spec_Gcd.j0, Bool.false_eq_true, if_false]
      rw [abs_eq (by omega) (by omega), abs_eq (by omega) (by omega)]
      simp only [Option.bind_some]
      rw [gcdSpec_loop b.natAbs k _ _ (by omega) (by omega) (by omega) (by omega)]
      simp [Int.gcd]

theorem rd_at {xs : List Int} {i : Nat} (h : i < xs.length) : rd xs (i : Int) = xs[i] := by
  unfold rd; simp [List.getD, List.getElem?_eq_getElem h]
theorem eqIntS_loop (xs ys : List Int) (hl : xs.length = ys.length) (hn : xs.length ≤ 1152921504606846976) (d : Nat) : ∀ (k i : Nat), i + d = xs.length → d < k →
    laws_eqIntS.l0 k xs ys (i : Int) = some (decide (xs.drop i = ys.drop i)) := by
  induction d with
  | zero =>
    intro k i hi hk
    obtain ⟨k, rfl⟩ : ∃ m, k = m + 1 := ⟨k - 1, by omega⟩
    simp only [laws_eqIntS.l0]
    rw [if_neg (by omega), List.drop_eq_nil_of_le (by omega), List.drop_eq_nil_of_le (by omega)]
    simp
  | succ d ih =>
    intro k i hi hk
    obtain ⟨k, rfl⟩ : ∃ m, k = m + 1 := ⟨k - 1, by omega⟩
    have hx : i < xs.length := by omega
    have hy : i < ys.length := by omega
    have e := ih k (i + 1) (by omega) (by omega)
    rw [Int.natCast_add] at e
    have e' : laws_eqIntS.l0 k xs ys ((i : Int) + 1) = _ := e
    simp only [laws_eqIntS.l0]
    rw [if_pos (by omega), if_pos (by omega), if_pos (by omega), rd_at hx, rd_at hy, wr (by omega) (by omega), e', List.drop_eq_getElem_cons hx, List.drop_eq_getElem_cons hy]
    by_cases h : xs[i] = ys[i]
    · rw [if_pos h, h]; simp only [List.cons.injEq, true_and]
    · rw [if_neg h]; simp only [List.cons.injEq, h, false_and, decide_false]
theorem eqIntS_eq (k : Nat) (xs ys : List Int) (hn : xs.length ≤ 1152921504606846976) (hk : xs.length < k) : laws_eqIntS.f k xs ys = some (decide (xs = ys)) := by
  unfold laws_eqIntS.f
  by_cases h : xs.length = ys.length
  · rw [if_pos (by omega)]
    have e := eqIntS_loop xs ys h hn xs.length k 0 (by omega) hk
    have e' : laws_eqIntS.l0 k xs ys 0 = _ := e
    rw [e']; simp
  · rw [if_neg (by omega)]
    have : ¬ xs = ys := fun e => h (by rw [e])
    simp [this]

theorem copy_loop_laws_toIntS (xs : List Int) (hn : xs.length ≤ 1152921504606846976) (d : Nat) : ∀ (k i : Nat) (ys : List Int), i + d = xs.length → ys.length = xs.length → ys.take i = xs.take i → d < k →
    laws_toIntS.l0 k xs ys (i : Int) = some xs := by
  induction d with
  | zero =>
    intro k i ys hi hl ht hk
    obtain ⟨k, rfl⟩ : ∃ m, k = m + 1 := ⟨k - 1, by omega⟩
    simp only [laws_toIntS.l0]
    rw [if_neg (by omega)]
    rw [List.take_of_length_le (by omega), List.take_of_length_le (by omega)] at ht
    rw [ht]
  | succ d ih =>
    intro k i ys hi hl ht hk
    obtain ⟨k, rfl⟩ : ∃ m, k = m + 1 := ⟨k - 1, by omega⟩
    have hx : i < xs.length := by omega
    simp only [laws_toIntS.l0]
    rw [if_pos (by omega), if_pos (by omega), if_pos (by omega), rd_at hx, wr (by omega) (by omega), Int.toNat_natCast]
    have hs : i < (ys.set i xs[i]).length := by rw [List.length_set]; omega
    have e := ih k (i + 1) (ys.set i xs[i]) (by omega) (by simp; omega) (by
      rw [List.take_succ_eq_append_getElem hs, List.getElem_set_self, List.take_set_of_le (Nat.le_refl i), ht, ← List.take_succ_eq_append_getElem hx]) (by omega)
    rw [Int.natCast_add] at e
    exact e
theorem copy_eq_laws_toIntS (k : Nat) (xs : List Int) (hn : xs.length ≤ 1152921504606846976) (hn2 : xs.length ≤ 35184372088832) (hk : xs.length < k) : laws_toIntS.f k xs = some xs := by
  unfold laws_toIntS.f
  rw [if_pos (by omega), if_pos (by omega)]
  have e := copy_loop_laws_toIntS xs hn xs.length k 0 (List.replicate ((xs.length : Int)).toNat 0) (by omega) (by simp) (by simp) hk
  exact e

theorem in_far (x : Int) : spec_l01In.f x (-100000) 100000 = some (!(hv_far x)) := by
  unfold spec_l01In.f hv_far
  by_cases h : -100000 ≤ x
  · rw [if_pos h]
    have : decide (x < -100000) = false := by simp; omega
    rw [this, Bool.false_or]
    congr 1
    by_cases h2 : x ≤ 100000
    · simp [h2]
    · simp [h2]; omega
  · rw [if_neg h]
    have : decide (x < -100000) = true := by simp; omega
    rw [this]; rfl
theorem far_not {x : Int} (h : hv_far x = false) : -100000 ≤ x ∧ x ≤ 100000 := by
  unfold hv_far at h; simp at h; omega
theorem gcd_le {g x M : Int} (h0 : 0 ≤ g) (h1 : g ≤ M) (hx : x.natAbs ≤ M.natAbs) (hM : 0 ≤ M) : (Int.gcd g x : Int) ≤ M := by
  by_cases hz : x = 0
  · rw [hz, Int.gcd_zero_right]; omega
  · have := Nat.le_of_dvd (by omega) (Nat.gcd_dvd_right g.natAbs x.natAbs)
    have e : Int.gcd g x = Nat.gcd g.natAbs x.natAbs := rfl
    omega
theorem vok_loop (l : List Int) (hl : l.length ≤ 1000000) (n : Nat) : ∀ (k i : Nat) (g d : Int), 0 ≤ g → g ≤ 100000 → i + n = l.length → n + 2000010 ≤ k →
    spec_VecOk.l0 k g (i : Int) d l = some (!((l.drop i).any hv_far) && decide (hv_common g (l.drop i) = 1)) := by
  induction n with
  | zero =>
    intro k i g d h0 h1 hi hk
    obtain ⟨k, rfl⟩ : ∃ m, k = m + 1 := ⟨k - 1, by omega⟩
    simp only [spec_VecOk.l0]
    rw [if_neg (by omega), List.drop_eq_nil_of_le (by omega)]
    have e : hv_common g [] = g := rfl
    have e2 : (g == 1) = decide (g = 1) := by rw [Bool.eq_iff_iff]; simp
    rw [e, e2]; rfl
  | succ n ih =>
    intro k i g d h0 h1 hi hk
    obtain ⟨k, rfl⟩ : ∃ m, k = m + 1 := ⟨k - 1, by omega⟩
    have hx : i < l.length := by omega
    simp only [spec_VecOk.l0]
    rw [if_pos (by omega), if_pos (by omega), rd_at hx, in_far, List.drop_eq_getElem_cons hx]
    simp only [Option.bind_some, List.any_cons]
    generalize hv : l[i] = x
    cases hf : hv_far x
    · obtain ⟨b1, b2⟩ := far_not hf
      have ha : smB g = true := smB_iff.2 ⟨by omega, by omega⟩
      have hb : smB x = true := smB_iff.2 ⟨by omega, by omega⟩
      simp only [Bool.not_false, if_true, Bool.false_or]
      rw [gcdSpec_eq k g x (by omega), ha, hb]
      simp only [Bool.and_self, if_true, Option.bind_some]
      rw [wr (by omega) (by omega)]
      have e := ih k (i + 1) (Int.gcd g x : Int) d (by omega) (gcd_le h0 h1 (by omega) (by omega)) (by omega) (by omega)
      rw [Int.natCast_add] at e
      have e' : spec_VecOk.l0 k (Int.gcd g x : Int) ((i : Int) + 1) d l = _ := e
      rw [e']
      have e2 : hv_common g (x :: l.drop (i + 1)) = hv_common (Int.gcd g x : Int) (l.drop (i + 1)) := rfl
      rw [e2]
    · simp
theorem vok_eq (k : Nat) (d : Int) (l : List Int) (hl : l.length ≤ 1000000) (hk : 4000000 ≤ k) : spec_VecOk.f k d l = some (hv_okB d l) := by
  obtain ⟨k, rfl⟩ : ∃ m, k = m + 1 := ⟨k - 1, by omega⟩
  unfold spec_VecOk.f hv_okB
  by_cases h8 : (l.length : Int) > 8
  · have e : decide (l.length ≤ 8 ∧ 1 ≤ d ∧ d ≤ 720) = false := by simp; omega
    rw [if_pos h8, e]
    simp [spec_VecOk.j0]
  · rw [if_neg h8]
    unfold spec_l01In.f
    by_cases h1 : 1 ≤ d
    · by_cases h2 : d ≤ 720
      · have e : decide (l.length ≤ 8 ∧ 1 ≤ d ∧ d ≤ 720) = true := by simp; omega
        rw [if_pos h1, e]
        have hv := vok_loop l hl l.length k 0 d d (by omega) (by omega) (by omega) (by omega)
        have hv' : spec_VecOk.l0 k d 0 d l = _ := hv
        simp only [h2, decide_true, Option.bind_some, Bool.not_true, spec_VecOk.j0, Bool.false_eq_true, if_false, hv']
        simp
      · have e : decide (l.length ≤ 8 ∧ 1 ≤ d ∧ d ≤ 720) = false := by simp; omega
        rw [if_pos h1, e]
        simp [h2, spec_VecOk.j0]
    · have e : decide (l.length ≤ 8 ∧ 1 ≤ d ∧ d ≤ 720) = false := by simp; omega
      rw [if_neg h1, e]
      simp [spec_VecOk.j0]
theorem isVec_eq (k : Nat) (d : Int) (l : List Int) : impl_isVec.f k d l = some (hv_okB d l) := rfl

theorem szVec_eq (d : Int) (l : List Int) (left : Int) (h0 : 0 ≤ left) (h1 : left ≤ 1048576) (hl : l.length ≤ 9223372036854775807) : laws_szVec.f d l left = some (if left - l.length < 0 then -1 else left - l.length) := by
  unfold laws_szVec.f laws_szIntS.f
  rw [wr (x := left - (l.length : Int)) (by omega) (by omega)]
  by_cases h : left - (l.length : Int) < 0
  · simp [h]
  · simp only [if_neg h, Option.bind_some]
theorem toVec_eq (k : Nat) (d : Int) (l : List Int) (hl : l.length ≤ 1048576) (hk : l.length < k) : laws_toVec.f k d l = some (d, l) := by
  unfold laws_toVec.f
  rw [copy_eq_laws_toIntS k l (by omega) (by omega) hk]; rfl

theorem eqVec_eq (k : Nat) (a b : Int) (xs ys : List Int) (hn : xs.length ≤ 1152921504606846976) (hk : xs.length < k) : laws_eqVec.f k a xs b ys = some (decide (a = b ∧ xs = ys)) := by
  unfold laws_eqVec.f
  by_cases h : a = b
  · rw [if_pos h, eqIntS_eq k xs ys hn hk]
    by_cases h' : xs = ys <;> simp [h, h']
  · rw [if_neg h]; simp [h]

theorem vok_any (k : Nat) (d : Int) (l : List Int) (hk : 4000000 ≤ k) : spec_VecOk.f k d l = some (hv_okB d l) := by
  by_cases hl2 : l.length ≤ 1000000
  · exact vok_eq k d l hl2 hk
  · have e : hv_okB d l = false := by unfold hv_okB; simp; omega
    obtain ⟨k, rfl⟩ : ∃ m, k = m + 1 := ⟨k - 1, by omega⟩
    unfold spec_VecOk.f
    rw [if_pos (by omega), e]
    simp [spec_VecOk.j0]
theorem okB_len {d : Int} {l : List Int} (h : hv_okB d l = true) : l.length ≤ 8 := by
  unfold hv_okB at h; simp at h; omega
end AFnExactVecCmp
open AFnExactVecCmp

theorem compare_eq (a b : Int) : cmp_Compare_int.f a b = some (if a < b then -1 else if a > b then 1 else 0) := by
  unfold cmp_Compare_int.f cmp_isNaN_int.f
  simp only [bne_self_eq_false, Option.bind_some, Bool.false_eq_true, if_false]
  split
  · rfl
  · split <;> rfl
theorem cmp_loop (d1 d2 : Int) (l1 l2 : List Int) (hl : l1.length = l2.length) (hn : l1.length ≤ 8) (n : Nat) : ∀ (k i : Nat), i + n = l1.length → n < k →
    ∃ r, spec_VecCmp.l0 k (i : Int) d1 l1 d2 l2 = some r ∧ impl_VecCmp.l0 k l1 (l1.length : Int) (i : Int) d1 l1 d2 l2 = some r := by
  induction n with
  | zero =>
    intro k i hi hk
    obtain ⟨k, rfl⟩ : ∃ m, k = m + 1 := ⟨k - 1, by omega⟩
    simp only [spec_VecCmp.l0, impl_VecCmp.l0]
    rw [if_neg (by omega), if_neg (by omega)]
    exact ⟨_, rfl, rfl⟩
  | succ n ih =>
    intro k i hi hk
    obtain ⟨k, rfl⟩ : ∃ m, k = m + 1 := ⟨k - 1, by omega⟩
    obtain ⟨r, h1, h2⟩ := ih k (i + 1) (by omega) (by omega)
    rw [Int.natCast_add] at h1 h2
    have h1' : spec_VecCmp.l0 k ((i : Int) + 1) d1 l1 d2 l2 = some r := h1
    have h2' : impl_VecCmp.l0 k l1 (l1.length : Int) ((i : Int) + 1) d1 l1 d2 l2 = some r := h2
    simp only [spec_VecCmp.l0, impl_VecCmp.l0]
    simp only [if_pos (show (i : Int) < (l1.length : Int) from by omega), if_pos (show (0 : Int) ≤ (i : Int) from by omega), if_pos (show (i : Int) < (l2.length : Int) from by omega), compare_eq, Option.bind_some, wr (x := (i : Int) + 1) (by omega) (by omega), h1', h2']
    generalize wrap64 (rd l1 (i : Int) * d2) = x
    generalize wrap64 (rd l2 (i : Int) * d1) = y
    by_cases ha : x < y
    · simp only [if_pos ha]; exact ⟨-1, rfl, rfl⟩
    · by_cases hb : x > y
      · simp only [if_neg ha, if_pos hb]; exact ⟨1, rfl, rfl⟩
      · simp only [if_neg ha, if_neg hb, if_true]; exact ⟨r, rfl, rfl⟩
theorem cmp_both (k : Nat) (d1 d2 : Int) (l1 l2 : List Int) (hk : 4000000 ≤ k) : ∃ r, spec_VecCmp.f k d1 l1 d2 l2 = some r ∧ impl_VecCmp.f k d1 l1 d2 l2 = some r := by
  unfold spec_VecCmp.f impl_VecCmp.f
  rw [vok_any k d1 l1 hk, vok_any k d2 l2 hk, isVec_eq, isVec_eq]
  simp only [Option.bind_some]
  obtain ⟨K, hK⟩ : ∃ m, k = m + 1 := ⟨k - 1, by omega⟩
  cases h1 : hv_okB d1 l1
  · simp only [Bool.false_eq_true, if_false]
    rw [hK]; simp only [spec_VecCmp.j0, impl_VecCmp.j0, if_true]; exact ⟨2, rfl, rfl⟩
  · cases h2 : hv_okB d2 l2
    · simp only [Bool.false_eq_true, if_false, if_true]
      rw [hK]; simp only [spec_VecCmp.j0, impl_VecCmp.j0, if_true]; exact ⟨2, rfl, rfl⟩
    · simp only [if_true]
      have b1 := okB_len h1
      rw [hK]; simp only [spec_VecCmp.j0, impl_VecCmp.j0]
      by_cases hl : l1.length = l2.length
      · have e : ((l1.length : Int) != (l2.length : Int)) = false := by simp; omega
        simp only [e, Bool.false_eq_true, if_false]
        exact cmp_loop d1 d2 l1 l2 hl b1 l1.length K 0 (by omega) (by omega)
      · have e : ((l1.length : Int) != (l2.length : Int)) = true := by simp; omega
        simp only [e, if_true]
        exact ⟨2, rfl, rfl⟩
theorem FnExactVecCmp (d1 d2 : Int) (l1 l2 : List Int) (hm1 : l1.length ≤ maxLen) (hm2 : l2.length ≤ maxLen) : ∃ k, laws_FnExactVecCmp.f k d1 l1 d2 l2 = some true := by
  unfold maxLen at hm1 hm2
  refine ⟨6000000, ?_⟩
  obtain ⟨K, hK⟩ : ∃ K, 6000000 = K := ⟨_, rfl⟩
  rw [hK]
  have hK : 6000000 ≤ K := by omega
  unfold laws_FnExactVecCmp.f
  rw [szVec_eq d1 l1 1048576 (by omega) (by omega) (by omega)]
  simp only [Option.bind_some]
  by_cases h : (1048576 : Int) - l1.length < 0
  · simp only [if_pos h]; rw [if_pos (by decide)]
  · simp only [if_neg h]
    rw [szVec_eq d2 l2 _ (by omega) (by omega) (by omega)]
    simp only [Option.bind_some]
    by_cases h2 : (1048576 : Int) - l1.length - l2.length < 0
    · simp only [if_pos h2]; rw [if_pos (by decide)]
    · simp only [if_neg h2]
      obtain ⟨r, e1, e2⟩ := cmp_both K d1 d2 l1 l2 (by omega)
      simp only [toVec_eq K d1 l1 (by omega) (by omega), toVec_eq K d2 l2 (by omega) (by omega), Option.bind_some, e1, e2, if_true]
      rw [eqVec_eq K d1 d1 l1 l1 (by omega) (by omega)]
      simp only [and_self, decide_true, Option.bind_some, if_true]
      rw [eqVec_eq K d2 d2 l2 l2 (by omega) (by omega)]
      simp
theorem vecCmp_walk (d : Int) (a0 : Option Addr) (len0 cap0 : Nat) (z0 : List Int) (e : Int) (a1 : Option Addr) (len1 cap1 : Nat) (z1 : List Int) (w : World) (_ : (Lit.int .i64 d).wf = true) (w0 : (a0 = none ∧ len0 = 0 ∧ cap0 = 0 ∧ z0 = []) ∨ ∃ x, a0 = some x ∧ len0 ≤ cap0 ∧ cap0 ≤ maxLen ∧ z0.length = cap0 ∧ (∀ i, i < z0.length → w.cell? (x.add i) = some (.int .i64 (z0.getD i 0))) ∧ ∀ n ∈ z0, (Lit.int .i64 n).wf = true) (_ : (Lit.int .i64 e).wf = true) (w1 : (a1 = none ∧ len1 = 0 ∧ cap1 = 0 ∧ z1 = []) ∨ ∃ x, a1 = some x ∧ len1 ≤ cap1 ∧ cap1 ≤ maxLen ∧ z1.length = cap1 ∧ (∀ i, i < z1.length → w.cell? (x.add i) = some (.int .i64 (z1.getD i 0))) ∧ ∀ n ∈ z1, (Lit.int .i64 n).wf = true) :
    Calls Try.prog 4 #[.agg #[.int .i64 d, .slice a0 len0 cap0], .agg #[.int .i64 e, .slice a1 len1 cap1]] w fun e w' => e = .returned (.bool true) ∧ Below w.heap.size w w' := by
  obtain ⟨l0, rfl, hr0, hm0, _, hc0⟩ := ReadsInt.ofRowC w0
  obtain ⟨l1, rfl, hr1, hm1, _, hc1⟩ := ReadsInt.ofRowC w1
  obtain ⟨k, h⟩ := FnExactVecCmp d e l0 l1 hm0 hm1
  exact laws_FnExactVecCmp.calls k d _ _ l0 e _ _ l1 true w (Kd.C_of_reads (d := (0 : Int)) (h1 := fun _ => rfl) hr0) hc0 (Kd.C_of_reads (d := (0 : Int)) (h1 := fun _ => rfl) hr1) hc1 h

end Go.Proofs.Ytjdndacollpjkaa.Pure
