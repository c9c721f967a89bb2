/- DecText tells every whole number's numeral. -/
import Derived.Test.YtamkekhdnkeciaaDoorMFnExactDecTextx1
import Derived.Lib.ItoaNum
namespace Go.Proofs.YtamkekhdnkeciaaDoor.Pure
set_option linter.unusedVariables false
set_option linter.unusedSimpArgs false
open Go.RowKit Go.Proofs.YtamkekhdnkeciaaDoor.PFnExactDecText Go.Proofs.YtamkekhdnkeciaaDoorW.PrintWords Go.Proofs.YtamkekhdnkeciaaDoorW.PrintLast
namespace AFnExactDecText

theorem wr {x : Int} (h1 : -9223372036854775808 ≤ x) (h2 : x ≤ 9223372036854775807) : wrap64 x = x := by
  unfold wrap64; omega

theorem digit (a : Nat) (h : a < 10) : (⟨#[48, 49, 50, 51, 52, 53, 54, 55, 56, 57]⟩ : ByteArray).extract a (a + 1) = ⟨#[UInt8.ofNat (48 + a)]⟩ := by
  have : a = 0 ∨ a = 1 ∨ a = 2 ∨ a = 3 ∨ a = 4 ∨ a = 5 ∨ a = 6 ∨ a = 7 ∨ a = 8 ∨ a = 9 := by omega
  rcases this with rfl | rfl | rfl | rfl | rfl | rfl | rfl | rfl | rfl | rfl <;> rfl
theorem app_ba (l : List UInt8) (b : UInt8) (x : ByteArray) : (⟨l.toArray⟩ : ByteArray) ++ ((⟨#[b]⟩ : ByteArray) ++ x) = (⟨(l ++ [b]).toArray⟩ : ByteArray) ++ x := by
  apply ByteArray.ext
  simp [ByteArray.data_append]
/-- one digit off -/
theorem dec_step (n m : Int) (out : ByteArray) (h0 : m ≠ 0) (h1 : -9223372036854775808 ≤ m) (h2 : m ≤ 9223372036854775807) (hs : out.size ≤ 1000) (k : Nat) :
    spec_DecText.l0 (k + 1) n out m = spec_DecText.l0 k n ((⟨#[UInt8.ofNat (48 + m.natAbs % 10)]⟩ : ByteArray) ++ out) (Int.tdiv m 10) := by
  have ht : (Int.tmod m 10).natAbs = m.natAbs % 10 := Int.natAbs_tmod m 10
  have hd : (Int.tdiv m 10).natAbs = m.natAbs / 10 := Int.natAbs_tdiv m 10
  have hlt : m.natAbs % 10 < 10 := Nat.mod_lt _ (by omega)
  have hq := digit _ hlt
  have hsz : ((⟨#[UInt8.ofNat (48 + m.natAbs % 10)]⟩ : ByteArray)).size = 1 := rfl
  have hw : wrap64 (Int.tdiv m 10) = Int.tdiv m 10 := wr (by omega) (by omega)
  simp only [spec_DecText.l0]
  rw [if_neg h0]
  by_cases hneg : Int.tmod m 10 < 0
  · have e : wrap64 (-(Int.tmod m 10)) = ((m.natAbs % 10 : Nat) : Int) := by rw [wr (by omega) (by omega)]; omega
    rw [if_pos hneg]
    rw [e, wr (x := ((m.natAbs % 10 : Nat) : Int) + 1) (by omega) (by omega)]
    have e2 : (((m.natAbs % 10 : Nat) : Int) + 1).toNat = m.natAbs % 10 + 1 := by omega
    rw [Int.toNat_natCast, e2, hq, hsz, if_pos (by omega), if_pos (by omega), if_pos (by omega), if_pos (by omega), hw]
  · have e : Int.tmod m 10 = ((m.natAbs % 10 : Nat) : Int) := by omega
    rw [if_neg hneg]
    rw [e, wr (x := ((m.natAbs % 10 : Nat) : Int) + 1) (by omega) (by omega)]
    have e2 : (((m.natAbs % 10 : Nat) : Int) + 1).toNat = m.natAbs % 10 + 1 := by omega
    rw [Int.toNat_natCast, e2, hq, hsz, if_pos (by omega), if_pos (by omega), if_pos (by omega), if_pos (by omega), hw]
theorem dec_loop (n : Int) (d : Nat) : ∀ (m : Int) (out : ByteArray), m.natAbs < 10 ^ (d + 1) → m ≠ 0 → -9223372036854775808 ≤ m → m ≤ 9223372036854775807 → out.size + d ≤ 999 →
    ∃ c, ∀ k, spec_DecText.l0 (k + c) n out m = spec_DecText.l0 k n ((⟨(Lib.decDigits m.natAbs).toArray⟩ : ByteArray) ++ out) 0 := by
  induction d with
  | zero =>
    intro m out hm h0 h1 h2 hs
    refine ⟨1, fun k => ?_⟩
    have h10 : m.natAbs < 10 := by simpa using hm
    rw [dec_step n m out h0 h1 h2 (by omega) k]
    have e1 : Int.tdiv m 10 = 0 := by
      have hd : (Int.tdiv m 10).natAbs = m.natAbs / 10 := Int.natAbs_tdiv m 10
      rw [Nat.div_eq_of_lt h10] at hd
      omega
    have e2 : Lib.decDigits m.natAbs = [UInt8.ofNat (48 + m.natAbs)] := by rw [Lib.decDigits, dif_pos h10]
    rw [e1, e2, Nat.mod_eq_of_lt h10]
  | succ d ih =>
    intro m out hm h0 h1 h2 hs
    by_cases h10 : m.natAbs < 10
    · refine ⟨1, fun k => ?_⟩
      rw [dec_step n m out h0 h1 h2 (by omega) k]
      have e1 : Int.tdiv m 10 = 0 := by
        have hd : (Int.tdiv m 10).natAbs = m.natAbs / 10 := Int.natAbs_tdiv m 10
        rw [Nat.div_eq_of_lt h10] at hd
        omega
      have e2 : Lib.decDigits m.natAbs = [UInt8.ofNat (48 + m.natAbs)] := by rw [Lib.decDigits, dif_pos h10]
      rw [e1, e2, Nat.mod_eq_of_lt h10]
    · have hd : (Int.tdiv m 10).natAbs = m.natAbs / 10 := Int.natAbs_tdiv m 10
      have hp : 10 ^ (d + 1 + 1) = 10 ^ (d + 1) * 10 := Nat.pow_succ ..
      obtain ⟨c, hc⟩ := ih (Int.tdiv m 10) ((⟨#[UInt8.ofNat (48 + m.natAbs % 10)]⟩ : ByteArray) ++ out) (by
        rw [hd]; exact Nat.div_lt_of_lt_mul (by omega)) (by omega) (by omega) (by omega) (by
        rw [ByteArray.size_append]
        show 1 + out.size + d ≤ 999
        omega)
      refine ⟨c + 1, fun k => ?_⟩
      rw [show k + (c + 1) = (k + c) + 1 from by omega, dec_step n m out h0 h1 h2 (by omega) (k + c), hc k, app_ba, hd]
      have e2 : Lib.decDigits m.natAbs = Lib.decDigits (m.natAbs / 10) ++ [UInt8.ofNat (48 + m.natAbs % 10)] := by
        rw [Lib.decDigits, dif_neg h10]
      rw [e2]
theorem nil_app (x : ByteArray) : x ++ (⟨#[]⟩ : ByteArray) = x := by
  apply ByteArray.ext
  simp [ByteArray.data_append]
theorem dec_size (u : Nat) : ∀ d, u < 10 ^ (d + 1) → (Lib.decDigits u).length ≤ d + 1 := by
  intro d
  induction d generalizing u with
  | zero => intro h; rw [Lib.decDigits, dif_pos (by simpa using h)]; simp
  | succ d ih =>
    intro h
    by_cases h10 : u < 10
    · rw [Lib.decDigits, dif_pos h10]; simp
    · rw [Lib.decDigits, dif_neg h10]
      have hp : 10 ^ (d + 1 + 1) = 10 ^ (d + 1) * 10 := Nat.pow_succ ..
      have := ih (u / 10) (Nat.div_lt_of_lt_mul (by omega))
      simp; omega
theorem decText_eq (n : Int) (h1 : -9223372036854775808 ≤ n) (h2 : n ≤ 9223372036854775807) : ∃ K, ∀ k, K ≤ k → spec_DecText.f k n = some ⟨(Lib.itoa n).toArray⟩ := by
  by_cases h0 : n = 0
  · refine ⟨0, fun k _ => ?_⟩
    unfold spec_DecText.f
    rw [if_pos h0]
    subst h0
    have : Lib.itoa 0 = [48] := by
      unfold Lib.itoa
      rw [if_neg (by decide)]
      show Lib.decDigits 0 = [48]
      rw [Lib.decDigits, dif_pos (by decide)]; rfl
    rw [this]
  · have hb : n.natAbs < 10 ^ (18 + 1) := by have : (10 : Nat) ^ (18 + 1) = 10000000000000000000 := by decide
                                             omega
    obtain ⟨c, hc⟩ := dec_loop n 18 n ⟨#[]⟩ hb h0 h1 h2 (by decide)
    refine ⟨c + 1, fun k hk => ?_⟩
    obtain ⟨k, rfl⟩ : ∃ m, k = (m + 1) + c := ⟨k - c - 1, by omega⟩
    unfold spec_DecText.f
    rw [if_neg h0, hc (k + 1), nil_app]
    simp only [spec_DecText.l0]
    rw [if_pos trivial]
    have hsz : (⟨(Lib.decDigits n.natAbs).toArray⟩ : ByteArray).size ≤ 19 := by
      show (Lib.decDigits n.natAbs).toArray.size ≤ 19
      simp only [List.size_toArray]
      exact dec_size _ 18 hb
    unfold Lib.itoa
    by_cases hneg : n < 0
    · rw [if_pos hneg, if_pos hneg, if_pos (by omega)]
      congr 1
    · rw [if_neg hneg, if_neg hneg]
      congr 2
      have : n.toNat = n.natAbs := by omega
      rw [this]
end AFnExactDecText
open AFnExactDecText

end Go.Proofs.YtamkekhdnkeciaaDoor.Pure
