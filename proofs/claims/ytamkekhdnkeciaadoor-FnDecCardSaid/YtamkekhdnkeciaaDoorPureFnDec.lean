/- The numbers that the law FnDec draws; their numerals. -/
import Derived.Test.YtamkekhdnkeciaaDoorMFnDecx1
import Derived.Lib.ItoaNum
import Derived.Test.YtamkekhdnkeciaaDoorNum
namespace Go.Proofs.YtamkekhdnkeciaaDoor.Pure
set_option linter.unusedVariables false
set_option linter.unusedSimpArgs false
open Go.RowKit Go.Proofs.YtamkekhdnkeciaaDoor.PFnDec Go.Proofs.YtamkekhdnkeciaaDoorW.PrintWords Go.Proofs.YtamkekhdnkeciaaDoorW.PrintLast
namespace AFnDec

theorem wr {x : Int} (h1 : -9223372036854775808 ≤ x) (h2 : x ≤ 9223372036854775807) : wrap64 x = x := by
  unfold wrap64; omega

theorem digit (a : Nat) (h : a < 10) : (⟨#[48, 49, 50, 51, 52, 53, 54, 55, 56, 57]⟩ : ByteArray).extract a (a + 1) = ⟨#[UInt8.ofNat (48 + a)]⟩ := by
  have : a = 0 ∨ a = 1 ∨ a = 2 ∨ a = 3 ∨ a = 4 ∨ a = 5 ∨ a = 6 ∨ a = 7 ∨ a = 8 ∨ a = 9 := by omega
  rcases this with rfl | rfl | rfl | rfl | rfl | rfl | rfl | rfl | rfl | rfl <;> rfl
theorem app_ba (l : List UInt8) (b : UInt8) (x : ByteArray) : (⟨l.toArray⟩ : ByteArray) ++ ((⟨#[b]⟩ : ByteArray) ++ x) = (⟨(l ++ [b]).toArray⟩ : ByteArray) ++ x := by
  apply ByteArray.ext
  simp [ByteArray.data_append]
/-- one digit off -/
theorem dec_step (n m : Int) (out : ByteArray) (h0 : m ≠ 0) (h1 : -9223372036854775808 ≤ m) (h2 : m ≤ 9223372036854775807) (hs : out.size ≤ 1000) (k : Nat) :
    spec_DecText.l0 (k + 1) n out m = spec_DecText.l0 k n ((⟨#[UInt8.ofNat (48 + m.natAbs % 10)]⟩ : ByteArray) ++ out) (Int.tdiv m 10) := by
  have ht : (Int.tmod m 10).natAbs = m.natAbs % 10 := Int.natAbs_tmod m 10
  have hd : (Int.tdiv m 10).natAbs = m.natAbs / 10 := Int.natAbs_tdiv m 10
  have hlt : m.natAbs % 10 < 10 := Nat.mod_lt _ (by omega)
  have hq := digit _ hlt
  have hsz : ((⟨#[UInt8.ofNat (48 + m.natAbs % 10)]⟩ : ByteArray)).size = 1 := rfl
  have hw : wrap64 (Int.tdiv m 10) = Int.tdiv m 10 := wr (by omega) (by omega)
  simp only [spec_DecText.l0]
  rw [if_neg h0]
  by_cases hneg : Int.tmod m 10 < 0
  · have e : wrap64 (-(Int.tmod m 10)) = ((m.natAbs % 10 : Nat) : Int) := by rw [wr (by omega) (by omega)]; omega
    rw [if_pos hneg]
    rw [e, wr (x := ((m.natAbs % 10 : Nat) : Int) + 1) (by omega) (by omega)]
    have e2 : (((m.natAbs % 10 : Nat) : Int) + 1).toNat = m.natAbs % 10 + 1 := by omega
    rw [Int.toNat_natCast, e2, hq, hsz, if_pos (by omega), if_pos (by omega), if_pos (by omega), if_pos (by omega), hw]
  · have e : Int.tmod m 10 = ((m.natAbs % 10 : Nat) : Int) := by omega
    rw [if_neg hneg]
    rw [e, wr (x := ((m.natAbs % 10 : Nat) : Int) + 1) (by omega) (by omega)]
    have e2 : (((m.natAbs % 10 : Nat) : Int) + 1).toNat = m.natAbs % 10 + 1 := by omega
    rw [Int.toNat_natCast, e2, hq, hsz, if_pos (by omega), if_pos (by omega), if_pos (by omega), if_pos (by omega), hw]
theorem dec_loop (n : Int) (d : Nat) : ∀ (m : Int) (out : ByteArray), m.natAbs < 10 ^ (d + 1) → m ≠ 0 → -9223372036854775808 ≤ m → m ≤ 9223372036854775807 → out.size + d ≤ 999 →
    ∃ c, ∀ k, spec_DecText.l0 (k + c) n out m = spec_DecText.l0 k n ((⟨(Lib.decDigits m.natAbs).toArray⟩ : ByteArray) ++ out) 0 := by
  induction d with
  | zero =>
    intro m out hm h0 h1 h2 hs
    refine ⟨1, fun k => ?_⟩
    have h10 : m.natAbs < 10 := by simpa using hm
    rw [dec_step n m out h0 h1 h2 (by omega) k]
    have e1 : Int.tdiv m 10 = 0 := by
      have hd : (Int.tdiv m 10).natAbs = m.natAbs / 10 := Int.natAbs_tdiv m 10
      rw [Nat.div_eq_of_lt h10] at hd
      omega
    have e2 : Lib.decDigits m.natAbs = [UInt8.ofNat (48 + m.natAbs)] := by rw [Lib.decDigits, dif_pos h10]
    rw [e1, e2, Nat.mod_eq_of_lt h10]
  | succ d ih =>
    intro m out hm h0 h1 h2 hs
    by_cases h10 : m.natAbs < 10
    · refine ⟨1, fun k => ?_⟩
      rw [dec_step n m out h0 h1 h2 (by omega) k]
      have e1 : Int.tdiv m 10 = 0 := by
        have hd : (Int.tdiv m 10).natAbs = m.natAbs / 10 := Int.natAbs_tdiv m 10
        rw [Nat.div_eq_of_lt h10] at hd
        omega
      have e2 : Lib.decDigits m.natAbs = [UInt8.ofNat (48 + m.natAbs)] := by rw [Lib.decDigits, dif_pos h10]
      rw [e1, e2, Nat.mod_eq_of_lt h10]
    · have hd : (Int.tdiv m 10).natAbs = m.natAbs / 10 := Int.natAbs_tdiv m 10
      have hp : 10 ^ (d + 1 + 1) = 10 ^ (d + 1) * 10 := Nat.pow_succ ..
      obtain ⟨c, hc⟩ := ih (Int.tdiv m 10) ((⟨#[UInt8.ofNat (48 + m.natAbs % 10)]⟩ : ByteArray) ++ out) (by
        rw [hd]; exact Nat.div_lt_of_lt_mul (by omega)) (by omega) (by omega) (by omega) (by
        rw [ByteArray.size_append]
        show 1 + out.size + d ≤ 999
        omega)
      refine ⟨c + 1, fun k => ?_⟩
      rw [show k + (c + 1) = (k + c) + 1 from by omega, dec_step n m out h0 h1 h2 (by omega) (k + c), hc k, app_ba, hd]
      have e2 : Lib.decDigits m.natAbs = Lib.decDigits (m.natAbs / 10) ++ [UInt8.ofNat (48 + m.natAbs % 10)] := by
        rw [Lib.decDigits, dif_neg h10]
      rw [e2]
theorem nil_app (x : ByteArray) : x ++ (⟨#[]⟩ : ByteArray) = x := by
  apply ByteArray.ext
  simp [ByteArray.data_append]
theorem dec_size (u : Nat) : ∀ d, u < 10 ^ (d + 1) → (Lib.decDigits u).length ≤ d + 1 := by
  intro d
  induction d generalizing u with
  | zero => intro h; rw [Lib.decDigits, dif_pos (by simpa using h)]; simp
  | succ d ih =>
    intro h
    by_cases h10 : u < 10
    · rw [Lib.decDigits, dif_pos h10]; simp
    · rw [Lib.decDigits, dif_neg h10]
      have hp : 10 ^ (d + 1 + 1) = 10 ^ (d + 1) * 10 := Nat.pow_succ ..
      have := ih (u / 10) (Nat.div_lt_of_lt_mul (by omega))
      simp; omega
theorem decText_eq (n : Int) (h1 : -9223372036854775808 ≤ n) (h2 : n ≤ 9223372036854775807) : ∃ K, ∀ k, K ≤ k → spec_DecText.f k n = some ⟨(Lib.itoa n).toArray⟩ := by
  by_cases h0 : n = 0
  · refine ⟨0, fun k _ => ?_⟩
    unfold spec_DecText.f
    rw [if_pos h0]
    subst h0
    have : Lib.itoa 0 = [48] := by
      unfold Lib.itoa
      rw [if_neg (by decide)]
      show Lib.decDigits 0 = [48]
      rw [Lib.decDigits, dif_pos (by decide)]; rfl
    rw [this]
  · have hb : n.natAbs < 10 ^ (18 + 1) := by have : (10 : Nat) ^ (18 + 1) = 10000000000000000000 := by decide
                                             omega
    obtain ⟨c, hc⟩ := dec_loop n 18 n ⟨#[]⟩ hb h0 h1 h2 (by decide)
    refine ⟨c + 1, fun k hk => ?_⟩
    obtain ⟨k, rfl⟩ : ∃ m, k = (m + 1) + c := ⟨k - c - 1, by omega⟩
    unfold spec_DecText.f
    rw [if_neg h0, hc (k + 1), nil_app]
    simp only [spec_DecText.l0]
    rw [if_pos trivial]
    have hsz : (⟨(Lib.decDigits n.natAbs).toArray⟩ : ByteArray).size ≤ 19 := by
      show (Lib.decDigits n.natAbs).toArray.size ≤ 19
      simp only [List.size_toArray]
      exact dec_size _ 18 hb
    unfold Lib.itoa
    by_cases hneg : n < 0
    · rw [if_pos hneg, if_pos hneg, if_pos (by omega)]
      congr 1
    · rw [if_neg hneg, if_neg hneg]
      congr 2
      have : n.toNat = n.natAbs := by omega
      rw [this]

theorem and_range (x : Int) : 0 ≤ Go.bits .and .i64 x 255 ∧ Go.bits .and .i64 x 255 ≤ 255 := by
  have h : Go.bits .and .i64 x 255 = IntKind.i64.wrap ((BitVec.ofInt 64 x &&& BitVec.ofInt 64 255).toNat : Int) := rfl
  rw [h, BitVec.toNat_and]
  have h2 : (BitVec.ofInt 64 255).toNat = 255 := by decide
  rw [h2]
  have h3 : (BitVec.ofInt 64 x).toNat &&& 255 ≤ 255 := Nat.and_le_right
  rw [IntKind.wrap_i64]
  omega
theorem byte_some (b : List Int) (i h : Int) (hi : 0 ≤ i) (hn : b.length ≤ 9223372036854775806) : ∃ r i' h', spec_l01Byte.f b i h = some (r, i', h') ∧ 0 ≤ r ∧ r ≤ 255 ∧ 0 ≤ i' := by
  unfold spec_l01Byte.f
  by_cases hlt : i < (b.length : Int)
  · rw [if_pos hlt, if_pos hi]
    exact ⟨_, _, _, rfl, (and_range _).1, (and_range _).2, by rw [wr (by omega) (by omega)]; omega⟩
  · rw [if_neg hlt]
    exact ⟨_, _, _, rfl, (and_range _).1, (and_range _).2, hi⟩
theorem below_some (b : List Int) (i h n : Int) (hi : 0 ≤ i) (hn : b.length ≤ 9223372036854775806) : ∃ r i' h', spec_l01Below.f b i h n = some (r, i', h') ∧ 0 ≤ r ∧ (0 < n → r < n) ∧ (n ≤ 0 → r = 0) ∧ 0 ≤ i' := by
  unfold spec_l01Below.f
  by_cases h0 : n ≤ 0
  · rw [if_pos h0]; exact ⟨_, _, _, rfl, by omega, fun h => by omega, fun _ => rfl, hi⟩
  · rw [if_neg h0]
    by_cases h1 : n ≤ 256
    · rw [if_pos h1]
      obtain ⟨r, i1, h1, e1, ra, rb, hi1⟩ := byte_some b i h hi hn
      rw [e1]
      simp only [Option.bind_some]
      rw [if_neg (by omega)]
      refine ⟨_, _, _, rfl, ?_, fun _ => ?_, fun h => absurd h h0, hi1⟩
      · rw [Int.tmod_eq_emod_of_nonneg ra]; exact Int.emod_nonneg _ (by omega)
      · rw [Int.tmod_eq_emod_of_nonneg ra]; exact Int.emod_lt_of_pos _ (by omega)
    · rw [if_neg h1]
      obtain ⟨r1, i1, h1, e1, ra1, rb1, hi1⟩ := byte_some b i h hi hn
      obtain ⟨r2, i2, h2, e2, ra2, rb2, hi2⟩ := byte_some b i1 h1 hi1 hn
      obtain ⟨r3, i3, h3, e3, ra3, rb3, hi3⟩ := byte_some b i2 h2 hi2 hn
      obtain ⟨r4, i4, h4, e4, ra4, rb4, hi4⟩ := byte_some b i3 h3 hi3 hn
      rw [e1]; simp only [Option.bind_some]
      rw [e2]; simp only [Option.bind_some]
      rw [e3]; simp only [Option.bind_some]
      rw [e4]; simp only [Option.bind_some]
      rw [if_neg (by omega), wr (x := r1 * 16777216) (by omega) (by omega), wr (x := r2 * 65536) (by omega) (by omega), wr (x := r3 * 256) (by omega) (by omega)]
      rw [wr (x := r1 * 16777216 + r2 * 65536) (by omega) (by omega), wr (x := r1 * 16777216 + r2 * 65536 + r3 * 256) (by omega) (by omega), wr (x := r1 * 16777216 + r2 * 65536 + r3 * 256 + r4) (by omega) (by omega)]
      have hnn : 0 ≤ r1 * 16777216 + r2 * 65536 + r3 * 256 + r4 := by omega
      refine ⟨_, _, _, rfl, ?_, fun _ => ?_, fun h => absurd h h0, hi4⟩
      · rw [Int.tmod_eq_emod_of_nonneg hnn]; exact Int.emod_nonneg _ (by omega)
      · rw [Int.tmod_eq_emod_of_nonneg hnn]; exact Int.emod_lt_of_pos _ (by omega)
theorem new_loop (b : List Int) (hn : b.length ≤ 9223372036854775806) (d : Nat) : ∀ (k i : Nat) (h : Int), i + d = b.length → d < k → ∃ h', spec_l01New.l0 k b h (i : Int) = some (b, 0, h') := by
  induction d with
  | zero =>
    intro k i h hi hk
    obtain ⟨k, rfl⟩ : ∃ m, k = m + 1 := ⟨k - 1, by omega⟩
    simp only [spec_l01New.l0]
    rw [if_neg (by omega)]
    exact ⟨_, rfl⟩
  | succ d ih =>
    intro k i h hi hk
    obtain ⟨k, rfl⟩ : ∃ m, k = m + 1 := ⟨k - 1, by omega⟩
    simp only [spec_l01New.l0]
    rw [if_pos (by omega)]
    by_cases h4 : (i : Int) < 4000
    · rw [if_pos h4, if_pos (by omega), wr (x := (i : Int) + 1) (by omega) (by omega)]
      exact ih k (i + 1) _ (by omega) (by omega)
    · rw [if_neg h4]; exact ⟨_, rfl⟩
theorem new_some (b : List Int) (hn : b.length ≤ 9223372036854775806) (k : Nat) (hk : b.length < k) : ∃ h, spec_l01New.f k b = some (b, 0, h) := by
  unfold spec_l01New.f
  exact new_loop b hn b.length k 0 _ (by omega) hk

theorem pickInt_some (b : List Int) (i h : Int) (l : List Int) (hi : 0 ≤ i) (hn : b.length ≤ 9223372036854775806) (hl : 0 < l.length) : ∃ r i' h', spec_l01PickInt.f b i h l = some (r, i', h') ∧ r ∈ l ∧ 0 ≤ i' := by
  unfold spec_l01PickInt.f
  obtain ⟨r, i', h', e, h0, h1, _, hi'⟩ := below_some b i h (l.length : Int) hi hn
  have h1 := h1 (by omega)
  rw [e]; simp only [Option.bind_some]
  rw [if_pos h0, if_pos h1]
  obtain ⟨n, rfl⟩ := Int.eq_ofNat_of_zero_le h0
  have hn' : n < l.length := by omega
  refine ⟨_, _, _, rfl, ?_, hi'⟩
  unfold rd
  simp [List.getD, List.getElem?_eq_getElem hn']

theorem num_some (b : List Int) (i h : Int) (hi : 0 ≤ i) (hn : b.length ≤ 9223372036854775806) : ∃ r i' h', spec_l01Num.f b i h = some (r, i', h') ∧ -9223372036854775808 ≤ r ∧ r ≤ 9223372036854775807 := by
  unfold spec_l01Num.f
  obtain ⟨r1, i1, h1, e1, a1, b1, _, hi1⟩ := below_some b i h 100000 hi hn
  obtain ⟨r2, i2, h2, e2, a2, b2, _, hi2⟩ := below_some b i1 h1 1000 hi1 hn
  obtain ⟨r3, i3, h3, e3, a3, b3, _, hi3⟩ := below_some b i2 h2 1000 hi2 hn
  rw [e1]; simp only [Option.bind_some]
  rw [e2]; simp only [Option.bind_some]
  rw [e3]; simp only [Option.bind_some]
  obtain ⟨r, i', h', e, hm, _⟩ := pickInt_some b i3 h3 [0, 1, (-1), 2, 6, 12, (-60), 999999999, 1000000000, (-1000000000), 1000000001, (-1000000001), 9223372036854775807, (-9223372036854775808), r1, wrap64 (6 * r2), wrap64 ((-10) * r3)] hi3 hn (by simp)
  rw [e]; simp only [Option.bind_some]
  have b1 := b1 (by omega)
  have b2 := b2 (by omega)
  have b3 := b3 (by omega)
  rw [wr (x := 6 * r2) (by omega) (by omega), wr (x := -10 * r3) (by omega) (by omega)] at hm
  refine ⟨r, i', h', rfl, ?_⟩
  simp only [List.mem_cons, List.not_mem_nil, or_false] at hm
  omega
theorem dec_some (b : List Int) (hn : b.length ≤ 1048576) : ∃ k r, spec_DrawDecText.f k b = some r ∧ -9223372036854775808 ≤ r ∧ r ≤ 9223372036854775807 := by
  obtain ⟨h, e⟩ := new_some b (by omega) (b.length + 1) (by omega)
  obtain ⟨r, i', h', e2, hr⟩ := num_some b 0 h (by omega) (by omega)
  refine ⟨b.length + 1, r, ?_, hr⟩
  unfold spec_DrawDecText.f
  rw [e]; simp only [Option.bind_some]
  rw [e2]; rfl
end AFnDec
open AFnDec

end Go.Proofs.YtamkekhdnkeciaaDoor.Pure
