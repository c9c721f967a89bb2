/- spec.ReadDec answers what the plain function rd answers. -/
import Derived.Test.YtamkekhdnkeciaaDoorMFnExactReadDecx1
import Derived.Lib.ItoaNum
import Derived.Test.YtamkekhdnkeciaaDoorNum
namespace Go.Proofs.YtamkekhdnkeciaaDoor.Pure
set_option linter.unusedVariables false
set_option linter.unusedSimpArgs false
open Go.RowKit Go.Proofs.YtamkekhdnkeciaaDoor.PFnExactReadDec Go.Proofs.YtamkekhdnkeciaaDoorW.PrintWords Go.Proofs.YtamkekhdnkeciaaDoorW.PrintLast
namespace AFnExactReadDec

theorem wr {x : Int} (h1 : -9223372036854775808 ≤ x) (h2 : x ≤ 9223372036854775807) : wrap64 x = x := by
  unfold wrap64; omega

theorem digit (a : Nat) (h : a < 10) : (⟨#[48, 49, 50, 51, 52, 53, 54, 55, 56, 57]⟩ : ByteArray).extract a (a + 1) = ⟨#[UInt8.ofNat (48 + a)]⟩ := by
  have : a = 0 ∨ a = 1 ∨ a = 2 ∨ a = 3 ∨ a = 4 ∨ a = 5 ∨ a = 6 ∨ a = 7 ∨ a = 8 ∨ a = 9 := by omega
  rcases this with rfl | rfl | rfl | rfl | rfl | rfl | rfl | rfl | rfl | rfl <;> rfl
theorem app_ba (l : List UInt8) (b : UInt8) (x : ByteArray) : (⟨l.toArray⟩ : ByteArray) ++ ((⟨#[b]⟩ : ByteArray) ++ x) = (⟨(l ++ [b]).toArray⟩ : ByteArray) ++ x := by
  apply ByteArray.ext
  simp [ByteArray.data_append]
/-- one digit off -/
theorem dec_step (n m : Int) (out : ByteArray) (h0 : m ≠ 0) (h1 : -9223372036854775808 ≤ m) (h2 : m ≤ 9223372036854775807) (hs : out.size ≤ 1000) (k : Nat) :
    spec_DecText.l0 (k + 1) n out m = spec_DecText.l0 k n ((⟨#[UInt8.ofNat (48 + m.natAbs % 10)]⟩ : ByteArray) ++ out) (Int.tdiv m 10) := by
  have ht : (Int.tmod m 10).natAbs = m.natAbs % 10 := Int.natAbs_tmod m 10
  have hd : (Int.tdiv m 10).natAbs = m.natAbs / 10 := Int.natAbs_tdiv m 10
  have hlt : m.natAbs % 10 < 10 := Nat.mod_lt _ (by omega)
  have hq := digit _ hlt
  have hsz : ((⟨#[UInt8.ofNat (48 + m.natAbs % 10)]⟩ : ByteArray)).size = 1 := rfl
  have hw : wrap64 (Int.tdiv m 10) = Int.tdiv m 10 := wr (by omega) (by omega)
  simp only [spec_DecText.l0]
  rw [if_neg h0]
  by_cases hneg : Int.tmod m 10 < 0
  · have e : wrap64 (-(Int.tmod m 10)) = ((m.natAbs % 10 : Nat) : Int) := by rw [wr (by omega) (by omega)]; omega
    rw [if_pos hneg]
    rw [e, wr (x := ((m.natAbs % 10 : Nat) : Int) + 1) (by omega) (by omega)]
    have e2 : (((m.natAbs % 10 : Nat) : Int) + 1).toNat = m.natAbs % 10 + 1 := by omega
    rw [Int.toNat_natCast, e2, hq, hsz, if_pos (by omega), if_pos (by omega), if_pos (by omega), if_pos (by omega), hw]
  · have e : Int.tmod m 10 = ((m.natAbs % 10 : Nat) : Int) := by omega
    rw [if_neg hneg]
    rw [e, wr (x := ((m.natAbs % 10 : Nat) : Int) + 1) (by omega) (by omega)]
    have e2 : (((m.natAbs % 10 : Nat) : Int) + 1).toNat = m.natAbs % 10 + 1 := by omega
    rw [Int.toNat_natCast, e2, hq, hsz, if_pos (by omega), if_pos (by omega), if_pos (by omega), if_pos (by omega), hw]
theorem dec_loop (n : Int) (d : Nat) : ∀ (m : Int) (out : ByteArray), m.natAbs < 10 ^ (d + 1) → m ≠ 0 → -9223372036854775808 ≤ m → m ≤ 9223372036854775807 → out.size + d ≤ 999 →
    ∃ c, ∀ k, spec_DecText.l0 (k + c) n out m = spec_DecText.l0 k n ((⟨(Lib.decDigits m.natAbs).toArray⟩ : ByteArray) ++ out) 0 := by
  induction d with
  | zero =>
    intro m out hm h0 h1 h2 hs
    refine ⟨1, fun k => ?_⟩
    have h10 : m.natAbs < 10 := by simpa using hm
    rw [dec_step n m out h0 h1 h2 (by omega) k]
    have e1 : Int.tdiv m 10 = 0 := by
      have hd : (Int.tdiv m 10).natAbs = m.natAbs / 10 := Int.natAbs_tdiv m 10
      rw [Nat.div_eq_of_lt h10] at hd
      omega
    have e2 : Lib.decDigits m.natAbs = [UInt8.ofNat (48 + m.natAbs)] := by rw [Lib.decDigits, dif_pos h10]
    rw [e1, e2, Nat.mod_eq_of_lt h10]
  | succ d ih =>
    intro m out hm h0 h1 h2 hs
    by_cases h10 : m.natAbs < 10
    · refine ⟨1, fun k => ?_⟩
      rw [dec_step n m out h0 h1 h2 (by omega) k]
      have e1 : Int.tdiv m 10 = 0 := by
        have hd : (Int.tdiv m 10).natAbs = m.natAbs / 10 := Int.natAbs_tdiv m 10
        rw [Nat.div_eq_of_lt h10] at hd
        omega
      have e2 : Lib.decDigits m.natAbs = [UInt8.ofNat (48 + m.natAbs)] := by rw [Lib.decDigits, dif_pos h10]
      rw [e1, e2, Nat.mod_eq_of_lt h10]
    · have hd : (Int.tdiv m 10).natAbs = m.natAbs / 10 := Int.natAbs_tdiv m 10
      have hp : 10 ^ (d + 1 + 1) = 10 ^ (d + 1) * 10 := Nat.pow_succ ..
      obtain ⟨c, hc⟩ := ih (Int.tdiv m 10) ((⟨#[UInt8.ofNat (48 + m.natAbs % 10)]⟩ : ByteArray) ++ out) (by
        rw [hd]; exact Nat.div_lt_of_lt_mul (by omega)) (by omega) (by omega) (by omega) (by
        rw [ByteArray.size_append]
        show 1 + out.size + d ≤ 999
        omega)
      refine ⟨c + 1, fun k => ?_⟩
      rw [show k + (c + 1) = (k + c) + 1 from by omega, dec_step n m out h0 h1 h2 (by omega) (k + c), hc k, app_ba, hd]
      have e2 : Lib.decDigits m.natAbs = Lib.decDigits (m.natAbs / 10) ++ [UInt8.ofNat (48 + m.natAbs % 10)] := by
        rw [Lib.decDigits, dif_neg h10]
      rw [e2]
theorem nil_app (x : ByteArray) : x ++ (⟨#[]⟩ : ByteArray) = x := by
  apply ByteArray.ext
  simp [ByteArray.data_append]
theorem dec_size (u : Nat) : ∀ d, u < 10 ^ (d + 1) → (Lib.decDigits u).length ≤ d + 1 := by
  intro d
  induction d generalizing u with
  | zero => intro h; rw [Lib.decDigits, dif_pos (by simpa using h)]; simp
  | succ d ih =>
    intro h
    by_cases h10 : u < 10
    · rw [Lib.decDigits, dif_pos h10]; simp
    · rw [Lib.decDigits, dif_neg h10]
      have hp : 10 ^ (d + 1 + 1) = 10 ^ (d + 1) * 10 := Nat.pow_succ ..
      have := ih (u / 10) (Nat.div_lt_of_lt_mul (by omega))
      simp; omega
theorem decText_eq (n : Int) (h1 : -9223372036854775808 ≤ n) (h2 : n ≤ 9223372036854775807) : ∃ K, ∀ k, K ≤ k → spec_DecText.f k n = some ⟨(Lib.itoa n).toArray⟩ := by
  by_cases h0 : n = 0
  · refine ⟨0, fun k _ => ?_⟩
    unfold spec_DecText.f
    rw [if_pos h0]
    subst h0
    have : Lib.itoa 0 = [48] := by
      unfold Lib.itoa
      rw [if_neg (by decide)]
      show Lib.decDigits 0 = [48]
      rw [Lib.decDigits, dif_pos (by decide)]; rfl
    rw [this]
  · have hb : n.natAbs < 10 ^ (18 + 1) := by have : (10 : Nat) ^ (18 + 1) = 10000000000000000000 := by decide
                                             omega
    obtain ⟨c, hc⟩ := dec_loop n 18 n ⟨#[]⟩ hb h0 h1 h2 (by decide)
    refine ⟨c + 1, fun k hk => ?_⟩
    obtain ⟨k, rfl⟩ : ∃ m, k = (m + 1) + c := ⟨k - c - 1, by omega⟩
    unfold spec_DecText.f
    rw [if_neg h0, hc (k + 1), nil_app]
    simp only [spec_DecText.l0]
    rw [if_pos trivial]
    have hsz : (⟨(Lib.decDigits n.natAbs).toArray⟩ : ByteArray).size ≤ 19 := by
      show (Lib.decDigits n.natAbs).toArray.size ≤ 19
      simp only [List.size_toArray]
      exact dec_size _ 18 hb
    unfold Lib.itoa
    by_cases hneg : n < 0
    · rw [if_pos hneg, if_pos hneg, if_pos (by omega)]
      congr 1
    · rw [if_neg hneg, if_neg hneg]
      congr 2
      have : n.toNat = n.natAbs := by omega
      rw [this]

open Go.Lib Go.Proofs.YtamkekhdnkeciaaDoor.Num
def digB (c : Int) : Bool := decide (48 ≤ c ∧ c ≤ 57)
theorem digS {c : Int} (h0 : 0 ≤ c) (h1 : c ≤ 255) : spec_l01Digit.f c = some (digB c) := by
  unfold spec_l01Digit.f spec_l01In.f digB
  rw [wr (by omega) (by omega)]
  by_cases h : 48 ≤ c <;> simp [h]
def dgB (c : UInt8) : Bool := decide (48 ≤ c.toNat ∧ c.toNat ≤ 57)
theorem dgB_iff {c : UInt8} : dgB c = true ↔ Dig c := by unfold dgB Dig; simp
theorem bt_list {s : ByteArray} {i : Nat} (h : i < s.data.toList.length) : bt s (i : Int) = ((s.data.toList[i]).toNat : Int) := by
  unfold bt
  have h' : i < s.size := by
    have : s.data.toList.length = s.size := Array.length_toList ..
    omega
  rw [Int.toNat_natCast, dif_pos h']
  rfl
def out (L : List UInt8) : Int := if L.all dgB = true then (if itoa (val 0 L : Nat) = L then (val 0 L : Nat) else -1) else -1
theorem arr_eq (a : List UInt8) (s : ByteArray) : ((⟨a.toArray⟩ : ByteArray).toList = s.toList) ↔ a = s.data.toList := by
  rw [Go.ByteArray.toList_eq, Go.ByteArray.toList_eq]
theorem rd_loop (s : ByteArray) (h9 : s.size ≤ 9) (K : Nat) (hK : ∀ k, K ≤ k → spec_DecText.f k ((val 0 s.data.toList : Nat) : Int) = some ⟨(itoa ((val 0 s.data.toList : Nat) : Int)).toArray⟩) (h1 : 1 ≤ s.size) (d : Nat) :
    ∀ (k i n : Nat), i + d = s.size → n < 10 ^ i → val n (s.data.toList.drop i) = val 0 s.data.toList → (s.data.toList.take i).all dgB = true → K + d < k → spec_ReadDec.l0 k s (n : Int) (i : Int) = some (out s.data.toList) := by
  have hlen : s.data.toList.length = s.size := Array.length_toList ..
  induction d with
  | zero =>
    intro k i n hi hn hv ha hk
    obtain ⟨k, rfl⟩ : ∃ m, k = m + 1 := ⟨k - 1, by omega⟩
    rw [List.drop_eq_nil_of_le (by omega)] at hv
    rw [List.take_of_length_le (by omega)] at ha
    have hv' : n = val 0 s.data.toList := hv
    simp only [spec_ReadDec.l0]
    rw [if_neg (by omega), if_neg (by
      rw [Go.ByteArray.toList_eq]; intro e; rw [e] at hlen; simp at hlen; omega), hv', hK k (by omega)]
    simp only [Option.bind_some]
    unfold out
    rw [if_pos ha]
    by_cases e : itoa ((val 0 s.data.toList : Nat) : Int) = s.data.toList
    · rw [if_pos ((arr_eq _ _).2 e), if_pos e]
    · rw [if_neg (fun x => e ((arr_eq _ _).1 x)), if_neg e]
  | succ d ih =>
    intro k i n hi hn hv ha hk
    obtain ⟨k, rfl⟩ : ∃ m, k = m + 1 := ⟨k - 1, by omega⟩
    have hlt : i < s.data.toList.length := by omega
    have hb := bt_list hlt
    have hc := (s.data.toList[i]).toNat_lt
    have hp : (10 : Nat) ^ i ≤ 10 ^ 8 := Nat.pow_le_pow_right (by decide) (by omega)
    have hp2 : (10 : Nat) ^ (i + 1) = 10 ^ i * 10 := Nat.pow_succ ..
    have hp3 : (10 : Nat) ^ 8 = 100000000 := by decide
    have hc2 : (s.data.toList[i]).toNat < 256 := hc
    simp only [spec_ReadDec.l0]
    rw [if_pos (by omega), if_pos (by omega), hb, digS (by omega) (by omega)]
    simp only [Option.bind_some]
    have hdg : digB (((s.data.toList[i]).toNat : Nat) : Int) = dgB (s.data.toList[i]) := by
      unfold digB dgB; rw [Bool.eq_iff_iff]; simp only [decide_eq_true_eq]; omega
    rw [hdg]
    cases hd : dgB (s.data.toList[i])
    · rw [if_neg (by decide)]
      unfold out
      rw [if_neg]
      intro e
      rw [List.all_eq_true] at e
      rw [e _ (List.getElem_mem hlt)] at hd
      cases hd
    · rw [if_pos rfl, if_neg (by omega)]
      have hD := dgB_iff.1 hd
      unfold Dig at hD
      rw [wr (x := 10 * (n : Int)) (by omega) (by omega), wr (x := (((s.data.toList[i]).toNat : Nat) : Int)) (by omega) (by omega), wr (x := 10 * (n : Int) + _) (by omega) (by omega), wr (x := 10 * (n : Int) + _ - 48) (by omega) (by omega), wr (x := (i : Int) + 1) (by omega) (by omega)]
      rw [List.drop_eq_getElem_cons hlt] at hv
      have e := ih k (i + 1) (n * 10 + ((s.data.toList[i]).toNat - 48)) (by omega) (by omega) hv (by
        rw [List.take_succ_eq_append_getElem hlt, List.all_append, ha, List.all_cons, hd]; rfl) (by omega)
      have e1 : ((n * 10 + ((s.data.toList[i]).toNat - 48) : Nat) : Int) = 10 * (n : Int) + (((s.data.toList[i]).toNat : Nat) : Int) - 48 := by omega
      have e2 : ((i + 1 : Nat) : Int) = (i : Int) + 1 := by omega
      rw [e1, e2] at e
      exact e
theorem out_rd (L : List UInt8) (h9 : L.length ≤ 9) : out L = rd L := by
  unfold out
  rcases rd_cases L with ⟨v, h0, h1, e, hr⟩ | ⟨hno, hr⟩
  · have e' : L = decDigits v.toNat := by rw [e]; unfold itoa; rw [if_neg (by omega)]
    have hall : L.all dgB = true := by rw [List.all_eq_true]; intro c hc; rw [e'] at hc; exact dgB_iff.2 (dec_dig _ c hc)
    have hv : ((val 0 L : Nat) : Int) = v := by rw [e', dec_val]; omega
    rw [if_pos hall, hv, if_pos e.symm, hr]
  · rw [hr]
    split
    · rename_i ha
      rw [if_neg]
      intro e
      have hb := val_bound L 0 (fun c hc => dgB_iff.1 (List.all_eq_true.1 ha c hc))
      have hp : (10 : Nat) ^ L.length ≤ 10 ^ 9 := Nat.pow_le_pow_right (by decide) h9
      have hp3 : (10 : Nat) ^ 9 = 1000000000 := by decide
      exact hno _ (by omega) (by omega) e.symm
    · rfl
theorem readDec_eq (s : ByteArray) : ∃ K, ∀ k, K ≤ k → spec_ReadDec.f k s = some (rd s.data.toList) := by
  have hlen : s.data.toList.length = s.size := Array.length_toList ..
  by_cases h0 : s.size = 0
  · refine ⟨1, fun k hk => ?_⟩
    obtain ⟨k, rfl⟩ : ∃ m, k = m + 1 := ⟨k - 1, by omega⟩
    have hnil : s.data.toList = [] := List.eq_nil_of_length_eq_zero (by omega)
    unfold spec_ReadDec.f
    simp only [spec_ReadDec.l0]
    rw [if_neg (by omega), if_pos (by rw [Go.ByteArray.toList_eq]; exact hnil), hnil]
    rfl
  · by_cases h9 : s.size ≤ 9
    · have hb : val 0 s.data.toList < 18446744073709551615 ∨ ¬ val 0 s.data.toList < 18446744073709551615 := by omega
      by_cases hall : s.data.toList.all dgB = true
      · have hb := val_bound s.data.toList 0 (fun c hc => dgB_iff.1 (List.all_eq_true.1 hall c hc))
        have hp : (10 : Nat) ^ s.data.toList.length ≤ 10 ^ 9 := Nat.pow_le_pow_right (by decide) (by omega)
        have hp3 : (10 : Nat) ^ 9 = 1000000000 := by decide
        obtain ⟨K, hK⟩ := decText_eq ((val 0 s.data.toList : Nat) : Int) (by omega) (by omega)
        refine ⟨K + s.size + 1, fun k hk => ?_⟩
        unfold spec_ReadDec.f
        have := rd_loop s h9 K hK (by omega) s.size k 0 0 (by omega) (by decide) (by simp) (by simp) (by omega)
        have this' : spec_ReadDec.l0 k s 0 0 = _ := this
        rw [this', out_rd _ (by omega)]
      · refine ⟨s.size + 1, fun k hk => ?_⟩
        rw [← out_rd _ (by omega)]
        have ho : out s.data.toList = -1 := by unfold out; rw [if_neg hall]
        rw [ho]
        -- the first byte that is no digit ends it
        have key : ∀ (d k i n : Nat), i + d = s.size → n < 10 ^ i → (s.data.toList.take i).all dgB = true → d < k → spec_ReadDec.l0 k s (n : Int) (i : Int) = some (-1) := by
          intro d
          induction d with
          | zero =>
            intro k i n hi hn ha hk
            rw [List.take_of_length_le (by omega)] at ha
            exact absurd ha hall
          | succ d ih =>
            intro k i n hi hn ha hk
            obtain ⟨k, rfl⟩ : ∃ m, k = m + 1 := ⟨k - 1, by omega⟩
            have hlt : i < s.data.toList.length := by omega
            have hb := bt_list hlt
            have hc2 : (s.data.toList[i]).toNat < 256 := (s.data.toList[i]).toNat_lt
            have hp : (10 : Nat) ^ i ≤ 10 ^ 8 := Nat.pow_le_pow_right (by decide) (by omega)
            have hp2 : (10 : Nat) ^ (i + 1) = 10 ^ i * 10 := Nat.pow_succ ..
            have hp3 : (10 : Nat) ^ 8 = 100000000 := by decide
            simp only [spec_ReadDec.l0]
            rw [if_pos (by omega), if_pos (by omega), hb, digS (by omega) (by omega)]
            simp only [Option.bind_some]
            have hdg : digB (((s.data.toList[i]).toNat : Nat) : Int) = dgB (s.data.toList[i]) := by
              unfold digB dgB; rw [Bool.eq_iff_iff]; simp only [decide_eq_true_eq]; omega
            rw [hdg]
            cases hd : dgB (s.data.toList[i])
            · rw [if_neg (by decide)]
            · rw [if_pos rfl, if_neg (by omega)]
              have hD := dgB_iff.1 hd
              unfold Dig at hD
              rw [wr (x := 10 * (n : Int)) (by omega) (by omega), wr (x := (((s.data.toList[i]).toNat : Nat) : Int)) (by omega) (by omega), wr (x := 10 * (n : Int) + _) (by omega) (by omega), wr (x := 10 * (n : Int) + _ - 48) (by omega) (by omega), wr (x := (i : Int) + 1) (by omega) (by omega)]
              have e := ih k (i + 1) (n * 10 + ((s.data.toList[i]).toNat - 48)) (by omega) (by omega) (by
                rw [List.take_succ_eq_append_getElem hlt, List.all_append, ha, List.all_cons, hd]; rfl) (by omega)
              have e1 : ((n * 10 + ((s.data.toList[i]).toNat - 48) : Nat) : Int) = 10 * (n : Int) + (((s.data.toList[i]).toNat : Nat) : Int) - 48 := by omega
              have e2 : ((i + 1 : Nat) : Int) = (i : Int) + 1 := by omega
              rw [e1, e2] at e
              exact e
        unfold spec_ReadDec.f
        exact key s.size k 0 0 (by omega) (by decide) (by simp) (by omega)
    · refine ⟨1, fun k hk => ?_⟩
      obtain ⟨k, rfl⟩ : ∃ m, k = m + 1 := ⟨k - 1, by omega⟩
      have hlt : 0 < s.data.toList.length := by omega
      have hb := bt_list hlt
      have hb' : bt s 0 = _ := hb
      have hc2 : (s.data.toList[0]).toNat < 256 := (s.data.toList[0]).toNat_lt
      have hrd : rd s.data.toList = -1 := by
        rcases rd_cases s.data.toList with ⟨v, h0, h1, e, _⟩ | ⟨_, hr⟩
        · have e' : s.data.toList = decDigits v.toNat := by rw [e]; unfold itoa; rw [if_neg (by omega)]
          have := dec_size v.toNat 8 (by have : (10 : Nat) ^ (8 + 1) = 1000000000 := by decide
                                         omega)
          rw [← e'] at this
          omega
        · exact hr
      unfold spec_ReadDec.f
      simp only [spec_ReadDec.l0]
      rw [if_pos (by omega), if_pos (by omega), hb', digS (by omega) (by omega)]
      simp only [Option.bind_some]
      rw [hrd]
      split
      · rw [if_pos (by omega)]
      · rfl
end AFnExactReadDec
open AFnExactReadDec

end Go.Proofs.YtamkekhdnkeciaaDoor.Pure
