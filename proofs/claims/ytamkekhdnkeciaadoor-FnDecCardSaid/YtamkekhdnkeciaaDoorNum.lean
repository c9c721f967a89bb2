/- What strconv.Atoi and strconv.Itoa answer to each other on the numbers 0 .. 999999999: plain lists of bytes, no program. -/
import Derived.Lib.AtoiAll
import Derived.Lib.ItoaNum
namespace Go.Proofs.YtamkekhdnkeciaaDoor.Num
open Go.Lib
/-- what digits spell behind a number -/
def val (acc : Nat) (l : List UInt8) : Nat := l.foldl (fun a c => a * 10 + (c.toNat - 48)) acc
theorem val_nil (a : Nat) : val a [] = a := rfl
theorem val_cons (a : Nat) (c : UInt8) (l : List UInt8) : val a (c :: l) = val (a * 10 + (c.toNat - 48)) l := by
  unfold val; rw [List.foldl_cons]
def Dig (c : UInt8) : Prop := 48 ≤ c.toNat ∧ c.toNat ≤ 57
theorem val_snoc (c : UInt8) (l : List UInt8) (a : Nat) : val a (l ++ [c]) = val a l * 10 + (c.toNat - 48) := by
  unfold val; rw [List.foldl_append, List.foldl_cons, List.foldl_nil]
theorem val_le : ∀ (l : List UInt8) (a : Nat), a ≤ val a l
  | [], _ => Nat.le_refl _
  | c :: l, a => by rw [val_cons]; exact Nat.le_trans (by omega) (val_le l _)
theorem toNat_dig {u : Nat} (h : u < 10) : (UInt8.ofNat (48 + u)).toNat = 48 + u := by
  rw [UInt8.toNat_ofNat']; omega
theorem dec_dig (u : Nat) : ∀ c ∈ decDigits u, Dig c := by
  induction u using Nat.strongRecOn with
  | _ u ih =>
    intro c hc
    rw [decDigits] at hc
    split at hc
    · rename_i h
      simp only [List.mem_singleton] at hc
      subst hc
      unfold Dig
      rw [toNat_dig h]; omega
    · rename_i h
      rw [List.mem_append] at hc
      rcases hc with hc | hc
      · exact ih (u / 10) (by omega) c hc
      · simp only [List.mem_singleton] at hc
        subst hc
        unfold Dig
        rw [toNat_dig (Nat.mod_lt _ (by omega))]
        have := Nat.mod_lt u (show 10 > 0 by omega)
        omega
theorem dec_val (u : Nat) : val 0 (decDigits u) = u := by
  induction u using Nat.strongRecOn with
  | _ u ih =>
    rw [decDigits]
    split
    · rename_i h
      rw [val_cons, val_nil, toNat_dig h]; omega
    · rename_i h
      rw [val_snoc, ih (u / 10) (by omega), toNat_dig (Nat.mod_lt _ (by omega))]
      omega
theorem dec_ne (u : Nat) : decDigits u ≠ [] := by
  rw [decDigits]
  split <;> simp
theorem dec_inj {u v : Nat} (h : decDigits u = decDigits v) : u = v := by
  rw [← dec_val u, h, dec_val]
theorem itoa_inj {m n : Int} (h : itoa m = itoa n) : m = n := by
  have key : ∀ (u v : Nat), 45 :: decDigits u ≠ decDigits v := by
    intro u v e
    have := dec_dig v 45 (by rw [← e]; simp)
    unfold Dig at this
    revert this; decide
  unfold itoa at h
  split at h <;> split at h
  · have := dec_inj (List.cons.inj h).2; omega
  · exact absurd h (key _ _)
  · exact absurd h.symm (key _ _)
  · have := dec_inj h; omega
theorem parse_eq : ∀ (l : List UInt8) (a : Nat), (∀ c ∈ l, Dig c) → val a l < 1844674407370955161 → parseUint10 a l = .ok (val a l)
  | [], _, _, _ => rfl
  | c :: l, a, hd, hb => by
    have hc : Dig c := hd c (by simp)
    rw [val_cons] at hb ⊢
    have hle : a * 10 + (c.toNat - 48) < 1844674407370955161 := Nat.lt_of_le_of_lt (val_le l _) hb
    have := parse_eq l (a * 10 + (c.toNat - 48)) (fun x hx => hd x (by simp [hx])) hb
    unfold Dig at hc
    rw [parseUint10, if_pos hc, if_neg (by omega), if_neg (by omega), this]
theorem atoi_dec (u : Nat) (h : u < 1000000000) : atoiAll (decDigits u) = .ok (u : Int) := by
  have hv := dec_val u
  have hd := dec_dig u
  have hn := dec_ne u
  generalize decDigits u = l at *
  cases l with
  | nil => exact absurd rfl hn
  | cons c r =>
    have hc : Dig c := hd c (by simp)
    have hp := parse_eq (c :: r) 0 hd (by rw [hv]; omega)
    unfold Dig at hc
    have e1 : ¬ (c.toNat = 43 ∨ c.toNat = 45) := by omega
    have e2 : ¬ c.toNat = 45 := by omega
    simp only [atoiAll]
    rw [if_neg e1]
    unfold parseMag
    rw [if_neg (by simp), hp, hv]
    simp only []
    rw [if_neg (by omega), if_neg (by omega), if_neg e2]
/-- what impl.ReadDec answers -/
def rd (s : List UInt8) : Int :=
  match atoiAll s with
  | .ok v => if v < 0 then -1 else if v > 999999999 then -1 else if itoa v = s then v else -1
  | _ => -1
theorem rd_itoa (n : Int) (h0 : 0 ≤ n) (h1 : n ≤ 999999999) : rd (itoa n) = n := by
  have e : itoa n = decDigits n.toNat := by unfold itoa; rw [if_neg (by omega)]
  have e2 := atoi_dec n.toNat (by omega)
  unfold rd
  rw [e, e2]
  simp only []
  have e3 : ((n.toNat : Nat) : Int) = n := Int.toNat_of_nonneg h0
  rw [e3, if_neg (by omega), if_neg (by omega), if_pos e]
theorem rd_cases (s : List UInt8) : (∃ v : Int, 0 ≤ v ∧ v ≤ 999999999 ∧ s = itoa v ∧ rd s = v) ∨ ((∀ v : Int, 0 ≤ v → v ≤ 999999999 → s ≠ itoa v) ∧ rd s = -1) := by
  by_cases h : ∃ v : Int, 0 ≤ v ∧ v ≤ 999999999 ∧ s = itoa v
  · obtain ⟨v, h0, h1, rfl⟩ := h
    exact Or.inl ⟨v, h0, h1, rfl, rd_itoa v h0 h1⟩
  · refine Or.inr ⟨fun v h0 h1 e => h ⟨v, h0, h1, e⟩, ?_⟩
    unfold rd
    split
    · rename_i v _
      split
      · rfl
      · split
        · rfl
        · split
          · rename_i a b c
            exact absurd ⟨v, by omega, by omega, c.symm⟩ h
          · rfl
    · rfl
theorem rd_dec (n : Int) : rd (itoa n) = if 0 ≤ n ∧ n ≤ 999999999 then n else -1 := by
  split
  · rename_i h; exact rd_itoa n h.1 h.2
  · rename_i h
    rcases rd_cases (itoa n) with ⟨v, h0, h1, e, _⟩ | ⟨_, e⟩
    · have := itoa_inj e; omega
    · exact e
theorem val_bound (l : List UInt8) : ∀ (a : Nat), (∀ c ∈ l, Dig c) → val a l < (a + 1) * 10 ^ l.length := by
  induction l with
  | nil => intro a _; rw [val_nil, List.length_nil, Nat.pow_zero]; omega
  | cons c l ih0 =>
    intro a hd
    have hc := hd c (by simp)
    unfold Dig at hc
    have ih := ih0 (a * 10 + (c.toNat - 48)) (fun x hx => hd x (by simp [hx]))
    rw [val_cons, List.length_cons, Nat.pow_succ]
    refine Nat.lt_of_lt_of_le ih ?_
    generalize 10 ^ l.length = P
    have e : (a + 1) * (P * 10) = (a * 10 + 10) * P := by
      rw [Nat.mul_comm P 10, ← Nat.mul_assoc, Nat.add_mul]
    rw [e]
    exact Nat.mul_le_mul_right _ (by omega)
end Go.Proofs.YtamkekhdnkeciaaDoor.Num
