/- Nought answers as the reference at any number, in memory of its own. -/
import Derived.Test.YtgjnjimlaipjcaaPFnExactNoughtx1
namespace Go.Proofs.Ytgjnjimlaipjcaa.Pure
open Go.RowKit Go.Proofs.Ytgjnjimlaipjcaa.PFnExactNought Go.Proofs.YtgjnjimlaipjcaaW.PrintWords Go.Proofs.YtgjnjimlaipjcaaW.PrintLast
namespace AFnExactNought

theorem wr {x : Int} (h1 : -9223372036854775808 ≤ x) (h2 : x ≤ 9223372036854775807) : wrap64 x = x := by
  unfold wrap64; omega

theorem rd_at {xs : List Int} {i : Nat} (h : i < xs.length) : rd xs (i : Int) = xs[i] := by
  unfold rd; simp [List.getD, List.getElem?_eq_getElem h]
theorem eqIntS_loop (xs ys : List Int) (hl : xs.length = ys.length) (hn : xs.length ≤ 1152921504606846976) (d : Nat) : ∀ (k i : Nat), i + d = xs.length → d < k →
    laws_eqIntS.l0 k xs ys (i : Int) = some (decide (xs.drop i = ys.drop i)) := by
  induction d with
  | zero =>
    intro k i hi hk
    obtain ⟨k, rfl⟩ : ∃ m, k = m + 1 := ⟨k - 1, by omega⟩
    simp only [laws_eqIntS.l0]
    rw [if_neg (by omega), List.drop_eq_nil_of_le (by omega), List.drop_eq_nil_of_le (by omega)]
    simp
  | succ d ih =>
    intro k i hi hk
    obtain ⟨k, rfl⟩ : ∃ m, k = m + 1 := ⟨k - 1, by omega⟩
    have hx : i < xs.length := by omega
    have hy : i < ys.length := by omega
    have e := ih k (i + 1) (by omega) (by omega)
    rw [Int.natCast_add] at e
    have e' : laws_eqIntS.l0 k xs ys ((i : Int) + 1) = _ := e
    simp only [laws_eqIntS.l0]
    rw [if_pos (by omega), if_pos (by omega), if_pos (by omega), rd_at hx, rd_at hy, wr (by omega) (by omega), e', List.drop_eq_getElem_cons hx, List.drop_eq_getElem_cons hy]
    by_cases h : xs[i] = ys[i]
    · rw [if_pos h, h]; simp only [List.cons.injEq, true_and]
    · rw [if_neg h]; simp only [List.cons.injEq, h, false_and, decide_false]
theorem eqIntS_eq (k : Nat) (xs ys : List Int) (hn : xs.length ≤ 1152921504606846976) (hk : xs.length < k) : laws_eqIntS.f k xs ys = some (decide (xs = ys)) := by
  unfold laws_eqIntS.f
  by_cases h : xs.length = ys.length
  · rw [if_pos (by omega)]
    have e := eqIntS_loop xs ys h hn xs.length k 0 (by omega) hk
    have e' : laws_eqIntS.l0 k xs ys 0 = _ := e
    rw [e']; simp
  · rw [if_neg (by omega)]
    have : ¬ xs = ys := fun e => h (by rw [e])
    simp [this]

/-- a, a + 1, .. -/
def marks (a : Int) : Nat → List Int
  | 0 => []
  | n + 1 => a :: marks (a + 1) n
theorem marks_length (n : Nat) : ∀ a, (marks a n).length = n := by
  induction n with
  | zero => intro a; rfl
  | succ n ih => intro a; simp [marks, ih]
theorem markIntS_loop (d : Nat) : ∀ (k i : Nat) (xs : List Int) (a : Int), 0 ≤ a → a + d ≤ 9223372036854775807 → i + d = xs.length → xs.length ≤ 1152921504606846976 → d < k →
    laws_markIntS.l0 k xs a (i : Int) = some (a + (d : Int), xs.take i ++ marks a d) := by
  induction d with
  | zero =>
    intro k i xs a ha hb hi hn hk
    obtain ⟨k, rfl⟩ : ∃ m, k = m + 1 := ⟨k - 1, by omega⟩
    simp only [laws_markIntS.l0]
    rw [if_neg (by omega), List.take_of_length_le (by omega)]
    simp [marks]
  | succ d ih =>
    intro k i xs a ha hb hi hn hk
    obtain ⟨k, rfl⟩ : ∃ m, k = m + 1 := ⟨k - 1, by omega⟩
    simp only [laws_markIntS.l0]
    rw [if_pos (by omega), if_pos (by omega), wr (by omega) (by omega), wr (by omega) (by omega), Int.toNat_natCast]
    have e := ih k (i + 1) (xs.set i a) (a + 1) (by omega) (by omega) (by simp; omega) (by simp; omega) (by omega)
    rw [Int.natCast_add] at e
    have e' : laws_markIntS.l0 k (xs.set i a) (a + 1) ((i : Int) + 1) = _ := e
    have hs : i < (xs.set i a).length := by rw [List.length_set]; omega
    have ht : (xs.set i a).take (i + 1) = xs.take i ++ [a] := by
      rw [List.take_succ_eq_append_getElem hs, List.getElem_set_self, List.take_set_of_le (Nat.le_refl i)]
    rw [e', ht, List.append_assoc]
    simp only [marks, List.cons_append, List.nil_append, Option.some.injEq, Prod.mk.injEq]
    exact ⟨by omega, trivial⟩
theorem markIntS_eq (k : Nat) (xs : List Int) (hn : xs.length ≤ 1152921504606846976) (hk : xs.length < k) : laws_markIntS.f k xs 1 = some ((1 : Int) + (xs.length : Int), marks 1 xs.length) := by
  have e := markIntS_loop xs.length k 0 xs 1 (by omega) (by omega) (by omega) hn hk
  have e' : laws_markIntS.l0 k xs 1 0 = _ := e
  unfold laws_markIntS.f
  rw [e']; simp

theorem heldIntS_loop (d : Nat) : ∀ (k i : Nat) (xs : List Int) (a : Int), 0 ≤ a → a + d ≤ 9223372036854775807 → i + d = xs.length → xs.length ≤ 1152921504606846976 → xs.drop i = marks a d → d < k →
    laws_heldIntS.l0 k xs a (i : Int) = some (a + (d : Int)) := by
  induction d with
  | zero =>
    intro k i xs a ha hb hi hn hm hk
    obtain ⟨k, rfl⟩ : ∃ m, k = m + 1 := ⟨k - 1, by omega⟩
    simp only [laws_heldIntS.l0]
    rw [if_neg (by omega)]
    simp
  | succ d ih =>
    intro k i xs a ha hb hi hn hm hk
    obtain ⟨k, rfl⟩ : ∃ m, k = m + 1 := ⟨k - 1, by omega⟩
    have hx : i < xs.length := by omega
    rw [List.drop_eq_getElem_cons hx] at hm
    simp only [marks, List.cons.injEq] at hm
    have e := ih k (i + 1) xs (a + 1) (by omega) (by omega) (by omega) hn hm.2 (by omega)
    rw [Int.natCast_add] at e
    have e' : laws_heldIntS.l0 k xs (a + 1) ((i : Int) + 1) = _ := e
    simp only [laws_heldIntS.l0]
    rw [if_pos (by omega), if_pos (by omega), rd_at hx, if_pos hm.1, wr (by omega) (by omega), wr (by omega) (by omega), e']
    congr 1; omega
theorem heldIntS_eq (k n : Nat) (hn : n ≤ 1152921504606846976) (hk : n < k) : laws_heldIntS.f k (marks 1 n) 1 = some ((1 : Int) + (n : Int)) := by
  have e := heldIntS_loop n k 0 (marks 1 n) 1 (by omega) (by omega) (by rw [marks_length]; omega) (by rw [marks_length]; exact hn) rfl hk
  unfold laws_heldIntS.f
  exact e

theorem eqVec_eq (k : Nat) (a b : Int) (xs ys : List Int) (hn : xs.length ≤ 1152921504606846976) (hk : xs.length < k) : laws_eqVec.f k a xs b ys = some (decide (a = b ∧ xs = ys)) := by
  unfold laws_eqVec.f
  by_cases h : a = b
  · rw [if_pos h, eqIntS_eq k xs ys hn hk]
    by_cases h' : xs = ys <;> simp [h, h']
  · rw [if_neg h]; simp [h]
theorem markVec_eq (k : Nat) (d : Int) (xs : List Int) (hn : xs.length ≤ 1152921504606846976) (hk : xs.length < k) : laws_markVec.f k d xs 1 = some ((1 : Int) + (xs.length : Int), marks 1 xs.length) := by
  unfold laws_markVec.f
  rw [markIntS_eq k xs hn hk]; rfl
theorem heldVec_eq (k n : Nat) (d : Int) (hn : n ≤ 1152921504606846976) (hk : n < k) : laws_heldVec.f k d (marks 1 n) 1 = some ((1 : Int) + (n : Int)) := by
  unfold laws_heldVec.f
  rw [heldIntS_eq k n hn hk]
  simp only [Option.bind_some]
  rw [if_neg (by omega)]
end AFnExactNought
open AFnExactNought

theorem FnExactNought : laws_FnExactNought.Pure := by
  intro n _
  have hs : ∃ (d : Int) (xs : List Int), xs.length ≤ 8 ∧ spec_Nought.f n = some (d, xs) ∧ impl_Nought.f n = some (d, xs) := by
    unfold spec_Nought.f impl_Nought.f impl_nought.f spec_l01In.f
    by_cases h0 : 0 ≤ n
    · by_cases h8 : n ≤ 8
      · refine ⟨1, List.replicate n.toNat 0, by simp; omega, ?_, ?_⟩
        · simp only [ge_iff_le, if_pos h0, h8, decide_true, Option.bind_some, if_true]
          rw [if_pos (by omega)]
        · rw [if_neg (by omega), if_neg (by omega), if_pos h0, if_pos (by omega)]; rfl
      · refine ⟨0, [], by simp, ?_, ?_⟩
        · simp only [ge_iff_le, if_pos h0, h8, decide_false, Option.bind_some, Bool.false_eq_true, if_false]
        · rw [if_neg (by omega), if_pos (by omega)]
    · refine ⟨0, [], by simp, ?_, ?_⟩
      · simp only [ge_iff_le, if_neg h0, Option.bind_some, Bool.false_eq_true, if_false]
      · rw [if_pos (by omega)]
  obtain ⟨d, xs, hl, h1, h2⟩ := hs
  refine ⟨9, ?_⟩
  unfold laws_FnExactNought.f
  rw [h1, h2]; simp only [Option.bind_some]
  rw [eqVec_eq 9 d d xs xs (by omega) (by omega)]; simp only [and_self, decide_true, Option.bind_some, if_true]
  rw [markVec_eq 9 d xs (by omega) (by omega)]; simp only [Option.bind_some]
  rw [heldVec_eq 9 xs.length d (by omega) (by omega)]; simp only [Option.bind_some, if_true]
  have hp : ¬ (1 + (xs.length : Int)) < 0 := by omega
  simp only [if_neg hp]

end Go.Proofs.Ytgjnjimlaipjcaa.Pure
