/- BigOk answers as the reference at every number of limbs. -/
import Derived.Test.YtgjnjimlaipjcaaPFnExactBigOkx2
namespace Go.Proofs.Ytgjnjimlaipjcaa.Pure
open Go.RowKit Go.Proofs.Ytgjnjimlaipjcaa.PFnExactBigOk Go.Proofs.YtgjnjimlaipjcaaW.PrintWords Go.Proofs.YtgjnjimlaipjcaaW.PrintLast
namespace AFnExactBigOk

theorem wr {x : Int} (h1 : -9223372036854775808 ≤ x) (h2 : x ≤ 9223372036854775807) : wrap64 x = x := by
  unfold wrap64; omega

theorem rd_at {xs : List Int} {i : Nat} (h : i < xs.length) : rd xs (i : Int) = xs[i] := by
  unfold rd; simp [List.getD, List.getElem?_eq_getElem h]
theorem eqUint32S_loop (xs ys : List Int) (hl : xs.length = ys.length) (hn : xs.length ≤ 1152921504606846976) (d : Nat) : ∀ (k i : Nat), i + d = xs.length → d < k →
    laws_eqUint32S.l0 k xs ys (i : Int) = some (decide (xs.drop i = ys.drop i)) := by
  induction d with
  | zero =>
    intro k i hi hk
    obtain ⟨k, rfl⟩ : ∃ m, k = m + 1 := ⟨k - 1, by omega⟩
    simp only [laws_eqUint32S.l0]
    rw [if_neg (by omega), List.drop_eq_nil_of_le (by omega), List.drop_eq_nil_of_le (by omega)]
    simp
  | succ d ih =>
    intro k i hi hk
    obtain ⟨k, rfl⟩ : ∃ m, k = m + 1 := ⟨k - 1, by omega⟩
    have hx : i < xs.length := by omega
    have hy : i < ys.length := by omega
    have e := ih k (i + 1) (by omega) (by omega)
    rw [Int.natCast_add] at e
    have e' : laws_eqUint32S.l0 k xs ys ((i : Int) + 1) = _ := e
    simp only [laws_eqUint32S.l0]
    rw [if_pos (by omega), if_pos (by omega), if_pos (by omega), rd_at hx, rd_at hy, wr (by omega) (by omega), e', List.drop_eq_getElem_cons hx, List.drop_eq_getElem_cons hy]
    by_cases h : xs[i] = ys[i]
    · rw [if_pos h, h]; simp only [List.cons.injEq, true_and]
    · rw [if_neg h]; simp only [List.cons.injEq, h, false_and, decide_false]
theorem eqUint32S_eq (k : Nat) (xs ys : List Int) (hn : xs.length ≤ 1152921504606846976) (hk : xs.length < k) : laws_eqUint32S.f k xs ys = some (decide (xs = ys)) := by
  unfold laws_eqUint32S.f
  by_cases h : xs.length = ys.length
  · rw [if_pos (by omega)]
    have e := eqUint32S_loop xs ys h hn xs.length k 0 (by omega) hk
    have e' : laws_eqUint32S.l0 k xs ys 0 = _ := e
    rw [e']; simp
  · rw [if_neg (by omega)]
    have : ¬ xs = ys := fun e => h (by rw [e])
    simp [this]

theorem copy_loop_laws_toUint32S (xs : List Int) (hn : xs.length ≤ 1152921504606846976) (d : Nat) : ∀ (k i : Nat) (ys : List Int), i + d = xs.length → ys.length = xs.length → ys.take i = xs.take i → d < k →
    laws_toUint32S.l0 k xs ys (i : Int) = some xs := by
  induction d with
  | zero =>
    intro k i ys hi hl ht hk
    obtain ⟨k, rfl⟩ : ∃ m, k = m + 1 := ⟨k - 1, by omega⟩
    simp only [laws_toUint32S.l0]
    rw [if_neg (by omega)]
    rw [List.take_of_length_le (by omega), List.take_of_length_le (by omega)] at ht
    rw [ht]
  | succ d ih =>
    intro k i ys hi hl ht hk
    obtain ⟨k, rfl⟩ : ∃ m, k = m + 1 := ⟨k - 1, by omega⟩
    have hx : i < xs.length := by omega
    simp only [laws_toUint32S.l0]
    rw [if_pos (by omega), if_pos (by omega), if_pos (by omega), rd_at hx, wr (by omega) (by omega), Int.toNat_natCast]
    have hs : i < (ys.set i xs[i]).length := by rw [List.length_set]; omega
    have e := ih k (i + 1) (ys.set i xs[i]) (by omega) (by simp; omega) (by
      rw [List.take_succ_eq_append_getElem hs, List.getElem_set_self, List.take_set_of_le (Nat.le_refl i), ht, ← List.take_succ_eq_append_getElem hx]) (by omega)
    rw [Int.natCast_add] at e
    exact e
theorem copy_eq_laws_toUint32S (k : Nat) (xs : List Int) (hn : xs.length ≤ 1152921504606846976) (hn2 : xs.length ≤ 70368744177664) (hk : xs.length < k) : laws_toUint32S.f k xs = some xs := by
  unfold laws_toUint32S.f
  rw [if_pos (by omega), if_pos (by omega)]
  have e := copy_loop_laws_toUint32S xs hn xs.length k 0 (List.replicate ((xs.length : Int)).toNat 0) (by omega) (by simp) (by simp) hk
  exact e
end AFnExactBigOk
open AFnExactBigOk

theorem bigOk_some (b : Bool) (l : List Int) (hl : l.length ≤ 1152921504606846976) : ∃ r, spec_BigOk.f b l = some r ∧ impl_isBig.f b l = some r := by
  have e : impl_isBig.f b l = spec_BigOk.f b l := rfl
  rw [e]
  have h : ∃ r, spec_BigOk.f b l = some r := by
    unfold spec_BigOk.f
    by_cases h0 : (l.length : Int) > 0
    · rw [wr (x := (l.length : Int) - 1) (by omega) (by omega)]
      have h1 : 0 ≤ (l.length : Int) - 1 := by omega
      have h2 : (l.length : Int) - 1 < (l.length : Int) := by omega
      have h3 : ¬ (l.length : Int) = 0 := by omega
      simp only [if_pos h0, if_pos h1, if_pos h2, if_neg h3]
      split <;> exact ⟨_, rfl⟩
    · have h3 : (l.length : Int) = 0 := by omega
      simp only [h3, if_true]
      cases b <;> simp
  obtain ⟨r, hr⟩ := h
  exact ⟨r, hr, hr⟩
theorem FnExactBigOk (b : Bool) (l : List Int) (hm : l.length ≤ maxLen) : ∃ k, laws_FnExactBigOk.f k b l = some true := by
  refine ⟨l.length + 1, ?_⟩
  unfold maxLen at hm
  unfold laws_FnExactBigOk.f laws_szBig.f laws_szUint32S.f
  rw [wr (x := 1048576 - (l.length : Int)) (by omega) (by omega)]
  by_cases h : (1048576 - (l.length : Int)) < 0
  · simp only [if_pos h, Option.bind_some]
    rw [if_pos (by decide)]
    simp only [Option.bind_some]
    rw [if_pos (by decide)]
  · simp only [if_neg h, Option.bind_some]
    obtain ⟨r, e1, e2⟩ := bigOk_some b l (by omega)
    have e3 := copy_eq_laws_toUint32S (l.length + 1) l (by omega) (by omega) (by omega)
    have e4 := eqUint32S_eq (l.length + 1) l l (by omega) (by omega)
    unfold laws_toBig.f impl_BigOk.f laws_eqBig.f
    simp only [e3, e1, e2, e4, Option.bind_some]
    simp
theorem bigOk_walk (b : Bool) (a0 : Option Addr) (len0 cap0 : Nat) (z0 : List Int) (w : World) (w0 : (a0 = none ∧ len0 = 0 ∧ cap0 = 0 ∧ z0 = []) ∨ ∃ x, a0 = some x ∧ len0 ≤ cap0 ∧ cap0 ≤ maxLen ∧ z0.length = cap0 ∧ (∀ i, i < z0.length → w.cell? (x.add i) = some (.int .u32 (z0.getD i 0))) ∧ ∀ n ∈ z0, (Lit.int .u32 n).wf = true) :
    Calls Try.prog 10 #[.agg #[.bool b, .slice a0 len0 cap0]] w fun e w' => e = .returned (.bool true) ∧ Below w.heap.size w w' := by
  obtain ⟨l0, rfl, hr0, hm0, _, hc0⟩ := ReadsInt.ofRowC w0
  obtain ⟨k, h⟩ := FnExactBigOk b l0 hm0
  exact laws_FnExactBigOk.calls k b _ _ l0 true w (Kd.C_of_reads (d := (0 : Int)) (h1 := fun _ => rfl) hr0) hc0 h

end Go.Proofs.Ytgjnjimlaipjcaa.Pure
