/- VarAt answers as the reference at every list of variables and every name, and leaves the list. -/
import Derived.Test.YtjdndacollpjkaaMFnExactVarAtx3
import Derived.Test.YtjdndacollpjkaaVr
namespace Go.Proofs.Ytjdndacollpjkaa.Pure
set_option linter.unusedVariables false
set_option linter.unusedSimpArgs false
open Go.RowKit Go.Proofs.Ytjdndacollpjkaa.MFnExactVarAt Go.Proofs.YtjdndacollpjkaaW.PrintWords Go.Proofs.YtjdndacollpjkaaW.PrintLast
namespace AFnExactVarAt

theorem wr {x : Int} (h1 : -9223372036854775808 ≤ x) (h2 : x ≤ 9223372036854775807) : wrap64 x = x := by
  unfold wrap64; omega

theorem rd_at {xs : List Int} {i : Nat} (h : i < xs.length) : rd xs (i : Int) = xs[i] := by
  unfold rd; simp [List.getD, List.getElem?_eq_getElem h]
theorem eqIntS_loop (xs ys : List Int) (hl : xs.length = ys.length) (hn : xs.length ≤ 1152921504606846976) (d : Nat) : ∀ (k i : Nat), i + d = xs.length → d < k →
    laws_eqIntS.l0 k xs ys (i : Int) = some (decide (xs.drop i = ys.drop i)) := by
  induction d with
  | zero =>
    intro k i hi hk
    obtain ⟨k, rfl⟩ : ∃ m, k = m + 1 := ⟨k - 1, by omega⟩
    simp only [laws_eqIntS.l0]
    rw [if_neg (by omega), List.drop_eq_nil_of_le (by omega), List.drop_eq_nil_of_le (by omega)]
    simp
  | succ d ih =>
    intro k i hi hk
    obtain ⟨k, rfl⟩ : ∃ m, k = m + 1 := ⟨k - 1, by omega⟩
    have hx : i < xs.length := by omega
    have hy : i < ys.length := by omega
    have e := ih k (i + 1) (by omega) (by omega)
    rw [Int.natCast_add] at e
    have e' : laws_eqIntS.l0 k xs ys ((i : Int) + 1) = _ := e
    simp only [laws_eqIntS.l0]
    rw [if_pos (by omega), if_pos (by omega), if_pos (by omega), rd_at hx, rd_at hy, wr (by omega) (by omega), e', List.drop_eq_getElem_cons hx, List.drop_eq_getElem_cons hy]
    by_cases h : xs[i] = ys[i]
    · rw [if_pos h, h]; simp only [List.cons.injEq, true_and]
    · rw [if_neg h]; simp only [List.cons.injEq, h, false_and, decide_false]
theorem eqIntS_eq (k : Nat) (xs ys : List Int) (hn : xs.length ≤ 1152921504606846976) (hk : xs.length < k) : laws_eqIntS.f k xs ys = some (decide (xs = ys)) := by
  unfold laws_eqIntS.f
  by_cases h : xs.length = ys.length
  · rw [if_pos (by omega)]
    have e := eqIntS_loop xs ys h hn xs.length k 0 (by omega) hk
    have e' : laws_eqIntS.l0 k xs ys 0 = _ := e
    rw [e']; simp
  · rw [if_neg (by omega)]
    have : ¬ xs = ys := fun e => h (by rw [e])
    simp [this]
theorem eqUint32S_loop (xs ys : List Int) (hl : xs.length = ys.length) (hn : xs.length ≤ 1152921504606846976) (d : Nat) : ∀ (k i : Nat), i + d = xs.length → d < k →
    laws_eqUint32S.l0 k xs ys (i : Int) = some (decide (xs.drop i = ys.drop i)) := by
  induction d with
  | zero =>
    intro k i hi hk
    obtain ⟨k, rfl⟩ : ∃ m, k = m + 1 := ⟨k - 1, by omega⟩
    simp only [laws_eqUint32S.l0]
    rw [if_neg (by omega), List.drop_eq_nil_of_le (by omega), List.drop_eq_nil_of_le (by omega)]
    simp
  | succ d ih =>
    intro k i hi hk
    obtain ⟨k, rfl⟩ : ∃ m, k = m + 1 := ⟨k - 1, by omega⟩
    have hx : i < xs.length := by omega
    have hy : i < ys.length := by omega
    have e := ih k (i + 1) (by omega) (by omega)
    rw [Int.natCast_add] at e
    have e' : laws_eqUint32S.l0 k xs ys ((i : Int) + 1) = _ := e
    simp only [laws_eqUint32S.l0]
    rw [if_pos (by omega), if_pos (by omega), if_pos (by omega), rd_at hx, rd_at hy, wr (by omega) (by omega), e', List.drop_eq_getElem_cons hx, List.drop_eq_getElem_cons hy]
    by_cases h : xs[i] = ys[i]
    · rw [if_pos h, h]; simp only [List.cons.injEq, true_and]
    · rw [if_neg h]; simp only [List.cons.injEq, h, false_and, decide_false]
theorem eqUint32S_eq (k : Nat) (xs ys : List Int) (hn : xs.length ≤ 1152921504606846976) (hk : xs.length < k) : laws_eqUint32S.f k xs ys = some (decide (xs = ys)) := by
  unfold laws_eqUint32S.f
  by_cases h : xs.length = ys.length
  · rw [if_pos (by omega)]
    have e := eqUint32S_loop xs ys h hn xs.length k 0 (by omega) hk
    have e' : laws_eqUint32S.l0 k xs ys 0 = _ := e
    rw [e']; simp
  · rw [if_neg (by omega)]
    have : ¬ xs = ys := fun e => h (by rw [e])
    simp [this]

theorem copy_loop_laws_toUint32S (xs : List Int) (hn : xs.length ≤ 1152921504606846976) (d : Nat) : ∀ (k i : Nat) (ys : List Int), i + d = xs.length → ys.length = xs.length → ys.take i = xs.take i → d < k →
    laws_toUint32S.l0 k xs ys (i : Int) = some xs := by
  induction d with
  | zero =>
    intro k i ys hi hl ht hk
    obtain ⟨k, rfl⟩ : ∃ m, k = m + 1 := ⟨k - 1, by omega⟩
    simp only [laws_toUint32S.l0]
    rw [if_neg (by omega)]
    rw [List.take_of_length_le (by omega), List.take_of_length_le (by omega)] at ht
    rw [ht]
  | succ d ih =>
    intro k i ys hi hl ht hk
    obtain ⟨k, rfl⟩ : ∃ m, k = m + 1 := ⟨k - 1, by omega⟩
    have hx : i < xs.length := by omega
    simp only [laws_toUint32S.l0]
    rw [if_pos (by omega), if_pos (by omega), if_pos (by omega), rd_at hx, wr (by omega) (by omega), Int.toNat_natCast]
    have hs : i < (ys.set i xs[i]).length := by rw [List.length_set]; omega
    have e := ih k (i + 1) (ys.set i xs[i]) (by omega) (by simp; omega) (by
      rw [List.take_succ_eq_append_getElem hs, List.getElem_set_self, List.take_set_of_le (Nat.le_refl i), ht, ← List.take_succ_eq_append_getElem hx]) (by omega)
    rw [Int.natCast_add] at e
    exact e
theorem copy_eq_laws_toUint32S (k : Nat) (xs : List Int) (hn : xs.length ≤ 1152921504606846976) (hn2 : xs.length ≤ 70368744177664) (hk : xs.length < k) : laws_toUint32S.f k xs = some xs := by
  unfold laws_toUint32S.f
  rw [if_pos (by omega), if_pos (by omega)]
  have e := copy_loop_laws_toUint32S xs hn xs.length k 0 (List.replicate ((xs.length : Int)).toNat 0) (by omega) (by simp) (by simp) hk
  exact e

theorem copy_loop_laws_toIntS (xs : List Int) (hn : xs.length ≤ 1152921504606846976) (d : Nat) : ∀ (k i : Nat) (ys : List Int), i + d = xs.length → ys.length = xs.length → ys.take i = xs.take i → d < k →
    laws_toIntS.l0 k xs ys (i : Int) = some xs := by
  induction d with
  | zero =>
    intro k i ys hi hl ht hk
    obtain ⟨k, rfl⟩ : ∃ m, k = m + 1 := ⟨k - 1, by omega⟩
    simp only [laws_toIntS.l0]
    rw [if_neg (by omega)]
    rw [List.take_of_length_le (by omega), List.take_of_length_le (by omega)] at ht
    rw [ht]
  | succ d ih =>
    intro k i ys hi hl ht hk
    obtain ⟨k, rfl⟩ : ∃ m, k = m + 1 := ⟨k - 1, by omega⟩
    have hx : i < xs.length := by omega
    simp only [laws_toIntS.l0]
    rw [if_pos (by omega), if_pos (by omega), if_pos (by omega), rd_at hx, wr (by omega) (by omega), Int.toNat_natCast]
    have hs : i < (ys.set i xs[i]).length := by rw [List.length_set]; omega
    have e := ih k (i + 1) (ys.set i xs[i]) (by omega) (by simp; omega) (by
      rw [List.take_succ_eq_append_getElem hs, List.getElem_set_self, List.take_set_of_le (Nat.le_refl i), ht, ← List.take_succ_eq_append_getElem hx]) (by omega)
    rw [Int.natCast_add] at e
    exact e
theorem copy_eq_laws_toIntS (k : Nat) (xs : List Int) (hn : xs.length ≤ 1152921504606846976) (hn2 : xs.length ≤ 35184372088832) (hk : xs.length < k) : laws_toIntS.f k xs = some xs := by
  unfold laws_toIntS.f
  rw [if_pos (by omega), if_pos (by omega)]
  have e := copy_loop_laws_toIntS xs hn xs.length k 0 (List.replicate ((xs.length : Int)).toNat 0) (by omega) (by simp) (by simp) hk
  exact e

theorem szVec_eq (d : Int) (l : List Int) (left : Int) (h0 : 0 ≤ left) (h1 : left ≤ 1048576) (hl : l.length ≤ 9223372036854775807) : laws_szVec.f d l left = some (if left - l.length < 0 then -1 else left - l.length) := by
  unfold laws_szVec.f laws_szIntS.f
  rw [wr (x := left - (l.length : Int)) (by omega) (by omega)]
  by_cases h : left - (l.length : Int) < 0
  · simp [h]
  · simp only [if_neg h, Option.bind_some]
theorem toVec_eq (k : Nat) (d : Int) (l : List Int) (hl : l.length ≤ 1048576) (hk : l.length < k) : laws_toVec.f k d l = some (d, l) := by
  unfold laws_toVec.f
  rw [copy_eq_laws_toIntS k l (by omega) (by omega) hk]; rfl

open Go.Proofs.Ytjdndacollpjkaa.Vr (Fits)
theorem rd80_at {xs : List S80} {i : Nat} (h : i < xs.length) : rd_T80 xs (i : Int) = xs[i] := by
  unfold rd_T80; simp [List.getD, List.getElem?_eq_getElem h]
theorem rd64_at {xs : List S64} {i : Nat} (h : i < xs.length) : rd_T64 xs (i : Int) = xs[i] := by
  unfold rd_T64; simp [List.getD, List.getElem?_eq_getElem h]
def conv (x : S80) : S64 := ⟨x.f0, ⟨⟨x.f1.f0.f0, x.f1.f0.f1⟩, ⟨x.f1.f1.f0, x.f1.f1.f1⟩⟩, ⟨x.f2.f0, x.f2.f1⟩⟩
def Small (x : S80) : Prop := x.f0.size ≤ 1048576 ∧ x.f1.f0.f1.length ≤ 1048576 ∧ x.f1.f1.f1.length ≤ 1048576 ∧ x.f2.f1.length ≤ 1048576
theorem szBig_eq (b : Bool) (l : List Int) (left : Int) (h0 : 0 ≤ left) (h1 : left ≤ 1048576) (hl : l.length ≤ 9223372036854775807) : laws_szBig.f b l left = some (if left - l.length < 0 then -1 else left - l.length) := by
  unfold laws_szBig.f laws_szUint32S.f
  rw [wr (x := left - (l.length : Int)) (by omega) (by omega)]
  by_cases h : left - (l.length : Int) < 0
  · simp [h]
  · simp only [if_neg h, Option.bind_some]
theorem szRat_eq (a : Bool) (l : List Int) (b : Bool) (m : List Int) (left : Int) (h0 : 0 ≤ left) (h1 : left ≤ 1048576) (hl : l.length ≤ 9223372036854775807) (hm : m.length ≤ 9223372036854775807) :
    ∃ t, laws_szRat.f a l b m left = some t ∧ (t < 0 ∨ (0 ≤ t ∧ t ≤ left ∧ l.length ≤ 1048576 ∧ m.length ≤ 1048576)) := by
  unfold laws_szRat.f
  rw [szBig_eq a l left h0 h1 hl]
  simp only [Option.bind_some]
  by_cases h : left - (l.length : Int) < 0
  · rw [if_pos h, if_pos (by decide)]
    exact ⟨_, rfl, .inl (by decide)⟩
  · rw [if_neg h, if_neg (by omega), szBig_eq b m _ (by omega) (by omega) hm]
    simp only [Option.bind_some]
    by_cases h' : left - (l.length : Int) - (m.length : Int) < 0
    · rw [if_pos h', if_pos (by decide)]
      exact ⟨_, rfl, .inl (by decide)⟩
    · rw [if_neg h', if_neg (by omega)]
      exact ⟨_, rfl, .inr ⟨by omega, by omega, by omega, by omega⟩⟩
theorem szVar_eq (x : S80) (hx : Fits x) (left : Int) (h0 : 0 ≤ left) (h1 : left ≤ 1048576) :
    ∃ t, laws_szVar.f x.f0 x.f1.f0.f0 x.f1.f0.f1 x.f1.f1.f0 x.f1.f1.f1 x.f2.f0 x.f2.f1 left = some t ∧ (t < 0 ∨ (0 ≤ t ∧ t ≤ left ∧ Small x)) := by
  obtain ⟨x0, x1, x2, x3⟩ := hx
  unfold maxLen at x0 x1 x2 x3
  unfold laws_szVar.f
  rw [wr (x := left - (x.f0.size : Int)) (by omega) (by omega)]
  by_cases h : left - (x.f0.size : Int) < 0
  · rw [if_pos h]
    exact ⟨_, rfl, .inl (by decide)⟩
  · rw [if_neg h]
    obtain ⟨t, e, ht⟩ := szRat_eq x.f1.f0.f0 x.f1.f0.f1 x.f1.f1.f0 x.f1.f1.f1 (left - (x.f0.size : Int)) (by omega) (by omega) x1 x2
    rw [e]
    simp only [Option.bind_some]
    rcases ht with ht | ⟨a, b, c, d⟩
    · rw [if_pos ht]
      exact ⟨_, rfl, .inl (by decide)⟩
    · rw [if_neg (by omega), szVec_eq x.f2.f0 x.f2.f1 t a (by omega) x3]
      simp only [Option.bind_some]
      by_cases h' : t - (x.f2.f1.length : Int) < 0
      · rw [if_pos h', if_pos (by decide)]
        exact ⟨_, rfl, .inl (by decide)⟩
      · rw [if_neg h', if_neg (by omega)]
        exact ⟨_, rfl, .inr ⟨by omega, by omega, by omega, c, d, by omega⟩⟩
theorem szS_loop (xs : List S80) (hn : xs.length ≤ 1048576) (hz : ∀ t ∈ xs, Fits t) (n : Nat) : ∀ (k i : Nat) (left : Int), 0 ≤ left → left ≤ 1048576 → i + n = xs.length → n < k →
    ∃ t, laws_szVarS.l0 k xs left (i : Int) = some t ∧ (t < 0 ∨ (0 ≤ t ∧ ∀ x ∈ xs.drop i, Small x)) := by
  induction n with
  | zero =>
    intro k i left h0 h1 hi hk
    obtain ⟨k, rfl⟩ : ∃ m, k = m + 1 := ⟨k - 1, by omega⟩
    simp only [laws_szVarS.l0]
    rw [if_neg (by omega), List.drop_eq_nil_of_le (by omega)]
    exact ⟨_, rfl, .inr ⟨h0, fun x hx => by cases hx⟩⟩
  | succ n ih =>
    intro k i left h0 h1 hi hk
    obtain ⟨k, rfl⟩ : ∃ m, k = m + 1 := ⟨k - 1, by omega⟩
    have hx : i < xs.length := by omega
    simp only [laws_szVarS.l0]
    rw [if_pos (by omega), if_pos (by omega), rd80_at hx]
    obtain ⟨t, e, ht⟩ := szVar_eq xs[i] (hz _ (List.getElem_mem hx)) left h0 h1
    rw [e]
    simp only [Option.bind_some]
    rcases ht with ht | ⟨a, b, c⟩
    · rw [if_pos ht]
      exact ⟨_, rfl, .inl (by decide)⟩
    · rw [if_neg (by omega), wr (by omega) (by omega)]
      obtain ⟨t', e', ht'⟩ := ih k (i + 1) t a (by omega) (by omega) (by omega)
      rw [Int.natCast_add] at e'
      refine ⟨t', e', ?_⟩
      rcases ht' with h | ⟨h, hs⟩
      · exact .inl h
      · refine .inr ⟨h, fun y hy => ?_⟩
        rw [List.drop_eq_getElem_cons hx] at hy
        rcases List.mem_cons.1 hy with rfl | hy
        · exact c
        · exact hs y hy
theorem toBig_eq (k : Nat) (b : Bool) (l : List Int) (hl : l.length ≤ 1048576) (hk : l.length < k) : laws_toBig.f k b l = some (b, l) := by
  unfold laws_toBig.f
  rw [copy_eq_laws_toUint32S k l (by omega) (by omega) hk]; rfl
theorem toVar_eq (k : Nat) (x : S80) (hs : Small x) (hk : 1048576 < k) : laws_toVar.f k x.f0 x.f1.f0.f0 x.f1.f0.f1 x.f1.f1.f0 x.f1.f1.f1 x.f2.f0 x.f2.f1 = some (x.f0, x.f1.f0.f0, x.f1.f0.f1, x.f1.f1.f0, x.f1.f1.f1, x.f2.f0, x.f2.f1) := by
  obtain ⟨x0, x1, x2, x3⟩ := hs
  unfold laws_toVar.f laws_toRat.f
  rw [toBig_eq k _ _ x1 (by omega), toBig_eq k _ _ x2 (by omega), toVec_eq k _ _ x3 (by omega)]
  rfl
theorem toS_loop (xs : List S80) (hn : xs.length ≤ 1048576) (hs : ∀ x ∈ xs, Small x) (d : Nat) : ∀ (k i : Nat) (ys : List S64), i + d = xs.length → ys.length = xs.length → ys.take i = (xs.take i).map conv → d + 1048576 < k →
    laws_toVarS.l0 k xs ys (i : Int) = some (xs.map conv) := by
  induction d with
  | zero =>
    intro k i ys hi hl ht hk
    obtain ⟨k, rfl⟩ : ∃ m, k = m + 1 := ⟨k - 1, by omega⟩
    simp only [laws_toVarS.l0]
    rw [if_neg (by omega)]
    rw [List.take_of_length_le (by omega), List.take_of_length_le (by omega)] at ht
    rw [ht]
  | succ d ih =>
    intro k i ys hi hl ht hk
    obtain ⟨k, rfl⟩ : ∃ m, k = m + 1 := ⟨k - 1, by omega⟩
    have hx : i < xs.length := by omega
    simp only [laws_toVarS.l0]
    rw [if_pos (by omega), if_pos (by omega), rd80_at hx, toVar_eq k xs[i] (hs _ (List.getElem_mem hx)) (by omega)]
    simp only [Option.bind_some]
    rw [if_pos (by omega), wr (by omega) (by omega), Int.toNat_natCast]
    have hl2 : i < (ys.set i (conv xs[i])).length := by rw [List.length_set]; omega
    have e := ih k (i + 1) (ys.set i (conv xs[i])) (by omega) (by simp; omega) (by
      rw [List.take_succ_eq_append_getElem hl2, List.getElem_set_self, List.take_set_of_le (Nat.le_refl i), ht, List.take_succ_eq_append_getElem hx, List.map_append]; rfl) (by omega)
    rw [Int.natCast_add] at e
    exact e
theorem toS_eq (k : Nat) (xs : List S80) (hn : xs.length ≤ 1048576) (hs : ∀ x ∈ xs, Small x) (hk : 2097154 ≤ k) : laws_toVarS.f k xs = some (xs.map conv) := by
  unfold laws_toVarS.f
  rw [if_pos (by omega), if_pos (by omega)]
  exact toS_loop xs hn hs xs.length k 0 (List.replicate ((xs.length : Int)).toNat z64) (by omega) (by simp) (by simp) (by omega)
theorem eqVar_eq (k : Nat) (x : S64) (h1 : x.f1.f0.f1.length ≤ 1048576) (h2 : x.f1.f1.f1.length ≤ 1048576) (h3 : x.f2.f1.length ≤ 1048576) (hk : 1048576 < k) :
    laws_eqVar.f k x.f0 x.f1.f0.f0 x.f1.f0.f1 x.f1.f1.f0 x.f1.f1.f1 x.f2.f0 x.f2.f1 x.f0 x.f1.f0.f0 x.f1.f0.f1 x.f1.f1.f0 x.f1.f1.f1 x.f2.f0 x.f2.f1 = some true := by
  unfold laws_eqVar.f laws_eqRat.f laws_eqBig.f laws_eqVec.f
  rw [eqUint32S_eq k _ _ (by omega) (by omega), eqUint32S_eq k _ _ (by omega) (by omega), eqIntS_eq k _ _ (by omega) (by omega)]
  simp
theorem eqS_loop (xs : List S64) (hn : xs.length ≤ 1048576) (hs : ∀ x ∈ xs, x.f1.f0.f1.length ≤ 1048576 ∧ x.f1.f1.f1.length ≤ 1048576 ∧ x.f2.f1.length ≤ 1048576) (d : Nat) : ∀ (k i : Nat), i + d = xs.length → d + 1048576 < k → laws_eqVarS.l0 k xs xs (i : Int) = some true := by
  induction d with
  | zero =>
    intro k i hi hk
    obtain ⟨k, rfl⟩ : ∃ m, k = m + 1 := ⟨k - 1, by omega⟩
    simp only [laws_eqVarS.l0]
    rw [if_neg (by omega)]
  | succ d ih =>
    intro k i hi hk
    obtain ⟨k, rfl⟩ : ∃ m, k = m + 1 := ⟨k - 1, by omega⟩
    have hx : i < xs.length := by omega
    obtain ⟨a, b, c⟩ := hs _ (List.getElem_mem hx)
    have e := ih k (i + 1) (by omega) (by omega)
    rw [Int.natCast_add] at e
    have e' : laws_eqVarS.l0 k xs xs ((i : Int) + 1) = _ := e
    simp only [laws_eqVarS.l0]
    rw [if_pos (by omega), if_pos (by omega), if_pos (by omega), rd64_at hx, eqVar_eq k xs[i] a b c (by omega)]
    simp only [Option.bind_some, if_true]
    rw [wr (by omega) (by omega), e']
theorem eqS_eq (k : Nat) (xs : List S64) (hn : xs.length ≤ 1048576) (hs : ∀ x ∈ xs, x.f1.f0.f1.length ≤ 1048576 ∧ x.f1.f1.f1.length ≤ 1048576 ∧ x.f2.f1.length ≤ 1048576) (hk : 2097154 ≤ k) : laws_eqVarS.f k xs xs = some true := by
  unfold laws_eqVarS.f
  rw [if_pos rfl]
  exact eqS_loop xs hn hs xs.length k 0 (by omega) (by omega)
theorem at_loop (xs : List S64) (n : ByteArray) (hn : xs.length ≤ 1048576) (d : Nat) : ∀ (k i : Nat), i + d = xs.length → d < k → ∃ r, spec_VarAt.l0 k xs n (i : Int) = some r ∧ impl_varAt.l0 k xs n (i : Int) = some r := by
  induction d with
  | zero =>
    intro k i hi hk
    obtain ⟨k, rfl⟩ : ∃ m, k = m + 1 := ⟨k - 1, by omega⟩
    simp only [spec_VarAt.l0, impl_varAt.l0]
    rw [if_neg (by omega)]
    exact ⟨_, rfl, by rw [if_neg (by omega)]⟩
  | succ d ih =>
    intro k i hi hk
    obtain ⟨k, rfl⟩ : ∃ m, k = m + 1 := ⟨k - 1, by omega⟩
    obtain ⟨r, h1, h2⟩ := ih k (i + 1) (by omega) (by omega)
    rw [Int.natCast_add] at h1 h2
    have h1' : spec_VarAt.l0 k xs n ((i : Int) + 1) = some r := h1
    have h2' : impl_varAt.l0 k xs n ((i : Int) + 1) = some r := h2
    simp only [spec_VarAt.l0, impl_varAt.l0]
    rw [if_pos (by omega), if_pos (by omega), wr (by omega) (by omega)]
    by_cases h : (rd_T64 xs (i : Int)).f0.toList = n.toList
    · rw [if_pos h]; exact ⟨_, rfl, by rw [if_pos (by omega), if_pos (by omega), if_pos h]⟩
    · rw [if_neg h]; exact ⟨r, h1', by rw [if_pos (by omega), if_pos (by omega), if_neg h]; exact h2'⟩
theorem law_true (l : List S80) (n : ByteArray) (hm : l.length ≤ 9223372036854775807) (hz : ∀ t ∈ l, Fits t) : ∃ k, laws_FnExactVarAt.f k l n = some true := by
  by_cases hb : (n.size : Int) > 1048576
  · exact ⟨0, by unfold laws_FnExactVarAt.f; rw [if_pos hb]⟩
  · obtain ⟨K, hK⟩ : ∃ K, 2097154 ≤ K := ⟨_, Nat.le_refl _⟩
    refine ⟨K, ?_⟩
    unfold laws_FnExactVarAt.f laws_szVarS.f
    rw [if_neg hb, wr (x := 1048576 - (l.length : Int)) (by omega) (by omega)]
    by_cases h0 : 1048576 - (l.length : Int) < 0
    · rw [if_pos h0]; simp only [Option.bind_some]; rw [if_pos (by decide)]
    · rw [if_neg h0]
      have hl : l.length ≤ 1048576 := by omega
      obtain ⟨t, e, ht⟩ := szS_loop l hl hz l.length K 0 (1048576 - (l.length : Int)) (by omega) (by omega) (by omega) (by omega)
      have e' : laws_szVarS.l0 K l (1048576 - (l.length : Int)) 0 = _ := e
      rw [e']
      simp only [Option.bind_some]
      rcases ht with ht | ⟨ha, hs⟩
      · rw [if_pos ht]
      · rw [List.drop_zero] at hs
        rw [if_neg (by omega), toS_eq K l hl hs hK]
        simp only [Option.bind_some]
        have hcl : (l.map conv).length = l.length := List.length_map ..
        obtain ⟨r, h1, h2⟩ := at_loop (l.map conv) n (by omega) (l.map conv).length K 0 (by omega) (by omega)
        have h1' : spec_VarAt.f K (l.map conv) n = some r := h1
        have h2' : impl_varAt.f K (l.map conv) n = some r := h2
        rw [h1']
        simp only [Option.bind_some]
        unfold impl_VarAt.f
        rw [h2']
        simp only [Option.bind_some, if_true]
        rw [eqS_eq K (l.map conv) (by omega) (fun x hx => by
          obtain ⟨y, hy, rfl⟩ := List.mem_map.1 hx
          obtain ⟨_, b, c, d⟩ := hs y hy
          exact ⟨b, c, d⟩) hK]
        simp
theorem varAt_row (a : Option Addr) (len cap : Nat) (l : List S80) (n : ByteArray) (w : World) (h : Vr.VRow w a len cap l) : Calls Try.prog 10 #[.slice a len cap, .string n] w fun e w' => e = .returned (.bool true) ∧ Below w.heap.size w w' := by
  obtain ⟨rfl, h1, h2, h3, h4⟩ := h
  unfold maxLen at h2
  obtain ⟨k, hk⟩ := law_true l n (by omega) h4
  exact laws_FnExactVarAt.calls k a cap l n true w h3 h1 hk
end AFnExactVarAt
open AFnExactVarAt

end Go.Proofs.Ytjdndacollpjkaa.Pure
