/- What the reference's sums, products and drawn fractions answer. -/
import Derived.Test.YtjdndacollpjkaaBnE
import Derived.Test.YtjdndacollpjkaaFvD
namespace Go.Proofs.Ytjdndacollpjkaa.Bn
set_option linter.unusedVariables false
open Go.RowKit Go.Proofs.Ytjdndacollpjkaa.MFnVars Go.Proofs.YtjdndacollpjkaaW.PrintWords Go.Proofs.YtjdndacollpjkaaW.PrintLast

/-! ### l02Mul by 6 -/
theorem from6 (k : Nat) (hk : 2 < k) : spec_FromInt.f k 6 = some (false, [6]) := by
  have e : spec_l02Make.f k (decide ((6 : Int) < 0)) [(Go.bits .and .u64 (IntKind.u64.wrap (6)) 4294967295) % 4294967296, ((IntKind.u64.wrap (6)) / 4294967296) % 4294967296] = some (false, [6]) := by
    exact (make_eq k _ [(Go.bits .and .u64 (IntKind.u64.wrap (6)) 4294967295) % 4294967296, ((IntKind.u64.wrap (6)) / 4294967296) % 4294967296] (by decide) hk).trans (by rfl)
  unfold spec_FromInt.f
  rw [if_neg (by decide), e]; rfl
theorem mul6 (s : Bool) {l : List Int} (ho : Ok l) (hl : l.length ≤ 300000) : ∃ K r, ∀ k, K ≤ k → spec_l02Mul.f k s l false [6] = some r := by
  obtain ⟨r, e, o, ln, _⟩ := times_eq ho (y := 6) (by decide) (by decide) (by omega)
  obtain ⟨c, t, e2, o2, l2, _⟩ := make_any (s != false) (l := r) (by omega) o
  refine ⟨4 * l.length + 10, (c, t), fun k hk => ?_⟩
  unfold spec_l02Mul.f
  rw [e k (by omega)]; simp only [Option.bind_some]
  rw [e2 k (by omega)]; rfl
/-! ### l02Some, l02Any: of any number it is told that it is made -/
theorem some_bit (b : List Int) (i1 h1 : Int) (hi1 : 0 ≤ i1) (hn : b.length ≤ 9223372036854775806) (M : Int) (hM : M = 1280) :
    ∃ s n c t d u i2 h2 i3 h3, spec_l01Once.f b i1 h1 2 = some (s, i2, h2) ∧ spec_l01Below.f b i2 h2 M = some (n, i3, h3) ∧ (∀ k, 100 < k → spec_l02Bit.f k n = some (c, t)) ∧ (∀ k, 100 < k → spec_l02Make.f k s t = some (d, u)) ∧ Ok u ∧ u.length ≤ 41 ∧ 0 ≤ i3 := by
  obtain ⟨s, i2, h2, e2, hi2⟩ := once_some b i1 h1 2 hi1 hn
  obtain ⟨n, i3, h3, e3, n0, n1, _, hi3⟩ := below_some b i2 h2 M hi2 hn
  have n1 := n1 (by omega)
  obtain ⟨n, rfl⟩ := Int.eq_ofNat_of_zero_le n0
  obtain ⟨c, t, e4, o, tl, _⟩ := bit_eq n (by omega)
  obtain ⟨d, u, e5, o5, ul, _⟩ := make_any s (l := t) (by omega) o
  exact ⟨s, n, c, t, d, u, i2, h2, i3, h3, e2, e3, e4, fun k hk => e5 k (by omega), o5, by omega, hi3⟩
theorem some_eq (b : List Int) (i h : Int) (hi : 0 ≤ i) (hn : b.length ≤ 9223372036854775806) :
    ∃ s l i' h', (∀ k, 5000 < k → spec_l02Some.f k b i h = some (s, l, i', h')) ∧ Ok l ∧ l.length ≤ 100 ∧ 0 ≤ i' := by
  obtain ⟨r, i1, h1, e1, _, _, _, hi1⟩ := below_some b i h 8 hi hn
  by_cases c0 : r = 0
  · obtain ⟨x, i2, h2, e2, _, hi2⟩ := pickInt_some b i1 h1 [0, 1, (-1), 2, (-2), 4294967295, 4294967296, (-4294967296), 9223372036854775807, (-9223372036854775808)] hi1 hn (by simp)
    obtain ⟨s, l, e3, o, ln, _⟩ := from_eq x
    refine ⟨s, l, i2, h2, fun k hk => ?_, o, by omega, hi2⟩
    unfold spec_l02Some.f
    rw [e1]; simp only [Option.bind_some]
    rw [if_pos c0, e2]; simp only [Option.bind_some]
    rw [e3 k (by omega)]; rfl
  by_cases c1 : r = 1
  · obtain ⟨s, l, i2, h2, e2, o, ln, hi2⟩ := big_eq b i1 h1 4 hi1 hn (by omega)
    refine ⟨s, l, i2, h2, fun k hk => ?_, o, by omega, hi2⟩
    unfold spec_l02Some.f
    rw [e1]; simp only [Option.bind_some]
    have e2 := e2 k (by omega)
    rw [if_neg c0, if_pos c1, show (4 : Int) = ((4 : Nat) : Int) from rfl, e2]; rfl
  by_cases c2 : r = 2
  · obtain ⟨s, n, c, t, d, u, i2, h2, i3, h3, e2, e3, e4, e5, o5, ul, hi3⟩ := some_bit b i1 h1 hi1 hn 1280 rfl
    refine ⟨d, u, i3, h3, fun k hk => ?_, o5, by omega, hi3⟩
    unfold spec_l02Some.f
    rw [e1]; simp only [Option.bind_some]
    rw [if_neg c0, if_neg c1, if_pos c2, e2]; simp only [Option.bind_some]
    rw [e3]; simp only [Option.bind_some]
    rw [e4 k (by omega)]; simp only [Option.bind_some]
    rw [e5 k (by omega)]; rfl
  by_cases c3 : r = 3
  · obtain ⟨s, l, i2, h2, e2, o, ln, hi2⟩ := big_eq b i1 h1 40 hi1 hn (by omega)
    refine ⟨s, l, i2, h2, fun k hk => ?_, o, by omega, hi2⟩
    unfold spec_l02Some.f
    rw [e1]; simp only [Option.bind_some]
    have e2 := e2 k (by omega)
    rw [if_neg c0, if_neg c1, if_neg c2, if_pos c3, show (40 : Int) = ((40 : Nat) : Int) from rfl, e2]; rfl
  · obtain ⟨x, i2, h2, e2, _, _, _, hi2⟩ := below_some b i1 h1 2000 hi1 hn
    obtain ⟨s, l, e3, o, ln, _⟩ := from_eq (wrap64 (x - 1000))
    refine ⟨s, l, i2, h2, fun k hk => ?_, o, by omega, hi2⟩
    unfold spec_l02Some.f
    rw [e1]; simp only [Option.bind_some]
    rw [if_neg c0, if_neg c1, if_neg c2, if_neg c3, e2]; simp only [Option.bind_some]
    rw [e3 k (by omega)]; rfl
theorem any_loop (b : List Int) (hn : b.length ≤ 9223372036854775806) (s : Bool) (d : Nat) : ∀ (out : List Int) (i h : Int), out.length + d = 1000 → 0 ≤ i →
    ∃ l i' h', (∀ k, d + 2 < k → spec_l02Any.l0 k b i h s out = some (s, l, i', h')) ∧ 0 ≤ i' := by
  induction d with
  | zero =>
    intro out i h hl hi
    obtain ⟨r, i1, h1, e1, r0, r1, _, hi1⟩ := below_some b i h 2 hi hn
    have r1 := r1 (by omega)
    refine ⟨out, i1, h1, fun k hk => ?_, hi1⟩
    obtain ⟨k, rfl⟩ : ∃ m, k = m + 1 := ⟨k - 1, by omega⟩
    simp only [spec_l02Any.l0]
    rw [e1]; simp only [Option.bind_some]
    rw [wr (by omega) (by omega), if_neg (by omega)]
  | succ d ih =>
    intro out i h hl hi
    obtain ⟨r, i1, h1, e1, r0, r1, _, hi1⟩ := below_some b i h 2 hi hn
    have r1 := r1 (by omega)
    by_cases c : (out.length : Int) < wrap64 (40 + r)
    · obtain ⟨l, i2, h2, e, hi2⟩ := ih (out ++ [4294967295]) i1 h1 (by rw [List.length_append, List.length_singleton]; omega) hi1
      refine ⟨l, i2, h2, fun k hk => ?_, hi2⟩
      obtain ⟨k, rfl⟩ : ∃ m, k = m + 1 := ⟨k - 1, by omega⟩
      simp only [spec_l02Any.l0]
      rw [e1]; simp only [Option.bind_some]
      rw [if_pos c, if_pos (by omega)]
      exact e k (by omega)
    · refine ⟨out, i1, h1, fun k hk => ?_, hi1⟩
      obtain ⟨k, rfl⟩ : ∃ m, k = m + 1 := ⟨k - 1, by omega⟩
      simp only [spec_l02Any.l0]
      rw [e1]; simp only [Option.bind_some]
      rw [if_neg c]
theorem l02any_eq (b : List Int) (i h : Int) (hi : 0 ≤ i) (hn : b.length ≤ 9223372036854775806) :
    ∃ s l i' h', (∀ k, 5000 < k → spec_l02Any.f k b i h = some (s, l, i', h')) ∧ 0 ≤ i' := by
  obtain ⟨s, l, i1, h1, e1, o, ln, hi1⟩ := some_eq b i h hi hn
  obtain ⟨r, i2, h2, e2, _, _, _, hi2⟩ := below_some b i1 h1 25 hi1 hn
  by_cases c0 : r = 0
  · exact ⟨s, l ++ [0], i2, h2, fun k hk => by unfold spec_l02Any.f; rw [e1 k hk]; simp only [Option.bind_some]; rw [e2]; simp only [Option.bind_some]; rw [if_pos c0, if_pos (by omega)], hi2⟩
  by_cases c1 : r = 1
  · exact ⟨!s, l, i2, h2, fun k hk => by unfold spec_l02Any.f; rw [e1 k hk]; simp only [Option.bind_some]; rw [e2]; simp only [Option.bind_some]; rw [if_neg c0, if_pos c1], hi2⟩
  by_cases c2 : r = 2
  · obtain ⟨l2, i3, h3, e3, hi3⟩ := any_loop b hn s (1000 - l.length) l i2 h2 (by omega) hi2
    exact ⟨s, l2, i3, h3, fun k hk => by unfold spec_l02Any.f; rw [e1 k hk]; simp only [Option.bind_some]; rw [e2]; simp only [Option.bind_some]; rw [if_neg c0, if_neg c1, if_pos c2]; exact e3 k (by omega), hi3⟩
  · exact ⟨s, l, i2, h2, fun k hk => by unfold spec_l02Any.f; rw [e1 k hk]; simp only [Option.bind_some]; rw [e2]; simp only [Option.bind_some]; rw [if_neg c0, if_neg c1, if_neg c2], hi2⟩
/-! ### l03Some, l03Any -/
theorem l03_bit (b : List Int) (i1 h1 : Int) (hi1 : 0 ≤ i1) (hn : b.length ≤ 9223372036854775806) (B : Int) (hB : B = 40) (M : Int) (hM : M = 1279) :
    ∃ K s l n c t q i2 h2 i3 h3, (∀ k, K ≤ k → spec_l02Big.f k b i1 h1 B = some (s, l, i2, h2)) ∧ spec_l01Below.f b i2 h2 M = some (n, i3, h3) ∧ (∀ k, K ≤ k → spec_l02Bit.f k n = some (c, t)) ∧ (∀ k, K ≤ k → spec_l03Make.f k s l c t = some q) ∧ Ok q.2.1 ∧ q.2.1.length ≤ 1000 ∧ Ok q.2.2.2 ∧ q.2.2.2.length ≤ 1000 ∧ 0 ≤ i3 := by
  obtain ⟨s, l, i2, h2, e2, o2, ln2, hi2⟩ := big_eq b i1 h1 40 hi1 hn (by omega)
  obtain ⟨n, i3, h3, e3, n0, n1, _, hi3⟩ := below_some b i2 h2 M hi2 hn
  have n1 := n1 (by omega)
  obtain ⟨n, rfl⟩ := Int.eq_ofNat_of_zero_le n0
  obtain ⟨c, t, e4, o4, tl, v4⟩ := bit_eq n (by omega)
  obtain ⟨K7, q, e7, o7, ln7, o8, ln8⟩ := rat_eq s c o2 o4 (by omega) (by omega) v4
  obtain ⟨K, hK⟩ : ∃ K, K7 + 5000 ≤ K := ⟨_, Nat.le_refl _⟩
  subst hB
  exact ⟨K, s, l, n, c, t, q, i2, h2, i3, h3, fun k hk => e2 k (by omega), e3, fun k hk => e4 k (by omega), fun k hk => e7 k (by omega), o7, by omega, o8, by omega, hi3⟩
theorem l03some_eq (b : List Int) (i h : Int) (hi : 0 ≤ i) (hn : b.length ≤ 9223372036854775806) :
    ∃ K s l t m i' h', (∀ k, K ≤ k → spec_l03Some.f k b i h = some (s, l, t, m, i', h')) ∧ Ok l ∧ l.length ≤ 1000 ∧ Ok m ∧ m.length ≤ 1000 ∧ 0 ≤ i' := by
  obtain ⟨r, i1, h1, e1, _, _, _, hi1⟩ := below_some b i h 8 hi hn
  by_cases c0 : r = 0
  · obtain ⟨x, i2, h2, e2, _, hi2⟩ := pickInt_some b i1 h1 [0, 1, (-1), 2, 1000] hi1 hn (by simp)
    obtain ⟨s, l, t, m, e3, o, ln, o2, ln2⟩ := of_ok x
    refine ⟨3, s, l, t, m, i2, h2, fun k hk => ?_, o, by omega, o2, by omega, hi2⟩
    unfold spec_l03Some.f
    rw [e1]; simp only [Option.bind_some]
    rw [if_pos c0, e2]; simp only [Option.bind_some]
    rw [e3 k (by omega)]; rfl
  by_cases c1 : r = 1
  · obtain ⟨s, l, i2, h2, e2, o2, ln2, hi2⟩ := big_eq b i1 h1 4 hi1 hn (by omega)
    obtain ⟨t, m, i3, h3, e3, o3, ln3, hi3⟩ := big_eq b i2 h2 4 hi2 hn (by omega)
    obtain ⟨c, u, e4, o4, ln4, v4, s4⟩ := make_any false (l := m) (by omega) o3
    have s4 := s4 rfl
    obtain ⟨f, g, e5, o5, ln5, v5⟩ := from_eq 1
    obtain ⟨rfl, v5⟩ := v5 (by decide) (by decide)
    subst s4
    obtain ⟨K6, d, w, e6, o6, ln6, v6⟩ := add_eq false o4 o5 (by omega) (by omega)
    have := (val_bound u o4).1
    obtain ⟨K7, q, e7, o7, ln7, o8, ln8⟩ := rat_eq s d o2 o6 (by omega) (by omega) (by omega)
    obtain ⟨K, hK⟩ : ∃ K, K6 + K7 + 5000 ≤ K := ⟨_, Nat.le_refl _⟩
    refine ⟨K, q.1, q.2.1, q.2.2.1, q.2.2.2, i3, h3, fun k hk => ?_, o7, by omega, o8, by omega, hi3⟩
    have e2 := e2 k (by omega)
    have e3 := e3 k (by omega)
    unfold spec_l03Some.f
    rw [e1]; simp only [Option.bind_some]
    rw [if_neg c0, if_pos c1, show (4 : Int) = ((4 : Nat) : Int) from rfl, e2]; simp only [Option.bind_some]
    rw [e3]; simp only [Option.bind_some]
    rw [e4 k (by omega)]; simp only [Option.bind_some]
    rw [e5 k (by omega)]; simp only [Option.bind_some]
    rw [e6 k (by omega)]; simp only [Option.bind_some]
    rw [e7 k (by omega)]; rfl
  by_cases c2 : r = 2
  · obtain ⟨K, s, l, n, c, t, q, i2, h2, i3, h3, e2, e3, e4, e7, o7, ln7, o8, ln8, hi3⟩ := l03_bit b i1 h1 hi1 hn 40 rfl 1279 rfl
    refine ⟨K, q.1, q.2.1, q.2.2.1, q.2.2.2, i3, h3, fun k hk => ?_, o7, ln7, o8, ln8, hi3⟩
    unfold spec_l03Some.f
    rw [e1]; simp only [Option.bind_some]
    rw [if_neg c0, if_neg c1, if_pos c2, e2 k hk]; simp only [Option.bind_some]
    rw [e3]; simp only [Option.bind_some]
    rw [e4 k hk]; simp only [Option.bind_some]
    rw [e7 k hk]; rfl
  · obtain ⟨x, i2, h2, e2, _, _, _, hi2⟩ := below_some b i1 h1 400 hi1 hn
    obtain ⟨s, l, e3, o3, ln3, _⟩ := from_eq (wrap64 (x - 150))
    obtain ⟨y, i3, h3, e4, y0, y1, _, hi3⟩ := below_some b i2 h2 24 hi2 hn
    have y1 := y1 (by omega)
    have wy : wrap64 (1 + y) = 1 + y := wr (by omega) (by omega)
    obtain ⟨t, m, e5, o5, ln5, v5⟩ := from_eq (wrap64 (1 + y))
    have v5 := (v5 (by omega) (by omega)).2
    obtain ⟨K7, q, e7, o7, ln7, o8, ln8⟩ := rat_eq s t o3 o5 (by omega) (by omega) (by omega)
    obtain ⟨K, hK⟩ : ∃ K, K7 + 5000 ≤ K := ⟨_, Nat.le_refl _⟩
    refine ⟨K, q.1, q.2.1, q.2.2.1, q.2.2.2, i3, h3, fun k hk => ?_, o7, by omega, o8, by omega, hi3⟩
    unfold spec_l03Some.f
    rw [e1]; simp only [Option.bind_some]
    rw [if_neg c0, if_neg c1, if_neg c2, e2]; simp only [Option.bind_some]
    rw [e3 k (by omega)]; simp only [Option.bind_some]
    rw [e4]; simp only [Option.bind_some]
    rw [e5 k (by omega)]; simp only [Option.bind_some]
    rw [e7 k (by omega)]; rfl
theorem l03any_eq (b : List Int) (i h : Int) (hi : 0 ≤ i) (hn : b.length ≤ 9223372036854775806) :
    ∃ K s l t m i' h', (∀ k, K ≤ k → spec_l03Any.f k b i h = some (s, l, t, m, i', h')) ∧ 0 ≤ i' := by
  obtain ⟨K, s, l, t, m, i1, h1, e1, ol, ll, om, lm, hi1⟩ := l03some_eq b i h hi hn
  obtain ⟨r, i2, h2, e2, _, _, _, hi2⟩ := below_some b i1 h1 30 hi1 hn
  by_cases c0 : r = 0
  · exact ⟨K, s, l, false, [], i2, h2, fun k hk => by unfold spec_l03Any.f; rw [e1 k (by omega)]; simp only [Option.bind_some]; rw [e2]; simp only [Option.bind_some]; rw [if_pos c0], hi2⟩
  by_cases c1 : r = 1
  · obtain ⟨K1, q1, e3⟩ := mul6 s ol (by omega)
    obtain ⟨K2, q2, e4⟩ := mul6 t om (by omega)
    obtain ⟨K', hK⟩ : ∃ K', K + K1 + K2 + 10 ≤ K' := ⟨_, Nat.le_refl _⟩
    refine ⟨K', q1.1, q1.2, q2.1, q2.2, i2, h2, fun k hk => ?_, hi2⟩
    unfold spec_l03Any.f; rw [e1 k (by omega)]; simp only [Option.bind_some]; rw [e2]; simp only [Option.bind_some]; rw [if_neg c0, if_pos c1, from6 k (by omega), Option.bind_some, e3 k (by omega), Option.bind_some, Option.bind_some, e4 k (by omega)]; rfl
  by_cases c2 : r = 2
  · obtain ⟨K', hK⟩ : ∃ K', K + m.length + 1 ≤ K' := ⟨_, Nat.le_refl _⟩
    refine ⟨K', s, l, mkN (!t) (trim m), trim m, i2, h2, fun k hk => ?_, hi2⟩
    unfold spec_l03Any.f; rw [e1 k (by omega)]; simp only [Option.bind_some]; rw [e2]; simp only [Option.bind_some]; rw [if_neg c0, if_neg c1, if_pos c2, neg_eq k t m (by omega) (by omega)]; rfl
  by_cases c3 : r = 3
  · obtain ⟨s1, l1, i3, h3, e3, hi3⟩ := l02any_eq b i2 h2 hi2 hn
    obtain ⟨s2, l2, i4, h4, e4, hi4⟩ := l02any_eq b i3 h3 hi3 hn
    obtain ⟨K', hK⟩ : ∃ K', K + 5001 ≤ K' := ⟨_, Nat.le_refl _⟩
    refine ⟨K', s1, l1, s2, l2, i4, h4, fun k hk => ?_, hi4⟩
    unfold spec_l03Any.f; rw [e1 k (by omega)]; simp only [Option.bind_some]; rw [e2]; simp only [Option.bind_some]; rw [if_neg c0, if_neg c1, if_neg c2, if_pos c3, e3 k (by omega)]; simp only [Option.bind_some]
    rw [e4 k (by omega)]; rfl
  · exact ⟨K, s, l, t, m, i2, h2, fun k hk => by unfold spec_l03Any.f; rw [e1 k (by omega)]; simp only [Option.bind_some]; rw [e2]; simp only [Option.bind_some]; rw [if_neg c0, if_neg c1, if_neg c2, if_neg c3], hi2⟩
end Go.Proofs.Ytjdndacollpjkaa.Bn
