/- What the reference's division, common divisor and fraction answer. -/
import Derived.Test.YtjdndacollpjkaaBnC
import Derived.Test.YtjdndacollpjkaaFvD
namespace Go.Proofs.Ytjdndacollpjkaa.Bn
set_option linter.unusedVariables false
open Go.RowKit Go.Proofs.Ytjdndacollpjkaa.MFnVars Go.Proofs.YtjdndacollpjkaaW.PrintWords Go.Proofs.YtjdndacollpjkaaW.PrintLast

/-! ### l02DivMod -/
theorem divmod_eq (na nb : Bool) {a b : List Int} (ha : Ok a) (hb : Ok b) (hn : Nrm b) (hne : b ≠ []) (la : a.length ≤ 45000) (lb : b.length ≤ 45000) :
    ∃ K r, (∀ k, K ≤ k → spec_l02DivMod.f k na a nb b = some r) ∧ Ok r.2.1 ∧ r.2.1.length ≤ a.length + 2 ∧ (na = false → r.2.2.1 = false ∧ Ok r.2.2.2 ∧ Nrm r.2.2.2 ∧ val r.2.2.2 < val b) := by
  obtain ⟨K, q, r, hk, qo, ql, ro, rl, rv⟩ := long_eq ha hb hn hne (by omega) (by omega)
  have tq := trim_length q
  have tr := trim_length r
  have keep : ∀ k, K + a.length + b.length + 10 ≤ k → spec_l02DivMod.j0 k q false na a nb b (mkN (na != nb) (trim q)) (trim q) (mkN false (trim r)) (trim r) = some (mkN (na != nb) (trim q), trim q, mkN false (trim r), trim r) := by
    intro k h
    obtain ⟨k, rfl⟩ : ∃ m, k = m + 1 := ⟨k - 1, by omega⟩
    simp only [spec_l02DivMod.j0]
    rw [if_neg (by decide)]
  have first : ∀ k, K + a.length + b.length + 10 ≤ k → spec_l02DivMod.f k na a nb b = if na = true then spec_l02DivMod.j0 k q (decide (((trim r).length : Int) > 0)) na a nb b (mkN (na != nb) (trim q)) (trim q) (mkN false (trim r)) (trim r) else spec_l02DivMod.j0 k q false na a nb b (mkN (na != nb) (trim q)) (trim q) (mkN false (trim r)) (trim r) := by
    intro k h
    unfold spec_l02DivMod.f
    rw [hk k (by omega)]
    simp only [Option.bind_some]
    rw [make_eq k (na != nb) q (by omega) (by omega)]
    simp only [Option.bind_some]
    rw [make_eq k false r (by omega) (by omega)]
    simp only [Option.bind_some]
  have hmf : mkN false (trim r) = false := by unfold mkN; split <;> rfl
  cases na
  · refine ⟨K + a.length + b.length + 10, _, fun k h => by rw [first k h, if_neg (by decide)]; exact keep k h, trim_ok qo, by show (trim q).length ≤ _; omega, fun _ => ⟨hmf, trim_ok ro, trim_nrm r, by show val (trim r) < _; rw [trim_val]; exact rv⟩⟩
  · by_cases hz : ((trim r).length : Int) > 0
    · obtain ⟨K2, p, hp, po, pl, _⟩ := plus_eq qo (Ok.one (x := 1) (by decide) (by decide)) (by omega) (by decide)
      obtain ⟨s, hs, so, sl, _⟩ := less_eq hb (trim_ok ro) (by omega)
      have p1 : ([1] : List Int).length = 1 := rfl
      have tp := trim_length p
      refine ⟨K + K2 + a.length + b.length + p.length + s.length + 20, (mkN (true != nb) (trim p), trim p, mkN false (trim s), trim s), fun k h => ?_, trim_ok po, by show (trim p).length ≤ _; omega, fun h => by cases h⟩
      have hd : decide (((trim r).length : Int) > 0) = true := decide_eq_true hz
      rw [first k (by omega), if_pos rfl, hd]
      obtain ⟨k, rfl⟩ : ∃ m, k = m + 1 := ⟨k - 1, by omega⟩
      simp only [spec_l02DivMod.j0]
      rw [if_pos trivial, hp k (by omega)]
      simp only [Option.bind_some]
      rw [make_eq k _ p (by omega) (by omega)]
      simp only [Option.bind_some]
      rw [hs k (by omega)]
      simp only [Option.bind_some]
      rw [make_eq k false s (by omega) (by omega)]
      rfl
    · have hd : decide (((trim r).length : Int) > 0) = false := decide_eq_false hz
      refine ⟨K + a.length + b.length + 10, _, fun k h => by rw [first k h, if_pos rfl, hd]; exact keep k h, trim_ok qo, by show (trim q).length ≤ _; omega, fun h => by cases h⟩
/-! ### l02Gcd -/
theorem gcd_loop (n : Nat) : ∀ (x y : List Int), (val y).toNat < n → Ok x → Ok y → Nrm x → Nrm y → x.length ≤ 40000 → y.length ≤ 40000 → (x ≠ [] ∨ y ≠ []) →
    ∃ K g, (∀ k, K ≤ k → spec_l02Gcd.l0 k false x false y = some (false, g)) ∧ Ok g ∧ Nrm g ∧ g ≠ [] ∧ g.length ≤ 40000 := by
  induction n with
  | zero => intro x y h; omega
  | succ n ih =>
    intro x y hv ox oy nx ny lx ly hne
    by_cases hy : y = []
    · subst hy
      refine ⟨1, x, fun k hk => ?_, ox, nx, by rcases hne with h | h; exact h; exact absurd rfl h, lx⟩
      obtain ⟨k, rfl⟩ : ∃ m, k = m + 1 := ⟨k - 1, by omega⟩
      simp only [spec_l02Gcd.l0]
      rw [if_neg (by simp)]
    · obtain ⟨K1, r, hk, _, _, hr⟩ := divmod_eq false false ox oy ny hy (by omega) (by omega)
      obtain ⟨r1, r2, r3, r4⟩ := hr rfl
      have hv0 := (val_bound _ r2).1
      have hl := len_le r2 oy r3 (by omega)
      obtain ⟨K2, g, hg, h⟩ := ih y r.2.2.2 (by omega) oy r2 ny r3 ly (by omega) (.inl hy)
      refine ⟨K1 + K2 + 1, g, fun k hk' => ?_, h⟩
      obtain ⟨k, rfl⟩ : ∃ m, k = m + 1 := ⟨k - 1, by omega⟩
      have hpos : 0 < y.length := List.length_pos_iff.2 hy
      simp only [spec_l02Gcd.l0]
      rw [if_pos (by omega), hk k (by omega)]
      simp only [Option.bind_some]
      rw [r1]
      exact hg k (by omega)
theorem mk_false (t : List Int) : mkN false t = false := by unfold mkN; split <;> rfl
theorem gcd_eq (na nb : Bool) {a b : List Int} (ha : Ok a) (hb : Ok b) (la : a.length ≤ 40000) (lb : b.length ≤ 40000) (hv : 0 < val b) :
    ∃ K g, (∀ k, K ≤ k → spec_l02Gcd.f k na a nb b = some (false, g)) ∧ Ok g ∧ Nrm g ∧ g ≠ [] ∧ g.length ≤ 40000 := by
  have ta := trim_length a
  have tb := trim_length b
  have hne : trim b ≠ [] := fun e => by have := trim_val b; rw [e] at this; have z : val [] = 0 := rfl; omega
  obtain ⟨K, g, hk, h⟩ := gcd_loop ((val (trim b)).toNat + 1) (trim a) (trim b) (by omega) (trim_ok ha) (trim_ok hb) (trim_nrm a) (trim_nrm b) (by omega) (by omega) (.inr hne)
  refine ⟨K + a.length + b.length + 2, g, fun k hk' => ?_, h⟩
  unfold spec_l02Gcd.f
  rw [make_eq k false a (by omega) (by omega)]
  simp only [Option.bind_some]
  rw [make_eq k false b (by omega) (by omega)]
  simp only [Option.bind_some, mk_false]
  exact hk k (by omega)
/-! ### l03Make -/
theorem neg_eq (k : Nat) (n : Bool) (l : List Int) (hl : l.length ≤ 1000000) (hk : l.length < k) : spec_l02Neg.f k n l = some (mkN (!n) (trim l), trim l) := by
  unfold spec_l02Neg.f
  rw [make_eq k _ l hl hk]; rfl
theorem rat_eq (na nb : Bool) {a b : List Int} (ha : Ok a) (hb : Ok b) (la : a.length ≤ 40000) (lb : b.length ≤ 40000) (hv : 0 < val b) :
    ∃ K r, (∀ k, K ≤ k → spec_l03Make.f k na a nb b = some r) ∧ Ok r.2.1 ∧ r.2.1.length ≤ a.length + 2 ∧ Ok r.2.2.2 ∧ r.2.2.2.length ≤ b.length + 2 := by
  obtain ⟨K, g, hk, go, gn, gne, gl⟩ := gcd_eq na nb ha hb la lb hv
  cases nb
  · obtain ⟨K1, r1, h1, o1, l1, _⟩ := divmod_eq na false ha go gn gne (by omega) (by omega)
    obtain ⟨K2, r2, h2, o2, l2, _⟩ := divmod_eq false false hb go gn gne (by omega) (by omega)
    refine ⟨K + K1 + K2, (r1.1, r1.2.1, r2.1, r2.2.1), fun k hk' => ?_, o1, l1, o2, l2⟩
    unfold spec_l03Make.f
    rw [hk k (by omega)]
    simp only [Option.bind_some]
    rw [if_neg (by decide), h1 k (by omega)]
    simp only [Option.bind_some]
    rw [h2 k (by omega)]
    rfl
  · have tg := trim_length g
    have tne : trim g ≠ [] := fun e => by
      have h1 := trim_val g
      rw [e] at h1
      exact gne ((val_zero go gn).1 h1.symm)
    obtain ⟨K1, r1, h1, o1, l1, _⟩ := divmod_eq na (mkN (!false) (trim g)) ha (trim_ok go) (trim_nrm g) tne (by omega) (by omega)
    obtain ⟨K2, r2, h2, o2, l2, _⟩ := divmod_eq true (mkN (!false) (trim g)) hb (trim_ok go) (trim_nrm g) tne (by omega) (by omega)
    refine ⟨K + K1 + K2 + g.length + 1, (r1.1, r1.2.1, r2.1, r2.2.1), fun k hk' => ?_, o1, l1, o2, l2⟩
    unfold spec_l03Make.f
    rw [hk k (by omega)]
    simp only [Option.bind_some]
    rw [if_pos trivial, neg_eq k false g (by omega) (by omega)]
    simp only [Option.bind_some]
    rw [h1 k (by omega)]
    simp only [Option.bind_some]
    rw [h2 k (by omega)]
    rfl
end Go.Proofs.Ytjdndacollpjkaa.Bn
