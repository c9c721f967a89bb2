/- What the reference's digit search and divisions answer. -/
import Derived.Test.YtjdndacollpjkaaBnB
import Derived.Test.YtjdndacollpjkaaFvD
namespace Go.Proofs.Ytjdndacollpjkaa.Bn
set_option linter.unusedVariables false
open Go.RowKit Go.Proofs.Ytjdndacollpjkaa.MFnVars Go.Proofs.YtjdndacollpjkaaW.PrintWords Go.Proofs.YtjdndacollpjkaaW.PrintLast

/-! ### l02Digit -/
theorem sgn_le {x y : Int} : sgn x y ≤ 0 ↔ x ≤ y := by
  unfold sgn
  by_cases h : x = y
  · rw [if_pos h]; omega
  · rw [if_neg h]
    by_cases h' : x < y
    · rw [if_pos h']; omega
    · rw [if_neg h']; omega
theorem sgn_lt {x y : Int} : sgn x y < 0 ↔ x < y := by
  unfold sgn
  by_cases h : x = y
  · rw [if_pos h]; omega
  · rw [if_neg h]
    by_cases h' : x < y
    · rw [if_pos h']; omega
    · rw [if_neg h']; omega
theorem digit_loop {a b : List Int} (ha : Ok a) (hb : Ok b) (na : Nrm a) (la : a.length ≤ 100000) (lb : b.length ≤ 100000) (n : Nat) : ∀ (lo hi : Int), 0 ≤ lo → lo ≤ hi → hi < 4294967296 → hi - lo ≤ n → lo * val b ≤ val a → val a < (hi + 1) * val b →
    ∃ K d, (∀ k, K ≤ k → spec_l02Digit.l0 k a b lo hi = some d) ∧ 0 ≤ d ∧ d < 4294967296 ∧ d * val b ≤ val a ∧ val a < (d + 1) * val b := by
  induction n with
  | zero =>
    intro lo hi h0 h1 h2 hn h3 h4
    have e : lo = hi := by omega
    subst e
    refine ⟨1, lo, fun k hk => ?_, h0, h2, h3, h4⟩
    obtain ⟨k, rfl⟩ : ∃ m, k = m + 1 := ⟨k - 1, by omega⟩
    simp only [spec_l02Digit.l0]
    rw [if_neg (by omega)]
    congr 1; omega
  | succ n ih =>
    intro lo hi h0 h1 h2 hn h3 h4
    by_cases hlt : lo < hi
    · obtain ⟨m, hm⟩ : ∃ m, (lo + hi + 1) / 2 = m := ⟨_, rfl⟩
      have m0 : lo < m ∧ m ≤ hi := by omega
      obtain ⟨p, hp, po, pl, pv⟩ := times_eq hb (y := m) (by omega) (by omega) (by omega)
      have tl := trim_length p
      have step : ∀ k, 3 * b.length + p.length + 10 ≤ k → spec_l02Digit.l0 (k + 1) a b lo hi = if m * val b ≤ val a then spec_l02Digit.l0 k a b m hi else spec_l02Digit.l0 k a b lo (m - 1) := by
        intro k hk
        have ht : Int.tdiv (lo + hi + 1) 2 = m := by rw [Int.tdiv_eq_ediv_of_nonneg (by omega)]; exact hm
        simp only [spec_l02Digit.l0]
        rw [if_pos hlt, uw (x := lo + hi) (by omega) (by omega), uw (x := lo + hi + 1) (by omega) (by omega), ht, uw (x := m) (by omega) (by omega), show m % 4294967296 = m by omega, hp k (by omega)]
        simp only [Option.bind_some]
        rw [make_eq k false p (by omega) (by omega)]
        simp only [Option.bind_some]
        rw [least_eq k (trim_ok po) ha (trim_nrm p) na (by omega) (by omega) (by omega), trim_val, pv]
        simp only [Option.bind_some]
        rw [uw (x := m - 1) (by omega) (by omega)]
        by_cases hc : m * val b ≤ val a
        · rw [if_pos (sgn_le.2 hc), if_pos hc]
        · rw [if_neg (fun h => hc (sgn_le.1 h)), if_neg hc]
      by_cases hc : m * val b ≤ val a
      · obtain ⟨K, d, hk, h⟩ := ih m hi (by omega) (by omega) h2 (by omega) hc h4
        refine ⟨K + 3 * b.length + p.length + 11, d, fun k hk' => ?_, h⟩
        obtain ⟨k, rfl⟩ : ∃ m, k = m + 1 := ⟨k - 1, by omega⟩
        rw [step k (by omega), if_pos hc]
        exact hk k (by omega)
      · obtain ⟨K, d, hk, h⟩ := ih lo (m - 1) h0 (by omega) (by omega) (by omega) h3 (by rw [show m - 1 + 1 = m by omega]; omega)
        refine ⟨K + 3 * b.length + p.length + 11, d, fun k hk' => ?_, h⟩
        obtain ⟨k, rfl⟩ : ∃ m, k = m + 1 := ⟨k - 1, by omega⟩
        rw [step k (by omega), if_neg hc]
        exact hk k (by omega)
    · have e : lo = hi := by omega
      subst e
      refine ⟨1, lo, fun k hk => ?_, h0, h2, h3, h4⟩
      obtain ⟨k, rfl⟩ : ∃ m, k = m + 1 := ⟨k - 1, by omega⟩
      simp only [spec_l02Digit.l0]
      rw [if_neg (by omega)]
      congr 1; omega
theorem digit_eq {a b : List Int} (ha : Ok a) (hb : Ok b) (na : Nrm a) (la : a.length ≤ 100000) (lb : b.length ≤ 100000) (hv : val a < 4294967296 * val b) :
    ∃ K d, (∀ k, K ≤ k → spec_l02Digit.f k a b = some d) ∧ 0 ≤ d ∧ d < 4294967296 ∧ d * val b ≤ val a ∧ val a < (d + 1) * val b := by
  have h0 := (val_bound a ha).1
  exact digit_loop ha hb na la lb 4294967295 0 4294967295 (by omega) (by omega) (by omega) (by omega) (by omega) (by omega)
/-! ### l02Short -/
theorem short_loop {a : List Int} (ha : Ok a) {y : Int} (y0 : 0 < y) (y1 : y < 4294967296) (la : a.length ≤ 100000) (n : Nat) : ∀ (out : List Int) (r : Int), n ≤ a.length → out.length = a.length → Ok out → 0 ≤ r → r < y → 
    ∃ q r', (∀ k, n < k → spec_l02Short.l0 k a y out r ((n : Int) - 1) = some (q, [r'])) ∧ Ok q ∧ q.length = a.length ∧ 0 ≤ r' ∧ r' < y := by
  induction n with
  | zero =>
    intro out r hn hl ho r0 r1
    refine ⟨out, r, fun k hk => ?_, ho, hl, r0, r1⟩
    obtain ⟨k, rfl⟩ : ∃ m, k = m + 1 := ⟨k - 1, by omega⟩
    simp only [spec_l02Short.l0]
    rw [if_neg (by omega), show r % 4294967296 = r by omega]
  | succ n ih =>
    intro out r hn hl ho r0 r1
    have hla := lim_ok ha n
    obtain ⟨t, ht⟩ : ∃ t, r * 4294967296 + lim a n = t := ⟨_, rfl⟩
    have t0 : 0 ≤ t ∧ t < 18446744073709551616 := by omega
    have q0 : 0 ≤ t / y := Int.ediv_nonneg t0.1 (by omega)
    have m0 : 0 ≤ t % y ∧ t % y < y := ⟨Int.emod_nonneg _ (by omega), Int.emod_lt_of_pos _ y0⟩
    have q1 : t / y ≤ t := Int.ediv_le_self _ t0.1
    obtain ⟨q, r', hk, h⟩ := ih (out.set n ((t / y) % 4294967296)) (t % y) (by omega) (by rw [List.length_set]; exact hl) (set_ok ho n (by omega) (by omega)) m0.1 m0.2
    refine ⟨q, r', fun k hk' => ?_, h⟩
    obtain ⟨k, rfl⟩ : ∃ m, k = m + 1 := ⟨k - 1, by omega⟩
    have e : ((n + 1 : Nat) : Int) - 1 = (n : Int) := by omega
    have e1 : Int.tdiv t y = t / y := Int.tdiv_eq_ediv_of_nonneg t0.1
    have e2 : Int.tmod t y = t % y := Int.tmod_eq_emod_of_nonneg t0.1
    rw [e]
    simp only [spec_l02Short.l0]
    rw [if_pos (by omega), if_pos (by omega), if_pos (by omega), uw (x := y) (by omega) (by omega), if_neg (by omega), if_pos (by omega), rd_lim, uw (x := r * 4294967296) (by omega) (by omega), uw (x := lim a n) (by omega) (by omega), ht, uw (x := t) t0.1 t0.2, e1, e2, uw (x := t / y) q0 (by omega), Int.toNat_natCast, wr (by omega) (by omega)]
    exact hk k (by omega)
theorem short_eq {a : List Int} (ha : Ok a) {y : Int} (y0 : 0 < y) (y1 : y < 4294967296) (la : a.length ≤ 100000) :
    ∃ q r', (∀ k, a.length < k → spec_l02Short.f k a y = some (q, [r'])) ∧ Ok q ∧ q.length = a.length ∧ 0 ≤ r' ∧ r' < y := by
  obtain ⟨q, r', hk, h⟩ := short_loop ha y0 y1 la a.length (List.replicate a.length 0) 0 (Nat.le_refl _) (by simp) (rep_ok _) (by omega) y0
  refine ⟨q, r', fun k hk' => ?_, h⟩
  unfold spec_l02Short.f
  rw [if_pos (by omega), if_pos (by omega), wr (by omega) (by omega), Int.toNat_natCast]
  exact hk k hk'
/-! ### l02Long -/
theorem nrm_nil : Nrm [] := by simp [Nrm]
theorem long_loop {a b : List Int} (ha : Ok a) (hb : Ok b) (nb : Nrm b) (la : a.length ≤ 50000) (lb : b.length ≤ 50000) (n : Nat) : ∀ (out rest : List Int), n ≤ a.length → out.length = a.length → Ok out → Ok rest → Nrm rest → val rest < val b → 
    ∃ K q r, (∀ k, K ≤ k → spec_l02Long.l0 k a b out rest ((n : Int) - 1) = some (q, r)) ∧ Ok q ∧ q.length = a.length ∧ Ok r ∧ Nrm r ∧ val r < val b := by
  induction n with
  | zero =>
    intro out rest hn hl ho hr nr hv
    refine ⟨1, out, rest, fun k hk => ?_, ho, hl, hr, nr, hv⟩
    obtain ⟨k, rfl⟩ : ∃ m, k = m + 1 := ⟨k - 1, by omega⟩
    simp only [spec_l02Long.l0]
    rw [if_neg (by omega)]
  | succ n ih =>
    intro out rest hn hl ho hr nr hv
    have hla := lim_ok ha n
    have lr : rest.length ≤ b.length := len_le hr hb nr (by omega)
    obtain ⟨c, hc⟩ : ∃ c, [lim a n] ++ rest = c := ⟨_, rfl⟩
    have co : Ok c := by rw [← hc]; exact (Ok.one hla.1 hla.2).append hr
    have cl : c.length = rest.length + 1 := by rw [← hc, List.length_append, List.length_singleton]; omega
    have cv : val c = lim a n + 4294967296 * val rest := by rw [← hc]; rfl
    have tv := trim_val c
    have tl := trim_length c
    have e : ((n + 1 : Nat) : Int) - 1 = (n : Int) := by omega
    have ew : wrap64 ((n : Int) - 1) = (n : Int) - 1 := wr (by omega) (by omega)
    by_cases hlt : val c < val b
    · obtain ⟨K, q, r, hk, h⟩ := ih out (trim c) (by omega) hl ho (trim_ok co) (trim_nrm c) (by rw [tv]; exact hlt)
      refine ⟨K + c.length + 10, q, r, fun k hk' => ?_, h⟩
      obtain ⟨k, rfl⟩ : ∃ m, k = m + 1 := ⟨k - 1, by omega⟩
      rw [e]
      simp only [spec_l02Long.l0]
      rw [if_pos (by omega), if_pos (by omega), if_pos (by omega)]
      simp only [Option.bind_some]
      rw [if_pos (by rw [List.length_singleton]; omega), rd_lim, hc, make_eq k false c (by omega) (by omega)]
      simp only [Option.bind_some]
      rw [least_eq k (trim_ok co) hb (trim_nrm c) nb (by omega) (by omega) (by omega), tv]
      simp only [Option.bind_some]
      rw [if_pos (sgn_lt.2 hlt), ew]
      exact hk k (by omega)
    · obtain ⟨K1, d, hd, d0, d1, d2, d3⟩ := digit_eq (trim_ok co) hb (trim_nrm c) (by omega) (by omega) (by rw [tv]; omega)
      rw [tv] at d2 d3
      obtain ⟨p, hp, po, pl, pv⟩ := times_eq hb (y := d) d0 d1 (by omega)
      have ptl := trim_length p
      have ptv := trim_val p
      have hle : (trim p).length ≤ (trim c).length := len_le (trim_ok po) (trim_ok co) (trim_nrm p) (by rw [ptv, tv, pv]; exact d2)
      obtain ⟨s, hs, so, sl, sv⟩ := less_eq (trim_ok co) (trim_ok po) (by omega)
      have sv' := sv hle (by rw [ptv, tv, pv]; exact d2)
      rw [tv, ptv, pv] at sv'
      have stl := trim_length s
      have hdm : (d + 1) * val b = d * val b + val b := by rw [Int.add_mul, Int.one_mul]
      obtain ⟨K, q, r, hk, h⟩ := ih (out.set n d) (trim s) (by omega) (by rw [List.length_set]; exact hl) (set_ok ho n d0 d1) (trim_ok so) (trim_nrm s) (by rw [trim_val, sv']; omega)
      refine ⟨K + K1 + c.length + 3 * b.length + p.length + s.length + 10, q, r, fun k hk' => ?_, h⟩
      obtain ⟨k, rfl⟩ : ∃ m, k = m + 1 := ⟨k - 1, by omega⟩
      rw [e]
      simp only [spec_l02Long.l0]
      rw [if_pos (by omega), if_pos (by omega), if_pos (by omega)]
      simp only [Option.bind_some]
      rw [if_pos (by rw [List.length_singleton]; omega), rd_lim, hc, make_eq k false c (by omega) (by omega)]
      simp only [Option.bind_some]
      rw [least_eq k (trim_ok co) hb (trim_nrm c) nb (by omega) (by omega) (by omega), tv]
      simp only [Option.bind_some]
      rw [if_neg (fun h => hlt (sgn_lt.1 h)), hd k (by omega)]
      simp only [Option.bind_some]
      rw [if_pos (by omega), hp k (by omega)]
      simp only [Option.bind_some]
      rw [make_eq k false p (by omega) (by omega)]
      simp only [Option.bind_some]
      rw [hs k (by omega)]
      simp only [Option.bind_some]
      rw [make_eq k false s (by omega) (by omega)]
      simp only [Option.bind_some]
      rw [ew, Int.toNat_natCast]
      exact hk k (by omega)
theorem val_one (x : Int) : val [x] = x := by show x + 4294967296 * 0 = x; omega
theorem long_eq {a b : List Int} (ha : Ok a) (hb : Ok b) (nb : Nrm b) (hne : b ≠ []) (la : a.length ≤ 50000) (lb : b.length ≤ 50000) :
    ∃ K q r, (∀ k, K ≤ k → spec_l02Long.f k a b = some (q, r)) ∧ Ok q ∧ q.length = a.length ∧ Ok r ∧ r.length ≤ b.length + 1 ∧ val r < val b := by
  have vb := val_ge hb nb hne
  have pp := pw_pos (b.length - 1)
  by_cases h1 : b.length = 1
  · obtain ⟨y, rfl⟩ : ∃ y, b = [y] := by
      match b, h1 with
      | [y], _ => exact ⟨y, rfl⟩
    have hy := hb y (by simp)
    rw [val_one] at vb
    obtain ⟨q, r, hk, qo, ql, r0, r1⟩ := short_eq ha (y := y) (by omega) hy.2 (by omega)
    refine ⟨a.length + 1, q, [r], fun k hk' => ?_, qo, ql, Ok.one r0 (by omega), by simp, by rw [val_one, val_one]; exact r1⟩
    have e0 : rd [y] 0 = y := rfl
    have l1 : ((([y] : List Int).length : Nat) : Int) = 1 := rfl
    unfold spec_l02Long.f
    rw [l1, if_pos rfl, if_pos (by omega), e0, hk k (by omega)]; rfl
  · obtain ⟨K, q, r, hk, qo, ql, ro, rn, rv⟩ := long_loop ha hb nb la lb a.length (List.replicate a.length 0) [] (Nat.le_refl _) (by simp) (rep_ok _) Ok.nil nrm_nil (by show (0 : Int) < _; omega)
    refine ⟨K, q, r, fun k hk' => ?_, qo, ql, ro, by have := len_le ro hb rn (by omega); omega, rv⟩
    unfold spec_l02Long.f
    rw [if_neg (by omega), if_pos (by omega), if_pos (by omega), wr (by omega) (by omega), Int.toNat_natCast]
    exact hk k hk'
end Go.Proofs.Ytjdndacollpjkaa.Bn
