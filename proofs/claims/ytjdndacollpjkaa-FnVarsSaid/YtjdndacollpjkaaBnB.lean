/- What the reference's first functions on big numbers answer. -/
import Derived.Test.YtjdndacollpjkaaBnA
import Derived.Test.YtjdndacollpjkaaFvD
namespace Go.Proofs.Ytjdndacollpjkaa.Bn
set_option linter.unusedVariables false
open Go.RowKit Go.Proofs.Ytjdndacollpjkaa.MFnVars Go.Proofs.YtjdndacollpjkaaW.PrintWords Go.Proofs.YtjdndacollpjkaaW.PrintLast

theorem wr {x : Int} (h1 : -9223372036854775808 ≤ x) (h2 : x ≤ 9223372036854775807) : wrap64 x = x := by
  unfold wrap64; omega
theorem uw {x : Int} (h1 : 0 ≤ x) (h2 : x < 18446744073709551616) : IntKind.u64.wrap x = x := by
  rw [IntKind.wrap_u64]; omega
theorem mask {x : Int} (h1 : 0 ≤ x) (h2 : x < 18446744073709551616) : Go.bits .and .u64 x 4294967295 = x % 4294967296 := by
  have h : Go.bits .and .u64 x 4294967295 = IntKind.u64.wrap ((BitVec.ofInt 64 x &&& BitVec.ofInt 64 4294967295).toNat : Int) := rfl
  have e2 : (BitVec.ofInt 64 4294967295).toNat = 2 ^ 32 - 1 := by decide
  have e1 : (BitVec.ofInt 64 x).toNat = x.toNat := by
    rw [BitVec.toNat_ofInt]
    have : x % (2 ^ 64 : Nat) = x := by
      have : ((2 ^ 64 : Nat) : Int) = 18446744073709551616 := by decide
      rw [this]; omega
    rw [this]
  rw [h, BitVec.toNat_and, e1, e2, Nat.and_two_pow_sub_one_eq_mod]
  have e3 : (2 : Nat) ^ 32 = 4294967296 := by decide
  rw [e3, uw (by omega) (by omega)]
  omega
theorem rd_lim (l : List Int) (n : Nat) : rd l (n : Int) = lim l n := by unfold rd lim; rw [Int.toNat_natCast]
theorem set_ok {l : List Int} (h : Ok l) (i : Nat) {x : Int} (h0 : 0 ≤ x) (h1 : x < 4294967296) : Ok (l.set i x) := fun y hy => by
  rcases List.mem_or_eq_of_mem_set hy with h' | rfl
  · exact h y h'
  · exact ⟨h0, h1⟩
theorem rep_ok (n : Nat) : Ok (List.replicate n 0) := fun x hx => by
  have := List.eq_of_mem_replicate hx; subst this; exact ⟨Int.le_refl _, by decide⟩
/-! ### l02Make -/
def mkN (neg : Bool) (t : List Int) : Bool := if t = [] then false else neg
theorem make_loop (neg : Bool) (l : List Int) (hl : l.length ≤ 1000000) (n : Nat) : ∀ k, n ≤ l.length → n < k → spec_l02Make.l0 k neg l (n : Int) = some (mkN neg (trimN l n), trimN l n) := by
  induction n with
  | zero =>
    intro k hn hk
    obtain ⟨k, rfl⟩ : ∃ m, k = m + 1 := ⟨k - 1, by omega⟩
    simp only [spec_l02Make.l0]
    rw [if_neg (by omega), if_pos (by omega)]; rfl
  | succ n ih =>
    intro k hn hk
    obtain ⟨k, rfl⟩ : ∃ m, k = m + 1 := ⟨k - 1, by omega⟩
    have e : wrap64 (((n + 1 : Nat) : Int) - 1) = (n : Int) := by rw [wr (by omega) (by omega)]; omega
    simp only [spec_l02Make.l0]
    rw [e, if_pos (by omega), if_pos (by omega), if_pos (by omega), rd_lim, trimN]
    by_cases h : lim l n = 0
    · rw [if_pos h, if_pos h]
      exact ih k (by omega) (by omega)
    · have ht : (l.take (n + 1)) ≠ [] := by
        intro h0
        have := congrArg List.length h0
        rw [List.length_take, List.length_nil] at this
        omega
      have et : (((n + 1 : Nat) : Int)).toNat = n + 1 := Int.toNat_natCast _
      rw [if_neg h, if_neg h, if_neg (by omega)]
      simp only [Option.bind_some, et]
      rw [if_pos (by omega), if_pos (by omega), if_pos (by rw [List.length_take]; simp; omega)]
      unfold mkN
      rw [if_neg ht]; rfl
theorem make_eq (k : Nat) (neg : Bool) (l : List Int) (hl : l.length ≤ 1000000) (hk : l.length < k) : spec_l02Make.f k neg l = some (mkN neg (trim l), trim l) := by
  unfold spec_l02Make.f
  exact make_loop neg l hl l.length k (Nat.le_refl _) hk
/-! ### l02Limb -/
theorem limb_eq (l : List Int) (h : Ok l) (i : Nat) : spec_l02Limb.f l (i : Int) = some (lim l i) := by
  unfold spec_l02Limb.f
  have hb := lim_ok h i
  by_cases hl : i < l.length
  · rw [if_pos (by omega), if_pos (by omega), rd_lim, uw (by omega) (by omega)]
  · rw [if_neg (by omega), lim_out (by omega)]
/-! ### l02Least -/
theorem least_loop {a b : List Int} (ha : Ok a) (hb : Ok b) (hl : a.length ≤ 1000000) (n : Nat) : ∀ k, n ≤ a.length → n ≤ b.length → n < k → spec_l02Least.l0 k a b ((n : Int) - 1) = some (sgn (val (a.take n)) (val (b.take n))) := by
  induction n with
  | zero =>
    intro k h1 h2 hk
    obtain ⟨k, rfl⟩ : ∃ m, k = m + 1 := ⟨k - 1, by omega⟩
    simp only [spec_l02Least.l0]
    rw [if_neg (by omega)]; rfl
  | succ n ih =>
    intro k h1 h2 hk
    obtain ⟨k, rfl⟩ : ∃ m, k = m + 1 := ⟨k - 1, by omega⟩
    have e : ((n + 1 : Nat) : Int) - 1 = (n : Int) := by omega
    have e' := ih k (by omega) (by omega) (by omega)
    rw [e, sgn_step ha hb n (by omega) (by omega)]
    simp only [spec_l02Least.l0]
    rw [if_pos (by omega), if_pos (by omega), if_pos (by omega), if_pos (by omega), rd_lim, rd_lim, wr (by omega) (by omega), e']
    split
    · rfl
    · split <;> rfl
theorem least_eq (k : Nat) {a b : List Int} (ha : Ok a) (hb : Ok b) (na : Nrm a) (nb : Nrm b) (hl : a.length ≤ 1000000) (hl2 : b.length ≤ 1000000) (hk : a.length < k) : spec_l02Least.f k a b = some (sgn (val a) (val b)) := by
  unfold spec_l02Least.f
  by_cases h : a.length = b.length
  · have e := least_loop ha hb hl a.length k (Nat.le_refl _) (by omega) hk
    rw [if_pos (by omega), wr (by omega) (by omega), e, List.take_length, h, List.take_length]
  · rw [if_neg (by omega)]
    by_cases h' : a.length < b.length
    · have := len_lt ha hb nb h'
      rw [if_pos (by omega)]
      unfold sgn
      rw [if_neg (by omega), if_pos this]
    · have := len_lt hb ha na (by omega)
      rw [if_neg (by omega)]
      unfold sgn
      rw [if_neg (by omega), if_neg (by omega)]
/-! ### l02Plus -/
theorem plus_loop {a b : List Int} (ha : Ok a) (hb : Ok b) (m : Nat) (h1 : a.length ≤ m) (h2 : b.length ≤ m) (hx : m = a.length ∨ m = b.length) (hm : m ≤ 1000000) (d : Nat) : ∀ (k i : Nat) (out : List Int) (c : Int), i + d = m → out.length = i → Ok out → (c = 0 ∨ c = 1) → val out + pw i * c = val (a.take i) + val (b.take i) → 2 * d + 2 ≤ k →
    ∃ r, spec_l02Plus.l0 k a b out c (i : Int) = some r ∧ (∀ j, spec_l02Plus.l0 (k + j) a b out c (i : Int) = some r) ∧ Ok r ∧ r.length = m + 1 ∧ val r = val a + val b := by
  induction d with
  | zero =>
    intro k i out c hi hl ho hc hv hk
    have key : ∀ j, spec_l02Plus.l0 (k + j) a b out c (i : Int) = some (out ++ [c % 4294967296]) := by
      intro j
      obtain ⟨q, hq⟩ : ∃ q, k + j = q + 1 + 1 := ⟨k + j - 2, by omega⟩
      rw [hq]
      have hb' : decide ((i : Int) < (b.length : Int)) = false := decide_eq_false (by omega)
      simp only [spec_l02Plus.l0]
      rw [if_neg (by omega), hb']
      simp only [spec_l02Plus.j1]
      rw [if_neg (by decide), if_pos (by omega)]
    have hc0 : 0 ≤ c ∧ c < 4294967296 := by omega
    have hcm : c % 4294967296 = c := by omega
    refine ⟨_, key 0, key, ho.append (Ok.one (by omega) (by omega)), by rw [List.length_append, List.length_singleton]; omega, ?_⟩
    rw [hcm, val_snoc, hl, hv, List.take_of_length_le (by omega), List.take_of_length_le (by omega)]
  | succ d ih =>
    intro k i out c hi hl ho hc hv hk
    have la := lim_ok ha i
    have lb := lim_ok hb i
    have ea := val_take a i
    have eb := val_take b i
    obtain ⟨t, ht⟩ : ∃ t, lim a i + lim b i + c = t := ⟨_, rfl⟩
    have hp : pw i * (t % 4294967296) + pw (i + 1) * (t / 4294967296) = pw i * lim a i + pw i * lim b i + pw i * c := by
      rw [pw_succ, Int.mul_comm 4294967296 (pw i), Int.mul_assoc, ← Int.mul_add, ← Int.mul_add, ← Int.mul_add]
      congr 1
      omega
    obtain ⟨r, h1', h2', h3⟩ := ih (k - 2) (i + 1) (out ++ [t % 4294967296]) (t / 4294967296) (by omega) (by rw [List.length_append, List.length_singleton]; omega) (ho.append (Ok.one (by omega) (by omega))) (by omega) (by
      rw [val_snoc, hl, ea, eb]; omega) (by omega)
    have key : ∀ j, spec_l02Plus.l0 (k + j) a b out c (i : Int) = some r := by
      intro j
      have hj := h2' j
      obtain ⟨q, hq⟩ : ∃ q, k + j = q + 1 + 1 := ⟨k + j - 2, by omega⟩
      rw [show k - 2 + j = q by omega, show ((i + 1 : Nat) : Int) = (i : Int) + 1 by omega] at hj
      have step : spec_l02Plus.j1 (q + 1) a b out c (i : Int) true = some r := by
        simp only [spec_l02Plus.j1]
        rw [if_pos trivial, limb_eq a ha i, limb_eq b hb i]
        simp only [Option.bind_some]
        rw [uw (x := lim a i + lim b i) (by omega) (by omega), ht, uw (x := t) (by omega) (by omega), mask (by omega) (by omega), if_pos (by omega), wr (by omega) (by omega), Int.emod_emod]
        exact hj
      rw [hq]
      simp only [spec_l02Plus.l0]
      by_cases hai : (i : Int) < (a.length : Int)
      · rw [if_pos hai]; exact step
      · have hbi : decide ((i : Int) < (b.length : Int)) = true := decide_eq_true (by omega)
        rw [if_neg hai, hbi]; exact step
    exact ⟨r, key 0, key, h3⟩
theorem plus_eq {a b : List Int} (ha : Ok a) (hb : Ok b) (h1 : a.length ≤ 1000000) (h2 : b.length ≤ 1000000) : ∃ K r, (∀ k, K ≤ k → spec_l02Plus.f k a b = some r) ∧ Ok r ∧ r.length ≤ a.length + b.length + 1 ∧ val r = val a + val b := by
  obtain ⟨m, hm, hma, hmb⟩ : ∃ m, (m = a.length ∨ m = b.length) ∧ a.length ≤ m ∧ b.length ≤ m := by
    by_cases h : a.length ≤ b.length
    · exact ⟨b.length, .inr rfl, h, Nat.le_refl _⟩
    · exact ⟨a.length, .inl rfl, Nat.le_refl _, by omega⟩
  obtain ⟨r, _, hk, ho, hl, hv⟩ := plus_loop ha hb m hma hmb hm (by omega) m (2 * m + 2) 0 [] 0 (by omega) rfl Ok.nil (.inl rfl) rfl (Nat.le_refl _)
  refine ⟨2 * m + 2, r, fun k h => ?_, ho, by omega, hv⟩
  obtain ⟨j, rfl⟩ : ∃ j, k = 2 * m + 2 + j := ⟨k - (2 * m + 2), by omega⟩
  exact hk j
/-! ### l02Less -/
theorem less_loop {a b : List Int} (ha : Ok a) (hb : Ok b) (hm : a.length ≤ 1000000) (d : Nat) : ∀ (k i : Nat) (out : List Int) (c : Int), i + d = a.length → out.length = i → Ok out → (c = 0 ∨ c = 1) → val out = val (a.take i) - val (b.take i) + pw i * c → d < k →
    ∃ r c', (∀ j, spec_l02Less.l0 (k + j) a b out c (i : Int) = some r) ∧ Ok r ∧ r.length = a.length ∧ (c' = 0 ∨ c' = 1) ∧ val r = val a - val (b.take a.length) + pw a.length * c' := by
  induction d with
  | zero =>
    intro k i out c hi hl ho hc hv hk
    refine ⟨out, c, fun j => ?_, ho, by omega, hc, ?_⟩
    · obtain ⟨q, hq⟩ : ∃ q, k + j = q + 1 := ⟨k + j - 1, by omega⟩
      rw [hq]
      simp only [spec_l02Less.l0]
      rw [if_neg (by omega)]
    · rw [hv, show i = a.length by omega, List.take_length]
  | succ d ih =>
    intro k i out c hi hl ho hc hv hk
    have la := lim_ok ha i
    have lb := lim_ok hb i
    have ea := val_take a i
    have eb := val_take b i
    obtain ⟨t, ht⟩ : ∃ t, lim a i + 4294967296 - lim b i - c = t := ⟨_, rfl⟩
    have hp : pw i * (t % 4294967296) = pw i * lim a i - pw i * lim b i - pw i * c + pw (i + 1) * (1 - t / 4294967296) := by
      rw [pw_succ, Int.mul_comm 4294967296 (pw i), Int.mul_assoc, ← Int.mul_sub, ← Int.mul_sub, ← Int.mul_add]
      congr 1
      omega
    obtain ⟨r, c', h1', h3⟩ := ih (k - 1) (i + 1) (out ++ [t % 4294967296]) (1 - t / 4294967296) (by omega) (by rw [List.length_append, List.length_singleton]; omega) (ho.append (Ok.one (by omega) (by omega))) (by omega) (by
      rw [val_snoc, hl, ea, eb]; omega) (by omega)
    refine ⟨r, c', fun j => ?_, h3⟩
    have hj := h1' j
    obtain ⟨q, hq⟩ : ∃ q, k + j = q + 1 := ⟨k + j - 1, by omega⟩
    rw [show k - 1 + j = q by omega, show ((i + 1 : Nat) : Int) = (i : Int) + 1 by omega] at hj
    rw [hq]
    simp only [spec_l02Less.l0]
    rw [if_pos (by omega), limb_eq a ha i, limb_eq b hb i]
    simp only [Option.bind_some]
    rw [uw (x := lim a i + 4294967296) (by omega) (by omega), uw (x := lim a i + 4294967296 - lim b i) (by omega) (by omega), ht, uw (x := t) (by omega) (by omega), mask (by omega) (by omega), if_pos (by omega), wr (by omega) (by omega), Int.emod_emod, uw (x := 1 - t / 4294967296) (by omega) (by omega)]
    exact hj
theorem less_eq {a b : List Int} (ha : Ok a) (hb : Ok b) (hm : a.length ≤ 1000000) : ∃ r, (∀ k, a.length < k → spec_l02Less.f k a b = some r) ∧ Ok r ∧ r.length = a.length ∧ (b.length ≤ a.length → val b ≤ val a → val r = val a - val b) := by
  obtain ⟨r, c', hk, ho, hl, hc, hv⟩ := less_loop ha hb hm a.length (a.length + 1) 0 [] 0 (by omega) rfl Ok.nil (.inl rfl) rfl (by omega)
  refine ⟨r, fun k h => ?_, ho, hl, fun h1 h2 => ?_⟩
  · obtain ⟨j, rfl⟩ : ∃ j, k = a.length + 1 + j := ⟨k - (a.length + 1), by omega⟩
    exact hk j
  · have hb' := val_bound r ho
    rw [List.take_of_length_le h1] at hv
    rw [hl] at hb'
    rcases hc with rfl | rfl
    · rw [hv, Int.mul_zero, Int.add_zero]
    · rw [Int.mul_one] at hv; omega
/-! ### l02Times by one limb -/
theorem prod_bound {x y : Int} (h0 : 0 ≤ x) (h1 : x < 4294967296) (h2 : 0 ≤ y) (h3 : y < 4294967296) : 0 ≤ x * y ∧ x * y ≤ 18446744065119617025 := by
  have a := Int.mul_nonneg h0 h2
  have b := Int.mul_le_mul (show x ≤ 4294967295 by omega) (show y ≤ 4294967295 by omega) h2 (by omega)
  exact ⟨a, by omega⟩
theorem w_zero (i : Nat) (h : i ≤ 2000000) : wrap64 ((i : Int) + 0) = (i : Int) := by rw [wr (by omega) (by omega)]; omega
theorem w_one (i : Nat) (h : i ≤ 2000000) : wrap64 ((i : Int) + 1) = (i : Int) + 1 := wr (by omega) (by omega)
theorem uw_le {x : Int} (h0 : 0 ≤ x) (h1 : x < 4294967296) : IntKind.u64.wrap x = x := uw h0 (by omega)
theorem uw_p {x : Int} (h0 : 0 ≤ x) (h1 : x ≤ 18446744065119617025) : IntKind.u64.wrap x = x := uw h0 (by omega)
theorem len_one (y : Int) : ((([y] : List Int).length : Nat) : Int) = 1 := rfl
theorem rd_one (y : Int) : rd [y] 0 = y := rfl
theorem times_step {a out : List Int} {y P t : Int} (i q : Nat) (c1 : (i : Int) < (a.length : Int)) (c2 : (i : Int) < (out.length : Int)) (c3 : (i : Int) + 1 < (out.length : Int)) (h0 : 0 ≤ (i : Int)) (h1 : 0 ≤ (i : Int) + 1) (w0 : wrap64 ((i : Int) + 0) = (i : Int)) (w1 : wrap64 ((i : Int) + 1) = (i : Int) + 1)
    (ux : IntKind.u64.wrap (lim a i) = lim a i) (uy : IntKind.u64.wrap y = y) (uo : IntKind.u64.wrap (lim out i) = lim out i) (hP : lim a i * y = P) (uP : IntKind.u64.wrap P = P) (ht : P + lim out i = t) (ut : IntKind.u64.wrap t = t) (um : Go.bits .and .u64 t 4294967295 = t % 4294967296) (hq : (t / 4294967296) % 4294967296 = t / 4294967296) (ti : ((i : Int) + 1).toNat = i + 1) :
    spec_l02Times.l0 (q + 1 + 1 + 1) a [y] out (i : Int) = spec_l02Times.l0 q a [y] ((out.set i (t % 4294967296)).set (i + 1) (t / 4294967296)) ((i : Int) + 1) := by
  have z1 : (0 : Int) < 1 := by decide
  have z2 : (0 : Int) ≤ 0 := by decide
  have z3 : ¬ ((1 : Int) < 1) := by decide
  have z4 : wrap64 ((0 : Int) + 1) = 1 := by rw [wr (by omega) (by omega)]; rfl
  have s1 : ((out.set i (t % 4294967296)).length : Int) = (out.length : Int) := by rw [List.length_set]
  simp only [spec_l02Times.l0, spec_l02Times.l1]
  rw [w0, len_one, if_pos c1, if_pos z1, if_pos h0, if_pos c1, if_pos z2, if_pos h0, if_pos c2, rd_lim, rd_lim, rd_one, ux, uy, hP, uP, uo, ht, ut, Int.add_zero, ut, um, Int.toNat_natCast, Int.emod_emod, z4, if_neg z3, w1, if_pos h1, s1, if_pos c3, ti, hq]
theorem t_facts {P o t : Int} (hp : 0 ≤ P ∧ P ≤ 18446744065119617025) (ho : 0 ≤ o ∧ o < 4294967296) (ht : P + o = t) :
    (0 ≤ t ∧ t < 18446744073709551616) ∧ (0 ≤ t / 4294967296 ∧ t / 4294967296 < 4294967296) ∧ (t / 4294967296) % 4294967296 = t / 4294967296 ∧ (0 ≤ t % 4294967296 ∧ t % 4294967296 < 4294967296) ∧ t % 4294967296 + 4294967296 * (t / 4294967296) = t := by
  have h1 : 0 ≤ t ∧ t ≤ 18446744069414584320 := by omega
  clear hp ho ht
  refine ⟨⟨h1.1, by omega⟩, ⟨by omega, by omega⟩, by omega, ⟨by omega, by omega⟩, by omega⟩
theorem lin5 {Vo pO yVa pT0 pT1 yA : Int} (hv : Vo + pO = yVa) (e3 : pT0 + pT1 = yA + pO) : Vo + pT0 + pT1 = yVa + yA := by omega
theorem i_facts {i d n m : Nat} (hi : i + (d + 1) = n) (hl : m = n + 1) (hm : n ≤ 1000000) : i < n ∧ i < m ∧ i + 1 < m ∧ i ≤ 2000000 ∧ (i : Int) < (n : Int) ∧ (i : Int) < (m : Int) ∧ (i : Int) + 1 < (m : Int) ∧ 0 ≤ (i : Int) ∧ 0 ≤ (i : Int) + 1 ∧ ((i : Int) + 1).toNat = i + 1 ∧ i + 1 + d = n := by omega
theorem k_facts {d k j q : Nat} (hk : 3 * (d + 1) < k) : 3 * d < k - 3 ∧ ∃ q, k + j = q + 1 + 1 + 1 ∧ k - 3 + j = q := ⟨by omega, k + j - 3, by omega, by omega⟩
theorem cast_one (i : Nat) : ((i + 1 : Nat) : Int) = (i : Int) + 1 := by omega
theorem times_loop {a : List Int} (ha : Ok a) {y : Int} (y0 : 0 ≤ y) (y1 : y < 4294967296) (hm : a.length ≤ 1000000) (d : Nat) : ∀ (k i : Nat) (out : List Int), i + d = a.length → out.length = a.length + 1 → Ok out → val (out.take (i + 1)) = y * val (a.take i) → 3 * d < k →
    ∃ r, (∀ j, spec_l02Times.l0 (k + j) a [y] out (i : Int) = some r) ∧ Ok r ∧ r.length = a.length + 1 ∧ val r = y * val a := by
  induction d with
  | zero =>
    intro k i out hi hl ho hv hk
    refine ⟨out, fun j => ?_, ho, hl, ?_⟩
    · obtain ⟨q, hq⟩ : ∃ q, k + j = q + 1 := ⟨k + j - 1, by omega⟩
      rw [hq]
      simp only [spec_l02Times.l0]
      rw [if_neg (by omega)]
    · rw [show i = a.length by omega, List.take_of_length_le (by omega), List.take_length] at hv
      exact hv
  | succ d ih =>
    intro k i out hi hl ho hv hk
    obtain ⟨hia, hio, hio1, hi2, fc1, fc2, fc3, fh0, fh1, fti, hi'⟩ := i_facts hi hl hm
    have la := lim_ok ha i
    have lo := lim_ok ho i
    have hp := prod_bound la.1 la.2 y0 y1
    obtain ⟨t, ht⟩ : ∃ t, lim a i * y + lim out i = t := ⟨_, rfl⟩
    obtain ⟨t0, q0, fq, tm, tdm⟩ := t_facts hp lo ht
    obtain ⟨out', ho'⟩ : ∃ o, (out.set i (t % 4294967296)).set (i + 1) (t / 4294967296) = o := ⟨_, rfl⟩
    have hl' : out'.length = a.length + 1 := by rw [← ho', List.length_set, List.length_set]; exact hl
    have hok : Ok out' := by rw [← ho']; exact set_ok (set_ok ho i tm.1 tm.2) (i + 1) q0.1 q0.2
    have ht1 : out'.take (i + 1 + 1) = out.take i ++ [t % 4294967296] ++ [t / 4294967296] := by
      have h1 : i + 1 < ((out.set i (t % 4294967296)).set (i + 1) (t / 4294967296)).length := by rw [List.length_set, List.length_set]; exact hio1
      have h2 : i < (out.set i (t % 4294967296)).length := by rw [List.length_set]; exact hio
      rw [← ho', List.take_succ_eq_append_getElem h1]
      congr 1
      · rw [List.take_set_of_le (Nat.le_refl _), List.take_succ_eq_append_getElem h2, List.getElem_set_self, List.take_set_of_le (Nat.le_refl _)]
      · rw [List.getElem_set_self]
    have hv' : val (out'.take (i + 1 + 1)) = y * val (a.take (i + 1)) := by
      have e1 := val_take a i
      have e2 := val_take out i
      have e3 : pw i * (t % 4294967296) + pw (i + 1) * (t / 4294967296) = pw i * lim a i * y + pw i * lim out i := by
        rw [pw_succ, Int.mul_comm 4294967296 (pw i), Int.mul_assoc, ← Int.mul_add, Int.mul_assoc, ← Int.mul_add, tdm, ht]
      rw [ht1, val_snoc, val_snoc, List.length_append, List.length_singleton, List.length_take, Nat.min_eq_left (Nat.le_of_lt hio), e1, Int.mul_add, Int.mul_comm y (pw i * lim a i)]
      rw [e2] at hv
      exact lin5 hv e3
    obtain ⟨r, h1', h3⟩ := ih (k - 3) (i + 1) out' hi' hl' hok hv' (k_facts (j := 0) (q := 0) hk).1
    refine ⟨r, fun j => ?_, h3⟩
    have hj := h1' j
    obtain ⟨_, q, hq, hq2⟩ := k_facts (j := j) (q := 0) hk
    rw [hq2, cast_one] at hj
    rw [hq, times_step i q fc1 fc2 fc3 fh0 fh1 (w_zero i hi2) (w_one i hi2) (uw_le la.1 la.2) (uw_le y0 y1) (uw_le lo.1 lo.2) rfl (uw_p hp.1 hp.2) ht (uw t0.1 t0.2) (mask t0.1 t0.2) fq fti, ho']
    exact hj
theorem times_eq {a : List Int} (ha : Ok a) {y : Int} (y0 : 0 ≤ y) (y1 : y < 4294967296) (hm : a.length ≤ 1000000) : ∃ r, (∀ k, 3 * a.length < k → spec_l02Times.f k a [y] = some r) ∧ Ok r ∧ r.length = a.length + 1 ∧ val r = y * val a := by
  have w : wrap64 ((a.length : Int) + ((([y] : List Int).length : Nat) : Int)) = ((a.length + 1 : Nat) : Int) := by
    rw [show ((([y] : List Int).length : Nat) : Int) = 1 from rfl, wr (by omega) (by omega)]; omega
  obtain ⟨r, hk, h⟩ := times_loop ha y0 y1 hm a.length (3 * a.length + 1) 0 (List.replicate (a.length + 1) 0) (by omega) (by simp) (rep_ok _) (by
    rw [List.take_zero, show val [] = 0 from rfl, Int.mul_zero, List.take_replicate]
    simp [val]) (by omega)
  refine ⟨r, fun k h1 => ?_, h⟩
  obtain ⟨j, rfl⟩ : ∃ j, k = 3 * a.length + 1 + j := ⟨k - (3 * a.length + 1), by omega⟩
  unfold spec_l02Times.f
  rw [w, Int.toNat_natCast, if_pos (by omega), if_pos (by omega)]
  exact hk j
end Go.Proofs.Ytjdndacollpjkaa.Bn
