/- What the reference's drawn powers and variables answer, and that the law FnVars answers true at every draw. -/
import Derived.Test.YtjdndacollpjkaaBnF
import Derived.Test.YtjdndacollpjkaaFvD
namespace Go.Proofs.Ytjdndacollpjkaa.Bn
set_option linter.unusedVariables false
open Go.RowKit Go.Proofs.Ytjdndacollpjkaa.MFnVars Go.Proofs.YtjdndacollpjkaaW.PrintWords Go.Proofs.YtjdndacollpjkaaW.PrintLast
namespace G

def smB (n : Int) : Bool := decide (-1000000000 ≤ n ∧ n ≤ 1000000000)
theorem smB_iff {n : Int} : smB n = true ↔ -1000000000 ≤ n ∧ n ≤ 1000000000 := by unfold smB; simp

theorem gcd_step (a b : Int) : (Int.gcd b (Int.tmod a b) : Int) = Int.gcd a b := by
  unfold Int.gcd
  rw [Int.natAbs_tmod, Nat.gcd_comm, ← Nat.gcd_rec, Nat.gcd_comm]
theorem gcd_nought (a : Int) : (Int.gcd a 0 : Int) = if a < 0 then -a else a := by
  rw [Int.gcd_zero_right]; split <;> omega

theorem small_eq (n : Int) : spec_l01Small.f n = some (smB n) := by
  unfold spec_l01Small.f spec_l01In.f smB
  by_cases h : -1000000000 ≤ n
  · rw [if_pos h]; simp [h]
  · rw [if_neg h]; simp [h]
theorem abs_eq {n : Int} (h : -9223372036854775808 < n) (h2 : n ≤ 9223372036854775807) : spec_l01Abs.f n = some (n.natAbs : Int) := by
  unfold spec_l01Abs.f
  split
  · rw [wr (by omega) (by omega)]; congr 1; omega
  · congr 1; omega
theorem gcdSpec_loop (d : Nat) : ∀ (k : Nat) (a b : Int), 0 ≤ a → 0 ≤ b → b.toNat ≤ d → d < k → spec_Gcd.l0 k a b = some (Int.gcd a b : Int) := by
  induction d with
  | zero =>
    intro k a b ha hb hd hk
    obtain ⟨k, rfl⟩ : ∃ m, k = m + 1 := ⟨k - 1, by omega⟩
    obtain rfl : b = 0 := by omega
    simp only [spec_Gcd.l0]
    rw [if_neg (by omega), gcd_nought, if_neg (by omega)]
  | succ d ih =>
    intro k a b ha hb hd hk
    obtain ⟨k, rfl⟩ : ∃ m, k = m + 1 := ⟨k - 1, by omega⟩
    simp only [spec_Gcd.l0]
    by_cases hz : b = 0
    · subst hz
      rw [if_neg (by omega), gcd_nought, if_neg (by omega)]
    · rw [if_pos (by omega), if_neg hz]
      have h1 : Int.tmod a b = a % b := Int.tmod_eq_emod_of_nonneg ha
      have h2 : 0 ≤ a % b := Int.emod_nonneg _ hz
      have h3 : a % b < b := Int.emod_lt_of_pos _ (by omega)
      rw [ih k b _ hb (by omega) (by omega) (by omega), gcd_step]
theorem gcdSpec_eq (k : Nat) (a b : Int) (hk : b.natAbs + 2 ≤ k) : spec_Gcd.f k a b = some (if (smB a && smB b) = true then (Int.gcd a b : Int) else 0) := by
  obtain ⟨k, rfl⟩ : ∃ m, k = m + 1 := ⟨k - 1, by omega⟩
  unfold spec_Gcd.f
  rw [small_eq, small_eq]
  cases ha : smB a
  · simp [spec_Gcd.j0]
  · cases hb : smB b
    · simp [spec_Gcd.j0]
    · have ha := smB_iff.1 ha
      have hb := smB_iff.1 hb
      simp only [Option.bind_some, if_true, Bool.not_true, Bool.and_self, spec_Gcd.j0, Bool.false_eq_true, if_false]
      rw [abs_eq (by omega) (by omega), abs_eq (by omega) (by omega)]
      simp only [Option.bind_some]
      rw [gcdSpec_loop b.natAbs k _ _ (by omega) (by omega) (by omega) (by omega)]
      simp [Int.gcd]

theorem l04abs {n : Int} (h : -9223372036854775808 < n) (h2 : n ≤ 9223372036854775807) : spec_l01Abs.f n = some (n.natAbs : Int) := abs_eq h h2
theorem l04Gcd_loop (d : Nat) : ∀ (k : Nat) (a b : Int), 0 ≤ a → 0 ≤ b → b.toNat ≤ d → d < k → spec_l04Gcd.l0 k a b = some (Int.gcd a b : Int) := by
  induction d with
  | zero =>
    intro k a b ha hb hd hk
    obtain ⟨k, rfl⟩ : ∃ m, k = m + 1 := ⟨k - 1, by omega⟩
    obtain rfl : b = 0 := by omega
    simp only [spec_l04Gcd.l0]
    rw [if_neg (by omega), gcd_nought, if_neg (by omega)]
  | succ d ih =>
    intro k a b ha hb hd hk
    obtain ⟨k, rfl⟩ : ∃ m, k = m + 1 := ⟨k - 1, by omega⟩
    simp only [spec_l04Gcd.l0]
    by_cases hz : b = 0
    · subst hz
      rw [if_neg (by omega), gcd_nought, if_neg (by omega)]
    · rw [if_pos (by omega), if_neg hz]
      have h1 : Int.tmod a b = a % b := Int.tmod_eq_emod_of_nonneg ha
      have h2 : 0 ≤ a % b := Int.emod_nonneg _ hz
      have h3 : a % b < b := Int.emod_lt_of_pos _ (by omega)
      rw [ih k b _ hb (by omega) (by omega) (by omega), gcd_step]
theorem l04Gcd_eq (k : Nat) (a b : Int) (ha : -9223372036854775808 < a) (ha2 : a ≤ 9223372036854775807) (hb : -9223372036854775808 < b) (hb2 : b ≤ 9223372036854775807) (hk : b.natAbs + 1 ≤ k) : spec_l04Gcd.f k a b = some (Int.gcd a b : Int) := by
  unfold spec_l04Gcd.f
  rw [abs_eq ha ha2, abs_eq hb hb2]
  simp only [Option.bind_some]
  rw [l04Gcd_loop b.natAbs k _ _ (by omega) (by omega) (by omega) (by omega)]
  simp [Int.gcd]

/-! ### VecOk, l04Make: that they answer -/
theorem rd_at {l : List Int} {i : Nat} (h : i < l.length) : rd l (i : Int) = l[i] := by
  unfold rd; simp [List.getD, List.getElem?_eq_getElem h]
theorem vok_loop (l : List Int) (hl : l.length ≤ 1000) (D : Int) (M : Nat) (hM : 100010 ≤ M) (n : Nat) : ∀ (i : Nat) (g : Int), i + n = l.length → ∃ r, ∀ k, M ≤ k → spec_VecOk.l0 (k + n + 1) g (i : Int) D l = some r := by
  induction n with
  | zero =>
    intro i g hi
    refine ⟨g == 1, fun k hk => ?_⟩
    rw [spec_VecOk.l0, if_neg (by omega)]
  | succ n ih =>
    intro i g hi
    have hx : i < l.length := by omega
    by_cases h : -100000 ≤ l[i] ∧ l[i] ≤ 100000
    · obtain ⟨r, e⟩ := ih (i + 1) (if (smB g && smB l[i]) = true then (Int.gcd g l[i] : Int) else 0) (by omega)
      refine ⟨r, fun k hk => ?_⟩
      rw [spec_VecOk.l0, if_pos (by omega), if_pos (by omega), rd_at hx]
      have e1 : spec_l01In.f l[i] (-100000) 100000 = some true := by unfold spec_l01In.f; rw [if_pos (by omega), decide_eq_true (by omega)]
      rw [e1, Option.bind_some, if_pos rfl, gcdSpec_eq _ g l[i] (by omega), Option.bind_some, wr (by omega) (by omega)]
      have e := e k hk
      rw [Int.natCast_add] at e
      exact e
    · refine ⟨false, fun k hk => ?_⟩
      rw [spec_VecOk.l0, if_pos (by omega), if_pos (by omega), rd_at hx]
      have e1 : spec_l01In.f l[i] (-100000) 100000 = some false := by
        unfold spec_l01In.f
        by_cases h2 : l[i] ≥ -100000
        · rw [if_pos h2, decide_eq_false (by omega)]
        · rw [if_neg h2]
      rw [e1, Option.bind_some, if_neg (by simp)]
theorem vok_some (D : Int) (l : List Int) (hl : l.length ≤ 1000) : ∃ K r, ∀ k, K ≤ k → spec_VecOk.f k D l = some r := by
  obtain ⟨M, hM⟩ : ∃ M, 100010 ≤ M := ⟨_, Nat.le_refl _⟩
  obtain ⟨r, e⟩ := vok_loop l hl D M hM l.length 0 D (by omega)
  have e : ∀ k, M ≤ k → spec_VecOk.l0 (k + l.length + 1) D 0 D l = some r := e
  have j : ∀ x, ∃ r, ∀ k, M + l.length + 2 ≤ k → spec_VecOk.j0 k x D l = some r := by
    intro x
    cases x with
    | true => exact ⟨false, fun k hk => by obtain ⟨k, rfl⟩ : ∃ m, k = m + 1 := ⟨k - 1, by omega⟩; rw [spec_VecOk.j0, if_pos rfl]⟩
    | false =>
      refine ⟨r, fun k hk => ?_⟩
      obtain ⟨k, rfl⟩ : ∃ m, k = (m + l.length + 1) + 1 := ⟨k - l.length - 2, by omega⟩
      rw [spec_VecOk.j0, if_neg (by simp)]
      exact e k (by omega)
  unfold spec_VecOk.f
  by_cases h : (l.length : Int) > 8
  · obtain ⟨r, e⟩ := j true
    exact ⟨_, r, fun k hk => by rw [if_pos h]; exact e k hk⟩
  · obtain ⟨t, e1⟩ : ∃ t, spec_l01In.f D 1 720 = some t := by
      unfold spec_l01In.f; split <;> exact ⟨_, rfl⟩
    obtain ⟨r, e⟩ := j (!t)
    exact ⟨_, r, fun k hk => by rw [if_neg h, e1, Option.bind_some]; exact e k hk⟩
def Sm (l : List Int) : Prop := ∀ x ∈ l, -10 ≤ x ∧ x ≤ 10
theorem make_l0 (l : List Int) (d : Int) (hl : l.length ≤ 10) (hb : Sm l) (n : Nat) : ∀ (i : Nat) (g : Int), 0 < g → g ≤ 6 → i + n = l.length →
    ∃ g', 0 < g' ∧ g' ≤ 6 ∧ ∀ k, 20 ≤ k → spec_l04Make.l0 (k + n + 1) l d g (i : Int) = ((spec_l01Abs.f g').bind fun t => if d < 0 then spec_l04Make.j1 k l d (wrap64 (-t)) else spec_l04Make.j1 k l d t) := by
  induction n with
  | zero =>
    intro i g h0 h1 hi
    refine ⟨g, h0, h1, fun k hk => ?_⟩
    rw [spec_l04Make.l0, if_neg (by omega)]
  | succ n ih =>
    intro i g h0 h1 hi
    have hx : i < l.length := by omega
    have hxb := hb _ (List.getElem_mem hx)
    have e0 : Int.gcd g l[i] = Nat.gcd g.natAbs l[i].natAbs := rfl
    have e1 := Nat.le_of_dvd (by omega) (Nat.gcd_dvd_left g.natAbs l[i].natAbs)
    have e2 := Nat.gcd_pos_of_pos_left l[i].natAbs (show 0 < g.natAbs by omega)
    obtain ⟨g', a, b, hc⟩ := ih (i + 1) (Int.gcd g l[i] : Int) (by omega) (by omega) (by omega)
    refine ⟨g', a, b, fun k hk => ?_⟩
    rw [spec_l04Make.l0, if_pos (by omega), if_pos (by omega), rd_at hx, l04Gcd_eq _ g l[i] (by omega) (by omega) (by omega) (by omega) (by omega), Option.bind_some, wr (by omega) (by omega)]
    have e := hc k hk
    rw [Int.natCast_add] at e
    exact e
theorem make_l1 (l : List Int) (g D : Int) (hg : g ≠ 0) (hl : l.length ≤ 10) (n : Nat) : ∀ (i : Nat) (acc : List Int), acc.length = i → i + n = l.length →
    ∃ K r, (∀ k, K ≤ k → spec_l04Make.l1 k l g (i : Int) D acc = some r) ∧ r.2.1.length ≤ 10 := by
  induction n with
  | zero =>
    intro i acc ha hi
    obtain ⟨K, t, e⟩ := vok_some D acc (by omega)
    refine ⟨K + 1, if t = true then (D, acc, true) else (0, [], false), fun k hk => ?_, by cases t <;> simp <;> omega⟩
    obtain ⟨k, rfl⟩ : ∃ m, k = m + 1 := ⟨k - 1, by omega⟩
    rw [spec_l04Make.l1, if_neg (by omega), e k (by omega), Option.bind_some]
    split <;> rfl
  | succ n ih =>
    intro i acc ha hi
    have hx : i < l.length := by omega
    obtain ⟨K, r, hc, hr⟩ := ih (i + 1) (acc ++ [wrap64 (Int.tdiv (rd l (i : Int)) g)]) (by simp [ha]) (by omega)
    refine ⟨K + 1, r, fun k hk => ?_, hr⟩
    obtain ⟨k, rfl⟩ : ∃ m, k = m + 1 := ⟨k - 1, by omega⟩
    rw [spec_l04Make.l1, if_pos (by omega), if_pos (by omega), if_neg hg, if_pos (by omega), wr (x := (i : Int) + 1) (by omega) (by omega)]
    have e := hc k (by omega)
    rw [Int.natCast_add] at e
    exact e
theorem l04make_some (l : List Int) (d : Int) (h0 : 0 < d) (h1 : d ≤ 6) (hl : l.length ≤ 10) (hb : Sm l) : ∃ K D A g, (∀ k, K ≤ k → spec_l04Make.f k l d = some (D, A, g)) ∧ A.length ≤ 10 := by
  obtain ⟨g', a, b, e0⟩ := make_l0 l d hl hb l.length 0 d h0 h1 (by omega)
  obtain ⟨K, ⟨D, A, g⟩, e1, hA⟩ := make_l1 l g' (wrap64 (Int.tdiv d g')) (by omega) hl l.length 0 [] rfl (by omega)
  have e1 : ∀ k, K ≤ k → spec_l04Make.l1 k l g' 0 (wrap64 (Int.tdiv d g')) [] = some (D, A, g) := e1
  obtain ⟨K', hK⟩ : ∃ K', K + l.length + 30 ≤ K' := ⟨_, Nat.le_refl _⟩
  refine ⟨K', D, A, g, fun k hk => ?_, hA⟩
  obtain ⟨k, rfl⟩ : ∃ m, k = (m + 1) + l.length + 1 := ⟨k - l.length - 2, by omega⟩
  unfold spec_l04Make.f
  have e0 := e0 (k + 1) (by omega)
  have e0 : spec_l04Make.l0 (k + 1 + l.length + 1) l d d 0 = _ := e0
  rw [e0, abs_eq (by omega) (by omega), Option.bind_some, if_neg (by omega), show ((g'.natAbs : Nat) : Int) = g' from by omega, spec_l04Make.j1, if_neg (by omega)]
  exact e1 k (by omega)
/-! ### l04Some, l04Any -/
theorem l04Some_loop (b : List Int) (hn : b.length ≤ 9223372036854775806) (m : Int) (hm : m ≤ 10) (n : Nat) : ∀ (i : Nat) (acc : List Int) (p h : Int), 0 ≤ p → acc.length = i → i ≤ 10 → Sm acc → n = (m - i).toNat →
    ∃ K D A p' h', (∀ k, K ≤ k → spec_l04Some.l0 k m acc (i : Int) b p h = some (D, A, p', h')) ∧ A.length ≤ 10 ∧ 0 ≤ p' := by
  induction n with
  | zero =>
    intro i acc p h hp hl hi hb hz
    obtain ⟨r, p', h', e, hr, hp'⟩ := pickInt_some b p h ([1, 1, 1, 2, 3, 4, 6] : List Int) hp hn (by decide)
    have hr2 : 1 ≤ r ∧ r ≤ 6 := by
      simp only [List.mem_cons, List.not_mem_nil, or_false] at hr; omega
    obtain ⟨K, D, A, g, hK, hlen⟩ := l04make_some acc r (by omega) (by omega) (by omega) hb
    refine ⟨K + 1, D, A, p', h', fun k hk => ?_, hlen, hp'⟩
    obtain ⟨k, rfl⟩ : ∃ m, k = m + 1 := ⟨k - 1, by omega⟩
    rw [spec_l04Some.l0, if_neg (by omega), e, Option.bind_some, hK k (by omega)]; rfl
  | succ n ih =>
    intro i acc p h hp hl hi hb hz
    obtain ⟨r, p1, h1, e1, hr0, hr1, _, hp1⟩ := below_some b p h 13 hp hn
    have hr1 := hr1 (by omega)
    obtain ⟨s, p2, h2, e2, hs, hp2⟩ := pickInt_some b p1 h1 ([0, 0, 1, (-1), 2, (-2), 3, wrap64 (r - 6)] : List Int) hp1 hn (by simp)
    have hs2 : -10 ≤ s ∧ s ≤ 10 := by
      rw [wr (by omega) (by omega)] at hs
      simp only [List.mem_cons, List.not_mem_nil, or_false] at hs; omega
    obtain ⟨K, D, A, p', h', hK, hA, hp'⟩ := ih (i + 1) (acc ++ [s]) p2 h2 hp2 (by simp [hl]) (by omega) (fun x hx => by
      rcases List.mem_append.1 hx with hx | hx
      · exact hb x hx
      · rw [List.mem_singleton] at hx; subst hx; exact hs2) (by omega)
    refine ⟨K + 1, D, A, p', h', fun k hk => ?_, hA, hp'⟩
    obtain ⟨k, rfl⟩ : ∃ m, k = m + 1 := ⟨k - 1, by omega⟩
    rw [spec_l04Some.l0, if_pos (by omega), e1, Option.bind_some, e2, Option.bind_some, if_pos (by omega), wr (x := (i : Int) + 1) (by omega) (by omega)]
    have := hK k (by omega)
    rw [Int.natCast_add] at this
    exact this
theorem l04Some_some (b : List Int) (hn : b.length ≤ 9223372036854775806) (p h : Int) (hp : 0 ≤ p) : ∃ K D A p' h', (∀ k, K ≤ k → spec_l04Some.f k b p h 2 = some (D, A, p', h')) ∧ A.length ≤ 10 ∧ 0 ≤ p' :=
  l04Some_loop b hn 2 (by omega) _ 0 [] p h hp rfl (by omega) (fun x hx => by cases hx) rfl
theorem l04Any_some (b : List Int) (hn : b.length ≤ 9223372036854775806) (p h : Int) (hp : 0 ≤ p) : ∃ K D A p' h', (∀ k, K ≤ k → spec_l04Any.f k b p h 2 = some (D, A, p', h')) ∧ 0 ≤ p' := by
  obtain ⟨K, D, A, p1, h1, hK, hA, hp1⟩ := l04Some_some b hn p h hp
  obtain ⟨r, p2, h2, e2, hr0, hr1, _, hp2⟩ := below_some b p1 h1 20 hp1 hn
  by_cases c0 : r = 0
  · obtain ⟨s, p3, h3, e3, _, hp3⟩ := pickInt_some b p2 h2 ([0, (-1), 720, 721, 2] : List Int) hp2 hn (by decide)
    exact ⟨K, s, A, p3, h3, fun k hk => by unfold spec_l04Any.f; simp only [hK k hk, Option.bind_some, e2, if_pos c0, e3], hp3⟩
  by_cases c1 : r = 1
  · by_cases hl : (A.length : Int) > 0
    · obtain ⟨s, p3, h3, e3, hs0, hs1, _, hp3⟩ := below_some b p2 h2 (A.length : Int) hp2 hn
      have hs1 := hs1 (by omega)
      obtain ⟨t, p4, h4, e4, _, hp4⟩ := pickInt_some b p3 h3 ([100000, (-100000), 100001, (-100001), 99999] : List Int) hp3 hn (by decide)
      exact ⟨K, D, A.set s.toNat t, p4, h4, fun k hk => by unfold spec_l04Any.f; simp only [hK k hk, Option.bind_some, e2, if_neg c0, if_pos c1, if_pos hl, e3, e4, if_pos hs0, if_pos hs1], hp4⟩
    · exact ⟨K, D, A, p2, h2, fun k hk => by unfold spec_l04Any.f; simp only [hK k hk, Option.bind_some, e2, if_neg c0, if_pos c1, if_neg hl], hp2⟩
  by_cases c2 : r = 2
  · exact ⟨K, 0, [], p2, h2, fun k hk => by unfold spec_l04Any.f; simp only [hK k hk, Option.bind_some, e2, if_neg c0, if_neg c1, if_pos c2], hp2⟩
  by_cases c3 : r = 3
  · obtain ⟨s, p3, h3, e3, _, hp3⟩ := pickInt_some b p2 h2 ([719, 720, 360, 1] : List Int) hp2 hn (by decide)
    exact ⟨K, s, A, p3, h3, fun k hk => by unfold spec_l04Any.f; simp only [hK k hk, Option.bind_some, e2, if_neg c0, if_neg c1, if_neg c2, if_pos c3, e3], hp3⟩
  · exact ⟨K, D, A, p2, h2, fun k hk => by unfold spec_l04Any.f; simp only [hK k hk, Option.bind_some, e2, if_neg c0, if_neg c1, if_neg c2, if_neg c3], hp2⟩
/-! ### l09Bent, l08Vec, l09Vars, l09Any -/
theorem bent_loop (b : List Int) (hn : b.length ≤ 9223372036854775806) (n : Nat) : ∀ (i : Nat) (acc : List Int) (p h : Int), 0 ≤ p → acc.length = i → Sm acc → i + n = 2 →
    ∃ K D A p' h', (∀ k, K ≤ k → spec_l09Bent.l0 k 2 acc (i : Int) b p h = some (D, A, p', h')) ∧ A.length ≤ 10 ∧ 0 ≤ p' := by
  induction n with
  | zero =>
    intro i acc p h hp hl hb hz
    obtain ⟨K, D, A, g, hK, hlen⟩ := l04make_some acc 1 (by omega) (by omega) (by omega) hb
    refine ⟨K + 1, D, A, p, h, fun k hk => ?_, hlen, hp⟩
    obtain ⟨k, rfl⟩ : ∃ m, k = m + 1 := ⟨k - 1, by omega⟩
    rw [spec_l09Bent.l0, if_neg (by omega), hK k (by omega)]; rfl
  | succ n ih =>
    intro i acc p h hp hl hb hz
    obtain ⟨s, p2, h2, e2, hs, hp2⟩ := pickInt_some b p h ([0, 0, 1, (-1), 1, (-2), 2, 3] : List Int) hp hn (by simp)
    have hs2 : -10 ≤ s ∧ s ≤ 10 := by
      simp only [List.mem_cons, List.not_mem_nil, or_false] at hs; omega
    obtain ⟨K, D, A, p', h', hK, hA, hp'⟩ := ih (i + 1) (acc ++ [s]) p2 h2 hp2 (by simp [hl]) (fun x hx => by
      rcases List.mem_append.1 hx with hx | hx
      · exact hb x hx
      · rw [List.mem_singleton] at hx; subst hx; exact hs2) (by omega)
    refine ⟨K + 1, D, A, p', h', fun k hk => ?_, hA, hp'⟩
    obtain ⟨k, rfl⟩ : ∃ m, k = m + 1 := ⟨k - 1, by omega⟩
    rw [spec_l09Bent.l0, if_pos (by omega), e2, Option.bind_some, if_pos (by omega), wr (x := (i : Int) + 1) (by omega) (by omega)]
    have := hK k (by omega)
    rw [Int.natCast_add] at this
    exact this
theorem bent_some (b : List Int) (hn : b.length ≤ 9223372036854775806) (p h : Int) (hp : 0 ≤ p) : ∃ K D A p' h', (∀ k, K ≤ k → spec_l09Bent.f k b p h 2 = some (D, A, p', h')) ∧ A.length ≤ 10 ∧ 0 ≤ p' := by
  obtain ⟨s, p1, h1, e1, hp1⟩ := once_some b p h 8 hp hn
  cases s with
  | true =>
    obtain ⟨K, D, A, p2, h2, hK, hA, hp2⟩ := l04Some_some b hn p1 h1 hp1
    exact ⟨K, D, A, p2, h2, fun k hk => by unfold spec_l09Bent.f; rw [e1, Option.bind_some, if_pos rfl, hK k hk]; rfl, hA, hp2⟩
  | false =>
    obtain ⟨K, D, A, p2, h2, hK, hA, hp2⟩ := bent_loop b hn 2 0 [] p1 h1 hp1 rfl (fun x hx => by cases hx) rfl
    exact ⟨K, D, A, p2, h2, fun k hk => by unfold spec_l09Bent.f; rw [e1, Option.bind_some, if_neg (by simp)]; exact hK k hk, hA, hp2⟩
theorem rd64_at {xs : List S64} {i : Nat} (h : i < xs.length) : rd_T64 xs (i : Int) = xs[i] := by
  unfold rd_T64; simp [List.getD, List.getElem?_eq_getElem h]
def Sv (l : List S64) : Prop := ∀ x ∈ l, x.f2.f1.length ≤ 10
theorem j2_some (b : List Int) (hn : b.length ≤ 9223372036854775806) (out : List S64) (i : Nat) (hi : out.length = i) (h6 : i ≤ 6) (lim : Int) (ho : Sv out)
    (ih : ∀ v : S64, v.f2.f1.length ≤ 10 → ∀ p h, 0 ≤ p → ∃ K o' p' h', (∀ k, K ≤ k → spec_l09Vars.l0 k 2 (out ++ [v]) lim ((i : Int) + 1) b p h = some (o', p', h')) ∧ o'.length ≤ 7 ∧ 0 ≤ p')
    (s : Bool) (hs : s = true → 0 < i) (p h : Int) (hp : 0 ≤ p) (D : Int) (A : List Int) (hA : A.length ≤ 10) :
    ∃ K o' p' h', (∀ k, K ≤ k → spec_l09Vars.j2 k 2 out lim (i : Int) s b p h D A = some (o', p', h')) ∧ o'.length ≤ 7 ∧ 0 ≤ p' := by
  have hw : wrap64 ((i : Int) + 1) = (i : Int) + 1 := wr (by omega) (by omega)
  cases s with
  | true =>
    have hs := hs rfl
    obtain ⟨r, p1, h1, e1, r0, r1, _, hp1⟩ := below_some b p h (i : Int) hp hn
    have r1 := r1 (by omega)
    obtain ⟨r, rfl⟩ := Int.eq_ofNat_of_zero_le r0
    have hr : r < out.length := by omega
    have hA' := ho _ (List.getElem_mem hr)
    obtain ⟨q, p2, h2, e2, _, _, _, hp2⟩ := below_some b p1 h1 3 hp1 hn
    obtain ⟨t, e3⟩ := of_eq (wrap64 (1 + q))
    have e4 : spec_l08Vec.f (rd_T64 out (r : Int)).f2.f0 (rd_T64 out (r : Int)).f2.f1 = some (out[r].f2.f0, out[r].f2.f1) := by
      rw [rd64_at hr]; unfold spec_l08Vec.f; rw [Option.bind_some, if_pos (by simp; omega)]; rfl
    obtain ⟨K, o', p', h', e5, ho', hp'⟩ := ih ⟨_, ⟨⟨t.1, t.2.1⟩, ⟨t.2.2.1, t.2.2.2⟩⟩, ⟨out[r].f2.f0, out[r].f2.f1⟩⟩ hA' p2 h2 hp2
    obtain ⟨K', hK⟩ : ∃ K', K + 5 ≤ K' := ⟨_, Nat.le_refl _⟩
    refine ⟨K', o', p', h', fun k hk => ?_, ho', hp'⟩
    obtain ⟨k, rfl⟩ : ∃ m, k = m + 1 := ⟨k - 1, by omega⟩
    rw [spec_l09Vars.j2, if_pos rfl, e1, Option.bind_some, if_pos r0, if_pos (by omega), e4, Option.bind_some, Option.bind_some, if_pos (by omega), if_pos (by show (i : Int) < ((8 : Nat) : Int); omega), e2, Option.bind_some, e3 k (by omega), Option.bind_some, if_pos (by omega), hw]
    exact e5 k (by omega)
  | false =>
    obtain ⟨q, p2, h2, e2, _, _, _, hp2⟩ := below_some b p h 3 hp hn
    obtain ⟨t, e3⟩ := of_eq (wrap64 (1 + q))
    obtain ⟨K, o', p', h', e5, ho', hp'⟩ := ih ⟨_, ⟨⟨t.1, t.2.1⟩, ⟨t.2.2.1, t.2.2.2⟩⟩, ⟨D, A⟩⟩ hA p2 h2 hp2
    obtain ⟨K', hK⟩ : ∃ K', K + 5 ≤ K' := ⟨_, Nat.le_refl _⟩
    refine ⟨K', o', p', h', fun k hk => ?_, ho', hp'⟩
    obtain ⟨k, rfl⟩ : ∃ m, k = m + 1 := ⟨k - 1, by omega⟩
    rw [spec_l09Vars.j2, if_neg (by simp), Option.bind_some, if_pos (by omega), if_pos (by show (i : Int) < ((8 : Nat) : Int); omega), e2, Option.bind_some, e3 k (by omega), Option.bind_some, if_pos (by omega), hw]
    exact e5 k (by omega)
theorem vars_loop (b : List Int) (hn : b.length ≤ 9223372036854775806) (lim : Int) (hlim : lim ≤ 6) (n : Nat) : ∀ (i : Nat) (out : List S64) (p h : Int), 0 ≤ p → out.length = i → i ≤ 6 → Sv out → n = (lim - i).toNat →
    ∃ K o' p' h', (∀ k, K ≤ k → spec_l09Vars.l0 k 2 out lim (i : Int) b p h = some (o', p', h')) ∧ o'.length ≤ 7 ∧ 0 ≤ p' := by
  induction n with
  | zero =>
    intro i out p h hp hl hi hb hz
    refine ⟨2, out, p, h, fun k hk => ?_, by omega, hp⟩
    obtain ⟨k, rfl⟩ : ∃ m, k = m + 1 + 1 := ⟨k - 2, by omega⟩
    rw [spec_l09Vars.l0, if_neg (by omega), spec_l09Vars.j1, if_neg (by simp)]
  | succ n ih =>
    intro i out p h hp hl hi hb hz
    have step := j2_some b hn out i hl hi lim hb (fun v hv p h hp => by
      have := ih (i + 1) (out ++ [v]) p h hp (by simp [hl]) (by omega) (fun x hx => by
        rcases List.mem_append.1 hx with hx | hx
        · exact hb x hx
        · rw [List.mem_singleton] at hx; subst hx; exact hv) (by omega)
      rw [Int.natCast_add] at this
      exact this)
    obtain ⟨K1, D, A, p1, h1, e1, hA, hp1⟩ := bent_some b hn p h hp
    by_cases c : (i : Int) > 0
    · obtain ⟨s, p2, h2, e2, hp2⟩ := once_some b p1 h1 3 hp1 hn
      obtain ⟨K2, o', p', h', e3, ho', hp'⟩ := step s (fun _ => by omega) p2 h2 hp2 D A hA
      obtain ⟨K', hK⟩ : ∃ K', K1 + K2 + 5 ≤ K' := ⟨_, Nat.le_refl _⟩
      refine ⟨K', o', p', h', fun k hk => ?_, ho', hp'⟩
      obtain ⟨k, rfl⟩ : ∃ m, k = m + 1 + 1 := ⟨k - 2, by omega⟩
      rw [spec_l09Vars.l0, if_pos (by omega), spec_l09Vars.j1, if_pos (by simp; omega), e1 k (by omega), Option.bind_some, if_pos c, e2, Option.bind_some]
      exact e3 k (by omega)
    · obtain ⟨K2, o', p', h', e3, ho', hp'⟩ := step false (fun h => by cases h) p1 h1 hp1 D A hA
      obtain ⟨K', hK⟩ : ∃ K', K1 + K2 + 5 ≤ K' := ⟨_, Nat.le_refl _⟩
      refine ⟨K', o', p', h', fun k hk => ?_, ho', hp'⟩
      obtain ⟨k, rfl⟩ : ∃ m, k = m + 1 + 1 := ⟨k - 2, by omega⟩
      rw [spec_l09Vars.l0, if_pos (by omega), spec_l09Vars.j1, if_pos (by simp; omega), e1 k (by omega), Option.bind_some, if_neg c]
      exact e3 k (by omega)
theorem vars_some (b : List Int) (hn : b.length ≤ 9223372036854775806) (p h : Int) (hp : 0 ≤ p) : ∃ K o' p' h', (∀ k, K ≤ k → spec_l09Vars.f k b p h 6 2 = some (o', p', h')) ∧ o'.length ≤ 7 ∧ 0 ≤ p' := by
  obtain ⟨r, p1, h1, e1, r0, r1, _, hp1⟩ := below_some b p h (wrap64 (6 + 1)) hp hn
  have hw : wrap64 (6 + 1) = 7 := wr (by omega) (by omega)
  have r1 := r1 (by omega)
  obtain ⟨K, o', p', h', e2, ho, hp'⟩ := vars_loop b hn r (by omega) _ 0 [] p1 h1 hp1 rfl (by omega) (fun x hx => by cases hx) rfl
  exact ⟨K, o', p', h', fun k hk => by unfold spec_l09Vars.f; rw [e1, Option.bind_some]; exact e2 k hk, ho, hp'⟩
theorem dec_some (n : Nat) (hn : n < 10) : ∃ s, (∀ k, 2 ≤ k → spec_DecText.f k (n : Int) = some s) ∧ s.size ≤ 100 := by
  by_cases h : (n : Int) = 0
  · exact ⟨_, fun k hk => by unfold spec_DecText.f; rw [if_pos h], by decide⟩
  have t1 : Int.tmod (n : Int) 10 = n := by rw [Int.tmod_eq_emod_of_nonneg (by omega)]; omega
  have t2 : Int.tdiv (n : Int) 10 = 0 := by rw [Int.tdiv_eq_ediv_of_nonneg (by omega)]; omega
  have w1 : wrap64 ((n : Int) + 1) = (n : Int) + 1 := wr (by omega) (by omega)
  have sz : ((⟨#[48, 49, 50, 51, 52, 53, 54, 55, 56, 57]⟩ : ByteArray).extract ((n : Int)).toNat ((n : Int) + 1).toNat).size ≤ 50 := by
    rw [ByteArray.size_extract]
    have : (⟨#[48, 49, 50, 51, 52, 53, 54, 55, 56, 57]⟩ : ByteArray).size = 10 := by decide
    omega
  generalize hs : (⟨#[48, 49, 50, 51, 52, 53, 54, 55, 56, 57]⟩ : ByteArray).extract ((n : Int)).toNat ((n : Int) + 1).toNat = s at sz
  have z0 : (⟨#[]⟩ : ByteArray).size = 0 := by decide
  refine ⟨s ++ (⟨#[]⟩ : ByteArray), fun k hk => ?_, by rw [ByteArray.size_append]; omega⟩
  obtain ⟨k, rfl⟩ : ∃ m, k = m + 1 + 1 := ⟨k - 2, by omega⟩
  unfold spec_DecText.f
  rw [if_neg h, spec_DecText.l0, if_neg h, t1, t2, w1, hs, if_neg (by omega), if_pos (by omega), if_pos (by omega), if_pos (by omega), if_pos (by omega), wr (x := 0) (by omega) (by omega), spec_DecText.l0, if_pos rfl, if_neg (by omega)]
theorem nought_two : spec_Nought.f 2 = some (1, [0, 0]) := by
  unfold spec_Nought.f spec_l01In.f
  rw [if_pos (by decide)]; rfl
theorem l09any_loop (b : List Int) (hn : b.length ≤ 9223372036854775806) (n : Nat) : ∀ (out : List S64) (p h : Int), 0 ≤ p → out.length + n = 9 →
    ∃ K o' p' h', (∀ k, K ≤ k → spec_l09Any.l0 k 2 out b p h = some (o', p', h')) ∧ o'.length ≤ 9 ∧ 0 ≤ p' := by
  induction n with
  | zero =>
    intro out p h hp hl
    obtain ⟨r, p1, h1, e1, r0, r1, _, hp1⟩ := below_some b p h 3 hp hn
    have r1 := r1 (by omega)
    refine ⟨1, out, p1, h1, fun k hk => ?_, by omega, hp1⟩
    obtain ⟨k, rfl⟩ : ∃ m, k = m + 1 := ⟨k - 1, by omega⟩
    rw [spec_l09Any.l0, e1, Option.bind_some, wr (by omega) (by omega), if_neg (by omega)]
  | succ n ih =>
    intro out p h hp hl
    obtain ⟨r, p1, h1, e1, r0, r1, _, hp1⟩ := below_some b p h 3 hp hn
    have r1 := r1 (by omega)
    by_cases c : (out.length : Int) < wrap64 (7 + r)
    · obtain ⟨s, e2, hs⟩ := dec_some out.length (by omega)
      obtain ⟨t, e3⟩ := of_eq 1
      obtain ⟨K, o', p', h', e4, ho, hp'⟩ := ih (out ++ [⟨(⟨#[120]⟩ : ByteArray) ++ s, ⟨⟨t.1, t.2.1⟩, ⟨t.2.2.1, t.2.2.2⟩⟩, ⟨1, [0, 0]⟩⟩]) p1 h1 hp1 (by simp; omega)
      obtain ⟨K', hK⟩ : ∃ K', K + 5 ≤ K' := ⟨_, Nat.le_refl _⟩
      refine ⟨K', o', p', h', fun k hk => ?_, ho, hp'⟩
      obtain ⟨k, rfl⟩ : ∃ m, k = m + 1 := ⟨k - 1, by omega⟩
      rw [spec_l09Any.l0, e1, Option.bind_some, if_pos c, e2 k (by omega), Option.bind_some, if_pos (by omega), e3 k (by omega), Option.bind_some, nought_two, Option.bind_some, if_pos (by omega)]
      exact e4 k (by omega)
    · refine ⟨1, out, p1, h1, fun k hk => ?_, by omega, hp1⟩
      obtain ⟨k, rfl⟩ : ∃ m, k = m + 1 := ⟨k - 1, by omega⟩
      rw [spec_l09Any.l0, e1, Option.bind_some, if_neg c]
theorem l09any_some (b : List Int) (hn : b.length ≤ 9223372036854775806) (p h : Int) (hp : 0 ≤ p) : ∃ K o' p' h', (∀ k, K ≤ k → spec_l09Any.f k b p h 2 = some (o', p', h')) ∧ o'.length ≤ 9 ∧ 0 ≤ p' := by
  obtain ⟨K1, o, p1, h1, e1, ho, hp1⟩ := vars_some b hn p h hp
  obtain ⟨r, p2, h2, e2, _, _, _, hp2⟩ := below_some b p1 h1 20 hp1 hn
  by_cases c0 : r = 0
  · obtain ⟨s, p3, h3, e3, _, hp3⟩ := pick_some b p2 h2 ([(⟨#[118]⟩ : ByteArray), (⟨#[120]⟩ : ByteArray), (⟨#[]⟩ : ByteArray)] : List ByteArray) hp2 hn (by simp)
    obtain ⟨K2, s1, l1, s2, l2, p4, h4, e4, hp4⟩ := l03any_eq b p3 h3 hp3 hn
    obtain ⟨K3, D, A, p5, h5, e5, hp5⟩ := l04Any_some b hn p4 h4 hp4
    obtain ⟨K', hK⟩ : ∃ K', K1 + K2 + K3 ≤ K' := ⟨_, Nat.le_refl _⟩
    refine ⟨K', o ++ [⟨s, ⟨⟨s1, l1⟩, ⟨s2, l2⟩⟩, ⟨D, A⟩⟩], p5, h5, fun k hk => ?_, by simp; omega, hp5⟩
    unfold spec_l09Any.f
    rw [e1 k (by omega), Option.bind_some, e2, Option.bind_some, if_pos c0, e3, Option.bind_some, e4 k (by omega), Option.bind_some, e5 k (by omega), Option.bind_some, if_pos (by show o.length < _; omega)]
  by_cases c1 : r = 1
  · obtain ⟨K2, o', p3, h3, e3, ho', hp3⟩ := l09any_loop b hn (9 - o.length) o p2 h2 hp2 (by omega)
    obtain ⟨K', hK⟩ : ∃ K', K1 + K2 ≤ K' := ⟨_, Nat.le_refl _⟩
    refine ⟨K', o', p3, h3, fun k hk => ?_, ho', hp3⟩
    unfold spec_l09Any.f
    rw [e1 k (by omega), Option.bind_some, e2, Option.bind_some, if_neg c0, if_pos c1]
    exact e3 k (by omega)
  · refine ⟨K1, o, p2, h2, fun k hk => ?_, by omega, hp2⟩
    unfold spec_l09Any.f
    rw [e1 k (by omega), Option.bind_some, e2, Option.bind_some, if_neg c0, if_neg c1]
theorem newAll_loop (b : List Int) (hn : b.length ≤ 9223372036854775806) (d : Nat) : ∀ (i : Nat) (h : Int), i + d = b.length → ∃ h', ∀ k, d < k → spec_l01New.l0 k b h (i : Int) = some (b, 0, h') := by
  induction d with
  | zero =>
    intro i h hi
    refine ⟨h, fun k hk => ?_⟩
    obtain ⟨k, rfl⟩ : ∃ m, k = m + 1 := ⟨k - 1, by omega⟩
    rw [spec_l01New.l0, if_neg (by omega)]
  | succ d ih =>
    intro i h hi
    by_cases h4 : (i : Int) < 4000
    · obtain ⟨h', e⟩ := ih (i + 1) (Go.bits .and .i64 (wrap64 ((wrap64 ((wrap64 (h * 131)) + (wrap64 (rd b i)))) + 7)) 1073741823) (by omega)
      refine ⟨h', fun k hk => ?_⟩
      obtain ⟨k, rfl⟩ : ∃ m, k = m + 1 := ⟨k - 1, by omega⟩
      rw [spec_l01New.l0, if_pos (by omega), if_pos h4, if_pos (by omega), wr (x := (i : Int) + 1) (by omega) (by omega)]
      have e := e k (by omega)
      rw [Int.natCast_add] at e
      exact e
    · refine ⟨h, fun k hk => ?_⟩
      obtain ⟨k, rfl⟩ : ∃ m, k = m + 1 := ⟨k - 1, by omega⟩
      rw [spec_l01New.l0, if_pos (by omega), if_neg h4]
theorem new_all (b : List Int) (hn : b.length ≤ 9223372036854775806) : ∃ h, ∀ k, b.length < k → spec_l01New.f k b = some (b, 0, h) :=
  newAll_loop b hn b.length 0 _ (by omega)
theorem draw_some (b : List Int) (hn : b.length ≤ 9223372036854775806) : ∃ K o s, (∀ k, K ≤ k → spec_DrawVarAt.f k b = some (o, s)) ∧ o.length ≤ 9 := by
  obtain ⟨h, e0⟩ : ∃ h, ∀ k, b.length < k → spec_l01New.f k b = some (b, 0, h) := new_all b hn
  obtain ⟨K, o, p1, h1, e1, ho, hp1⟩ := l09any_some b hn 0 h (by omega)
  obtain ⟨s, p2, h2, e2, _, _⟩ := pick_some b p1 h1 ([(⟨#[118]⟩ : ByteArray), (⟨#[103]⟩ : ByteArray), (⟨#[104]⟩ : ByteArray), (⟨#[114, 104, 111]⟩ : ByteArray), (⟨#[120]⟩ : ByteArray), (⟨#[]⟩ : ByteArray)] : List ByteArray) hp1 hn (by simp)
  obtain ⟨K', hK⟩ : ∃ K', K + b.length + 1 ≤ K' := ⟨_, Nat.le_refl _⟩
  refine ⟨K', o, s, fun k hk => ?_, ho⟩
  unfold spec_DrawVarAt.f
  rw [e0 k (by omega), Option.bind_some, e1 k (by omega), Option.bind_some, e2, Option.bind_some]
/-! ### The law -/
theorem at_loop (xs : List S64) (n : ByteArray) (hn : xs.length ≤ 9) (d : Nat) : ∀ (i : Nat), i + d = xs.length →
    ((∀ j : Nat, i ≤ j → j < xs.length → ¬ (rd_T64 xs (j : Int)).f0.toList = n.toList) ∧ ∀ k, d < k → impl_varAt.l0 k xs n (i : Int) = some (-1)) ∨
    ∃ r : Nat, i ≤ r ∧ r < xs.length ∧ (rd_T64 xs (r : Int)).f0.toList = n.toList ∧ (∀ j : Nat, i ≤ j → j < r → ¬ (rd_T64 xs (j : Int)).f0.toList = n.toList) ∧ ∀ k, d < k → impl_varAt.l0 k xs n (i : Int) = some (r : Int) := by
  induction d with
  | zero =>
    intro i hi
    refine .inl ⟨fun j a b => absurd b (by omega), fun k hk => ?_⟩
    obtain ⟨k, rfl⟩ : ∃ m, k = m + 1 := ⟨k - 1, by omega⟩
    rw [impl_varAt.l0, if_neg (by omega)]
  | succ d ih =>
    intro i hi
    by_cases h : (rd_T64 xs (i : Int)).f0.toList = n.toList
    · refine .inr ⟨i, Nat.le_refl _, by omega, h, fun j a b => absurd b (by omega), fun k hk => ?_⟩
      obtain ⟨k, rfl⟩ : ∃ m, k = m + 1 := ⟨k - 1, by omega⟩
      rw [impl_varAt.l0, if_pos (by omega), if_pos (by omega), if_pos h]
    · have hne : ∀ j : Nat, i ≤ j → ¬ i + 1 ≤ j → ¬ (rd_T64 xs (j : Int)).f0.toList = n.toList := fun j a b => by
        obtain rfl : j = i := by omega
        exact h
      have go : ∀ {k : Nat} {r : Int}, (∀ k, d < k → impl_varAt.l0 k xs n ((i + 1 : Nat) : Int) = some r) → d + 1 < k → impl_varAt.l0 k xs n (i : Int) = some r := fun {k r} e hk => by
        obtain ⟨k, rfl⟩ : ∃ m, k = m + 1 := ⟨k - 1, by omega⟩
        rw [impl_varAt.l0, if_pos (by omega), if_pos (by omega), if_neg h, wr (by omega) (by omega)]
        have e := e k (by omega)
        rw [Int.natCast_add] at e
        exact e
      rcases ih (i + 1) (by omega) with ⟨a, e⟩ | ⟨r, a1, a2, a3, a4, e⟩
      · exact .inl ⟨fun j x y => by by_cases z : i + 1 ≤ j; exact a j z y; exact hne j x z, fun k hk => go e hk⟩
      · exact .inr ⟨r, by omega, a2, a3, fun j x y => by by_cases z : i + 1 ≤ j; exact a4 j z y; exact hne j x z, fun k hk => go e hk⟩
theorem law_loop (xs : List S64) (n : ByteArray) (hn : xs.length ≤ 9) (r : Nat) (hr : r ≤ xs.length) (hne : ∀ j : Nat, j < r → ¬ (rd_T64 xs (j : Int)).f0.toList = n.toList) (d : Nat) : ∀ (i k : Nat), i + d = r → d < k → laws_FnVars.l0 k xs n (r : Int) (i : Int) = some true := by
  induction d with
  | zero =>
    intro i k hi hk
    obtain ⟨k, rfl⟩ : ∃ m, k = m + 1 := ⟨k - 1, by omega⟩
    rw [laws_FnVars.l0, if_neg (by omega)]
  | succ d ih =>
    intro i k hi hk
    obtain ⟨k, rfl⟩ : ∃ m, k = m + 1 := ⟨k - 1, by omega⟩
    rw [laws_FnVars.l0, if_pos (by omega), if_pos (by omega), if_pos (by omega), if_neg (hne i (by omega)), wr (by omega) (by omega)]
    have e := ih (i + 1) k (by omega) (by omega)
    rw [Int.natCast_add] at e
    exact e
theorem law_j0 (xs : List S64) (n : ByteArray) (hn : xs.length ≤ 9) (r : Nat) (hr : r ≤ xs.length) (hne : ∀ j : Nat, j < r → ¬ (rd_T64 xs (j : Int)).f0.toList = n.toList) (k : Nat) (hk : 20 ≤ k) : laws_FnVars.j0 k xs n (r : Int) = some true := by
  obtain ⟨k, rfl⟩ : ∃ m, k = m + 1 := ⟨k - 1, by omega⟩
  rw [laws_FnVars.j0]
  exact law_loop xs n hn r hr hne r 0 k (by omega) (by omega)
theorem FnVars : laws_FnVars.Pure := by
  intro l0 hm _ _
  unfold maxLen at hm
  by_cases hb : (l0.length : Int) > 1048576
  · exact ⟨0, by unfold laws_FnVars.f laws_big.f; rw [Option.bind_some, if_pos (decide_eq_true hb)]⟩
  obtain ⟨K, o, s, e0, ho⟩ := draw_some l0 (by omega)
  obtain ⟨k, hk⟩ : ∃ k, K + 20 ≤ k := ⟨_, Nat.le_refl _⟩
  have hA : ∀ r, impl_varAt.l0 k o s ((0 : Nat) : Int) = some r → impl_VarAt.f k o s = some r := fun r e => by
    have e : impl_varAt.f k o s = some r := e
    unfold impl_VarAt.f; rw [e]; rfl
  refine ⟨k, ?_⟩
  unfold laws_FnVars.f laws_big.f
  rw [Option.bind_some, if_neg (by simp; omega), e0 k (by omega), Option.bind_some]
  rcases at_loop o s ho o.length 0 (by omega) with ⟨a, e⟩ | ⟨r, _, a2, a3, a4, e⟩
  · have e := hA _ (e k (by omega))
    rw [e, Option.bind_some, if_pos (by decide), Option.bind_some, if_pos rfl]
    exact law_j0 o s ho o.length (Nat.le_refl _) (fun j h => a j (by omega) h) k (by omega)
  · have e := hA _ (e k (by omega))
    rw [e, Option.bind_some, if_neg (by omega), if_neg (by show ¬ (r : Int) ≥ (o.length : Int); omega), if_pos (by omega), if_pos (by show (r : Int) < (o.length : Int); omega), if_pos a3]
    exact law_j0 o s ho r (by omega) (fun j h => a4 j (by omega) h) k (by omega)
end G
end Go.Proofs.Ytjdndacollpjkaa.Bn
