/- Contracts of the functions that the law FnExactVecAdd reaches: walks in the form of the kit's print; the functions that it does not take are walked by hand. -/
import Derived.Test.YtjdndacollpjkaaMFnExactVecAddx0
import Derived.Test.YtjdndacollpjkaaMFnExactVecAddx1
import Derived.Test.YtjdndacollpjkaaMFnExactVecAddx2
import Derived.Test.YtjdndacollpjkaaMFnExactVecAddx4
import Derived.Test.YtjdndacollpjkaaMFnExactVecAddx3
namespace Go.Proofs.Ytjdndacollpjkaa.MFnExactVecAdd
open Go.RowKit Go.Proofs.YtjdndacollpjkaaW.PrintWords Go.Proofs.YtjdndacollpjkaaW.PrintLast Go.Proofs.YtjdndacollpjkaaW.PrintMore
attribute [local go_sem] max2_int min2_int max_two min_two max_three min_three max_four min_four   -- for this text's walks alone
set_option linter.unusedVariables false
set_option linter.unusedSimpArgs false

/-! ### impl_isVec: function 44, by hand: its closure, slices.IndexFunc and slices.ContainsFunc at it, the numbers' common divisor -/

theorem hv_wr {x : Int} (h1 : -9223372036854775808 ≤ x) (h2 : x ≤ 9223372036854775807) : wrap64 x = x := by
  unfold wrap64; omega

theorem hv_gcd_step (a b : Int) : (Int.gcd b (Int.tmod a b) : Int) = Int.gcd a b := by
  unfold Int.gcd
  rw [Int.natAbs_tmod, Nat.gcd_comm, ← Nat.gcd_rec, Nat.gcd_comm]
theorem hv_gcd_nought (a : Int) : (Int.gcd a 0 : Int) = if a < 0 then -a else a := by
  rw [Int.gcd_zero_right]; split <;> omega

theorem hv_mx_abs {a : Int} (h : -9223372036854775808 < a) (h2 : a ≤ 9223372036854775807) : mx a (wrap64 (-a)) = (a.natAbs : Int) := by
  rw [hv_wr (by omega) (by omega)]; unfold mx; split <;> omega
theorem hv_gcdImpl_loop (d : Nat) : ∀ (k : Nat) (a b : Int), -9223372036854775808 < a → a ≤ 9223372036854775807 → -9223372036854775808 < b → b ≤ 9223372036854775807 → b.natAbs ≤ d → d < k → impl_gcd.l0 k a b = some (Int.gcd a b : Int) := by
  induction d with
  | zero =>
    intro k a b ha ha' hb hb' hd hk
    obtain ⟨k, rfl⟩ : ∃ m, k = m + 1 := ⟨k - 1, by omega⟩
    have hz : b = 0 := by omega
    simp only [impl_gcd.l0]
    rw [if_pos hz, hv_mx_abs ha ha', hz, Int.gcd_zero_right]
  | succ d ih =>
    intro k a b ha ha' hb hb' hd hk
    obtain ⟨k, rfl⟩ : ∃ m, k = m + 1 := ⟨k - 1, by omega⟩
    simp only [impl_gcd.l0]
    by_cases hz : b = 0
    · rw [if_pos hz, hv_mx_abs ha ha', hz, Int.gcd_zero_right]
    · rw [if_neg hz]
      have h1 : (Int.tmod a b).natAbs = a.natAbs % b.natAbs := Int.natAbs_tmod a b
      have h2 : a.natAbs % b.natAbs < b.natAbs := Nat.mod_lt _ (by omega)
      rw [ih k b _ hb hb' (by omega) (by omega) (by omega) (by omega), hv_gcd_step]
theorem hv_gcdImpl_eq (k : Nat) (a b : Int) (ha : -9223372036854775808 < a) (ha' : a ≤ 9223372036854775807) (hb : -9223372036854775808 < b) (hb' : b ≤ 9223372036854775807) (hk : b.natAbs + 1 ≤ k) : impl_gcd.f k a b = some (Int.gcd a b : Int) :=
  hv_gcdImpl_loop b.natAbs k a b ha ha' hb hb' (Nat.le_refl _) (by omega)

theorem hv_rd_at {xs : List Int} {i : Nat} (h : i < xs.length) : rd xs (i : Int) = xs[i] := by
  unfold rd; simp [List.getD, List.getElem?_eq_getElem h]
/-- the common divisor of a number and a list -/
def hv_common (d : Int) (l : List Int) : Int := l.foldl (fun g x => (Int.gcd g x : Int)) d
theorem hv_common_loop (l : List Int) (hl : l.length ≤ 1000000) (hb : ∀ x ∈ l, -1000000000000000 ≤ x ∧ x ≤ 1000000000000000) (n : Nat) : ∀ (k i : Nat) (d : Int), -1000000000000000 ≤ d → d ≤ 1000000000000000 → i + n = l.length → n + 1000000000000010 ≤ k →
    impl_commonOf.l0 k d l (l.length : Int) (i : Int) = some (hv_common d (l.drop i)) := by
  induction n with
  | zero =>
    intro k i d h0 h1 hi hk
    obtain ⟨k, rfl⟩ : ∃ m, k = m + 1 := ⟨k - 1, by omega⟩
    simp only [impl_commonOf.l0]
    rw [if_neg (by omega), List.drop_eq_nil_of_le (by omega)]; rfl
  | succ n ih =>
    intro k i d h0 h1 hi hk
    obtain ⟨k, rfl⟩ : ∃ m, k = m + 1 := ⟨k - 1, by omega⟩
    have hx : i < l.length := by omega
    have hxb := hb _ (List.getElem_mem hx)
    simp only [impl_commonOf.l0]
    rw [if_pos (by omega), if_pos (by omega), if_pos (by omega), hv_rd_at hx, hv_gcdImpl_eq k d l[i] (by omega) (by omega) (by omega) (by omega) (by omega)]
    simp only [Option.bind_some]
    rw [hv_wr (by omega) (by omega), List.drop_eq_getElem_cons hx]
    have hg : (Int.gcd d l[i] : Int) ≤ 1000000000000000 := by
      by_cases hz : l[i] = 0
      · rw [hz, Int.gcd_zero_right]; omega
      · have := Nat.le_of_dvd (by omega) (Nat.gcd_dvd_right d.natAbs l[i].natAbs)
        have e : Int.gcd d l[i] = Nat.gcd d.natAbs l[i].natAbs := rfl
        omega
    have e := ih k (i + 1) (Int.gcd d l[i] : Int) (by omega) hg (by omega) (by omega)
    rw [Int.natCast_add] at e
    exact e
theorem hv_common_eq (l : List Int) (hl : l.length ≤ 1000000) (hb : ∀ x ∈ l, -1000000000000000 ≤ x ∧ x ≤ 1000000000000000) (d : Int) (h0 : -1000000000000000 ≤ d) (h1 : d ≤ 1000000000000000) : ∃ k, impl_commonOf.f k d l = some (hv_common d l) := by
  refine ⟨l.length + 1000000000000010, ?_⟩
  unfold impl_commonOf.f
  have e := hv_common_loop l hl hb l.length (l.length + 1000000000000010) 0 d h0 h1 (by omega) (Nat.le_refl _)
  exact e
def hv_far (n : Int) : Bool := decide (n < -100000) || decide (100000 < n)
theorem hv_closure67 (n : Int) (w : World) : Calls Try.prog 67 #[.int .i64 n] w fun e w' => e = .returned (.bool (hv_far n)) ∧ w = w' := by
  by_cases h : n < -100000
  · have e : hv_far n = true := by unfold hv_far; simp [h]
    rw [e]
    go_enter Try.func67, Try.ntmps67
    go_wp2
    go_ret
    exact ⟨rfl, rfl⟩
  · by_cases h2 : 100000 < n
    · have e : hv_far n = true := by unfold hv_far; simp [h2]
      rw [e]
      go_enter Try.func67, Try.ntmps67
      go_wp2
      go_ret
      exact ⟨rfl, rfl⟩
    · have e : hv_far n = false := by unfold hv_far; simp [h, h2]
      rw [e]
      go_enter Try.func67, Try.ntmps67
      go_wp2
      go_ret
      exact ⟨rfl, rfl⟩
def hv_idx (p : Int → Bool) : List Int → Int → Int
  | [], _ => -1
  | x :: l, i => if p x then i else hv_idx p l (i + 1)
theorem hv_idx_iff (p : Int → Bool) (l : List Int) : ∀ i, 0 ≤ i → (0 ≤ hv_idx p l i ↔ l.any p = true) := by
  induction l with
  | nil => intro i _; simp [hv_idx]
  | cons x l ih =>
    intro i hi
    have e : hv_idx p (x :: l) i = if p x = true then i else hv_idx p l (i + 1) := rfl
    rw [e, List.any_cons]
    by_cases hp : p x = true
    · rw [if_pos hp, hp]; simp [hi]
    · rw [if_neg hp, ih (i + 1) (by omega)]; simp [hp]
theorem hv_idx_neg (p : Int → Bool) (l : List Int) (i : Int) (hi : 0 ≤ i) : decide (0 ≤ hv_idx p l i) = l.any p := by
  rw [Bool.eq_iff_iff, decide_eq_true_eq]; exact hv_idx_iff p l i hi
set_option maxHeartbeats 1000000 in
theorem hv_index67 (A : Option Addr) (c : Nat) (l : List Int) (w : World) (hl : l.length ≤ 1000000) (hr : Kd.C (Kd.int .i64) w A l.length l) :
    Calls Try.prog 71 #[.slice A l.length c, .func (.func 67) #[] #[]] w fun e w' => e = .returned (.int .i64 (hv_idx hv_far l 0)) ∧ w = w' := by
  have HR := Aside0.mk hr
  clear hr
  go_enter Try.func71, Try.ntmps71
  go_wp2_with fail
  go_loop [5, 8] (fun a i => ∃ k : Nat, k ≤ l.length ∧ i = .int .i64 k ∧ Aside0 (hv_idx hv_far (l.drop k) k = hv_idx hv_far l 0)) (fun _ i => l.length - (intOf i).toNat)
  case atStart => exact ⟨0, Nat.zero_le _, rfl, ⟨by simp⟩⟩
  case round =>
    obtain ⟨k, hk, rfl, HX⟩ := hrel
    by_cases hlt : k < l.length
    · obtain ⟨ad, e1, hc⟩ := Kd.at_int HR.out (k : Int) (by omega) (by omega)
      rw [hv_rd_at hlt] at hc
      cases e1
      rw [Int.toNat_natCast] at hc
      have HS := HX.out
      clear HX
      rw [List.drop_eq_getElem_cons hlt] at HS
      simp only [hv_idx] at HS
      generalize l[k] = x at *
      cases hp : hv_far x
      · rw [hp] at HS
        simp only [Bool.false_eq_true, if_false] at HS
        have HY := Aside0.mk HS
        have HP := Aside0.mk hp
        clear HS hp
        go_wp2_with (go_at_call 67; refine (hv_closure67 _ _).mono ?_; rintro e w' ⟨rfl, rfl⟩; rw [HP.out])
        go_round
        case rel => exact ⟨k + 1, by omega, by go_num, by exact ⟨by simpa using HY.out⟩⟩
        case measure => simp [intOf]; omega
      · rw [hp] at HS
        simp only [if_true] at HS
        have HY := Aside0.mk HS
        have HP := Aside0.mk hp
        clear HS hp
        go_wp2_with (go_at_call 67; refine (hv_closure67 _ _).mono ?_; rintro e w' ⟨rfl, rfl⟩; rw [HP.out])
        go_ret
        exact ⟨by rw [HY.out]; rfl, rfl⟩
    · have HS := HX.out
      clear HX
      rw [List.drop_eq_nil_of_le (by omega)] at HS
      have HY := Aside0.mk HS
      clear HS
      go_wp2
      go_ret
      exact ⟨by rw [← HY.out]; rfl, rfl⟩
theorem hv_contains67 (A : Option Addr) (c : Nat) (l : List Int) (w : World) (hl : l.length ≤ 1000000) (hr : Kd.C (Kd.int .i64) w A l.length l) :
    Calls Try.prog 49 #[.slice A l.length c, .func (.func 67) #[] #[]] w fun e w' => e = .returned (.bool (l.any hv_far)) ∧ w = w' := by
  have HA := Aside0.mk (hv_idx_neg hv_far l 0 (Int.le_refl 0))
  have HR := Aside0.mk hr
  clear hr
  generalize hx : hv_idx hv_far l 0 = x at HA
  have HX := Aside0.mk hx
  clear hx
  go_enter Try.func49, Try.ntmps49
  go_wp2_with (go_at_call 71; refine (hv_index67 _ _ _ _ hl HR.out).mono ?_; rintro e w' ⟨rfl, rfl⟩; rw [HX.out])
  go_ret
  exact ⟨by rw [← HA.out]; rfl, rfl⟩
def hv_okB (d : Int) (l : List Int) : Bool := decide (l.length ≤ 8 ∧ 1 ≤ d ∧ d ≤ 720) && !(l.any hv_far) && decide (hv_common d l = 1)
def impl_isVec.f (k : Nat) (a0_0 : Int) (l0_1 : List Int) : Option (Bool) := some (hv_okB a0_0 l0_1)
theorem impl_isVec.mono : ∀ a0 a1 k, LeO (impl_isVec.f k a0 a1) (impl_isVec.f (k + 1) a0 a1) := fun _ _ _ => LeO.refl _
theorem hv_bound {l : List Int} (h : l.any hv_far = false) : ∀ x ∈ l, -1000000000000000 ≤ x ∧ x ≤ 1000000000000000 := by
  intro x hx
  have := List.any_eq_false.1 h x hx
  unfold hv_far at this
  simp at this
  omega
set_option maxHeartbeats 2000000 in
theorem impl_isVec.calls (k : Nat) (a0_0 : Int) (A0_1 : Option Addr) (c0_1 : Nat) (l0_1 : List Int) (r : Bool) (w : World) (hr0_1 : Kd.C (Kd.int .i64) w A0_1 l0_1.length l0_1) (hc0_1 : l0_1.length ≤ c0_1) (h : impl_isVec.f k a0_0 l0_1 = some r) :
    Calls Try.prog 44 #[.agg #[.int .i64 a0_0, .slice A0_1 l0_1.length c0_1]] w fun e w' => e = .returned (.bool r) ∧ Below w.heap.size w w' := by
  have hr : hv_okB a0_0 l0_1 = r := Option.some.inj h
  clear h
  have hu27 := Try.underlying27
  have HR := Aside0.mk hr0_1
  clear hr0_1
  by_cases h8 : 8 < (l0_1.length : Int)
  · have e : hv_okB a0_0 l0_1 = false := by unfold hv_okB; simp; omega
    rw [e] at hr; clear e
    have HE := Aside0.mk hr
    clear hr
    go_enter Try.func44, Try.ntmps44
    go_wp2_with fail
    go_ret
    exact ⟨by rw [← HE.out]; rfl, below_alloc (Below.refl _ _) _⟩
  by_cases h1 : a0_0 < 1
  · have e : hv_okB a0_0 l0_1 = false := by unfold hv_okB; simp; omega
    rw [e] at hr; clear e
    have HE := Aside0.mk hr
    clear hr
    go_enter Try.func44, Try.ntmps44
    go_wp2_with fail
    go_ret
    exact ⟨by rw [← HE.out]; rfl, below_alloc (Below.refl _ _) _⟩
  by_cases h2 : 720 < a0_0
  · have e : hv_okB a0_0 l0_1 = false := by unfold hv_okB; simp; omega
    rw [e] at hr; clear e
    have HE := Aside0.mk hr
    clear hr
    go_enter Try.func44, Try.ntmps44
    go_wp2_with fail
    go_ret
    exact ⟨by rw [← HE.out]; rfl, below_alloc (Below.refl _ _) _⟩
  have e0 : decide (l0_1.length ≤ 8 ∧ 1 ≤ a0_0 ∧ a0_0 ≤ 720) = true := by simp; omega
  unfold hv_okB at hr
  rw [e0, Bool.true_and] at hr
  clear e0
  cases ha : l0_1.any hv_far
  · obtain ⟨k1, hk⟩ := hv_common_eq l0_1 (by omega) (hv_bound ha) a0_0 (by omega) (by omega)
    rw [ha] at hr
    simp only [Bool.not_false, Bool.true_and] at hr
    have HA := Aside0.mk ha
    have HE := Aside0.mk hr
    have HK := Aside0.mk hk
    clear ha hr hk
    by_cases hg : hv_common a0_0 l0_1 = 1
    · have HG := Aside0.mk hg
      clear hg
      have e1 : r = true := by rw [← HE.out, HG.out]; rfl
      subst e1
      clear HE
      have HL : Aside0 (l0_1.length ≤ 1000000) := ⟨by omega⟩
      go_enter Try.func44, Try.ntmps44
      go_wp2_with (first | (go_at_call 49; refine (hv_contains67 _ _ _ _ HL.out (Kd.C_below HR.out (below_alloc (Below.refl _ _) _))).mono ?_; rintro e w' ⟨rfl, rfl⟩; rw [HA.out]) | (go_at_call 68; refine (impl_commonOf.calls k1 _ _ _ _ _ _ (Kd.C_below HR.out (below_alloc (Below.refl _ _) _)) hc0_1 HK.out).mono ?_; rintro e w' ⟨rfl, hd⟩; rw [HG.out]))
      go_ret
      exact ⟨rfl, below_then (below_alloc (Below.refl _ _) _) (by simp) hd⟩
    · have e1 : r = false := by rw [← HE.out]; simp [hg]
      have hb : (hv_common a0_0 l0_1 == 1) = false := by simp [hg]
      subst e1
      clear HE
      have HL : Aside0 (l0_1.length ≤ 1000000) := ⟨by omega⟩
      go_enter Try.func44, Try.ntmps44
      go_wp2_with (first | (go_at_call 49; refine (hv_contains67 _ _ _ _ HL.out (Kd.C_below HR.out (below_alloc (Below.refl _ _) _))).mono ?_; rintro e w' ⟨rfl, rfl⟩; rw [HA.out]) | (go_at_call 68; refine (impl_commonOf.calls k1 _ _ _ _ _ _ (Kd.C_below HR.out (below_alloc (Below.refl _ _) _)) hc0_1 HK.out).mono ?_; rintro e w' ⟨rfl, hd⟩))
      go_ret
      exact ⟨rfl, below_then (below_alloc (Below.refl _ _) _) (by simp) hd⟩
  · rw [ha] at hr
    simp only [Bool.not_true, Bool.false_and] at hr
    subst hr
    have HA := Aside0.mk ha
    clear ha
    have HL : Aside0 (l0_1.length ≤ 1000000) := ⟨by omega⟩
    go_enter Try.func44, Try.ntmps44
    go_wp2_with (first | (go_at_call 49; refine (hv_contains67 _ _ _ _ HL.out (Kd.C_below HR.out (below_alloc (Below.refl _ _) _))).mono ?_; rintro e w' ⟨rfl, rfl⟩; rw [HA.out]))
    go_ret
    exact ⟨rfl, below_alloc (Below.refl _ _) _⟩

/-! ### impl_toldVec: function 51 -/
mutual
def impl_toldVec.j0 : Nat → List Int → Int → Int → Option (Int × List Int × Bool)
  | 0, _, _, _ => none
  | k + 1, x0, x1, x6 => if x6 = 0 then (none) else (impl_toldVec.l0 k x6 x0 (x0.length : Int) 0 (wrap64 (Int.tdiv x1 x6)) ([] : List Int))
def impl_toldVec.l0 : Nat → Int → List Int → Int → Int → Int → List Int → Option (Int × List Int × Bool)
  | 0, _, _, _, _, _, _ => none
  | k + 1, x6, x24, x25, x26, x178000, x178001 => if x26 < x25 then (if 0 ≤ x26 then (if x26 < (x24.length : Int) then (if x6 = 0 then (none) else (if x178001.length < 17592186044416 then (impl_toldVec.l0 k x6 x24 x25 (wrap64 (x26 + 1)) x178000 (x178001 ++ [wrap64 (Int.tdiv (rd x24 x26) x6)])) else (none))) else (none)) else (none)) else ((impl_isVec.f k x178000 x178001).bind fun t182 => (if t182 = true then (some (x178000, x178001, true)) else (some (0, ([] : List Int), false))))
end
def impl_toldVec.f (k : Nat) (l0 : List Int) (a1 : Int) : Option (Int × List Int × Bool) := (impl_commonOf.f k a1 l0).bind fun t176 => (if ((decide (t176 < 0)) != (decide (a1 < 0))) = true then (impl_toldVec.j0 k l0 a1 (wrap64 (-t176))) else (impl_toldVec.j0 k l0 a1 t176))
theorem impl_toldVec.mono_l : ∀ k, (∀ y0 y1 y2, LeO (impl_toldVec.j0 k y0 y1 y2) (impl_toldVec.j0 (k + 1) y0 y1 y2)) ∧ (∀ y0 y1 y2 y3 y4 y5, LeO (impl_toldVec.l0 k y0 y1 y2 y3 y4 y5) (impl_toldVec.l0 (k + 1) y0 y1 y2 y3 y4 y5))
  | 0 => ⟨fun _ _ _ r h => by simp [impl_toldVec.j0] at h, fun _ _ _ _ _ _ r h => by simp [impl_toldVec.l0] at h⟩
  | k + 1 => by
    obtain ⟨ih0, ih1⟩ := impl_toldVec.mono_l k
    refine ⟨?_, ?_⟩
    · intro y0 y1 y2
      unfold impl_toldVec.j0
      repeat' first
      | (with_reducible exact ih0 _ _ _)
      | (with_reducible exact ih1 _ _ _ _ _ _)
      | (with_reducible exact impl_commonOf.mono _ _ _)
      | (with_reducible exact impl_isVec.mono _ _ _)
      | (with_reducible exact LeO.refl _)
      | (with_reducible exact LeO.none _)
      | (with_reducible refine LeO.ite ?_ ?_)
      | (with_reducible refine LeO.bind ?_ (fun _ => ?_))
      | exact ih0 _ _ _
      | exact ih1 _ _ _ _ _ _
      | exact impl_commonOf.mono _ _ _
      | exact impl_isVec.mono _ _ _
      | exact LeO.none _
      | refine LeO.ite ?_ ?_
      | refine LeO.bind ?_ (fun _ => ?_)
    · intro y0 y1 y2 y3 y4 y5
      unfold impl_toldVec.l0
      repeat' first
      | (with_reducible exact ih0 _ _ _)
      | (with_reducible exact ih1 _ _ _ _ _ _)
      | (with_reducible exact impl_commonOf.mono _ _ _)
      | (with_reducible exact impl_isVec.mono _ _ _)
      | (with_reducible exact LeO.refl _)
      | (with_reducible exact LeO.none _)
      | (with_reducible refine LeO.ite ?_ ?_)
      | (with_reducible refine LeO.bind ?_ (fun _ => ?_))
      | exact ih0 _ _ _
      | exact ih1 _ _ _ _ _ _
      | exact impl_commonOf.mono _ _ _
      | exact impl_isVec.mono _ _ _
      | exact LeO.none _
      | refine LeO.ite ?_ ?_
      | refine LeO.bind ?_ (fun _ => ?_)
theorem impl_toldVec.mono : ∀ a0 a1 k, LeO (impl_toldVec.f k a0 a1) (impl_toldVec.f (k + 1) a0 a1) := by
  intro a0 a1 k
  obtain ⟨ih0, ih1⟩ := impl_toldVec.mono_l k
  unfold impl_toldVec.f
  repeat' first
      | (with_reducible exact ih0 _ _ _)
      | (with_reducible exact ih1 _ _ _ _ _ _)
      | (with_reducible exact impl_commonOf.mono _ _ _)
      | (with_reducible exact impl_isVec.mono _ _ _)
      | (with_reducible exact LeO.refl _)
      | (with_reducible exact LeO.none _)
      | (with_reducible refine LeO.ite ?_ ?_)
      | (with_reducible refine LeO.bind ?_ (fun _ => ?_))
      | exact ih0 _ _ _
      | exact ih1 _ _ _ _ _ _
      | exact impl_commonOf.mono _ _ _
      | exact impl_isVec.mono _ _ _
      | exact LeO.none _
      | refine LeO.ite ?_ ?_
      | refine LeO.bind ?_ (fun _ => ?_)
def impl_toldVec.T8 : Bool × List (List Nat × List Nat) := (true, [([], []), ([0], [0]), ([], []), ([], []), ([2, 3], [2, 3]), ([4], [4]), ([1, 5], [1, 5]), ([0, 1, 2, 3, 4, 5, 6], []), ([7, 6, 6, 0, 1, 2, 3, 4, 5, 6], [6, 7])])
def impl_toldVec.B8 : List Nat := [0, 1, 0, 0, 12, 28, 63, 127, 255]
theorem impl_toldVec.tab8 : rtab .any (opsOf Try.f51 8) = impl_toldVec.T8 := by kernel_rfl
theorem impl_toldVec.bits8 : waitsOk impl_toldVec.T8.2 impl_toldVec.B8 = true := by kernel_rfl
set_option maxHeartbeats 8000000 in
set_option maxRecDepth 100000 in
theorem impl_toldVec.calls (k : Nat) (A0 : Option Addr) (c0 : Nat) (l0 : List Int) (a1 : Int) (r1 : Int) (r2 : List Int) (r3 : Bool) (w : World) (hr0 : Kd.C (Kd.int .i64) w A0 l0.length l0) (hc0 : l0.length ≤ c0) (h : impl_toldVec.f k l0 a1 = some (r1, r2, r3)) :
    Calls Try.prog 51 #[.slice A0 l0.length c0, .int .i64 a1] w fun e w' => ∃ v1_ : Value, e = .returned (.tuple #[.agg #[.int .i64 r1, v1_], .bool r3]) ∧ Kd.R (Kd.int .i64) 3 w' w.heap.size (fun _ => True) v1_ r2 ∧ Below w.heap.size w w' := by
  have hu27 := Try.underlying27
  have HR0 := Aside0.mk hr0
  have HC0 := Aside0.mk hc0
  clear hr0 hc0
  have HB := Aside0.mk (Below.refl w.heap.size w)
  have H : ((impl_commonOf.f k a1 l0).bind fun t176 => (if ((decide (t176 < 0)) != (decide (a1 < 0))) = true then (impl_toldVec.j0 k l0 a1 (wrap64 (-t176))) else (impl_toldVec.j0 k l0 a1 t176))) = some (r1, r2, r3) := h
  clear h
  replace H := Option.bind_eq_some_iff.mp H
  obtain ⟨t176, A30, H⟩ := H
  replace H : (if ((decide (t176 < 0)) != (decide (a1 < 0))) = true then (impl_toldVec.j0 k l0 a1 (wrap64 (-t176))) else (impl_toldVec.j0 k l0 a1 t176)) = some (r1, r2, r3) := H
  have A3 := Aside0.mk A30
  clear A30
  have HC4 := Aside0.mk H
  clear H
  go_enter Try.func51, Try.ntmps51
  go_upto_if 17 with (first | ((with_reducible refine gate_dst (N := 4) rfl ?_); refine box_event ?hg (N := 4) ?hd (cs := #[.int .i64 0, .slice none 0 0]) (t := 27) ?hr ?_; (case hd => rfl); (case hg => rfl); (case hr => first | (go_simp; done) | (go_simp; rfl)); intro gb175 hg w5 hbox hb; have n0_ := Aside0.mk (below_step (by repeat (first | (with_reducible first | exact HB.out | apply below_alloc | apply pw_below_drewN | apply below_drew1) | exact HB.out)) hb); have n1_ := Aside0.mk (hbox); have n2_ := Aside0.mk ((by rw [hg]; exact (below_size (by repeat (first | (with_reducible first | exact HB.out | apply below_alloc | apply pw_below_drewN | apply below_drew1) | exact HB.out))) : w.heap.size ≤ gb175)); have n3_ := Aside0.mk ((by rw [hg]; exact (below_size (by repeat (first | (with_reducible first | exact HB.out | apply below_alloc | apply pw_below_drewN | apply below_drew1) | exact HB.out))) : w.heap.size ≤ gb175)); clear HB; have HB := n0_; have BK175 := n1_; have GW175 := n2_; have GE175 := n3_; clear n0_ n1_ n2_ n3_; clear hb hbox hg) | ((with_reducible refine gate_callee (f := 68) rfl ?_); refine goesL_ (some 12) rfl rfl Try.func68 (by kernel_rfl) rfl #[.int .i64 a1, .slice A0 l0.length c0] rfl (by (try simp only [List.map_toArray, List.map_cons, List.map_nil]); first | done | rfl | (simp only [List.length_drop, List.length_take]; rfl)) ?_; (with_reducible refine (impl_commonOf.calls k a1 _ _ l0 t176 _ ?side1 ?side2 A3.out).mono ?_); (case side1 => repeat (first | exact (Kd.C_below HR0.out HB.out) | (with_reducible refine Kd.C_alloc ?_ _) | (with_reducible refine Kd.C_drewN ?_ _) | (with_reducible refine Kd.C_drew ?_))); (case side2 => exact HC0.out); rintro e w6 ⟨rfl, hb⟩; refine ⟨_, rfl, ?_⟩; have n0_ := Aside0.mk (blk_below (g := gb175) (o := .cells #[.int .i64 0, .slice none 0 0] 27 (0, 0)) (by (with_reducible repeat (first | refine blk_drewN ?_ _ | refine blk_drew ?_ | refine blk_alloc ?_ _)); exact BK175.out) hb); have n1_ := Aside0.mk (below_step (by repeat (first | (with_reducible first | exact HB.out | apply below_alloc | apply pw_below_drewN | apply below_drew1 | refine below_set ?_ GE175.out) | exact HB.out)) hb); clear BK175; clear HB; have BK175 := n0_; have HB := n1_; clear n0_ n1_; (try clear hb); (try clear hb2); (try clear hk); (try clear hi)))
  (try simp only [Act.put, List.setIfInBounds_toArray, List.set_cons_zero, List.set_cons_succ])
  go_cut [6] (fun v6 wc => ∃ (kq : Nat) (x6_3 : Int), v6 = .int .i64 x6_3 ∧ Aside0 (impl_toldVec.j0 kq l0 a1 x6_3 = some (r1, r2, r3)) ∧ Aside0 (kq ≤ k) ∧ Aside0 (wc.heap[gb175]? = some (.cells #[.int .i64 0, (.slice none 0 0)] 27 (0, 0))) ∧ Aside0 (Below w.heap.size w wc))
  case first =>
    have H := HC4.out
    clear HC4
    by_cases c7 : ((decide (t176 < 0)) != (decide (a1 < 0))) = true
    · rw [if_pos c7] at H
      have c7b0 : ((decide (t176 < 0)) != (decide (a1 < 0))) = true := c7
      (try (have c7b1 : decide ((decide (t176 < 0)) = (decide (a1 < 0))) = false := by simpa using c7))
      (try (have c7b2 : ((decide (t176 < 0)) == (decide (a1 < 0))) = false := by simpa using c7))
      (try (have c7b3 : ¬ ((decide (t176 < 0)) = (decide (a1 < 0))) := by simpa using c7))
      have c7b4 : (!((decide (t176 < 0)) == (decide (a1 < 0)))) = true := c7b0
      clear c7
      (first | rw [c7b4] | rw [c7b0] | (simp only [i64_w, i32_w]; rw [c7b0]) | skip)
      have H' := Aside0.mk H
      clear H
      go_wp2
      go_meet
      case rel => exact ⟨_, (wrap64 (-t176)), (by first | rfl | (simp; done) | (simp [*]; done)), H', ⟨by first | omega | exact Nat.le_refl _⟩, ⟨by (with_reducible repeat (first | refine blk_drewN ?_ _ | refine blk_drew ?_ | refine blk_alloc ?_ _)); exact BK175.out⟩, ⟨by repeat (first | (with_reducible first | exact HB.out | apply below_alloc | apply pw_below_drewN | apply below_drew1 | refine below_set ?_ GE175.out) | exact HB.out)⟩⟩
    · rw [if_neg c7] at H
      have c7b0 : ((decide (t176 < 0)) != (decide (a1 < 0))) = false := by simpa using c7
      (try (have c7b1 : decide ((decide (t176 < 0)) = (decide (a1 < 0))) = true := by simpa using c7))
      (try (have c7b2 : ((decide (t176 < 0)) == (decide (a1 < 0))) = true := by simpa using c7))
      have c7b4 : (!((decide (t176 < 0)) == (decide (a1 < 0)))) = false := c7b0
      clear c7
      (first | rw [c7b4] | rw [c7b0] | (simp only [i64_w, i32_w]; rw [c7b0]) | skip)
      have H' := Aside0.mk H
      clear H
      go_wp2
      go_meet
      case rel => exact ⟨_, (t176), (by first | rfl | (simp; done) | (simp [*]; done)), H', ⟨by first | omega | exact Nat.le_refl _⟩, ⟨by (with_reducible repeat (first | refine blk_drewN ?_ _ | refine blk_drew ?_ | refine blk_alloc ?_ _)); exact BK175.out⟩, ⟨by repeat (first | (with_reducible first | exact HB.out | apply below_alloc | apply pw_below_drewN | apply below_drew1 | refine below_set ?_ GE175.out) | exact HB.out)⟩⟩
  case rest =>
    clear HC4
    try clear p2
    try clear c5
    try clear c6
    try clear p6
    try clear c7
    try clear c7b0
    try clear c7b1
    try clear c7b2
    obtain ⟨kq, x6_3, rfl, HA, HJ3, BK175, HB⟩ := hcut
    cases kq with
    | zero => exact absurd HA.out (by simp [impl_toldVec.j0])
    | succ kj3 =>
      have H := HA.out
      clear HA
      simp only [impl_toldVec.j0] at H
      by_cases c8 : x6_3 = 0
      · rw [if_pos c8] at H
        exact absurd H (by simp)
      · rw [if_neg c8] at H
        have c8b0 : (x6_3 == 0) = false := beq_eq_false_iff_ne.mpr c8
        have c8b1 : (x6_3 != 0) = true := bne_iff_ne.mpr c8
        have H' := Aside0.mk H
        clear H
        go_wp2_with (first | ((with_reducible refine gate_dst (N := 7) rfl ?_); refine box_event ?hg (N := 7) ?hd (cs := #[.int .i64 0, .slice none 0 0]) (t := 27) ?hr ?_; (case hd => rfl); (case hg => rfl); (case hr => first | (go_simp; done) | (go_simp; rfl)); intro gb177 hg w9 hbox hb; have n0_ := Aside0.mk (blk_below (g := gb175) (o := .cells #[.int .i64 0, .slice none 0 0] 27 (0, 0)) (by (with_reducible repeat (first | refine blk_drewN ?_ _ | refine blk_drew ?_ | refine blk_alloc ?_ _)); exact BK175.out) hb); have n1_ := Aside0.mk (below_step (by repeat (first | (with_reducible first | exact HB.out | apply below_alloc | apply pw_below_drewN | apply below_drew1 | refine below_set ?_ GE175.out) | exact HB.out)) hb); have n2_ := Aside0.mk (hbox); have n3_ := Aside0.mk ((by rw [hg]; exact (below_size (by repeat (first | (with_reducible first | exact HB.out | apply below_alloc | apply pw_below_drewN | apply below_drew1 | refine below_set ?_ GE175.out) | exact HB.out))) : w.heap.size ≤ gb177)); have n4_ := Aside0.mk ((by rw [hg]; exact (below_size (by repeat (first | (with_reducible first | exact HB.out | apply below_alloc | apply pw_below_drewN | apply below_drew1 | refine below_set ?_ GE175.out) | exact HB.out))) : w.heap.size ≤ gb177)); have n5_ := Aside0.mk ((by rw [hg]; exact Nat.ne_of_lt (blk_lt (g := gb175) (o := .cells #[.int .i64 0, .slice none 0 0] 27 (0, 0)) (by (with_reducible repeat (first | refine blk_drewN ?_ _ | refine blk_drew ?_ | refine blk_alloc ?_ _)); exact BK175.out)) : gb175 ≠ gb177)); have n6_ := Aside0.mk ((by rw [hg]; exact Nat.ne_of_gt (blk_lt (g := gb175) (o := .cells #[.int .i64 0, .slice none 0 0] 27 (0, 0)) (by (with_reducible repeat (first | refine blk_drewN ?_ _ | refine blk_drew ?_ | refine blk_alloc ?_ _)); exact BK175.out)) : gb177 ≠ gb175)); clear BK175; clear HB; have BK175 := n0_; have HB := n1_; have BK177 := n2_; have GW177 := n3_; have GE177 := n4_; have NB175_177 := n5_; have NB177_175 := n6_; clear n0_ n1_ n2_ n3_ n4_ n5_ n6_; clear hb hbox hg; have hnb10 := NB177_175.out; have hnc10 := NB175_177.out; have hcz11_0 : w9.cell? ⟨gb177, 0, none⟩ = some (.int .i64 0) := (blk_cell BK177.out 0).trans rfl; have hcz11_1 : w9.cell? ⟨gb177, 1, none⟩ = some (.slice none 0 0) := (blk_cell BK177.out 1).trans rfl; have hfz11_0 := blk_frozen BK177.out 0; have hfz11_1 := blk_frozen BK177.out 1))
        go_loopg [26] kj3 (fun kq v26 w' => ∃ (x26_2 : Int) (x178001_2 : List Int) (u178001 : Value), v26 = .int .i64 x26_2 ∧ Aside0 (impl_toldVec.l0 kq x6_3 l0 (l0.length : Int) x26_2 (wrap64 (Int.tdiv a1 x6_3)) x178001_2 = some (r1, r2, r3)) ∧ Aside0 (kq ≤ kj3) ∧ Aside0 (Kd.R (Kd.int .i64) 3 w' w.heap.size (fun _ => True) u178001 x178001_2) ∧ Aside0 (w'.heap[gb175]? = some (.cells #[.int .i64 0, (.slice none 0 0)] 27 (0, 0))) ∧ Aside0 (w'.heap[gb177]? = some (.cells #[.int .i64 (wrap64 (Int.tdiv a1 x6_3)), u178001] 27 (0, 0))) ∧ Aside0 (Below w.heap.size w w'))
        case atStart => exact ⟨(0), (([] : List Int)), (.slice none 0 0), (by first | rfl | (simp; done) | (simp [*]; done)), H', ⟨Nat.le_refl _⟩, ⟨by first | exact Kd.R_nil _ _ _ _ _ | exact Kd.N_nil _ _ _ _ _ | exact Kd.V_nil _ _ _ _ _ | exact Kd.Q_nil _ _ _ _ _ | exact Kd.S_nil _ _ _ _ _⟩, ⟨by (with_reducible repeat (first | refine blk_drewN ?_ _ | refine blk_drew ?_ | refine blk_alloc ?_ _)); refine blk_far ?_ NB175_177.out _; (with_reducible repeat (first | refine blk_drewN ?_ _ | refine blk_drew ?_ | refine blk_alloc ?_ _)); refine blk_far ?_ NB175_177.out _; (with_reducible repeat (first | refine blk_drewN ?_ _ | refine blk_drew ?_ | refine blk_alloc ?_ _)); exact BK175.out⟩, ⟨by (with_reducible repeat (first | refine blk_drewN ?_ _ | refine blk_drew ?_ | refine blk_alloc ?_ _)); refine blk_put (cs := #[.int .i64 (wrap64 (Int.tdiv a1 x6_3)), .slice none 0 0]) ?_ 1 _ rfl; (with_reducible repeat (first | refine blk_drewN ?_ _ | refine blk_drew ?_ | refine blk_alloc ?_ _)); refine blk_put (cs := #[.int .i64 0, .slice none 0 0]) ?_ 0 _ rfl; (with_reducible repeat (first | refine blk_drewN ?_ _ | refine blk_drew ?_ | refine blk_alloc ?_ _)); exact BK177.out⟩, ⟨by repeat (first | (with_reducible first | exact HB.out | apply below_alloc | apply pw_below_drewN | apply below_drew1 | refine below_set ?_ GE175.out | refine below_set ?_ GE177.out) | exact HB.out)⟩⟩
        case round =>
          clear H'
          try clear c1
          try clear p2
          try clear c5
          try clear c6
          try clear p6
          try clear c7
          try clear c7b0
          try clear c7b1
          try clear c7b2
          try clear c8
          try clear c8b0
          try clear c8b1
          try clear c10
          try clear hcz11_0
          try clear hcz11_1
          try clear hfz11_0
          try clear hfz11_1
          try clear p2
          try clear p6
          obtain ⟨x26_2, x178001_2, u178001, rfl, HA, HK2, HO_178001, BK175, BK177, HB⟩ := hrel
          cases gk with
          | zero => exact absurd HA.out (by simp [impl_toldVec.l0])
          | succ k2 =>
            have H := HA.out
            clear HA
            simp only [impl_toldVec.l0] at H
            by_cases c12 : x26_2 < (l0.length : Int)
            · rw [if_pos c12] at H
              have c12b0 : decide (x26_2 < (l0.length : Int)) = true := decide_eq_true c12
              clear c12
              by_cases c13 : 0 ≤ x26_2
              · rw [if_pos c13] at H
                have c13b0 : decide (0 ≤ x26_2) = true := decide_eq_true c13
                clear c13
                by_cases c14 : x26_2 < (l0.length : Int)
                · rw [if_pos c14] at H
                  have c14b0 : decide (x26_2 < (l0.length : Int)) = true := decide_eq_true c14
                  clear c14
                  by_cases c15 : x6_3 = 0
                  · rw [if_pos c15] at H
                    exact absurd H (by simp)
                  · rw [if_neg c15] at H
                    have c15b0 : (x6_3 == 0) = false := beq_eq_false_iff_ne.mpr c15
                    have c15b1 : (x6_3 != 0) = true := bne_iff_ne.mpr c15
                    by_cases c16 : x178001_2.length < 17592186044416
                    · rw [if_pos c16] at H
                      have LMc16 := Aside0.mk c16
                      clear c16
                      obtain ⟨y179, hy179⟩ : ∃ y_ : List Int, y_ = (x178001_2 ++ [wrap64 (Int.tdiv (rd l0 x26_2) x6_3)]) := ⟨_, rfl⟩
                      replace H : (impl_toldVec.l0 k2 x6_3 l0 (l0.length : Int) (wrap64 (x26_2 + 1)) (wrap64 (Int.tdiv a1 x6_3)) y179) = some (r1, r2, r3) := by first | (rw [hy179]; with_reducible exact H) | (have H2_ := (Option.bind_some _ _).symm.trans H; rw [hy179]; with_reducible exact H2_) | (have H2_ := (Option.bind_some _ _).symm.trans H; with_reducible exact H2_) | with_reducible exact H | (rw [hy179]; exact H) | exact H
                      have Ny179 := Aside0.mk hy179
                      clear hy179
                      have H' := Aside0.mk H
                      clear H
                      have p178 : 0 ≤ (x26_2 : Int) := of_decide_eq_true (by first | (with_reducible assumption) | assumption)
                      have q178 : x26_2 < (l0.length : Int) := of_decide_eq_true (by first | (with_reducible assumption) | assumption)
                      obtain ⟨ad178, e178, hx178_0⟩ := Kd.at_int HR0.out x26_2 p178 q178
                      cases e178
                      replace hx178_0 := (HB.out.cell (World.block_lt_of_cell? w _ hx178_0)).trans hx178_0
                      replace p178 := eq_true p178
                      replace q178 := eq_true q178
                      try go_wp2
                      have n0_ := Aside0.mk (Kd.R_drew HO_178001.out)
                      have n1_ := Aside0.mk (blk_drew BK175.out)
                      have n2_ := Aside0.mk (blk_drew BK177.out)
                      have n3_ := Aside0.mk (below_drew1 HB.out)
                      clear HO_178001
                      clear BK175
                      clear BK177
                      clear HB
                      have HO_178001 := n0_
                      have BK175 := n1_
                      have BK177 := n2_
                      have HB := n3_
                      clear n0_ n1_ n2_ n3_
                      refine start_ (n := 9) (S := fun w' => w'.cell? ⟨gb177, 0, none⟩ = some (.int .i64 (wrap64 (Int.tdiv a1 x6_3))) ∧ w'.cell? ⟨gb177, 1, none⟩ = some (u178001)) (ds := [8]) #[false, false, false, false, false, false, false, false, false] (by kernel_rfl) rfl rfl ⟨(blk_cell BK177.out 0).trans rfl, (blk_cell BK177.out 1).trans rfl⟩ (fun hHeld => ?_); refine with_tabW impl_toldVec.tab8 impl_toldVec.bits8 (fun HT_ HW_ => ?_)
                      generalize wr.drew = w17 at HO_178001 BK175 BK177 HB hHeld ⊢
                      refine pure_ (i := 0) (N := some 30) (v := ?_) (a' := ?_) #[true, false, false, false, false, false, false, false, false] rfl rfl (any_of HT_.out (by kernel_rfl)) (fun _ _ _ h => h) (Or.inl ⟨by rfl, ?_⟩) ?_ ?_
                      rotate_left
                      · intro w'
                        go_simp
                        with_reducible rfl
                      rotate_left
                      · simp only [Act.put, List.setIfInBounds_toArray, List.set_cons_zero, List.set_cons_succ, i64_w, i32_w]
                        rfl
                      refine pure_ (i := 2) (N := some 32) (v := ?_) (a' := ?_) #[true, false, true, false, false, false, false, false, false] rfl rfl (any_of HT_.out (by kernel_rfl)) (fun _ _ _ h => h) (Or.inl ⟨by rfl, ?_⟩) ?_ ?_
                      rotate_left
                      · intro w'
                        go_simp
                        with_reducible rfl
                      rotate_left
                      · simp only [Act.put, List.setIfInBounds_toArray, List.set_cons_zero, List.set_cons_succ, i64_w, i32_w]
                        rfl
                      refine pure_ (i := 3) (N := some 33) (v := ?_) (a' := ?_) #[true, false, true, true, false, false, false, false, false] rfl rfl (any_of HT_.out (by kernel_rfl)) (fun _ _ _ h => h) (Or.inl ⟨by rfl, ?_⟩) ?_ ?_
                      rotate_left
                      · intro w'
                        go_simp
                        with_reducible rfl
                      rotate_left
                      · simp only [Act.put, List.setIfInBounds_toArray, List.set_cons_zero, List.set_cons_succ, i64_w, i32_w]
                        rfl
                      refine pure_ (i := 4) (N := some 34) (v := ?_) (a' := ?_) #[true, false, true, true, true, false, false, false, false] rfl rfl (any_of HT_.out (by kernel_rfl)) (fun _ _ _ h => h) (Or.inl ⟨by rfl, ?_⟩) ?_ ?_
                      rotate_left
                      · intro w'
                        go_simp
                        with_reducible rfl
                      rotate_left
                      · simp only [Act.put, List.setIfInBounds_toArray, List.set_cons_zero, List.set_cons_succ, i64_w, i32_w]
                        rfl
                      refine take_ (i := 1) (N := some 31) (v := ?_) (a' := ?_) #[true, true, true, true, true, false, false, false, false] rfl rfl (take_ofW HT_.out HW_.out (by kernel_rfl)) (fun _ _ _ h => h) (Or.inl ⟨by rfl, ?_⟩) hHeld ?_ ?_
                      rotate_left
                      · rintro w' ⟨s0, s1⟩
                        go_simp
                        with_reducible rfl
                      rotate_left
                      · simp only [Act.put, List.setIfInBounds_toArray, List.set_cons_zero, List.set_cons_succ, i64_w, i32_w]
                        rfl
                      refine one_ (i := 5) (N := some 35) #[true, true, true, true, true, true, false, false, false] rfl rfl (one_of HT_.out (by kernel_rfl)) (by decide) (fun K hK => ?_)
                      refine value_ (w1 := ?_) (v := ?_) (by rfl) rfl ?_ ?_
                      rotate_left 2
                      · go_simp
                        constructor
                        · rfl
                        · rfl
                      refine hK.out _ _ ⟨(blk_cell (blk_alloc BK177.out _) 0).trans rfl, (blk_cell (blk_alloc BK177.out _) 1).trans rfl⟩ (fun hHeld => ?_)
                      clear hK K
                      refine norm_ (a' := ?_) ?_ ?_
                      rotate_left
                      · show Act.put _ (some 35) _ = _
                        simp only [Act.put, List.setIfInBounds_toArray, List.set_cons_zero, List.set_cons_succ, i64_w, i32_w]
                        rfl
                      refine one_ (i := 6) (N := some 36) #[true, true, true, true, true, true, true, false, false] rfl rfl (one_of HT_.out (by kernel_rfl)) (by decide) (fun K hK => ?_)
                      refine Kd.R_append_step (Kd.int .i64) (w0 := w) w.heap.size (by rfl) (.tmp 31) (.tmp 35) 22 3 (.int .i64 0) 8 rfl Try.underlying22 info3 rfl (by decide) (by omega) u178001 x178001_2 (wrap64 (Int.tdiv (rd l0 x26_2) x6_3)) [.int .i64 (wrap64 (Int.tdiv (rd l0 x26_2) x6_3))] (fun _ => True) (fun _ => False) rfl rfl ?aP (fun _ hk => hk.elim) ?aF ?aO ?aB ?aS ?aL ?_
                      (case aP => exact rfl)
                      (case aB => exact (by repeat (first | (with_reducible first | exact HB.out | apply below_alloc | apply pw_below_drewN | apply below_drew1 | refine below_set ?_ GE175.out | refine below_set ?_ GE177.out) | exact HB.out)))
                      (case aF => exact (fun _ _ => trivial))
                      (case aO => exact (by (with_reducible repeat (first | apply Kd.R_alloc | apply Kd.R_drewN | apply Kd.R_drew)); exact HO_178001.out))
                      (case aS => exact (below_size (by repeat (first | (with_reducible first | exact HB.out | apply below_alloc | apply pw_below_drewN | apply below_drew1 | refine below_set ?_ GE175.out | refine below_set ?_ GE177.out) | exact HB.out))))
                      (case aL => have := LMc16.out; omega)
                      intro v180 w18 ho hb hg hat
                      rw [← Ny179.out] at ho
                      have n0_ := Aside0.mk (blk_grown (g := gb175) (o := .cells #[.int .i64 0, .slice none 0 0] 27 (0, 0)) (by (with_reducible repeat (first | refine blk_drewN ?_ _ | refine blk_drew ?_ | refine blk_alloc ?_ _)); exact BK175.out) hg (Kd.R_ne HO_178001.out BK175.out (by decide)))
                      have n1_ := Aside0.mk (blk_grown (g := gb177) (o := .cells #[.int .i64 (wrap64 (Int.tdiv a1 x6_3)), u178001] 27 (0, 0)) (by (with_reducible repeat (first | refine blk_drewN ?_ _ | refine blk_drew ?_ | refine blk_alloc ?_ _)); exact BK177.out) hg (Kd.R_ne HO_178001.out BK177.out (by decide)))
                      have n2_ := Aside0.mk (hb)
                      have n3_ := Aside0.mk (ho)
                      clear BK175
                      clear BK177
                      clear HB
                      clear HO_178001
                      have BK175 := n0_
                      have BK177 := n1_
                      have HB := n2_
                      have HO181 := n3_
                      clear n0_ n1_ n2_ n3_
                      clear ho hb hg hat
                      obtain ⟨Ao19, co19, eo19⟩ := Kd.R_slice HO181.out
                      (first | subst eo19 | (injection eo19 with f1_ f2_ f3_; have f4_ := f1_.symm; have f5_ := f3_.symm; clear f1_ f2_ f3_; subst f4_; subst f5_))
                      refine hK.out _ _ ⟨(blk_cell BK177.out 0).trans rfl, (blk_cell BK177.out 1).trans rfl⟩ (fun hHeld => ?_)
                      clear hK K
                      refine norm_ (a' := ?_) ?_ ?_
                      rotate_left
                      · show Act.put _ (some 36) _ = _
                        simp only [Act.put, List.setIfInBounds_toArray, List.set_cons_zero, List.set_cons_succ, i64_w, i32_w]
                        rfl
                      refine pure_ (i := 7) (N := some 37) (v := ?_) (a' := ?_) #[true, true, true, true, true, true, true, true, false] rfl rfl (any_of HT_.out (by kernel_rfl)) (fun _ _ _ h => h) (Or.inl ⟨by rfl, ?_⟩) ?_ ?_
                      rotate_left
                      · intro w'
                        go_simp
                        with_reducible rfl
                      rotate_left
                      · simp only [Act.put, List.setIfInBounds_toArray, List.set_cons_zero, List.set_cons_succ, i64_w, i32_w]
                        rfl
                      refine last_ (i := 8) (N := none) #[true, true, true, true, true, true, true, true, true] rfl rfl (one_of HT_.out (by kernel_rfl)) (by decide) (fun K hK => ?_)
                      have hs20 : w18.cell? ⟨gb177, 1, none⟩ = some (u178001) := (blk_cell BK177.out 1).trans rfl
                      have hfs20 := blk_frozen BK177.out 1
                      have hns20_0 := NB175_177.out
                      have hms20_0 := NB177_175.out
                      refine skip_ (w1 := ?_) (by rfl) rfl ?_ ?_
                      rotate_left
                      · go_simp
                        rfl
                      refine hK.out _ _ ?_
                      clear hK K
                      refine done_ (done_of HT_.out (by kernel_rfl)) ?_
                      try go_wp2
                      go_roundg k2
                      case measure => have := HJ3.out; have := HK2.out; omega
                      case rel => exact ⟨(wrap64 (x26_2 + 1)), (y179), (.slice Ao19 y179.length co19), (by first | rfl | (simp; done) | (simp [*]; done)), H', ⟨by have := HJ3.out; have := HK2.out; omega⟩, ⟨by (with_reducible repeat (first | apply Kd.R_alloc | apply Kd.R_drewN | apply Kd.R_drew)); exact Kd.R_mono (Kd.R_far (p := ⟨gb177, 1, none⟩) (Kd.R_types HO181.out BK177.out (by decide)) (fun _ hk => hk.2) (.slice Ao19 y179.length co19)) (fun _ hk => trivial)⟩, ⟨by (with_reducible repeat (first | refine blk_drewN ?_ _ | refine blk_drew ?_ | refine blk_alloc ?_ _)); refine blk_far ?_ NB175_177.out _; (with_reducible repeat (first | refine blk_drewN ?_ _ | refine blk_drew ?_ | refine blk_alloc ?_ _)); exact BK175.out⟩, ⟨by (with_reducible repeat (first | refine blk_drewN ?_ _ | refine blk_drew ?_ | refine blk_alloc ?_ _)); refine blk_put (cs := #[.int .i64 (wrap64 (Int.tdiv a1 x6_3)), u178001]) ?_ 1 _ rfl; (with_reducible repeat (first | refine blk_drewN ?_ _ | refine blk_drew ?_ | refine blk_alloc ?_ _)); exact BK177.out⟩, ⟨by repeat (first | (with_reducible first | exact HB.out | apply below_alloc | apply pw_below_drewN | apply below_drew1 | refine below_set ?_ GE175.out | refine below_set ?_ GE177.out) | exact HB.out)⟩⟩
                    · rw [if_neg c16] at H
                      exact absurd H (by simp)
                · rw [if_neg c14] at H
                  exact absurd H (by simp)
              · rw [if_neg c13] at H
                exact absurd H (by simp)
            · rw [if_neg c12] at H
              have c12b0 : decide (x26_2 < (l0.length : Int)) = false := decide_eq_false c12
              clear c12
              replace H := Option.bind_eq_some_iff.mp H
              obtain ⟨t182, A210, H⟩ := H
              replace H : (if t182 = true then (some ((wrap64 (Int.tdiv a1 x6_3)), x178001_2, true)) else (some (0, ([] : List Int), false))) = some (r1, r2, r3) := H
              have A21 := Aside0.mk A210
              clear A210
              by_cases c22 : t182 = true
              · subst c22
                have H1 : (some ((wrap64 (Int.tdiv a1 x6_3)), x178001_2, true)) = some (r1, r2, r3) := by rw [if_pos rfl] at H; exact H
                clear H
                have H := H1
                clear H1
                simp only [Option.some.injEq, Prod.mk.injEq] at H
                obtain ⟨rfl, rfl, rfl⟩ := H
                have hnb23 := NB177_175.out
                have hnc23 := NB175_177.out
                have hcz24_0 : wr.cell? ⟨gb177, 0, none⟩ = some (.int .i64 (wrap64 (Int.tdiv a1 x6_3))) := (blk_cell BK177.out 0).trans rfl
                have hcz24_1 : wr.cell? ⟨gb177, 1, none⟩ = some (u178001) := (blk_cell BK177.out 1).trans rfl
                have hfz24_0 := blk_frozen BK177.out 0
                have hfz24_1 := blk_frozen BK177.out 1
                obtain ⟨Ao25, co25, eo25⟩ := Kd.R_slice HO_178001.out
                subst eo25
                go_wp2_with (first | ((with_reducible refine gate_callee (f := 44) rfl ?_); refine goesL_ (some 40) rfl rfl Try.func44 (by kernel_rfl) rfl #[.agg #[.int .i64 (wrap64 (Int.tdiv a1 x6_3)), .slice Ao25 x178001_2.length co25]] rfl (by (try simp only [List.map_toArray, List.map_cons, List.map_nil]); first | done | rfl | (simp only [List.length_drop, List.length_take]; rfl)) ?_; (with_reducible refine (impl_isVec.calls k2 (wrap64 (Int.tdiv a1 x6_3)) _ _ x178001_2 true _ ?side1 ?side2 A21.out).mono ?_); (case side1 => repeat (first | exact (Kd.R_reads' HO_178001.out).2.2 | (with_reducible refine Kd.C_alloc ?_ _) | (with_reducible refine Kd.C_drewN ?_ _) | (with_reducible refine Kd.C_drew ?_))); (case side2 => exact (Kd.R_reads' HO_178001.out).2.1); rintro e w26 ⟨rfl, hb⟩; refine ⟨_, rfl, ?_⟩; have n0_ := Aside0.mk (Kd.R_below (by (with_reducible repeat (first | apply Kd.R_alloc | apply Kd.R_drewN | apply Kd.R_drew)); exact HO_178001.out) hb); have n1_ := Aside0.mk (blk_below (g := gb175) (o := .cells #[.int .i64 0, .slice none 0 0] 27 (0, 0)) (by (with_reducible repeat (first | refine blk_drewN ?_ _ | refine blk_drew ?_ | refine blk_alloc ?_ _)); exact BK175.out) hb); have n2_ := Aside0.mk (blk_below (g := gb177) (o := .cells #[.int .i64 (wrap64 (Int.tdiv a1 x6_3)), .slice Ao25 x178001_2.length co25] 27 (0, 0)) (by (with_reducible repeat (first | refine blk_drewN ?_ _ | refine blk_drew ?_ | refine blk_alloc ?_ _)); exact BK177.out) hb); have n3_ := Aside0.mk (below_step (by repeat (first | (with_reducible first | exact HB.out | apply below_alloc | apply pw_below_drewN | apply below_drew1 | refine below_set ?_ GE175.out | refine below_set ?_ GE177.out) | exact HB.out)) hb); clear HO_178001; clear BK175; clear BK177; clear HB; have HO_178001 := n0_; have BK175 := n1_; have BK177 := n2_; have HB := n3_; clear n0_ n1_ n2_ n3_; (try clear hb); (try clear hb2); (try clear hk); (try clear hi); have hcz27_0 : w26.cell? ⟨gb177, 0, none⟩ = some (.int .i64 (wrap64 (Int.tdiv a1 x6_3))) := (blk_cell BK177.out 0).trans rfl; have hcz27_1 : w26.cell? ⟨gb177, 1, none⟩ = some (.slice Ao25 x178001_2.length co25) := (blk_cell BK177.out 1).trans rfl; have hfz27_0 := blk_frozen BK177.out 0; have hfz27_1 := blk_frozen BK177.out 1; have hcz28_0 : w26.cell? ⟨gb175, 0, none⟩ = some (.int .i64 0) := (blk_cell BK175.out 0).trans rfl; have hcz28_1 : w26.cell? ⟨gb175, 1, none⟩ = some (.slice none 0 0) := (blk_cell BK175.out 1).trans rfl; have hfz28_0 := blk_frozen BK175.out 0; have hfz28_1 := blk_frozen BK175.out 1))
                refine bodyPost_ret (results_ct rfl _ _ gb175 27 #[.int .i64 (wrap64 (Int.tdiv a1 x6_3)), .slice Ao25 x178001_2.length co25] (0, 0) _ rfl (by (with_reducible repeat (first | refine blk_drewN ?_ _ | refine blk_drew ?_ | refine blk_alloc ?_ _)); refine blk_put (cs := #[.int .i64 (wrap64 (Int.tdiv a1 x6_3)), .slice none 0 0]) ?_ 1 _ rfl; (with_reducible repeat (first | refine blk_drewN ?_ _ | refine blk_drew ?_ | refine blk_alloc ?_ _)); refine blk_put (cs := #[.int .i64 0, .slice none 0 0]) ?_ 0 _ rfl; (with_reducible repeat (first | refine blk_drewN ?_ _ | refine blk_drew ?_ | refine blk_alloc ?_ _)); exact BK175.out) Try.underlying27 rfl (by kernel_rfl)) rfl ?_
                exact ⟨_, by first | rfl | (simp [errW_none, errW_some] <;> rfl) | (simp [*, errW_none, errW_some] <;> rfl), by (with_reducible repeat (first | apply Kd.R_alloc | apply Kd.R_drewN | apply Kd.R_drew)); exact Kd.R_mono (Kd.R_far (p := ⟨gb175, 1, none⟩) (Kd.R_far (p := ⟨gb175, 0, none⟩) (Kd.R_types HO_178001.out BK175.out (by decide)) (fun _ hk => hk.2) (.int .i64 (wrap64 (Int.tdiv a1 x6_3)))) (fun _ hk => hk.2) (.slice Ao25 x178001_2.length co25)) (fun _ hk => trivial), by repeat (first | (with_reducible first | exact HB.out | apply below_alloc | apply pw_below_drewN | apply below_drew1 | refine below_set ?_ GE175.out | refine below_set ?_ GE177.out) | exact HB.out)⟩
              · replace c22 := Bool.eq_false_iff.mpr c22
                subst c22
                have H1 : (some (0, ([] : List Int), false)) = some (r1, r2, r3) := by rw [if_neg (show ¬ (false = true) by decide)] at H; exact H
                clear H
                have H := H1
                clear H1
                simp only [Option.some.injEq, Prod.mk.injEq] at H
                obtain ⟨rfl, rfl, rfl⟩ := H
                have hnb29 := NB177_175.out
                have hnc29 := NB175_177.out
                have hcz30_0 : wr.cell? ⟨gb177, 0, none⟩ = some (.int .i64 (wrap64 (Int.tdiv a1 x6_3))) := (blk_cell BK177.out 0).trans rfl
                have hcz30_1 : wr.cell? ⟨gb177, 1, none⟩ = some (u178001) := (blk_cell BK177.out 1).trans rfl
                have hfz30_0 := blk_frozen BK177.out 0
                have hfz30_1 := blk_frozen BK177.out 1
                obtain ⟨Ao31, co31, eo31⟩ := Kd.R_slice HO_178001.out
                subst eo31
                go_wp2_with (first | ((with_reducible refine gate_callee (f := 44) rfl ?_); refine goesL_ (some 40) rfl rfl Try.func44 (by kernel_rfl) rfl #[.agg #[.int .i64 (wrap64 (Int.tdiv a1 x6_3)), .slice Ao31 x178001_2.length co31]] rfl (by (try simp only [List.map_toArray, List.map_cons, List.map_nil]); first | done | rfl | (simp only [List.length_drop, List.length_take]; rfl)) ?_; (with_reducible refine (impl_isVec.calls k2 (wrap64 (Int.tdiv a1 x6_3)) _ _ x178001_2 false _ ?side1 ?side2 A21.out).mono ?_); (case side1 => repeat (first | exact (Kd.R_reads' HO_178001.out).2.2 | (with_reducible refine Kd.C_alloc ?_ _) | (with_reducible refine Kd.C_drewN ?_ _) | (with_reducible refine Kd.C_drew ?_))); (case side2 => exact (Kd.R_reads' HO_178001.out).2.1); rintro e w32 ⟨rfl, hb⟩; refine ⟨_, rfl, ?_⟩; have n0_ := Aside0.mk (Kd.R_below (by (with_reducible repeat (first | apply Kd.R_alloc | apply Kd.R_drewN | apply Kd.R_drew)); exact HO_178001.out) hb); have n1_ := Aside0.mk (blk_below (g := gb175) (o := .cells #[.int .i64 0, .slice none 0 0] 27 (0, 0)) (by (with_reducible repeat (first | refine blk_drewN ?_ _ | refine blk_drew ?_ | refine blk_alloc ?_ _)); exact BK175.out) hb); have n2_ := Aside0.mk (blk_below (g := gb177) (o := .cells #[.int .i64 (wrap64 (Int.tdiv a1 x6_3)), .slice Ao31 x178001_2.length co31] 27 (0, 0)) (by (with_reducible repeat (first | refine blk_drewN ?_ _ | refine blk_drew ?_ | refine blk_alloc ?_ _)); exact BK177.out) hb); have n3_ := Aside0.mk (below_step (by repeat (first | (with_reducible first | exact HB.out | apply below_alloc | apply pw_below_drewN | apply below_drew1 | refine below_set ?_ GE175.out | refine below_set ?_ GE177.out) | exact HB.out)) hb); clear HO_178001; clear BK175; clear BK177; clear HB; have HO_178001 := n0_; have BK175 := n1_; have BK177 := n2_; have HB := n3_; clear n0_ n1_ n2_ n3_; (try clear hb); (try clear hb2); (try clear hk); (try clear hi); have hcz33_0 : w32.cell? ⟨gb175, 0, none⟩ = some (.int .i64 0) := (blk_cell BK175.out 0).trans rfl; have hcz33_1 : w32.cell? ⟨gb175, 1, none⟩ = some (.slice none 0 0) := (blk_cell BK175.out 1).trans rfl; have hfz33_0 := blk_frozen BK175.out 0; have hfz33_1 := blk_frozen BK175.out 1))
                refine bodyPost_ret (results_ct rfl _ _ gb175 27 #[.int .i64 0, .slice none 0 0] (0, 0) _ rfl (by (with_reducible repeat (first | refine blk_drewN ?_ _ | refine blk_drew ?_ | refine blk_alloc ?_ _)); refine blk_put (cs := #[.int .i64 0, .slice none 0 0]) ?_ 1 _ rfl; (with_reducible repeat (first | refine blk_drewN ?_ _ | refine blk_drew ?_ | refine blk_alloc ?_ _)); refine blk_put (cs := #[.int .i64 0, .slice none 0 0]) ?_ 0 _ rfl; (with_reducible repeat (first | refine blk_drewN ?_ _ | refine blk_drew ?_ | refine blk_alloc ?_ _)); exact BK175.out) Try.underlying27 rfl (by kernel_rfl)) rfl ?_
                exact ⟨_, by first | rfl | (simp [errW_none, errW_some] <;> rfl) | (simp [*, errW_none, errW_some] <;> rfl), by first | exact Kd.R_nil _ _ _ _ _ | exact Kd.N_nil _ _ _ _ _ | exact Kd.V_nil _ _ _ _ _ | exact Kd.Q_nil _ _ _ _ _ | exact Kd.S_nil _ _ _ _ _, by repeat (first | (with_reducible first | exact HB.out | apply below_alloc | apply pw_below_drewN | apply below_drew1 | refine below_set ?_ GE175.out | refine below_set ?_ GE177.out) | exact HB.out)⟩

end Go.Proofs.Ytjdndacollpjkaa.MFnExactVecAdd
