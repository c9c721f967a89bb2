/- VecAdd and VecScale answer as the reference at the drawn vectors; a sum is the same both ways round; what a fraction scales, its inverse scales back. -/
import Derived.Test.YtjdndacollpjkaaMFnVecx10
namespace Go.Proofs.Ytjdndacollpjkaa.Pure
set_option linter.unusedVariables false
set_option linter.unusedSimpArgs false
open Go.RowKit Go.Proofs.Ytjdndacollpjkaa.MFnVec Go.Proofs.YtjdndacollpjkaaW.PrintWords Go.Proofs.YtjdndacollpjkaaW.PrintLast
namespace AFnVec

theorem wr {x : Int} (h1 : -9223372036854775808 ≤ x) (h2 : x ≤ 9223372036854775807) : wrap64 x = x := by
  unfold wrap64; omega

def smB (n : Int) : Bool := decide (-1000000000 ≤ n ∧ n ≤ 1000000000)
theorem smB_iff {n : Int} : smB n = true ↔ -1000000000 ≤ n ∧ n ≤ 1000000000 := by unfold smB; simp

theorem gcd_step (a b : Int) : (Int.gcd b (Int.tmod a b) : Int) = Int.gcd a b := by
  unfold Int.gcd
  rw [Int.natAbs_tmod, Nat.gcd_comm, ← Nat.gcd_rec, Nat.gcd_comm]
theorem gcd_nought (a : Int) : (Int.gcd a 0 : Int) = if a < 0 then -a else a := by
  rw [Int.gcd_zero_right]; split <;> omega

theorem small_eq (n : Int) : spec_l01Small.f n = some (smB n) := by
  unfold spec_l01Small.f spec_l01In.f smB
  by_cases h : -1000000000 ≤ n
  · rw [if_pos h]; simp [h]
  · rw [if_neg h]; simp [h]
theorem abs_eq {n : Int} (h : -9223372036854775808 < n) (h2 : n ≤ 9223372036854775807) : spec_l01Abs.f n = some (n.natAbs : Int) := by
  unfold spec_l01Abs.f
  split
  · rw [wr (by omega) (by omega)]; congr 1; omega
  · congr 1; omega
theorem gcdSpec_loop (d : Nat) : ∀ (k : Nat) (a b : Int), 0 ≤ a → 0 ≤ b → b.toNat ≤ d → d < k → spec_Gcd.l0 k a b = some (Int.gcd a b : Int) := by
  induction d with
  | zero =>
    intro k a b ha hb hd hk
    obtain ⟨k, rfl⟩ : ∃ m, k = m + 1 := ⟨k - 1, by omega⟩
    obtain rfl : b = 0 := by omega
    simp only [spec_Gcd.l0]
    rw [if_neg (by omega), gcd_nought, if_neg (by omega)]
  | succ d ih =>
    intro k a b ha hb hd hk
    obtain ⟨k, rfl⟩ : ∃ m, k = m + 1 := ⟨k - 1, by omega⟩
    simp only [spec_Gcd.l0]
    by_cases hz : b = 0
    · subst hz
      rw [if_neg (by omega), gcd_nought, if_neg (by omega)]
    · rw [if_pos (by omega), if_neg hz]
      have h1 : Int.tmod a b = a % b := Int.tmod_eq_emod_of_nonneg ha
      have h2 : 0 ≤ a % b := Int.emod_nonneg _ hz
      have h3 : a % b < b := Int.emod_lt_of_pos _ (by omega)
      rw [ih k b _ hb (by omega) (by omega) (by omega), gcd_step]
theorem gcdSpec_eq (k : Nat) (a b : Int) (hk : b.natAbs + 2 ≤ k) : spec_Gcd.f k a b = some (if (smB a && smB b) = true then (Int.gcd a b : Int) else 0) := by
  obtain ⟨k, rfl⟩ : ∃ m, k = m + 1 := ⟨k - 1, by omega⟩
  unfold spec_Gcd.f
  rw [small_eq, small_eq]
  cases ha : smB a
  · simp [spec_Gcd.j0]
  · cases hb : smB b
    · simp [spec_Gcd.j0]
    · have ha := smB_iff.1 ha
      have hb := smB_iff.1 hb
      simp only [Option.bind_some, if_true, Bool.not_true, Bool.and_self, spec_Gcd.j0, Bool.false_eq_true, if_false]
      rw [abs_eq (by omega) (by omega), abs_eq (by omega) (by omega)]
      simp only [Option.bind_some]
      rw [gcdSpec_loop b.natAbs k _ _ (by omega) (by omega) (by omega) (by omega)]
      simp [Int.gcd]

theorem isSmall_eq (n : Int) : impl_isSmall.f n = some (smB n) := by
  unfold impl_isSmall.f smB
  by_cases h : -1000000000 ≤ n
  · rw [if_pos h]; simp [h]
  · rw [if_neg h]; simp [h]

theorem rd_at {xs : List Int} {i : Nat} (h : i < xs.length) : rd xs (i : Int) = xs[i] := by
  unfold rd; simp [List.getD, List.getElem?_eq_getElem h]

theorem in_far (x : Int) : spec_l01In.f x (-100000) 100000 = some (!(hv_far x)) := by
  unfold spec_l01In.f hv_far
  by_cases h : -100000 ≤ x
  · rw [if_pos h]
    have : decide (x < -100000) = false := by simp; omega
    rw [this, Bool.false_or]
    congr 1
    by_cases h2 : x ≤ 100000
    · simp [h2]
    · simp [h2]; omega
  · rw [if_neg h]
    have : decide (x < -100000) = true := by simp; omega
    rw [this]; rfl
theorem far_not {x : Int} (h : hv_far x = false) : -100000 ≤ x ∧ x ≤ 100000 := by
  unfold hv_far at h; simp at h; omega
theorem gcd_le {g x M : Int} (h0 : 0 ≤ g) (h1 : g ≤ M) (hx : x.natAbs ≤ M.natAbs) (hM : 0 ≤ M) : (Int.gcd g x : Int) ≤ M := by
  by_cases hz : x = 0
  · rw [hz, Int.gcd_zero_right]; omega
  · have := Nat.le_of_dvd (by omega) (Nat.gcd_dvd_right g.natAbs x.natAbs)
    have e : Int.gcd g x = Nat.gcd g.natAbs x.natAbs := rfl
    omega
theorem vok_loop (l : List Int) (hl : l.length ≤ 1000000) (n : Nat) : ∀ (k i : Nat) (g d : Int), 0 ≤ g → g ≤ 100000 → i + n = l.length → n + 2000010 ≤ k →
    spec_VecOk.l0 k g (i : Int) d l = some (!((l.drop i).any hv_far) && decide (hv_common g (l.drop i) = 1)) := by
  induction n with
  | zero =>
    intro k i g d h0 h1 hi hk
    obtain ⟨k, rfl⟩ : ∃ m, k = m + 1 := ⟨k - 1, by omega⟩
    simp only [spec_VecOk.l0]
    rw [if_neg (by omega), List.drop_eq_nil_of_le (by omega)]
    have e : hv_common g [] = g := rfl
    have e2 : (g == 1) = decide (g = 1) := by rw [Bool.eq_iff_iff]; simp
    rw [e, e2]; rfl
  | succ n ih =>
    intro k i g d h0 h1 hi hk
    obtain ⟨k, rfl⟩ : ∃ m, k = m + 1 := ⟨k - 1, by omega⟩
    have hx : i < l.length := by omega
    simp only [spec_VecOk.l0]
    rw [if_pos (by omega), if_pos (by omega), rd_at hx, in_far, List.drop_eq_getElem_cons hx]
    simp only [Option.bind_some, List.any_cons]
    generalize hv : l[i] = x
    cases hf : hv_far x
    · obtain ⟨b1, b2⟩ := far_not hf
      have ha : smB g = true := smB_iff.2 ⟨by omega, by omega⟩
      have hb : smB x = true := smB_iff.2 ⟨by omega, by omega⟩
      simp only [Bool.not_false, if_true, Bool.false_or]
      rw [gcdSpec_eq k g x (by omega), ha, hb]
      simp only [Bool.and_self, if_true, Option.bind_some]
      rw [wr (by omega) (by omega)]
      have e := ih k (i + 1) (Int.gcd g x : Int) d (by omega) (gcd_le h0 h1 (by omega) (by omega)) (by omega) (by omega)
      rw [Int.natCast_add] at e
      have e' : spec_VecOk.l0 k (Int.gcd g x : Int) ((i : Int) + 1) d l = _ := e
      rw [e']
      have e2 : hv_common g (x :: l.drop (i + 1)) = hv_common (Int.gcd g x : Int) (l.drop (i + 1)) := rfl
      rw [e2]
    · simp
theorem vok_eq (k : Nat) (d : Int) (l : List Int) (hl : l.length ≤ 1000000) (hk : 4000000 ≤ k) : spec_VecOk.f k d l = some (hv_okB d l) := by
  obtain ⟨k, rfl⟩ : ∃ m, k = m + 1 := ⟨k - 1, by omega⟩
  unfold spec_VecOk.f hv_okB
  by_cases h8 : (l.length : Int) > 8
  · have e : decide (l.length ≤ 8 ∧ 1 ≤ d ∧ d ≤ 720) = false := by simp; omega
    rw [if_pos h8, e]
    simp [spec_VecOk.j0]
  · rw [if_neg h8]
    unfold spec_l01In.f
    by_cases h1 : 1 ≤ d
    · by_cases h2 : d ≤ 720
      · have e : decide (l.length ≤ 8 ∧ 1 ≤ d ∧ d ≤ 720) = true := by simp; omega
        rw [if_pos h1, e]
        have hv := vok_loop l hl l.length k 0 d d (by omega) (by omega) (by omega) (by omega)
        have hv' : spec_VecOk.l0 k d 0 d l = _ := hv
        simp only [h2, decide_true, Option.bind_some, Bool.not_true, spec_VecOk.j0, Bool.false_eq_true, if_false, hv']
        simp
      · have e : decide (l.length ≤ 8 ∧ 1 ≤ d ∧ d ≤ 720) = false := by simp; omega
        rw [if_pos h1, e]
        simp [h2, spec_VecOk.j0]
    · have e : decide (l.length ≤ 8 ∧ 1 ≤ d ∧ d ≤ 720) = false := by simp; omega
      rw [if_neg h1, e]
      simp [spec_VecOk.j0]
theorem isVec_eq (k : Nat) (d : Int) (l : List Int) : impl_isVec.f k d l = some (hv_okB d l) := rfl

theorem vok_any (k : Nat) (d : Int) (l : List Int) (hk : 4000000 ≤ k) : spec_VecOk.f k d l = some (hv_okB d l) := by
  by_cases hl2 : l.length ≤ 1000000
  · exact vok_eq k d l hl2 hk
  · have e : hv_okB d l = false := by unfold hv_okB; simp; omega
    obtain ⟨k, rfl⟩ : ∃ m, k = m + 1 := ⟨k - 1, by omega⟩
    unfold spec_VecOk.f
    rw [if_pos (by omega), e]
    simp [spec_VecOk.j0]
theorem okB_len {d : Int} {l : List Int} (h : hv_okB d l = true) : l.length ≤ 8 := by
  unfold hv_okB at h; simp at h; omega

theorem okB_in {d : Int} {l : List Int} (h : hv_okB d l = true) : 1 ≤ d ∧ d ≤ 720 ∧ ∀ x ∈ l, -100000 ≤ x ∧ x ≤ 100000 := by
  unfold hv_okB at h
  simp only [Bool.and_eq_true, decide_eq_true_eq, Bool.not_eq_true'] at h
  refine ⟨h.1.1.2.1, h.1.1.2.2, fun x hx => ?_⟩
  have := List.any_eq_false.1 h.1.2 x hx
  exact far_not (by simpa using this)
theorem mul_in {x y a b : Int} (ha : 0 ≤ a) (hb : 0 ≤ b) (h1 : -a ≤ x) (h2 : x ≤ a) (h3 : -b ≤ y) (h4 : y ≤ b) : -(a * b) ≤ x * y ∧ x * y ≤ a * b := by
  have h := Int.natAbs_mul x y
  have hx : x.natAbs ≤ a.toNat := by omega
  have hy : y.natAbs ≤ b.toNat := by omega
  have hm := Nat.mul_le_mul hx hy
  rw [← h] at hm
  have e : ((a.toNat * b.toNat : Nat) : Int) = a * b := by rw [Int.natCast_mul, Int.toNat_of_nonneg ha, Int.toNat_of_nonneg hb]
  omega

theorem l04abs {n : Int} (h : -9223372036854775808 < n) (h2 : n ≤ 9223372036854775807) : spec_l01Abs.f n = some (n.natAbs : Int) := abs_eq h h2
theorem l04Gcd_loop (d : Nat) : ∀ (k : Nat) (a b : Int), 0 ≤ a → 0 ≤ b → b.toNat ≤ d → d < k → spec_l04Gcd.l0 k a b = some (Int.gcd a b : Int) := by
  induction d with
  | zero =>
    intro k a b ha hb hd hk
    obtain ⟨k, rfl⟩ : ∃ m, k = m + 1 := ⟨k - 1, by omega⟩
    obtain rfl : b = 0 := by omega
    simp only [spec_l04Gcd.l0]
    rw [if_neg (by omega), gcd_nought, if_neg (by omega)]
  | succ d ih =>
    intro k a b ha hb hd hk
    obtain ⟨k, rfl⟩ : ∃ m, k = m + 1 := ⟨k - 1, by omega⟩
    simp only [spec_l04Gcd.l0]
    by_cases hz : b = 0
    · subst hz
      rw [if_neg (by omega), gcd_nought, if_neg (by omega)]
    · rw [if_pos (by omega), if_neg hz]
      have h1 : Int.tmod a b = a % b := Int.tmod_eq_emod_of_nonneg ha
      have h2 : 0 ≤ a % b := Int.emod_nonneg _ hz
      have h3 : a % b < b := Int.emod_lt_of_pos _ (by omega)
      rw [ih k b _ hb (by omega) (by omega) (by omega), gcd_step]
theorem l04Gcd_eq (k : Nat) (a b : Int) (ha : -9223372036854775808 < a) (ha2 : a ≤ 9223372036854775807) (hb : -9223372036854775808 < b) (hb2 : b ≤ 9223372036854775807) (hk : b.natAbs + 1 ≤ k) : spec_l04Gcd.f k a b = some (Int.gcd a b : Int) := by
  unfold spec_l04Gcd.f
  rw [abs_eq ha ha2, abs_eq hb hb2]
  simp only [Option.bind_some]
  rw [l04Gcd_loop b.natAbs k _ _ (by omega) (by omega) (by omega) (by omega)]
  simp [Int.gcd]
/-- the bound on all numbers here -/
def InM (x : Int) : Prop := -1000000000000000 ≤ x ∧ x ≤ 1000000000000000
theorem gcd_in {g x : Int} (hg : InM g) (hx : InM x) : InM (Int.gcd g x : Int) ∧ 0 ≤ (Int.gcd g x : Int) := by
  unfold InM at *
  have e : Int.gcd g x = Nat.gcd g.natAbs x.natAbs := rfl
  by_cases hz : x = 0
  · subst hz; rw [Int.gcd_zero_right]; omega
  · have := Nat.le_of_dvd (by omega) (Nat.gcd_dvd_right g.natAbs x.natAbs)
    omega
theorem common_in (l : List Int) (hb : ∀ x ∈ l, InM x) : ∀ g, InM g → InM (hv_common g l) := by
  induction l with
  | nil => intro g hg; exact hg
  | cons x l ih =>
    intro g hg
    exact ih (fun y hy => hb y (List.mem_cons_of_mem _ hy)) _ (gcd_in hg (hb x (List.mem_cons_self ..))).1
theorem common_pos (l : List Int) : ∀ g, 0 ≤ g → 0 ≤ hv_common g l := by
  induction l with
  | nil => intro g hg; exact hg
  | cons x l ih => intro g hg; exact ih _ (Int.natCast_nonneg _)
theorem common_ne (l : List Int) : ∀ g, g ≠ 0 → hv_common g l ≠ 0 := by
  induction l with
  | nil => intro g hg; exact hg
  | cons x l ih =>
    intro g hg
    refine ih _ ?_
    intro h
    have h' : Int.gcd g x = 0 := Int.natCast_eq_zero.1 h
    exact hg (Int.gcd_eq_zero_iff.1 h').1
theorem make_l0 (l : List Int) (d : Int) (hl : l.length ≤ 1000000) (hb : ∀ x ∈ l, InM x) (n : Nat) : ∀ (i : Nat) (g : Int), InM g → i + n = l.length →
    ∃ c, ∀ k, 1000000000000010 ≤ k → spec_l04Make.l0 (k + c) l d g (i : Int) = ((spec_l01Abs.f (hv_common g (l.drop i))).bind fun t => if d < 0 then spec_l04Make.j1 k l d (wrap64 (-t)) else spec_l04Make.j1 k l d t) := by
  induction n with
  | zero =>
    intro i g hg hi
    refine ⟨1, fun k hk => ?_⟩
    simp only [spec_l04Make.l0]
    rw [if_neg (by omega), List.drop_eq_nil_of_le (by omega)]; rfl
  | succ n ih =>
    intro i g hg hi
    have hx : i < l.length := by omega
    have hxb := hb _ (List.getElem_mem hx)
    obtain ⟨c, hc⟩ := ih (i + 1) (Int.gcd g l[i] : Int) (gcd_in hg hxb).1 (by omega)
    refine ⟨c + 1, fun k hk => ?_⟩
    rw [show k + (c + 1) = (k + c) + 1 from by omega]
    have hg' := hg; have hxb' := hxb
    unfold InM at hg' hxb'
    simp only [spec_l04Make.l0]
    rw [if_pos (by omega), if_pos (by omega), rd_at hx, l04Gcd_eq (k + c) g l[i] (by omega) (by omega) (by omega) (by omega) (by omega)]
    simp only [Option.bind_some]
    rw [wr (by omega) (by omega), List.drop_eq_getElem_cons hx]
    have e := hc k hk
    rw [Int.natCast_add] at e
    exact e
def quo (g x : Int) : Int := wrap64 (Int.tdiv x g)
theorem make_l1 (l : List Int) (g D : Int) (hg : g ≠ 0) (hl : l.length ≤ 1000000) (n : Nat) : ∀ (i : Nat) (acc : List Int), acc = (l.take i).map (quo g) → i + n = l.length →
    ∃ c, ∀ k, 4000000 ≤ k → spec_l04Make.l1 (k + c) l g (i : Int) D acc = some (if hv_okB D (l.map (quo g)) = true then (D, l.map (quo g), true) else (0, [], false)) := by
  induction n with
  | zero =>
    intro i acc ha hi
    refine ⟨1, fun k hk => ?_⟩
    simp only [spec_l04Make.l1]
    rw [if_neg (by omega)]
    rw [List.take_of_length_le (by omega)] at ha
    subst ha
    rw [vok_eq k D _ (by simp; omega) hk]
    simp only [Option.bind_some]
    split <;> rfl
  | succ n ih =>
    intro i acc ha hi
    have hx : i < l.length := by omega
    obtain ⟨c, hc⟩ := ih (i + 1) (acc ++ [quo g l[i]]) (by rw [ha, List.take_succ_eq_append_getElem hx, List.map_append]; rfl) (by omega)
    refine ⟨c + 1, fun k hk => ?_⟩
    rw [show k + (c + 1) = (k + c) + 1 from by omega]
    simp only [spec_l04Make.l1]
    have hal : acc.length ≤ 1000000 := by rw [ha, List.length_map, List.length_take]; omega
    rw [if_pos (by omega), if_pos (by omega), if_neg hg, if_pos (by omega), rd_at hx, wr (x := (i : Int) + 1) (by omega) (by omega)]
    have e := hc k hk
    rw [Int.natCast_add] at e
    exact e
/-- the divisor with its sign -/
def tG (d : Int) (l : List Int) : Int := if d < 0 then -((hv_common d l).natAbs : Int) else ((hv_common d l).natAbs : Int)
def toldF (l : List Int) (d : Int) : Int × List Int × Bool := if hv_okB (quo (tG d l) d) (l.map (quo (tG d l))) = true then (quo (tG d l) d, l.map (quo (tG d l)), true) else (0, [], false)
theorem tG_ne {d : Int} (l : List Int) (hd : d ≠ 0) : tG d l ≠ 0 := by
  have := common_ne l d hd
  unfold tG; split <;> omega
theorem make_eq (l : List Int) (d : Int) (hd : d ≠ 0) (hdM : InM d) (hl : l.length ≤ 1000000) (hb : ∀ x ∈ l, InM x) : ∃ K, ∀ k, K ≤ k → spec_l04Make.f k l d = some (toldF l d) := by
  have hM := common_in l hb d hdM
  have hG := tG_ne l hd
  obtain ⟨c0, h0⟩ := make_l0 l d hl hb l.length 0 d hdM (by omega)
  obtain ⟨c1, h1⟩ := make_l1 l (tG d l) (quo (tG d l) d) hG hl l.length 0 [] (by simp) (by omega)
  refine ⟨1000000000000010 + c0 + c1 + 5000000, fun k hk => ?_⟩
  obtain ⟨m, rfl⟩ : ∃ m, k = (m + c1 + 1) + c0 := ⟨k - c0 - c1 - 1, by omega⟩
  unfold spec_l04Make.f
  have e0 := h0 (m + c1 + 1) (by omega)
  have e0' : spec_l04Make.l0 (m + c1 + 1 + c0) l d d 0 = _ := e0
  rw [e0', List.drop_zero]
  have e1 := h1 m (by omega)
  have e1' : spec_l04Make.l1 (m + c1) l (tG d l) 0 (quo (tG d l) d) [] = some (toldF l d) := e1
  have hM' := hM
  unfold InM at hM'
  rw [abs_eq (by omega) (by omega)]
  simp only [Option.bind_some]
  have key : spec_l04Make.j1 (m + c1 + 1) l d (tG d l) = some (toldF l d) := by
    simp only [spec_l04Make.j1]
    rw [if_neg hG]
    exact e1'
  by_cases hn : d < 0
  · rw [if_pos hn, wr (by omega) (by omega)]
    have : tG d l = -((hv_common d l).natAbs : Int) := by unfold tG; rw [if_pos hn]
    rw [← this]; exact key
  · rw [if_neg hn]
    have : tG d l = ((hv_common d l).natAbs : Int) := by unfold tG; rw [if_neg hn]
    rw [← this]; exact key
theorem told_l0 (l : List Int) (g D : Int) (hg : g ≠ 0) (hl : l.length ≤ 1000000) (n : Nat) : ∀ (i : Nat) (acc : List Int), acc = (l.take i).map (quo g) → i + n = l.length →
    ∃ c, ∀ k, impl_toldVec.l0 (k + c) g l (l.length : Int) (i : Int) D acc = some (if hv_okB D (l.map (quo g)) = true then (D, l.map (quo g), true) else (0, [], false)) := by
  induction n with
  | zero =>
    intro i acc ha hi
    refine ⟨1, fun k => ?_⟩
    simp only [impl_toldVec.l0]
    rw [if_neg (by omega)]
    rw [List.take_of_length_le (by omega)] at ha
    subst ha
    rw [isVec_eq]
    simp only [Option.bind_some]
    split <;> rfl
  | succ n ih =>
    intro i acc ha hi
    have hx : i < l.length := by omega
    obtain ⟨c, hc⟩ := ih (i + 1) (acc ++ [quo g l[i]]) (by rw [ha, List.take_succ_eq_append_getElem hx, List.map_append]; rfl) (by omega)
    refine ⟨c + 1, fun k => ?_⟩
    rw [show k + (c + 1) = (k + c) + 1 from by omega]
    simp only [impl_toldVec.l0]
    have hal : acc.length ≤ 1000000 := by rw [ha, List.length_map, List.length_take]; omega
    rw [if_pos (by omega), if_pos (by omega), if_pos (by omega), if_neg hg, if_pos (by omega), rd_at hx, wr (x := (i : Int) + 1) (by omega) (by omega)]
    have e := hc k
    rw [Int.natCast_add] at e
    exact e
theorem told_eq (l : List Int) (d : Int) (hd : d ≠ 0) (hdM : InM d) (hl : l.length ≤ 1000000) (hb : ∀ x ∈ l, InM x) : ∃ K, ∀ k, K ≤ k → impl_toldVec.f k l d = some (toldF l d) := by
  have hM := common_in l hb d hdM
  have hne := common_ne l d hd
  have hG := tG_ne l hd
  obtain ⟨c1, h1⟩ := told_l0 l (tG d l) (quo (tG d l) d) hG hl l.length 0 [] (by simp) (by omega)
  refine ⟨l.length + 1000000000000010 + c1 + 1, fun k hk => ?_⟩
  unfold impl_toldVec.f
  have hdM' := hdM
  have hM' := hM
  unfold InM at hdM' hM'
  have ec : impl_commonOf.f k d l = some (hv_common d l) := by
    unfold impl_commonOf.f
    have e := hv_common_loop l hl hb l.length k 0 d hdM'.1 hdM'.2 (by omega) (by omega)
    exact e
  rw [ec]
  simp only [Option.bind_some]
  obtain ⟨m, rfl⟩ : ∃ m, k = (m + c1) + 1 := ⟨k - c1 - 1, by omega⟩
  have key : impl_toldVec.j0 (m + c1 + 1) l d (tG d l) = some (toldF l d) := by
    simp only [impl_toldVec.j0]
    rw [if_neg hG]
    exact h1 m
  have hs : d < 0 ∨ 0 ≤ hv_common d l := by
    by_cases h : d < 0
    · exact Or.inl h
    · exact Or.inr (common_pos l d (by omega))
  by_cases hn : d < 0
  · by_cases hc : hv_common d l < 0
    · have e : ((decide (hv_common d l < 0)) != (decide (d < 0))) = false := by simp [hn, hc]
      rw [e, if_neg (by decide)]
      have : tG d l = hv_common d l := by unfold tG; rw [if_pos hn]; omega
      rw [← this]; exact key
    · have e : ((decide (hv_common d l < 0)) != (decide (d < 0))) = true := by simp [hn, hc]
      rw [e, if_pos rfl, wr (by omega) (by omega)]
      have : tG d l = -(hv_common d l) := by unfold tG; rw [if_pos hn]; omega
      rw [← this]; exact key
  · have hc : ¬ hv_common d l < 0 := by omega
    have e : ((decide (hv_common d l < 0)) != (decide (d < 0))) = false := by simp [hn, hc]
    rw [e, if_neg (by decide)]
    have : tG d l = hv_common d l := by unfold tG; rw [if_neg hn]; omega
    rw [← this]; exact key
theorem toldF_length (l : List Int) (d : Int) (hl : l.length ≤ 1000000) : (toldF l d).2.1.length ≤ 1000000 := by
  unfold toldF; split <;> simp <;> omega

theorem and_range (x : Int) : 0 ≤ Go.bits .and .i64 x 255 ∧ Go.bits .and .i64 x 255 ≤ 255 := by
  have h : Go.bits .and .i64 x 255 = IntKind.i64.wrap ((BitVec.ofInt 64 x &&& BitVec.ofInt 64 255).toNat : Int) := rfl
  rw [h, BitVec.toNat_and]
  have h2 : (BitVec.ofInt 64 255).toNat = 255 := by decide
  rw [h2]
  have h3 : (BitVec.ofInt 64 x).toNat &&& 255 ≤ 255 := Nat.and_le_right
  rw [IntKind.wrap_i64]
  omega
theorem byte_some (b : List Int) (i h : Int) (hi : 0 ≤ i) (hn : b.length ≤ 9223372036854775806) : ∃ r i' h', spec_l01Byte.f b i h = some (r, i', h') ∧ 0 ≤ r ∧ r ≤ 255 ∧ 0 ≤ i' := by
  unfold spec_l01Byte.f
  by_cases hlt : i < (b.length : Int)
  · rw [if_pos hlt, if_pos hi]
    exact ⟨_, _, _, rfl, (and_range _).1, (and_range _).2, by rw [wr (by omega) (by omega)]; omega⟩
  · rw [if_neg hlt]
    exact ⟨_, _, _, rfl, (and_range _).1, (and_range _).2, hi⟩
theorem below_some (b : List Int) (i h n : Int) (hi : 0 ≤ i) (hn : b.length ≤ 9223372036854775806) : ∃ r i' h', spec_l01Below.f b i h n = some (r, i', h') ∧ 0 ≤ r ∧ (0 < n → r < n) ∧ (n ≤ 0 → r = 0) ∧ 0 ≤ i' := by
  unfold spec_l01Below.f
  by_cases h0 : n ≤ 0
  · rw [if_pos h0]; exact ⟨_, _, _, rfl, by omega, fun h => by omega, fun _ => rfl, hi⟩
  · rw [if_neg h0]
    by_cases h1 : n ≤ 256
    · rw [if_pos h1]
      obtain ⟨r, i1, h1, e1, ra, rb, hi1⟩ := byte_some b i h hi hn
      rw [e1]
      simp only [Option.bind_some]
      rw [if_neg (by omega)]
      refine ⟨_, _, _, rfl, ?_, fun _ => ?_, fun h => absurd h h0, hi1⟩
      · rw [Int.tmod_eq_emod_of_nonneg ra]; exact Int.emod_nonneg _ (by omega)
      · rw [Int.tmod_eq_emod_of_nonneg ra]; exact Int.emod_lt_of_pos _ (by omega)
    · rw [if_neg h1]
      obtain ⟨r1, i1, h1, e1, ra1, rb1, hi1⟩ := byte_some b i h hi hn
      obtain ⟨r2, i2, h2, e2, ra2, rb2, hi2⟩ := byte_some b i1 h1 hi1 hn
      obtain ⟨r3, i3, h3, e3, ra3, rb3, hi3⟩ := byte_some b i2 h2 hi2 hn
      obtain ⟨r4, i4, h4, e4, ra4, rb4, hi4⟩ := byte_some b i3 h3 hi3 hn
      rw [e1]; simp only [Option.bind_some]
      rw [e2]; simp only [Option.bind_some]
      rw [e3]; simp only [Option.bind_some]
      rw [e4]; simp only [Option.bind_some]
      rw [if_neg (by omega), wr (x := r1 * 16777216) (by omega) (by omega), wr (x := r2 * 65536) (by omega) (by omega), wr (x := r3 * 256) (by omega) (by omega)]
      rw [wr (x := r1 * 16777216 + r2 * 65536) (by omega) (by omega), wr (x := r1 * 16777216 + r2 * 65536 + r3 * 256) (by omega) (by omega), wr (x := r1 * 16777216 + r2 * 65536 + r3 * 256 + r4) (by omega) (by omega)]
      have hnn : 0 ≤ r1 * 16777216 + r2 * 65536 + r3 * 256 + r4 := by omega
      refine ⟨_, _, _, rfl, ?_, fun _ => ?_, fun h => absurd h h0, hi4⟩
      · rw [Int.tmod_eq_emod_of_nonneg hnn]; exact Int.emod_nonneg _ (by omega)
      · rw [Int.tmod_eq_emod_of_nonneg hnn]; exact Int.emod_lt_of_pos _ (by omega)
theorem new_loop (b : List Int) (hn : b.length ≤ 9223372036854775806) (d : Nat) : ∀ (k i : Nat) (h : Int), i + d = b.length → d < k → ∃ h', spec_l01New.l0 k b h (i : Int) = some (b, 0, h') := by
  induction d with
  | zero =>
    intro k i h hi hk
    obtain ⟨k, rfl⟩ : ∃ m, k = m + 1 := ⟨k - 1, by omega⟩
    simp only [spec_l01New.l0]
    rw [if_neg (by omega)]
    exact ⟨_, rfl⟩
  | succ d ih =>
    intro k i h hi hk
    obtain ⟨k, rfl⟩ : ∃ m, k = m + 1 := ⟨k - 1, by omega⟩
    simp only [spec_l01New.l0]
    rw [if_pos (by omega)]
    by_cases h4 : (i : Int) < 4000
    · rw [if_pos h4, if_pos (by omega), wr (x := (i : Int) + 1) (by omega) (by omega)]
      exact ih k (i + 1) _ (by omega) (by omega)
    · rw [if_neg h4]; exact ⟨_, rfl⟩
theorem new_some (b : List Int) (hn : b.length ≤ 9223372036854775806) (k : Nat) (hk : b.length < k) : ∃ h, spec_l01New.f k b = some (b, 0, h) := by
  unfold spec_l01New.f
  exact new_loop b hn b.length k 0 _ (by omega) hk

theorem pickInt_some (b : List Int) (i h : Int) (l : List Int) (hi : 0 ≤ i) (hn : b.length ≤ 9223372036854775806) (hl : 0 < l.length) : ∃ r i' h', spec_l01PickInt.f b i h l = some (r, i', h') ∧ r ∈ l ∧ 0 ≤ i' := by
  unfold spec_l01PickInt.f
  obtain ⟨r, i', h', e, h0, h1, _, hi'⟩ := below_some b i h (l.length : Int) hi hn
  have h1 := h1 (by omega)
  rw [e]; simp only [Option.bind_some]
  rw [if_pos h0, if_pos h1]
  obtain ⟨n, rfl⟩ := Int.eq_ofNat_of_zero_le h0
  have hn' : n < l.length := by omega
  refine ⟨_, _, _, rfl, ?_, hi'⟩
  unfold rd
  simp [List.getD, List.getElem?_eq_getElem hn']

theorem newAll_loop (b : List Int) (hn : b.length ≤ 9223372036854775806) (d : Nat) : ∀ (i : Nat) (h : Int), i + d = b.length → ∃ h', ∀ k, d < k → spec_l01New.l0 k b h (i : Int) = some (b, 0, h') := by
  induction d with
  | zero =>
    intro i h hi
    refine ⟨h, fun k hk => ?_⟩
    obtain ⟨k, rfl⟩ : ∃ m, k = m + 1 := ⟨k - 1, by omega⟩
    simp only [spec_l01New.l0]
    rw [if_neg (by omega)]
  | succ d ih =>
    intro i h hi
    by_cases h4 : (i : Int) < 4000
    · obtain ⟨h', hh⟩ := ih (i + 1) (Go.bits .and .i64 (wrap64 ((wrap64 ((wrap64 (h * 131)) + (wrap64 (rd b (i : Int))))) + 7)) 1073741823) (by omega)
      refine ⟨h', fun k hk => ?_⟩
      obtain ⟨k, rfl⟩ : ∃ m, k = m + 1 := ⟨k - 1, by omega⟩
      simp only [spec_l01New.l0]
      rw [if_pos (by omega), if_pos h4, if_pos (by omega), wr (x := (i : Int) + 1) (by omega) (by omega)]
      exact hh k (by omega)
    · refine ⟨h, fun k hk => ?_⟩
      obtain ⟨k, rfl⟩ : ∃ m, k = m + 1 := ⟨k - 1, by omega⟩
      simp only [spec_l01New.l0]
      rw [if_pos (by omega), if_neg h4]
theorem new_all (b : List Int) (hn : b.length ≤ 9223372036854775806) : ∃ h, ∀ k, b.length < k → spec_l01New.f k b = some (b, 0, h) :=
  newAll_loop b hn b.length 0 _ (by omega)

theorem pick_small {r : Int} (xs : List Int) (h : r ∈ xs) (hb : ∀ x ∈ xs, -10 ≤ x ∧ x ≤ 10) : -10 ≤ r ∧ r ≤ 10 := hb r h
theorem l04Some_loop (b : List Int) (hn : b.length ≤ 9223372036854775806) (m : Int) (hm : m ≤ 10) (n : Nat) : ∀ (i : Nat) (acc : List Int) (p h : Int), 0 ≤ p → acc.length = i → i ≤ 10 → (∀ x ∈ acc, -10 ≤ x ∧ x ≤ 10) → n = (m - i).toNat →
    ∃ K D A p' h', (∀ k, K ≤ k → spec_l04Some.l0 k m acc (i : Int) b p h = some (D, A, p', h')) ∧ A.length ≤ 1000000 ∧ 0 ≤ p' := by
  induction n with
  | zero =>
    intro i acc p h hp hl hi hb hz
    obtain ⟨r, p', h', e, hr, hp'⟩ := pickInt_some b p h ([1, 1, 1, 2, 3, 4, 6] : List Int) hp hn (by decide)
    have hr2 : 1 ≤ r ∧ r ≤ 6 := by
      simp only [List.mem_cons, List.not_mem_nil, or_false] at hr; omega
    obtain ⟨K, hK⟩ := make_eq acc r (by omega) (by unfold InM; omega) (by omega) (fun x hx => by have := hb x hx; unfold InM; omega)
    have hlen := toldF_length acc r (by omega)
    obtain ⟨D, A, g, hF⟩ : ∃ D A g, toldF acc r = (D, A, g) := ⟨_, _, _, rfl⟩
    rw [hF] at hK hlen
    refine ⟨K + 1, D, A, p', h', fun k hk => ?_, hlen, hp'⟩
    obtain ⟨k, rfl⟩ : ∃ m, k = m + 1 := ⟨k - 1, by omega⟩
    simp only [spec_l04Some.l0]
    rw [if_neg (by omega), e]
    simp only [Option.bind_some]
    rw [hK k (by omega)]; rfl
  | succ n ih =>
    intro i acc p h hp hl hi hb hz
    obtain ⟨r, p1, h1, e1, hr0, hr1, _, hp1⟩ := below_some b p h 13 hp hn
    have hr1 := hr1 (by omega)
    obtain ⟨s, p2, h2, e2, hs, hp2⟩ := pickInt_some b p1 h1 ([0, 0, 1, (-1), 2, (-2), 3, wrap64 (r - 6)] : List Int) hp1 hn (by simp)
    have hs2 : -10 ≤ s ∧ s ≤ 10 := by
      rw [wr (by omega) (by omega)] at hs
      simp only [List.mem_cons, List.not_mem_nil, or_false] at hs; omega
    obtain ⟨K, D, A, p', h', hK, hA, hp'⟩ := ih (i + 1) (acc ++ [s]) p2 h2 hp2 (by simp [hl]) (by omega) (fun x hx => by
      rcases List.mem_append.1 hx with hx | hx
      · exact hb x hx
      · rw [List.mem_singleton] at hx; subst hx; exact hs2) (by omega)
    refine ⟨K + 1, D, A, p', h', fun k hk => ?_, hA, hp'⟩
    obtain ⟨k, rfl⟩ : ∃ m, k = m + 1 := ⟨k - 1, by omega⟩
    simp only [spec_l04Some.l0]
    rw [if_pos (by omega), e1]
    simp only [Option.bind_some]
    rw [e2]
    simp only [Option.bind_some]
    rw [if_pos (by omega), wr (x := (i : Int) + 1) (by omega) (by omega)]
    have := hK k (by omega)
    rw [Int.natCast_add] at this
    exact this
theorem l04Any_some (b : List Int) (hn : b.length ≤ 9223372036854775806) (p h m : Int) (hp : 0 ≤ p) (hm : m ≤ 10) : ∃ K D A p' h', (∀ k, K ≤ k → spec_l04Any.f k b p h m = some (D, A, p', h')) ∧ A.length ≤ 1000000 ∧ 0 ≤ p' := by
  obtain ⟨K, D, A, p1, h1, hK, hA, hp1⟩ := l04Some_loop b hn m hm _ 0 [] p h hp rfl (by omega) (fun x hx => by cases hx) rfl
  obtain ⟨r, p2, h2, e2, hr0, hr1, _, hp2⟩ := below_some b p1 h1 20 hp1 hn
  have hK' : ∀ k, K ≤ k → spec_l04Some.f k b p h m = some (D, A, p1, h1) := hK
  have key : ∃ D' A' p' h', (∀ k, K ≤ k → spec_l04Any.f k b p h m = some (D', A', p', h')) ∧ A'.length ≤ 1000000 ∧ 0 ≤ p' := by
    by_cases c0 : r = 0
    · obtain ⟨s, p3, h3, e3, _, hp3⟩ := pickInt_some b p2 h2 ([0, (-1), 720, 721, 2] : List Int) hp2 hn (by decide)
      refine ⟨s, A, p3, h3, fun k hk => ?_, hA, hp3⟩
      unfold spec_l04Any.f
      simp only [hK' k hk, Option.bind_some, e2, if_pos c0, e3]
    · by_cases c1 : r = 1
      · by_cases hl : (A.length : Int) > 0
        · obtain ⟨s, p3, h3, e3, hs0, hs1, _, hp3⟩ := below_some b p2 h2 (A.length : Int) hp2 hn
          have hs1 := hs1 (by omega)
          obtain ⟨t, p4, h4, e4, _, hp4⟩ := pickInt_some b p3 h3 ([100000, (-100000), 100001, (-100001), 99999] : List Int) hp3 hn (by decide)
          refine ⟨D, A.set s.toNat t, p4, h4, fun k hk => ?_, by rw [List.length_set]; exact hA, hp4⟩
          unfold spec_l04Any.f
          simp only [hK' k hk, Option.bind_some, e2, if_neg c0, if_pos c1, if_pos hl, e3, e4, if_pos hs0, if_pos hs1]
        · refine ⟨D, A, p2, h2, fun k hk => ?_, hA, hp2⟩
          unfold spec_l04Any.f
          simp only [hK' k hk, Option.bind_some, e2, if_neg c0, if_pos c1, if_neg hl]
      · by_cases c2 : r = 2
        · refine ⟨0, [], p2, h2, fun k hk => ?_, by simp, hp2⟩
          unfold spec_l04Any.f
          simp only [hK' k hk, Option.bind_some, e2, if_neg c0, if_neg c1, if_pos c2]
        · by_cases c3 : r = 3
          · obtain ⟨s, p3, h3, e3, _, hp3⟩ := pickInt_some b p2 h2 ([719, 720, 360, 1] : List Int) hp2 hn (by decide)
            refine ⟨s, A, p3, h3, fun k hk => ?_, hA, hp3⟩
            unfold spec_l04Any.f
            simp only [hK' k hk, Option.bind_some, e2, if_neg c0, if_neg c1, if_neg c2, if_pos c3, e3]
          · refine ⟨D, A, p2, h2, fun k hk => ?_, hA, hp2⟩
            unfold spec_l04Any.f
            simp only [hK' k hk, Option.bind_some, e2, if_neg c0, if_neg c1, if_neg c2, if_neg c3]
  obtain ⟨D', A', p', h', a, b, c⟩ := key
  exact ⟨K, D', A', p', h', a, b, c⟩
theorem once_some (b : List Int) (hn : b.length ≤ 9223372036854775806) (p h m : Int) (hp : 0 ≤ p) : ∃ r p' h', spec_l01Once.f b p h m = some (r, p', h') ∧ 0 ≤ p' := by
  obtain ⟨r, p2, h2, e2, _, _, _, hp2⟩ := below_some b p h m hp hn
  exact ⟨_, _, _, by unfold spec_l01Once.f; rw [e2]; rfl, hp2⟩
/-- two drawn vectors -/
theorem two_some (NF : Nat → List Int → Option (Int × List Int × Int × List Int)) (c : Int) (hc : 0 < c) (hc9 : c ≤ 9) (hNF : ∀ k l0, NF k l0 = (spec_l01New.f k l0).bind fun bt1 => ((spec_l01Below.f bt1.1 bt1.2.1 bt1.2.2 c).bind fun bt2 => ((spec_l04Any.f k bt1.1 bt2.2.1 bt2.2.2 bt2.1).bind fun bt3 => ((spec_l01Once.f bt1.1 bt3.2.2.1 bt3.2.2.2 12).bind fun bt4 => (if bt4.1 = true then ((spec_l04Any.f k bt1.1 bt4.2.1 bt4.2.2 (wrap64 (bt2.1 + 1))).bind fun bt5 => (some (bt3.1, bt3.2.1, bt5.1, bt5.2.1))) else ((spec_l04Any.f k bt1.1 bt4.2.1 bt4.2.2 bt2.1).bind fun bt5 => (some (bt3.1, bt3.2.1, bt5.1, bt5.2.1)))))))) (b : List Int) (hn : b.length ≤ 9223372036854775806) :
    ∃ K D A E C, (∀ k, K ≤ k → NF k b = some (D, A, E, C)) ∧ A.length ≤ 1000000 ∧ C.length ≤ 1000000 := by
  obtain ⟨r, p1, h1, e1, hr0, hr1, _, hp1⟩ : ∃ r p1 h1, (∀ k, b.length + 1 ≤ k → (spec_l01New.f k b).bind (fun bt1 => spec_l01Below.f bt1.1 bt1.2.1 bt1.2.2 c) = some (r, p1, h1) ∧ ∃ h0, spec_l01New.f k b = some (b, 0, h0) ∧ spec_l01Below.f b 0 h0 c = some (r, p1, h1)) ∧ 0 ≤ r ∧ (0 < c → r < c) ∧ True ∧ 0 ≤ p1 := by
    obtain ⟨h0, e0⟩ := new_all b hn
    obtain ⟨r, p1, h1, e1, a, b', _, d⟩ := below_some b 0 h0 c (by omega) hn
    refine ⟨r, p1, h1, fun k hk => ?_, a, b', trivial, d⟩
    have : spec_l01New.f k b = some (b, 0, h0) := e0 k (by omega)
    exact ⟨by rw [this]; exact e1, h0, this, e1⟩
  have hr1 := hr1 hc
  obtain ⟨K1, D, A, p2, h2, e2, hA, hp2⟩ := l04Any_some b hn p1 h1 r hp1 (by omega)
  obtain ⟨o, p3, h3, e3, hp3⟩ := once_some b hn p2 h2 12 hp2
  have hw : wrap64 (r + 1) = r + 1 := wr (by omega) (by omega)
  obtain ⟨K2, E, C, p4, h4, e4, hC, hp4⟩ := l04Any_some b hn p3 h3 (if o = true then r + 1 else r) hp3 (by split <;> omega)
  obtain ⟨K, hK⟩ : ∃ K, K1 + K2 + b.length + 1 ≤ K := ⟨_, Nat.le_refl _⟩
  refine ⟨K, D, A, E, C, fun k hk => ?_, hA, hC⟩
  obtain ⟨_, h0, f0, f1⟩ := e1 k (by omega)
  have f2 := e2 k (by omega)
  have f4 := e4 k (by omega)
  rw [hNF]
  simp only [f0, f1, f2, e3, Option.bind_some, hw]
  cases o
  · simp only [Bool.false_eq_true, if_false] at f4 ⊢; rw [f4]; rfl
  · simp only [if_true] at f4 ⊢; rw [f4]; rfl

theorem common_abs (t : Int) (l : List Int) : ∀ u g : Int, u.natAbs = g.natAbs * t.natAbs → (hv_common u (l.map fun x => x * t)).natAbs = (hv_common g l).natAbs * t.natAbs := by
  induction l with
  | nil => intro u g h; exact h
  | cons x l ih =>
    intro u g h
    refine ih (Int.gcd u (x * t) : Int) (Int.gcd g x : Int) ?_
    have e1 : Int.gcd u (x * t) = Nat.gcd u.natAbs (x * t).natAbs := rfl
    have e2 : Int.gcd g x = Nat.gcd g.natAbs x.natAbs := rfl
    rw [e1, e2, h, Int.natAbs_mul, Nat.gcd_mul_right, Int.natAbs_natCast, Int.natAbs_natCast]
theorem okB_one {d : Int} {l : List Int} (h : hv_okB d l = true) : hv_common d l = 1 := by
  unfold hv_okB at h
  simp only [Bool.and_eq_true, decide_eq_true_eq] at h
  exact h.2
theorem common_dvd (l : List Int) : ∀ g : Int, hv_common g l ∣ g ∧ ∀ x ∈ l, hv_common g l ∣ x := by
  induction l with
  | nil => intro g; exact ⟨Int.dvd_refl _, fun x h => by cases h⟩
  | cons x l ih =>
    intro g
    obtain ⟨h1, h2⟩ := ih (Int.gcd g x : Int)
    refine ⟨Int.dvd_trans h1 (Int.gcd_dvd_left ..), fun y hy => ?_⟩
    rcases List.mem_cons.1 hy with rfl | hy
    · exact Int.dvd_trans h1 (Int.gcd_dvd_right ..)
    · exact h2 y hy

theorem same_loop (d1 d2 : Int) (l1 l2 : List Int) (hl : l1.length = l2.length) (hn : l1.length ≤ 1000000) (n : Nat) : ∀ (k i : Nat), i + n = l1.length → n < k →
    laws_sameVec.l0 k (i : Int) d1 l1 d2 l2 = some (decide (l1.drop i = l2.drop i)) := by
  induction n with
  | zero =>
    intro k i hi hk
    obtain ⟨k, rfl⟩ : ∃ m, k = m + 1 := ⟨k - 1, by omega⟩
    simp only [laws_sameVec.l0]
    rw [if_neg (by omega), List.drop_eq_nil_of_le (by omega), List.drop_eq_nil_of_le (by omega)]; simp
  | succ n ih =>
    intro k i hi hk
    obtain ⟨k, rfl⟩ : ∃ m, k = m + 1 := ⟨k - 1, by omega⟩
    have hx : i < l1.length := by omega
    have hy : i < l2.length := by omega
    have e := ih k (i + 1) (by omega) (by omega)
    rw [Int.natCast_add] at e
    have e' : laws_sameVec.l0 k ((i : Int) + 1) d1 l1 d2 l2 = _ := e
    simp only [laws_sameVec.l0]
    rw [if_pos (by omega), if_pos (by omega), if_pos (by omega), rd_at hx, rd_at hy, wr (x := (i : Int) + 1) (by omega) (by omega), e', List.drop_eq_getElem_cons hx, List.drop_eq_getElem_cons hy]
    by_cases h : l1[i] = l2[i]
    · rw [if_pos h, h]; simp only [List.cons.injEq, true_and]
    · rw [if_neg h]; simp only [List.cons.injEq, h, false_and, decide_false]
theorem same_eq (k : Nat) (d1 d2 : Int) (l1 l2 : List Int) (hn : l1.length ≤ 1000000) (hk : l1.length + 2 ≤ k) : laws_sameVec.f k d1 l1 d2 l2 = some (decide (d1 = d2 ∧ l1 = l2)) := by
  obtain ⟨k, rfl⟩ : ∃ m, k = m + 1 := ⟨k - 1, by omega⟩
  unfold laws_sameVec.f
  by_cases hd : d1 = d2
  · rw [if_pos hd]
    simp only [laws_sameVec.j0]
    by_cases hl : l1.length = l2.length
    · have e : ((l1.length : Int) != (l2.length : Int)) = false := by simp; omega
      simp only [e, Bool.false_eq_true, if_false]
      have := same_loop d1 d2 l1 l2 hl hn l1.length k 0 (by omega) (by omega)
      simpa [hd] using this
    · have e : ((l1.length : Int) != (l2.length : Int)) = true := by simp; omega
      simp only [e, if_true]
      have : ¬ l1 = l2 := fun h => hl (by rw [h])
      simp [this]
  · rw [if_neg hd]
    simp only [laws_sameVec.j0, if_true]
    simp [hd]

def scM (a : Int) (x : Int) : Int := wrap64 (x * a)
def scaleF (d : Int) (l : List Int) (a b : Int) : Int × List Int × Bool := if hv_okB d l = true ∧ smB a = true ∧ smB b = true ∧ b ≠ 0 then toldF (l.map (scM a)) (wrap64 (d * b)) else (0, [], false)
theorem spec_loop (d : Int) (l : List Int) (a b : Int) (hl : l.length ≤ 8) (r : Int × List Int × Bool) (K : Nat) (hK : ∀ k, K ≤ k → spec_l04Make.f k (l.map (scM a)) (wrap64 (d * b)) = some r) (n : Nat) : ∀ (k i : Nat) (acc : List Int), acc = (l.take i).map (scM a) → i + n = l.length → K + n + 1 ≤ k →
    spec_VecScale.l0 k a b acc (i : Int) d l = some r := by
  induction n with
  | zero =>
    intro k i acc ha hi hk
    obtain ⟨k, rfl⟩ : ∃ m, k = m + 1 := ⟨k - 1, by omega⟩
    rw [List.take_of_length_le (by omega)] at ha
    subst ha
    simp only [spec_VecScale.l0]
    rw [if_neg (by omega), hK k (by omega)]; rfl
  | succ n ih =>
    intro k i acc ha hi hk
    obtain ⟨k, rfl⟩ : ∃ m, k = m + 1 := ⟨k - 1, by omega⟩
    have hx : i < l.length := by omega
    have hal : acc.length ≤ 8 := by rw [ha, List.length_map, List.length_take]; omega
    simp only [spec_VecScale.l0]
    rw [if_pos (by omega), if_pos (by omega), if_pos (by omega), rd_at hx, wr (x := (i : Int) + 1) (by omega) (by omega)]
    have e := ih k (i + 1) (acc ++ [scM a l[i]]) (by rw [ha, List.take_succ_eq_append_getElem hx, List.map_append]; rfl) (by omega) (by omega)
    rw [Int.natCast_add] at e
    exact e
theorem impl_loop (d : Int) (l : List Int) (a b : Int) (hl : l.length ≤ 8) (r : Int × List Int × Bool) (K : Nat) (hK : ∀ k, K ≤ k → impl_toldVec.f k (l.map (scM a)) (wrap64 (d * b)) = some r) (n : Nat) : ∀ (k i : Nat) (acc : List Int), acc = (l.take i).map (scM a) → i + n = l.length → K + n + 1 ≤ k →
    impl_vecScale.l0 k a b acc l (l.length : Int) (i : Int) d l = some r := by
  induction n with
  | zero =>
    intro k i acc ha hi hk
    obtain ⟨k, rfl⟩ : ∃ m, k = m + 1 := ⟨k - 1, by omega⟩
    rw [List.take_of_length_le (by omega)] at ha
    subst ha
    simp only [impl_vecScale.l0]
    rw [if_neg (by omega), hK k (by omega)]; rfl
  | succ n ih =>
    intro k i acc ha hi hk
    obtain ⟨k, rfl⟩ : ∃ m, k = m + 1 := ⟨k - 1, by omega⟩
    have hx : i < l.length := by omega
    have hal : acc.length ≤ 8 := by rw [ha, List.length_map, List.length_take]; omega
    simp only [impl_vecScale.l0]
    rw [if_pos (by omega), if_pos (by omega), if_pos (by omega), if_pos (by omega), rd_at hx, wr (x := (i : Int) + 1) (by omega) (by omega)]
    have e := ih k (i + 1) (acc ++ [scM a l[i]]) (by rw [ha, List.take_succ_eq_append_getElem hx, List.map_append]; rfl) (by omega) (by omega)
    rw [Int.natCast_add] at e
    exact e
theorem scale_cond {d : Int} {l : List Int} {a b : Int} (h : hv_okB d l = true ∧ smB a = true ∧ smB b = true ∧ b ≠ 0) : wrap64 (d * b) ≠ 0 ∧ InM (wrap64 (d * b)) ∧ ∀ x ∈ l.map (scM a), InM x := by
  obtain ⟨h1, h2, h3, h4⟩ := h
  obtain ⟨hd, hd', hx⟩ := okB_in h1
  have h2 := smB_iff.1 h2
  have h3 := smB_iff.1 h3
  obtain ⟨p, q⟩ := mul_in (x := d) (y := b) (a := 720) (b := 1000000000) (by omega) (by omega) (by omega) (by omega) (by omega) (by omega)
  have hne : d * b ≠ 0 := Int.mul_ne_zero (by omega) h4
  rw [wr (by omega) (by omega)]
  refine ⟨hne, by unfold InM; omega, fun x hm => ?_⟩
  obtain ⟨y, hy, rfl⟩ := List.mem_map.1 hm
  obtain ⟨u, v⟩ := hx y hy
  obtain ⟨p, q⟩ := mul_in (x := y) (y := a) (a := 100000) (b := 1000000000) (by omega) (by omega) (by omega) (by omega) (by omega) (by omega)
  unfold scM
  rw [wr (by omega) (by omega)]
  unfold InM; omega
theorem both_eq (d : Int) (l : List Int) (a b : Int) : ∃ K, ∀ k, K ≤ k → spec_VecScale.f k d l a b = some (scaleF d l a b) ∧ impl_VecScale.f k d l a b = some (scaleF d l a b) := by
  by_cases h : hv_okB d l = true ∧ smB a = true ∧ smB b = true ∧ b ≠ 0
  · obtain ⟨c1, c2, c3⟩ := scale_cond h
    have hl := okB_len h.1
    obtain ⟨K1, h1⟩ := make_eq (l.map (scM a)) (wrap64 (d * b)) c1 c2 (by simp; omega) c3
    obtain ⟨K2, h2⟩ := told_eq (l.map (scM a)) (wrap64 (d * b)) c1 c2 (by simp; omega) c3
    obtain ⟨K, hK⟩ : ∃ K, K1 + K2 + 4000012 ≤ K := ⟨_, Nat.le_refl _⟩
    refine ⟨K, fun k hk => ?_⟩
    unfold scaleF
    rw [if_pos h]
    obtain ⟨ha, hb, hc, hd⟩ := h
    have e1 := fun m (hm : K1 + l.length + 1 ≤ m) => spec_loop d l a b hl _ K1 h1 l.length m 0 [] (by simp) (by omega) (by omega)
    have e2 := fun m (hm : K2 + l.length + 1 ≤ m) => impl_loop d l a b hl _ K2 h2 l.length m 0 [] (by simp) (by omega) (by omega)
    have z : (b == 0) = false := by simp [hd]
    constructor
    · unfold spec_VecScale.f
      rw [vok_any k d l (by omega), ha, small_eq, hb, small_eq, hc]
      simp only [Option.bind_some, if_true, z]
      obtain ⟨k, rfl⟩ : ∃ m, k = m + 1 := ⟨k - 1, by omega⟩
      simp only [spec_VecScale.j0, Bool.false_eq_true, if_false]
      exact e1 k (by omega)
    · unfold impl_VecScale.f impl_vecScale.f
      rw [isVec_eq, ha, isSmall_eq, hb, isSmall_eq, hc]
      simp only [Option.bind_some, if_true, z]
      obtain ⟨k, rfl⟩ : ∃ m, k = m + 1 := ⟨k - 1, by omega⟩
      simp only [impl_vecScale.j0, Bool.false_eq_true, if_false]
      have e := e2 k (by omega)
      have e' : impl_vecScale.l0 k a b [] l (l.length : Int) 0 d l = _ := e
      rw [e']; rfl
  · refine ⟨4000001, fun k hk => ?_⟩
    unfold scaleF
    rw [if_neg h]
    obtain ⟨m, hm⟩ : ∃ m, k = m + 1 := ⟨k - 1, by omega⟩
    have t1 : spec_VecScale.j0 k a b true d l = some (0, [], false) := by rw [hm]; simp [spec_VecScale.j0]
    have t2 : impl_vecScale.j0 k a b true d l = some (0, [], false) := by rw [hm]; simp [impl_vecScale.j0]
    unfold spec_VecScale.f impl_VecScale.f impl_vecScale.f
    rw [vok_any k d l (by omega), small_eq, small_eq, isVec_eq, isSmall_eq, isSmall_eq, t1, t2]
    simp only [Option.bind_some]
    cases ha : hv_okB d l
    · simp
    · cases hb : smB a
      · simp
      · cases hc : smB b
        · simp
        · have z : b = 0 := Classical.byContradiction fun hz => h ⟨ha, hb, hc, hz⟩
          have z2 : (b == 0) = true := by simp [z]
          simp [z2, t1, t2]
theorem scaleF_length (d : Int) (l : List Int) (a b : Int) : (scaleF d l a b).2.1.length ≤ 1000000 := by
  unfold scaleF
  split
  · rename_i h
    have := okB_len h.1
    exact toldF_length _ _ (by simp; omega)
  · simp

def adM (d1 d2 : Int) (x y : Int) : Int := wrap64 (wrap64 (x * d2) + wrap64 (y * d1))
def addF (d1 : Int) (l1 : List Int) (d2 : Int) (l2 : List Int) : Int × List Int × Bool := if hv_okB d1 l1 = true ∧ hv_okB d2 l2 = true ∧ l1.length = l2.length then toldF (List.zipWith (adM d1 d2) l1 l2) (wrap64 (d1 * d2)) else (0, [], false)
theorem specA_loop (d1 d2 : Int) (l1 l2 : List Int) (hl : l1.length = l2.length) (h8 : l1.length ≤ 8) (r : Int × List Int × Bool) (K : Nat) (hK : ∀ k, K ≤ k → spec_l04Make.f k (List.zipWith (adM d1 d2) l1 l2) (wrap64 (d1 * d2)) = some r) (n : Nat) : ∀ (k i : Nat) (acc : List Int), acc = (List.zipWith (adM d1 d2) l1 l2).take i → i + n = l1.length → K + n + 1 ≤ k →
    spec_VecAdd.l0 k acc (i : Int) d1 l1 d2 l2 = some r := by
  have hz : (List.zipWith (adM d1 d2) l1 l2).length = l1.length := by rw [List.length_zipWith]; omega
  induction n with
  | zero =>
    intro k i acc ha hi hk
    obtain ⟨k, rfl⟩ : ∃ m, k = m + 1 := ⟨k - 1, by omega⟩
    rw [List.take_of_length_le (by omega)] at ha
    subst ha
    simp only [spec_VecAdd.l0]
    rw [if_neg (by omega), hK k (by omega)]; rfl
  | succ n ih =>
    intro k i acc ha hi hk
    obtain ⟨k, rfl⟩ : ∃ m, k = m + 1 := ⟨k - 1, by omega⟩
    have hx : i < l1.length := by omega
    have hy : i < l2.length := by omega
    have hal : acc.length ≤ 8 := by rw [ha, List.length_take]; omega
    have hzi : i < (List.zipWith (adM d1 d2) l1 l2).length := by omega
    simp only [spec_VecAdd.l0]
    rw [if_pos (by omega), if_pos (by omega), if_pos (by omega), if_pos (by omega), rd_at hx, rd_at hy, wr (x := (i : Int) + 1) (by omega) (by omega)]
    have e := ih k (i + 1) (acc ++ [adM d1 d2 l1[i] l2[i]]) (by rw [ha, List.take_succ_eq_append_getElem hzi, List.getElem_zipWith]) (by omega) (by omega)
    rw [Int.natCast_add] at e
    exact e
theorem implA_loop (d1 d2 : Int) (l1 l2 : List Int) (hl : l1.length = l2.length) (h8 : l1.length ≤ 8) (r : Int × List Int × Bool) (K : Nat) (hK : ∀ k, K ≤ k → impl_toldVec.f k (List.zipWith (adM d1 d2) l1 l2) (wrap64 (d1 * d2)) = some r) (n : Nat) : ∀ (k i : Nat) (acc : List Int), acc = (List.zipWith (adM d1 d2) l1 l2).take i → i + n = l1.length → K + n + 1 ≤ k →
    impl_vecAdd.l0 k acc l1 (l1.length : Int) (i : Int) d1 l1 d2 l2 = some r := by
  have hz : (List.zipWith (adM d1 d2) l1 l2).length = l1.length := by rw [List.length_zipWith]; omega
  induction n with
  | zero =>
    intro k i acc ha hi hk
    obtain ⟨k, rfl⟩ : ∃ m, k = m + 1 := ⟨k - 1, by omega⟩
    rw [List.take_of_length_le (by omega)] at ha
    subst ha
    simp only [impl_vecAdd.l0]
    rw [if_neg (by omega), hK k (by omega)]; rfl
  | succ n ih =>
    intro k i acc ha hi hk
    obtain ⟨k, rfl⟩ : ∃ m, k = m + 1 := ⟨k - 1, by omega⟩
    have hx : i < l1.length := by omega
    have hy : i < l2.length := by omega
    have hal : acc.length ≤ 8 := by rw [ha, List.length_take]; omega
    have hzi : i < (List.zipWith (adM d1 d2) l1 l2).length := by omega
    simp only [impl_vecAdd.l0]
    rw [if_pos (by omega), if_pos (by omega), if_pos (by omega), if_pos (by omega), if_pos (by omega), rd_at hx, rd_at hy, wr (x := (i : Int) + 1) (by omega) (by omega)]
    have e := ih k (i + 1) (acc ++ [adM d1 d2 l1[i] l2[i]]) (by rw [ha, List.take_succ_eq_append_getElem hzi, List.getElem_zipWith]) (by omega) (by omega)
    rw [Int.natCast_add] at e
    exact e
theorem add_cond {d1 d2 : Int} {l1 l2 : List Int} (h : hv_okB d1 l1 = true ∧ hv_okB d2 l2 = true ∧ l1.length = l2.length) : wrap64 (d1 * d2) ≠ 0 ∧ InM (wrap64 (d1 * d2)) ∧ ∀ x ∈ List.zipWith (adM d1 d2) l1 l2, InM x := by
  obtain ⟨h1, h2, hl⟩ := h
  obtain ⟨a1, a2, a3⟩ := okB_in h1
  obtain ⟨b1, b2, b3⟩ := okB_in h2
  obtain ⟨p, q⟩ := mul_in (x := d1) (y := d2) (a := 720) (b := 720) (by omega) (by omega) (by omega) (by omega) (by omega) (by omega)
  have hne : d1 * d2 ≠ 0 := Int.mul_ne_zero (by omega) (by omega)
  rw [wr (by omega) (by omega)]
  refine ⟨hne, by unfold InM; omega, fun x hm => ?_⟩
  obtain ⟨i, hi, rfl⟩ := List.mem_iff_getElem.1 hm
  rw [List.getElem_zipWith]
  have hi1 : i < l1.length := by rw [List.length_zipWith] at hi; omega
  have hi2 : i < l2.length := by rw [List.length_zipWith] at hi; omega
  obtain ⟨u, v⟩ := a3 _ (List.getElem_mem hi1)
  obtain ⟨u', v'⟩ := b3 _ (List.getElem_mem hi2)
  obtain ⟨p, q⟩ := mul_in (x := l1[i]) (y := d2) (a := 100000) (b := 720) (by omega) (by omega) (by omega) (by omega) (by omega) (by omega)
  obtain ⟨p', q'⟩ := mul_in (x := l2[i]) (y := d1) (a := 100000) (b := 720) (by omega) (by omega) (by omega) (by omega) (by omega) (by omega)
  unfold adM
  rw [wr (x := l1[i] * d2) (by omega) (by omega), wr (x := l2[i] * d1) (by omega) (by omega), wr (by omega) (by omega)]
  unfold InM; omega
theorem add_both (d1 : Int) (l1 : List Int) (d2 : Int) (l2 : List Int) : ∃ K, ∀ k, K ≤ k → spec_VecAdd.f k d1 l1 d2 l2 = some (addF d1 l1 d2 l2) ∧ impl_VecAdd.f k d1 l1 d2 l2 = some (addF d1 l1 d2 l2) := by
  by_cases h : hv_okB d1 l1 = true ∧ hv_okB d2 l2 = true ∧ l1.length = l2.length
  · obtain ⟨c1, c2, c3⟩ := add_cond h
    have h8 := okB_len h.1
    have hzl : (List.zipWith (adM d1 d2) l1 l2).length ≤ 1000000 := by rw [List.length_zipWith]; omega
    obtain ⟨K1, h1⟩ := make_eq (List.zipWith (adM d1 d2) l1 l2) (wrap64 (d1 * d2)) c1 c2 hzl c3
    obtain ⟨K2, h2⟩ := told_eq (List.zipWith (adM d1 d2) l1 l2) (wrap64 (d1 * d2)) c1 c2 hzl c3
    obtain ⟨K, hK⟩ : ∃ K, K1 + K2 + 4000012 ≤ K := ⟨_, Nat.le_refl _⟩
    refine ⟨K, fun k hk => ?_⟩
    unfold addF
    rw [if_pos h]
    obtain ⟨ha, hb, hl⟩ := h
    have e1 := fun m (hm : K1 + l1.length + 1 ≤ m) => specA_loop d1 d2 l1 l2 hl h8 _ K1 h1 l1.length m 0 [] (by simp) (by omega) (by omega)
    have e2 := fun m (hm : K2 + l1.length + 1 ≤ m) => implA_loop d1 d2 l1 l2 hl h8 _ K2 h2 l1.length m 0 [] (by simp) (by omega) (by omega)
    have z : ((l1.length : Int) != (l2.length : Int)) = false := by simp; omega
    constructor
    · unfold spec_VecAdd.f
      rw [vok_any k d1 l1 (by omega), vok_any k d2 l2 (by omega), ha, hb]
      simp only [Option.bind_some, if_true, z]
      obtain ⟨k, rfl⟩ : ∃ m, k = m + 1 := ⟨k - 1, by omega⟩
      simp only [spec_VecAdd.j0, Bool.false_eq_true, if_false]
      exact e1 k (by omega)
    · unfold impl_VecAdd.f impl_vecAdd.f
      rw [isVec_eq, isVec_eq, ha, hb]
      simp only [Option.bind_some, if_true, z]
      obtain ⟨k, rfl⟩ : ∃ m, k = m + 1 := ⟨k - 1, by omega⟩
      simp only [impl_vecAdd.j0, Bool.false_eq_true, if_false]
      have e := e2 k (by omega)
      have e' : impl_vecAdd.l0 k [] l1 (l1.length : Int) 0 d1 l1 d2 l2 = _ := e
      rw [e']; rfl
  · refine ⟨4000001, fun k hk => ?_⟩
    unfold addF
    rw [if_neg h]
    obtain ⟨m, hm⟩ : ∃ m, k = m + 1 := ⟨k - 1, by omega⟩
    have t1 : spec_VecAdd.j0 k true d1 l1 d2 l2 = some (0, [], false) := by rw [hm]; simp [spec_VecAdd.j0]
    have t2 : impl_vecAdd.j0 k true d1 l1 d2 l2 = some (0, [], false) := by rw [hm]; simp [impl_vecAdd.j0]
    unfold spec_VecAdd.f impl_VecAdd.f impl_vecAdd.f
    rw [vok_any k d1 l1 (by omega), vok_any k d2 l2 (by omega), isVec_eq, isVec_eq, t1, t2]
    simp only [Option.bind_some]
    cases ha : hv_okB d1 l1
    · simp
    · cases hb : hv_okB d2 l2
      · simp
      · have z : ¬ l1.length = l2.length := fun hz => h ⟨ha, hb, hz⟩
        have z2 : ((l1.length : Int) != (l2.length : Int)) = true := by simp; omega
        simp [z2, t1, t2]
theorem addF_length (d1 : Int) (l1 : List Int) (d2 : Int) (l2 : List Int) : (addF d1 l1 d2 l2).2.1.length ≤ 1000000 := by
  unfold addF
  split
  · rename_i h
    have := okB_len h.1
    exact toldF_length _ _ (by rw [List.length_zipWith]; omega)
  · simp

theorem addF_comm (d1 : Int) (l1 : List Int) (d2 : Int) (l2 : List Int) : addF d2 l2 d1 l1 = addF d1 l1 d2 l2 := by
  unfold addF
  have e : List.zipWith (adM d2 d1) l2 l1 = List.zipWith (adM d1 d2) l1 l2 := by
    rw [List.zipWith_comm]
    congr 1
    funext a b
    unfold adM; rw [Int.add_comm]
  by_cases h : hv_okB d1 l1 = true ∧ hv_okB d2 l2 = true ∧ l1.length = l2.length
  · rw [if_pos h, if_pos ⟨h.2.1, h.1, h.2.2.symm⟩, e, Int.mul_comm d2 d1]
  · rw [if_neg h, if_neg (fun g => h ⟨g.2.1, g.1, g.2.2.symm⟩)]
theorem quo_exact {g x : Int} (h : g ∣ x) (hx : InM x) : quo g x * g = x := by
  unfold InM at hx
  have hle : (x.tdiv g).natAbs ≤ x.natAbs := by rw [Int.natAbs_tdiv]; exact Nat.div_le_self ..
  unfold quo
  rw [wr (by omega) (by omega)]
  exact Int.tdiv_mul_cancel h
theorem quo_mul {g c : Int} (hg : g ≠ 0) (hc : InM c) : quo g (c * g) = c := by
  unfold InM at hc
  unfold quo
  rw [Int.mul_tdiv_cancel c hg, wr (by omega) (by omega)]
theorem tG_dvd (d : Int) (l : List Int) : tG d l ∣ d ∧ ∀ x ∈ l, tG d l ∣ x := by
  obtain ⟨h1, h2⟩ := common_dvd l d
  have : ∀ y, hv_common d l ∣ y → tG d l ∣ y := by
    intro y hy
    unfold tG
    split
    · exact Int.neg_dvd.2 (Int.natAbs_dvd.2 hy)
    · exact Int.natAbs_dvd.2 hy
  exact ⟨this _ h1, fun x hx => this _ (h2 x hx)⟩
theorem tG_sign {d : Int} (l : List Int) (hd : d ≠ 0) : (d < 0 → tG d l < 0) ∧ (0 < d → 0 < tG d l) := by
  have := tG_ne l hd
  unfold tG at *
  constructor
  · intro h; rw [if_pos h] at *; omega
  · intro h; rw [if_neg (by omega)] at *; omega
theorem tG_abs (d : Int) (l : List Int) : (tG d l).natAbs = (hv_common d l).natAbs := by
  unfold tG; split <;> omega
theorem sign_eq {a b : Int} (h : a.natAbs = b.natAbs) (h1 : 0 < a ↔ 0 < b) : a = b := by omega
theorem mul_pos_iff {a b : Int} (ha : a ≠ 0) (hb : b ≠ 0) : 0 < a * b ↔ ((0 < a ∧ 0 < b) ∨ (a < 0 ∧ b < 0)) := by
  constructor
  · intro h
    rcases Int.lt_trichotomy a 0 with h1 | h1 | h1
    · rcases Int.lt_trichotomy b 0 with h2 | h2 | h2
      · exact .inr ⟨h1, h2⟩
      · exact absurd h2 hb
      · exact absurd (Int.mul_neg_of_neg_of_pos h1 h2) (by omega)
    · exact absurd h1 ha
    · rcases Int.lt_trichotomy b 0 with h2 | h2 | h2
      · exact absurd (Int.mul_neg_of_pos_of_neg h1 h2) (by omega)
      · exact absurd h2 hb
      · exact .inl ⟨h1, h2⟩
  · rintro (⟨h1, h2⟩ | ⟨h1, h2⟩)
    · exact Int.mul_pos h1 h2
    · exact Int.mul_pos_of_neg_of_neg h1 h2
theorem scale_back (d : Int) (l : List Int) (n m D : Int) (A : List Int) (h : scaleF d l n m = (D, A, true)) (hn : n ≠ 0) : scaleF D A m n = (d, l, true) := by
  unfold scaleF at h
  by_cases hc : hv_okB d l = true ∧ smB n = true ∧ smB m = true ∧ m ≠ 0
  · rw [if_pos hc] at h
    obtain ⟨c1, c2, c3⟩ := scale_cond hc
    obtain ⟨o1, sn, sm, hm⟩ := hc
    obtain ⟨d1, d2, d3⟩ := okB_in o1
    have sn' := smB_iff.1 sn
    have sm' := smB_iff.1 sm
    generalize hD0 : wrap64 (d * m) = D0 at *
    generalize hL : l.map (scM n) = L at *
    unfold toldF at h
    generalize hG : tG D0 L = G at *
    have hGne : G ≠ 0 := by rw [← hG]; exact tG_ne L c1
    by_cases hok : hv_okB (quo G D0) (L.map (quo G)) = true
    · rw [if_pos hok] at h
      simp only [Prod.mk.injEq, and_true] at h
      obtain ⟨hD, hA⟩ := h
      rw [hD, hA] at hok
      obtain ⟨e1, e2, e3⟩ := okB_in hok
      obtain ⟨p1, q1⟩ := mul_in (x := d) (y := m) (a := 720) (b := 1000000000) (by omega) (by omega) (by omega) (by omega) (by omega) (by omega)
      rw [wr (by omega) (by omega)] at hD0
      obtain ⟨v1, v2⟩ := tG_dvd D0 L
      rw [hG] at v1 v2
      have f1 : D * G = d * m := by rw [← hD, quo_exact v1 c2, hD0]
      have hLl : ∀ x ∈ l, scM n x = x * n := by
        intro x hx
        obtain ⟨u, v⟩ := d3 x hx
        obtain ⟨p, q⟩ := mul_in (x := x) (y := n) (a := 100000) (b := 1000000000) (by omega) (by omega) (by omega) (by omega) (by omega) (by omega)
        unfold scM; rw [wr (by omega) (by omega)]
      have f2 : (A.map fun x => x * G) = l.map fun x => x * n := by
        rw [← hA, ← hL, List.map_map, List.map_map]
        apply List.map_congr_left
        intro x hx
        have hmem : scM n x ∈ L := by rw [← hL]; exact List.mem_map_of_mem hx
        show quo G (scM n x) * G = x * n
        rw [quo_exact (v2 _ hmem) (c3 _ hmem), hLl x hx]
      unfold scaleF
      rw [if_pos ⟨hok, sm, sn, hn⟩]
      obtain ⟨p2, q2⟩ := mul_in (x := D) (y := n) (a := 720) (b := 1000000000) (by omega) (by omega) (by omega) (by omega) (by omega) (by omega)
      rw [wr (x := D * n) (by omega) (by omega)]
      have hAm : A.map (scM m) = A.map fun x => x * m := by
        apply List.map_congr_left
        intro x hx
        obtain ⟨u, v⟩ := e3 x hx
        obtain ⟨p, q⟩ := mul_in (x := x) (y := m) (a := 100000) (b := 1000000000) (by omega) (by omega) (by omega) (by omega) (by omega) (by omega)
        unfold scM; rw [wr (by omega) (by omega)]
      rw [hAm]
      have hDn : D * n ≠ 0 := Int.mul_ne_zero (by omega) hn
      generalize hG' : tG (D * n) (A.map fun x => x * m) = G'
      have hGne' : G' ≠ 0 := by rw [← hG']; exact tG_ne _ hDn
      -- |G' * G| = |n * m|
      have k1 : G'.natAbs * G.natAbs = (n * m).natAbs := by
        have a1 := common_abs G (A.map fun x => x * m) (D * n * G) (D * n) (Int.natAbs_mul ..)
        have a2 := common_abs (n * m) l (d * (n * m)) d (Int.natAbs_mul ..)
        have a3 : D * n * G = d * (n * m) := by
          have : D * n * G = (D * G) * n := by ac_nf
          rw [this, f1]; ac_nf
        have a4 : ((A.map fun x => x * m).map fun x => x * G) = l.map fun x => x * (n * m) := by
          have b1 : ((A.map fun x => x * m).map fun x => x * G) = (A.map fun x => x * G).map fun x => x * m := by
            rw [List.map_map, List.map_map]
            apply List.map_congr_left
            intro x _
            show x * m * G = x * G * m
            ac_nf
          rw [b1, f2, List.map_map]
          apply List.map_congr_left
          intro x _
          show x * n * m = x * (n * m)
          ac_nf
        rw [a3, a4, a2, okB_one o1] at a1
        rw [← hG', tG_abs, ← a1]
        show (1 : Nat) * _ = _
        omega
      have k2 : G' * G = n * m := by
        refine sign_eq (by rw [Int.natAbs_mul]; exact k1) ?_
        rw [mul_pos_iff hGne' hGne, mul_pos_iff hn hm]
        obtain ⟨s1, s2⟩ := tG_sign (A.map fun x => x * m) hDn
        obtain ⟨s3, s4⟩ := tG_sign L c1
        rw [hG'] at s1 s2
        rw [hG] at s3 s4
        have z1 : 0 < D * n ↔ 0 < n := by rw [mul_pos_iff (by omega) hn]; omega
        have z2 : 0 < D0 ↔ 0 < m := by rw [← hD0, mul_pos_iff (by omega) hm]; omega
        omega
      have k3 : D * n = d * G' := by
        refine Int.eq_of_mul_eq_mul_right hGne ?_
        have t1 : D * n * G = D * G * n := by ac_nf
        have t2 : d * G' * G = d * (G' * G) := by ac_nf
        rw [t1, t2, f1, k2]; ac_nf
      have k4 : ((A.map fun x => x * m).map (quo G')) = l := by
        have b0 : (A.map fun x => x * m) = l.map fun x => x * G' := by
          have inj : ∀ x y : Int, x * G = y * G → x = y := fun x y h => Int.eq_of_mul_eq_mul_right hGne h
          refine (List.map_inj_right inj).1 ?_
          have b1 : ((A.map fun x => x * m).map fun x => x * G) = (A.map fun x => x * G).map fun x => x * m := by
            rw [List.map_map, List.map_map]
            apply List.map_congr_left
            intro x _
            show x * m * G = x * G * m
            ac_nf
          rw [b1, f2, List.map_map, List.map_map]
          apply List.map_congr_left
          intro x _
          show x * n * m = x * G' * G
          have t1 : x * n * m = x * (n * m) := by ac_nf
          have t2 : x * G' * G = x * (G' * G) := by ac_nf
          rw [t1, t2, k2]
        rw [b0, List.map_map]
        have : ∀ x ∈ l, (quo G' ∘ fun x => x * G') x = id x := by
          intro x hx
          obtain ⟨u, v⟩ := d3 x hx
          exact quo_mul hGne' (by unfold InM; omega)
        rw [List.map_congr_left this, List.map_id]
      unfold toldF
      rw [hG', k4, k3, quo_mul hGne' (by unfold InM; omega), if_pos o1]
    · rw [if_neg hok] at h; simp at h
  · rw [if_neg hc] at h; simp at h
theorem drawScale_some (b : List Int) (hn : b.length ≤ 9223372036854775806) : ∃ K D A n m, (∀ k, K ≤ k → spec_DrawVecScale.f k b = some (D, A, n, m)) ∧ A.length ≤ 1000000 := by
  obtain ⟨h0, e0⟩ := new_all b hn
  obtain ⟨r, p1, h1, e1, hr0, hr1, _, hp1⟩ := below_some b 0 h0 9 (by omega) hn
  have hr1 := hr1 (by omega)
  obtain ⟨K1, D, A, p2, h2, e2, hA, hp2⟩ := l04Any_some b hn p1 h1 r hp1 (by omega)
  obtain ⟨s, p3, h3, e3, _, hp3⟩ := pickInt_some b p2 h2 ([0, 1, (-1), 2, 3, 12, 100000, 1000000000, (-1000000001)] : List Int) hp2 hn (by decide)
  obtain ⟨t, p4, h4, e4, _, hp4⟩ := pickInt_some b p3 h3 ([1, 1, (-1), 2, 3, 12, 720, 0, 1000000000, 1000000001] : List Int) hp3 hn (by decide)
  refine ⟨K1 + b.length + 1, D, A, s, t, fun k hk => ?_, hA⟩
  unfold spec_DrawVecScale.f
  have f0 := e0 k (by omega)
  have f2 := e2 k (by omega)
  simp only [f0, e1, f2, e3, e4, Option.bind_some]
end AFnVec
open AFnVec

theorem FnVec : laws_FnVec.Pure := by
  intro l hm _ _
  unfold maxLen at hm
  obtain ⟨K1, d1, l1, d2, l2, hd, hl1, hl2⟩ := two_some spec_DrawVecAdd.f 9 (by omega) (by omega) (fun _ _ => rfl) l (by omega)
  obtain ⟨K2, d, v, n, m, hs, hv⟩ := drawScale_some l (by omega)
  obtain ⟨K3, h3⟩ := add_both d1 l1 d2 l2
  obtain ⟨K4, h4⟩ := add_both d2 l2 d1 l1
  obtain ⟨K5, h5⟩ := both_eq d v n m
  have hAl := addF_length d1 l1 d2 l2
  have hcomm := addF_comm d1 l1 d2 l2
  have hSl := scaleF_length d v n m
  obtain ⟨D, A, g, hF⟩ : ∃ D A g, addF d1 l1 d2 l2 = (D, A, g) := ⟨_, _, _, rfl⟩
  obtain ⟨E, C, o, hG⟩ : ∃ E C o, scaleF d v n m = (E, C, o) := ⟨_, _, _, rfl⟩
  obtain ⟨K6, h6⟩ := both_eq E C m n
  rw [hF] at h3 hAl hcomm
  rw [hcomm] at h4
  rw [hG] at h5 hSl
  have hAl : A.length ≤ 1000000 := hAl
  have hSl : C.length ≤ 1000000 := hSl
  obtain ⟨K, hK⟩ : ∃ K, K1 + K2 + K3 + K4 + K5 + K6 + 4000002 ≤ K := ⟨_, Nat.le_refl _⟩
  obtain ⟨k, hk⟩ : ∃ k, K + 2 = k := ⟨_, rfl⟩
  refine ⟨k, ?_⟩
  unfold laws_FnVec.f laws_big.f
  simp only [Option.bind_some]
  by_cases hb : (l.length : Int) > 1048576
  · simp [hb]
  · have hb' : decide ((l.length : Int) > 1048576) = false := decide_eq_false hb
    rw [hb']
    have a1 := hd k (by omega)
    have a2 := (h3 k (by omega)).1
    have a3 := (h3 k (by omega)).2
    have a4 := (h4 k (by omega)).2
    simp only [Bool.false_eq_true, if_false, a1, a2, a3, a4, Option.bind_some, bne_self_eq_false]
    rw [same_eq k D D A A hAl (by omega)]
    simp only [and_self, decide_true, Option.bind_some, Bool.not_true]
    subst hk
    have b1 := hs (K + 1) (by omega)
    have b2 := (h5 (K + 1) (by omega)).1
    have b3 := (h5 (K + 1) (by omega)).2
    simp only [laws_FnVec.j0, Bool.false_eq_true, if_false, b1, b2, b3, Option.bind_some, bne_self_eq_false]
    cases o
    · simp only [Bool.false_eq_true, if_false, laws_FnVec.j1, if_true]
    · simp only [if_true, laws_FnVec.j1]
      by_cases hn : n = 0
      · have z : (n == 0) = true := by simp [hn]
        simp only [z, if_true]
      · have z : (n == 0) = false := by simp [hn]
        have hback := scale_back d v n m E C hG hn
        rw [hback] at h6
        have b4 := (h6 K (by omega)).2
        simp only [z, Bool.false_eq_true, if_false, b4, Option.bind_some, if_true]
        rw [same_eq K d d v v hv (by omega)]
        simp

end Go.Proofs.Ytjdndacollpjkaa.Pure
