/- Of two texts just one of these holds: the first is less, they are one, the second is less; at every code of the draw. -/
import Derived.Test.YtgjnjimlaipjcaaMFnOrderx4
namespace Go.Proofs.Ytgjnjimlaipjcaa.Pure
open Go.RowKit Go.Proofs.Ytgjnjimlaipjcaa.PFnOrder Go.Proofs.YtgjnjimlaipjcaaW.PrintWords Go.Proofs.YtgjnjimlaipjcaaW.PrintLast
namespace AFnOrder

theorem wr {x : Int} (h1 : -9223372036854775808 ≤ x) (h2 : x ≤ 9223372036854775807) : wrap64 x = x := by
  unfold wrap64; omega

theorem and_range (x : Int) : 0 ≤ Go.bits .and .i64 x 255 ∧ Go.bits .and .i64 x 255 ≤ 255 := by
  have h : Go.bits .and .i64 x 255 = IntKind.i64.wrap ((BitVec.ofInt 64 x &&& BitVec.ofInt 64 255).toNat : Int) := rfl
  rw [h, BitVec.toNat_and]
  have h2 : (BitVec.ofInt 64 255).toNat = 255 := by decide
  rw [h2]
  have h3 : (BitVec.ofInt 64 x).toNat &&& 255 ≤ 255 := Nat.and_le_right
  rw [IntKind.wrap_i64]
  omega
theorem byte_some (b : List Int) (i h : Int) (hi : 0 ≤ i) (hn : b.length ≤ 9223372036854775806) : ∃ r i' h', spec_l01Byte.f b i h = some (r, i', h') ∧ 0 ≤ r ∧ r ≤ 255 ∧ 0 ≤ i' := by
  unfold spec_l01Byte.f
  by_cases hlt : i < (b.length : Int)
  · rw [if_pos hlt, if_pos hi]
    exact ⟨_, _, _, rfl, (and_range _).1, (and_range _).2, by rw [wr (by omega) (by omega)]; omega⟩
  · rw [if_neg hlt]
    exact ⟨_, _, _, rfl, (and_range _).1, (and_range _).2, hi⟩
theorem below_some (b : List Int) (i h n : Int) (hi : 0 ≤ i) (hn : b.length ≤ 9223372036854775806) : ∃ r i' h', spec_l01Below.f b i h n = some (r, i', h') ∧ 0 ≤ r ∧ (0 < n → r < n) ∧ (n ≤ 0 → r = 0) ∧ 0 ≤ i' := by
  unfold spec_l01Below.f
  by_cases h0 : n ≤ 0
  · rw [if_pos h0]; exact ⟨_, _, _, rfl, by omega, fun h => by omega, fun _ => rfl, hi⟩
  · rw [if_neg h0]
    by_cases h1 : n ≤ 256
    · rw [if_pos h1]
      obtain ⟨r, i1, h1, e1, ra, rb, hi1⟩ := byte_some b i h hi hn
      rw [e1]
      simp only [Option.bind_some]
      rw [if_neg (by omega)]
      refine ⟨_, _, _, rfl, ?_, fun _ => ?_, fun h => absurd h h0, hi1⟩
      · rw [Int.tmod_eq_emod_of_nonneg ra]; exact Int.emod_nonneg _ (by omega)
      · rw [Int.tmod_eq_emod_of_nonneg ra]; exact Int.emod_lt_of_pos _ (by omega)
    · rw [if_neg h1]
      obtain ⟨r1, i1, h1, e1, ra1, rb1, hi1⟩ := byte_some b i h hi hn
      obtain ⟨r2, i2, h2, e2, ra2, rb2, hi2⟩ := byte_some b i1 h1 hi1 hn
      obtain ⟨r3, i3, h3, e3, ra3, rb3, hi3⟩ := byte_some b i2 h2 hi2 hn
      obtain ⟨r4, i4, h4, e4, ra4, rb4, hi4⟩ := byte_some b i3 h3 hi3 hn
      rw [e1]; simp only [Option.bind_some]
      rw [e2]; simp only [Option.bind_some]
      rw [e3]; simp only [Option.bind_some]
      rw [e4]; simp only [Option.bind_some]
      rw [if_neg (by omega), wr (x := r1 * 16777216) (by omega) (by omega), wr (x := r2 * 65536) (by omega) (by omega), wr (x := r3 * 256) (by omega) (by omega)]
      rw [wr (x := r1 * 16777216 + r2 * 65536) (by omega) (by omega), wr (x := r1 * 16777216 + r2 * 65536 + r3 * 256) (by omega) (by omega), wr (x := r1 * 16777216 + r2 * 65536 + r3 * 256 + r4) (by omega) (by omega)]
      have hnn : 0 ≤ r1 * 16777216 + r2 * 65536 + r3 * 256 + r4 := by omega
      refine ⟨_, _, _, rfl, ?_, fun _ => ?_, fun h => absurd h h0, hi4⟩
      · rw [Int.tmod_eq_emod_of_nonneg hnn]; exact Int.emod_nonneg _ (by omega)
      · rw [Int.tmod_eq_emod_of_nonneg hnn]; exact Int.emod_lt_of_pos _ (by omega)
theorem new_loop (b : List Int) (hn : b.length ≤ 9223372036854775806) (d : Nat) : ∀ (k i : Nat) (h : Int), i + d = b.length → d < k → ∃ h', spec_l01New.l0 k b h (i : Int) = some (b, 0, h') := by
  induction d with
  | zero =>
    intro k i h hi hk
    obtain ⟨k, rfl⟩ : ∃ m, k = m + 1 := ⟨k - 1, by omega⟩
    simp only [spec_l01New.l0]
    rw [if_neg (by omega)]
    exact ⟨_, rfl⟩
  | succ d ih =>
    intro k i h hi hk
    obtain ⟨k, rfl⟩ : ∃ m, k = m + 1 := ⟨k - 1, by omega⟩
    simp only [spec_l01New.l0]
    rw [if_pos (by omega)]
    by_cases h4 : (i : Int) < 4000
    · rw [if_pos h4, if_pos (by omega), wr (x := (i : Int) + 1) (by omega) (by omega)]
      exact ih k (i + 1) _ (by omega) (by omega)
    · rw [if_neg h4]; exact ⟨_, rfl⟩
theorem new_some (b : List Int) (hn : b.length ≤ 9223372036854775806) (k : Nat) (hk : b.length < k) : ∃ h, spec_l01New.f k b = some (b, 0, h) := by
  unfold spec_l01New.f
  exact new_loop b hn b.length k 0 _ (by omega) hk

def lA : Int := 6364136223846793005
def lC : Int := 1442695040888963407
/-- the generator's next state -/
def nx (h : Int) : Int := wrap64 (wrap64 (h * 6364136223846793005) + 1442695040888963407)
/-- the same without wrapping -/
def gx (h : Int) : Int := h * lA + lC
def gxN : Nat → Int → Int
  | 0, h => h
  | n + 1, h => gxN n (gx h)
def nxN : Nat → Int → Int
  | 0, h => h
  | n + 1, h => nxN n (nx h)
theorem gxN_add (m n : Nat) (h : Int) : gxN (m + n) h = gxN n (gxN m h) := by
  induction m generalizing h with
  | zero => rw [Nat.zero_add]; rfl
  | succ m ih => rw [Nat.succ_add]; exact ih (gx h)
theorem nxN_add (m n : Nat) (h : Int) : nxN (m + n) h = nxN n (nxN m h) := by
  induction m generalizing h with
  | zero => rw [Nat.zero_add]; rfl
  | succ m ih => rw [Nat.succ_add]; exact ih (nx h)
/-- two to the k rounds: x goes to a * x + c, a one more than a multiple of 2^(k+2), c an odd multiple of 2^k -/
theorem gx_pow (k : Nat) : ∃ t s : Int, ∀ x, gxN (2 ^ k) x = (1 + 2 ^ (k + 2) * t) * x + 2 ^ k * (1 + 2 * s) := by
  induction k with
  | zero => exact ⟨1591034055961698251, 721347520444481703, fun x => by
      show gx x = _
      unfold gx lA lC; omega⟩
  | succ k ih =>
    obtain ⟨t, s, h⟩ := ih
    refine ⟨t + 2 ^ (k + 1) * t * t, s + 2 ^ k * t * (1 + 2 * s), fun x => ?_⟩
    have e : (2 : Nat) ^ (k + 1) = 2 ^ k + 2 ^ k := by rw [Nat.pow_succ]; omega
    rw [e, gxN_add, h, h]
    have p1 : (2 : Int) ^ (k + 2) = 4 * 2 ^ k := by rw [Int.pow_succ, Int.pow_succ]; omega
    have p2 : (2 : Int) ^ (k + 1) = 2 * 2 ^ k := by rw [Int.pow_succ]; omega
    have p3 : (2 : Int) ^ (k + 1 + 2) = 8 * 2 ^ k := by rw [Int.pow_succ, Int.pow_succ, Int.pow_succ]; omega
    rw [p1, p2, p3]
    generalize (2 : Int) ^ k = q
    simp only [Int.mul_add, Int.add_mul, Int.mul_one, Int.one_mul]
    have a1 : 4 * q * t * (4 * q * t * x) = 16 * (q * q * (t * t) * x) := by ac_nf
    have a2 : 8 * q * (2 * q * t * t) * x = 16 * (q * q * (t * t) * x) := by ac_nf
    have a3 : 4 * q * t * q = 4 * (q * q * t) := by ac_nf
    have a4 : 4 * q * t * (q * (2 * s)) = 8 * (q * q * t * s) := by ac_nf
    have a5 : 2 * q * (2 * (q * t)) = 4 * (q * q * t) := by ac_nf
    have a6 : 2 * q * (2 * (q * t * (2 * s))) = 8 * (q * q * t * s) := by ac_nf
    have a7 : 8 * q * t * x = 4 * q * t * x + 4 * q * t * x := by
      rw [← Int.add_mul, ← Int.add_mul, ← Int.add_mul]; rfl
    have a8 : 2 * q * (2 * s) = q * (2 * s) + q * (2 * s) := by
      rw [← Int.add_mul]; congr 1; omega
    omega
/-- every state is reached, in its lowest k bits -/
theorem gx_reach (y : Int) (k : Nat) : ∀ x : Int, ∃ n, (2 ^ k : Int) ∣ gxN n x - y := by
  induction k with
  | zero => intro x; exact ⟨0, by simp⟩
  | succ k ih =>
    intro x
    obtain ⟨n, d, hd⟩ := ih x
    obtain ⟨t, s, hp⟩ := gx_pow k
    have p1 : (2 : Int) ^ (k + 1) = 2 * 2 ^ k := by rw [Int.pow_succ]; omega
    have p2 : (2 : Int) ^ (k + 2) = 4 * 2 ^ k := by rw [Int.pow_succ, Int.pow_succ]; omega
    rcases Int.emod_two_eq d with h | h
    · refine ⟨n, d / 2, ?_⟩
      have : d = 2 * (d / 2) := by omega
      rw [hd, p1]
      generalize d / 2 = e at *
      subst this
      rw [Int.mul_comm 2 (2 ^ k), Int.mul_assoc]
    · refine ⟨n + 2 ^ k, d / 2 + 1 + s + 2 * t * gxN n x, ?_⟩
      have : d = 2 * (d / 2) + 1 := by omega
      have hy : gxN n x = y + 2 ^ k * d := by omega
      rw [gxN_add, hp, p1, p2]
      generalize d / 2 = e at *
      subst this
      generalize gxN n x = w at *
      subst hy
      generalize (2 : Int) ^ k = q
      generalize hw : y + q * (2 * e + 1) = w
      rw [Int.add_mul, Int.one_mul]
      have b1 : 4 * q * t * w = 2 * q * (2 * t * w) := by ac_nf
      have b2 : 2 * q * (e + 1 + s + 2 * t * w) = 2 * q * e + 2 * q + 2 * q * s + 2 * q * (2 * t * w) := by
        simp only [Int.mul_add, Int.mul_one]
      have b3 : q * (1 + 2 * s) = q + 2 * q * s := by
        rw [Int.mul_add, Int.mul_one]; congr 1; ac_nf
      have b4 : q * (2 * e + 1) = 2 * q * e + q := by
        rw [Int.mul_add, Int.mul_one]; congr 1; ac_nf
      rw [b1, b2, b3, ← hw, b4]
      generalize 2 * q * (2 * t * (y + (2 * q * e + q))) = z
      omega
theorem wrap_congr (x : Int) : ∃ d, wrap64 x = x + 18446744073709551616 * d := by
  unfold wrap64
  exact ⟨-((x + 9223372036854775808) / 18446744073709551616), by omega⟩
theorem wrap_range (x : Int) : -9223372036854775808 ≤ wrap64 x ∧ wrap64 x ≤ 9223372036854775807 := by unfold wrap64; omega
theorem nx_congr (h h' d : Int) (e : h = h' + 18446744073709551616 * d) : ∃ d', nx h = gx h' + 18446744073709551616 * d' := by
  obtain ⟨d1, e1⟩ := wrap_congr (h * 6364136223846793005)
  obtain ⟨d2, e2⟩ := wrap_congr (wrap64 (h * 6364136223846793005) + 1442695040888963407)
  refine ⟨d * 6364136223846793005 + d1 + d2, ?_⟩
  unfold nx gx lA lC
  rw [e2, e1, e]
  omega
theorem nxN_congr (n : Nat) : ∀ h h' d : Int, h = h' + 18446744073709551616 * d → ∃ d', nxN n h = gxN n h' + 18446744073709551616 * d' := by
  induction n with
  | zero => intro h h' d e; exact ⟨d, e⟩
  | succ n ih =>
    intro h h' d e
    obtain ⟨d1, e1⟩ := nx_congr h h' d e
    exact ih _ _ d1 e1
theorem nxN_range (n : Nat) : ∀ h : Int, -9223372036854775808 ≤ nxN (n + 1) h ∧ nxN (n + 1) h ≤ 9223372036854775807 := by
  induction n with
  | zero => intro h; exact wrap_range _
  | succ n ih => intro h; exact ih (nx h)
/-- THE GENERATOR COMES TO EVERY STATE -/
theorem nx_reach (y : Int) (hy : -9223372036854775808 ≤ y) (hy' : y ≤ 9223372036854775807) (h : Int) : ∃ n, nxN n h = y := by
  obtain ⟨n, d, hd⟩ := gx_reach y 64 (gx h)
  obtain ⟨d', e⟩ := nxN_congr (n + 1) h h 0 (by omega)
  have hr := nxN_range n h
  refine ⟨n + 1, ?_⟩
  have p : (2 : Int) ^ 64 = 18446744073709551616 := by decide
  rw [p] at hd
  have hg : gxN (n + 1) h = gxN n (gx h) := rfl
  rw [hg] at e
  omega

/-- the byte that the generator tells of a state -/
def xb (h : Int) : Int := Go.bits .and .i64 (Go.bits .xor .i64 (h / 8589934592) (h / 35184372088832)) 255
theorem byte_end (b : List Int) (i h : Int) (hi : (b.length : Int) ≤ i) : spec_l01Byte.f b i h = some (xb (nx h), i, nx h) := by
  unfold spec_l01Byte.f
  rw [if_neg (by omega)]
  rfl
theorem byte_mid (b : List Int) (i h : Int) (h0 : 0 ≤ i) (hi : i < (b.length : Int)) (hn : b.length ≤ 9223372036854775806) : ∃ r, spec_l01Byte.f b i h = some (r, i + 1, nx h) ∧ 0 ≤ r ∧ r ≤ 255 := by
  unfold spec_l01Byte.f
  rw [if_pos hi, if_pos h0, wr (x := i + 1) (by omega) (by omega)]
  exact ⟨_, rfl, (and_range _).1, (and_range _).2⟩
/-- a draw below n, n of 1 .. 256: one byte -/
theorem below_one (b : List Int) (i h n : Int) (h0 : 0 < n) (h1 : n ≤ 256) (hi : 0 ≤ i) (hn : b.length ≤ 9223372036854775806) :
    ∃ r i', spec_l01Below.f b i h n = some (r, i', nx h) ∧ 0 ≤ r ∧ r < n ∧ i ≤ i' ∧ (i < b.length → i < i') ∧ ((b.length : Int) ≤ i → i' = i ∧ r = Int.tmod (xb (nx h)) n) := by
  unfold spec_l01Below.f
  rw [if_neg (by omega), if_pos h1]
  by_cases hlt : i < (b.length : Int)
  · obtain ⟨r, e, r0, r1⟩ := byte_mid b i h hi hlt hn
    rw [e]; simp only [Option.bind_some]
    rw [if_neg (by omega)]
    refine ⟨_, _, rfl, ?_, ?_, by omega, fun _ => by omega, fun h => by omega⟩
    · rw [Int.tmod_eq_emod_of_nonneg r0]; exact Int.emod_nonneg _ (by omega)
    · rw [Int.tmod_eq_emod_of_nonneg r0]; exact Int.emod_lt_of_pos _ (by omega)
  · rw [byte_end b i h (by omega)]; simp only [Option.bind_some]
    rw [if_neg (by omega)]
    have r0 : 0 ≤ xb (nx h) := (and_range _).1
    refine ⟨_, _, rfl, ?_, ?_, by omega, fun h => by omega, fun _ => ⟨rfl, rfl⟩⟩
    · rw [Int.tmod_eq_emod_of_nonneg r0]; exact Int.emod_nonneg _ (by omega)
    · rw [Int.tmod_eq_emod_of_nonneg r0]; exact Int.emod_lt_of_pos _ (by omega)

/-- the text's loop comes to an end, from here on -/
def Ends (n : Int) (out b : List Int) (i h : Int) : Prop := ∃ s i' h' K, (∀ k, K ≤ k → spec_l01Text.l0 k n out b i h = some (s, i', h')) ∧ (s.size : Int) = n ∧ 0 ≤ i'
/-- what a round does: it goes on there -/
def Goes (n : Int) (out b : List Int) (i h : Int) (out' : List Int) (i' h' : Int) : Prop := ∃ c, ∀ k, spec_l01Text.l0 (k + c) n out b i h = spec_l01Text.l0 k n out' b i' h'
theorem Goes.ends {n : Int} {out b : List Int} {i h : Int} {out' : List Int} {i' h' : Int} (g : Goes n out b i h out' i' h') (e : Ends n out' b i' h') : Ends n out b i h := by
  obtain ⟨c, hc⟩ := g
  obtain ⟨s, j, q, K, hK, hs⟩ := e
  refine ⟨s, j, q, K + c, fun k hk => ?_, hs⟩
  obtain ⟨m, rfl⟩ : ∃ m, k = m + c := ⟨k - c, by omega⟩
  rw [hc]; exact hK m (by omega)
theorem strOf_size (l : List Int) : (strOfNums l).size = l.length := by
  unfold strOfNums
  simp [ByteArray.size]
theorem ends_now (n : Int) (out b : List Int) (i h : Int) (h0 : 0 ≤ n) (hl : n ≤ out.length) (hi : 0 ≤ i) : Ends n out b i h := by
  refine ⟨strOfNums (out.take n.toNat), i, h, 1, fun k hk => ?_, ?_, hi⟩
  · obtain ⟨k, rfl⟩ : ∃ m, k = m + 1 := ⟨k - 1, by omega⟩
    simp only [spec_l01Text.l0]
    rw [if_neg (by omega), if_pos h0, if_pos hl]
  · rw [strOf_size, List.length_take]; omega
theorem l1_goes (n : Int) (b : List Int) (i h x7 : Int) (d : Nat) : ∀ (out : List Int) (x6 x8 : Int), (x6 - x8).toNat = d → 0 ≤ x8 → x6 ≤ 255 → out.length + d ≤ 1000 →
    ∀ k, spec_l01Text.l1 (k + (d + 1)) n out x6 x7 x8 b i h = spec_l01Text.l0 k n (out ++ List.replicate d x7) b i h := by
  induction d with
  | zero =>
    intro out x6 x8 hd h0 h6 ho k
    simp only [spec_l01Text.l1]
    rw [if_neg (by omega)]
    simp
  | succ d ih =>
    intro out x6 x8 hd h0 h6 ho k
    obtain ⟨m, hm⟩ : ∃ m, m = k + (d + 1) := ⟨_, rfl⟩
    have e : k + (d + 1 + 1) = m + 1 := by omega
    rw [e]
    simp only [spec_l01Text.l1]
    rw [if_pos (by omega), if_pos (by omega), wr (by omega) (by omega), hm]
    rw [ih (out ++ [x7]) x6 (x8 + 1) (by omega) (by omega) h6 (by simp; omega) k, List.append_assoc]
    rfl
theorem l2_goes (n : Int) (b : List Int) (i h x9 : Int) (h9 : 0 ≤ x9) (h9' : x9 ≤ 1000) (d : Nat) : ∀ (out : List Int) (x10 x11 : Int), (x10 - x11).toNat = d → 0 ≤ x11 → x10 ≤ 255 → out.length + d ≤ 1000 →
    ∃ out' c, out.length ≤ out'.length ∧ out'.length ≤ out.length + d ∧ (out'.length = out.length → out' = out) ∧ ∀ k, spec_l01Text.l2 (k + c) n out x9 x10 x11 b i h = spec_l01Text.l0 k n out' b i h := by
  induction d with
  | zero =>
    intro out x10 x11 hd h0 h6 ho
    refine ⟨out, 1, Nat.le_refl _, by omega, fun _ => rfl, fun k => ?_⟩
    simp only [spec_l01Text.l2]
    rw [if_neg (by omega)]
  | succ d ih =>
    intro out x10 x11 hd h0 h6 ho
    by_cases hlt : x9 + x11 < (out.length : Int)
    · obtain ⟨out', c, hl, hl2, _, hk⟩ := ih (out ++ [rd out (x9 + x11)]) x10 (x11 + 1) (by omega) (by omega) h6 (by simp; omega)
      rw [List.length_append] at hl hl2
      simp only [List.length_cons, List.length_nil] at hl hl2
      refine ⟨out', c + 1, by omega, by omega, fun e => by omega, fun k => ?_⟩
      rw [show k + (c + 1) = (k + c) + 1 from by omega]
      simp only [spec_l01Text.l2]
      rw [if_pos (by omega), wr (x := x9 + x11) (by omega) (by omega), if_pos hlt, if_pos (by omega), if_pos (by omega), wr (by omega) (by omega)]
      exact hk k
    · refine ⟨out, 1, Nat.le_refl _, by omega, fun _ => rfl, fun k => ?_⟩
      simp only [spec_l01Text.l2]
      rw [if_pos (by omega), wr (x := x9 + x11) (by omega) (by omega), if_neg hlt]
/-- a state at which a round adds nothing, it may be -/
def badB (h : Int) : Bool := decide (Int.tmod (xb (nx h)) 5 = 1 ∨ Int.tmod (xb (nx h)) 5 = 2)
theorem round_step (n : Int) (hn : n ≤ 200) (out b : List Int) (i h : Int) (hi : 0 ≤ i) (hb : b.length ≤ 9223372036854775806) (hlt : (out.length : Int) < n) :
    ∃ out' i' h', Goes n out b i h out' i' h' ∧ 0 ≤ i' ∧ out'.length ≤ 1000 ∧ (out.length < out'.length ∨ (out' = out ∧ (i < b.length → i < i') ∧ ((b.length : Int) ≤ i → i' = i ∧ (h' = nx h ∨ h' = nx (nx (nx h))) ∧ badB h = true))) := by
  obtain ⟨r, i1, e1, r0, r1, hi1, hm1, he1⟩ := below_one b i h 5 (by omega) (by omega) hi hb
  have hi1' : 0 ≤ i1 := by omega
  by_cases c0 : r = 0
  · subst c0
    have hby : ∃ r2 i2, spec_l01Byte.f b i1 (nx h) = some (r2, i2, nx (nx h)) ∧ 0 ≤ i2 := by
      by_cases hx : i1 < (b.length : Int)
      · obtain ⟨r2, e2, _⟩ := byte_mid b i1 (nx h) hi1' hx hb
        exact ⟨_, _, e2, by omega⟩
      · exact ⟨_, _, byte_end b i1 (nx h) (by omega), hi1'⟩
    obtain ⟨r2, i2, e2, hi2⟩ := hby
    refine ⟨out ++ [r2 % 256], i2, nx (nx h), ⟨1, fun k => ?_⟩, hi2, by simp; omega, Or.inl (by simp)⟩
    simp only [spec_l01Text.l0]
    rw [if_pos hlt, e1]; simp only [Option.bind_some, if_true]
    rw [e2]; simp only [Option.bind_some]
    rw [if_pos (by omega)]
  by_cases c1 : r = 1
  · subst c1
    obtain ⟨r2, i2, e2, q0, q1, hi2, hm2, he2⟩ := below_one b i1 (nx h) 9 (by omega) (by omega) hi1' hb
    have hi2' : 0 ≤ i2 := by omega
    obtain ⟨r3, i3, e3, p0, p1, hi3, hm3, he3⟩ := below_one b i2 (nx (nx h)) 4 (by omega) (by omega) hi2' hb
    have g := l1_goes n b i3 (nx (nx (nx h))) ((wrap64 (97 + r3)) % 256) r2.toNat out r2 0 (by omega) (by omega) (by omega) (by omega)
    refine ⟨out ++ List.replicate r2.toNat ((wrap64 (97 + r3)) % 256), i3, nx (nx (nx h)), ⟨(r2.toNat + 1) + 1, fun k => ?_⟩, by omega, by simp; omega, ?_⟩
    · rw [show k + ((r2.toNat + 1) + 1) = (k + (r2.toNat + 1)) + 1 from by omega]
      simp only [spec_l01Text.l0]
      rw [if_pos hlt, e1]; simp only [Option.bind_some, if_neg c0, if_true]
      rw [e2]; simp only [Option.bind_some]
      rw [e3]; simp only [Option.bind_some]
      exact g k
    · by_cases hz : r2.toNat = 0
      · refine Or.inr ⟨by rw [hz]; simp, fun hx => by have := hm1 hx; omega, fun hx => ?_⟩
        obtain ⟨a1, a2⟩ := he1 hx
        subst a1
        obtain ⟨b1, _⟩ := he2 hx
        subst b1
        obtain ⟨d1, _⟩ := he3 hx
        exact ⟨d1, Or.inr rfl, by unfold badB; rw [← a2]; decide⟩
      · exact Or.inl (by simp; omega)
  by_cases c2 : r = 2
  · subst c2
    by_cases hz : (out.length : Int) > 0
    · obtain ⟨r2, i2, e2, q0, q1, hi2, hm2, he2⟩ := below_one b i1 (nx h) (out.length : Int) (by omega) (by omega) hi1' hb
      have hi2' : 0 ≤ i2 := by omega
      obtain ⟨r3, i3, e3, p0, p1, hi3, hm3, he3⟩ := below_one b i2 (nx (nx h)) 20 (by omega) (by omega) hi2' hb
      obtain ⟨out', c, hl, hl2, hsame, hk⟩ := l2_goes n b i3 (nx (nx (nx h))) r2 q0 (by omega) r3.toNat out r3 0 (by omega) (by omega) (by omega) (by omega)
      by_cases hbig : out'.length ≤ 1000
      · refine ⟨out', i3, nx (nx (nx h)), ⟨c + 1, fun k => ?_⟩, by omega, hbig, ?_⟩
        · rw [show k + (c + 1) = (k + c) + 1 from by omega]
          simp only [spec_l01Text.l0]
          rw [if_pos hlt, e1]; simp only [Option.bind_some, if_neg c0, if_neg c1, if_true]
          rw [if_pos hz, e2]; simp only [Option.bind_some]
          rw [e3]; simp only [Option.bind_some]
          exact hk k
        · by_cases hgr : out.length < out'.length
          · exact Or.inl hgr
          · refine Or.inr ⟨hsame (by omega), fun hx => by have := hm1 hx; omega, fun hx => ?_⟩
            obtain ⟨a1, a2⟩ := he1 hx
            subst a1
            obtain ⟨b1, _⟩ := he2 hx
            subst b1
            obtain ⟨d1, _⟩ := he3 hx
            exact ⟨d1, Or.inr rfl, by unfold badB; rw [← a2]; decide⟩
      · exact absurd trivial (by omega)
    · refine ⟨out, i1, nx h, ⟨1, fun k => ?_⟩, hi1', by omega, Or.inr ⟨rfl, hm1, fun hx => ?_⟩⟩
      · simp only [spec_l01Text.l0]
        rw [if_pos hlt, e1]; simp only [Option.bind_some, if_neg c0, if_neg c1, if_true]
        rw [if_neg hz]
      · obtain ⟨a1, a2⟩ := he1 hx
        exact ⟨a1, Or.inl rfl, by unfold badB; rw [← a2]; decide⟩
  · obtain ⟨r2, i2, e2, q0, q1, hi2, hm2, he2⟩ := below_one b i1 (nx h) 26 (by omega) (by omega) hi1' hb
    refine ⟨out ++ [(wrap64 (97 + r2)) % 256], i2, nx (nx h), ⟨1, fun k => ?_⟩, by omega, by simp; omega, Or.inl (by simp)⟩
    simp only [spec_l01Text.l0]
    rw [if_pos hlt, e1]; simp only [Option.bind_some, if_neg c0, if_neg c1, if_neg c2]
    rw [e2]; simp only [Option.bind_some]
    rw [if_pos (by omega)]
theorem nxN_succ (m : Nat) (h : Int) : nxN (m + 1) h = nx (nxN m h) := nxN_add m 1 h
theorem nx8 : nx 8 = -2984447389465347401 := by unfold nx wrap64; decide
theorem nx8' : nx (-2984447389465347401) = 6702960577162501242 := by unfold nx wrap64; decide
theorem nx8'' : nx 6702960577162501242 = -929496508085319487 := by unfold nx wrap64; decide
theorem and_eq (a b : Int) : Go.bits .and .i64 a b = wrap64 ((BitVec.ofInt 64 a &&& BitVec.ofInt 64 b).toNat : Int) := by
  have h : Go.bits .and .i64 a b = IntKind.i64.wrap ((BitVec.ofInt 64 a &&& BitVec.ofInt 64 b).toNat : Int) := rfl
  rw [h, IntWalk.i64_left]
theorem xor_eq (a b : Int) : Go.bits .xor .i64 a b = wrap64 ((BitVec.ofInt 64 a ^^^ BitVec.ofInt 64 b).toNat : Int) := by
  have h : Go.bits .xor .i64 a b = IntKind.i64.wrap ((BitVec.ofInt 64 a ^^^ BitVec.ofInt 64 b).toNat : Int) := rfl
  rw [h, IntWalk.i64_left]
theorem xb_at (h : Int) : xb h = wrap64 ((BitVec.ofInt 64 (wrap64 ((BitVec.ofInt 64 (h / 8589934592) ^^^ BitVec.ofInt 64 (h / 35184372088832)).toNat : Int)) &&& BitVec.ofInt 64 255).toNat : Int) := by
  unfold xb
  rw [and_eq, xor_eq]
theorem xb1 : xb (-2984447389465347401) = 220 := by rw [xb_at]; unfold wrap64; decide
theorem xb2 : xb 6702960577162501242 = 189 := by rw [xb_at]; unfold wrap64; decide
theorem xb3 : xb (-929496508085319487) = 34 := by rw [xb_at]; unfold wrap64; decide
theorem good8 : badB 8 = false ∧ badB (nx 8) = false ∧ badB (nx (nx 8)) = false := by
  unfold badB
  rw [nx8, nx8', nx8'', xb1, xb2, xb3]
  decide
theorem text_ends (n : Int) (hn0 : 0 ≤ n) (hn : n ≤ 200) (b : List Int) (hb : b.length ≤ 9223372036854775806) (r : Nat) : ∀ out : List Int, (n - out.length).toNat ≤ r → ∀ i h : Int, 0 ≤ i → Ends n out b i h := by
  induction r with
  | zero => intro out hr i h hi; exact ends_now n out b i h hn0 (by omega) hi
  | succ r ih =>
    intro out hr
    by_cases hl : n ≤ out.length
    · intro i h hi; exact ends_now n out b i h hn0 hl hi
    -- the code read to its end
    have tail : ∀ i h : Int, 0 ≤ i → (b.length : Int) ≤ i → Ends n out b i h := by
      intro i h hi hx
      obtain ⟨M, hM⟩ := nx_reach 8 (by omega) (by omega) h
      have hM1 : nxN (M + 1) h = nx 8 := by rw [nxN_succ, hM]
      have hM2 : nxN (M + 2) h = nx (nx 8) := by rw [nxN_succ, hM1]
      obtain ⟨g1, g2, g3⟩ := good8
      have go : ∀ d j, j + d = M + 2 → Ends n out b i (nxN j h) := by
        intro d
        induction d using Nat.strongRecOn with
        | ind d ihd =>
          intro j hj
          obtain ⟨out', i', h', g, hi', hbig, hc⟩ := round_step n hn out b i (nxN j h) hi hb (by omega)
          rcases hc with hgr | ⟨rfl, _, hend⟩
          · exact g.ends (ih out' (by omega) i' h' hi')
          · obtain ⟨rfl, hn', hbad⟩ := hend hx
            have hjM : j < M := by
              rcases Nat.lt_or_ge j M with hjl | hjg
              · exact hjl
              · have : j = M ∨ j = M + 1 ∨ j = M + 2 := by omega
                rcases this with rfl | rfl | rfl
                · rw [hM, g1] at hbad; cases hbad
                · rw [hM1, g2] at hbad; cases hbad
                · rw [hM2, g3] at hbad; cases hbad
            rcases hn' with rfl | rfl
            · refine g.ends ?_
              rw [← nxN_succ]
              exact ihd (d - 1) (by omega) (j + 1) (by omega)
            · refine g.ends ?_
              rw [← nxN_succ, ← nxN_succ, ← nxN_succ]
              exact ihd (d - 3) (by omega) (j + 3) (by omega)
      exact go (M + 2) 0 (by omega)
    have mid : ∀ d : Nat, ∀ i h : Int, 0 ≤ i → ((b.length : Int) - i).toNat ≤ d → Ends n out b i h := by
      intro d
      induction d with
      | zero => intro i h hi hd; exact tail i h hi (by omega)
      | succ d ihd =>
        intro i h hi hd
        by_cases hx : (b.length : Int) ≤ i
        · exact tail i h hi hx
        · obtain ⟨out', i', h', g, hi', hbig, hc⟩ := round_step n hn out b i h hi hb (by omega)
          rcases hc with hgr | ⟨rfl, hmid, _⟩
          · exact g.ends (ih out' (by omega) i' h' hi')
          · exact g.ends (ihd i' h' hi' (by have := hmid (by omega); omega))
    intro i h hi
    exact mid _ i h hi (Nat.le_refl _)
theorem text_some (n : Int) (hn0 : 0 ≤ n) (hn : n ≤ 200) (b : List Int) (hb : b.length ≤ 9223372036854775806) (i h : Int) (hi : 0 ≤ i) :
    ∃ s i' h' K, (∀ k, K ≤ k → spec_l01Text.f k b i h n = some (s, i', h')) ∧ (s.size : Int) = n ∧ 0 ≤ i' := text_ends n hn0 hn b hb n.toNat [] (by simp) i h hi
theorem pick_some (b : List Int) (i h : Int) (l : List ByteArray) (hi : 0 ≤ i) (hb : b.length ≤ 9223372036854775806) (h0 : 0 < l.length) : ∃ s i' h', spec_l01Pick.f b i h l = some (s, i', h') ∧ s ∈ l ∧ 0 ≤ i' := by
  unfold spec_l01Pick.f
  obtain ⟨r, i', h', e, r0, r1, _, hi'⟩ := below_some b i h (l.length : Int) hi hb
  have r1 := r1 (by omega)
  rw [e]; simp only [Option.bind_some]
  rw [if_pos r0, if_pos r1]
  refine ⟨_, _, _, rfl, ?_, hi'⟩
  unfold rdOf
  have hl : r.toNat < l.length := by omega
  simp [List.getD, List.getElem?_eq_getElem hl]
theorem bent_some (b : List Int) (i h : Int) (a : ByteArray) (ha : a.size ≤ 1000) (hi : 0 ≤ i) (hb : b.length ≤ 9223372036854775806) : ∃ s i' h', spec_l01Bent.f b i h a = some (s, i', h') ∧ s.size ≤ 2000 ∧ 0 ≤ i' := by
  unfold spec_l01Bent.f
  rw [wr (x := (a.size : Int) + 1) (by omega) (by omega)]
  obtain ⟨r, i1, h1, e1, r0, r1, _, hi1⟩ := below_some b i h ((a.size : Int) + 1) hi hb
  have r1 := r1 (by omega)
  obtain ⟨c, i2, h2, e2, c0, c1, _, hi2⟩ := below_some b i1 h1 10 hi1 hb
  rw [e1]; simp only [Option.bind_some]
  rw [e2]; simp only [Option.bind_some]
  by_cases k0 : c = 0
  · rw [if_pos k0, if_pos r0, if_pos (by omega)]
    exact ⟨_, _, _, rfl, by rw [ByteArray.size_extract]; omega, hi2⟩
  rw [if_neg k0]
  by_cases k1 : c = 1
  · rw [if_pos k1, if_pos r0, if_pos (by omega)]
    obtain ⟨s, i3, h3, e3, hs, hi3⟩ := pick_some b i2 h2 [(⟨#[48]⟩ : ByteArray), (⟨#[32]⟩ : ByteArray), (⟨#[255]⟩ : ByteArray), (⟨#[35]⟩ : ByteArray), (⟨#[10]⟩ : ByteArray), (⟨#[97]⟩ : ByteArray), (⟨#[58]⟩ : ByteArray), (⟨#[61]⟩ : ByteArray), (⟨#[41]⟩ : ByteArray), (⟨#[94]⟩ : ByteArray)] hi2 hb (by simp)
    have hs1 : s.size = 1 := by
      simp only [List.mem_cons, List.mem_nil_iff, or_false] at hs
      rcases hs with rfl | rfl | rfl | rfl | rfl | rfl | rfl | rfl | rfl | rfl <;> rfl
    rw [e3]; simp only [Option.bind_some]
    rw [if_pos (by rw [ByteArray.size_extract]; omega), if_pos (by rw [ByteArray.size_append, ByteArray.size_extract, ByteArray.size_extract]; omega)]
    exact ⟨_, _, _, rfl, by rw [ByteArray.size_append, ByteArray.size_append, ByteArray.size_extract, ByteArray.size_extract]; omega, hi3⟩
  rw [if_neg k1]
  by_cases k2 : c = 2
  · rw [if_pos k2]
    by_cases hr : r < (a.size : Int)
    · rw [if_pos hr, if_pos r0, if_pos (by omega)]
      obtain ⟨s, i3, h3, e3, hs, hi3⟩ := pick_some b i2 h2 [(⟨#[48]⟩ : ByteArray), (⟨#[65]⟩ : ByteArray), (⟨#[0]⟩ : ByteArray), (⟨#[57]⟩ : ByteArray), (⟨#[40]⟩ : ByteArray), (⟨#[45]⟩ : ByteArray)] hi2 hb (by simp)
      have hs1 : s.size = 1 := by
        simp only [List.mem_cons, List.mem_nil_iff, or_false] at hs
        rcases hs with rfl | rfl | rfl | rfl | rfl | rfl <;> rfl
      rw [e3]; simp only [Option.bind_some]
      rw [wr (x := r + 1) (by omega) (by omega)]
      rw [if_pos (by rw [ByteArray.size_extract]; omega), if_pos (by omega), if_pos (by omega), if_pos (by rw [ByteArray.size_append, ByteArray.size_extract, ByteArray.size_extract]; omega)]
      exact ⟨_, _, _, rfl, by rw [ByteArray.size_append, ByteArray.size_append, ByteArray.size_extract, ByteArray.size_extract]; omega, hi3⟩
    · rw [if_neg hr]; exact ⟨_, _, _, rfl, by omega, hi2⟩
  · rw [if_neg k2]; exact ⟨_, _, _, rfl, by omega, hi2⟩
theorem once_some (b : List Int) (i h n : Int) (hi : 0 ≤ i) (hb : b.length ≤ 9223372036854775806) : ∃ s i' h', spec_l01Once.f b i h n = some (s, i', h') ∧ 0 ≤ i' := by
  unfold spec_l01Once.f
  obtain ⟨r, i1, h1, e1, _, _, _, hi1⟩ := below_some b i h n hi hb
  rw [e1]; simp only [Option.bind_some]
  exact ⟨_, _, _, rfl, hi1⟩
theorem bind_of {α β : Type} {x : Option α} {f : α → Option β} {a : α} {r : Option β} (h : x = some a) (h2 : f a = r) : x.bind f = r := by rw [h]; exact h2
theorem drawBefore_some (b : List Int) (hb : b.length ≤ 9223372036854775806) : ∃ x y K, (∀ k, K ≤ k → spec_DrawBefore.f k b = some (x, y)) ∧ x.size ≤ 2000 ∧ y.size ≤ 2000 := by
  obtain ⟨h0, e0⟩ := new_some b hb (b.length + 1) (by omega)
  obtain ⟨r, i1, h1, e1, r0, r1, _, hi1⟩ := below_some b 0 h0 5 (by omega) hb
  obtain ⟨s, i2, h2, K, e2, hs, hi2⟩ := text_some r r0 (by have := r1 (by omega); omega) b hb i1 h1 hi1
  have r1 := r1 (by omega)
  obtain ⟨t, i3, h3, e3, ht, hi3⟩ := bent_some b i2 h2 s (by omega) hi2 hb
  obtain ⟨c, i4, h4, e4, hi4⟩ := once_some b i3 h3 2 hi3 hb
  have e0 : ∀ k, b.length + 1 ≤ k → spec_l01New.f k b = some (b, 0, h0) := fun k hk => at_rounds (g := fun k => spec_l01New.f k b) (fun k => spec_l01New.mono b k) hk e0
  have key : ∀ k, b.length + 1 + K ≤ k → spec_DrawBefore.f k b = if c = true then some (t, s) else some (s, t) := by
    intro k hk
    have q0 := e0 k (by omega)
    have q2 := e2 k (by omega)
    clear e0 e2
    unfold spec_DrawBefore.f
    refine bind_of q0 (bind_of e1 (bind_of q2 ?_))
    generalize hB : spec_l01Bent.f b i2 h2 s = B at e3
    clear hB
    exact bind_of e3 (bind_of e4 rfl)
  have hs' : s.size ≤ 2000 := by clear key e0 e1 e2 e3 e4; omega
  cases c
  · exact ⟨s, t, b.length + 1 + K, fun k hk => (key k hk).trans (if_neg (by decide)), hs', ht⟩
  · exact ⟨t, s, b.length + 1 + K, fun k hk => (key k hk).trans (if_pos rfl), ht, hs'⟩
theorem less_irrefl : ∀ x : List UInt8, Op.bytesLess x x = false
  | [] => rfl
  | a :: x => by simp [Op.bytesLess, less_irrefl x]
theorem less_tri : ∀ x y : List UInt8, x ≠ y → Op.bytesLess y x = !(Op.bytesLess x y)
  | [], [], h => absurd rfl h
  | [], _ :: _, _ => rfl
  | _ :: _, [], _ => rfl
  | a :: x, b :: y, h => by
    simp only [Op.bytesLess]
    by_cases e : a = b
    · subst e
      have : x ≠ y := fun h' => h (by rw [h'])
      simp [less_tri x y this]
    · have e1 : (a == b) = false := by simp [e]
      have e2 : (b == a) = false := by simp [Ne.symm e]
      rw [e1, e2]
      simp only [Bool.false_and, Bool.or_false]
      have hne : a.toNat ≠ b.toNat := fun h' => e (UInt8.toNat_inj.1 h')
      by_cases hl : a < b
      · have : ¬ b < a := by rw [UInt8.lt_iff_toNat_lt] at *; omega
        simp [hl, this]
      · have : b < a := by rw [UInt8.lt_iff_toNat_lt] at *; omega
        simp [hl, this]

theorem before_loop (a b : ByteArray) (hb : b.size ≤ 140737488351232) (d : Nat) : ∀ (k i : Nat), i ≤ a.size → i + d = b.size → d < k →
    spec_Before.l0 k a b (i : Int) = some (Op.bytesLess (a.data.toList.drop i) (b.data.toList.drop i)) := by
  induction d with
  | zero =>
    intro k i ha hi hk
    obtain ⟨k, rfl⟩ : ∃ m, k = m + 1 := ⟨k - 1, by omega⟩
    simp only [spec_Before.l0]
    rw [if_neg (by omega)]
    have e : b.data.toList.drop i = [] := List.drop_eq_nil_of_le (by simp; omega)
    rw [e]
    cases a.data.toList.drop i <;> rfl
  | succ d ih =>
    intro k i ha hi hk
    obtain ⟨k, rfl⟩ : ∃ m, k = m + 1 := ⟨k - 1, by omega⟩
    simp only [spec_Before.l0]
    rw [if_pos (by omega)]
    have hbl : i < b.data.toList.length := by simp; omega
    rw [List.drop_eq_getElem_cons hbl]
    by_cases hge : a.size ≤ i
    · rw [if_pos (by omega)]
      have e : a.data.toList.drop i = [] := List.drop_eq_nil_of_le (by simp; omega)
      rw [e]; rfl
    · rw [if_neg (by omega), if_pos (by omega), if_pos (by omega), wr (by omega) (by omega)]
      have hal : i < a.data.toList.length := by simp; omega
      rw [List.drop_eq_getElem_cons hal]
      have ea : bt a (i : Int) = ((a.data.toList[i]).toNat : Int) := by
        unfold bt; rw [dif_pos (by simp; omega)]; rfl
      have eb : bt b (i : Int) = ((b.data.toList[i]).toNat : Int) := by
        unfold bt; rw [dif_pos (by simp; omega)]; rfl
      rw [ea, eb]
      have ih' := ih k (i + 1) (by omega) (by omega) (by omega)
      rw [Int.natCast_add] at ih'
      have ih'' : spec_Before.l0 k a b ((i : Int) + 1) = _ := ih'
      rw [ih'']
      generalize a.data.toList[i] = x
      generalize b.data.toList[i] = y
      simp only [Op.bytesLess]
      by_cases hxy : x = y
      · subst hxy
        rw [if_pos rfl]
        simp
      · have hn : ¬ ((x.toNat : Int) = (y.toNat : Int)) := fun h => hxy (UInt8.toNat_inj.1 (by omega))
        rw [if_neg hn]
        have : (x == y) = false := by simp [hxy]
        rw [this]
        simp [UInt8.lt_iff_toNat_lt]
end AFnOrder
open AFnOrder

theorem FnOrder : laws_FnOrder.Pure := by
  intro code _ hn _
  have hn' : code.length ≤ 9223372036854775806 := by omega
  obtain ⟨x, y, K, hd, hx, hy⟩ := drawBefore_some code hn'
  refine ⟨K + 2010, ?_⟩
  unfold laws_FnOrder.f laws_big.f
  simp only [Option.bind_some]
  by_cases hb : (code.length : Int) > 1048576
  · rw [if_pos (by simpa using hb)]
  rw [if_neg (by simpa using hb), hd _ (by omega)]
  simp only [Option.bind_some]
  unfold impl_Before.f
  simp only [Option.bind_some]
  have e := fun k hk => before_loop x y (by omega) y.size k 0 (by omega) (by omega) hk
  have e' : ∀ k, y.size < k → spec_Before.f k x y = some (Op.bytesLess x.toList y.toList) := fun k hk => by
    have := e k hk
    rw [Go.ByteArray.toList_eq, Go.ByteArray.toList_eq]
    exact this
  have hw1 : wrap64 (0 + 1) = 1 := by rw [wr (by omega) (by omega)]; rfl
  rw [show K + 2010 = (K + 2008) + 1 + 1 from by omega]
  by_cases hxy : x.toList = y.toList
  · have h1 : Op.bytesLess x.toList y.toList = false := by rw [hxy]; exact less_irrefl _
    have h2 : Op.bytesLess y.toList x.toList = false := by rw [hxy]; exact less_irrefl _
    simp only [h1, Bool.false_eq_true, if_false, laws_FnOrder.j0, laws_FnOrder.j1, impl_Before.f, h2, Option.bind_some, if_pos hxy, hw1, if_true]
    rw [e' _ (by omega), h1]; rfl
  · have ht := less_tri x.toList y.toList hxy
    cases h1 : Op.bytesLess x.toList y.toList
    · rw [h1] at ht
      simp only [Bool.false_eq_true, if_false, laws_FnOrder.j0, laws_FnOrder.j1, impl_Before.f, ht, Bool.not_false, Option.bind_some, if_neg hxy, hw1, if_true, h1]
      rw [e' _ (by omega), h1]; rfl
    · rw [h1] at ht
      simp only [if_true, Bool.false_eq_true, if_false, laws_FnOrder.j0, laws_FnOrder.j1, impl_Before.f, ht, Bool.not_true, Option.bind_some, if_neg hxy, h1]
      rw [if_pos (by decide), e' _ (by omega), h1]; rfl

end Go.Proofs.Ytgjnjimlaipjcaa.Pure
