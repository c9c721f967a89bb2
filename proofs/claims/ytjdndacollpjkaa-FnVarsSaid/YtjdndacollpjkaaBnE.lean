/- What the reference's draws, small numbers and powers of two answer. -/
import Derived.Test.YtjdndacollpjkaaBnD
import Derived.Test.YtjdndacollpjkaaFvD
namespace Go.Proofs.Ytjdndacollpjkaa.Bn
set_option linter.unusedVariables false
open Go.RowKit Go.Proofs.Ytjdndacollpjkaa.MFnVars Go.Proofs.YtjdndacollpjkaaW.PrintWords Go.Proofs.YtjdndacollpjkaaW.PrintLast

theorem and_range (x : Int) : 0 ≤ Go.bits .and .i64 x 255 ∧ Go.bits .and .i64 x 255 ≤ 255 := by
  have h : Go.bits .and .i64 x 255 = IntKind.i64.wrap ((BitVec.ofInt 64 x &&& BitVec.ofInt 64 255).toNat : Int) := rfl
  rw [h, BitVec.toNat_and]
  have h2 : (BitVec.ofInt 64 255).toNat = 255 := by decide
  rw [h2]
  have h3 : (BitVec.ofInt 64 x).toNat &&& 255 ≤ 255 := Nat.and_le_right
  rw [IntKind.wrap_i64]
  omega
theorem byte_some (b : List Int) (i h : Int) (hi : 0 ≤ i) (hn : b.length ≤ 9223372036854775806) : ∃ r i' h', spec_l01Byte.f b i h = some (r, i', h') ∧ 0 ≤ r ∧ r ≤ 255 ∧ 0 ≤ i' := by
  unfold spec_l01Byte.f
  by_cases hlt : i < (b.length : Int)
  · rw [if_pos hlt, if_pos hi]
    exact ⟨_, _, _, rfl, (and_range _).1, (and_range _).2, by rw [wr (by omega) (by omega)]; omega⟩
  · rw [if_neg hlt]
    exact ⟨_, _, _, rfl, (and_range _).1, (and_range _).2, hi⟩
theorem below_some (b : List Int) (i h n : Int) (hi : 0 ≤ i) (hn : b.length ≤ 9223372036854775806) : ∃ r i' h', spec_l01Below.f b i h n = some (r, i', h') ∧ 0 ≤ r ∧ (0 < n → r < n) ∧ (n ≤ 0 → r = 0) ∧ 0 ≤ i' := by
  unfold spec_l01Below.f
  by_cases h0 : n ≤ 0
  · rw [if_pos h0]; exact ⟨_, _, _, rfl, by omega, fun h => by omega, fun _ => rfl, hi⟩
  · rw [if_neg h0]
    by_cases h1 : n ≤ 256
    · rw [if_pos h1]
      obtain ⟨r, i1, h1, e1, ra, rb, hi1⟩ := byte_some b i h hi hn
      rw [e1]
      simp only [Option.bind_some]
      rw [if_neg (by omega)]
      refine ⟨_, _, _, rfl, ?_, fun _ => ?_, fun h => absurd h h0, hi1⟩
      · rw [Int.tmod_eq_emod_of_nonneg ra]; exact Int.emod_nonneg _ (by omega)
      · rw [Int.tmod_eq_emod_of_nonneg ra]; exact Int.emod_lt_of_pos _ (by omega)
    · rw [if_neg h1]
      obtain ⟨r1, i1, h1, e1, ra1, rb1, hi1⟩ := byte_some b i h hi hn
      obtain ⟨r2, i2, h2, e2, ra2, rb2, hi2⟩ := byte_some b i1 h1 hi1 hn
      obtain ⟨r3, i3, h3, e3, ra3, rb3, hi3⟩ := byte_some b i2 h2 hi2 hn
      obtain ⟨r4, i4, h4, e4, ra4, rb4, hi4⟩ := byte_some b i3 h3 hi3 hn
      rw [e1]; simp only [Option.bind_some]
      rw [e2]; simp only [Option.bind_some]
      rw [e3]; simp only [Option.bind_some]
      rw [e4]; simp only [Option.bind_some]
      rw [if_neg (by omega), wr (x := r1 * 16777216) (by omega) (by omega), wr (x := r2 * 65536) (by omega) (by omega), wr (x := r3 * 256) (by omega) (by omega)]
      rw [wr (x := r1 * 16777216 + r2 * 65536) (by omega) (by omega), wr (x := r1 * 16777216 + r2 * 65536 + r3 * 256) (by omega) (by omega), wr (x := r1 * 16777216 + r2 * 65536 + r3 * 256 + r4) (by omega) (by omega)]
      have hnn : 0 ≤ r1 * 16777216 + r2 * 65536 + r3 * 256 + r4 := by omega
      refine ⟨_, _, _, rfl, ?_, fun _ => ?_, fun h => absurd h h0, hi4⟩
      · rw [Int.tmod_eq_emod_of_nonneg hnn]; exact Int.emod_nonneg _ (by omega)
      · rw [Int.tmod_eq_emod_of_nonneg hnn]; exact Int.emod_lt_of_pos _ (by omega)
theorem pickInt_some (b : List Int) (i h : Int) (l : List Int) (hi : 0 ≤ i) (hn : b.length ≤ 9223372036854775806) (hl : 0 < l.length) : ∃ r i' h', spec_l01PickInt.f b i h l = some (r, i', h') ∧ r ∈ l ∧ 0 ≤ i' := by
  unfold spec_l01PickInt.f
  obtain ⟨r, i', h', e, h0, h1, _, hi'⟩ := below_some b i h (l.length : Int) hi hn
  have h1 := h1 (by omega)
  rw [e]; simp only [Option.bind_some]
  rw [if_pos h0, if_pos h1]
  obtain ⟨n, rfl⟩ := Int.eq_ofNat_of_zero_le h0
  have hn' : n < l.length := by omega
  refine ⟨_, _, _, rfl, ?_, hi'⟩
  unfold rd
  simp [List.getD, List.getElem?_eq_getElem hn']
theorem pick_some (b : List Int) (i h : Int) (l : List ByteArray) (hi : 0 ≤ i) (hb : b.length ≤ 9223372036854775806) (h0 : 0 < l.length) : ∃ s i' h', spec_l01Pick.f b i h l = some (s, i', h') ∧ s ∈ l ∧ 0 ≤ i' := by
  unfold spec_l01Pick.f
  obtain ⟨r, i', h', e, r0, r1, _, hi'⟩ := below_some b i h (l.length : Int) hi hb
  have r1 := r1 (by omega)
  rw [e]; simp only [Option.bind_some]
  rw [if_pos r0, if_pos r1]
  refine ⟨_, _, _, rfl, ?_, hi'⟩
  unfold rdOf
  have hl : r.toNat < l.length := by omega
  simp [List.getD, List.getElem?_eq_getElem hl]

theorem make_any (neg : Bool) {l : List Int} (hl : l.length ≤ 1000000) (ho : Ok l) : ∃ b t, (∀ k, l.length < k → spec_l02Make.f k neg l = some (b, t)) ∧ Ok t ∧ t.length ≤ l.length ∧ val t = val l ∧ (neg = false → b = false) :=
  ⟨_, _, fun k hk => make_eq k neg l hl hk, trim_ok ho, trim_length l, trim_val l, fun e => by rw [e]; exact mk_false _⟩
theorem two_ok (x y : Int) : Ok [x % 4294967296, y % 4294967296] := fun z hz => by
  rcases List.mem_cons.1 hz with rfl | hz
  · omega
  · rw [List.mem_singleton] at hz; subst hz; omega
/-! ### FromInt -/
theorem from_eq (n : Int) : ∃ b l, (∀ k, 2 < k → spec_FromInt.f k n = some (b, l)) ∧ Ok l ∧ l.length ≤ 2 ∧ (0 ≤ n → n < 4294967296 → b = false ∧ val l = n) := by
  by_cases h : n < 0
  · obtain ⟨b, t, e, o, tl, _, _⟩ := make_any (decide (n < 0)) (l := [(Go.bits .and .u64 (IntKind.u64.wrap ((IntKind.u64.wrap (wrap64 (-(wrap64 (n + 1))))) + 1)) 4294967295) % 4294967296, ((IntKind.u64.wrap ((IntKind.u64.wrap (wrap64 (-(wrap64 (n + 1))))) + 1)) / 4294967296) % 4294967296]) (by simp) (two_ok _ _)
    refine ⟨b, t, fun k hk => ?_, o, tl, fun h0 _ => by omega⟩
    unfold spec_FromInt.f
    rw [if_pos h, e k hk]; rfl
  · obtain ⟨b, t, e, o, tl, v, s⟩ := make_any (decide (n < 0)) (l := [(Go.bits .and .u64 (IntKind.u64.wrap (n)) 4294967295) % 4294967296, ((IntKind.u64.wrap (n)) / 4294967296) % 4294967296]) (by simp) (two_ok _ _)
    refine ⟨b, t, fun k hk => ?_, o, tl, fun h0 h1 => ⟨s (decide_eq_false h), ?_⟩⟩
    · unfold spec_FromInt.f
      rw [if_neg h, e k hk]; rfl
    · rw [v, uw h0 (by omega), mask h0 (by omega)]
      show n % 4294967296 % 4294967296 + 4294967296 * (n / 4294967296 % 4294967296 + 4294967296 * 0) = n
      omega
theorem of_eq (n : Int) : ∃ r, ∀ k, 2 < k → spec_l03Of.f k n = some r := by
  obtain ⟨b, l, e, _⟩ := from_eq n
  obtain ⟨b1, l1, e1, _⟩ := from_eq 1
  refine ⟨(b, l, b1, l1), fun k hk => ?_⟩
  unfold spec_l03Of.f
  rw [e k hk]; simp only [Option.bind_some]; rw [e1 k hk]; rfl
theorem of_ok (n : Int) : ∃ a l b m, (∀ k, 2 < k → spec_l03Of.f k n = some (a, l, b, m)) ∧ Ok l ∧ l.length ≤ 2 ∧ Ok m ∧ m.length ≤ 2 := by
  obtain ⟨b, l, e, o, ln, _⟩ := from_eq n
  obtain ⟨b1, l1, e1, o1, ln1, _⟩ := from_eq 1
  refine ⟨b, l, b1, l1, fun k hk => ?_, o, ln, o1, ln1⟩
  unfold spec_l03Of.f
  rw [e k hk]; simp only [Option.bind_some]; rw [e1 k hk]; rfl
/-! ### l01Word, l02Big -/
theorem word_some (b : List Int) (i h : Int) (hi : 0 ≤ i) (hn : b.length ≤ 9223372036854775806) : ∃ r i' h', spec_l01Word.f b i h = some (r, i', h') ∧ 0 ≤ r ∧ r < 4294967296 ∧ 0 ≤ i' := by
  unfold spec_l01Word.f
  obtain ⟨r, i1, h1, e1, _, _, _, hi1⟩ := below_some b i h 4 hi hn
  rw [e1]; simp only [Option.bind_some]
  by_cases c0 : r = 0
  · rw [if_pos c0]
    obtain ⟨r2, i2, h2, e2, _, hi2⟩ := pickInt_some b i1 h1 [0, 1, 2, 31, 32, 255, 256, 2147483647, 2147483648, 4294967295, 4294967294] hi1 hn (by simp)
    rw [e2]; exact ⟨_, _, _, rfl, by omega, by omega, hi2⟩
  · rw [if_neg c0]
    by_cases c1 : r = 1
    · rw [if_pos c1]
      obtain ⟨r2, i2, h2, e2, _, _, _, hi2⟩ := below_some b i1 h1 300 hi1 hn
      rw [e2]; exact ⟨_, _, _, rfl, by omega, by omega, hi2⟩
    · rw [if_neg c1]
      obtain ⟨r2, i2, h2, e2, _, _, _, hi2⟩ := below_some b i1 h1 65536 hi1 hn
      rw [e2]; simp only [Option.bind_some]
      obtain ⟨r3, i3, h3, e3, _, _, _, hi3⟩ := below_some b i2 h2 65536 hi2 hn
      rw [e3]; exact ⟨_, _, _, rfl, by omega, by omega, hi3⟩
theorem once_some (b : List Int) (i h n : Int) (hi : 0 ≤ i) (hn : b.length ≤ 9223372036854775806) : ∃ r i' h', spec_l01Once.f b i h n = some (r, i', h') ∧ 0 ≤ i' := by
  unfold spec_l01Once.f
  obtain ⟨r, i1, h1, e1, _, _, _, hi1⟩ := below_some b i h n hi hn
  rw [e1]; exact ⟨_, _, _, rfl, hi1⟩
theorem big_loop (b : List Int) (hn : b.length ≤ 9223372036854775806) (m : Nat) (hm : m ≤ 1000) (d : Nat) : ∀ (j : Nat) (out : List Int) (i h : Int), j + d = m → out.length = j → Ok out → 0 ≤ i →
    ∃ s l i' h', (∀ k, d + m + 2 < k → spec_l02Big.l0 k (m : Int) out (j : Int) b i h = some (s, l, i', h')) ∧ Ok l ∧ l.length ≤ m ∧ 0 ≤ i' := by
  induction d with
  | zero =>
    intro j out i h hj hl ho hi
    obtain ⟨s, i1, h1, e1, hi1⟩ := once_some b i h 2 hi hn
    obtain ⟨c, t, e, o, tl, _⟩ := make_any s (l := out) (by omega) ho
    refine ⟨c, t, i1, h1, fun k hk => ?_, o, by omega, hi1⟩
    obtain ⟨k, rfl⟩ : ∃ m, k = m + 1 := ⟨k - 1, by omega⟩
    simp only [spec_l02Big.l0]
    rw [if_neg (by omega), e1]; simp only [Option.bind_some]
    rw [e k (by omega)]; rfl
  | succ d ih =>
    intro j out i h hj hl ho hi
    obtain ⟨r, i1, h1, e1, _, _, _, hi1⟩ := below_some b i h 3 hi hn
    have wj : wrap64 ((j : Int) + 1) = ((j + 1 : Nat) : Int) := by rw [wr (by omega) (by omega)]; omega
    have go : ∀ (x i2 h2 : Int), 0 ≤ x → x < 4294967296 → 0 ≤ i2 → ∃ s l i' h', (∀ k, d + m + 2 < k → spec_l02Big.l0 k (m : Int) (out ++ [x]) ((j + 1 : Nat) : Int) b i2 h2 = some (s, l, i', h')) ∧ Ok l ∧ l.length ≤ m ∧ 0 ≤ i' :=
      fun x i2 h2 x0 x1 hi2 => ih (j + 1) (out ++ [x]) i2 h2 (by omega) (by rw [List.length_append, List.length_singleton]; omega) (ho.append (Ok.one x0 x1)) hi2
    by_cases c0 : r = 0
    · obtain ⟨s, l, i2, h2, e, o, ln, hi2⟩ := go 4294967295 i1 h1 (by decide) (by decide) hi1
      refine ⟨s, l, i2, h2, fun k hk => ?_, o, ln, hi2⟩
      obtain ⟨k, rfl⟩ : ∃ m, k = m + 1 := ⟨k - 1, by omega⟩
      simp only [spec_l02Big.l0]
      rw [if_pos (by omega), e1]; simp only [Option.bind_some]
      rw [if_pos c0, if_pos (by omega), wj]; exact e k (by omega)
    · by_cases c1 : r = 1
      · obtain ⟨s, l, i2, h2, e, o, ln, hi2⟩ := go 0 i1 h1 (by decide) (by decide) hi1
        refine ⟨s, l, i2, h2, fun k hk => ?_, o, ln, hi2⟩
        obtain ⟨k, rfl⟩ : ∃ m, k = m + 1 := ⟨k - 1, by omega⟩
        simp only [spec_l02Big.l0]
        rw [if_pos (by omega), e1]; simp only [Option.bind_some]
        rw [if_neg c0, if_pos c1, if_pos (by omega), wj]; exact e k (by omega)
      · obtain ⟨x, i3, h3, e3, x0, x1, hi3⟩ := word_some b i1 h1 hi1 hn
        obtain ⟨s, l, i2, h2, e, o, ln, hi2⟩ := go x i3 h3 x0 x1 hi3
        refine ⟨s, l, i2, h2, fun k hk => ?_, o, ln, hi2⟩
        obtain ⟨k, rfl⟩ : ∃ m, k = m + 1 := ⟨k - 1, by omega⟩
        simp only [spec_l02Big.l0]
        rw [if_pos (by omega), e1]; simp only [Option.bind_some]
        rw [if_neg c0, if_neg c1, e3]; simp only [Option.bind_some]
        rw [if_pos (by omega), wj]; exact e k (by omega)
theorem big_eq (b : List Int) (i h : Int) (n : Nat) (hi : 0 ≤ i) (hn : b.length ≤ 9223372036854775806) (hm : n ≤ 1000) :
    ∃ s l i' h', (∀ k, 4000 < k → spec_l02Big.f k b i h (n : Int) = some (s, l, i', h')) ∧ Ok l ∧ l.length ≤ n ∧ 0 ≤ i' := by
  obtain ⟨r, i1, h1, e1, r0, r1, _, hi1⟩ := below_some b i h (wrap64 ((n : Int) + 1)) hi hn
  rw [wr (by omega) (by omega)] at e1 r1
  have r1 := r1 (by omega)
  obtain ⟨m, rfl⟩ := Int.eq_ofNat_of_zero_le r0
  obtain ⟨s, l, i2, h2, e, o, ln, hi2⟩ := big_loop b hn m (by omega) m 0 [] i1 h1 (by omega) rfl Ok.nil hi1
  refine ⟨s, l, i2, h2, fun k hk => ?_, o, by omega, hi2⟩
  unfold spec_l02Big.f
  rw [wr (by omega) (by omega), e1]; simp only [Option.bind_some]
  exact e k (by omega)
/-! ### l02Add of one sign, l02Bit -/
theorem add_eq (s : Bool) {a b : List Int} (ha : Ok a) (hb : Ok b) (la : a.length ≤ 400000) (lb : b.length ≤ 400000) :
    ∃ K c t, (∀ k, K ≤ k → spec_l02Add.f k s a s b = some (c, t)) ∧ Ok t ∧ t.length ≤ a.length + b.length + 1 ∧ val t = val a + val b := by
  obtain ⟨K, r, e, o, ln, v⟩ := plus_eq ha hb (by omega) (by omega)
  obtain ⟨c, t, e2, o2, l2, v2, _⟩ := make_any s (l := r) (by omega) o
  refine ⟨K + r.length + 1, c, t, fun k hk => ?_, o2, by omega, by omega⟩
  unfold spec_l02Add.f
  rw [if_pos (by simp), e k (by omega)]; simp only [Option.bind_some]
  rw [e2 k (by omega)]; rfl
theorem val_pos {l : List Int} (h : Ok l) {x : Int} (hx : x ∈ l) (h0 : 0 < x) : 0 < val l := by
  induction l with
  | nil => cases hx
  | cons y l ih =>
    have hy := h y (by simp)
    have hb := (val_bound l h.tail).1
    show 0 < y + 4294967296 * val l
    rcases List.mem_cons.1 hx with rfl | hx
    · omega
    · have := ih h.tail hx; omega
theorem shl_range : ∀ t : Fin 32, 0 < shl .u32 1 ((t.val : Nat) : Int) ∧ shl .u32 1 ((t.val : Nat) : Int) < 4294967296 := by decide
theorem bit_eq (n : Nat) (hn : n ≤ 1280) : ∃ c t, (∀ k, 100 < k → spec_l02Bit.f k (n : Int) = some (c, t)) ∧ Ok t ∧ t.length ≤ 41 ∧ 0 < val t := by
  have q : Int.tdiv (n : Int) 32 = ((n / 32 : Nat) : Int) := by rw [Int.tdiv_eq_ediv_of_nonneg (by omega)]; omega
  have m : Int.tmod (n : Int) 32 = ((n % 32 : Nat) : Int) := by rw [Int.tmod_eq_emod_of_nonneg (by omega)]; omega
  have wq : wrap64 ((n / 32 : Nat) : Int) = ((n / 32 : Nat) : Int) := wr (by omega) (by omega)
  have wq1 : wrap64 (((n / 32 : Nat) : Int) + 1) = ((n / 32 + 1 : Nat) : Int) := by rw [wr (by omega) (by omega)]; omega
  have um : IntKind.u64.wrap ((n % 32 : Nat) : Int) = ((n % 32 : Nat) : Int) := uw (by omega) (by omega)
  have sh := shl_range ⟨n % 32, by omega⟩
  simp only at sh
  have ho : Ok ((List.replicate (n / 32 + 1) (0 : Int)).set (n / 32) (shl .u32 1 ((n % 32 : Nat) : Int))) := set_ok (rep_ok _) _ (by omega) sh.2
  have hlen : ((List.replicate (n / 32 + 1) (0 : Int)).set (n / 32) (shl .u32 1 ((n % 32 : Nat) : Int))).length = n / 32 + 1 := by rw [List.length_set, List.length_replicate]
  obtain ⟨c, t, e, o, tl, v, _⟩ := make_any false (by omega) ho
  refine ⟨c, t, fun k hk => ?_, o, by omega, ?_⟩
  · unfold spec_l02Bit.f
    rw [q, m, wq, wq1, um, Int.toNat_natCast, Int.toNat_natCast]
    rw [if_pos (by omega), if_pos (by omega)]; simp only [Option.bind_some]
    rw [if_pos (by omega), if_pos (by omega), List.length_replicate, if_pos (by omega), e k (by omega)]; rfl
  · rw [v]
    exact val_pos ho (List.mem_set (by rw [List.length_replicate]; omega) _) sh.1
end Go.Proofs.Ytjdndacollpjkaa.Bn
