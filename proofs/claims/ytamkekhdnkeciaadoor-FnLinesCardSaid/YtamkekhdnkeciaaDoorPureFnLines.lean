/- The lines of a text, each with a newline behind, are the text, or the text with one newline more; at every code of the draw. -/
import Derived.Test.YtamkekhdnkeciaaDoorMFnLinesx2
import Derived.Test.YtamkekhdnkeciaaDoorLj
namespace Go.Proofs.YtamkekhdnkeciaaDoor.Pure
set_option linter.unusedVariables false
set_option linter.unusedSimpArgs false
open Go.RowKit Go.Proofs.YtamkekhdnkeciaaDoor.MFnLines Go.Proofs.YtamkekhdnkeciaaDoorW.PrintWords Go.Proofs.YtamkekhdnkeciaaDoorW.PrintLast
namespace AFnLines

theorem wr {x : Int} (h1 : -9223372036854775808 ≤ x) (h2 : x ≤ 9223372036854775807) : wrap64 x = x := by
  unfold wrap64; omega

theorem bt_list {s : ByteArray} {i : Nat} (h : i < s.data.toList.length) : bt s (i : Int) = ((s.data.toList[i]).toNat : Int) := by
  unfold bt
  have h' : i < s.size := by
    have : s.data.toList.length = s.size := Array.length_toList ..
    omega
  rw [Int.toNat_natCast, dif_pos h']
  rfl
theorem nl_iff {s : ByteArray} {i : Nat} (h : i < s.data.toList.length) : bt s (i : Int) = 10 ↔ Ln.nl s i = true := by
  rw [bt_list h]
  unfold Ln.nl
  rw [List.getElem?_eq_getElem h]
  simp only [Option.some.injEq, decide_eq_true_eq]
  constructor
  · intro e
    apply UInt8.toNat_inj.1
    show (s.data.toList[i]).toNat = 10
    omega
  · intro e; rw [e]; rfl

theorem lines_length (s : ByteArray) : (Ln.lines s).length ≤ s.size + 1 := by
  have h := Ln.cut_length s
  have hle : Lib.countB s ⟨#[10]⟩ ≤ s.size := Lib.countB_le ⟨#[10]⟩ (by decide) s.size s (Nat.le_refl _)
  unfold Ln.lines Ln.trim
  split
  · rw [List.length_dropLast]; omega
  · omega

theorem and_range (x : Int) : 0 ≤ Go.bits .and .i64 x 255 ∧ Go.bits .and .i64 x 255 ≤ 255 := by
  have h : Go.bits .and .i64 x 255 = IntKind.i64.wrap ((BitVec.ofInt 64 x &&& BitVec.ofInt 64 255).toNat : Int) := rfl
  rw [h, BitVec.toNat_and]
  have h2 : (BitVec.ofInt 64 255).toNat = 255 := by decide
  rw [h2]
  have h3 : (BitVec.ofInt 64 x).toNat &&& 255 ≤ 255 := Nat.and_le_right
  rw [IntKind.wrap_i64]
  omega
theorem byte_some (b : List Int) (i h : Int) (hi : 0 ≤ i) (hn : b.length ≤ 9223372036854775806) : ∃ r i' h', spec_l01Byte.f b i h = some (r, i', h') ∧ 0 ≤ r ∧ r ≤ 255 ∧ 0 ≤ i' := by
  unfold spec_l01Byte.f
  by_cases hlt : i < (b.length : Int)
  · rw [if_pos hlt, if_pos hi]
    exact ⟨_, _, _, rfl, (and_range _).1, (and_range _).2, by rw [wr (by omega) (by omega)]; omega⟩
  · rw [if_neg hlt]
    exact ⟨_, _, _, rfl, (and_range _).1, (and_range _).2, hi⟩
theorem below_some (b : List Int) (i h n : Int) (hi : 0 ≤ i) (hn : b.length ≤ 9223372036854775806) : ∃ r i' h', spec_l01Below.f b i h n = some (r, i', h') ∧ 0 ≤ r ∧ (0 < n → r < n) ∧ (n ≤ 0 → r = 0) ∧ 0 ≤ i' := by
  unfold spec_l01Below.f
  by_cases h0 : n ≤ 0
  · rw [if_pos h0]; exact ⟨_, _, _, rfl, by omega, fun h => by omega, fun _ => rfl, hi⟩
  · rw [if_neg h0]
    by_cases h1 : n ≤ 256
    · rw [if_pos h1]
      obtain ⟨r, i1, h1, e1, ra, rb, hi1⟩ := byte_some b i h hi hn
      rw [e1]
      simp only [Option.bind_some]
      rw [if_neg (by omega)]
      refine ⟨_, _, _, rfl, ?_, fun _ => ?_, fun h => absurd h h0, hi1⟩
      · rw [Int.tmod_eq_emod_of_nonneg ra]; exact Int.emod_nonneg _ (by omega)
      · rw [Int.tmod_eq_emod_of_nonneg ra]; exact Int.emod_lt_of_pos _ (by omega)
    · rw [if_neg h1]
      obtain ⟨r1, i1, h1, e1, ra1, rb1, hi1⟩ := byte_some b i h hi hn
      obtain ⟨r2, i2, h2, e2, ra2, rb2, hi2⟩ := byte_some b i1 h1 hi1 hn
      obtain ⟨r3, i3, h3, e3, ra3, rb3, hi3⟩ := byte_some b i2 h2 hi2 hn
      obtain ⟨r4, i4, h4, e4, ra4, rb4, hi4⟩ := byte_some b i3 h3 hi3 hn
      rw [e1]; simp only [Option.bind_some]
      rw [e2]; simp only [Option.bind_some]
      rw [e3]; simp only [Option.bind_some]
      rw [e4]; simp only [Option.bind_some]
      rw [if_neg (by omega), wr (x := r1 * 16777216) (by omega) (by omega), wr (x := r2 * 65536) (by omega) (by omega), wr (x := r3 * 256) (by omega) (by omega)]
      rw [wr (x := r1 * 16777216 + r2 * 65536) (by omega) (by omega), wr (x := r1 * 16777216 + r2 * 65536 + r3 * 256) (by omega) (by omega), wr (x := r1 * 16777216 + r2 * 65536 + r3 * 256 + r4) (by omega) (by omega)]
      have hnn : 0 ≤ r1 * 16777216 + r2 * 65536 + r3 * 256 + r4 := by omega
      refine ⟨_, _, _, rfl, ?_, fun _ => ?_, fun h => absurd h h0, hi4⟩
      · rw [Int.tmod_eq_emod_of_nonneg hnn]; exact Int.emod_nonneg _ (by omega)
      · rw [Int.tmod_eq_emod_of_nonneg hnn]; exact Int.emod_lt_of_pos _ (by omega)
theorem new_loop (b : List Int) (hn : b.length ≤ 9223372036854775806) (d : Nat) : ∀ (k i : Nat) (h : Int), i + d = b.length → d < k → ∃ h', spec_l01New.l0 k b h (i : Int) = some (b, 0, h') := by
  induction d with
  | zero =>
    intro k i h hi hk
    obtain ⟨k, rfl⟩ : ∃ m, k = m + 1 := ⟨k - 1, by omega⟩
    simp only [spec_l01New.l0]
    rw [if_neg (by omega)]
    exact ⟨_, rfl⟩
  | succ d ih =>
    intro k i h hi hk
    obtain ⟨k, rfl⟩ : ∃ m, k = m + 1 := ⟨k - 1, by omega⟩
    simp only [spec_l01New.l0]
    rw [if_pos (by omega)]
    by_cases h4 : (i : Int) < 4000
    · rw [if_pos h4, if_pos (by omega), wr (x := (i : Int) + 1) (by omega) (by omega)]
      exact ih k (i + 1) _ (by omega) (by omega)
    · rw [if_neg h4]; exact ⟨_, rfl⟩
theorem new_some (b : List Int) (hn : b.length ≤ 9223372036854775806) (k : Nat) (hk : b.length < k) : ∃ h, spec_l01New.f k b = some (b, 0, h) := by
  unfold spec_l01New.f
  exact new_loop b hn b.length k 0 _ (by omega) hk

theorem pick_some (b : List Int) (i h : Int) (l : List ByteArray) (hi : 0 ≤ i) (hn : b.length ≤ 9223372036854775806) (hl : 0 < l.length) : ∃ r i' h', spec_l01Pick.f b i h l = some (r, i', h') ∧ r ∈ l ∧ 0 ≤ i' := by
  unfold spec_l01Pick.f
  obtain ⟨r, i', h', e, h0, h1, _, hi'⟩ := below_some b i h (l.length : Int) hi hn
  have h1 := h1 (by omega)
  rw [e]; simp only [Option.bind_some]
  rw [if_pos h0, if_pos h1]
  obtain ⟨n, rfl⟩ := Int.eq_ofNat_of_zero_le h0
  have hn' : n < l.length := by omega
  refine ⟨_, _, _, rfl, ?_, hi'⟩
  unfold rdOf
  simp [List.getD, List.getElem?_eq_getElem hn']
theorem dl_loop (b : List Int) (hb : b.length ≤ 9223372036854775806) (n : Int) (d : Nat) : ∀ (k i : Nat) (s : ByteArray) (p h : Int), 0 ≤ p → n ≤ 100 → (i : Int) + d = n → s.size + 2 * d ≤ 1000 → d < k →
    ∃ t, spec_DrawLines.l0 k s n (i : Int) b p h = some t ∧ t.size ≤ 1000 := by
  induction d with
  | zero =>
    intro k i s p h hp hn hi hs hk
    obtain ⟨k, rfl⟩ : ∃ m, k = m + 1 := ⟨k - 1, by omega⟩
    simp only [spec_DrawLines.l0]
    rw [if_neg (by omega)]
    exact ⟨_, rfl, by omega⟩
  | succ d ih =>
    intro k i s p h hp hn hi hs hk
    obtain ⟨k, rfl⟩ : ∃ m, k = m + 1 := ⟨k - 1, by omega⟩
    simp only [spec_DrawLines.l0]
    obtain ⟨r, i', h', e, hm, hi'⟩ := pick_some b p h [(⟨#[97]⟩ : ByteArray), (⟨#[10]⟩ : ByteArray), (⟨#[98, 99]⟩ : ByteArray), (⟨#[10]⟩ : ByteArray), (⟨#[]⟩ : ByteArray)] hp hb (by simp)
    have hz : r.size ≤ 2 := by
      simp only [List.mem_cons, List.not_mem_nil, or_false] at hm
      rcases hm with rfl | rfl | rfl | rfl | rfl <;> decide
    rw [if_pos (by omega), e]
    simp only [Option.bind_some]
    rw [if_pos (by omega), wr (by omega) (by omega)]
    have e2 := ih k (i + 1) (s ++ r) i' h' hi' hn (by omega) (by rw [ByteArray.size_append]; omega) (by omega)
    rw [show ((i + 1 : Nat) : Int) = (i : Int) + 1 by omega] at e2
    exact e2
theorem dl_some (b : List Int) (hb : b.length ≤ 1048576) : ∃ s : ByteArray, s.size ≤ 1000 ∧ ∀ k, b.length + 10 ≤ k → spec_DrawLines.f k b = some s := by
  obtain ⟨h, e⟩ := new_some b (by omega) (b.length + 10) (by omega)
  obtain ⟨n, i1, h1, e1, a1, b1, _, hi1⟩ := below_some b 0 h 6 (by omega) (by omega)
  have b1 := b1 (by omega)
  obtain ⟨t, ht, hz⟩ := dl_loop b (by omega) n n.toNat (b.length + 10) 0 ⟨#[]⟩ i1 h1 hi1 (by omega) (by omega) (by
    show 0 + 2 * n.toNat ≤ 1000
    omega) (by omega)
  refine ⟨t, hz, fun k hk => ?_⟩
  have key : spec_DrawLines.f (b.length + 10) b = some t := by
    unfold spec_DrawLines.f
    rw [e]; simp only [Option.bind_some]
    rw [e1]; simp only [Option.bind_some]
    exact ht
  obtain ⟨j, rfl⟩ : ∃ j, k = (b.length + 10) + j := ⟨k - (b.length + 10), by omega⟩
  clear hk
  induction j with
  | zero => exact key
  | succ j ih => exact spec_DrawLines.mono b _ _ ih
theorem law_loop (s : ByteArray) (L : List ByteArray) (hL : L.length ≤ 2000) (d : Nat) : ∀ (k i : Nat) (out : ByteArray), i + d = L.length → out.size + (Ln.joinB (L.drop i)).size ≤ 3000 → d < k →
    laws_FnLines.l0 k s L out (i : Int) = laws_FnLines.l0 1 s [] (out ++ Ln.joinB (L.drop i)) 0 := by
  induction d with
  | zero =>
    intro k i out hi ho hk
    obtain ⟨k, rfl⟩ : ∃ m, k = m + 1 := ⟨k - 1, by omega⟩
    rw [List.drop_eq_nil_of_le (by omega)]
    have e : out ++ Ln.joinB [] = out := by
      apply ByteArray.ext
      simp [Ln.joinB, ByteArray.data_append]
    rw [e]
    simp only [laws_FnLines.l0]
    rw [if_neg (show ¬ ((i : Int) < (L.length : Int)) by omega), if_neg (show ¬ ((0 : Int) < (([] : List ByteArray).length : Int)) by simp)]
  | succ d ih =>
    intro k i out hi ho hk
    obtain ⟨k, rfl⟩ : ∃ m, k = m + 1 := ⟨k - 1, by omega⟩
    have hlt : i < L.length := by omega
    rw [List.drop_eq_getElem_cons hlt] at ho ⊢
    have hr : rdOf ByteArray.empty L (i : Int) = L[i] := by
      unfold rdOf; simp [List.getD, List.getElem?_eq_getElem hlt]
    have e1 : (⟨#[10]⟩ : ByteArray).size = 1 := rfl
    rw [Ln.joinB_cons, ByteArray.size_append, ByteArray.size_append, e1] at ho
    rw [show laws_FnLines.l0 (k + 1) s L out (i : Int) = laws_FnLines.l0 k s L ((out ++ L[i]) ++ (⟨#[10]⟩ : ByteArray)) ((i : Int) + 1) by
      simp only [laws_FnLines.l0]
      rw [if_pos (by omega), if_pos (by omega), hr, if_pos (by omega), if_pos (by rw [ByteArray.size_append]; omega), wr (by omega) (by omega)]]
    have e2 := ih k (i + 1) ((out ++ L[i]) ++ (⟨#[10]⟩ : ByteArray)) (by omega) (by rw [ByteArray.size_append, ByteArray.size_append, e1]; omega) (by omega)
    rw [show ((i + 1 : Nat) : Int) = (i : Int) + 1 by omega] at e2
    rw [e2, Ln.joinB_cons]
    congr 1
    apply ByteArray.ext
    simp [ByteArray.data_append, Array.append_assoc]
theorem data_inj {a b : ByteArray} (h : a.data.toList = b.data.toList) : a = b := by
  apply ByteArray.ext
  apply Array.ext'
  exact h
theorem fin_true (s : ByteArray) (hs : s.size ≤ 1000) : laws_FnLines.l0 1 s [] (Ln.joinB (Ln.lines s)) 0 = some true := by
  have hlen : s.data.toList.length = s.size := Array.length_toList ..
  simp only [laws_FnLines.l0]
  rw [if_neg (by simp)]
  rcases Ln.lines_join s with h | ⟨h, c, hc, h10⟩
  · rw [data_inj h, if_pos rfl]
  · have h2 : Ln.joinB (Ln.lines s) = s ++ (⟨#[10]⟩ : ByteArray) := by
      apply data_inj
      rw [h]; simp [ByteArray.data_append]
    have hne : s.data.toList ≠ [] := by intro e; rw [e] at hc; simp at hc
    have hpos : 0 < s.data.toList.length := List.length_pos_iff.2 hne
    rw [h2, if_neg (by
      rw [Go.ByteArray.toList_eq, Go.ByteArray.toList_eq]
      intro e
      have := congrArg List.length e
      rw [show (s ++ (⟨#[10]⟩ : ByteArray)).data.toList = s.data.toList ++ [10] by simp [ByteArray.data_append]] at this
      simp at this), if_pos (by omega), if_pos rfl, if_neg (by rw [Go.ByteArray.toList_eq]; exact hne), wr (by omega) (by omega), if_pos (by omega), if_pos (by omega)]
    have hlt : s.size - 1 < s.data.toList.length := by omega
    have hb := bt_list hlt
    rw [show (((s.size - 1 : Nat)) : Int) = (s.size : Int) - 1 by omega] at hb
    have hcc : s.data.toList[s.size - 1] = c := by
      rw [List.getLast?_eq_getElem?, hlen, List.getElem?_eq_getElem hlt] at hc
      exact Option.some.inj hc
    rw [hb, hcc]
    congr 1
    rw [bne_iff_ne]
    intro e
    apply h10
    apply UInt8.toNat_inj.1
    show c.toNat = 10
    omega
theorem FnLines (b : List Int) : ∃ k, laws_FnLines.f k b = some true := by
  unfold laws_FnLines.f laws_big.f
  simp only [Option.bind_some]
  by_cases hb : b.length ≤ 1048576
  · obtain ⟨s, hs, h⟩ := dl_some b hb
    have hl := lines_length s
    refine ⟨b.length + 3000, ?_⟩
    rw [if_neg (by simp; omega), h _ (by omega)]
    simp only [Option.bind_some]
    have e2 : impl_Lines.f (b.length + 3000) s = some (Ln.lines s) := by unfold impl_Lines.f; rw [if_pos (by omega)]
    rw [e2]
    simp only [Option.bind_some]
    have hlen : s.data.toList.length = s.size := Array.length_toList ..
    have hjs : (Ln.joinB (Ln.lines s)).size ≤ s.size + 1 := by
      have e : (Ln.joinB (Ln.lines s)).data.toList.length = (Ln.joinB (Ln.lines s)).size := Array.length_toList ..
      rcases Ln.lines_join s with h | ⟨h, _⟩
      · rw [← e, h]; omega
      · rw [← e, h, List.length_append]; simp
    have e := law_loop s (Ln.lines s) (by omega) (Ln.lines s).length (b.length + 3000) 0 ⟨#[]⟩ (by omega) (by
      rw [List.drop_zero]
      show 0 + _ ≤ 3000
      omega) (by omega)
    have e' : laws_FnLines.l0 (b.length + 3000) s (Ln.lines s) ⟨#[]⟩ 0 = _ := e
    rw [e', List.drop_zero]
    have e3 : (⟨#[]⟩ : ByteArray) ++ Ln.joinB (Ln.lines s) = Ln.joinB (Ln.lines s) := by
      apply ByteArray.ext
      simp [ByteArray.data_append]
    rw [e3]
    exact fin_true s hs
  · exact ⟨0, by rw [if_pos (by simp; omega)]⟩
theorem fnLines_walk (A : Option Addr) (cap : Nat) (l : List Int) (w : World) (hr0 : Kd.C (Kd.int .u8) w A l.length l) (hc0 : l.length ≤ cap) (hm : ∃ m, w.cell? ⟨3, 0, none⟩ = some (.int .i64 m)) :
    Calls Tryd.prog 7 #[.slice A l.length cap] w fun e w' => e = .returned (.bool true) ∧ Below w.heap.size w w' := by
  obtain ⟨k, h⟩ := FnLines l
  exact laws_FnLines.calls k A cap l true w hm hr0 hc0 h
end AFnLines
open AFnLines

end Go.Proofs.YtamkekhdnkeciaaDoor.Pure
