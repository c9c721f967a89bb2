/- Words answers as the reference at every text, in memory of its own. -/
import Derived.Test.YtamkekhdnkeciaaMFnExactWordsx2
import Derived.Test.YtamkekhdnkeciaaWdA
namespace Go.Proofs.Ytamkekhdnkeciaa.Pure
set_option linter.unusedVariables false
set_option linter.unusedSimpArgs false
open Go.RowKit Go.Proofs.Ytamkekhdnkeciaa.MFnExactWords Go.Proofs.YtamkekhdnkeciaaW.PrintWords Go.Proofs.YtamkekhdnkeciaaW.PrintLast
namespace AFnExactWords

theorem wr {x : Int} (h1 : -9223372036854775808 ≤ x) (h2 : x ≤ 9223372036854775807) : wrap64 x = x := by
  unfold wrap64; omega

/-- a mark's text -/
theorem text_loop (d : Nat) : ∀ (x0 : Int) (x3 : ByteArray), x0 < 10 ^ d → x3.size + d ≤ 1000 → ∃ t, ∀ k, d < k → laws_markText.l0 k x0 x3 = some t := by
  induction d with
  | zero =>
    intro x0 x3 hx hs
    refine ⟨(⟨#[109]⟩ : ByteArray) ++ x3, fun k hk => ?_⟩
    obtain ⟨k, rfl⟩ : ∃ m, k = m + 1 := ⟨k - 1, by omega⟩
    simp only [laws_markText.l0]
    rw [if_neg (by have : (10 : Int) ^ 0 = 1 := rfl; omega), if_pos (by omega)]
  | succ d ih =>
    intro x0 x3 hx hs
    by_cases h0 : x0 > 0
    · have hb : (strOfNums [(wrap64 (48 + (Int.tmod x0 10))) % 256]).size = 1 := by unfold strOfNums; rfl
      have hp : (10 : Int) ^ (d + 1) = 10 ^ d * 10 := Int.pow_succ ..
      have hd : Int.tdiv x0 10 = x0 / 10 := Int.tdiv_eq_ediv_of_nonneg (by omega)
      by_cases hbig : x0 ≤ 9223372036854775807
      · obtain ⟨t, ht⟩ := ih (wrap64 (Int.tdiv x0 10)) ((strOfNums [(wrap64 (48 + (Int.tmod x0 10))) % 256]) ++ x3) (by
          rw [hd, wr (by omega) (by omega)]; omega) (by rw [ByteArray.size_append, hb]; omega)
        refine ⟨t, fun k hk => ?_⟩
        obtain ⟨k, rfl⟩ : ∃ m, k = m + 1 := ⟨k - 1, by omega⟩
        simp only [laws_markText.l0]
        rw [if_pos h0]
        simp only [Option.bind_some]
        rw [if_pos (by rw [hb]; omega)]
        exact ht k (by omega)
      · obtain ⟨t, ht⟩ := ih (wrap64 (Int.tdiv x0 10)) ((strOfNums [(wrap64 (48 + (Int.tmod x0 10))) % 256]) ++ x3) (by
          have : wrap64 (Int.tdiv x0 10) ≤ x0 / 10 := by rw [hd]; unfold wrap64; omega
          omega) (by rw [ByteArray.size_append, hb]; omega)
        refine ⟨t, fun k hk => ?_⟩
        obtain ⟨k, rfl⟩ : ∃ m, k = m + 1 := ⟨k - 1, by omega⟩
        simp only [laws_markText.l0]
        rw [if_pos h0]
        simp only [Option.bind_some]
        rw [if_pos (by rw [hb]; omega)]
        exact ht k (by omega)
    · refine ⟨(⟨#[109]⟩ : ByteArray) ++ x3, fun k hk => ?_⟩
      obtain ⟨k, rfl⟩ : ∃ m, k = m + 1 := ⟨k - 1, by omega⟩
      simp only [laws_markText.l0]
      rw [if_neg h0, if_pos (by omega)]
theorem text_ex (a : Int) : ∃ t, a ≤ 2000000 → ∀ k, 8 < k → laws_markText.f k a = some t := by
  by_cases ha : a ≤ 2000000
  · unfold laws_markText.f
    by_cases h0 : a ≤ 0
    · exact ⟨_, fun _ k _ => by rw [if_pos h0]⟩
    · obtain ⟨t, ht⟩ := text_loop 8 a ⟨#[]⟩ (by omega) (by decide)
      exact ⟨t, fun _ k hk => by rw [if_neg h0]; exact ht k hk⟩
  · exact ⟨ByteArray.empty, fun h => absurd h ha⟩
/-- the marks' texts from a on -/
def texts (f : Int → ByteArray) (a : Int) : Nat → List ByteArray
  | 0 => []
  | n + 1 => f a :: texts f (a + 1) n
theorem texts_length (f : Int → ByteArray) (n : Nat) : ∀ a, (texts f a n).length = n := by
  induction n with
  | zero => intro a; rfl
  | succ n ih => intro a; simp [texts, ih]
theorem rdS_at {xs : List ByteArray} {i : Nat} (h : i < xs.length) : rdOf ByteArray.empty xs (i : Int) = xs[i] := by
  unfold rdOf; simp [List.getD, List.getElem?_eq_getElem h]
theorem eqS_loop (xs : List ByteArray) (hn : xs.length ≤ 2000000) (d : Nat) : ∀ (k i : Nat), i + d = xs.length → d < k → laws_eqStringS.l0 k xs xs (i : Int) = some true := by
  induction d with
  | zero =>
    intro k i hi hk
    obtain ⟨k, rfl⟩ : ∃ m, k = m + 1 := ⟨k - 1, by omega⟩
    simp only [laws_eqStringS.l0]
    rw [if_neg (by omega)]
  | succ d ih =>
    intro k i hi hk
    obtain ⟨k, rfl⟩ : ∃ m, k = m + 1 := ⟨k - 1, by omega⟩
    simp only [laws_eqStringS.l0]
    rw [if_pos (by omega), if_pos (by omega), if_pos (by omega), if_pos trivial, wr (by omega) (by omega)]
    have e := ih k (i + 1) (by omega) (by omega)
    rw [Int.natCast_add] at e
    exact e
theorem eqS_eq (k : Nat) (xs : List ByteArray) (hn : xs.length ≤ 2000000) (hk : xs.length < k) : laws_eqStringS.f k xs xs = some true := by
  unfold laws_eqStringS.f
  rw [if_pos rfl]
  exact eqS_loop xs hn xs.length k 0 (by omega) hk
theorem markS_loop (f : Int → ByteArray) (hf : ∀ a, a ≤ 2000000 → ∀ k, 8 < k → laws_markText.f k a = some (f a)) (d : Nat) : ∀ (k i : Nat) (xs : List ByteArray) (a : Int), 0 ≤ a → a + d ≤ 2000000 → i + d = xs.length → xs.length ≤ 2000000 → d + 8 < k →
    laws_markStringS.l0 k xs a (i : Int) = some (a + (d : Int), xs.take i ++ texts f a d) := by
  induction d with
  | zero =>
    intro k i xs a ha hb hi hn hk
    obtain ⟨k, rfl⟩ : ∃ m, k = m + 1 := ⟨k - 1, by omega⟩
    simp only [laws_markStringS.l0]
    rw [if_neg (by omega), List.take_of_length_le (by omega)]
    simp [texts]
  | succ d ih =>
    intro k i xs a ha hb hi hn hk
    obtain ⟨k, rfl⟩ : ∃ m, k = m + 1 := ⟨k - 1, by omega⟩
    simp only [laws_markStringS.l0]
    rw [if_pos (by omega), hf a (by omega) k (by omega)]
    simp only [Option.bind_some]
    rw [if_pos (by omega), wr (x := a + 1) (by omega) (by omega), wr (x := (i : Int) + 1) (by omega) (by omega), Int.toNat_natCast]
    have e := ih k (i + 1) (xs.set i (f a)) (a + 1) (by omega) (by omega) (by simp; omega) (by simp; omega) (by omega)
    rw [Int.natCast_add] at e
    have e' : laws_markStringS.l0 k (xs.set i (f a)) (a + 1) ((i : Int) + 1) = _ := e
    have hs : i < (xs.set i (f a)).length := by rw [List.length_set]; omega
    have ht : (xs.set i (f a)).take (i + 1) = xs.take i ++ [f a] := by
      rw [List.take_succ_eq_append_getElem hs, List.getElem_set_self, List.take_set_of_le (Nat.le_refl i)]
    rw [e', ht, List.append_assoc]
    simp only [texts, List.cons_append, List.nil_append, Option.some.injEq, Prod.mk.injEq]
    exact ⟨by omega, trivial⟩
theorem heldS_loop (f : Int → ByteArray) (hf : ∀ a, a ≤ 2000000 → ∀ k, 8 < k → laws_markText.f k a = some (f a)) (d : Nat) : ∀ (k i : Nat) (xs : List ByteArray) (a : Int), 0 ≤ a → a + d ≤ 2000000 → i + d = xs.length → xs.length ≤ 2000000 → xs.drop i = texts f a d → d + 8 < k →
    laws_heldStringS.l0 k xs a (i : Int) = some (a + (d : Int)) := by
  induction d with
  | zero =>
    intro k i xs a ha hb hi hn hm hk
    obtain ⟨k, rfl⟩ : ∃ m, k = m + 1 := ⟨k - 1, by omega⟩
    simp only [laws_heldStringS.l0]
    rw [if_neg (by omega)]
    simp
  | succ d ih =>
    intro k i xs a ha hb hi hn hm hk
    obtain ⟨k, rfl⟩ : ∃ m, k = m + 1 := ⟨k - 1, by omega⟩
    have hx : i < xs.length := by omega
    rw [List.drop_eq_getElem_cons hx] at hm
    simp only [texts, List.cons.injEq] at hm
    have e := ih k (i + 1) xs (a + 1) (by omega) (by omega) (by omega) hn hm.2 (by omega)
    rw [Int.natCast_add] at e
    have e' : laws_heldStringS.l0 k xs (a + 1) ((i : Int) + 1) = _ := e
    simp only [laws_heldStringS.l0]
    rw [if_pos (by omega), if_pos (by omega), hf a (by omega) k (by omega)]
    simp only [Option.bind_some]
    rw [rdS_at hx, hm.1, if_pos rfl, wr (x := a + 1) (by omega) (by omega), wr (x := (i : Int) + 1) (by omega) (by omega), e']
    congr 1; omega

def ex (s : ByteArray) (x : Nat × Nat) : ByteArray := s.extract x.1 x.2
theorem bt_by {s : ByteArray} {i : Nat} (h : i < s.size) : bt s (i : Int) = (Wd.by_ s i : Int) := by
  unfold bt Wd.by_
  rw [Int.toNat_natCast, dif_pos h]
  have : s.get! i = s[i] := by
    show s.data[i]! = s.data[i]
    rw [getElem!_pos]
  rw [this]
theorem blankS (c : Nat) : spec_l01Blank.f (c : Int) = some (Wd.blank c) := by
  unfold spec_l01Blank.f Wd.blank
  by_cases h : c = 32
  · subst h; rfl
  · rw [if_neg (by omega)]
    have e1 : (c == 32) = false := by simp [h]
    rw [e1, Bool.false_or]
    congr 1
    rw [Bool.eq_iff_iff, beq_iff_eq, beq_iff_eq]; omega
/-- over bytes that are not blank -/
theorem over (s : ByteArray) (hs : s.size ≤ 1048576) (out : List ByteArray) (a : Int) (w : Nat) : ∀ (k pos : Nat), pos + w ≤ s.size → (∀ j, j < w → Wd.blank (Wd.by_ s (pos + j)) = false) →
    spec_Words.l1 (k + w) s out a (pos : Int) = spec_Words.l1 k s out a ((pos + w : Nat) : Int) := by
  induction w with
  | zero => intro k pos _ _; rfl
  | succ w ih =>
    intro k pos hp hb
    have hx : pos < s.size := by omega
    rw [show k + (w + 1) = (k + w) + 1 from by omega]
    simp only [spec_Words.l1]
    rw [if_pos (by omega), if_pos (by omega), bt_by hx, blankS]
    have h0 := hb 0 (by omega)
    rw [Nat.add_zero] at h0
    rw [h0]
    simp only [Option.bind_some, Bool.false_eq_true, if_false]
    rw [wr (by omega) (by omega)]
    have e := ih k (pos + 1) (by omega) (fun j hj => by
      have := hb (j + 1) (by omega)
      rw [show pos + (j + 1) = pos + 1 + j from by omega] at this
      exact this)
    rw [Int.natCast_add] at e
    have e' : spec_Words.l1 (k + w) s out a ((pos : Int) + 1) = _ := e
    rw [e', show pos + 1 + w = pos + (w + 1) from by omega]
theorem dec_not (s : ByteArray) (pos : Nat) (h : pos < s.size) (hb : Wd.blank (Wd.by_ s pos) = false) : Wd.blank (Utf8.decode s pos).1 = false ∧ 1 ≤ (Utf8.decode s pos).2 ∧ pos + (Utf8.decode s pos).2 ≤ s.size ∧ ∀ j, j < (Utf8.decode s pos).2 → Wd.blank (Wd.by_ s (pos + j)) = false := by
  by_cases hl : Wd.by_ s pos < 128
  · rw [Wd.dec_low s pos hl]
    refine ⟨hb, Nat.le_refl _, h, fun j hj => ?_⟩
    obtain rfl : j = 0 := by simp only at hj; omega
    exact hb
  · obtain ⟨h1, h2, h3, h4⟩ := Wd.dec_high s pos h (by omega)
    have big : ∀ c, 128 ≤ c → Wd.blank c = false := by
      intro c hc; unfold Wd.blank
      have e1 : (c == 32) = false := by simp; omega
      have e2 : (c == 9) = false := by simp; omega
      rw [e1, e2]; rfl
    refine ⟨big _ h1, h2, h3, fun j hj => ?_⟩
    rcases Nat.eq_zero_or_pos j with rfl | hj0
    · exact hb
    · exact big _ (h4 j hj0 hj)
theorem dec_blank (s : ByteArray) (pos : Nat) (hb : Wd.blank (Wd.by_ s pos) = true) : Utf8.decode s pos = (Wd.by_ s pos, 1) := by
  refine Wd.dec_low s pos ?_
  unfold Wd.blank at hb
  simp only [Bool.or_eq_true, beq_iff_eq] at hb
  omega
theorem words_main (s : ByteArray) (hs : s.size ≤ 1048576) (n : Nat) : ∀ (pos f : Nat) (acc : List (Nat × Nat)), pos + n = s.size → s.size ≤ pos + f → acc.length ≤ pos →
    ((Lib.closeSpans s (Lib.spansFromP Wd.blank s f pos none acc)).length ≤ s.size ∧ ∃ K, ∀ k, K ≤ k → spec_Words.l0 k s (acc.map (ex s)) (pos : Int) = some ((Lib.closeSpans s (Lib.spansFromP Wd.blank s f pos none acc)).map (ex s))) ∧
    (∀ a, a < pos → acc.length + 1 ≤ pos → (Lib.closeSpans s (Lib.spansFromP Wd.blank s f pos (some a) acc)).length ≤ s.size ∧ ∃ K, ∀ k, K ≤ k → spec_Words.l1 k s (acc.map (ex s)) (a : Int) (pos : Int) = some ((Lib.closeSpans s (Lib.spansFromP Wd.blank s f pos (some a) acc)).map (ex s))) := by
  induction n using Nat.strongRecOn with
  | ind n ih =>
    intro pos f acc hpos hf hacc
    have none0 : ∀ (acc : List (Nat × Nat)), ¬ pos < s.size → ∀ k, 1 ≤ k → spec_Words.l0 k s (acc.map (ex s)) (pos : Int) = some (acc.map (ex s)) := by
      intro acc hp k hk
      obtain ⟨k, rfl⟩ : ∃ m, k = m + 1 := ⟨k - 1, by omega⟩
      simp only [spec_Words.l0]
      rw [if_neg (by omega)]
    by_cases hp : pos < s.size
    · obtain ⟨f, rfl⟩ : ∃ m, f = m + 1 := ⟨f - 1, by omega⟩
      cases hb : Wd.blank (Wd.by_ s pos)
      · -- no blank: the rune's bytes, then on
        obtain ⟨d1, d2, d3, d4⟩ := dec_not s pos hp hb
        have go : ∀ (a : Nat) (acc : List (Nat × Nat)), a < pos + (Utf8.decode s pos).2 → acc.length + 1 ≤ pos + (Utf8.decode s pos).2 →
            (Lib.closeSpans s (Lib.spansFromP Wd.blank s f (pos + (Utf8.decode s pos).2) (some a) acc)).length ≤ s.size ∧ ∃ K, ∀ k, K ≤ k → spec_Words.l1 k s (acc.map (ex s)) (a : Int) (pos : Int) = some ((Lib.closeSpans s (Lib.spansFromP Wd.blank s f (pos + (Utf8.decode s pos).2) (some a) acc)).map (ex s)) := by
          intro a acc ha hacc
          obtain ⟨_, h2⟩ := ih (n - (Utf8.decode s pos).2) (by omega) (pos + (Utf8.decode s pos).2) f acc (by omega) (by omega) (by omega)
          obtain ⟨hl, K, hK⟩ := h2 a ha hacc
          refine ⟨hl, K + (Utf8.decode s pos).2, fun k hk => ?_⟩
          obtain ⟨k, rfl⟩ : ∃ m, k = m + (Utf8.decode s pos).2 := ⟨k - (Utf8.decode s pos).2, by omega⟩
          rw [over s hs _ _ _ k pos d3 d4]
          exact hK k (by omega)
        refine ⟨?_, fun a ha hacc1 => ?_⟩
        · have e : Lib.spansFromP Wd.blank s (f + 1) pos none acc = Lib.spansFromP Wd.blank s f (pos + (Utf8.decode s pos).2) (some pos) acc := by
            simp only [Lib.spansFromP]
            rw [if_pos hp, d1]; rfl
          rw [e]
          obtain ⟨hl, K, hK⟩ := go pos acc (by omega) (by omega)
          refine ⟨hl, K + 1, fun k hk => ?_⟩
          obtain ⟨k, rfl⟩ : ∃ m, k = m + 1 := ⟨k - 1, by omega⟩
          simp only [spec_Words.l0]
          rw [if_pos (by omega), if_pos (by omega), bt_by hp, blankS, hb]
          simp only [Option.bind_some, Bool.false_eq_true, if_false]
          exact hK k (by omega)
        · have e : Lib.spansFromP Wd.blank s (f + 1) pos (some a) acc = Lib.spansFromP Wd.blank s f (pos + (Utf8.decode s pos).2) (some a) acc := by
            simp only [Lib.spansFromP]
            rw [if_pos hp, d1]; rfl
          rw [e]
          exact go a acc (by omega) (by omega)
      · have hd := dec_blank s pos hb
        have d1 : Wd.blank (Utf8.decode s pos).1 = true := by rw [hd]; exact hb
        have d2 : (Utf8.decode s pos).2 = 1 := by rw [hd]
        have skip : ∀ (acc : List (Nat × Nat)), acc.length ≤ pos + 1 → (Lib.closeSpans s (Lib.spansFromP Wd.blank s f (pos + 1) none acc)).length ≤ s.size ∧ ∃ K, ∀ k, K ≤ k → spec_Words.l0 k s (acc.map (ex s)) (pos : Int) = some ((Lib.closeSpans s (Lib.spansFromP Wd.blank s f (pos + 1) none acc)).map (ex s)) := by
          intro acc hacc
          obtain ⟨⟨hl, K, hK⟩, _⟩ := ih (n - 1) (by omega) (pos + 1) f acc (by omega) (by omega) hacc
          refine ⟨hl, K + 1, fun k hk => ?_⟩
          obtain ⟨k, rfl⟩ : ∃ m, k = m + 1 := ⟨k - 1, by omega⟩
          simp only [spec_Words.l0]
          rw [if_pos (by omega), if_pos (by omega), bt_by hp, blankS, hb]
          simp only [Option.bind_some, if_true]
          rw [wr (by omega) (by omega)]
          have := hK k (by omega)
          rw [Int.natCast_add] at this
          exact this
        refine ⟨?_, fun a ha hacc1 => ?_⟩
        · have e : Lib.spansFromP Wd.blank s (f + 1) pos none acc = Lib.spansFromP Wd.blank s f (pos + 1) none acc := by
            simp only [Lib.spansFromP]
            rw [if_pos hp, d1, d2]; rfl
          rw [e]
          exact skip acc (by omega)
        · have e : Lib.spansFromP Wd.blank s (f + 1) pos (some a) acc = Lib.spansFromP Wd.blank s f (pos + 1) none (acc ++ [(a, pos)]) := by
            simp only [Lib.spansFromP]
            rw [if_pos hp, d1, d2]; rfl
          rw [e]
          obtain ⟨hl, K, hK⟩ := skip (acc ++ [(a, pos)]) (by simp; omega)
          refine ⟨hl, K + 1, fun k hk => ?_⟩
          obtain ⟨k, rfl⟩ : ∃ m, k = m + 1 := ⟨k - 1, by omega⟩
          simp only [spec_Words.l1]
          rw [if_pos (by omega), if_pos (by omega), bt_by hp, blankS, hb]
          simp only [Option.bind_some, if_true]
          rw [if_pos (by omega), if_pos (by omega), if_pos (by omega), if_pos (by rw [List.length_map]; omega), Int.toNat_natCast, Int.toNat_natCast]
          have := hK k (by omega)
          rw [List.map_append] at this
          exact this
    · have hp0 : pos = s.size := by omega
      refine ⟨?_, fun a ha hacc1 => ?_⟩
      · rw [Lib.spansFromP_end _ _ _ _ _ _ hp]
        refine ⟨by show acc.length ≤ s.size; omega, 1, fun k hk => none0 acc hp k hk⟩
      · rw [Lib.spansFromP_end _ _ _ _ _ _ hp]
        refine ⟨by show (acc ++ [(a, s.size)]).length ≤ s.size; simp; omega, 2, fun k hk => ?_⟩
        obtain ⟨k, rfl⟩ : ∃ m, k = m + 1 := ⟨k - 1, by omega⟩
        simp only [spec_Words.l1]
        rw [if_neg (by omega), if_pos (by omega), if_pos (by omega), if_pos (by omega), if_pos (by rw [List.length_map]; omega), Int.toNat_natCast, Int.toNat_natCast]
        have := none0 (acc ++ [(a, pos)]) hp k (by omega)
        rw [List.map_append] at this
        show _ = some ((acc ++ [(a, s.size)]).map (ex s))
        rw [← hp0, List.map_append]
        exact this
theorem words_eq (s : ByteArray) (hs : s.size ≤ 1048576) : (Lib.goFieldsP Wd.blank s).length ≤ s.size ∧ ∃ K, ∀ k, K ≤ k → spec_Words.f k s = some (Lib.goFieldsP Wd.blank s) := by
  obtain ⟨⟨hl, K, hK⟩, _⟩ := words_main s hs s.size 0 s.size [] (by omega) (by omega) (by simp)
  exact ⟨by unfold Lib.goFieldsP Lib.spansOfP; rw [List.length_map]; exact hl, K, fun k hk => hK k hk⟩
end AFnExactWords
open AFnExactWords

theorem FnExactWords : laws_FnExactWords.Pure := by
  intro s _
  by_cases hb : (s.size : Int) > 1048576
  · exact ⟨0, by unfold laws_FnExactWords.f; rw [if_pos hb]⟩
  · obtain ⟨hl, K1, h1⟩ := words_eq s (by omega)
    obtain ⟨f, hf⟩ := Classical.skolem.1 text_ex
    generalize hL : Lib.goFieldsP Wd.blank s = L at *
    obtain ⟨K, hK⟩ : ∃ K, K1 + s.size + 20 ≤ K := ⟨_, Nat.le_refl _⟩
    refine ⟨K, ?_⟩
    have e1 := h1 K (by omega)
    have e2 : impl_Words.f K s = some L := by
      unfold impl_Words.f impl_words.f
      rw [if_pos (by omega), hL]; rfl
    have e3 := eqS_eq K L (by omega) (by omega)
    have e4 : laws_markStringS.f K L 1 = some (1 + (L.length : Int), texts f 1 L.length) := by
      have := markS_loop f hf L.length K 0 L 1 (by omega) (by omega) (by omega) (by omega) (by omega)
      unfold laws_markStringS.f
      have e' : laws_markStringS.l0 K L 1 0 = _ := this
      rw [e']; simp
    have e5 : laws_heldStringS.f K (texts f 1 L.length) 1 = some (1 + (L.length : Int)) := by
      have := heldS_loop f hf L.length K 0 (texts f 1 L.length) 1 (by omega) (by omega) (by rw [texts_length]; omega) (by rw [texts_length]; omega) rfl (by omega)
      unfold laws_heldStringS.f
      exact this
    have p : ¬ (1 + (L.length : Int)) < 0 := by omega
    unfold laws_FnExactWords.f
    simp only [if_neg hb, e1, e2, e3, e4, e5, Option.bind_some, if_true, if_neg p]

end Go.Proofs.Ytamkekhdnkeciaa.Pure
