/- Lines answers as the reference, and its answer is its own. -/
import Derived.Test.YtamkekhdnkeciaaDoorMFnExactLinesx2
namespace Go.Proofs.YtamkekhdnkeciaaDoor.Pure
set_option linter.unusedVariables false
set_option linter.unusedSimpArgs false
open Go.RowKit Go.Proofs.YtamkekhdnkeciaaDoor.MFnExactLines Go.Proofs.YtamkekhdnkeciaaDoorW.PrintWords Go.Proofs.YtamkekhdnkeciaaDoorW.PrintLast
namespace AFnExactLines

theorem wr {x : Int} (h1 : -9223372036854775808 ≤ x) (h2 : x ≤ 9223372036854775807) : wrap64 x = x := by
  unfold wrap64; omega

/-- a mark's text -/
theorem text_loop (d : Nat) : ∀ (x0 : Int) (x3 : ByteArray), x0 < 10 ^ d → x3.size + d ≤ 1000 → ∃ t, ∀ k, d < k → laws_markText.l0 k x0 x3 = some t := by
  induction d with
  | zero =>
    intro x0 x3 hx hs
    refine ⟨(⟨#[109]⟩ : ByteArray) ++ x3, fun k hk => ?_⟩
    obtain ⟨k, rfl⟩ : ∃ m, k = m + 1 := ⟨k - 1, by omega⟩
    simp only [laws_markText.l0]
    rw [if_neg (by have : (10 : Int) ^ 0 = 1 := rfl; omega), if_pos (by omega)]
  | succ d ih =>
    intro x0 x3 hx hs
    by_cases h0 : x0 > 0
    · have hb : (strOfNums [(wrap64 (48 + (Int.tmod x0 10))) % 256]).size = 1 := by unfold strOfNums; rfl
      have hp : (10 : Int) ^ (d + 1) = 10 ^ d * 10 := Int.pow_succ ..
      have hd : Int.tdiv x0 10 = x0 / 10 := Int.tdiv_eq_ediv_of_nonneg (by omega)
      by_cases hbig : x0 ≤ 9223372036854775807
      · obtain ⟨t, ht⟩ := ih (wrap64 (Int.tdiv x0 10)) ((strOfNums [(wrap64 (48 + (Int.tmod x0 10))) % 256]) ++ x3) (by
          rw [hd, wr (by omega) (by omega)]; omega) (by rw [ByteArray.size_append, hb]; omega)
        refine ⟨t, fun k hk => ?_⟩
        obtain ⟨k, rfl⟩ : ∃ m, k = m + 1 := ⟨k - 1, by omega⟩
        simp only [laws_markText.l0]
        rw [if_pos h0]
        simp only [Option.bind_some]
        rw [if_pos (by rw [hb]; omega)]
        exact ht k (by omega)
      · obtain ⟨t, ht⟩ := ih (wrap64 (Int.tdiv x0 10)) ((strOfNums [(wrap64 (48 + (Int.tmod x0 10))) % 256]) ++ x3) (by
          have : wrap64 (Int.tdiv x0 10) ≤ x0 / 10 := by rw [hd]; unfold wrap64; omega
          omega) (by rw [ByteArray.size_append, hb]; omega)
        refine ⟨t, fun k hk => ?_⟩
        obtain ⟨k, rfl⟩ : ∃ m, k = m + 1 := ⟨k - 1, by omega⟩
        simp only [laws_markText.l0]
        rw [if_pos h0]
        simp only [Option.bind_some]
        rw [if_pos (by rw [hb]; omega)]
        exact ht k (by omega)
    · refine ⟨(⟨#[109]⟩ : ByteArray) ++ x3, fun k hk => ?_⟩
      obtain ⟨k, rfl⟩ : ∃ m, k = m + 1 := ⟨k - 1, by omega⟩
      simp only [laws_markText.l0]
      rw [if_neg h0, if_pos (by omega)]
theorem text_ex (a : Int) : ∃ t, a ≤ 2000000 → ∀ k, 8 < k → laws_markText.f k a = some t := by
  by_cases ha : a ≤ 2000000
  · unfold laws_markText.f
    by_cases h0 : a ≤ 0
    · exact ⟨_, fun _ k _ => by rw [if_pos h0]⟩
    · obtain ⟨t, ht⟩ := text_loop 8 a ⟨#[]⟩ (by omega) (by decide)
      exact ⟨t, fun _ k hk => by rw [if_neg h0]; exact ht k hk⟩
  · exact ⟨ByteArray.empty, fun h => absurd h ha⟩
/-- the marks' texts from a on -/
def texts (f : Int → ByteArray) (a : Int) : Nat → List ByteArray
  | 0 => []
  | n + 1 => f a :: texts f (a + 1) n
theorem texts_length (f : Int → ByteArray) (n : Nat) : ∀ a, (texts f a n).length = n := by
  induction n with
  | zero => intro a; rfl
  | succ n ih => intro a; simp [texts, ih]
theorem rdS_at {xs : List ByteArray} {i : Nat} (h : i < xs.length) : rdOf ByteArray.empty xs (i : Int) = xs[i] := by
  unfold rdOf; simp [List.getD, List.getElem?_eq_getElem h]
theorem eqS_loop (xs : List ByteArray) (hn : xs.length ≤ 2000000) (d : Nat) : ∀ (k i : Nat), i + d = xs.length → d < k → laws_eqStringS.l0 k xs xs (i : Int) = some true := by
  induction d with
  | zero =>
    intro k i hi hk
    obtain ⟨k, rfl⟩ : ∃ m, k = m + 1 := ⟨k - 1, by omega⟩
    simp only [laws_eqStringS.l0]
    rw [if_neg (by omega)]
  | succ d ih =>
    intro k i hi hk
    obtain ⟨k, rfl⟩ : ∃ m, k = m + 1 := ⟨k - 1, by omega⟩
    simp only [laws_eqStringS.l0]
    rw [if_pos (by omega), if_pos (by omega), if_pos (by omega), if_pos trivial, wr (by omega) (by omega)]
    have e := ih k (i + 1) (by omega) (by omega)
    rw [Int.natCast_add] at e
    exact e
theorem eqS_eq (k : Nat) (xs : List ByteArray) (hn : xs.length ≤ 2000000) (hk : xs.length < k) : laws_eqStringS.f k xs xs = some true := by
  unfold laws_eqStringS.f
  rw [if_pos rfl]
  exact eqS_loop xs hn xs.length k 0 (by omega) hk
theorem markS_loop (f : Int → ByteArray) (hf : ∀ a, a ≤ 2000000 → ∀ k, 8 < k → laws_markText.f k a = some (f a)) (d : Nat) : ∀ (k i : Nat) (xs : List ByteArray) (a : Int), 0 ≤ a → a + d ≤ 2000000 → i + d = xs.length → xs.length ≤ 2000000 → d + 8 < k →
    laws_markStringS.l0 k xs a (i : Int) = some (a + (d : Int), xs.take i ++ texts f a d) := by
  induction d with
  | zero =>
    intro k i xs a ha hb hi hn hk
    obtain ⟨k, rfl⟩ : ∃ m, k = m + 1 := ⟨k - 1, by omega⟩
    simp only [laws_markStringS.l0]
    rw [if_neg (by omega), List.take_of_length_le (by omega)]
    simp [texts]
  | succ d ih =>
    intro k i xs a ha hb hi hn hk
    obtain ⟨k, rfl⟩ : ∃ m, k = m + 1 := ⟨k - 1, by omega⟩
    simp only [laws_markStringS.l0]
    rw [if_pos (by omega), hf a (by omega) k (by omega)]
    simp only [Option.bind_some]
    rw [if_pos (by omega), wr (x := a + 1) (by omega) (by omega), wr (x := (i : Int) + 1) (by omega) (by omega), Int.toNat_natCast]
    have e := ih k (i + 1) (xs.set i (f a)) (a + 1) (by omega) (by omega) (by simp; omega) (by simp; omega) (by omega)
    rw [Int.natCast_add] at e
    have e' : laws_markStringS.l0 k (xs.set i (f a)) (a + 1) ((i : Int) + 1) = _ := e
    have hs : i < (xs.set i (f a)).length := by rw [List.length_set]; omega
    have ht : (xs.set i (f a)).take (i + 1) = xs.take i ++ [f a] := by
      rw [List.take_succ_eq_append_getElem hs, List.getElem_set_self, List.take_set_of_le (Nat.le_refl i)]
    rw [e', ht, List.append_assoc]
    simp only [texts, List.cons_append, List.nil_append, Option.some.injEq, Prod.mk.injEq]
    exact ⟨by omega, trivial⟩
theorem heldS_loop (f : Int → ByteArray) (hf : ∀ a, a ≤ 2000000 → ∀ k, 8 < k → laws_markText.f k a = some (f a)) (d : Nat) : ∀ (k i : Nat) (xs : List ByteArray) (a : Int), 0 ≤ a → a + d ≤ 2000000 → i + d = xs.length → xs.length ≤ 2000000 → xs.drop i = texts f a d → d + 8 < k →
    laws_heldStringS.l0 k xs a (i : Int) = some (a + (d : Int)) := by
  induction d with
  | zero =>
    intro k i xs a ha hb hi hn hm hk
    obtain ⟨k, rfl⟩ : ∃ m, k = m + 1 := ⟨k - 1, by omega⟩
    simp only [laws_heldStringS.l0]
    rw [if_neg (by omega)]
    simp
  | succ d ih =>
    intro k i xs a ha hb hi hn hm hk
    obtain ⟨k, rfl⟩ : ∃ m, k = m + 1 := ⟨k - 1, by omega⟩
    have hx : i < xs.length := by omega
    rw [List.drop_eq_getElem_cons hx] at hm
    simp only [texts, List.cons.injEq] at hm
    have e := ih k (i + 1) xs (a + 1) (by omega) (by omega) (by omega) hn hm.2 (by omega)
    rw [Int.natCast_add] at e
    have e' : laws_heldStringS.l0 k xs (a + 1) ((i : Int) + 1) = _ := e
    simp only [laws_heldStringS.l0]
    rw [if_pos (by omega), if_pos (by omega), hf a (by omega) k (by omega)]
    simp only [Option.bind_some]
    rw [rdS_at hx, hm.1, if_pos rfl, wr (x := a + 1) (by omega) (by omega), wr (x := (i : Int) + 1) (by omega) (by omega), e']
    congr 1; omega

theorem bt_list {s : ByteArray} {i : Nat} (h : i < s.data.toList.length) : bt s (i : Int) = ((s.data.toList[i]).toNat : Int) := by
  unfold bt
  have h' : i < s.size := by
    have : s.data.toList.length = s.size := Array.length_toList ..
    omega
  rw [Int.toNat_natCast, dif_pos h']
  rfl
theorem nl_iff {s : ByteArray} {i : Nat} (h : i < s.data.toList.length) : bt s (i : Int) = 10 ↔ Ln.nl s i = true := by
  rw [bt_list h]
  unfold Ln.nl
  rw [List.getElem?_eq_getElem h]
  simp only [Option.some.injEq, decide_eq_true_eq]
  constructor
  · intro e
    apply UInt8.toNat_inj.1
    show (s.data.toList[i]).toNat = 10
    omega
  · intro e; rw [e]; rfl

theorem ex_empty (s : ByteArray) (a : Nat) (h : a ≤ s.size) : (s.extract a s.size = ⟨#[]⟩) ↔ a = s.size := by
  constructor
  · intro e
    have h1 : (s.extract a s.size).size = 0 := by rw [e]; rfl
    rw [ByteArray.size_extract] at h1
    omega
  · intro e
    subst e
    apply ByteArray.ext
    simp
theorem lines_loop (s : ByteArray) (hs : s.size ≤ 1048576) (d : Nat) : ∀ (k i a : Nat) (out : List ByteArray), a ≤ i → i + d = s.size → out.length + d ≤ 1048576 → d < k → spec_Lines.l0 k s out (a : Int) (i : Int) = some (out ++ Ln.trim (Ln.cut s a i d)) := by
  have hlen : s.data.toList.length = s.size := Array.length_toList ..
  induction d with
  | zero =>
    intro k i a out ha hi ho hk
    obtain ⟨k, rfl⟩ : ∃ m, k = m + 1 := ⟨k - 1, by omega⟩
    simp only [spec_Lines.l0, Ln.cut, Ln.trim, List.getLast?_singleton, Option.some.injEq]
    rw [if_neg (by omega)]
    by_cases h : a = s.size
    · rw [if_neg (by omega), if_pos ((ex_empty s a (by omega)).2 h)]
      simp
    · rw [if_pos (by omega), if_pos (by omega), if_pos (by omega), if_pos (by omega), if_neg (fun e => h ((ex_empty s a (by omega)).1 e)), Int.toNat_natCast]
  | succ d ih =>
    intro k i a out ha hi ho hk
    obtain ⟨k, rfl⟩ : ∃ m, k = m + 1 := ⟨k - 1, by omega⟩
    have hlt : i < s.data.toList.length := by omega
    simp only [spec_Lines.l0]
    rw [if_pos (by omega), if_pos (by omega), wr (x := (i : Int) + 1) (by omega) (by omega)]
    have hc : ((i + 1 : Nat) : Int) = (i : Int) + 1 := by omega
    by_cases hn : Ln.nl s i = true
    · rw [if_pos ((nl_iff hlt).2 hn), if_pos (by omega), if_pos (by omega), if_pos (by omega), if_pos (by omega), Int.toNat_natCast, Int.toNat_natCast, Ln.cut, if_pos hn, Ln.trim_cons _ (Ln.cut_ne _ _ _ _)]
      have e := ih k (i + 1) (i + 1) (out ++ [s.extract a i]) (Nat.le_refl _) (by omega) (by rw [List.length_append, List.length_singleton]; omega) (by omega)
      rw [hc] at e
      rw [e, List.append_assoc]; rfl
    · rw [if_neg (fun e => hn ((nl_iff hlt).1 e)), Ln.cut, if_neg hn]
      have e := ih k (i + 1) a out (by omega) (by omega) (by omega) (by omega)
      rw [hc] at e
      exact e
theorem lines_eq (s : ByteArray) (hs : s.size ≤ 1048576) (k : Nat) (hk : s.size < k) : spec_Lines.f k s = some (Ln.lines s) := by
  unfold spec_Lines.f
  have e := lines_loop s hs s.size k 0 0 [] (Nat.le_refl _) (by omega) (by simp; omega) hk
  have e' : spec_Lines.l0 k s [] 0 0 = _ := e
  rw [e']; rfl

theorem lines_length (s : ByteArray) : (Ln.lines s).length ≤ s.size + 1 := by
  have h := Ln.cut_length s
  have hle : Lib.countB s ⟨#[10]⟩ ≤ s.size := Lib.countB_le ⟨#[10]⟩ (by decide) s.size s (Nat.le_refl _)
  unfold Ln.lines Ln.trim
  split
  · rw [List.length_dropLast]; omega
  · omega
end AFnExactLines
open AFnExactLines

theorem FnExactLines (s : ByteArray) : ∃ k, laws_FnExactLines.f k s = some true := by
  by_cases hb : (s.size : Int) > 1048576
  · exact ⟨0, by unfold laws_FnExactLines.f; rw [if_pos hb]⟩
  · have hs : s.size ≤ 1048576 := by omega
    have hl := lines_length s
    obtain ⟨f, hf⟩ := Classical.skolem.1 text_ex
    obtain ⟨K, hK⟩ : ∃ K, s.size + 20 ≤ K := ⟨_, Nat.le_refl _⟩
    refine ⟨K, ?_⟩
    have e1 := lines_eq s hs K (by omega)
    have e2 : impl_Lines.f K s = some (Ln.lines s) := by unfold impl_Lines.f; rw [if_pos hs]
    generalize Ln.lines s = L at *
    have e3 := eqS_eq K L (by omega) (by omega)
    have e4 : laws_markStringS.f K L 1 = some (1 + (L.length : Int), texts f 1 L.length) := by
      have := markS_loop f hf L.length K 0 L 1 (by omega) (by omega) (by omega) (by omega) (by omega)
      unfold laws_markStringS.f
      have e' : laws_markStringS.l0 K L 1 0 = _ := this
      rw [e']; simp
    have e5 : laws_heldStringS.f K (texts f 1 L.length) 1 = some (1 + (L.length : Int)) := by
      have := heldS_loop f hf L.length K 0 (texts f 1 L.length) 1 (by omega) (by omega) (by rw [texts_length]; omega) (by rw [texts_length]; omega) rfl (by omega)
      unfold laws_heldStringS.f
      exact this
    have p : ¬ (1 + (L.length : Int)) < 0 := by omega
    unfold laws_FnExactLines.f
    simp only [if_neg hb, e1, e2, e3, e4, e5, Option.bind_some, if_true, if_neg p]
theorem exactLines_walk (s : ByteArray) (w : World) (hm : ∃ m, w.cell? ⟨3, 0, none⟩ = some (.int .i64 m)) :
    Calls Tryd.prog 6 #[.string s] w fun e w' => e = .returned (.bool true) ∧ Below w.heap.size w w' := by
  obtain ⟨k, h⟩ := FnExactLines s
  exact laws_FnExactLines.calls k s true w hm h

end Go.Proofs.YtamkekhdnkeciaaDoor.Pure
