/- Spell answers as the reference at every list of tokens, and leaves it. -/
import Derived.Test.YtamkekhdnkeciaaMFnExactSpellx2
namespace Go.Proofs.Ytamkekhdnkeciaa.Pure
set_option linter.unusedVariables false
set_option linter.unusedSimpArgs false
open Go.RowKit Go.Proofs.Ytamkekhdnkeciaa.MFnExactSpell Go.Proofs.YtamkekhdnkeciaaW.PrintWords Go.Proofs.YtamkekhdnkeciaaW.PrintLast
namespace AFnExactSpell

theorem wr {x : Int} (h1 : -9223372036854775808 ≤ x) (h2 : x ≤ 9223372036854775807) : wrap64 x = x := by
  unfold wrap64; omega
end AFnExactSpell
open AFnExactSpell

def tot (l : List S38) : Nat := (l.map fun t => t.f1.size).sum
theorem rd38_at {xs : List S38} {i : Nat} (h : i < xs.length) : rd_T38 xs (i : Int) = xs[i] := by
  unfold rd_T38; simp [List.getD, List.getElem?_eq_getElem h]
theorem rd40_at {xs : List S40} {i : Nat} (h : i < xs.length) : rd_T40 xs (i : Int) = xs[i] := by
  unfold rd_T40; simp [List.getD, List.getElem?_eq_getElem h]
theorem tot_cons (t : S38) (l : List S38) : tot (t :: l) = t.f1.size + tot l := by unfold tot; simp
theorem sz_loop (xs : List S38) (hn : xs.length ≤ 1048576) (hz : ∀ t ∈ xs, t.f1.size ≤ 9223372036854775807) (n : Nat) : ∀ (k i : Nat) (left : Int), 0 ≤ left → left ≤ 1048576 → i + n = xs.length → n < k →
    laws_szTokenS.l0 k xs left (i : Int) = some (if (tot (xs.drop i) : Int) ≤ left then left - tot (xs.drop i) else -1) := by
  induction n with
  | zero =>
    intro k i left h0 h1 hi hk
    obtain ⟨k, rfl⟩ : ∃ m, k = m + 1 := ⟨k - 1, by omega⟩
    simp only [laws_szTokenS.l0]
    rw [if_neg (by omega), List.drop_eq_nil_of_le (by omega)]
    have e : tot [] = 0 := rfl
    rw [e, if_pos (by omega)]; simp
  | succ n ih =>
    intro k i left h0 h1 hi hk
    obtain ⟨k, rfl⟩ : ∃ m, k = m + 1 := ⟨k - 1, by omega⟩
    have hx : i < xs.length := by omega
    have hsz := hz _ (List.getElem_mem hx)
    simp only [laws_szTokenS.l0]
    rw [if_pos (by omega), if_pos (by omega), rd38_at hx, List.drop_eq_getElem_cons hx, tot_cons]
    unfold laws_szToken.f
    rw [wr (x := left - (xs[i].f1.size : Int)) (by omega) (by omega)]
    by_cases hneg : left - (xs[i].f1.size : Int) < 0
    · rw [if_pos hneg]
      simp only [Option.bind_some]
      rw [if_pos (by decide), if_neg (by omega)]
    · rw [if_neg hneg]
      simp only [Option.bind_some]
      rw [if_neg hneg, wr (x := (i : Int) + 1) (by omega) (by omega)]
      have e := ih k (i + 1) (left - (xs[i].f1.size : Int)) (by omega) (by omega) (by omega) (by omega)
      rw [Int.natCast_add] at e
      have e' : laws_szTokenS.l0 k xs (left - (xs[i].f1.size : Int)) ((i : Int) + 1) = _ := e
      rw [e']
      congr 1
      split <;> split <;> omega
def conv (t : S38) : S40 := ⟨t.f0, t.f1, t.f2⟩
theorem copy_loop (xs : List S38) (hn : xs.length ≤ 1048576) (d : Nat) : ∀ (k i : Nat) (ys : List S40), i + d = xs.length → ys.length = xs.length → ys.take i = (xs.take i).map conv → d < k →
    laws_toTokenS.l0 k xs ys (i : Int) = some (xs.map conv) := by
  induction d with
  | zero =>
    intro k i ys hi hl ht hk
    obtain ⟨k, rfl⟩ : ∃ m, k = m + 1 := ⟨k - 1, by omega⟩
    simp only [laws_toTokenS.l0]
    rw [if_neg (by omega)]
    rw [List.take_of_length_le (by omega), List.take_of_length_le (by omega)] at ht
    rw [ht]
  | succ d ih =>
    intro k i ys hi hl ht hk
    obtain ⟨k, rfl⟩ : ∃ m, k = m + 1 := ⟨k - 1, by omega⟩
    have hx : i < xs.length := by omega
    simp only [laws_toTokenS.l0, laws_toToken.f]
    rw [if_pos (by omega), if_pos (by omega), rd38_at hx]
    simp only [Option.bind_some]
    rw [if_pos (by omega), wr (by omega) (by omega), Int.toNat_natCast]
    have hs : i < (ys.set i (conv xs[i])).length := by rw [List.length_set]; omega
    have e := ih k (i + 1) (ys.set i (conv xs[i])) (by omega) (by simp; omega) (by
      rw [List.take_succ_eq_append_getElem hs, List.getElem_set_self, List.take_set_of_le (Nat.le_refl i), ht, List.take_succ_eq_append_getElem hx, List.map_append]; rfl) (by omega)
    rw [Int.natCast_add] at e
    exact e
theorem copy_eq (k : Nat) (xs : List S38) (hn : xs.length ≤ 1048576) (hk : xs.length < k) : laws_toTokenS.f k xs = some (xs.map conv) := by
  unfold laws_toTokenS.f
  rw [if_pos (by omega), if_pos (by omega)]
  exact copy_loop xs hn xs.length k 0 (List.replicate ((xs.length : Int)).toNat z40) (by omega) (by simp) (by simp) hk
theorem eq_loop (xs : List S40) (hn : xs.length ≤ 1048576) (d : Nat) : ∀ (k i : Nat), i + d = xs.length → d < k → laws_eqTokenS.l0 k xs xs (i : Int) = some true := by
  induction d with
  | zero =>
    intro k i hi hk
    obtain ⟨k, rfl⟩ : ∃ m, k = m + 1 := ⟨k - 1, by omega⟩
    simp only [laws_eqTokenS.l0]
    rw [if_neg (by omega)]
  | succ d ih =>
    intro k i hi hk
    obtain ⟨k, rfl⟩ : ∃ m, k = m + 1 := ⟨k - 1, by omega⟩
    have e := ih k (i + 1) (by omega) (by omega)
    rw [Int.natCast_add] at e
    have e' : laws_eqTokenS.l0 k xs xs ((i : Int) + 1) = _ := e
    simp only [laws_eqTokenS.l0, laws_eqToken.f, if_true, Option.bind_some]
    rw [if_pos (by omega), if_pos (by omega), if_pos (by omega), wr (by omega) (by omega), e']
theorem eq_eq (k : Nat) (xs : List S40) (hn : xs.length ≤ 1048576) (hk : xs.length < k) : laws_eqTokenS.f k xs xs = some true := by
  unfold laws_eqTokenS.f
  rw [if_pos rfl]
  exact eq_loop xs hn xs.length k 0 (by omega) hk
/-- what is spelt from a place on -/
def tail_ (l : List S40) : List Int := (l.map fun t => 32 :: bytesOf t.f1).flatten
def tot40 (l : List S40) : Nat := (l.map fun t => t.f1.size + 1).sum
theorem tot40_cons (t : S40) (l : List S40) : tot40 (t :: l) = t.f1.size + 1 + tot40 l := by unfold tot40; simp
theorem spec_loop (xs : List S40) (hn : xs.length ≤ 1048576) (n : Nat) : ∀ (k i : Nat) (out : List Int), 0 < i → i + n = xs.length → n < k → out.length + tot40 (xs.drop i) ≤ 10000000 →
    spec_Spell.l0 k xs out (i : Int) = some (strOfNums (out ++ tail_ (xs.drop i))) := by
  induction n with
  | zero =>
    intro k i out hi0 hi hk hs
    obtain ⟨k, rfl⟩ : ∃ m, k = m + 1 := ⟨k - 1, by omega⟩
    simp only [spec_Spell.l0]
    rw [if_neg (by omega), List.drop_eq_nil_of_le (by omega)]
    simp [tail_]
  | succ n ih =>
    intro k i out hi0 hi hk hs
    obtain ⟨k, rfl⟩ : ∃ m, k = m + 1 := ⟨k - 1, by omega⟩
    have hx : i < xs.length := by omega
    rw [List.drop_eq_getElem_cons hx, tot40_cons] at hs
    have e := ih k (i + 1) ((out ++ [32]) ++ bytesOf xs[i].f1) (by omega) (by omega) (by omega) (by simp only [List.length_append, bytesOf_length, List.length_cons, List.length_nil]; omega)
    rw [Int.natCast_add] at e
    have e' : spec_Spell.l0 k xs ((out ++ [32]) ++ bytesOf xs[i].f1) ((i : Int) + 1) = _ := e
    simp only [spec_Spell.l0, Option.bind_some]
    rw [if_pos (by omega), if_pos (by omega), if_pos (by omega), if_pos (by omega), rd40_at hx, if_pos (by simp only [List.length_append, List.length_cons, List.length_nil]; omega), wr (by omega) (by omega), e', List.drop_eq_getElem_cons hx]
    congr 2
    unfold tail_
    rw [List.map_cons, List.flatten_cons]
    simp only [List.append_assoc, List.cons_append, List.nil_append]
def spelt : List S40 → List Int
  | [] => []
  | t :: l => bytesOf t.f1 ++ tail_ l
theorem spec_eq (k : Nat) (xs : List S40) (hn : xs.length ≤ 1048576) (hs : tot40 xs ≤ 9000000) (hk : xs.length < k) : spec_Spell.f k xs = some (strOfNums (spelt xs)) := by
  unfold spec_Spell.f
  cases xs with
  | nil =>
    obtain ⟨k, rfl⟩ : ∃ m, k = m + 1 := ⟨k - 1, by omega⟩
    simp only [spec_Spell.l0]
    rw [if_neg (by simp)]; rfl
  | cons t l =>
    obtain ⟨k, rfl⟩ : ∃ m, k = m + 1 := ⟨k - 1, by omega⟩
    rw [tot40_cons] at hs
    have hl : (t :: l).length = l.length + 1 := rfl
    have e := spec_loop (t :: l) hn l.length k 1 (bytesOf t.f1) (by omega) (by omega) (by omega) (by rw [bytesOf_length]; simp only [List.drop_succ_cons, List.drop_zero]; omega)
    have e' : spec_Spell.l0 k (t :: l) (bytesOf t.f1) 1 = _ := e
    have hr : rd_T40 (t :: l) 0 = t := rfl
    simp only [spec_Spell.l0]
    rw [if_pos (by omega), if_neg (by decide), if_pos (by decide), hr, if_pos (by simp only [List.length_nil]; omega), wr (by omega) (by omega)]
    simp only [List.nil_append]
    exact e'
theorem impl_loop (xs : List S40) (hn : xs.length ≤ 1048576) (n : Nat) : ∀ (k i : Nat) (acc : List ByteArray), acc = (xs.take i).map (·.f1) → i + n = xs.length → n < k →
    impl_Spell.l0 k acc xs (xs.length : Int) (i : Int) = strings_Join.f (xs.map (·.f1)) ⟨#[32]⟩ := by
  induction n with
  | zero =>
    intro k i acc ha hi hk
    obtain ⟨k, rfl⟩ : ∃ m, k = m + 1 := ⟨k - 1, by omega⟩
    simp only [impl_Spell.l0]
    rw [if_neg (by omega)]
    rw [List.take_of_length_le (by omega)] at ha
    rw [ha]
    cases strings_Join.f (xs.map (·.f1)) ⟨#[32]⟩ <;> rfl
  | succ n ih =>
    intro k i acc ha hi hk
    obtain ⟨k, rfl⟩ : ∃ m, k = m + 1 := ⟨k - 1, by omega⟩
    have hx : i < xs.length := by omega
    have hal : acc.length ≤ 1048576 := by rw [ha, List.length_map, List.length_take]; omega
    simp only [impl_Spell.l0]
    rw [if_pos (by omega), if_pos (by omega), if_pos (by omega), if_pos (by omega), rd40_at hx, wr (by omega) (by omega)]
    have e := ih k (i + 1) (acc ++ [xs[i].f1]) (by rw [ha, List.take_succ_eq_append_getElem hx, List.map_append]; rfl) (by omega) (by omega)
    rw [Int.natCast_add] at e
    exact e
theorem bytes_back (s : ByteArray) : (bytesOf s).map (fun n => UInt8.ofNat n.toNat) = s.data.toList := by
  unfold bytesOf
  rw [List.map_map]
  have : ((fun n : Int => UInt8.ofNat n.toNat) ∘ fun b : UInt8 => (b.toNat : Int)) = id := by
    funext b; simp
  rw [this, List.map_id]
theorem spelt_join (xs : List S40) : (spelt xs).map (fun n => UInt8.ofNat n.toNat) = Lib.join ((xs.map (·.f1)).map (·.data.toList)) [32] := by
  cases xs with
  | nil => rfl
  | cons t l =>
    have ht : ∀ l : List S40, (tail_ l).map (fun n => UInt8.ofNat n.toNat) = Lib.joinTail [32] ((l.map (·.f1)).map (·.data.toList)) := by
      intro l
      induction l with
      | nil => rfl
      | cons u l ih =>
        have e : tail_ (u :: l) = (32 :: bytesOf u.f1) ++ tail_ l := by simp [tail_]
        have e2 : Lib.joinTail [32] (((u :: l).map (·.f1)).map (·.data.toList)) = ([32] ++ u.f1.data.toList) ++ Lib.joinTail [32] ((l.map (·.f1)).map (·.data.toList)) := by simp [Lib.joinTail]
        rw [e, e2, List.map_append, ih, List.map_cons, bytes_back]
        rfl
    simp only [spelt, List.map_cons]
    rw [Lib.join_cons, List.map_append, bytes_back, ht]
theorem spelt_length (xs : List S40) : (spelt xs).length ≤ tot40 xs := by
  have ht : ∀ l : List S40, (tail_ l).length = tot40 l := by
    intro l
    induction l with
    | nil => rfl
    | cons u l ih =>
      have e : tail_ (u :: l) = (32 :: bytesOf u.f1) ++ tail_ l := by simp [tail_]
      rw [e, List.length_append, List.length_cons, bytesOf_length, ih, tot40_cons]
  cases xs with
  | nil => simp [spelt]
  | cons t l => simp only [spelt, List.length_append, bytesOf_length, ht, tot40_cons]; omega
theorem tot_conv (l : List S38) : tot40 (l.map conv) = tot l + l.length := by
  induction l with
  | nil => rfl
  | cons t l ih => rw [List.map_cons, tot40_cons, tot_cons, ih]; simp [conv]; omega
theorem toList_eq {a b : ByteArray} (h : a.data.toList = b.data.toList) : a.toList = b.toList := by
  have : a = b := by
    obtain ⟨⟨a⟩⟩ := a
    obtain ⟨⟨b⟩⟩ := b
    simp only at h
    rw [h]
  rw [this]
theorem FnExactSpell (l : List S38) (hm : l.length ≤ 9223372036854775807) (hz : ∀ t ∈ l, t.f1.size ≤ 9223372036854775807) : ∃ k, laws_FnExactSpell.f k l = some true := by
  obtain ⟨K, hK⟩ : ∃ K, l.length + 5 ≤ K := ⟨_, Nat.le_refl _⟩
  refine ⟨K, ?_⟩
  unfold laws_FnExactSpell.f laws_szTokenS.f
  rw [wr (x := 1048576 - (l.length : Int)) (by omega) (by omega)]
  by_cases h0 : 1048576 - (l.length : Int) < 0
  · rw [if_pos h0]; simp only [Option.bind_some]; rw [if_pos (by decide)]
  · rw [if_neg h0]
    have hl : l.length ≤ 1048576 := by omega
    have e := sz_loop l hl hz l.length K 0 (1048576 - (l.length : Int)) (by omega) (by omega) (by omega) (by omega)
    have e' : laws_szTokenS.l0 K l (1048576 - (l.length : Int)) 0 = _ := e
    rw [e', List.drop_zero]
    simp only [Option.bind_some]
    by_cases ht : (tot l : Int) ≤ 1048576 - (l.length : Int)
    · rw [if_pos ht, if_neg (by omega)]
      have htc := tot_conv l
      have hcl : (l.map conv).length = l.length := List.length_map ..
      have e1 := copy_eq K l hl (by omega)
      have e2 := spec_eq K (l.map conv) (by omega) (by omega) (by omega)
      have hsl := spelt_length (l.map conv)
      have hj := spelt_join (l.map conv)
      have e3 : impl_Spell.f K (l.map conv) = some ⟨(Lib.join (((l.map conv).map (·.f1)).map (·.data.toList)) [32]).toArray⟩ := by
        have := impl_loop (l.map conv) (by omega) (l.map conv).length K 0 [] (by simp) (by omega) (by omega)
        unfold impl_Spell.f
        have e' : impl_Spell.l0 K [] (l.map conv) ((l.map conv).length : Int) 0 = _ := this
        rw [e']
        unfold strings_Join.f
        rw [if_pos ⟨by rw [List.length_map]; omega, by
          show (Lib.join (((l.map conv).map (·.f1)).map (·.data.toList)) [32]).length ≤ 140737488355328
          rw [← hj, List.length_map]; omega⟩]
      have e4 := eq_eq K (l.map conv) (by omega) (by omega)
      simp only [e1, e2, e3, e4, Option.bind_some, if_true]
      rw [if_pos (toList_eq (by
        show (Lib.join (((l.map conv).map (·.f1)).map (·.data.toList)) [32]) = (strOfNums (spelt (l.map conv))).data.toList
        rw [← hj]; rfl))]
    · rw [if_neg ht, if_pos (by decide)]

end Go.Proofs.Ytamkekhdnkeciaa.Pure
