/- The pieces of a text between its newlines: what the kit's splitB and a scan by positions make of it; plain lists, no program. -/
import Derived.Lib.SplitLaws
namespace Go.Proofs.YtamkekhdnkeciaaDoor.Ln
open Go.Lib
def glue (pre : List UInt8) : List (List UInt8) → List (List UInt8)
  | [] => [pre]
  | p :: ps => (pre ++ p) :: ps
/-- the pieces between the newlines -/
def pieces : List UInt8 → List (List UInt8)
  | [] => [[]]
  | c :: l => if c = 10 then [] :: pieces l else glue [c] (pieces l)
theorem pieces_ne (l : List UInt8) : pieces l ≠ [] := by
  cases l with
  | nil => simp [pieces]
  | cons c l =>
    rw [pieces]
    split
    · simp
    · cases pieces l <;> simp [glue]
theorem glue_nil {x : List (List UInt8)} (h : x ≠ []) : glue [] x = x := by
  cases x with
  | nil => exact absurd rfl h
  | cons p ps => rfl
theorem glue_glue (a b : List UInt8) (x : List (List UInt8)) : glue a (glue b x) = glue (a ++ b) x := by
  cases x with
  | nil => rfl
  | cons p ps => simp [glue]
theorem split_pieces : ∀ l : List UInt8, splitK [10] 0 (count l [10]) l = pieces l
  | [] => by rw [count_miss (by simp [index])]; rfl
  | b :: l => by
    have ih := split_pieces l
    by_cases h : b = 10
    · subst h
      have hix : index ((10 : UInt8) :: l) [10] = ((0 : Nat) : Int) := by rw [index]; simp [List.isPrefixOf]
      rw [count_cons_eq, Nat.add_comm, splitK, hix, if_neg (by decide), pieces, if_pos rfl]
      simp only [Int.toNat_natCast]
      show _ :: splitK [10] 0 (count l [10]) l = _
      rw [ih]; rfl
    · rw [pieces, if_neg h, count_cons_ne b 10 l h, ← ih]
      have hp : ([10] : List UInt8).isPrefixOf (b :: l) = false := by simp [List.isPrefixOf, Ne.symm h]
      have hix : index (b :: l) [10] = if index l [10] == -1 then -1 else index l [10] + 1 := by rw [index, hp]; simp
      by_cases hm : index l [10] = -1
      · rw [count_miss hm]; rfl
      · have hge := index_ge l [10]
        obtain ⟨j, hj⟩ : ∃ j : Nat, index l [10] = j := ⟨(index l [10]).toNat, by omega⟩
        have hix' : index (b :: l) [10] = ((j + 1 : Nat) : Int) := by rw [hix, if_neg (fun e => hm (beq_iff_eq.1 e)), hj]; omega
        have hn : ¬ (index (b :: l) [10] == -1) = true := fun e => by have := beq_iff_eq.1 e; omega
        have hn2 : ¬ (index l [10] == -1) = true := fun e => hm (beq_iff_eq.1 e)
        rw [count_hit (by simp) hj, Nat.add_comm, splitK, if_neg hn, hix', splitK, if_neg hn2, hj]
        simp only [Int.toNat_natCast, glue]
        rfl
/-- a newline at place i -/
def nl (s : ByteArray) (i : Nat) : Bool := decide (s.data.toList[i]? = some 10)
/-- a scan by positions: the pieces from place i on, the first begun at a -/
def cut (s : ByteArray) (a i : Nat) : Nat → List ByteArray
  | 0 => [s.extract a s.size]
  | d + 1 => if nl s i = true then s.extract a i :: cut s (i + 1) (i + 1) d else cut s a (i + 1) d
theorem ext_data (s : ByteArray) (a b : Nat) : (s.extract a b).data.toList = (s.data.toList.drop a).take (b - a) := by
  rw [extract_data]
theorem cut_data (s : ByteArray) (d : Nat) : ∀ a i, a ≤ i → i + d = s.size → (cut s a i d).map (·.data.toList) = glue ((s.data.toList.drop a).take (i - a)) (pieces (s.data.toList.drop i)) := by
  have hlen : s.data.toList.length = s.size := Array.length_toList ..
  induction d with
  | zero =>
    intro a i ha hi
    rw [List.drop_eq_nil_of_le (show s.data.toList.length ≤ i by omega)]
    simp only [cut, List.map_cons, List.map_nil, ext_data, pieces, glue, List.append_nil]
    rw [show i = s.size by omega]
  | succ d ih =>
    intro a i ha hi
    have hlt : i < s.data.toList.length := by omega
    rw [List.drop_eq_getElem_cons hlt]
    by_cases hn : nl s i = true
    · have h10 : s.data.toList[i] = 10 := by
        unfold nl at hn
        rw [List.getElem?_eq_getElem hlt] at hn
        simpa using hn
      rw [cut, if_pos hn, List.map_cons, ih (i + 1) (i + 1) (by omega) (by omega), pieces, if_pos h10, ext_data]
      rw [show i + 1 - (i + 1) = 0 by omega, List.take_zero, glue_nil (pieces_ne _)]
      simp [glue]
    · have h10 : ¬ s.data.toList[i] = 10 := by
        intro e
        apply hn
        unfold nl
        rw [List.getElem?_eq_getElem hlt, e]
        simp
      rw [cut, if_neg hn, ih a (i + 1) (by omega) (by omega), pieces, if_neg h10, glue_glue]
      congr 1
      have hlt2 : i - a < (s.data.toList.drop a).length := by rw [List.length_drop]; omega
      rw [show i + 1 - a = i - a + 1 by omega, List.take_succ_eq_append_getElem hlt2]
      congr 2
      rw [List.getElem_drop]
      congr 1
      omega
theorem map_inj {x y : List ByteArray} (h : x.map (·.data.toList) = y.map (·.data.toList)) : x = y := by
  induction x generalizing y with
  | nil => cases y with
    | nil => rfl
    | cons b y => simp at h
  | cons a x ih =>
    cases y with
    | nil => simp at h
    | cons b y =>
      simp only [List.map_cons, List.cons.injEq] at h
      rw [ih h.2]
      congr 1
      obtain ⟨⟨a⟩⟩ := a
      obtain ⟨⟨b⟩⟩ := b
      simp only at h
      rw [h.1]
theorem split_cut (s : ByteArray) : splitB ⟨#[10]⟩ 0 (countB s ⟨#[10]⟩) s = cut s 0 0 s.size := by
  apply map_inj
  rw [splitB_data, cut_data s s.size 0 0 (Nat.le_refl _) (by omega)]
  rw [show (0 : Nat) - 0 = 0 from rfl, List.take_zero, List.drop_zero, glue_nil (pieces_ne _)]
  exact split_pieces _
theorem cut_length (s : ByteArray) : (cut s 0 0 s.size).length = countB s ⟨#[10]⟩ + 1 := by
  rw [← split_cut]
  exact splitB_all ⟨#[10]⟩ (by decide) 0 _ s rfl
/-- the last piece falls where it is empty -/
def trim (L : List ByteArray) : List ByteArray := if L.getLast? = some ⟨#[]⟩ then L.dropLast else L
def lines (s : ByteArray) : List ByteArray := trim (cut s 0 0 s.size)
theorem cut_ne (s : ByteArray) (d : Nat) : ∀ a i, cut s a i d ≠ [] := by
  induction d with
  | zero => intro a i; simp [cut]
  | succ d ih => intro a i; rw [cut]; split <;> simp [ih]
theorem trim_cons (x : ByteArray) {L : List ByteArray} (h : L ≠ []) : trim (x :: L) = x :: trim L := by
  cases L with
  | nil => exact absurd rfl h
  | cons y L =>
    unfold trim
    rw [List.getLast?_cons_cons]
    split <;> rfl
end Go.Proofs.YtamkekhdnkeciaaDoor.Ln
