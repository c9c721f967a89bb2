/- The lines of a text, each with a newline behind, are the text, or the text with one newline more: plain lists, no program. -/
import Derived.Test.YtamkekhdnkeciaaDoorLn
namespace Go.Proofs.YtamkekhdnkeciaaDoor.Ln
open Go.Lib
def J (L : List (List UInt8)) : List UInt8 := L.flatMap (· ++ [10])
theorem J_cons (p : List UInt8) (L : List (List UInt8)) : J (p :: L) = p ++ 10 :: J L := by simp [J]
theorem J_glue (c : UInt8) {L : List (List UInt8)} (h : L ≠ []) : J (glue [c] L) = c :: J L := by
  cases L with
  | nil => exact absurd rfl h
  | cons p ps => simp [glue, J_cons]
theorem J_pieces : ∀ l : List UInt8, J (pieces l) = l ++ [10]
  | [] => rfl
  | c :: l => by
    rw [pieces]
    split
    · rename_i h
      rw [J_cons, J_pieces l, h]; rfl
    · rw [J_glue c (pieces_ne l), J_pieces l]; rfl
theorem J_snoc (L : List (List UInt8)) (p : List UInt8) : J (L ++ [p]) = J L ++ (p ++ [10]) := by simp [J]
theorem last_piece : ∀ (l p : List UInt8), (pieces l).getLast? = some p → p ≠ [] → ∃ c, l.getLast? = some c ∧ c ≠ 10
  | [], p, h, hp => by
    simp only [pieces, List.getLast?_singleton, Option.some.injEq] at h
    exact absurd h.symm hp
  | c :: l, p, h, hp => by
    have ih := last_piece l
    have hJ := J_pieces l
    rw [pieces] at h
    split at h
    · cases hq : pieces l with
      | nil => exact absurd hq (pieces_ne l)
      | cons q ps =>
        rw [hq, List.getLast?_cons_cons, ← hq] at h
        obtain ⟨c', h1, h2⟩ := ih p h hp
        refine ⟨c', ?_, h2⟩
        cases l with
        | nil => simp at h1
        | cons b l => rw [List.getLast?_cons_cons]; exact h1
    · rename_i hc
      cases hq : pieces l with
      | nil => exact absurd hq (pieces_ne l)
      | cons q ps =>
        rw [hq] at h
        cases ps with
        | nil =>
          rw [hq] at hJ
          rw [J_cons] at hJ
          have hl : q = l := by
            have : q ++ [10] = l ++ [10] := hJ
            exact List.append_cancel_right this
          subst hl
          cases q with
          | nil => exact ⟨c, rfl, hc⟩
          | cons b q' =>
            obtain ⟨c', h1, h2⟩ := ih (b :: q') (by rw [hq]; rfl) (by simp)
            exact ⟨c', by rw [List.getLast?_cons_cons]; exact h1, h2⟩
        | cons q2 ps =>
          simp only [glue, List.getLast?_cons_cons] at h
          obtain ⟨c', h1, h2⟩ := ih p (by rw [hq, List.getLast?_cons_cons]; exact h) hp
          refine ⟨c', ?_, h2⟩
          cases l with
          | nil => simp at h1
          | cons b l => rw [List.getLast?_cons_cons]; exact h1
/-- the lines, each with a newline behind -/
def joinB (L : List ByteArray) : ByteArray := L.foldr (fun x a => (x ++ ⟨#[10]⟩) ++ a) ⟨#[]⟩
theorem joinB_cons (x : ByteArray) (L : List ByteArray) : joinB (x :: L) = (x ++ ⟨#[10]⟩) ++ joinB L := rfl
theorem joinB_data (L : List ByteArray) : (joinB L).data.toList = J (L.map (·.data.toList)) := by
  induction L with
  | nil => rfl
  | cons x L ih => rw [joinB_cons, List.map_cons, J_cons, ← ih]; simp [ByteArray.data_append]
theorem lines_join (s : ByteArray) : (joinB (lines s)).data.toList = s.data.toList ∨ ((joinB (lines s)).data.toList = s.data.toList ++ [10] ∧ ∃ c, s.data.toList.getLast? = some c ∧ c ≠ 10) := by
  have hd : (cut s 0 0 s.size).map (·.data.toList) = pieces s.data.toList := by
    rw [cut_data s s.size 0 0 (Nat.le_refl _) (by omega), show (0 : Nat) - 0 = 0 from rfl, List.take_zero, List.drop_zero, glue_nil (pieces_ne _)]
  have hJ := J_pieces s.data.toList
  rw [joinB_data]
  unfold lines trim
  have hne := cut_ne s s.size 0 0
  generalize cut s 0 0 s.size = L at *
  have hsp := List.dropLast_concat_getLast hne
  split
  · rename_i h
    left
    rw [← hd, ← hsp, List.map_append, List.map_cons, List.map_nil, J_snoc] at hJ
    have e : L.getLast hne = ⟨#[]⟩ := by
      rw [List.getLast?_eq_some_getLast hne] at h
      exact Option.some.inj h
    rw [e] at hJ
    have hJ' : J ((L.dropLast).map (·.data.toList)) ++ [10] = s.data.toList ++ [10] := hJ
    exact List.append_cancel_right hJ'
  · rename_i h
    right
    rw [hd]
    refine ⟨hJ, last_piece s.data.toList (L.getLast hne).data.toList ?_ ?_⟩
    · rw [← hd, List.getLast?_map, List.getLast?_eq_some_getLast hne]; rfl
    · intro e
      apply h
      rw [List.getLast?_eq_some_getLast hne]
      congr 1
      apply ByteArray.ext
      apply Array.ext'
      exact e
end Go.Proofs.YtamkekhdnkeciaaDoor.Ln
