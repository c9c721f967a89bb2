/- The walk of impl.Lines: it answers the pieces between the newlines, the last one only where it is not empty. -/
import Derived.Test.YtamkekhdnkeciaaDoorLn
import Derived.Test.YtamkekhdnkeciaaDoorShL
import Derived.Test.YtamkekhdnkeciaaDoorWMore
import Derived.Test.YtamkekhdnkeciaaDoorWLast
import Derived.WalkKit
namespace Go.Proofs.YtamkekhdnkeciaaDoor.LnW
open Go.RowKit Go.Proofs.YtamkekhdnkeciaaDoorW.PrintWords Go.Proofs.YtamkekhdnkeciaaDoorW.PrintLast
set_option maxHeartbeats 4000000 in
theorem core_keep (g n : Nat) (s x : ByteArray) (P : World → Prop) (w : World) (hn : n ≤ 1048576) (hx : (x.toList == ([] : List UInt8)) = false)
    (HC : Calls Tryd.prog 25 #[.string s, .string ⟨#[10]⟩] w fun e w' => e = .returned (.slice (some ⟨g, 0, none⟩) (n + 1) (n + 1)) ∧ w'.cell? ⟨g, n, none⟩ = some (.string x) ∧ P w') :
    Calls Tryd.prog 15 #[.string s] w fun e w' => e = .returned (.slice (some ⟨g, 0, none⟩) (n + 1) (n + 1)) ∧ P w' := by
  obtain ⟨N, hN⟩ : ∃ N, N = n + 1 := ⟨_, rfl⟩
  have hx1 : (x.toList != ([] : List UInt8)) = true := by rw [bne, hx]; rfl
  have e1 : IntKind.i64.wrap ((N : Int) - 1) = (n : Int) := by rw [IntKind.wrap_i64]; omega
  have p1 : decide (0 ≤ (n : Int)) = true := decide_eq_true (by omega)
  have p2 : (n : Int) < (N : Int) := by omega
  have p3 : n < N := by omega
  rw [← hN] at HC
  rw [← hN]
  have HN := Aside0.mk hN
  clear hN
  go_enter Tryd.func15, Tryd.ntmps15
  go_wp2_with (go_at_call 25; (with_reducible refine HC.mono ?_); rintro e w' ⟨rfl, hc, hp⟩; have HP := Aside0.mk hp; clear hp)
  go_ret
  exact ⟨rfl, HP.out⟩
set_option maxHeartbeats 4000000 in
theorem core_cut (g n : Nat) (s x : ByteArray) (P : World → Prop) (w : World) (hn : n ≤ 1048576) (hx : (x.toList == ([] : List UInt8)) = true)
    (HC : Calls Tryd.prog 25 #[.string s, .string ⟨#[10]⟩] w fun e w' => e = .returned (.slice (some ⟨g, 0, none⟩) (n + 1) (n + 1)) ∧ w'.cell? ⟨g, n, none⟩ = some (.string x) ∧ P w') :
    Calls Tryd.prog 15 #[.string s] w fun e w' => e = .returned (.slice (some ⟨g, 0, none⟩) n (n + 1)) ∧ P w' := by
  obtain ⟨N, hN⟩ : ∃ N, N = n + 1 := ⟨_, rfl⟩
  have hx1 : (x.toList != ([] : List UInt8)) = false := by rw [bne, hx]; rfl
  have e1 : IntKind.i64.wrap ((N : Int) - 1) = (n : Int) := by rw [IntKind.wrap_i64]; omega
  have p1 : decide (0 ≤ (n : Int)) = true := decide_eq_true (by omega)
  have p2 : (n : Int) < (N : Int) := by omega
  have p3 : n < N := by omega
  have p4 : n ≤ N := by omega
  rw [← hN] at HC
  rw [← hN]
  have HN := Aside0.mk hN
  clear hN
  go_enter Tryd.func15, Tryd.ntmps15
  go_wp2_with (go_at_call 25; (with_reducible refine HC.mono ?_); rintro e w' ⟨rfl, hc, hp⟩; have HP := Aside0.mk hp; clear hp)
  go_ret
  exact ⟨rfl, HP.out⟩
theorem hm_below {w w' : World} (h : ∃ m, w.cell? ⟨3, 0, none⟩ = some (.int .i64 m)) (hB : Below w.heap.size w w') : ∃ m, w'.cell? ⟨3, 0, none⟩ = some (.int .i64 m) := by
  obtain ⟨m, hm⟩ := h
  have hlt : 3 < w.heap.size := World.block_lt_of_cell? w ⟨3, 0, none⟩ hm
  exact ⟨m, (hB.cell (p := ⟨3, 0, none⟩) hlt).trans hm⟩
theorem fresh_row (w : World) (L : List ByteArray) (hL : L.length ≤ 1048577) :
    Kd.R Kd.string 9 (w.alloc (.cells (L.map Value.string).toArray 9)) w.heap.size (fun _ => True) (.slice (some ⟨w.heap.size, 0, none⟩) L.length L.length) L := by
  refine Kd.R_of_own ⟨by simp [encs], .inr ⟨w.heap.size, L.length, (L.map Value.string).toArray, rfl, Nat.le_refl _, ?_, Nat.le_refl _, ?_, by simp, ?_⟩⟩ (fun _ _ => trivial)
  · show (w.heap.push _)[w.heap.size]? = _
    rw [Array.getElem?_push, if_pos rfl]
  · unfold maxLen; omega
  · simp [encs, List.take_of_length_le]
/-- impl.Lines, at every text of at most a million bytes. -/
theorem lines_calls (s : ByteArray) (hs : s.size ≤ 1048576) (w : World) (hm : ∃ m, w.cell? ⟨3, 0, none⟩ = some (.int .i64 m)) :
    Calls Tryd.prog 15 #[.string s] w fun e w' => ∃ v : Value, e = .returned v ∧ Kd.R Kd.string 9 w' w.heap.size (fun _ => True) v (Ln.lines s) ∧ Below w.heap.size w w' := by
  obtain ⟨m, hm⟩ := hm
  have hlen := Ln.cut_length s
  have hle : Lib.countB s ⟨#[10]⟩ ≤ s.size := Lib.countB_le ⟨#[10]⟩ (by decide) s.size s (Nat.le_refl _)
  have HS := Tryd.strings_Split s ⟨#[10]⟩ m w (by omega) hm (by decide)
  rw [Ln.split_cut] at HS
  unfold Ln.lines
  generalize Ln.cut s 0 0 s.size = L at *
  generalize Lib.countB s ⟨#[10]⟩ = n at *
  have hn : n < L.length := by omega
  have hR := fresh_row w L (by omega)
  rw [hlen] at hR
  have hcell : (w.alloc (.cells (L.map Value.string).toArray 9)).cell? ⟨w.heap.size, n, none⟩ = some (.string L[n]) := by
    have h := (Kd.R_cell (h1 := fun _ => rfl) ByteArray.empty (by rw [hlen]; exact hR) (n : Int) (by omega) (by omega)).1
    rw [Int.toNat_natCast] at h
    rw [h]
    unfold rdOf
    simp [List.getD, List.getElem?_eq_getElem hn]
  have hlast : L.getLast? = some L[n] := by rw [List.getLast?_eq_getElem?, hlen]; simp [List.getElem?_eq_getElem hn]
  have HC : Calls Tryd.prog 25 #[.string s, .string ⟨#[10]⟩] w fun e w' => e = .returned (.slice (some ⟨w.heap.size, 0, none⟩) (n + 1) (n + 1)) ∧ w'.cell? ⟨w.heap.size, n, none⟩ = some (.string L[n]) ∧ (Kd.R Kd.string 9 w' w.heap.size (fun _ => True) (.slice (some ⟨w.heap.size, 0, none⟩) (n + 1) (n + 1)) L ∧ Below w.heap.size w w') :=
    HS.mono (by
      rintro e w' ⟨rfl, rfl⟩
      exact ⟨rfl, hcell, hR, below_alloc (Below.refl _ _) _⟩)
  by_cases hx : (L[n].toList == ([] : List UInt8)) = true
  · have he : L[n] = ⟨#[]⟩ := by
      have := beq_iff_eq.1 hx
      rw [Go.ByteArray.toList_eq] at this
      exact Go.WideShapes.bytes_inj this
    refine (core_cut w.heap.size n s L[n] _ w (by omega) hx HC).mono ?_
    rintro e w' ⟨rfl, hr, hb⟩
    refine ⟨_, rfl, ?_, hb⟩
    unfold Ln.trim
    rw [if_pos (by rw [hlast, he])]
    have := Kd.R_take hr (m := n) (by omega)
    rw [List.dropLast_eq_take, hlen]
    exact this
  · have he : ¬ L[n] = ⟨#[]⟩ := by
      intro e
      apply hx
      rw [e, Go.ByteArray.toList_eq]; rfl
    refine (core_keep w.heap.size n s L[n] _ w (by omega) (Bool.eq_false_iff.2 hx) HC).mono ?_
    rintro e w' ⟨rfl, hr, hb⟩
    refine ⟨_, rfl, ?_, hb⟩
    unfold Ln.trim
    rw [if_neg (by rw [hlast]; intro e; exact he (Option.some.inj e))]
    exact hr
end Go.Proofs.YtamkekhdnkeciaaDoor.LnW
