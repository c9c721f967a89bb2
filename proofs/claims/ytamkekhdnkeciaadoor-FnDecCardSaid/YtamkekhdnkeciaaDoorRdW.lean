/- The walk of impl.ReadDec: it answers what the plain function rd answers. -/
import Derived.Test.YtamkekhdnkeciaaDoorNum
import Derived.Test.YtamkekhdnkeciaaDoorShI
import Derived.Test.YtamkekhdnkeciaaDoorShT
import Derived.WalkSmall
import Derived.WalkKit
import Derived.Lib.SmallJoins
import Derived.Test.YtamkekhdnkeciaaDoorWMore
import Derived.Test.YtamkekhdnkeciaaDoorWLast
namespace Go.Proofs.YtamkekhdnkeciaaDoor.Rd
open Go.RowKit Go.Proofs.YtamkekhdnkeciaaDoorW.PrintWords Go.Proofs.YtamkekhdnkeciaaDoorW.PrintLast
/-- what the tables and the two errors of strconv read as -/
def Laid (w : World) : Prop := Lib.TabIs Tryd.prog w "internal/strconv.uint64pow10" .u64 Lib.pow10Tab ∧ (∃ tp p, w.var? Tryd.prog "strconv.ErrSyntax" = some #[.iface tp p]) ∧ (∃ tp p, w.var? Tryd.prog "strconv.ErrRange" = some #[.iface tp p])
theorem var_lt {n : String} {g : Nat} {w : World} {cs : Array Value} (hg : Tryd.prog.globalNamed n = some g) (h : w.var? Tryd.prog n = some cs) : g < w.heap.size := by
  unfold World.var? at h
  simp only [hg, Option.bind_some] at h
  by_cases hlt : g < w.heap.size
  · exact hlt
  · rw [Array.getElem?_eq_none (by omega)] at h
    cases h
theorem Laid.below {w w' : World} (h : Laid w) (hB : Below w.heap.size w w') : Laid w' := by
  obtain ⟨h1, ⟨t2, p2, h2⟩, ⟨t3, p3, h3⟩⟩ := h
  have g1 : Tryd.prog.globalNamed "internal/strconv.uint64pow10" = some 2 := by kernel_rfl
  have g2 : Tryd.prog.globalNamed "strconv.ErrSyntax" = some 0 := by kernel_rfl
  have g3 : Tryd.prog.globalNamed "strconv.ErrRange" = some 1 := by kernel_rfl
  exact ⟨var?_below hB g1 (var_lt g1 h1) h1, ⟨t2, p2, var?_below hB g2 (var_lt g2 h2) h2⟩, ⟨t3, p3, var?_below hB g3 (var_lt g3 h3) h3⟩⟩
theorem below_itoa (w : World) (q : Nat) (os : Array Obj) : Below w.heap.size w (Go.Sort.grow (w.drewN q) os) :=
  ⟨rfl, rfl, rfl, by show w.heap.size ≤ (w.heap ++ os).size; rw [Array.size_append]; omega, fun _ hj => Go.Sort.heap_grow_old (w.drewN q) os hj⟩
theorem itoa_calls (n : Int) (h1 : -9223372036854775808 ≤ n) (h2 : n ≤ 9223372036854775807) (w : World) (ht : Laid w) :
    Calls Tryd.prog 22 #[.int .i64 n] w fun e w' => e = .returned (.string ⟨(Lib.itoa n).toArray⟩) ∧ Below w.heap.size w w' := by
  refine (Tryd.strconv_Itoa n h1 h2 w ht.1).mono ?_
  rintro e w' ⟨rfl, k, os, rfl⟩
  exact ⟨rfl, below_itoa _ _ _⟩
theorem dec_calls (n : Int) (h1 : -9223372036854775808 ≤ n) (h2 : n ≤ 9223372036854775807) (w : World) (ht : Laid w) :
    Calls Tryd.prog 11 #[.int .i64 n] w fun e w' => e = .returned (.string ⟨(Lib.itoa n).toArray⟩) ∧ Below w.heap.size w w' := by
  have HC := itoa_calls n h1 h2 w ht
  generalize (⟨(Lib.itoa n).toArray⟩ : ByteArray) = s at *
  clear ht
  go_enter Tryd.func11, Tryd.ntmps11
  go_wp2_with (go_at_call 22; (with_reducible refine HC.mono ?_); rintro e w' ⟨rfl, hb⟩; have HB := Aside0.mk hb; clear hb)
  go_ret
  exact ⟨rfl, HB.out⟩
theorem atoi_ok (s : ByteArray) (hs : s.size ≤ 1048576) (v : Int) (h : Lib.atoiAll s.data.toList = .ok v) (w : World) :
    Calls Tryd.prog 21 #[.string s] w fun e w' => e = .returned (.tuple #[.int .i64 v, .nilIface]) ∧ Below w.heap.size w w' := by
  refine (Tryd.strconv_Atoi_ok s (by omega) v h w).mono ?_
  rintro e w' ⟨rfl, rfl | ⟨t, rfl⟩⟩
  · exact ⟨rfl, Below.refl _ _⟩
  · exact ⟨rfl, Joins.below_bytesWorld _ _ _ _ (Nat.le_refl _)⟩
theorem atoi_no (s : ByteArray) (hs : s.size ≤ 1048576) (h : ∀ v, Lib.atoiAll s.data.toList ≠ .ok v) (w : World) (ht : Laid w) :
    Calls Tryd.prog 21 #[.string s] w fun e w' => (∃ n N, e = .returned (.tuple #[.int .i64 n, .iface 55 (.pointer (some ⟨N, 0, none⟩))])) ∧ Below w.heap.size w w' := by
  obtain ⟨_, ⟨t2, p2, h2⟩, ⟨t3, p3, h3⟩⟩ := ht
  cases hc : Lib.atoiAll s.data.toList with
  | ok v => exact absurd hc (h v)
  | «syntax» =>
    refine (Tryd.strconv_Atoi_syntax_var s (by omega) hc t2 p2 w h2).mono ?_
    rintro e w' ⟨N, rfl, _, _, hB⟩
    exact ⟨⟨_, N, rfl⟩, hB⟩
  | range =>
    refine (Tryd.strconv_Atoi_range_var s (by omega) hc t3 p3 w h3).mono ?_
    rintro e w' ⟨N, rfl, _, _, hB⟩
    exact ⟨⟨_, N, rfl⟩, hB⟩
theorem no_walk (s : ByteArray) (w : World) (HA : Calls Tryd.prog 21 #[.string s] w fun e w' => (∃ n N, e = .returned (.tuple #[.int .i64 n, .iface 55 (.pointer (some ⟨N, 0, none⟩))])) ∧ Below w.heap.size w w') :
    Calls Tryd.prog 9 #[.string s] w fun e w' => e = .returned (.int .i64 (-1)) ∧ Below w.heap.size w w' := by
  go_enter Tryd.func9, Tryd.ntmps9
  go_wp2_with (go_at_call 21; (with_reducible refine HA.mono ?_); rintro e w' ⟨⟨n, N, rfl⟩, hb⟩; have HB := Aside0.mk hb; clear hb)
  go_ret
  exact ⟨rfl, HB.out⟩
theorem neg_walk (s : ByteArray) (v : Int) (w : World) (hv : v < 0) (HA : Calls Tryd.prog 21 #[.string s] w fun e w' => e = .returned (.tuple #[.int .i64 v, .nilIface]) ∧ Below w.heap.size w w') :
    Calls Tryd.prog 9 #[.string s] w fun e w' => e = .returned (.int .i64 (-1)) ∧ Below w.heap.size w w' := by
  have c : decide (v < 0) = true := decide_eq_true hv
  clear hv
  go_enter Tryd.func9, Tryd.ntmps9
  go_wp2_with (go_at_call 21; (with_reducible refine HA.mono ?_); rintro e w' ⟨rfl, hb⟩; have HB := Aside0.mk hb; clear hb)
  go_ret
  exact ⟨rfl, HB.out⟩
theorem big_walk (s : ByteArray) (v : Int) (w : World) (h0 : ¬ v < 0) (hv : 999999999 < v) (HA : Calls Tryd.prog 21 #[.string s] w fun e w' => e = .returned (.tuple #[.int .i64 v, .nilIface]) ∧ Below w.heap.size w w') :
    Calls Tryd.prog 9 #[.string s] w fun e w' => e = .returned (.int .i64 (-1)) ∧ Below w.heap.size w w' := by
  have c : decide (v < 0) = false := decide_eq_false h0
  have c2 : decide (999999999 < v) = true := decide_eq_true hv
  clear hv h0
  go_enter Tryd.func9, Tryd.ntmps9
  go_wp2_with (go_at_call 21; (with_reducible refine HA.mono ?_); rintro e w' ⟨rfl, hb⟩; have HB := Aside0.mk hb; clear hb)
  go_ret
  exact ⟨rfl, HB.out⟩
theorem last_walk (s t : ByteArray) (v : Int) (b : Bool) (w : World) (h0 : ¬ v < 0) (hv : ¬ 999999999 < v) (ht : (t.toList == s.toList) = b) (HA : Calls Tryd.prog 21 #[.string s] w fun e w' => e = .returned (.tuple #[.int .i64 v, .nilIface]) ∧ Below w.heap.size w w')
    (HI : ∀ w', Below w.heap.size w w' → Calls Tryd.prog 22 #[.int .i64 v] w' fun e w'' => e = .returned (.string t) ∧ Below w'.heap.size w' w'') :
    Calls Tryd.prog 9 #[.string s] w fun e w' => e = .returned (.int .i64 (if b = true then v else -1)) ∧ Below w.heap.size w w' := by
  have c : decide (v < 0) = false := decide_eq_false h0
  have c2 : decide (999999999 < v) = false := decide_eq_false hv
  clear hv h0
  have HJ : ∀ w', Below w.heap.size w w' → Calls Tryd.prog 22 #[.int .i64 v] w' fun e w'' => e = .returned (.string t) ∧ Below w.heap.size w w'' := fun w' hb => (HI w' hb).mono (by
    rintro e w'' ⟨rfl, hb2⟩
    exact ⟨rfl, hb.trans (hb2.mono hb.size)⟩)
  have HJ0 := Aside0.mk HJ
  clear HI HJ
  cases b
  · have d1 : (t.toList != s.toList) = true := by rw [bne, ht]; rfl
    go_enter Tryd.func9, Tryd.ntmps9
    go_wp2_with (first | (go_at_call 21; (with_reducible refine HA.mono ?_); rintro e w' ⟨rfl, hb⟩; have HB := Aside0.mk hb; clear hb) | (go_at_call 22; (with_reducible refine (HJ0.out _ HB.out).mono ?_); rintro e w' ⟨rfl, hb⟩; have HC := Aside0.mk hb; clear hb))
    go_ret
    exact ⟨rfl, HC.out⟩
  · have d1 : (t.toList != s.toList) = false := by rw [bne, ht]; rfl
    go_enter Tryd.func9, Tryd.ntmps9
    go_wp2_with (first | (go_at_call 21; (with_reducible refine HA.mono ?_); rintro e w' ⟨rfl, hb⟩; have HB := Aside0.mk hb; clear hb) | (go_at_call 22; (with_reducible refine (HJ0.out _ HB.out).mono ?_); rintro e w' ⟨rfl, hb⟩; have HC := Aside0.mk hb; clear hb))
    go_ret
    exact ⟨rfl, HC.out⟩
/-- impl.ReadDec, at every text of at most a million bytes. -/
theorem rd_calls (s : ByteArray) (hs : s.size ≤ 1048576) (w : World) (ht : Laid w) :
    Calls Tryd.prog 9 #[.string s] w fun e w' => e = .returned (.int .i64 (Num.rd s.data.toList)) ∧ Below w.heap.size w w' := by
  by_cases hk : ∃ v, Lib.atoiAll s.data.toList = .ok v
  · obtain ⟨v, hk⟩ := hk
    have HA := atoi_ok s hs v hk w
    unfold Num.rd
    rw [hk]
    simp only []
    by_cases h0 : v < 0
    · rw [if_pos h0]; exact neg_walk s v w h0 HA
    · rw [if_neg h0]
      by_cases h1 : v > 999999999
      · rw [if_pos h1]; exact big_walk s v w h0 h1 HA
      · rw [if_neg h1]
        have HI : ∀ w', Below w.heap.size w w' → Calls Tryd.prog 22 #[.int .i64 v] w' fun e w'' => e = .returned (.string ⟨(Lib.itoa v).toArray⟩) ∧ Below w'.heap.size w' w'' := fun w' hb => itoa_calls v (by omega) (by omega) w' (ht.below hb)
        have key := last_walk s ⟨(Lib.itoa v).toArray⟩ v (decide (Lib.itoa v = s.data.toList)) w h0 h1 (by
          rw [Go.ByteArray.toList_eq, Go.ByteArray.toList_eq, Bool.eq_iff_iff, beq_iff_eq, decide_eq_true_eq]) HA HI
        by_cases e : Lib.itoa v = s.data.toList
        · rw [if_pos e]; simpa [e] using key
        · rw [if_neg e]; simpa [e] using key
  · have hk' : ∀ v, Lib.atoiAll s.data.toList ≠ .ok v := fun v e => hk ⟨v, e⟩
    have e : Num.rd s.data.toList = -1 := by
      unfold Num.rd
      split
      · rename_i v hv; exact absurd hv (hk' v)
      · rfl
    rw [e]
    exact no_walk s w (atoi_no s hs hk' w ht)
end Go.Proofs.YtamkekhdnkeciaaDoor.Rd
