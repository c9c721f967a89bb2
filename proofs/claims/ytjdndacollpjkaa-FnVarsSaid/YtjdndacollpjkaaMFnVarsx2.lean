/- Contracts of the functions that the law FnVars reaches (walks in the form of the kit's print; what it does not take by hand). -/
import Derived.Test.YtjdndacollpjkaaFvL
import Derived.Test.YtjdndacollpjkaaMFnVarsx1
namespace Go.Proofs.Ytjdndacollpjkaa.MFnVars
open Go.RowKit Go.Proofs.YtjdndacollpjkaaW.PrintWords Go.Proofs.YtjdndacollpjkaaW.PrintLast Go.Proofs.YtjdndacollpjkaaW.PrintMore
attribute [local go_sem] max2_int min2_int max_two min_two max_three min_three max_four min_four   -- for this text's walks alone
set_option linter.unusedVariables false
set_option linter.unusedSimpArgs false

/-! ### spec_VecOk: function 13 -/
set_option maxHeartbeats 8000000 in
set_option maxRecDepth 100000 in
theorem spec_VecOk.calls (k : Nat) (a0_0 : Int) (A0_1 : Option Addr) (c0_1 : Nat) (l0_1 : List Int) (r : Bool) (w : World) (hr0_1 : Kd.C (Kd.int .i64) w A0_1 l0_1.length l0_1) (hc0_1 : l0_1.length ≤ c0_1) (h : spec_VecOk.f k a0_0 l0_1 = some r) :
  Calls Try.prog 13 #[.agg #[.int .i64 a0_0, .slice A0_1 l0_1.length c0_1]] w fun e w' => e = .returned (.bool r) ∧ Below w.heap.size w w' := by
 have hu27 := Try.underlying27
 have HR0_1 := am hr0_1
 have HC0_1 := am hc0_1
 clear hr0_1 hc0_1
 have HB := am (Below.refl w.heap.size w)
 have H : (if (l0_1.length : Int) > 8 then (spec_VecOk.j0 k true a0_0 l0_1) else ((spec_l01In.f a0_0 1 720).bind fun t135 => (spec_VecOk.j0 k (!t135) a0_0 l0_1))) = some r := h
 clear h
 have HC2 := am H
 clear H
 go_enter Try.func13, Try.ntmps13
 go_upto_region 1 with (first | (refine bx 1 #[.int .i64 a0_0, .slice A0_1 l0_1.length c0_1] 27 ?_; intro gb134 hg w3 hbox hb; have BK134 := am (hbox); have GW134 := zB HB hg; have GE134 := zB HB hg; replace HB := sB HB hb; clear hb hbox hg))
 (try simp only [Act.put, List.setIfInBounds_toArray, List.set_cons_zero, List.set_cons_succ])
 go_cut [14] (fun v14 wc => ∃ (kq : Nat) (x14_1 : Bool), v14 = .bool x14_1 ∧ Aside0 (spec_VecOk.j0 kq x14_1 a0_0 l0_1 = some r) ∧ Aside0 (kq ≤ k) ∧ Aside0 (wc.heap[gb134]? = some (.cells #[.int .i64 a0_0, (.slice A0_1 l0_1.length c0_1)] 27 (0, 0))) ∧ Aside0 (Below w.heap.size w wc))
 case first =>
  have H := HC2.out
  clear HC2
  by_cases c4 : (l0_1.length : Int) > 8
  ·
   rw [if_pos c4] at H
   have c4b0 : decide (8 < (l0_1.length : Int)) = true := decide_eq_true c4
   have c4b1 : decide (8 < l0_1.length) = true := decide_eq_true (by omega)
   clear c4
   (first | rw [c4b0] | (simp only [i64_w, i32_w]; rw [c4b0]) | skip)
   have H' := am H
   clear H
   have hcz5_0 : w3.cell? ⟨gb134, 0, none⟩ = some (.int .i64 a0_0) := (blk_cell BK134.out 0).trans rfl
   have hcz5_1 : w3.cell? ⟨gb134, 1, none⟩ = some (.slice A0_1 l0_1.length c0_1) := (blk_cell BK134.out 1).trans rfl
   have hfz5_0 := blk_frozen BK134.out 0
   have hfz5_1 := blk_frozen BK134.out 1
   go_wp2
   go_meet
   case rel => exact ⟨_, (true), (rs), H', ⟨by first | omega | exact Nat.le_refl _⟩, ⟨fb BK134⟩, ⟨fB HB⟩⟩
  ·
   rw [if_neg c4] at H
   have c4b0 : decide (8 < (l0_1.length : Int)) = false := decide_eq_false c4
   have c4b1 : decide (8 < l0_1.length) = false := decide_eq_false (by omega)
   clear c4
   (first | rw [c4b0] | (simp only [i64_w, i32_w]; rw [c4b0]) | skip)
   obtain ⟨t135, A6, H⟩ := ub H; try dsimp only at H
   have H' := am H
   clear H
   have hcz7_0 : w3.cell? ⟨gb134, 0, none⟩ = some (.int .i64 a0_0) := (blk_cell BK134.out 0).trans rfl
   have hcz7_1 : w3.cell? ⟨gb134, 1, none⟩ = some (.slice A0_1 l0_1.length c0_1) := (blk_cell BK134.out 1).trans rfl
   have hfz7_0 := blk_frozen BK134.out 0
   have hfz7_1 := blk_frozen BK134.out 1
   go_wp2_with (first | (go_at_call 42; (with_reducible refine (spec_l01In.calls a0_0 1 720 t135 _ A6.out).mono ?_); rintro e w' ⟨rfl, ⟨nd, rfl⟩⟩))
   go_meet
   case rel => exact ⟨_, (!t135), (rs), H', ⟨by first | omega | exact Nat.le_refl _⟩, ⟨fb BK134⟩, ⟨fB HB⟩⟩
 case rest =>
  clear HC2
  try clear c1
  try clear p2
  try clear c4
  try clear c4b0
  try clear c4b1
  try clear hcz5_0
  try clear hcz5_1
  try clear hcz7_0
  try clear hcz7_1
  try clear hfz5_0
  try clear hfz5_1
  try clear hfz7_0
  try clear hfz7_1
  obtain ⟨kq, x14_1, rfl, HA, HJ1, BK134, HB⟩ := hcut
  cases kq with
  | zero => exact absurd HA.out (by simp [spec_VecOk.j0])
  | succ kj1 =>
   have H := HA.out
   clear HA
   simp only [spec_VecOk.j0] at H
   by_cases c8 : x14_1 = true
   ·
    subst c8
    have H1 : (some false) = some r := by rw [if_pos rfl] at H; exact H
    clear H
    have H := H1
    clear H1
    obtain rfl := Option.some.inj H
    go_wp2
    go_ret
    exact ⟨rz, fB HB⟩
   ·
    replace c8 := Bool.eq_false_iff.mpr c8
    subst c8
    have H1 : (spec_VecOk.l0 kj1 a0_0 0 a0_0 l0_1) = some r := by rw [if_neg (show ¬ (false = true) by decide)] at H; exact H
    clear H
    have H := H1
    clear H1
    have H' := am H
    clear H
    have hcz9_0 : wc.cell? ⟨gb134, 0, none⟩ = some (.int .i64 a0_0) := (blk_cell BK134.out 0).trans rfl
    have hcz9_1 : wc.cell? ⟨gb134, 1, none⟩ = some (.slice A0_1 l0_1.length c0_1) := (blk_cell BK134.out 1).trans rfl
    have hfz9_0 := blk_frozen BK134.out 0
    have hfz9_1 := blk_frozen BK134.out 1
    go_wp2
    go_loopg [3, 4] kj1 (fun kq v3 v4 w' => ∃ (x3_2 : Int) (x4_2 : Int), v3 = .int .i64 x3_2 ∧ v4 = .int .i64 x4_2 ∧ Aside0 (spec_VecOk.l0 kq x3_2 x4_2 a0_0 l0_1 = some r) ∧ Aside0 (kq ≤ kj1) ∧ Aside0 (w'.heap[gb134]? = some (.cells #[.int .i64 a0_0, (.slice A0_1 l0_1.length c0_1)] 27 (0, 0))) ∧ Aside0 (Below w.heap.size w w'))
    case atStart => exact ⟨(a0_0), (0), (rs), (rs), H', ⟨Nat.le_refl _⟩, ⟨fb BK134⟩, ⟨fB HB⟩⟩
    case round =>
     clear H'
     try clear c1
     try clear p2
     try clear c4
     try clear c4b0
     try clear c4b1
     try clear c8
     try clear hcz5_0
     try clear hcz5_1
     try clear hcz7_0
     try clear hcz7_1
     try clear hcz9_0
     try clear hcz9_1
     try clear hfz5_0
     try clear hfz5_1
     try clear hfz7_0
     try clear hfz7_1
     try clear hfz9_0
     try clear hfz9_1
     try clear p2
     obtain ⟨x3_2, x4_2, rfl, rfl, HA, HK2, BK134, HB⟩ := hrel
     cases gk with
     | zero => exact absurd HA.out (by simp [spec_VecOk.l0])
     | succ k2 =>
      have H := HA.out
      clear HA
      simp only [spec_VecOk.l0] at H
      by_cases c10 : x4_2 < (l0_1.length : Int)
      ·
       rw [if_pos c10] at H
       have c10b0 : decide (x4_2 < (l0_1.length : Int)) = true := decide_eq_true c10
       clear c10
       by_cases c11 : 0 ≤ x4_2
       ·
        rw [if_pos c11] at H
        have c11b0 : decide (0 ≤ x4_2) = true := decide_eq_true c11
        clear c11
        obtain ⟨t137, A12, H⟩ := ub H; try dsimp only at H
        by_cases c13 : t137 = true
        ·
         subst c13
         have H1 : ((spec_Gcd.f k2 x3_2 (rd l0_1 x4_2)).bind fun t139 => (spec_VecOk.l0 k2 t139 (wrap64 (x4_2 + 1)) a0_0 l0_1)) = some r := by rw [if_pos rfl] at H; exact H
         clear H
         have H := H1
         clear H1
         obtain ⟨t139, A14, H⟩ := ub H; try dsimp only at H
         have H' := am H
         clear H
         have hcz15_0 : wr.cell? ⟨gb134, 0, none⟩ = some (.int .i64 a0_0) := (blk_cell BK134.out 0).trans rfl
         have hcz15_1 : wr.cell? ⟨gb134, 1, none⟩ = some (.slice A0_1 l0_1.length c0_1) := (blk_cell BK134.out 1).trans rfl
         have hfz15_0 := blk_frozen BK134.out 0
         have hfz15_1 := blk_frozen BK134.out 1
         have p136 : 0 ≤ (x4_2 : Int) := of_decide_eq_true (ha)
         have q136 : x4_2 < (l0_1.length : Int) := of_decide_eq_true (ha)
         obtain ⟨ad136, e136, hx136_0⟩ := Kd.at_int HR0_1.out x4_2 p136 q136
         cases e136
         replace hx136_0 := (HB.out.cell (World.block_lt_of_cell? w _ hx136_0)).trans hx136_0
         replace p136 := eq_true p136
         replace q136 := eq_true q136
         go_wp2_with (first | (refine cl 42 (some 29) Try.func42 #[.int .i64 (rd l0_1 x4_2), .int .i64 (-100000), .int .i64 100000] ?_; (with_reducible refine (spec_l01In.calls (rd l0_1 x4_2) (-100000) 100000 true _ A12.out).mono ?_); rintro e w' ⟨rfl, ⟨nd, rfl⟩⟩; refine ⟨_, rfl, ?_⟩; have p138 : 0 ≤ (x4_2 : Int) := of_decide_eq_true (ha); have q138 : x4_2 < (l0_1.length : Int) := of_decide_eq_true (ha); obtain ⟨ad138, e138, hx138_0⟩ := Kd.at_int HR0_1.out x4_2 p138 q138; obtain rfl : ad136 = ad138 := (by injection e138); replace hx138_0 := (HB.out.cell (World.block_lt_of_cell? w _ hx138_0)).trans hx138_0; replace p138 := eq_true p138; replace q138 := eq_true q138) | (refine cl 43 (some 37) Try.func43 #[.int .i64 x3_2, .int .i64 (rd l0_1 x4_2)] ?_; (with_reducible refine (spec_Gcd.calls k2 x3_2 (rd l0_1 x4_2) t139 _ A14.out).mono ?_); rintro e w' ⟨rfl, ⟨nd, rfl⟩⟩; refine ⟨_, rfl, ?_⟩))
         go_roundg k2
         case measure => have := HJ1.out; have := HK2.out; omega
         case rel => exact ⟨(t139), (wrap64 (x4_2 + 1)), (rs), (rs), H', ⟨by have := HJ1.out; have := HK2.out; omega⟩, ⟨fb BK134⟩, ⟨fB HB⟩⟩
        ·
         replace c13 := Bool.eq_false_iff.mpr c13
         subst c13
         have H1 : (some false) = some r := by rw [if_neg (show ¬ (false = true) by decide)] at H; exact H
         clear H
         have H := H1
         clear H1
         obtain rfl := Option.some.inj H
         have hcz16_0 : wr.cell? ⟨gb134, 0, none⟩ = some (.int .i64 a0_0) := (blk_cell BK134.out 0).trans rfl
         have hcz16_1 : wr.cell? ⟨gb134, 1, none⟩ = some (.slice A0_1 l0_1.length c0_1) := (blk_cell BK134.out 1).trans rfl
         have hfz16_0 := blk_frozen BK134.out 0
         have hfz16_1 := blk_frozen BK134.out 1
         have p136 : 0 ≤ (x4_2 : Int) := of_decide_eq_true (ha)
         have q136 : x4_2 < (l0_1.length : Int) := of_decide_eq_true (ha)
         obtain ⟨ad136, e136, hx136_0⟩ := Kd.at_int HR0_1.out x4_2 p136 q136
         cases e136
         replace hx136_0 := (HB.out.cell (World.block_lt_of_cell? w _ hx136_0)).trans hx136_0
         replace p136 := eq_true p136
         replace q136 := eq_true q136
         go_wp2_with (first | (refine cl 42 (some 29) Try.func42 #[.int .i64 (rd l0_1 x4_2), .int .i64 (-100000), .int .i64 100000] ?_; (with_reducible refine (spec_l01In.calls (rd l0_1 x4_2) (-100000) 100000 false _ A12.out).mono ?_); rintro e w' ⟨rfl, ⟨nd, rfl⟩⟩; refine ⟨_, rfl, ?_⟩))
         go_ret
         exact ⟨rz, fB HB⟩
       ·
        rw [if_neg c11] at H
        exact absurd H (by simp)
      ·
       rw [if_neg c10] at H
       have c10b0 : decide (x4_2 < (l0_1.length : Int)) = false := decide_eq_false c10
       clear c10
       obtain rfl := Option.some.inj H
       have hcz17_0 : wr.cell? ⟨gb134, 0, none⟩ = some (.int .i64 a0_0) := (blk_cell BK134.out 0).trans rfl
       have hcz17_1 : wr.cell? ⟨gb134, 1, none⟩ = some (.slice A0_1 l0_1.length c0_1) := (blk_cell BK134.out 1).trans rfl
       have hfz17_0 := blk_frozen BK134.out 0
       have hfz17_1 := blk_frozen BK134.out 1
       go_wp2
       go_ret
       exact ⟨rz, fB HB⟩

/-! ### spec_l04Gcd: function 70 -/
set_option maxHeartbeats 8000000 in
set_option maxRecDepth 100000 in
theorem spec_l04Gcd.calls (k : Nat) (a0 : Int) (a1 : Int) (r : Int) (w : World) (h : spec_l04Gcd.f k a0 a1 = some r) :
  Calls Try.prog 70 #[.int .i64 a0, .int .i64 a1] w fun e w' => e = .returned (.int .i64 r) ∧ Drawn0 w w' := by
 have H : ((spec_l01Abs.f a0).bind fun t140 => ((spec_l01Abs.f a1).bind fun t141 => (spec_l04Gcd.l0 k t140 t141))) = some r := h
 clear h
 obtain ⟨t140, A3, H⟩ := ub H; try dsimp only at H
 obtain ⟨t141, A4, H⟩ := ub H; try dsimp only at H
 have H' := am H
 clear H
 go_enter Try.func70, Try.ntmps70
 go_wp2_with (first | (refine cl 66 (some 9) Try.func66 #[.int .i64 a0] ?_; (with_reducible refine (spec_l01Abs.calls a0 t140 _ A3.out).mono ?_); rintro e w' ⟨rfl, ⟨nd, rfl⟩⟩; refine ⟨_, rfl, ?_⟩) | (refine cl 66 (some 11) Try.func66 #[.int .i64 a1] ?_; (with_reducible refine (spec_l01Abs.calls a1 t141 _ A4.out).mono ?_); rintro e w' ⟨rfl, ⟨nd, rfl⟩⟩; refine ⟨_, rfl, ?_⟩))
 go_loopg [5, 6] k (fun kq v5 v6 w' => ∃ (x5_1 : Int) (x6_1 : Int), v5 = .int .i64 x5_1 ∧ v6 = .int .i64 x6_1 ∧ Aside0 (spec_l04Gcd.l0 kq x5_1 x6_1 = some r) ∧ Aside0 (kq ≤ k) ∧ Drawn0 w w')
 case atStart => exact ⟨(t140), (t141), (rs), (rs), H', ⟨Nat.le_refl _⟩, d0⟩
 case round =>
  clear H'
  try clear p2
  obtain ⟨x5_1, x6_1, rfl, rfl, HA, HK1, ⟨m1, rfl⟩⟩ := hrel
  cases gk with
  | zero => exact absurd HA.out (by simp [spec_l04Gcd.l0])
  | succ k1 =>
   have H := HA.out
   clear HA
   simp only [spec_l04Gcd.l0] at H
   by_cases c5 : x6_1 > 0
   ·
    rw [if_pos c5] at H
    have c5b0 : decide (0 < x6_1) = true := decide_eq_true c5
    clear c5
    by_cases c6 : x6_1 = 0
    ·
     rw [if_pos c6] at H
     exact absurd H (by simp)
    ·
     rw [if_neg c6] at H
     obtain ⟨c6b0, c6b1⟩ := bqf c6
     have H' := am H
     clear H
     go_wp2
     go_roundg k1
     case measure => have := HK1.out; omega
     case rel => exact ⟨(x6_1), (Int.tmod x5_1 x6_1), (rs), (rs), H', ⟨by have := HK1.out; omega⟩, d0⟩
   ·
    rw [if_neg c5] at H
    have c5b0 : decide (0 < x6_1) = false := decide_eq_false c5
    clear c5
    obtain rfl := Option.some.inj H
    go_wp2
    go_ret
    exact ⟨rs, d0⟩

/-! ### spec_l04Make: function 47 -/
def spec_l04Make.T13 : Bool × List (List Nat × List Nat) := (true, [([], []), ([0], [0]), ([], []), ([], []), ([2, 3], [2, 3]), ([4], [4]), ([], []), ([5, 6], [5, 6]), ([7], [7]), ([1, 8], [1, 8]), ([0, 1, 2, 3, 4, 5, 6, 7, 8, 9], []), ([10, 9, 9, 0, 1, 2, 3, 4, 5, 6, 7, 8, 9], [9, 10])])
def spec_l04Make.B13 : List Nat := [0, 1, 0, 0, 12, 28, 0, 124, 252, 511, 1023, 2047]
theorem spec_l04Make.tab13 : rtab .any (opsOf Try.f47 13) = spec_l04Make.T13 := by kernel_rfl
theorem spec_l04Make.bits13 : waitsOk spec_l04Make.T13.2 spec_l04Make.B13 = true := by kernel_rfl
set_option maxHeartbeats 8000000 in
set_option maxRecDepth 100000 in
theorem spec_l04Make.calls (k : Nat) (A0 : Option Addr) (c0 : Nat) (l0 : List Int) (a1 : Int) (r1 : Int) (r2 : List Int) (r3 : Bool) (w : World) (hr0 : Kd.C (Kd.int .i64) w A0 l0.length l0) (hc0 : l0.length ≤ c0) (h : spec_l04Make.f k l0 a1 = some (r1, r2, r3)) :
  Calls Try.prog 47 #[.slice A0 l0.length c0, .int .i64 a1] w fun e w' => ∃ v1_ : Value, e = .returned (.tuple #[.agg #[.int .i64 r1, v1_], .bool r3]) ∧ Kd.R (Kd.int .i64) 3 w' w.heap.size (fun _ => True) v1_ r2 ∧ Below w.heap.size w w' := by
 have hu27 := Try.underlying27
 have HR0 := am hr0
 have HC0 := am hc0
 clear hr0 hc0
 have HB := am (Below.refl w.heap.size w)
 have H : (spec_l04Make.l0 k l0 a1 a1 0) = some (r1, r2, r3) := h
 clear h
 have H' := am H
 clear H
 go_enter Try.func47, Try.ntmps47
 go_wp2_with (first | (refine bx 4 #[.int .i64 0, .slice none 0 0] 27 ?_; intro gb142 hg w3 hbox hb; have BK142 := am (hbox); have GW142 := zB HB hg; have GE142 := zB HB hg; replace HB := sB HB hb; clear hb hbox hg))
 go_loopg [6, 7] k (fun kq v6 v7 w' => ∃ (x6_1 : Int) (x7_1 : Int), v6 = .int .i64 x6_1 ∧ v7 = .int .i64 x7_1 ∧ Aside0 (spec_l04Make.l0 kq l0 a1 x6_1 x7_1 = some (r1, r2, r3)) ∧ Aside0 (kq ≤ k) ∧ Aside0 (w'.heap[gb142]? = some (.cells #[.int .i64 0, (.slice none 0 0)] 27 (0, 0))) ∧ Aside0 (Below w.heap.size w w'))
 case atStart => exact ⟨(a1), (0), (rs), (rs), H', ⟨Nat.le_refl _⟩, ⟨fb BK142⟩, ⟨fB HB⟩⟩
 case round =>
  clear H'
  try clear p2
  obtain ⟨x6_1, x7_1, rfl, rfl, HA, HK1, BK142, HB⟩ := hrel
  cases gk with
  | zero => exact absurd HA.out (by simp [spec_l04Make.l0])
  | succ k1 =>
   have H := HA.out
   clear HA
   simp only [spec_l04Make.l0] at H
   by_cases c4 : x7_1 < (l0.length : Int)
   ·
    rw [if_pos c4] at H
    have c4b0 : decide (x7_1 < (l0.length : Int)) = true := decide_eq_true c4
    clear c4
    by_cases c5 : 0 ≤ x7_1
    ·
     rw [if_pos c5] at H
     have c5b0 : decide (0 ≤ x7_1) = true := decide_eq_true c5
     clear c5
     obtain ⟨t144, A6, H⟩ := ub H; try dsimp only at H
     have H' := am H
     clear H
     have p143 : 0 ≤ (x7_1 : Int) := of_decide_eq_true (ha)
     have q143 : x7_1 < (l0.length : Int) := of_decide_eq_true (ha)
     obtain ⟨ad143, e143, hx143_0⟩ := Kd.at_int HR0.out x7_1 p143 q143
     cases e143
     replace hx143_0 := (HB.out.cell (World.block_lt_of_cell? w _ hx143_0)).trans hx143_0
     replace p143 := eq_true p143
     replace q143 := eq_true q143
     go_wp2_with (first | (refine cl 70 (some 22) Try.func70 #[.int .i64 x6_1, .int .i64 (rd l0 x7_1)] ?_; (with_reducible refine (spec_l04Gcd.calls k1 x6_1 (rd l0 x7_1) t144 _ A6.out).mono ?_); rintro e w' ⟨rfl, ⟨nd, rfl⟩⟩; refine ⟨_, rfl, ?_⟩))
     go_roundg k1
     case measure => have := HK1.out; omega
     case rel => exact ⟨(t144), (wrap64 (x7_1 + 1)), (rs), (rs), H', ⟨by have := HK1.out; omega⟩, ⟨fb BK142⟩, ⟨fB HB⟩⟩
    ·
     rw [if_neg c5] at H
     exact absurd H (by simp)
   ·
    rw [if_neg c4] at H
    have c4b0 : decide (x7_1 < (l0.length : Int)) = false := decide_eq_false c4
    clear c4
    obtain ⟨t145, A7, H⟩ := ub H; try dsimp only at H
    have HC8 := am H
    clear H
    go_upto_if 26 with (first | (refine cl 66 (some 24) Try.func66 #[.int .i64 x6_1] ?_; (with_reducible refine (spec_l01Abs.calls x6_1 t145 _ A7.out).mono ?_); rintro e w' ⟨rfl, ⟨nd, rfl⟩⟩; refine ⟨_, rfl, ?_⟩))
    (try simp only [Act.put, List.setIfInBounds_toArray, List.set_cons_zero, List.set_cons_succ])
    go_cut [6] (fun v6 wc => ∃ (kq : Nat) (x6_7 : Int), v6 = .int .i64 x6_7 ∧ Aside0 (spec_l04Make.j1 kq l0 a1 x6_7 = some (r1, r2, r3)) ∧ Aside0 (kq ≤ k1) ∧ Aside0 (wc.heap[gb142]? = some (.cells #[.int .i64 0, (.slice none 0 0)] 27 (0, 0))) ∧ Aside0 (Below w.heap.size w wc))
    case first =>
     have H := HC8.out
     clear HC8
     by_cases c9 : a1 < 0
     ·
      rw [if_pos c9] at H
      have c9b0 : decide (a1 < 0) = true := decide_eq_true c9
      clear c9
      (first | rw [c9b0] | (simp only [i64_w, i32_w]; rw [c9b0]) | skip)
      have H' := am H
      clear H
      go_wp2
      go_meet
      case rel => exact ⟨_, (wrap64 (-t145)), (rs), H', ⟨by have := HK1.out; first | omega | exact Nat.le_refl _⟩, ⟨fb BK142⟩, ⟨fB HB⟩⟩
     ·
      rw [if_neg c9] at H
      have c9b0 : decide (a1 < 0) = false := decide_eq_false c9
      clear c9
      (first | rw [c9b0] | (simp only [i64_w, i32_w]; rw [c9b0]) | skip)
      have H' := am H
      clear H
      go_wp2
      go_meet
      case rel => exact ⟨_, (t145), (rs), H', ⟨by have := HK1.out; first | omega | exact Nat.le_refl _⟩, ⟨fb BK142⟩, ⟨fB HB⟩⟩
    case rest =>
     clear HC8
     try clear p1
     try clear q1
     try clear hx1
     try clear p2
     try clear c4
     try clear c4b0
     try clear c5
     try clear c5b0
     try clear c6
     try clear p6
     try clear c7
     try clear c9
     try clear c9b0
     try clear hx143_0
     try clear p143
     try clear p2
     try clear q143
     obtain ⟨kq, x6_7, rfl, HA, HJ7, BK142, HB⟩ := hcut
     cases kq with
     | zero => exact absurd HA.out (by simp [spec_l04Make.j1])
     | succ kj7 =>
      have H := HA.out
      clear HA
      simp only [spec_l04Make.j1] at H
      by_cases c10 : x6_7 = 0
      ·
       rw [if_pos c10] at H
       exact absurd H (by simp)
      ·
       rw [if_neg c10] at H
       obtain ⟨c10b0, c10b1⟩ := bqf c10
       have H' := am H
       clear H
       go_wp2_with (first | (refine bx 8 #[.int .i64 0, .slice none 0 0] 27 ?_; intro gb146 hg w11 hbox hb; have BK146 := am (hbox); have GW146 := zB HB hg; have GE146 := zB HB hg; replace HB := sB HB hb; obtain ⟨NB142_146, NB146_142⟩ := nB BK142 hg; replace BK142 := kB BK142 hb; clear hb hbox hg; have hnb12 := NB146_142.out; have hnc12 := NB142_146.out; obtain ⟨hcz13_0, hcz13_1, hfz13_0, hfz13_1⟩ := cz2 BK146))
       go_loopg [9] kj7 (fun kq v9 w' => ∃ (x9_3 : Int) (x147001_3 : List Int) (u147001 : Value), v9 = .int .i64 x9_3 ∧ Aside0 (spec_l04Make.l1 kq l0 x6_7 x9_3 (wrap64 (Int.tdiv a1 x6_7)) x147001_3 = some (r1, r2, r3)) ∧ Aside0 (kq ≤ kj7) ∧ Aside0 (Kd.R (Kd.int .i64) 3 w' w.heap.size (fun _ => True) u147001 x147001_3) ∧ Aside0 (w'.heap[gb142]? = some (.cells #[.int .i64 0, (.slice none 0 0)] 27 (0, 0))) ∧ Aside0 (w'.heap[gb146]? = some (.cells #[.int .i64 (wrap64 (Int.tdiv a1 x6_7)), u147001] 27 (0, 0))) ∧ Aside0 (Below w.heap.size w w'))
       case atStart => exact ⟨(0), (([] : List Int)), (.slice none 0 0), (rs), H', ⟨Nat.le_refl _⟩, ⟨by first | exact Kd.R_nil _ _ _ _ _ | exact Kd.N_nil _ _ _ _ _ | exact Kd.V_nil _ _ _ _ _ | exact Kd.Q_nil _ _ _ _ _ | exact Kd.S_nil _ _ _ _ _⟩, ⟨fb BK142⟩, ⟨fP BK146⟩, ⟨fB HB⟩⟩
       case round =>
        clear H'
        try clear c1
        try clear p1
        try clear q1
        try clear hx1
        try clear p2
        try clear c4
        try clear c4b0
        try clear c5
        try clear c5b0
        try clear c6
        try clear p6
        try clear c7
        try clear c9
        try clear c9b0
        try clear c10
        try clear c10b0
        try clear c10b1
        try clear c12
        try clear hcz13_0
        try clear hcz13_1
        try clear hfz13_0
        try clear hfz13_1
        try clear hx143_0
        try clear p1
        try clear p143
        try clear p2
        try clear p6
        try clear q1
        try clear q143
        obtain ⟨x9_3, x147001_3, u147001, rfl, HA, HK3, HO_147001, BK142, BK146, HB⟩ := hrel
        cases gk with
        | zero => exact absurd HA.out (by simp [spec_l04Make.l1])
        | succ k3 =>
         have H := HA.out
         clear HA
         simp only [spec_l04Make.l1] at H
         by_cases c14 : x9_3 < (l0.length : Int)
         ·
          rw [if_pos c14] at H
          have c14b0 : decide (x9_3 < (l0.length : Int)) = true := decide_eq_true c14
          clear c14
          by_cases c15 : 0 ≤ x9_3
          ·
           rw [if_pos c15] at H
           have c15b0 : decide (0 ≤ x9_3) = true := decide_eq_true c15
           clear c15
           by_cases c16 : x6_7 = 0
           ·
            rw [if_pos c16] at H
            exact absurd H (by simp)
           ·
            rw [if_neg c16] at H
            obtain ⟨c16b0, c16b1⟩ := bqf c16
            by_cases c17 : x147001_3.length < 17592186044416
            ·
             rw [if_pos c17] at H
             have LMc17 := am c17
             clear c17
             obtain ⟨y148, Ny148⟩ : ∃ y_ : List Int, Aside0 (y_ = (x147001_3 ++ [wrap64 (Int.tdiv (rd l0 x9_3) x6_7)])) := ⟨_, ⟨rfl⟩⟩; rw [← Ny148.out] at H
             have H' := am H
             clear H
             try go_wp2
             replace HO_147001 := am (Kd.R_drew HO_147001.out); replace BK142 := am (blk_drew BK142.out); replace BK146 := am (blk_drew BK146.out); replace HB := am (below_drew1 HB.out)
             have p147 : 0 ≤ (x9_3 : Int) := of_decide_eq_true (ha)
             have q147 : x9_3 < (l0.length : Int) := of_decide_eq_true (ha)
             obtain ⟨ad147, e147, hx147_0⟩ := Kd.at_int HR0.out x9_3 p147 q147
             have hw147_0 := hx147_0
             cases e147
             replace hx147_0 := (HB.out.cell (World.block_lt_of_cell? w _ hx147_0)).trans hx147_0
             replace p147 := eq_true p147
             replace q147 := eq_true q147
             refine start_ (n := 12) (S := fun w' => w'.cell? ⟨gb146, 0, none⟩ = some (.int .i64 (wrap64 (Int.tdiv a1 x6_7))) ∧ w'.cell? ⟨gb146, 1, none⟩ = some (u147001) ∧ w'.cell? (ad147.add (x9_3).toNat) = some (.int .i64 (rd l0 x9_3))) (ds := [11]) #[false, false, false, false, false, false, false, false, false, false, false, false] (by kernel_rfl) rfl rfl ⟨(blk_cell BK146.out 0).trans rfl, (blk_cell BK146.out 1).trans rfl, ((HB.out.cell (World.block_lt_of_cell? w _ hw147_0)).trans hw147_0)⟩ (fun hHeld => ?_); refine with_tabW spec_l04Make.tab13 spec_l04Make.bits13 (fun HT_ HW_ => ?_)
             generalize wr.drew = w18 at HO_147001 BK142 BK146 HB hx147_0 hHeld ⊢
             refine pu 0 (some 39) #[true, false, false, false, false, false, false, false, false, false, false, false] HT_ ?_
             refine pu 2 (some 41) #[true, false, true, false, false, false, false, false, false, false, false, false] HT_ ?_
             refine pu 3 (some 42) #[true, false, true, true, false, false, false, false, false, false, false, false] HT_ ?_
             refine pu 4 (some 43) #[true, false, true, true, true, false, false, false, false, false, false, false] HT_ ?_
             refine pu 6 (some 45) #[true, false, true, true, true, false, true, false, false, false, false, false] HT_ ?_
             refine tk 1 (some 40) #[true, true, true, true, true, false, true, false, false, false, false, false] HT_ HW_ hHeld ?_
             refine tk 5 (some 44) #[true, true, true, true, true, true, true, false, false, false, false, false] HT_ HW_ hHeld ?_
             refine pu 7 (some 46) #[true, true, true, true, true, true, true, true, false, false, false, false] HT_ ?_
             refine on 8 (some 47) #[true, true, true, true, true, true, true, true, true, false, false, false] HT_ (fun K hK => ?_)
             refine value_ (w1 := ?_) (v := ?_) (by rfl) rfl ?_ ?_
             rotate_left 2
             ·
              go_simp
              constructor
              ·
               rfl
              ·
               rfl
             refine hK.out _ _ ⟨(blk_cell (blk_alloc BK146.out _) 0).trans rfl, (blk_cell (blk_alloc BK146.out _) 1).trans rfl, (World.cell?_alloc_lt _ _ _ (World.block_lt_of_cell? _ _ (((HB.out.cell (World.block_lt_of_cell? w _ hw147_0)).trans hw147_0)))).trans (((HB.out.cell (World.block_lt_of_cell? w _ hw147_0)).trans hw147_0))⟩ (fun hHeld => ?_)
             clear hK K
             refine nm (some 47) ?_
             refine on 9 (some 48) #[true, true, true, true, true, true, true, true, true, true, false, false] HT_ (fun K hK => ?_)
             refine Kd.R_append_step (Kd.int .i64) (w0 := w) w.heap.size (by rfl) (.tmp 40) (.tmp 47) 22 3 (.int .i64 0) 8 rfl Try.underlying22 info3 rfl (by decide) (by omega) u147001 x147001_3 (wrap64 (Int.tdiv (rd l0 x9_3) x6_7)) [.int .i64 (wrap64 (Int.tdiv (rd l0 x9_3) x6_7))] (fun _ => True) (fun _ => False) rfl rfl ?aP (fun _ hk => hk.elim) ?aF ?aO ?aB ?aS ?aL ?_
             (case aP => exact rfl)
             (case aB => exact (fB HB))
             (case aF => exact (fun _ _ => trivial))
             (case aO => exact (fR HO_147001))
             (case aS => exact (below_size (fB HB)))
             (case aL => have := LMc17.out; omega)
             intro v149 w19 ho hb hg hat
             rw [← Ny148.out] at ho
             replace BK142 := am (blk_grown (g := gb142) (o := .cells #[.int .i64 0, .slice none 0 0] 27 (0, 0)) (fb BK142) hg (Kd.R_ne HO_147001.out BK142.out (by decide))); replace BK146 := am (blk_grown (g := gb146) (o := .cells #[.int .i64 (wrap64 (Int.tdiv a1 x6_7)), u147001] 27 (0, 0)) (fb BK146) hg (Kd.R_ne HO_147001.out BK146.out (by decide))); replace HB := am (hb); have HO150 := am (ho); clear HO_147001
             clear ho hb hg hat
             obtain ⟨Ao20, co20, eo20⟩ := Kd.R_slice HO150.out
             (first | subst eo20 | (injection eo20 with f1_ f2_ f3_; have f4_ := f1_.symm; have f5_ := f3_.symm; clear f1_ f2_ f3_; subst f4_; subst f5_))
             refine hK.out _ _ ⟨(blk_cell BK146.out 0).trans rfl, (blk_cell BK146.out 1).trans rfl, ((HB.out.cell (World.block_lt_of_cell? w _ hw147_0)).trans hw147_0)⟩ (fun hHeld => ?_)
             clear hK K
             refine nm (some 48) ?_
             refine pu 10 (some 49) #[true, true, true, true, true, true, true, true, true, true, true, false] HT_ ?_
             refine last_ (i := 11) (N := none) #[true, true, true, true, true, true, true, true, true, true, true, true] rfl rfl (one_of HT_.out (by kernel_rfl)) (by decide) (fun K hK => ?_)
             have hs21 : w19.cell? ⟨gb146, 1, none⟩ = some (u147001) := (blk_cell BK146.out 1).trans rfl
             have hfs21 := blk_frozen BK146.out 1
             have hns21_0 := NB142_146.out
             have hms21_0 := NB146_142.out
             refine skip_ (w1 := ?_) (by rfl) rfl ?_ ?_
             rotate_left
             ·
              go_simp
              rfl
             refine hK.out _ _ ?_
             clear hK K
             refine done_ (done_of HT_.out (by kernel_rfl)) ?_
             try go_wp2
             go_roundg k3
             case measure => have := HK1.out; have := HJ7.out; have := HK3.out; omega
             case rel => exact ⟨(wrap64 (x9_3 + 1)), (y148), (.slice Ao20 y148.length co20), (rs), H', ⟨by have := HK1.out; have := HJ7.out; have := HK3.out; omega⟩, ⟨tR1 HO150 BK146 (fun _ h => trivial)⟩, ⟨fb BK142⟩, ⟨fP BK146⟩, ⟨fB HB⟩⟩
            ·
             rw [if_neg c17] at H
             exact absurd H (by simp)
          ·
           rw [if_neg c15] at H
           exact absurd H (by simp)
         ·
          rw [if_neg c14] at H
          have c14b0 : decide (x9_3 < (l0.length : Int)) = false := decide_eq_false c14
          clear c14
          obtain ⟨t151, A22, H⟩ := ub H; try dsimp only at H
          by_cases c23 : t151 = true
          ·
           subst c23
           have H1 : (some ((wrap64 (Int.tdiv a1 x6_7)), x147001_3, true)) = some (r1, r2, r3) := by rw [if_pos rfl] at H; exact H
           clear H
           have H := H1
           clear H1
           simp only [Option.some.injEq, Prod.mk.injEq] at H
           obtain ⟨rfl, rfl, rfl⟩ := H
           have hnb24 := NB146_142.out
           have hnc24 := NB142_146.out
           have hcz25_0 : wr.cell? ⟨gb146, 0, none⟩ = some (.int .i64 (wrap64 (Int.tdiv a1 x6_7))) := (blk_cell BK146.out 0).trans rfl
           have hcz25_1 : wr.cell? ⟨gb146, 1, none⟩ = some (u147001) := (blk_cell BK146.out 1).trans rfl
           have hfz25_0 := blk_frozen BK146.out 0
           have hfz25_1 := blk_frozen BK146.out 1
           obtain ⟨Ao26, co26, eo26⟩ := Kd.R_slice HO_147001.out
           subst eo26
           go_wp2_with (first | (refine cl 13 (some 51) Try.func13 #[.agg #[.int .i64 (wrap64 (Int.tdiv a1 x6_7)), .slice Ao26 x147001_3.length co26]] ?_; (with_reducible refine (spec_VecOk.calls k3 (wrap64 (Int.tdiv a1 x6_7)) _ _ x147001_3 true _ ?side1 ?side2 A22.out).mono ?_); (case side1 => repeat (first | exact (Kd.R_reads' HO_147001.out).2.2 | (with_reducible refine Kd.C_alloc ?_ _) | (with_reducible refine Kd.C_drewN ?_ _) | (with_reducible refine Kd.C_drew ?_))); (case side2 => exact (Kd.R_reads' HO_147001.out).2.1); rintro e w27 ⟨rfl, hb⟩; refine ⟨_, rfl, ?_⟩; replace HO_147001 := RB HO_147001 hb; replace BK142 := kB BK142 hb; replace BK146 := kB BK146 hb; replace HB := sB HB hb; clear hb; obtain ⟨hcz28_0, hcz28_1, hfz28_0, hfz28_1⟩ := cz2 BK146; obtain ⟨hcz29_0, hcz29_1, hfz29_0, hfz29_1⟩ := cz2 BK142))
           refine bodyPost_ret (results_ct rfl _ _ gb142 27 #[.int .i64 (wrap64 (Int.tdiv a1 x6_7)), .slice Ao26 x147001_3.length co26] (0, 0) _ rfl (fP BK142) Try.underlying27 rfl (by kernel_rfl)) rfl ?_
           exact ⟨_, rz, tR1 HO_147001 BK142 (fun _ h => trivial), fB HB⟩
          ·
           replace c23 := Bool.eq_false_iff.mpr c23
           subst c23
           have H1 : (some (0, ([] : List Int), false)) = some (r1, r2, r3) := by rw [if_neg (show ¬ (false = true) by decide)] at H; exact H
           clear H
           have H := H1
           clear H1
           simp only [Option.some.injEq, Prod.mk.injEq] at H
           obtain ⟨rfl, rfl, rfl⟩ := H
           have hnb30 := NB146_142.out
           have hnc30 := NB142_146.out
           have hcz31_0 : wr.cell? ⟨gb146, 0, none⟩ = some (.int .i64 (wrap64 (Int.tdiv a1 x6_7))) := (blk_cell BK146.out 0).trans rfl
           have hcz31_1 : wr.cell? ⟨gb146, 1, none⟩ = some (u147001) := (blk_cell BK146.out 1).trans rfl
           have hfz31_0 := blk_frozen BK146.out 0
           have hfz31_1 := blk_frozen BK146.out 1
           obtain ⟨Ao32, co32, eo32⟩ := Kd.R_slice HO_147001.out
           subst eo32
           go_wp2_with (first | (refine cl 13 (some 51) Try.func13 #[.agg #[.int .i64 (wrap64 (Int.tdiv a1 x6_7)), .slice Ao32 x147001_3.length co32]] ?_; (with_reducible refine (spec_VecOk.calls k3 (wrap64 (Int.tdiv a1 x6_7)) _ _ x147001_3 false _ ?side1 ?side2 A22.out).mono ?_); (case side1 => repeat (first | exact (Kd.R_reads' HO_147001.out).2.2 | (with_reducible refine Kd.C_alloc ?_ _) | (with_reducible refine Kd.C_drewN ?_ _) | (with_reducible refine Kd.C_drew ?_))); (case side2 => exact (Kd.R_reads' HO_147001.out).2.1); rintro e w33 ⟨rfl, hb⟩; refine ⟨_, rfl, ?_⟩; replace HO_147001 := RB HO_147001 hb; replace BK142 := kB BK142 hb; replace BK146 := kB BK146 hb; replace HB := sB HB hb; clear hb; obtain ⟨hcz34_0, hcz34_1, hfz34_0, hfz34_1⟩ := cz2 BK142))
           refine bodyPost_ret (results_ct rfl _ _ gb142 27 #[.int .i64 0, .slice none 0 0] (0, 0) _ rfl (fP BK142) Try.underlying27 rfl (by kernel_rfl)) rfl ?_
           exact ⟨_, rz, by first | exact Kd.R_nil _ _ _ _ _ | exact Kd.N_nil _ _ _ _ _ | exact Kd.V_nil _ _ _ _ _ | exact Kd.Q_nil _ _ _ _ _ | exact Kd.S_nil _ _ _ _ _, fB HB⟩
end Go.Proofs.Ytjdndacollpjkaa.MFnVars
