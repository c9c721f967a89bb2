/- Contracts of the functions that the law FnVars reaches (walks in the form of the kit's print; what it does not take by hand). -/
import Derived.Test.YtjdndacollpjkaaFvL
import Derived.Test.YtjdndacollpjkaaMFnVarsx4
import Derived.Test.YtjdndacollpjkaaMFnVarsx8
namespace Go.Proofs.Ytjdndacollpjkaa.MFnVars
open Go.RowKit Go.Proofs.YtjdndacollpjkaaW.PrintWords Go.Proofs.YtjdndacollpjkaaW.PrintLast Go.Proofs.YtjdndacollpjkaaW.PrintMore
attribute [local go_sem] fld60_0 fld60_1 max2_int min2_int max_two min_two max_three min_three max_four min_four   -- for this text's walks alone
set_option linter.unusedVariables false
set_option linter.unusedSimpArgs false

/-! ### spec_l02Gcd: function 105 -/
def spec_l02Gcd.T1 : Bool × List (List Nat × List Nat) := (true, [([], []), ([0], [0]), ([1], [1]), ([], []), ([3], [3]), ([4, 2], [4]), ([], []), ([], []), ([6, 2, 5, 0, 1, 2, 6, 7], [2, 6]), ([7, 5, 8, 0, 1, 2, 3, 4, 5, 6, 7, 8], [5, 7])])
def spec_l02Gcd.B1 : List Nat := [0, 1, 3, 0, 8, 31, 0, 0, 255, 511]
theorem spec_l02Gcd.tab1 : rtab .any (opsOf Try.f105 1) = spec_l02Gcd.T1 := by kernel_rfl
theorem spec_l02Gcd.bits1 : waitsOk spec_l02Gcd.T1.2 spec_l02Gcd.B1 = true := by kernel_rfl
set_option maxHeartbeats 8000000 in
set_option maxRecDepth 100000 in
theorem spec_l02Gcd.calls (k : Nat) (a0_0 : Bool) (A0_1 : Option Addr) (c0_1 : Nat) (l0_1 : List Int) (a1_0 : Bool) (A1_1 : Option Addr) (c1_1 : Nat) (l1_1 : List Int) (r1 : Bool) (r2 : List Int) (w : World) (hr0_1 : Kd.C (Kd.int .u32) w A0_1 l0_1.length l0_1) (hc0_1 : l0_1.length ≤ c0_1) (hr1_1 : Kd.C (Kd.int .u32) w A1_1 l1_1.length l1_1) (hc1_1 : l1_1.length ≤ c1_1) (h : spec_l02Gcd.f k a0_0 l0_1 a1_0 l1_1 = some (r1, r2)) :
  Calls Try.prog 105 #[.agg #[.bool a0_0, .slice A0_1 l0_1.length c0_1], .agg #[.bool a1_0, .slice A1_1 l1_1.length c1_1]] w fun e w' => ∃ v1_ : Value, e = .returned (.agg #[.bool r1, v1_]) ∧ Kd.R (Kd.int .u32) 119 w' w.heap.size (fun _ => True) v1_ r2 ∧ Below w.heap.size w w' := by
 have hu60 := Try.underlying60
 have HR0_1 := am hr0_1
 have HC0_1 := am hc0_1
 clear hr0_1 hc0_1
 have HR1_1 := am hr1_1
 have HC1_1 := am hc1_1
 clear hr1_1 hc1_1
 have HB := am (Below.refl w.heap.size w)
 have H : ((spec_l02Make.f k false l0_1).bind fun bt497 => ((spec_l02Make.f k false l1_1).bind fun bt501 => (spec_l02Gcd.l0 k bt497.1 bt497.2 bt501.1 bt501.2))) = some (r1, r2) := h
 clear h
 obtain ⟨⟨t497, t498⟩, A3, H⟩ := ub H; dsimp only at H
 obtain ⟨⟨t501, t502⟩, A4, H⟩ := ub H; dsimp only at H
 have H' := am H
 clear H
 go_enter Try.func105, Try.ntmps105
 try go_wp2_with (first | (refine bx 2 #[.bool a0_0, .slice A0_1 l0_1.length c0_1] 60 ?_; intro gb494 hg w5 hbox hb; have BK494 := am (hbox); have GW494 := zB HB hg; have GE494 := zB HB hg; replace HB := sB HB hb; clear hb hbox hg) | (refine bx 3 #[.bool a1_0, .slice A1_1 l1_1.length c1_1] 60 ?_; intro gb495 hg w6 hbox hb; have BK495 := am (hbox); have GW495 := zB HB hg; have GE495 := zB HB hg; replace HB := sB HB hb; obtain ⟨NB494_495, NB495_494⟩ := nB BK494 hg; replace BK494 := kB BK494 hb; clear hb hbox hg) | (refine bx 4 #[.bool false, .slice none 0 0] 60 ?_; intro gb496 hg w7 hbox hb; have BK496 := am (hbox); have GW496 := zB HB hg; have GE496 := zB HB hg; replace HB := sB HB hb; obtain ⟨NB494_496, NB496_494⟩ := nB BK494 hg; replace BK494 := kB BK494 hb; obtain ⟨NB495_496, NB496_495⟩ := nB BK495 hg; replace BK495 := kB BK495 hb; clear hb hbox hg))
 replace BK494 := am (blk_drew BK494.out); replace BK495 := am (blk_drew BK495.out); replace BK496 := am (blk_drew BK496.out); replace HB := am (below_drew1 HB.out)
 refine start_ (n := 10) (S := fun w' => w'.cell? ⟨gb494, 0, none⟩ = some (.bool a0_0) ∧ w'.cell? ⟨gb494, 1, none⟩ = some (.slice A0_1 l0_1.length c0_1) ∧ w'.cell? ⟨gb495, 0, none⟩ = some (.bool a1_0) ∧ w'.cell? ⟨gb495, 1, none⟩ = some (.slice A1_1 l1_1.length c1_1)) (ds := []) #[false, false, false, false, false, false, false, false, false, false] (by kernel_rfl) rfl rfl (hh4 BK494 BK495) (fun hHeld => ?_); refine with_tabW spec_l02Gcd.tab1 spec_l02Gcd.bits1 (fun HT_ HW_ => ?_)
 generalize w7.drew = w8 at BK494 BK495 BK496 HB hHeld ⊢
 refine pu 0 (some 9) #[true, false, false, false, false, false, false, false, false, false] HT_ ?_
 refine pu 3 (some 12) #[true, false, false, true, false, false, false, false, false, false] HT_ ?_
 refine tk 1 (some 10) #[true, true, false, true, false, false, false, false, false, false] HT_ HW_ hHeld ?_
 refine tk 4 (some 13) #[true, true, false, true, true, false, false, false, false, false] HT_ HW_ hHeld ?_
 refine join_ (σ := Value × Value × Nat × Nat) 2 #[true, true, true, true, true, true, true, true, false, false] (fun s_ => [(11, .agg #[.bool t497, s_.1]), (14, .agg #[.bool t501, s_.2.1]), (5, .pointer (some ⟨s_.2.2.1, 0, none⟩)), (6, .pointer (some ⟨s_.2.2.2, 0, none⟩))]) (fun s_ w' => (w'.cell? ⟨gb494, 0, none⟩ = some (.bool a0_0) ∧ w'.cell? ⟨gb494, 1, none⟩ = some (.slice A0_1 l0_1.length c0_1) ∧ w'.cell? ⟨gb495, 0, none⟩ = some (.bool a1_0) ∧ w'.cell? ⟨gb495, 1, none⟩ = some (.slice A1_1 l1_1.length c1_1)) ∧ (Kd.R (Kd.int .u32) 119 w' w.heap.size (fun k_ => some k_ ≠ (s_.2.1 : Value).ownBlock) s_.1 t498) ∧ (Kd.R (Kd.int .u32) 119 w' w.heap.size (fun k_ => some k_ ≠ (s_.1 : Value).ownBlock) s_.2.1 t502) ∧ (w'.heap[gb494]? = some (.cells #[.bool a0_0, .slice A0_1 l0_1.length c0_1] 60 (0, 0))) ∧ (w'.heap[gb495]? = some (.cells #[.bool a1_0, .slice A1_1 l1_1.length c1_1] 60 (0, 0))) ∧ (w'.heap[gb496]? = some (.cells #[.bool false, .slice none 0 0] 60 (0, 0))) ∧ (w'.heap[s_.2.2.1]? = some (.cells #[.bool false, .slice none 0 0] 60 (0, 0))) ∧ (w'.heap[s_.2.2.2]? = some (.cells #[.bool false, .slice none 0 0] 60 (0, 0))) ∧ (w.heap.size ≤ s_.2.2.1) ∧ (w.heap.size ≤ s_.2.2.1) ∧ (gb494 ≠ s_.2.2.1) ∧ (s_.2.2.1 ≠ gb494) ∧ (gb495 ≠ s_.2.2.1) ∧ (s_.2.2.1 ≠ gb495) ∧ (gb496 ≠ s_.2.2.1) ∧ (s_.2.2.1 ≠ gb496) ∧ (s_.2.2.2 ≠ s_.2.2.1) ∧ (s_.2.2.1 ≠ s_.2.2.2) ∧ (w.heap.size ≤ s_.2.2.2) ∧ (w.heap.size ≤ s_.2.2.2) ∧ (gb494 ≠ s_.2.2.2) ∧ (s_.2.2.2 ≠ gb494) ∧ (gb495 ≠ s_.2.2.2) ∧ (s_.2.2.2 ≠ gb495) ∧ (gb496 ≠ s_.2.2.2) ∧ (s_.2.2.2 ≠ gb496) ∧ (Below w.heap.size w w')) ?_ ?_
 rotate_left
 ·
  intro hJ2_5_6_7
  refine join_ (σ := Value × Value × Nat) 3 #[true, true, true, true, true, true, true, false, false, false] (fun s_ => [(11, .agg #[.bool t497, s_.1]), (14, .agg #[.bool t501, s_.2.1]), (5, .pointer (some ⟨s_.2.2, 0, none⟩))]) (fun s_ w' => (w'.cell? ⟨gb494, 0, none⟩ = some (.bool a0_0) ∧ w'.cell? ⟨gb494, 1, none⟩ = some (.slice A0_1 l0_1.length c0_1) ∧ w'.cell? ⟨gb495, 0, none⟩ = some (.bool a1_0) ∧ w'.cell? ⟨gb495, 1, none⟩ = some (.slice A1_1 l1_1.length c1_1)) ∧ (Kd.R (Kd.int .u32) 119 w' w.heap.size (fun k_ => some k_ ≠ (s_.2.1 : Value).ownBlock) s_.1 t498) ∧ (Kd.R (Kd.int .u32) 119 w' w.heap.size (fun k_ => some k_ ≠ (s_.1 : Value).ownBlock) s_.2.1 t502) ∧ (w'.heap[gb494]? = some (.cells #[.bool a0_0, .slice A0_1 l0_1.length c0_1] 60 (0, 0))) ∧ (w'.heap[gb495]? = some (.cells #[.bool a1_0, .slice A1_1 l1_1.length c1_1] 60 (0, 0))) ∧ (w'.heap[gb496]? = some (.cells #[.bool false, .slice none 0 0] 60 (0, 0))) ∧ (w'.heap[s_.2.2]? = some (.cells #[.bool false, .slice none 0 0] 60 (0, 0))) ∧ (w.heap.size ≤ s_.2.2) ∧ (w.heap.size ≤ s_.2.2) ∧ (gb494 ≠ s_.2.2) ∧ (s_.2.2 ≠ gb494) ∧ (gb495 ≠ s_.2.2) ∧ (s_.2.2 ≠ gb495) ∧ (gb496 ≠ s_.2.2) ∧ (s_.2.2 ≠ gb496) ∧ (Below w.heap.size w w')) ?_ ?_
  rotate_left
  ·
   intro hJ2_5_6
   refine join_ (σ := Value × Value × Nat) 3 #[true, true, true, true, true, true, false, true, false, false] (fun s_ => [(11, .agg #[.bool t497, s_.1]), (14, .agg #[.bool t501, s_.2.1]), (6, .pointer (some ⟨s_.2.2, 0, none⟩))]) (fun s_ w' => (w'.cell? ⟨gb494, 0, none⟩ = some (.bool a0_0) ∧ w'.cell? ⟨gb494, 1, none⟩ = some (.slice A0_1 l0_1.length c0_1) ∧ w'.cell? ⟨gb495, 0, none⟩ = some (.bool a1_0) ∧ w'.cell? ⟨gb495, 1, none⟩ = some (.slice A1_1 l1_1.length c1_1)) ∧ (Kd.R (Kd.int .u32) 119 w' w.heap.size (fun k_ => some k_ ≠ (s_.2.1 : Value).ownBlock) s_.1 t498) ∧ (Kd.R (Kd.int .u32) 119 w' w.heap.size (fun k_ => some k_ ≠ (s_.1 : Value).ownBlock) s_.2.1 t502) ∧ (w'.heap[gb494]? = some (.cells #[.bool a0_0, .slice A0_1 l0_1.length c0_1] 60 (0, 0))) ∧ (w'.heap[gb495]? = some (.cells #[.bool a1_0, .slice A1_1 l1_1.length c1_1] 60 (0, 0))) ∧ (w'.heap[gb496]? = some (.cells #[.bool false, .slice none 0 0] 60 (0, 0))) ∧ (w'.heap[s_.2.2]? = some (.cells #[.bool false, .slice none 0 0] 60 (0, 0))) ∧ (w.heap.size ≤ s_.2.2) ∧ (w.heap.size ≤ s_.2.2) ∧ (gb494 ≠ s_.2.2) ∧ (s_.2.2 ≠ gb494) ∧ (gb495 ≠ s_.2.2) ∧ (s_.2.2 ≠ gb495) ∧ (gb496 ≠ s_.2.2) ∧ (s_.2.2 ≠ gb496) ∧ (Below w.heap.size w w')) ?_ ?_
   rotate_left
   ·
    intro hJ2_5_7
    refine join_ (σ := Value × Nat × Nat) 3 #[true, true, true, true, true, false, true, true, false, false] (fun s_ => [(11, .agg #[.bool t497, s_.1]), (5, .pointer (some ⟨s_.2.1, 0, none⟩)), (6, .pointer (some ⟨s_.2.2, 0, none⟩))]) (fun s_ w' => (w'.cell? ⟨gb494, 0, none⟩ = some (.bool a0_0) ∧ w'.cell? ⟨gb494, 1, none⟩ = some (.slice A0_1 l0_1.length c0_1) ∧ w'.cell? ⟨gb495, 0, none⟩ = some (.bool a1_0) ∧ w'.cell? ⟨gb495, 1, none⟩ = some (.slice A1_1 l1_1.length c1_1)) ∧ (Kd.R (Kd.int .u32) 119 w' w.heap.size (fun _ => True) s_.1 t498) ∧ (w'.heap[gb494]? = some (.cells #[.bool a0_0, .slice A0_1 l0_1.length c0_1] 60 (0, 0))) ∧ (w'.heap[gb495]? = some (.cells #[.bool a1_0, .slice A1_1 l1_1.length c1_1] 60 (0, 0))) ∧ (w'.heap[gb496]? = some (.cells #[.bool false, .slice none 0 0] 60 (0, 0))) ∧ (w'.heap[s_.2.1]? = some (.cells #[.bool false, .slice none 0 0] 60 (0, 0))) ∧ (w'.heap[s_.2.2]? = some (.cells #[.bool false, .slice none 0 0] 60 (0, 0))) ∧ (w.heap.size ≤ s_.2.1) ∧ (w.heap.size ≤ s_.2.1) ∧ (gb494 ≠ s_.2.1) ∧ (s_.2.1 ≠ gb494) ∧ (gb495 ≠ s_.2.1) ∧ (s_.2.1 ≠ gb495) ∧ (gb496 ≠ s_.2.1) ∧ (s_.2.1 ≠ gb496) ∧ (s_.2.2 ≠ s_.2.1) ∧ (s_.2.1 ≠ s_.2.2) ∧ (w.heap.size ≤ s_.2.2) ∧ (w.heap.size ≤ s_.2.2) ∧ (gb494 ≠ s_.2.2) ∧ (s_.2.2 ≠ gb494) ∧ (gb495 ≠ s_.2.2) ∧ (s_.2.2 ≠ gb495) ∧ (gb496 ≠ s_.2.2) ∧ (s_.2.2 ≠ gb496) ∧ (Below w.heap.size w w')) ?_ ?_
    rotate_left
    ·
     intro hJ2_6_7
     refine join_ (σ := Value × Value) 4 #[true, true, true, true, true, true, false, false, false, false] (fun s_ => [(11, .agg #[.bool t497, s_.1]), (14, .agg #[.bool t501, s_.2])]) (fun s_ w' => (w'.cell? ⟨gb494, 0, none⟩ = some (.bool a0_0) ∧ w'.cell? ⟨gb494, 1, none⟩ = some (.slice A0_1 l0_1.length c0_1) ∧ w'.cell? ⟨gb495, 0, none⟩ = some (.bool a1_0) ∧ w'.cell? ⟨gb495, 1, none⟩ = some (.slice A1_1 l1_1.length c1_1)) ∧ (Kd.R (Kd.int .u32) 119 w' w.heap.size (fun k_ => some k_ ≠ (s_.2 : Value).ownBlock) s_.1 t498) ∧ (Kd.R (Kd.int .u32) 119 w' w.heap.size (fun k_ => some k_ ≠ (s_.1 : Value).ownBlock) s_.2 t502) ∧ (w'.heap[gb494]? = some (.cells #[.bool a0_0, .slice A0_1 l0_1.length c0_1] 60 (0, 0))) ∧ (w'.heap[gb495]? = some (.cells #[.bool a1_0, .slice A1_1 l1_1.length c1_1] 60 (0, 0))) ∧ (w'.heap[gb496]? = some (.cells #[.bool false, .slice none 0 0] 60 (0, 0))) ∧ (Below w.heap.size w w')) ?_ ?_
     rotate_left
     ·
      intro hJ2_5
      refine join_ (σ := Value × Nat) 4 #[true, true, true, true, true, false, true, false, false, false] (fun s_ => [(11, .agg #[.bool t497, s_.1]), (5, .pointer (some ⟨s_.2, 0, none⟩))]) (fun s_ w' => (w'.cell? ⟨gb494, 0, none⟩ = some (.bool a0_0) ∧ w'.cell? ⟨gb494, 1, none⟩ = some (.slice A0_1 l0_1.length c0_1) ∧ w'.cell? ⟨gb495, 0, none⟩ = some (.bool a1_0) ∧ w'.cell? ⟨gb495, 1, none⟩ = some (.slice A1_1 l1_1.length c1_1)) ∧ (Kd.R (Kd.int .u32) 119 w' w.heap.size (fun _ => True) s_.1 t498) ∧ (w'.heap[gb494]? = some (.cells #[.bool a0_0, .slice A0_1 l0_1.length c0_1] 60 (0, 0))) ∧ (w'.heap[gb495]? = some (.cells #[.bool a1_0, .slice A1_1 l1_1.length c1_1] 60 (0, 0))) ∧ (w'.heap[gb496]? = some (.cells #[.bool false, .slice none 0 0] 60 (0, 0))) ∧ (w'.heap[s_.2]? = some (.cells #[.bool false, .slice none 0 0] 60 (0, 0))) ∧ (w.heap.size ≤ s_.2) ∧ (w.heap.size ≤ s_.2) ∧ (gb494 ≠ s_.2) ∧ (s_.2 ≠ gb494) ∧ (gb495 ≠ s_.2) ∧ (s_.2 ≠ gb495) ∧ (gb496 ≠ s_.2) ∧ (s_.2 ≠ gb496) ∧ (Below w.heap.size w w')) ?_ ?_
      rotate_left
      ·
       intro hJ2_6
       refine join_ (σ := Value × Nat) 4 #[true, true, true, true, true, false, false, true, false, false] (fun s_ => [(11, .agg #[.bool t497, s_.1]), (6, .pointer (some ⟨s_.2, 0, none⟩))]) (fun s_ w' => (w'.cell? ⟨gb494, 0, none⟩ = some (.bool a0_0) ∧ w'.cell? ⟨gb494, 1, none⟩ = some (.slice A0_1 l0_1.length c0_1) ∧ w'.cell? ⟨gb495, 0, none⟩ = some (.bool a1_0) ∧ w'.cell? ⟨gb495, 1, none⟩ = some (.slice A1_1 l1_1.length c1_1)) ∧ (Kd.R (Kd.int .u32) 119 w' w.heap.size (fun _ => True) s_.1 t498) ∧ (w'.heap[gb494]? = some (.cells #[.bool a0_0, .slice A0_1 l0_1.length c0_1] 60 (0, 0))) ∧ (w'.heap[gb495]? = some (.cells #[.bool a1_0, .slice A1_1 l1_1.length c1_1] 60 (0, 0))) ∧ (w'.heap[gb496]? = some (.cells #[.bool false, .slice none 0 0] 60 (0, 0))) ∧ (w'.heap[s_.2]? = some (.cells #[.bool false, .slice none 0 0] 60 (0, 0))) ∧ (w.heap.size ≤ s_.2) ∧ (w.heap.size ≤ s_.2) ∧ (gb494 ≠ s_.2) ∧ (s_.2 ≠ gb494) ∧ (gb495 ≠ s_.2) ∧ (s_.2 ≠ gb495) ∧ (gb496 ≠ s_.2) ∧ (s_.2 ≠ gb496) ∧ (Below w.heap.size w w')) ?_ ?_
       rotate_left
       ·
        intro hJ2_7
        refine join_ (σ := Nat × Nat) 4 #[true, true, false, true, true, false, true, true, false, false] (fun s_ => [(5, .pointer (some ⟨s_.1, 0, none⟩)), (6, .pointer (some ⟨s_.2, 0, none⟩))]) (fun s_ w' => (w'.cell? ⟨gb494, 0, none⟩ = some (.bool a0_0) ∧ w'.cell? ⟨gb494, 1, none⟩ = some (.slice A0_1 l0_1.length c0_1) ∧ w'.cell? ⟨gb495, 0, none⟩ = some (.bool a1_0) ∧ w'.cell? ⟨gb495, 1, none⟩ = some (.slice A1_1 l1_1.length c1_1)) ∧ (w'.heap[gb494]? = some (.cells #[.bool a0_0, .slice A0_1 l0_1.length c0_1] 60 (0, 0))) ∧ (w'.heap[gb495]? = some (.cells #[.bool a1_0, .slice A1_1 l1_1.length c1_1] 60 (0, 0))) ∧ (w'.heap[gb496]? = some (.cells #[.bool false, .slice none 0 0] 60 (0, 0))) ∧ (w'.heap[s_.1]? = some (.cells #[.bool false, .slice none 0 0] 60 (0, 0))) ∧ (w'.heap[s_.2]? = some (.cells #[.bool false, .slice none 0 0] 60 (0, 0))) ∧ (w.heap.size ≤ s_.1) ∧ (w.heap.size ≤ s_.1) ∧ (gb494 ≠ s_.1) ∧ (s_.1 ≠ gb494) ∧ (gb495 ≠ s_.1) ∧ (s_.1 ≠ gb495) ∧ (gb496 ≠ s_.1) ∧ (s_.1 ≠ gb496) ∧ (s_.2 ≠ s_.1) ∧ (s_.1 ≠ s_.2) ∧ (w.heap.size ≤ s_.2) ∧ (w.heap.size ≤ s_.2) ∧ (gb494 ≠ s_.2) ∧ (s_.2 ≠ gb494) ∧ (gb495 ≠ s_.2) ∧ (s_.2 ≠ gb495) ∧ (gb496 ≠ s_.2) ∧ (s_.2 ≠ gb496) ∧ (Below w.heap.size w w')) ?_ ?_
        rotate_left
        ·
         intro hJ6_7
         refine join_ (σ := Value) 5 #[true, true, true, true, true, false, false, false, false, false] (fun s_ => [(11, .agg #[.bool t497, s_])]) (fun s_ w' => (w'.cell? ⟨gb494, 0, none⟩ = some (.bool a0_0) ∧ w'.cell? ⟨gb494, 1, none⟩ = some (.slice A0_1 l0_1.length c0_1) ∧ w'.cell? ⟨gb495, 0, none⟩ = some (.bool a1_0) ∧ w'.cell? ⟨gb495, 1, none⟩ = some (.slice A1_1 l1_1.length c1_1)) ∧ (Kd.R (Kd.int .u32) 119 w' w.heap.size (fun _ => True) s_ t498) ∧ (w'.heap[gb494]? = some (.cells #[.bool a0_0, .slice A0_1 l0_1.length c0_1] 60 (0, 0))) ∧ (w'.heap[gb495]? = some (.cells #[.bool a1_0, .slice A1_1 l1_1.length c1_1] 60 (0, 0))) ∧ (w'.heap[gb496]? = some (.cells #[.bool false, .slice none 0 0] 60 (0, 0))) ∧ (Below w.heap.size w w')) ?_ ?_
         rotate_left
         ·
          intro hJ2
          refine join_ (σ := Nat) 5 #[true, true, false, true, true, false, true, false, false, false] (fun s_ => [(5, .pointer (some ⟨s_, 0, none⟩))]) (fun s_ w' => (w'.cell? ⟨gb494, 0, none⟩ = some (.bool a0_0) ∧ w'.cell? ⟨gb494, 1, none⟩ = some (.slice A0_1 l0_1.length c0_1) ∧ w'.cell? ⟨gb495, 0, none⟩ = some (.bool a1_0) ∧ w'.cell? ⟨gb495, 1, none⟩ = some (.slice A1_1 l1_1.length c1_1)) ∧ (w'.heap[gb494]? = some (.cells #[.bool a0_0, .slice A0_1 l0_1.length c0_1] 60 (0, 0))) ∧ (w'.heap[gb495]? = some (.cells #[.bool a1_0, .slice A1_1 l1_1.length c1_1] 60 (0, 0))) ∧ (w'.heap[gb496]? = some (.cells #[.bool false, .slice none 0 0] 60 (0, 0))) ∧ (w'.heap[s_]? = some (.cells #[.bool false, .slice none 0 0] 60 (0, 0))) ∧ (w.heap.size ≤ s_) ∧ (w.heap.size ≤ s_) ∧ (gb494 ≠ s_) ∧ (s_ ≠ gb494) ∧ (gb495 ≠ s_) ∧ (s_ ≠ gb495) ∧ (gb496 ≠ s_) ∧ (s_ ≠ gb496) ∧ (Below w.heap.size w w')) ?_ ?_
          rotate_left
          ·
           intro hJ6
           refine join_ (σ := Nat) 5 #[true, true, false, true, true, false, false, true, false, false] (fun s_ => [(6, .pointer (some ⟨s_, 0, none⟩))]) (fun s_ w' => (w'.cell? ⟨gb494, 0, none⟩ = some (.bool a0_0) ∧ w'.cell? ⟨gb494, 1, none⟩ = some (.slice A0_1 l0_1.length c0_1) ∧ w'.cell? ⟨gb495, 0, none⟩ = some (.bool a1_0) ∧ w'.cell? ⟨gb495, 1, none⟩ = some (.slice A1_1 l1_1.length c1_1)) ∧ (w'.heap[gb494]? = some (.cells #[.bool a0_0, .slice A0_1 l0_1.length c0_1] 60 (0, 0))) ∧ (w'.heap[gb495]? = some (.cells #[.bool a1_0, .slice A1_1 l1_1.length c1_1] 60 (0, 0))) ∧ (w'.heap[gb496]? = some (.cells #[.bool false, .slice none 0 0] 60 (0, 0))) ∧ (w'.heap[s_]? = some (.cells #[.bool false, .slice none 0 0] 60 (0, 0))) ∧ (w.heap.size ≤ s_) ∧ (w.heap.size ≤ s_) ∧ (gb494 ≠ s_) ∧ (s_ ≠ gb494) ∧ (gb495 ≠ s_) ∧ (s_ ≠ gb495) ∧ (gb496 ≠ s_) ∧ (s_ ≠ gb496) ∧ (Below w.heap.size w w')) ?_ ?_
           rotate_left
           ·
            intro hJ7
            refine three_ (i := 2) (j := 6) (k := 7) (Ni := some 11) (Nj := some 5) (Nk := some 6) #[true, true, true, true, true, false, false, false, false, false] #[true, true, false, true, true, false, true, false, false, false] #[true, true, false, true, true, false, false, true, false, false] rfl rfl rfl rfl rfl rfl (three_of HT_.out (by kernel_rfl)) (by decide) (by decide) (by decide) (fun K hK => ?_) (fun K hK => ?_) (fun K hK => ?_)
            ·
             skip
             refine ge Try.func101 #[.bool false, .slice A0_1 l0_1.length c0_1] ?_
             with_reducible refine (spec_l02Make.calls k false _ _ l0_1 t497 t498 _ ?side1 ?side2 A3.out).mono ?_
             (case side1 => repeat (first | exact (Kd.C_below HR0_1.out HB.out) | (with_reducible refine Kd.C_alloc ?_ _) | (with_reducible refine Kd.C_drewN ?_ _) | (with_reducible refine Kd.C_drew ?_)))
             (case side2 => exact HC0_1.out)
             rintro e w9 ⟨v499, rfl, ho0, hb⟩
             refine ⟨_, rfl, ?_⟩
             have HO500 := loB ho0 HB; replace BK494 := kB BK494 hb; replace BK495 := kB BK495 hb; replace BK496 := kB BK496 hb; replace HB := sB HB hb
             clear hb ho0
             refine hK.out _ _ (hh4 BK494 BK495) (fun hHeld => ?_)
             clear hK K
             refine nm (some 11) ?_
             exact norm_ pa (hJ2 (v499) _ ⟨hHeld, (fR HO500), (fb BK494), (fb BK495), (fb BK496), (fB HB)⟩)
            ·
             skip
             refine bst 5 #[.bool false, .slice none 0 0] 60 ?_
             intro gb505 hg w9 hbox hb
             have BK505 := am (hbox); have GW505 := zB HB hg; have GE505 := zB HB hg; replace HB := sB HB hb; obtain ⟨NB494_505, NB505_494⟩ := nB BK494 hg; replace BK494 := kB BK494 hb; obtain ⟨NB495_505, NB505_495⟩ := nB BK495 hg; replace BK495 := kB BK495 hb; obtain ⟨NB496_505, NB505_496⟩ := nB BK496 hg; replace BK496 := kB BK496 hb
             clear hb hbox hg
             refine hK.out _ _ (hh4 BK494 BK495) (fun hHeld => ?_)
             clear hK K
             refine nm (some 5) ?_
             exact norm_ pa (hJ6 (gb505) _ ⟨hHeld, (fb BK494), (fb BK495), (fb BK496), (fb BK505), GW505.out, GE505.out, NB494_505.out, NB505_494.out, NB495_505.out, NB505_495.out, NB496_505.out, NB505_496.out, (fB HB)⟩)
            ·
             skip
             refine bst 6 #[.bool false, .slice none 0 0] 60 ?_
             intro gb506 hg w9 hbox hb
             have BK506 := am (hbox); have GW506 := zB HB hg; have GE506 := zB HB hg; replace HB := sB HB hb; obtain ⟨NB494_506, NB506_494⟩ := nB BK494 hg; replace BK494 := kB BK494 hb; obtain ⟨NB495_506, NB506_495⟩ := nB BK495 hg; replace BK495 := kB BK495 hb; obtain ⟨NB496_506, NB506_496⟩ := nB BK496 hg; replace BK496 := kB BK496 hb
             clear hb hbox hg
             refine hK.out _ _ (hh4 BK494 BK495) (fun hHeld => ?_)
             clear hK K
             refine nm (some 6) ?_
             exact norm_ pa (hJ7 (gb506) _ ⟨hHeld, (fb BK494), (fb BK495), (fb BK496), (fb BK506), GW506.out, GE506.out, NB494_506.out, NB506_494.out, NB495_506.out, NB506_495.out, NB496_506.out, NB506_496.out, (fB HB)⟩)
           ·
            skip
            clear BK494 BK495 BK496 HB; rintro gb506 w10 ⟨hHeld, BK494, BK495, BK496, BK506, GW506, GE506, NB494_506, NB506_494, NB495_506, NB506_495, NB496_506, NB506_496, HB⟩; replace BK494 := am BK494; replace BK495 := am BK495; replace BK496 := am BK496; replace BK506 := am BK506; replace GW506 := am GW506; replace GE506 := am GE506; replace NB494_506 := am NB494_506; replace NB506_494 := am NB506_494; replace NB495_506 := am NB495_506; replace NB506_495 := am NB506_495; replace NB496_506 := am NB496_506; replace NB506_496 := am NB506_496; replace HB := am HB
            refine nq _ ?_
            refine two_ (i := 2) (j := 6) (Ni := some 11) (Nj := some 5) #[true, true, true, true, true, false, false, true, false, false] #[true, true, false, true, true, false, true, true, false, false] rfl rfl rfl rfl (two_of HT_.out (by kernel_rfl)) (by decide) (by decide) (fun K hK => ?_) (fun K hK => ?_)
            ·
             skip
             refine ge Try.func101 #[.bool false, .slice A0_1 l0_1.length c0_1] ?_
             with_reducible refine (spec_l02Make.calls k false _ _ l0_1 t497 t498 _ ?side1 ?side2 A3.out).mono ?_
             (case side1 => repeat (first | exact (Kd.C_below HR0_1.out HB.out) | (with_reducible refine Kd.C_alloc ?_ _) | (with_reducible refine Kd.C_drewN ?_ _) | (with_reducible refine Kd.C_drew ?_)))
             (case side2 => exact HC0_1.out)
             rintro e w11 ⟨v499, rfl, ho0, hb⟩
             refine ⟨_, rfl, ?_⟩
             have HO500 := loB ho0 HB; replace BK494 := kB BK494 hb; replace BK495 := kB BK495 hb; replace BK496 := kB BK496 hb; replace BK506 := kB BK506 hb; replace HB := sB HB hb
             clear hb ho0
             refine hK.out _ _ (hh4 BK494 BK495) (fun hHeld => ?_)
             clear hK K
             refine nm (some 11) ?_
             exact norm_ pa (hJ2_7 (v499, gb506) _ ⟨hHeld, (fR HO500), (fb BK494), (fb BK495), (fb BK496), (fb BK506), GW506.out, GE506.out, NB494_506.out, NB506_494.out, NB495_506.out, NB506_495.out, NB496_506.out, NB506_496.out, (fB HB)⟩)
            ·
             skip
             refine bst 5 #[.bool false, .slice none 0 0] 60 ?_
             intro gb505 hg w11 hbox hb
             have BK505 := am (hbox); have GW505 := zB HB hg; have GE505 := zB HB hg; replace HB := sB HB hb; obtain ⟨NB494_505, NB505_494⟩ := nB BK494 hg; replace BK494 := kB BK494 hb; obtain ⟨NB495_505, NB505_495⟩ := nB BK495 hg; replace BK495 := kB BK495 hb; obtain ⟨NB496_505, NB505_496⟩ := nB BK496 hg; replace BK496 := kB BK496 hb; obtain ⟨NB506_505, NB505_506⟩ := nB BK506 hg; replace BK506 := kB BK506 hb
             clear hb hbox hg
             refine hK.out _ _ (hh4 BK494 BK495) (fun hHeld => ?_)
             clear hK K
             refine nm (some 5) ?_
             exact norm_ pa (hJ6_7 (gb505, gb506) _ ⟨hHeld, (fb BK494), (fb BK495), (fb BK496), (fb BK505), (fb BK506), GW505.out, GE505.out, NB494_505.out, NB505_494.out, NB495_505.out, NB505_495.out, NB496_505.out, NB505_496.out, NB506_505.out, NB505_506.out, GW506.out, GE506.out, NB494_506.out, NB506_494.out, NB495_506.out, NB506_495.out, NB496_506.out, NB506_496.out, (fB HB)⟩)
          ·
           skip
           clear BK494 BK495 BK496 HB; rintro gb505 w10 ⟨hHeld, BK494, BK495, BK496, BK505, GW505, GE505, NB494_505, NB505_494, NB495_505, NB505_495, NB496_505, NB505_496, HB⟩; replace BK494 := am BK494; replace BK495 := am BK495; replace BK496 := am BK496; replace BK505 := am BK505; replace GW505 := am GW505; replace GE505 := am GE505; replace NB494_505 := am NB494_505; replace NB505_494 := am NB505_494; replace NB495_505 := am NB495_505; replace NB505_495 := am NB505_495; replace NB496_505 := am NB496_505; replace NB505_496 := am NB505_496; replace HB := am HB
           refine nq _ ?_
           refine two_ (i := 2) (j := 7) (Ni := some 11) (Nj := some 6) #[true, true, true, true, true, false, true, false, false, false] #[true, true, false, true, true, false, true, true, false, false] rfl rfl rfl rfl (two_of HT_.out (by kernel_rfl)) (by decide) (by decide) (fun K hK => ?_) (fun K hK => ?_)
           ·
            skip
            refine ge Try.func101 #[.bool false, .slice A0_1 l0_1.length c0_1] ?_
            with_reducible refine (spec_l02Make.calls k false _ _ l0_1 t497 t498 _ ?side1 ?side2 A3.out).mono ?_
            (case side1 => repeat (first | exact (Kd.C_below HR0_1.out HB.out) | (with_reducible refine Kd.C_alloc ?_ _) | (with_reducible refine Kd.C_drewN ?_ _) | (with_reducible refine Kd.C_drew ?_)))
            (case side2 => exact HC0_1.out)
            rintro e w11 ⟨v499, rfl, ho0, hb⟩
            refine ⟨_, rfl, ?_⟩
            have HO500 := loB ho0 HB; replace BK494 := kB BK494 hb; replace BK495 := kB BK495 hb; replace BK496 := kB BK496 hb; replace BK505 := kB BK505 hb; replace HB := sB HB hb
            clear hb ho0
            refine hK.out _ _ (hh4 BK494 BK495) (fun hHeld => ?_)
            clear hK K
            refine nm (some 11) ?_
            exact norm_ pa (hJ2_6 (v499, gb505) _ ⟨hHeld, (fR HO500), (fb BK494), (fb BK495), (fb BK496), (fb BK505), GW505.out, GE505.out, NB494_505.out, NB505_494.out, NB495_505.out, NB505_495.out, NB496_505.out, NB505_496.out, (fB HB)⟩)
           ·
            skip
            refine bst 6 #[.bool false, .slice none 0 0] 60 ?_
            intro gb506 hg w11 hbox hb
            have BK506 := am (hbox); have GW506 := zB HB hg; have GE506 := zB HB hg; replace HB := sB HB hb; obtain ⟨NB494_506, NB506_494⟩ := nB BK494 hg; replace BK494 := kB BK494 hb; obtain ⟨NB495_506, NB506_495⟩ := nB BK495 hg; replace BK495 := kB BK495 hb; obtain ⟨NB496_506, NB506_496⟩ := nB BK496 hg; replace BK496 := kB BK496 hb; obtain ⟨NB505_506, NB506_505⟩ := nB BK505 hg; replace BK505 := kB BK505 hb
            clear hb hbox hg
            refine hK.out _ _ (hh4 BK494 BK495) (fun hHeld => ?_)
            clear hK K
            refine nm (some 6) ?_
            exact norm_ pa (hJ6_7 (gb505, gb506) _ ⟨hHeld, (fb BK494), (fb BK495), (fb BK496), (fb BK505), (fb BK506), GW505.out, GE505.out, NB494_505.out, NB505_494.out, NB495_505.out, NB505_495.out, NB496_505.out, NB505_496.out, NB506_505.out, NB505_506.out, GW506.out, GE506.out, NB494_506.out, NB506_494.out, NB495_506.out, NB506_495.out, NB496_506.out, NB506_496.out, (fB HB)⟩)
         ·
          skip
          clear BK494 BK495 BK496 HB; rintro v499 w10 ⟨hHeld, HO500, BK494, BK495, BK496, HB⟩; replace HO500 := am HO500; replace BK494 := am BK494; replace BK495 := am BK495; replace BK496 := am BK496; replace HB := am HB
          refine nq _ ?_
          refine three_ (i := 5) (j := 6) (k := 7) (Ni := some 14) (Nj := some 5) (Nk := some 6) #[true, true, true, true, true, true, false, false, false, false] #[true, true, true, true, true, false, true, false, false, false] #[true, true, true, true, true, false, false, true, false, false] rfl rfl rfl rfl rfl rfl (three_of HT_.out (by kernel_rfl)) (by decide) (by decide) (by decide) (fun K hK => ?_) (fun K hK => ?_) (fun K hK => ?_)
          ·
           skip
           refine ge Try.func101 #[.bool false, .slice A1_1 l1_1.length c1_1] ?_
           with_reducible refine (spec_l02Make.calls k false _ _ l1_1 t501 t502 _ ?side1 ?side2 A4.out).mono ?_
           (case side1 => repeat (first | exact (Kd.C_below HR1_1.out HB.out) | (with_reducible refine Kd.C_alloc ?_ _) | (with_reducible refine Kd.C_drewN ?_ _) | (with_reducible refine Kd.C_drew ?_)))
           (case side2 => exact HC1_1.out)
           rintro e w11 ⟨v503, rfl, ho0, hb⟩
           refine ⟨_, rfl, ?_⟩
           have HO504 := am (Kd.R_lower (Kd.R_new' ho0 (Kd.R_lt (fR HO500))) (below_size (fB HB))); replace HO500 := eR HO500 ho0 hb; replace BK494 := kB BK494 hb; replace BK495 := kB BK495 hb; replace BK496 := kB BK496 hb; replace HB := sB HB hb
           clear hb ho0
           refine hK.out _ _ (hh4 BK494 BK495) (fun hHeld => ?_)
           clear hK K
           refine nm (some 14) ?_
           exact norm_ pa (hJ2_5 (v499, v503) _ ⟨hHeld, (mR HO500 (fun _ h => h.2)), (mR HO504 (fun _ h => h.2)), (fb BK494), (fb BK495), (fb BK496), (fB HB)⟩)
          ·
           skip
           refine bst 5 #[.bool false, .slice none 0 0] 60 ?_
           intro gb505 hg w11 hbox hb
           replace HO500 := RB HO500 hb; have BK505 := am (hbox); have GW505 := zB HB hg; have GE505 := zB HB hg; replace HB := sB HB hb; obtain ⟨NB494_505, NB505_494⟩ := nB BK494 hg; replace BK494 := kB BK494 hb; obtain ⟨NB495_505, NB505_495⟩ := nB BK495 hg; replace BK495 := kB BK495 hb; obtain ⟨NB496_505, NB505_496⟩ := nB BK496 hg; replace BK496 := kB BK496 hb
           clear hb hbox hg
           refine hK.out _ _ (hh4 BK494 BK495) (fun hHeld => ?_)
           clear hK K
           refine nm (some 5) ?_
           exact norm_ pa (hJ2_6 (v499, gb505) _ ⟨hHeld, (fR HO500), (fb BK494), (fb BK495), (fb BK496), (fb BK505), GW505.out, GE505.out, NB494_505.out, NB505_494.out, NB495_505.out, NB505_495.out, NB496_505.out, NB505_496.out, (fB HB)⟩)
          ·
           skip
           refine bst 6 #[.bool false, .slice none 0 0] 60 ?_
           intro gb506 hg w11 hbox hb
           replace HO500 := RB HO500 hb; have BK506 := am (hbox); have GW506 := zB HB hg; have GE506 := zB HB hg; replace HB := sB HB hb; obtain ⟨NB494_506, NB506_494⟩ := nB BK494 hg; replace BK494 := kB BK494 hb; obtain ⟨NB495_506, NB506_495⟩ := nB BK495 hg; replace BK495 := kB BK495 hb; obtain ⟨NB496_506, NB506_496⟩ := nB BK496 hg; replace BK496 := kB BK496 hb
           clear hb hbox hg
           refine hK.out _ _ (hh4 BK494 BK495) (fun hHeld => ?_)
           clear hK K
           refine nm (some 6) ?_
           exact norm_ pa (hJ2_7 (v499, gb506) _ ⟨hHeld, (fR HO500), (fb BK494), (fb BK495), (fb BK496), (fb BK506), GW506.out, GE506.out, NB494_506.out, NB506_494.out, NB495_506.out, NB506_495.out, NB496_506.out, NB506_496.out, (fB HB)⟩)
        ·
         skip
         clear BK494 BK495 BK496 HB; rintro ⟨gb505, gb506⟩ w11 ⟨hHeld, BK494, BK495, BK496, BK505, BK506, GW505, GE505, NB494_505, NB505_494, NB495_505, NB505_495, NB496_505, NB505_496, NB506_505, NB505_506, GW506, GE506, NB494_506, NB506_494, NB495_506, NB506_495, NB496_506, NB506_496, HB⟩; (try dsimp only at BK494 BK495 BK496 BK505 BK506 GW505 GE505 NB494_505 NB505_494 NB495_505 NB505_495 NB496_505 NB505_496 NB506_505 NB505_506 GW506 GE506 NB494_506 NB506_494 NB495_506 NB506_495 NB496_506 NB506_496 HB); replace BK494 := am BK494; replace BK495 := am BK495; replace BK496 := am BK496; replace BK505 := am BK505; replace BK506 := am BK506; replace GW505 := am GW505; replace GE505 := am GE505; replace NB494_505 := am NB494_505; replace NB505_494 := am NB505_494; replace NB495_505 := am NB495_505; replace NB505_495 := am NB505_495; replace NB496_505 := am NB496_505; replace NB505_496 := am NB505_496; replace NB506_505 := am NB506_505; replace NB505_506 := am NB505_506; replace GW506 := am GW506; replace GE506 := am GE506; replace NB494_506 := am NB494_506; replace NB506_494 := am NB506_494; replace NB495_506 := am NB495_506; replace NB506_495 := am NB506_495; replace NB496_506 := am NB496_506; replace NB506_496 := am NB506_496; replace HB := am HB
         refine nq _ ?_
         refine on 2 (some 11) #[true, true, true, true, true, false, true, true, false, false] HT_ (fun K hK => ?_)
         refine ge Try.func101 #[.bool false, .slice A0_1 l0_1.length c0_1] ?_
         with_reducible refine (spec_l02Make.calls k false _ _ l0_1 t497 t498 _ ?side1 ?side2 A3.out).mono ?_
         (case side1 => repeat (first | exact (Kd.C_below HR0_1.out HB.out) | (with_reducible refine Kd.C_alloc ?_ _) | (with_reducible refine Kd.C_drewN ?_ _) | (with_reducible refine Kd.C_drew ?_)))
         (case side2 => exact HC0_1.out)
         rintro e w12 ⟨v499, rfl, ho0, hb⟩
         refine ⟨_, rfl, ?_⟩
         have HO500 := loB ho0 HB; replace BK494 := kB BK494 hb; replace BK495 := kB BK495 hb; replace BK496 := kB BK496 hb; replace BK505 := kB BK505 hb; replace BK506 := kB BK506 hb; replace HB := sB HB hb
         clear hb ho0
         refine hK.out _ _ (hh4 BK494 BK495) (fun hHeld => ?_)
         clear hK K
         refine nm (some 11) ?_
         exact norm_ pa (hJ2_6_7 (v499, gb505, gb506) _ ⟨hHeld, (fR HO500), (fb BK494), (fb BK495), (fb BK496), (fb BK505), (fb BK506), GW505.out, GE505.out, NB494_505.out, NB505_494.out, NB495_505.out, NB505_495.out, NB496_505.out, NB505_496.out, NB506_505.out, NB505_506.out, GW506.out, GE506.out, NB494_506.out, NB506_494.out, NB495_506.out, NB506_495.out, NB496_506.out, NB506_496.out, (fB HB)⟩)
       ·
        skip
        clear BK494 BK495 BK496 HB; rintro ⟨v499, gb506⟩ w11 ⟨hHeld, HO500, BK494, BK495, BK496, BK506, GW506, GE506, NB494_506, NB506_494, NB495_506, NB506_495, NB496_506, NB506_496, HB⟩; (try dsimp only at HO500 BK494 BK495 BK496 BK506 GW506 GE506 NB494_506 NB506_494 NB495_506 NB506_495 NB496_506 NB506_496 HB); replace HO500 := am HO500; replace BK494 := am BK494; replace BK495 := am BK495; replace BK496 := am BK496; replace BK506 := am BK506; replace GW506 := am GW506; replace GE506 := am GE506; replace NB494_506 := am NB494_506; replace NB506_494 := am NB506_494; replace NB495_506 := am NB495_506; replace NB506_495 := am NB506_495; replace NB496_506 := am NB496_506; replace NB506_496 := am NB506_496; replace HB := am HB
        refine nq _ ?_
        refine two_ (i := 5) (j := 6) (Ni := some 14) (Nj := some 5) #[true, true, true, true, true, true, false, true, false, false] #[true, true, true, true, true, false, true, true, false, false] rfl rfl rfl rfl (two_of HT_.out (by kernel_rfl)) (by decide) (by decide) (fun K hK => ?_) (fun K hK => ?_)
        ·
         skip
         refine ge Try.func101 #[.bool false, .slice A1_1 l1_1.length c1_1] ?_
         with_reducible refine (spec_l02Make.calls k false _ _ l1_1 t501 t502 _ ?side1 ?side2 A4.out).mono ?_
         (case side1 => repeat (first | exact (Kd.C_below HR1_1.out HB.out) | (with_reducible refine Kd.C_alloc ?_ _) | (with_reducible refine Kd.C_drewN ?_ _) | (with_reducible refine Kd.C_drew ?_)))
         (case side2 => exact HC1_1.out)
         rintro e w12 ⟨v503, rfl, ho0, hb⟩
         refine ⟨_, rfl, ?_⟩
         have HO504 := am (Kd.R_lower (Kd.R_new' ho0 (Kd.R_lt (fR HO500))) (below_size (fB HB))); replace HO500 := eR HO500 ho0 hb; replace BK494 := kB BK494 hb; replace BK495 := kB BK495 hb; replace BK496 := kB BK496 hb; replace BK506 := kB BK506 hb; replace HB := sB HB hb
         clear hb ho0
         refine hK.out _ _ (hh4 BK494 BK495) (fun hHeld => ?_)
         clear hK K
         refine nm (some 14) ?_
         exact norm_ pa (hJ2_5_7 (v499, v503, gb506) _ ⟨hHeld, (mR HO500 (fun _ h => h.2)), (mR HO504 (fun _ h => h.2)), (fb BK494), (fb BK495), (fb BK496), (fb BK506), GW506.out, GE506.out, NB494_506.out, NB506_494.out, NB495_506.out, NB506_495.out, NB496_506.out, NB506_496.out, (fB HB)⟩)
        ·
         skip
         refine bst 5 #[.bool false, .slice none 0 0] 60 ?_
         intro gb505 hg w12 hbox hb
         replace HO500 := RB HO500 hb; have BK505 := am (hbox); have GW505 := zB HB hg; have GE505 := zB HB hg; replace HB := sB HB hb; obtain ⟨NB494_505, NB505_494⟩ := nB BK494 hg; replace BK494 := kB BK494 hb; obtain ⟨NB495_505, NB505_495⟩ := nB BK495 hg; replace BK495 := kB BK495 hb; obtain ⟨NB496_505, NB505_496⟩ := nB BK496 hg; replace BK496 := kB BK496 hb; obtain ⟨NB506_505, NB505_506⟩ := nB BK506 hg; replace BK506 := kB BK506 hb
         clear hb hbox hg
         refine hK.out _ _ (hh4 BK494 BK495) (fun hHeld => ?_)
         clear hK K
         refine nm (some 5) ?_
         exact norm_ pa (hJ2_6_7 (v499, gb505, gb506) _ ⟨hHeld, (fR HO500), (fb BK494), (fb BK495), (fb BK496), (fb BK505), (fb BK506), GW505.out, GE505.out, NB494_505.out, NB505_494.out, NB495_505.out, NB505_495.out, NB496_505.out, NB505_496.out, NB506_505.out, NB505_506.out, GW506.out, GE506.out, NB494_506.out, NB506_494.out, NB495_506.out, NB506_495.out, NB496_506.out, NB506_496.out, (fB HB)⟩)
      ·
       skip
       clear BK494 BK495 BK496 HB; rintro ⟨v499, gb505⟩ w11 ⟨hHeld, HO500, BK494, BK495, BK496, BK505, GW505, GE505, NB494_505, NB505_494, NB495_505, NB505_495, NB496_505, NB505_496, HB⟩; (try dsimp only at HO500 BK494 BK495 BK496 BK505 GW505 GE505 NB494_505 NB505_494 NB495_505 NB505_495 NB496_505 NB505_496 HB); replace HO500 := am HO500; replace BK494 := am BK494; replace BK495 := am BK495; replace BK496 := am BK496; replace BK505 := am BK505; replace GW505 := am GW505; replace GE505 := am GE505; replace NB494_505 := am NB494_505; replace NB505_494 := am NB505_494; replace NB495_505 := am NB495_505; replace NB505_495 := am NB505_495; replace NB496_505 := am NB496_505; replace NB505_496 := am NB505_496; replace HB := am HB
       refine nq _ ?_
       refine two_ (i := 5) (j := 7) (Ni := some 14) (Nj := some 6) #[true, true, true, true, true, true, true, false, false, false] #[true, true, true, true, true, false, true, true, false, false] rfl rfl rfl rfl (two_of HT_.out (by kernel_rfl)) (by decide) (by decide) (fun K hK => ?_) (fun K hK => ?_)
       ·
        skip
        refine ge Try.func101 #[.bool false, .slice A1_1 l1_1.length c1_1] ?_
        with_reducible refine (spec_l02Make.calls k false _ _ l1_1 t501 t502 _ ?side1 ?side2 A4.out).mono ?_
        (case side1 => repeat (first | exact (Kd.C_below HR1_1.out HB.out) | (with_reducible refine Kd.C_alloc ?_ _) | (with_reducible refine Kd.C_drewN ?_ _) | (with_reducible refine Kd.C_drew ?_)))
        (case side2 => exact HC1_1.out)
        rintro e w12 ⟨v503, rfl, ho0, hb⟩
        refine ⟨_, rfl, ?_⟩
        have HO504 := am (Kd.R_lower (Kd.R_new' ho0 (Kd.R_lt (fR HO500))) (below_size (fB HB))); replace HO500 := eR HO500 ho0 hb; replace BK494 := kB BK494 hb; replace BK495 := kB BK495 hb; replace BK496 := kB BK496 hb; replace BK505 := kB BK505 hb; replace HB := sB HB hb
        clear hb ho0
        refine hK.out _ _ (hh4 BK494 BK495) (fun hHeld => ?_)
        clear hK K
        refine nm (some 14) ?_
        exact norm_ pa (hJ2_5_6 (v499, v503, gb505) _ ⟨hHeld, (mR HO500 (fun _ h => h.2)), (mR HO504 (fun _ h => h.2)), (fb BK494), (fb BK495), (fb BK496), (fb BK505), GW505.out, GE505.out, NB494_505.out, NB505_494.out, NB495_505.out, NB505_495.out, NB496_505.out, NB505_496.out, (fB HB)⟩)
       ·
        skip
        refine bst 6 #[.bool false, .slice none 0 0] 60 ?_
        intro gb506 hg w12 hbox hb
        replace HO500 := RB HO500 hb; have BK506 := am (hbox); have GW506 := zB HB hg; have GE506 := zB HB hg; replace HB := sB HB hb; obtain ⟨NB494_506, NB506_494⟩ := nB BK494 hg; replace BK494 := kB BK494 hb; obtain ⟨NB495_506, NB506_495⟩ := nB BK495 hg; replace BK495 := kB BK495 hb; obtain ⟨NB496_506, NB506_496⟩ := nB BK496 hg; replace BK496 := kB BK496 hb; obtain ⟨NB505_506, NB506_505⟩ := nB BK505 hg; replace BK505 := kB BK505 hb
        clear hb hbox hg
        refine hK.out _ _ (hh4 BK494 BK495) (fun hHeld => ?_)
        clear hK K
        refine nm (some 6) ?_
        exact norm_ pa (hJ2_6_7 (v499, gb505, gb506) _ ⟨hHeld, (fR HO500), (fb BK494), (fb BK495), (fb BK496), (fb BK505), (fb BK506), GW505.out, GE505.out, NB494_505.out, NB505_494.out, NB495_505.out, NB505_495.out, NB496_505.out, NB505_496.out, NB506_505.out, NB505_506.out, GW506.out, GE506.out, NB494_506.out, NB506_494.out, NB495_506.out, NB506_495.out, NB496_506.out, NB506_496.out, (fB HB)⟩)
     ·
      skip
      clear BK494 BK495 BK496 HB; rintro ⟨v499, v503⟩ w11 ⟨hHeld, HO500, HO504, BK494, BK495, BK496, HB⟩; (try dsimp only at HO500 HO504 BK494 BK495 BK496 HB); replace HO500 := am HO500; replace HO504 := am HO504; replace BK494 := am BK494; replace BK495 := am BK495; replace BK496 := am BK496; replace HB := am HB
      refine nq _ ?_
      refine two_ (i := 6) (j := 7) (Ni := some 5) (Nj := some 6) #[true, true, true, true, true, true, true, false, false, false] #[true, true, true, true, true, true, false, true, false, false] rfl rfl rfl rfl (two_of HT_.out (by kernel_rfl)) (by decide) (by decide) (fun K hK => ?_) (fun K hK => ?_)
      ·
       skip
       refine bst 5 #[.bool false, .slice none 0 0] 60 ?_
       intro gb505 hg w12 hbox hb
       replace HO500 := RB HO500 hb; replace HO504 := RB HO504 hb; have BK505 := am (hbox); have GW505 := zB HB hg; have GE505 := zB HB hg; replace HB := sB HB hb; obtain ⟨NB494_505, NB505_494⟩ := nB BK494 hg; replace BK494 := kB BK494 hb; obtain ⟨NB495_505, NB505_495⟩ := nB BK495 hg; replace BK495 := kB BK495 hb; obtain ⟨NB496_505, NB505_496⟩ := nB BK496 hg; replace BK496 := kB BK496 hb
       clear hb hbox hg
       refine hK.out _ _ (hh4 BK494 BK495) (fun hHeld => ?_)
       clear hK K
       refine nm (some 5) ?_
       exact norm_ pa (hJ2_5_6 (v499, v503, gb505) _ ⟨hHeld, (fR HO500), (fR HO504), (fb BK494), (fb BK495), (fb BK496), (fb BK505), GW505.out, GE505.out, NB494_505.out, NB505_494.out, NB495_505.out, NB505_495.out, NB496_505.out, NB505_496.out, (fB HB)⟩)
      ·
       skip
       refine bst 6 #[.bool false, .slice none 0 0] 60 ?_
       intro gb506 hg w12 hbox hb
       replace HO500 := RB HO500 hb; replace HO504 := RB HO504 hb; have BK506 := am (hbox); have GW506 := zB HB hg; have GE506 := zB HB hg; replace HB := sB HB hb; obtain ⟨NB494_506, NB506_494⟩ := nB BK494 hg; replace BK494 := kB BK494 hb; obtain ⟨NB495_506, NB506_495⟩ := nB BK495 hg; replace BK495 := kB BK495 hb; obtain ⟨NB496_506, NB506_496⟩ := nB BK496 hg; replace BK496 := kB BK496 hb
       clear hb hbox hg
       refine hK.out _ _ (hh4 BK494 BK495) (fun hHeld => ?_)
       clear hK K
       refine nm (some 6) ?_
       exact norm_ pa (hJ2_5_7 (v499, v503, gb506) _ ⟨hHeld, (fR HO500), (fR HO504), (fb BK494), (fb BK495), (fb BK496), (fb BK506), GW506.out, GE506.out, NB494_506.out, NB506_494.out, NB495_506.out, NB506_495.out, NB496_506.out, NB506_496.out, (fB HB)⟩)
    ·
     skip
     clear BK494 BK495 BK496 HB; rintro ⟨v499, gb505, gb506⟩ w12 ⟨hHeld, HO500, BK494, BK495, BK496, BK505, BK506, GW505, GE505, NB494_505, NB505_494, NB495_505, NB505_495, NB496_505, NB505_496, NB506_505, NB505_506, GW506, GE506, NB494_506, NB506_494, NB495_506, NB506_495, NB496_506, NB506_496, HB⟩; (try dsimp only at HO500 BK494 BK495 BK496 BK505 BK506 GW505 GE505 NB494_505 NB505_494 NB495_505 NB505_495 NB496_505 NB505_496 NB506_505 NB505_506 GW506 GE506 NB494_506 NB506_494 NB495_506 NB506_495 NB496_506 NB506_496 HB); replace HO500 := am HO500; replace BK494 := am BK494; replace BK495 := am BK495; replace BK496 := am BK496; replace BK505 := am BK505; replace BK506 := am BK506; replace GW505 := am GW505; replace GE505 := am GE505; replace NB494_505 := am NB494_505; replace NB505_494 := am NB505_494; replace NB495_505 := am NB495_505; replace NB505_495 := am NB505_495; replace NB496_505 := am NB496_505; replace NB505_496 := am NB505_496; replace NB506_505 := am NB506_505; replace NB505_506 := am NB505_506; replace GW506 := am GW506; replace GE506 := am GE506; replace NB494_506 := am NB494_506; replace NB506_494 := am NB506_494; replace NB495_506 := am NB495_506; replace NB506_495 := am NB506_495; replace NB496_506 := am NB496_506; replace NB506_496 := am NB506_496; replace HB := am HB
     refine nq _ ?_
     refine on 5 (some 14) #[true, true, true, true, true, true, true, true, false, false] HT_ (fun K hK => ?_)
     refine ge Try.func101 #[.bool false, .slice A1_1 l1_1.length c1_1] ?_
     with_reducible refine (spec_l02Make.calls k false _ _ l1_1 t501 t502 _ ?side1 ?side2 A4.out).mono ?_
     (case side1 => repeat (first | exact (Kd.C_below HR1_1.out HB.out) | (with_reducible refine Kd.C_alloc ?_ _) | (with_reducible refine Kd.C_drewN ?_ _) | (with_reducible refine Kd.C_drew ?_)))
     (case side2 => exact HC1_1.out)
     rintro e w13 ⟨v503, rfl, ho0, hb⟩
     refine ⟨_, rfl, ?_⟩
     have HO504 := am (Kd.R_lower (Kd.R_new' ho0 (Kd.R_lt (fR HO500))) (below_size (fB HB))); replace HO500 := eR HO500 ho0 hb; replace BK494 := kB BK494 hb; replace BK495 := kB BK495 hb; replace BK496 := kB BK496 hb; replace BK505 := kB BK505 hb; replace BK506 := kB BK506 hb; replace HB := sB HB hb
     clear hb ho0
     refine hK.out _ _ (hh4 BK494 BK495) (fun hHeld => ?_)
     clear hK K
     refine nm (some 14) ?_
     exact norm_ pa (hJ2_5_6_7 (v499, v503, gb505, gb506) _ ⟨hHeld, (mR HO500 (fun _ h => h.2)), (mR HO504 (fun _ h => h.2)), (fb BK494), (fb BK495), (fb BK496), (fb BK505), (fb BK506), GW505.out, GE505.out, NB494_505.out, NB505_494.out, NB495_505.out, NB505_495.out, NB496_505.out, NB505_496.out, NB506_505.out, NB505_506.out, GW506.out, GE506.out, NB494_506.out, NB506_494.out, NB495_506.out, NB506_495.out, NB496_506.out, NB506_496.out, (fB HB)⟩)
   ·
    skip
    clear BK494 BK495 BK496 HB; rintro ⟨v499, v503, gb506⟩ w12 ⟨hHeld, HO500, HO504, BK494, BK495, BK496, BK506, GW506, GE506, NB494_506, NB506_494, NB495_506, NB506_495, NB496_506, NB506_496, HB⟩; (try dsimp only at HO500 HO504 BK494 BK495 BK496 BK506 GW506 GE506 NB494_506 NB506_494 NB495_506 NB506_495 NB496_506 NB506_496 HB); replace HO500 := am HO500; replace HO504 := am HO504; replace BK494 := am BK494; replace BK495 := am BK495; replace BK496 := am BK496; replace BK506 := am BK506; replace GW506 := am GW506; replace GE506 := am GE506; replace NB494_506 := am NB494_506; replace NB506_494 := am NB506_494; replace NB495_506 := am NB495_506; replace NB506_495 := am NB506_495; replace NB496_506 := am NB496_506; replace NB506_496 := am NB506_496; replace HB := am HB
    refine nq _ ?_
    refine on 6 (some 5) #[true, true, true, true, true, true, true, true, false, false] HT_ (fun K hK => ?_)
    refine bst 5 #[.bool false, .slice none 0 0] 60 ?_
    intro gb505 hg w13 hbox hb
    replace HO500 := RB HO500 hb; replace HO504 := RB HO504 hb; have BK505 := am (hbox); have GW505 := zB HB hg; have GE505 := zB HB hg; replace HB := sB HB hb; obtain ⟨NB494_505, NB505_494⟩ := nB BK494 hg; replace BK494 := kB BK494 hb; obtain ⟨NB495_505, NB505_495⟩ := nB BK495 hg; replace BK495 := kB BK495 hb; obtain ⟨NB496_505, NB505_496⟩ := nB BK496 hg; replace BK496 := kB BK496 hb; obtain ⟨NB506_505, NB505_506⟩ := nB BK506 hg; replace BK506 := kB BK506 hb
    clear hb hbox hg
    refine hK.out _ _ (hh4 BK494 BK495) (fun hHeld => ?_)
    clear hK K
    refine nm (some 5) ?_
    exact norm_ pa (hJ2_5_6_7 (v499, v503, gb505, gb506) _ ⟨hHeld, (fR HO500), (fR HO504), (fb BK494), (fb BK495), (fb BK496), (fb BK505), (fb BK506), GW505.out, GE505.out, NB494_505.out, NB505_494.out, NB495_505.out, NB505_495.out, NB496_505.out, NB505_496.out, NB506_505.out, NB505_506.out, GW506.out, GE506.out, NB494_506.out, NB506_494.out, NB495_506.out, NB506_495.out, NB496_506.out, NB506_496.out, (fB HB)⟩)
  ·
   skip
   clear BK494 BK495 BK496 HB; rintro ⟨v499, v503, gb505⟩ w12 ⟨hHeld, HO500, HO504, BK494, BK495, BK496, BK505, GW505, GE505, NB494_505, NB505_494, NB495_505, NB505_495, NB496_505, NB505_496, HB⟩; (try dsimp only at HO500 HO504 BK494 BK495 BK496 BK505 GW505 GE505 NB494_505 NB505_494 NB495_505 NB505_495 NB496_505 NB505_496 HB); replace HO500 := am HO500; replace HO504 := am HO504; replace BK494 := am BK494; replace BK495 := am BK495; replace BK496 := am BK496; replace BK505 := am BK505; replace GW505 := am GW505; replace GE505 := am GE505; replace NB494_505 := am NB494_505; replace NB505_494 := am NB505_494; replace NB495_505 := am NB495_505; replace NB505_495 := am NB505_495; replace NB496_505 := am NB496_505; replace NB505_496 := am NB505_496; replace HB := am HB
   refine nq _ ?_
   refine on 7 (some 6) #[true, true, true, true, true, true, true, true, false, false] HT_ (fun K hK => ?_)
   refine bst 6 #[.bool false, .slice none 0 0] 60 ?_
   intro gb506 hg w13 hbox hb
   replace HO500 := RB HO500 hb; replace HO504 := RB HO504 hb; have BK506 := am (hbox); have GW506 := zB HB hg; have GE506 := zB HB hg; replace HB := sB HB hb; obtain ⟨NB494_506, NB506_494⟩ := nB BK494 hg; replace BK494 := kB BK494 hb; obtain ⟨NB495_506, NB506_495⟩ := nB BK495 hg; replace BK495 := kB BK495 hb; obtain ⟨NB496_506, NB506_496⟩ := nB BK496 hg; replace BK496 := kB BK496 hb; obtain ⟨NB505_506, NB506_505⟩ := nB BK505 hg; replace BK505 := kB BK505 hb
   clear hb hbox hg
   refine hK.out _ _ (hh4 BK494 BK495) (fun hHeld => ?_)
   clear hK K
   refine nm (some 6) ?_
   exact norm_ pa (hJ2_5_6_7 (v499, v503, gb505, gb506) _ ⟨hHeld, (fR HO500), (fR HO504), (fb BK494), (fb BK495), (fb BK496), (fb BK505), (fb BK506), GW505.out, GE505.out, NB494_505.out, NB505_494.out, NB495_505.out, NB505_495.out, NB496_505.out, NB505_496.out, NB506_505.out, NB505_506.out, GW506.out, GE506.out, NB494_506.out, NB506_494.out, NB495_506.out, NB506_495.out, NB496_506.out, NB506_496.out, (fB HB)⟩)
 clear BK494 BK495 BK496 HB; rintro ⟨v499, v503, gb505, gb506⟩ w13 ⟨hHeld, HO500, HO504, BK494, BK495, BK496, BK505, BK506, GW505, GE505, NB494_505, NB505_494, NB495_505, NB505_495, NB496_505, NB505_496, NB506_505, NB505_506, GW506, GE506, NB494_506, NB506_494, NB495_506, NB506_495, NB496_506, NB506_496, HB⟩; (try dsimp only at HO500 HO504 BK494 BK495 BK496 BK505 BK506 GW505 GE505 NB494_505 NB505_494 NB495_505 NB505_495 NB496_505 NB505_496 NB506_505 NB505_506 GW506 GE506 NB494_506 NB506_494 NB495_506 NB506_495 NB496_506 NB506_496 HB); replace HO500 := am HO500; replace HO504 := am HO504; replace BK494 := am BK494; replace BK495 := am BK495; replace BK496 := am BK496; replace BK505 := am BK505; replace BK506 := am BK506; replace GW505 := am GW505; replace GE505 := am GE505; replace NB494_505 := am NB494_505; replace NB505_494 := am NB505_494; replace NB495_505 := am NB495_505; replace NB505_495 := am NB505_495; replace NB496_505 := am NB496_505; replace NB505_496 := am NB505_496; replace NB506_505 := am NB506_505; replace NB505_506 := am NB505_506; replace GW506 := am GW506; replace GE506 := am GE506; replace NB494_506 := am NB494_506; replace NB506_494 := am NB506_494; replace NB495_506 := am NB495_506; replace NB506_495 := am NB506_495; replace NB496_506 := am NB496_506; replace NB506_496 := am NB506_496; replace HB := am HB
 obtain ⟨Ao15, co15, eo15⟩ := Kd.R_slice HO500.out
 (first | subst eo15 | (injection eo15 with f1_ f2_ f3_; have f4_ := f1_.symm; have f5_ := f3_.symm; clear f1_ f2_ f3_; subst f4_; subst f5_))
 obtain ⟨Ao18, co18, eo18⟩ := Kd.R_slice HO504.out
 (first | subst eo18 | (injection eo18 with f1_ f2_ f3_; have f4_ := f1_.symm; have f5_ := f3_.symm; clear f1_ f2_ f3_; subst f4_; subst f5_))
 refine nq _ ?_
 refine on 8 (none) #[true, true, true, true, true, true, true, true, true, false] HT_ (fun K hK => ?_)
 have hs14 : w13.cell? ⟨gb505, 0, none⟩ = some (.bool false) := (blk_cell BK505.out 0).trans rfl
 have hfs14 := blk_frozen BK505.out 0
 have hns14_0 := NB494_505.out
 have hns14_1 := NB495_505.out
 have hns14_2 := NB496_505.out
 have hns14_4 := NB506_505.out
 have hms14_0 := NB505_494.out
 have hms14_1 := NB505_495.out
 have hms14_2 := NB505_496.out
 have hms14_4 := NB505_506.out
 have hs16 : w13.cell? ⟨gb505, 1, none⟩ = some (.slice none 0 0) := (blk_cell BK505.out 1).trans rfl
 have hfs16 := blk_frozen BK505.out 1
 have hns16_0 := NB494_505.out
 have hns16_1 := NB495_505.out
 have hns16_2 := NB496_505.out
 have hns16_4 := NB506_505.out
 have hms16_0 := NB505_494.out
 have hms16_1 := NB505_495.out
 have hms16_2 := NB505_496.out
 have hms16_4 := NB505_506.out
 refine skip_ (w1 := ?_) (by rfl) rfl ?_ ?_
 rotate_left
 ·
  go_simp
  rfl
 refine hK.out _ _ ⟨((cell_far (p := ⟨gb505, _, none⟩) NB494_505.out _).trans (((cell_far (p := ⟨gb505, _, none⟩) NB494_505.out _).trans (hHeld.1)))), ((cell_far (p := ⟨gb505, _, none⟩) NB494_505.out _).trans (((cell_far (p := ⟨gb505, _, none⟩) NB494_505.out _).trans (hHeld.2.1)))), ((cell_far (p := ⟨gb505, _, none⟩) NB495_505.out _).trans (((cell_far (p := ⟨gb505, _, none⟩) NB495_505.out _).trans (hHeld.2.2.1)))), ((cell_far (p := ⟨gb505, _, none⟩) NB495_505.out _).trans (((cell_far (p := ⟨gb505, _, none⟩) NB495_505.out _).trans (hHeld.2.2.2))))⟩ (fun hHeld => ?_)
 clear hK K
 refine on 9 (none) #[true, true, true, true, true, true, true, true, true, true] HT_ (fun K hK => ?_)
 have hs17 : w13.cell? ⟨gb506, 0, none⟩ = some (.bool false) := (blk_cell BK506.out 0).trans rfl
 have hfs17 := blk_frozen BK506.out 0
 have hns17_0 := NB494_506.out
 have hns17_1 := NB495_506.out
 have hns17_2 := NB496_506.out
 have hns17_3 := NB505_506.out
 have hms17_0 := NB506_494.out
 have hms17_1 := NB506_495.out
 have hms17_2 := NB506_496.out
 have hms17_3 := NB506_505.out
 have hs19 : w13.cell? ⟨gb506, 1, none⟩ = some (.slice none 0 0) := (blk_cell BK506.out 1).trans rfl
 have hfs19 := blk_frozen BK506.out 1
 have hns19_0 := NB494_506.out
 have hns19_1 := NB495_506.out
 have hns19_2 := NB496_506.out
 have hns19_3 := NB505_506.out
 have hms19_0 := NB506_494.out
 have hms19_1 := NB506_495.out
 have hms19_2 := NB506_496.out
 have hms19_3 := NB506_505.out
 refine skip_ (w1 := ?_) (by rfl) rfl ?_ ?_
 rotate_left
 ·
  go_simp
  rfl
 refine hK.out _ _ ⟨((cell_far (p := ⟨gb506, _, none⟩) NB494_506.out _).trans (((cell_far (p := ⟨gb506, _, none⟩) NB494_506.out _).trans (hHeld.1)))), ((cell_far (p := ⟨gb506, _, none⟩) NB494_506.out _).trans (((cell_far (p := ⟨gb506, _, none⟩) NB494_506.out _).trans (hHeld.2.1)))), ((cell_far (p := ⟨gb506, _, none⟩) NB495_506.out _).trans (((cell_far (p := ⟨gb506, _, none⟩) NB495_506.out _).trans (hHeld.2.2.1)))), ((cell_far (p := ⟨gb506, _, none⟩) NB495_506.out _).trans (((cell_far (p := ⟨gb506, _, none⟩) NB495_506.out _).trans (hHeld.2.2.2))))⟩ (fun hHeld => ?_)
 clear hK K
 refine done_ (done_of HT_.out (by kernel_rfl)) ?_
 try go_wp2
 go_loopg [] k (fun kq w' => ∃ (x506000_1 : Bool) (x506001_1 : List Int) (x507000_1 : Bool) (x507001_1 : List Int) (u506001 : Value) (u507001 : Value), Aside0 (spec_l02Gcd.l0 kq x506000_1 x506001_1 x507000_1 x507001_1 = some (r1, r2)) ∧ Aside0 (kq ≤ k) ∧ Aside0 (Kd.R (Kd.int .u32) 119 w' w.heap.size (fun k_ => some k_ ≠ (u507001 : Value).ownBlock) u506001 x506001_1) ∧ Aside0 (Kd.R (Kd.int .u32) 119 w' w.heap.size (fun k_ => some k_ ≠ (u506001 : Value).ownBlock) u507001 x507001_1) ∧ Aside0 (w'.heap[gb494]? = some (.cells #[.bool a0_0, (.slice A0_1 l0_1.length c0_1)] 60 (0, 0))) ∧ Aside0 (w'.heap[gb495]? = some (.cells #[.bool a1_0, (.slice A1_1 l1_1.length c1_1)] 60 (0, 0))) ∧ Aside0 (w'.heap[gb496]? = some (.cells #[.bool false, (.slice none 0 0)] 60 (0, 0))) ∧ Aside0 (w'.heap[gb505]? = some (.cells #[.bool x506000_1, u506001] 60 (0, 0))) ∧ Aside0 (w'.heap[gb506]? = some (.cells #[.bool x507000_1, u507001] 60 (0, 0))) ∧ Aside0 (Below w.heap.size w w'))
 case atStart => exact ⟨(t497), (t498), (t501), (t502), (.slice Ao15 t498.length co15), (.slice Ao18 t502.length co18), H', ⟨Nat.le_refl _⟩, ⟨tR2 HO500 BK505 BK506 (fun _ h => h.1.1)⟩, ⟨tR2 HO504 BK505 BK506 (fun _ h => h.1.1)⟩, ⟨fb BK494⟩, ⟨fb BK495⟩, ⟨fb BK496⟩, ⟨fP BK505⟩, ⟨fP BK506⟩, ⟨fB HB⟩⟩
 case round =>
  clear H'
  try clear c1
  try clear p2
  try clear c10
  obtain ⟨x506000_1, x506001_1, x507000_1, x507001_1, u506001, u507001, HA, HK1, HO_506001, HO_507001, BK494, BK495, BK496, BK505, BK506, HB⟩ := hrel
  cases gk with
  | zero => exact absurd HA.out (by simp [spec_l02Gcd.l0])
  | succ k1 =>
   have H := HA.out
   clear HA
   simp only [spec_l02Gcd.l0] at H
   by_cases c20 : (x507001_1.length : Int) > 0
   ·
    rw [if_pos c20] at H
    have c20b0 : decide (0 < (x507001_1.length : Int)) = true := decide_eq_true c20
    have c20b1 : decide (0 < x507001_1.length) = true := decide_eq_true (by omega)
    clear c20
    obtain ⟨⟨t507, t508, t511, t512⟩, A21, H⟩ := ub H; dsimp only at H
    have H' := am H
    clear H
    have hnb22 := NB506_494.out
    have hnc22 := NB494_506.out
    have hnb23 := NB506_495.out
    have hnc23 := NB495_506.out
    have hnb24 := NB506_496.out
    have hnc24 := NB496_506.out
    have hnb25 := NB506_505.out
    have hnc25 := NB505_506.out
    have hcz26_0 : wr.cell? ⟨gb506, 0, none⟩ = some (.bool x507000_1) := (blk_cell BK506.out 0).trans rfl
    have hcz26_1 : wr.cell? ⟨gb506, 1, none⟩ = some (u507001) := (blk_cell BK506.out 1).trans rfl
    have hfz26_0 := blk_frozen BK506.out 0
    have hfz26_1 := blk_frozen BK506.out 1
    obtain ⟨Ao27, co27, eo27⟩ := Kd.R_slice HO_507001.out
    subst eo27
    have hnb28 := NB505_494.out
    have hnc28 := NB494_505.out
    have hnb29 := NB505_495.out
    have hnc29 := NB495_505.out
    have hnb30 := NB505_496.out
    have hnc30 := NB496_505.out
    have hcz31_0 : wr.cell? ⟨gb505, 0, none⟩ = some (.bool x506000_1) := (blk_cell BK505.out 0).trans rfl
    have hcz31_1 : wr.cell? ⟨gb505, 1, none⟩ = some (u506001) := (blk_cell BK505.out 1).trans rfl
    have hfz31_0 := blk_frozen BK505.out 0
    have hfz31_1 := blk_frozen BK505.out 1
    obtain ⟨Ao32, co32, eo32⟩ := Kd.R_slice HO_506001.out
    subst eo32
    go_wp2_with (first | (refine cl 106 (some 22) Try.func106 #[.agg #[.bool x506000_1, .slice Ao32 x506001_1.length co32], .agg #[.bool x507000_1, .slice Ao27 x507001_1.length co27]] ?_; (with_reducible refine (spec_l02DivMod.calls k1 x506000_1 _ _ x506001_1 x507000_1 _ _ x507001_1 t507 t508 t511 t512 _ ?side1 ?side2 ?side3 ?side4 A21.out).mono ?_); (case side1 => repeat (first | exact (Kd.R_reads' HO_506001.out).2.2 | (with_reducible refine Kd.C_alloc ?_ _) | (with_reducible refine Kd.C_drewN ?_ _) | (with_reducible refine Kd.C_drew ?_))); (case side2 => exact (Kd.R_reads' HO_506001.out).2.1); (case side3 => repeat (first | exact (Kd.R_reads' HO_507001.out).2.2 | (with_reducible refine Kd.C_alloc ?_ _) | (with_reducible refine Kd.C_drewN ?_ _) | (with_reducible refine Kd.C_drew ?_))); (case side4 => exact (Kd.R_reads' HO_507001.out).2.1); rintro e w33 ⟨v509, v513, rfl, ho0, ho1, hb⟩; refine ⟨_, rfl, ?_⟩; have HO510 := am (Kd.R_lower (Kd.R_new' (Kd.R_new' ho0 (Kd.R_lt (fR HO_506001))) (Kd.R_lt (fR HO_507001))) (below_size (fB HB))); have HO514 := am (Kd.R_lower (Kd.R_new' (Kd.R_new' ho1 (Kd.R_lt (fR HO_506001))) (Kd.R_lt (fR HO_507001))) (below_size (fB HB))); replace HO_506001 := am (Kd.R_mono (Kd.R_told (Kd.R_told (Kd.R_old (fR HO_506001) hb) (Kd.R_base ho0)) (Kd.R_base ho1)) (fun _ h_ => h_.1)); replace HO_507001 := am (Kd.R_mono (Kd.R_told (Kd.R_told (Kd.R_old (fR HO_507001) hb) (Kd.R_base ho0)) (Kd.R_base ho1)) (fun _ h_ => h_.1)); replace BK494 := kB BK494 hb; replace BK495 := kB BK495 hb; replace BK496 := kB BK496 hb; replace BK505 := kB BK505 hb; replace BK506 := kB BK506 hb; replace HB := sB HB hb; clear hb ho0 ho1) | (refine bx 7 #[.bool false, .slice none 0 0] 60 ?_; intro gb515 hg w34 hbox hb; replace HO_506001 := RB HO_506001 hb; replace HO_507001 := RB HO_507001 hb; replace HO510 := RB HO510 hb; replace HO514 := RB HO514 hb; have BK515 := am (hbox); have GW515 := zB HB hg; have GE515 := zB HB hg; replace HB := sB HB hb; obtain ⟨NB494_515, NB515_494⟩ := nB BK494 hg; replace BK494 := kB BK494 hb; obtain ⟨NB495_515, NB515_495⟩ := nB BK495 hg; replace BK495 := kB BK495 hb; obtain ⟨NB496_515, NB515_496⟩ := nB BK496 hg; replace BK496 := kB BK496 hb; obtain ⟨NB505_515, NB515_505⟩ := nB BK505 hg; replace BK505 := kB BK505 hb; obtain ⟨NB506_515, NB515_506⟩ := nB BK506 hg; replace BK506 := kB BK506 hb; clear hb hbox hg) | (refine bx 8 #[.bool false, .slice none 0 0] 60 ?_; intro gb516 hg w35 hbox hb; replace HO_506001 := RB HO_506001 hb; replace HO_507001 := RB HO_507001 hb; replace HO510 := RB HO510 hb; replace HO514 := RB HO514 hb; have BK516 := am (hbox); have GW516 := zB HB hg; have GE516 := zB HB hg; replace HB := sB HB hb; obtain ⟨NB494_516, NB516_494⟩ := nB BK494 hg; replace BK494 := kB BK494 hb; obtain ⟨NB495_516, NB516_495⟩ := nB BK495 hg; replace BK495 := kB BK495 hb; obtain ⟨NB496_516, NB516_496⟩ := nB BK496 hg; replace BK496 := kB BK496 hb; obtain ⟨NB505_516, NB516_505⟩ := nB BK505 hg; replace BK505 := kB BK505 hb; obtain ⟨NB506_516, NB516_506⟩ := nB BK506 hg; replace BK506 := kB BK506 hb; obtain ⟨NB515_516, NB516_515⟩ := nB BK515 hg; replace BK515 := kB BK515 hb; clear hb hbox hg; have hnb36 := NB515_494.out; have hnc36 := NB494_515.out; have hnb37 := NB515_495.out; have hnc37 := NB495_515.out; have hnb38 := NB515_496.out; have hnc38 := NB496_515.out; have hnb39 := NB515_505.out; have hnc39 := NB505_515.out; have hnb40 := NB515_506.out; have hnc40 := NB506_515.out; have hnb41 := NB515_516.out; have hnc41 := NB516_515.out; obtain ⟨hcz42_0, hcz42_1, hfz42_0, hfz42_1⟩ := cz2 BK515; obtain ⟨Ao43, co43, eo43⟩ := Kd.R_slice HO510.out; subst eo43; have hnb44 := NB516_494.out; have hnc44 := NB494_516.out; have hnb45 := NB516_495.out; have hnc45 := NB495_516.out; have hnb46 := NB516_496.out; have hnc46 := NB496_516.out; have hnb47 := NB516_505.out; have hnc47 := NB505_516.out; have hnb48 := NB516_506.out; have hnc48 := NB506_516.out; obtain ⟨hcz49_0, hcz49_1, hfz49_0, hfz49_1⟩ := cz2 BK516; obtain ⟨Ao50, co50, eo50⟩ := Kd.R_slice HO514.out; subst eo50; obtain ⟨hcz51_0, hcz51_1, hfz51_0, hfz51_1⟩ := cz2 BK506; obtain ⟨hcz52_0, hcz52_1, hfz52_0, hfz52_1⟩ := cz2 BK505))
    go_roundg k1
    case measure => have := HK1.out; omega
    case rel => exact ⟨(x507000_1), (x507001_1), (t511), (t512), (.slice Ao27 x507001_1.length co27), (.slice Ao50 t512.length co50), H', ⟨by have := HK1.out; omega⟩, ⟨tR4 HO_507001 BK515 BK516 BK505 BK506 (fun _ h => h.1.1.1.1.2)⟩, ⟨tR4 HO514 BK515 BK516 BK505 BK506 (fun _ h => h.1.1.1.1.2)⟩, ⟨fb BK494⟩, ⟨fb BK495⟩, ⟨fb BK496⟩, ⟨fP BK505⟩, ⟨fP BK506⟩, ⟨fB HB⟩⟩
   ·
    rw [if_neg c20] at H
    have c20b0 : decide (0 < (x507001_1.length : Int)) = false := decide_eq_false c20
    have c20b1 : decide (0 < x507001_1.length) = false := decide_eq_false (by omega)
    clear c20
    simp only [Option.some.injEq, Prod.mk.injEq] at H
    obtain ⟨rfl, rfl⟩ := H
    have hnb53 := NB506_494.out
    have hnc53 := NB494_506.out
    have hnb54 := NB506_495.out
    have hnc54 := NB495_506.out
    have hnb55 := NB506_496.out
    have hnc55 := NB496_506.out
    have hnb56 := NB506_505.out
    have hnc56 := NB505_506.out
    have hcz57_0 : wr.cell? ⟨gb506, 0, none⟩ = some (.bool x507000_1) := (blk_cell BK506.out 0).trans rfl
    have hcz57_1 : wr.cell? ⟨gb506, 1, none⟩ = some (u507001) := (blk_cell BK506.out 1).trans rfl
    have hfz57_0 := blk_frozen BK506.out 0
    have hfz57_1 := blk_frozen BK506.out 1
    obtain ⟨Ao58, co58, eo58⟩ := Kd.R_slice HO_507001.out
    subst eo58
    have hnb59 := NB505_494.out
    have hnc59 := NB494_505.out
    have hnb60 := NB505_495.out
    have hnc60 := NB495_505.out
    have hnb61 := NB505_496.out
    have hnc61 := NB496_505.out
    have hcz62_0 : wr.cell? ⟨gb505, 0, none⟩ = some (.bool x506000_1) := (blk_cell BK505.out 0).trans rfl
    have hcz62_1 : wr.cell? ⟨gb505, 1, none⟩ = some (u506001) := (blk_cell BK505.out 1).trans rfl
    have hfz62_0 := blk_frozen BK505.out 0
    have hfz62_1 := blk_frozen BK505.out 1
    have hnb63 := NB496_494.out
    have hnc63 := NB494_496.out
    have hnb64 := NB496_495.out
    have hnc64 := NB495_496.out
    have hcz65_0 : wr.cell? ⟨gb496, 0, none⟩ = some (.bool false) := (blk_cell BK496.out 0).trans rfl
    have hcz65_1 : wr.cell? ⟨gb496, 1, none⟩ = some (.slice none 0 0) := (blk_cell BK496.out 1).trans rfl
    have hfz65_0 := blk_frozen BK496.out 0
    have hfz65_1 := blk_frozen BK496.out 1
    obtain ⟨Ao66, co66, eo66⟩ := Kd.R_slice HO_506001.out
    subst eo66
    go_wp2
    refine bodyPost_ret (results_cell_row rfl _ _ gb496 60 #[.bool x506000_1, .slice Ao66 x506001_1.length co66] (0, 0) _ rfl (fP BK496) Try.underlying60 rfl (by kernel_rfl)) rfl ?_
    exact ⟨_, rz, tR1 HO_506001 BK496 (fun _ h => trivial), fB HB⟩
end Go.Proofs.Ytjdndacollpjkaa.MFnVars
