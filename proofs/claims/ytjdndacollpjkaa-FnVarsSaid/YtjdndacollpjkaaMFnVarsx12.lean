/- Contracts of the functions that the law FnVars reaches (walks in the form of the kit's print; what it does not take by hand). -/
import Derived.Test.YtjdndacollpjkaaFvL
import Derived.Test.YtjdndacollpjkaaMFnVarsx1
import Derived.Test.YtjdndacollpjkaaMFnVarsx3
import Derived.Test.YtjdndacollpjkaaMFnVarsx4
import Derived.Test.YtjdndacollpjkaaMFnVarsx6
import Derived.Test.YtjdndacollpjkaaMFnVarsx10
import Derived.Test.YtjdndacollpjkaaMFnVarsx11
namespace Go.Proofs.Ytjdndacollpjkaa.MFnVars
open Go.RowKit Go.Proofs.YtjdndacollpjkaaW.PrintWords Go.Proofs.YtjdndacollpjkaaW.PrintLast Go.Proofs.YtjdndacollpjkaaW.PrintMore
attribute [local go_sem] fld60_0 fld60_1 max2_int min2_int max_two min_two max_three min_three max_four min_four   -- for this text's walks alone
set_option linter.unusedVariables false
set_option linter.unusedSimpArgs false

/-! ### spec_l02Mul: function 91 -/
def spec_l02Mul.T1 : Bool × List (List Nat × List Nat) := (true, [([], []), ([0], [0]), ([], []), ([2], [2]), ([1, 3], [1, 3]), ([], []), ([5], [5]), ([], []), ([7], [7]), ([6, 8], [6, 8]), ([4, 9, 9], [4, 9]), ([10, 10, 0, 1, 2, 3, 4, 5, 6, 7, 8, 9, 10], [10])])
def spec_l02Mul.B1 : List Nat := [0, 1, 0, 4, 15, 0, 32, 0, 128, 480, 1023, 2047]
theorem spec_l02Mul.tab1 : rtab .any (opsOf Try.f91 1) = spec_l02Mul.T1 := by kernel_rfl
theorem spec_l02Mul.bits1 : waitsOk spec_l02Mul.T1.2 spec_l02Mul.B1 = true := by kernel_rfl
set_option maxHeartbeats 8000000 in
set_option maxRecDepth 100000 in
theorem spec_l02Mul.calls (k : Nat) (a0_0 : Bool) (A0_1 : Option Addr) (c0_1 : Nat) (l0_1 : List Int) (a1_0 : Bool) (A1_1 : Option Addr) (c1_1 : Nat) (l1_1 : List Int) (r1 : Bool) (r2 : List Int) (w : World) (hr0_1 : Kd.C (Kd.int .u32) w A0_1 l0_1.length l0_1) (hc0_1 : l0_1.length ≤ c0_1) (hr1_1 : Kd.C (Kd.int .u32) w A1_1 l1_1.length l1_1) (hc1_1 : l1_1.length ≤ c1_1) (h : spec_l02Mul.f k a0_0 l0_1 a1_0 l1_1 = some (r1, r2)) :
  Calls Try.prog 91 #[.agg #[.bool a0_0, .slice A0_1 l0_1.length c0_1], .agg #[.bool a1_0, .slice A1_1 l1_1.length c1_1]] w fun e w' => ∃ v1_ : Value, e = .returned (.agg #[.bool r1, v1_]) ∧ Kd.R (Kd.int .u32) 119 w' w.heap.size (fun _ => True) v1_ r2 ∧ Below w.heap.size w w' := by
 have hu60 := Try.underlying60
 have HR0_1 := am hr0_1
 have HC0_1 := am hc0_1
 clear hr0_1 hc0_1
 have HR1_1 := am hr1_1
 have HC1_1 := am hc1_1
 clear hr1_1 hc1_1
 have HB := am (Below.refl w.heap.size w)
 have H : ((spec_l02Times.f k l0_1 l1_1).bind fun t746 => ((spec_l02Make.f k (a0_0 != a1_0) t746).bind fun bt749 => (some (bt749.1, bt749.2)))) = some (r1, r2) := h
 clear h
 obtain ⟨t746, A3, H⟩ := ub H; try dsimp only at H
 obtain ⟨⟨t749, t750⟩, A4, H⟩ := ub H; dsimp only at H
 simp only [Option.some.injEq, Prod.mk.injEq] at H
 obtain ⟨rfl, rfl⟩ := H
 go_enter Try.func91, Try.ntmps91
 try go_wp2_with (first | (refine bx 2 #[.bool a0_0, .slice A0_1 l0_1.length c0_1] 60 ?_; intro gb743 hg w5 hbox hb; have BK743 := am (hbox); have GW743 := zB HB hg; have GE743 := zB HB hg; replace HB := sB HB hb; clear hb hbox hg) | (refine bx 3 #[.bool a1_0, .slice A1_1 l1_1.length c1_1] 60 ?_; intro gb744 hg w6 hbox hb; have BK744 := am (hbox); have GW744 := zB HB hg; have GE744 := zB HB hg; replace HB := sB HB hb; obtain ⟨NB743_744, NB744_743⟩ := nB BK743 hg; replace BK743 := kB BK743 hb; clear hb hbox hg) | (refine bx 4 #[.bool false, .slice none 0 0] 60 ?_; intro gb745 hg w7 hbox hb; have BK745 := am (hbox); have GW745 := zB HB hg; have GE745 := zB HB hg; replace HB := sB HB hb; obtain ⟨NB743_745, NB745_743⟩ := nB BK743 hg; replace BK743 := kB BK743 hb; obtain ⟨NB744_745, NB745_744⟩ := nB BK744 hg; replace BK744 := kB BK744 hb; clear hb hbox hg))
 replace BK743 := am (blk_drew BK743.out); replace BK744 := am (blk_drew BK744.out); replace BK745 := am (blk_drew BK745.out); replace HB := am (below_drew1 HB.out)
 refine start_ (n := 12) (S := fun w' => w'.cell? ⟨gb743, 0, none⟩ = some (.bool a0_0) ∧ w'.cell? ⟨gb743, 1, none⟩ = some (.slice A0_1 l0_1.length c0_1) ∧ w'.cell? ⟨gb744, 0, none⟩ = some (.bool a1_0) ∧ w'.cell? ⟨gb744, 1, none⟩ = some (.slice A1_1 l1_1.length c1_1)) (ds := []) #[false, false, false, false, false, false, false, false, false, false, false, false] (by kernel_rfl) rfl rfl (hh4 BK743 BK744) (fun hHeld => ?_); refine with_tabW spec_l02Mul.tab1 spec_l02Mul.bits1 (fun HT_ HW_ => ?_)
 generalize w7.drew = w8 at BK743 BK744 BK745 HB hHeld ⊢
 refine pu 0 (some 5) #[true, false, false, false, false, false, false, false, false, false, false, false] HT_ ?_
 refine pu 2 (some 7) #[true, false, true, false, false, false, false, false, false, false, false, false] HT_ ?_
 refine pu 5 (some 10) #[true, false, true, false, false, true, false, false, false, false, false, false] HT_ ?_
 refine pu 7 (some 12) #[true, false, true, false, false, true, false, true, false, false, false, false] HT_ ?_
 refine tk 1 (some 6) #[true, true, true, false, false, true, false, true, false, false, false, false] HT_ HW_ hHeld ?_
 refine tk 3 (some 8) #[true, true, true, true, false, true, false, true, false, false, false, false] HT_ HW_ hHeld ?_
 refine pu 4 (some 9) #[true, true, true, true, true, true, false, true, false, false, false, false] HT_ ?_
 refine tk 6 (some 11) #[true, true, true, true, true, true, true, true, false, false, false, false] HT_ HW_ hHeld ?_
 refine tk 8 (some 13) #[true, true, true, true, true, true, true, true, true, false, false, false] HT_ HW_ hHeld ?_
 refine on 9 (some 14) #[true, true, true, true, true, true, true, true, true, true, false, false] HT_ (fun K hK => ?_)
 refine ge Try.func103 #[.slice A0_1 l0_1.length c0_1, .slice A1_1 l1_1.length c1_1] ?_
 with_reducible refine (spec_l02Times.calls k _ _ l0_1 _ _ l1_1 t746 _ ?side1 ?side2 ?side3 ?side4 A3.out).mono ?_
 (case side1 => repeat (first | exact (Kd.C_below HR0_1.out HB.out) | (with_reducible refine Kd.C_alloc ?_ _) | (with_reducible refine Kd.C_drewN ?_ _) | (with_reducible refine Kd.C_drew ?_)))
 (case side2 => exact HC0_1.out)
 (case side3 => repeat (first | exact (Kd.C_below HR1_1.out HB.out) | (with_reducible refine Kd.C_alloc ?_ _) | (with_reducible refine Kd.C_drewN ?_ _) | (with_reducible refine Kd.C_drew ?_)))
 (case side4 => exact HC1_1.out)
 rintro e w9 ⟨v747, rfl, ho0, hb⟩
 refine ⟨_, rfl, ?_⟩
 have HO748 := loB ho0 HB; replace BK743 := kB BK743 hb; replace BK744 := kB BK744 hb; replace BK745 := kB BK745 hb; replace HB := sB HB hb
 clear hb ho0
 obtain ⟨Ao10, co10, eo10⟩ := Kd.R_slice HO748.out
 (first | subst eo10 | (injection eo10 with f1_ f2_ f3_; have f4_ := f1_.symm; have f5_ := f3_.symm; clear f1_ f2_ f3_; subst f4_; subst f5_))
 refine hK.out _ _ (hh4 BK743 BK744) (fun hHeld => ?_)
 clear hK K
 refine nm (some 14) ?_
 refine on 10 (some 15) #[true, true, true, true, true, true, true, true, true, true, true, false] HT_ (fun K hK => ?_)
 refine ge Try.func101 #[.bool (a0_0 != a1_0), .slice Ao10 t746.length co10] ?_
 with_reducible refine (spec_l02Make.calls k (a0_0 != a1_0) _ _ t746 t749 t750 _ ?side1 ?side2 A4.out).mono ?_
 (case side1 => repeat (first | exact (Kd.R_reads' HO748.out).2.2 | (with_reducible refine Kd.C_alloc ?_ _) | (with_reducible refine Kd.C_drewN ?_ _) | (with_reducible refine Kd.C_drew ?_)))
 (case side2 => exact (Kd.R_reads' HO748.out).2.1)
 rintro e w11 ⟨v751, rfl, ho0, hb⟩
 refine ⟨_, rfl, ?_⟩
 have HO752 := am (Kd.R_lower (Kd.R_new' ho0 (Kd.R_lt (fR HO748))) (below_size (fB HB))); replace HO748 := eR HO748 ho0 hb; replace BK743 := kB BK743 hb; replace BK744 := kB BK744 hb; replace BK745 := kB BK745 hb; replace HB := sB HB hb
 clear hb ho0
 obtain ⟨Ao13, co13, eo13⟩ := Kd.R_slice HO752.out
 (first | subst eo13 | (injection eo13 with f1_ f2_ f3_; have f4_ := f1_.symm; have f5_ := f3_.symm; clear f1_ f2_ f3_; subst f4_; subst f5_))
 refine hK.out _ _ (hh4 BK743 BK744) (fun hHeld => ?_)
 clear hK K
 refine nm (some 15) ?_
 refine on 11 (none) #[true, true, true, true, true, true, true, true, true, true, true, true] HT_ (fun K hK => ?_)
 have hs12 : w11.cell? ⟨gb745, 0, none⟩ = some (.bool false) := (blk_cell BK745.out 0).trans rfl
 have hfs12 := blk_frozen BK745.out 0
 have hns12_0 := NB743_745.out
 have hns12_1 := NB744_745.out
 have hms12_0 := NB745_743.out
 have hms12_1 := NB745_744.out
 have hs14 : w11.cell? ⟨gb745, 1, none⟩ = some (.slice none 0 0) := (blk_cell BK745.out 1).trans rfl
 have hfs14 := blk_frozen BK745.out 1
 have hns14_0 := NB743_745.out
 have hns14_1 := NB744_745.out
 have hms14_0 := NB745_743.out
 have hms14_1 := NB745_744.out
 refine skip_ (w1 := ?_) (by rfl) rfl ?_ ?_
 rotate_left
 ·
  go_simp
  rfl
 refine hK.out _ _ ⟨((cell_far (p := ⟨gb745, _, none⟩) NB743_745.out _).trans (((cell_far (p := ⟨gb745, _, none⟩) NB743_745.out _).trans (hHeld.1)))), ((cell_far (p := ⟨gb745, _, none⟩) NB743_745.out _).trans (((cell_far (p := ⟨gb745, _, none⟩) NB743_745.out _).trans (hHeld.2.1)))), ((cell_far (p := ⟨gb745, _, none⟩) NB744_745.out _).trans (((cell_far (p := ⟨gb745, _, none⟩) NB744_745.out _).trans (hHeld.2.2.1)))), ((cell_far (p := ⟨gb745, _, none⟩) NB744_745.out _).trans (((cell_far (p := ⟨gb745, _, none⟩) NB744_745.out _).trans (hHeld.2.2.2))))⟩ (fun hHeld => ?_)
 clear hK K
 refine done_ (done_of HT_.out (by kernel_rfl)) ?_
 try go_wp2
 refine bodyPost_ret (results_cell_row rfl _ _ gb745 60 #[.bool t749, .slice Ao13 t750.length co13] (0, 0) _ rfl (fP BK745) Try.underlying60 rfl (by kernel_rfl)) rfl ?_
 exact ⟨_, rz, tR1 HO752 BK745 (fun _ h => trivial), fB HB⟩

/-! ### spec_l02Some: function 104 -/
set_option maxHeartbeats 8000000 in
set_option maxRecDepth 100000 in
theorem spec_l02Some.calls (k : Nat) (g : Nat) (s0_0 : List Int) (s0_1 : Int) (s0_2 : Int) (r1 : Bool) (r2 : List Int) (r3 : Int) (r4 : Int) (w0 w : World) (hI : IsS90 w0 w g s0_0 s0_1 s0_2) (hB : Below w0.heap.size w0 w) (h : spec_l02Some.f k s0_0 s0_1 s0_2 = some (r1, r2, r3, r4)) :
  Calls Try.prog 104 #[.pointer (some ⟨g, 0, none⟩)] w fun e w' => ∃ v1_ : Value, e = .returned (.agg #[.bool r1, v1_]) ∧ Kd.R (Kd.int .u32) 119 w' w.heap.size (fun _ => True) v1_ r2 ∧ IsS90 w0 w' g s0_0 r3 r4 ∧ Below w0.heap.size w0 w' ∧ KeepBut w w' g none := by
 have hu60 := Try.underlying60
 have HI0 := am hI
 have HK := am (KeepBut.refl w g none)
 have HL := am hB.size
 clear hI
 have HW0 := am hB.size
 have HB := am hB
 clear hB
 have H : ((spec_l01Below.f s0_0 s0_1 s0_2 8).bind fun bt754 => (if bt754.1 = 0 then ((spec_l01PickInt.f s0_0 bt754.2.1 bt754.2.2 (([0, 1, (-1), 2, (-2), 4294967295, 4294967296, (-4294967296), 9223372036854775807, (-9223372036854775808)] : List Int))).bind fun bt760 => ((spec_FromInt.f k bt760.1).bind fun bt763 => (some (bt763.1, bt763.2, bt760.2.1, bt760.2.2)))) else (if bt754.1 = 1 then ((spec_l02Big.f k s0_0 bt754.2.1 bt754.2.2 4).bind fun bt767 => (some (bt767.1, bt767.2.1, bt767.2.2.1, bt767.2.2.2))) else (if bt754.1 = 2 then ((spec_l01Once.f s0_0 bt754.2.1 bt754.2.2 2).bind fun bt773 => ((spec_l01Below.f s0_0 bt773.2.1 bt773.2.2 1280).bind fun bt776 => ((spec_l02Bit.f k bt776.1).bind fun bt779 => ((spec_l02Make.f k bt773.1 bt779.2).bind fun bt783 => (some (bt783.1, bt783.2, bt776.2.1, bt776.2.2)))))) else (if bt754.1 = 3 then ((spec_l02Big.f k s0_0 bt754.2.1 bt754.2.2 40).bind fun bt787 => (some (bt787.1, bt787.2.1, bt787.2.2.1, bt787.2.2.2))) else ((spec_l01Below.f s0_0 bt754.2.1 bt754.2.2 2000).bind fun bt793 => ((spec_FromInt.f k (wrap64 (bt793.1 - 1000))).bind fun bt796 => (some (bt796.1, bt796.2, bt793.2.1, bt793.2.2))))))))) = some (r1, r2, r3, r4) := h
 clear h
 obtain ⟨⟨t754, t755, t756⟩, A2, H⟩ := ub H; dsimp only at H
 by_cases c3 : t754 = 0
 ·
  rw [if_pos c3] at H
  obtain ⟨c3b0, c3b1⟩ := bqt c3
  clear c3
  obtain ⟨y757, Ny757⟩ : ∃ y_ : List Int, Aside0 (y_ = (([0, 1, (-1), 2, (-2), 4294967295, 4294967296, (-4294967296), 9223372036854775807, (-9223372036854775808)] : List Int))) := ⟨_, ⟨rfl⟩⟩; rw [← Ny757.out] at H
  obtain ⟨⟨t760, t761, t762⟩, A4, H⟩ := ub H; dsimp only at H
  obtain ⟨⟨t763, t764⟩, A5, H⟩ := ub H; dsimp only at H
  simp only [Option.some.injEq, Prod.mk.injEq] at H
  obtain ⟨rfl, rfl, rfl, rfl⟩ := H
  go_enter Try.func104, Try.ntmps104
  go_wp2_with (first | (refine bx 2 #[.bool false, .slice none 0 0] 60 ?_; intro gb753 hg w6 hbox hb; replace HB := sB HB hb; have BK753 := am (hbox); have GW753 := zK HK hg; have GE753 := zW HW0 (zK HK hg); replace HK := KB HK hb; obtain ⟨NB0_753, NB753_0⟩ := nI HI0 hg; replace HI0 := IB HI0 hb; clear hb hbox hg) | (refine cl 56 (some 4) Try.func56 #[.pointer (some ⟨g, 0, none⟩), .int .i64 8] ?_; (with_reducible refine (spec_l01Below.calls g s0_0 s0_1 s0_2 8 t754 t755 t756 w0 _ ?side1 ?side2 A2.out).mono ?_); (case side1 => exact fI HI0); (case side2 => exact fB HB); rintro e w7 ⟨rfl, hi, hb, hk⟩; refine ⟨_, rfl, ?_⟩; replace BK753 := kK BK753 hk NB753_0; replace HK := Kk HK hk; replace HB := am (hb); replace HI0 := am (hi); clear hb hk hi) | ((with_reducible refine gate_dst (N := 8) rfl ?_); refine Kd.R_lit (Kd.int .i64) _ 3 ?hg (N := 8) ?hd (xs := ([0, 1, (-1), 2, (-2), 4294967295, 4294967296, (-4294967296), 9223372036854775807, (-9223372036854775808)] : List Int)) (inner := [.int .i64 0, .int .i64 1, .int .i64 (-1), .int .i64 2, .int .i64 (-2), .int .i64 4294967295, .int .i64 4294967296, .int .i64 (-4294967296), .int .i64 9223372036854775807, .int .i64 (-9223372036854775808)]) (ok := fun _ => True) (okp := fun _ => True) ?hr ?hp (fun _ hk => hk) trivial (Below.refl _ _) (Nat.le_refl _) (by simp) ?_; (case hd => rfl); (case hg => rfl); (case hr => first | (go_simp; done) | (go_simp; rfl)); (case hp => exact (Reps.one (show Kd.M (Kd.int .i64) _ _ _ 0 [.int .i64 0] from rfl) (Reps.one (show Kd.M (Kd.int .i64) _ _ _ 1 [.int .i64 1] from rfl) (Reps.one (show Kd.M (Kd.int .i64) _ _ _ (-1) [.int .i64 (-1)] from rfl) (Reps.one (show Kd.M (Kd.int .i64) _ _ _ 2 [.int .i64 2] from rfl) (Reps.one (show Kd.M (Kd.int .i64) _ _ _ (-2) [.int .i64 (-2)] from rfl) (Reps.one (show Kd.M (Kd.int .i64) _ _ _ 4294967295 [.int .i64 4294967295] from rfl) (Reps.one (show Kd.M (Kd.int .i64) _ _ _ 4294967296 [.int .i64 4294967296] from rfl) (Reps.one (show Kd.M (Kd.int .i64) _ _ _ (-4294967296) [.int .i64 (-4294967296)] from rfl) (Reps.one (show Kd.M (Kd.int .i64) _ _ _ 9223372036854775807 [.int .i64 9223372036854775807] from rfl) (Reps.one (show Kd.M (Kd.int .i64) _ _ _ (-9223372036854775808) [.int .i64 (-9223372036854775808)] from rfl) (Reps.none _ _)))))))))))); intro v758 w8 ho9 hb hg_ hnew_; clear hg_ hnew_; (first | rw [← Ny757.out] at ho9 | (simp only [Int.reduceToNat] at ho9; rw [← Ny757.out] at ho9)); have HO759 := loK ho9 HK; replace HI0 := IB HI0 hb; replace BK753 := kB BK753 hb; replace HK := KB HK hb; replace HB := sB HB hb; clear hb ho9; obtain ⟨Ao10, co10, eo10⟩ := Kd.R_slice HO759.out; subst eo10) | (refine cl 59 (some 9) Try.func59 #[.pointer (some ⟨g, 0, none⟩), .slice Ao10 y757.length co10] ?_; (with_reducible refine (spec_l01PickInt.calls g s0_0 t755 t756 _ _ y757 t760 t761 t762 w0 _ ?side1 ?side2 ?side3 ?side4 ?side5 A4.out).mono ?_); (case side1 => exact fI HI0); (case side2 => exact fB HB); (case side3 => repeat (first | exact (Kd.R_reads' HO759.out).2.2 | (with_reducible refine Kd.C_alloc ?_ _) | (with_reducible refine Kd.C_drewN ?_ _) | (with_reducible refine Kd.C_drew ?_))); (case side4 => exact (Kd.R_reads' HO759.out).2.1); (case side5 => exact far_slice (IsS90.own_ne HI0.out HO759.out (by decide))); rintro e w11 ⟨rfl, hi, hb, hk⟩; refine ⟨_, rfl, ?_⟩; replace BK753 := kK BK753 hk NB753_0; replace HO759 := kR HI0 HO759 hk; replace HK := Kk HK hk; replace HB := am (hb); replace HI0 := am (hi); clear hb hk hi) | (refine cl 92 (some 10) Try.func92 #[.int .i64 t760] ?_; (with_reducible refine (spec_FromInt.calls k t760 t763 t764 _ A5.out).mono ?_); rintro e w12 ⟨v765, rfl, ho0, hb⟩; refine ⟨_, rfl, ?_⟩; replace HO759 := RB HO759 hb; have HO766 := loK ho0 HK; replace HI0 := IB HI0 hb; replace BK753 := kB BK753 hb; replace HK := KB HK hb; replace HB := sB HB hb; clear hb ho0; have hnb13 := NB753_0.out; have hnc13 := NB0_753.out; obtain ⟨hcz14_0, hcz14_1, hfz14_0, hfz14_1⟩ := cz2 BK753; obtain ⟨Ao15, co15, eo15⟩ := Kd.R_slice HO766.out; subst eo15))
  refine bodyPost_ret (results_cell_row rfl _ _ gb753 60 #[.bool t763, .slice Ao15 t764.length co15] (0, 0) _ rfl (fP BK753) Try.underlying60 rfl (by kernel_rfl)) rfl ?_
  exact ⟨_, rz, tR1 HO766 BK753 (fun _ h => trivial), fI HI0, fB HB, fK HK⟩
 ·
  rw [if_neg c3] at H
  obtain ⟨c3b0, c3b1⟩ := bqf c3
  by_cases c16 : t754 = 1
  ·
   rw [if_pos c16] at H
   obtain ⟨c16b0, c16b1⟩ := bqt c16
   clear c16
   obtain ⟨⟨t767, t768, t771, t772⟩, A17, H⟩ := ub H; dsimp only at H
   simp only [Option.some.injEq, Prod.mk.injEq] at H
   obtain ⟨rfl, rfl, rfl, rfl⟩ := H
   go_enter Try.func104, Try.ntmps104
   go_wp2_with (first | (refine bx 2 #[.bool false, .slice none 0 0] 60 ?_; intro gb753 hg w18 hbox hb; replace HB := sB HB hb; have BK753 := am (hbox); have GW753 := zK HK hg; have GE753 := zW HW0 (zK HK hg); replace HK := KB HK hb; obtain ⟨NB0_753, NB753_0⟩ := nI HI0 hg; replace HI0 := IB HI0 hb; clear hb hbox hg) | (refine cl 56 (some 4) Try.func56 #[.pointer (some ⟨g, 0, none⟩), .int .i64 8] ?_; (with_reducible refine (spec_l01Below.calls g s0_0 s0_1 s0_2 8 t754 t755 t756 w0 _ ?side1 ?side2 A2.out).mono ?_); (case side1 => exact fI HI0); (case side2 => exact fB HB); rintro e w19 ⟨rfl, hi, hb, hk⟩; refine ⟨_, rfl, ?_⟩; replace BK753 := kK BK753 hk NB753_0; replace HK := Kk HK hk; replace HB := am (hb); replace HI0 := am (hi); clear hb hk hi) | (refine cl 99 (some 14) Try.func99 #[.pointer (some ⟨g, 0, none⟩), .int .i64 4] ?_; (with_reducible refine (spec_l02Big.calls k g s0_0 t755 t756 4 t767 t768 t771 t772 w0 _ ?side1 ?side2 A17.out).mono ?_); (case side1 => exact fI HI0); (case side2 => exact fB HB); rintro e w20 ⟨v769, rfl, ho0, hi, hb, hk⟩; refine ⟨_, rfl, ?_⟩; replace BK753 := kK BK753 hk NB753_0; have HO770 := loK ho0 HK; replace HK := Kk HK hk; replace HB := am (hb); replace HI0 := am (hi); clear hb hk hi ho0; have hnb21 := NB753_0.out; have hnc21 := NB0_753.out; obtain ⟨hcz22_0, hcz22_1, hfz22_0, hfz22_1⟩ := cz2 BK753; obtain ⟨Ao23, co23, eo23⟩ := Kd.R_slice HO770.out; subst eo23))
   refine bodyPost_ret (results_cell_row rfl _ _ gb753 60 #[.bool t767, .slice Ao23 t768.length co23] (0, 0) _ rfl (fP BK753) Try.underlying60 rfl (by kernel_rfl)) rfl ?_
   exact ⟨_, rz, tR1 HO770 BK753 (fun _ h => trivial), fI HI0, fB HB, fK HK⟩
  ·
   rw [if_neg c16] at H
   obtain ⟨c16b0, c16b1⟩ := bqf c16
   by_cases c24 : t754 = 2
   ·
    rw [if_pos c24] at H
    obtain ⟨c24b0, c24b1⟩ := bqt c24
    clear c24
    obtain ⟨⟨t773, t774, t775⟩, A25, H⟩ := ub H; dsimp only at H
    obtain ⟨⟨t776, t777, t778⟩, A26, H⟩ := ub H; dsimp only at H
    obtain ⟨⟨t779, t780⟩, A27, H⟩ := ub H; dsimp only at H
    obtain ⟨⟨t783, t784⟩, A28, H⟩ := ub H; dsimp only at H
    simp only [Option.some.injEq, Prod.mk.injEq] at H
    obtain ⟨rfl, rfl, rfl, rfl⟩ := H
    go_enter Try.func104, Try.ntmps104
    go_wp2_with (first | (refine bx 2 #[.bool false, .slice none 0 0] 60 ?_; intro gb753 hg w29 hbox hb; replace HB := sB HB hb; have BK753 := am (hbox); have GW753 := zK HK hg; have GE753 := zW HW0 (zK HK hg); replace HK := KB HK hb; obtain ⟨NB0_753, NB753_0⟩ := nI HI0 hg; replace HI0 := IB HI0 hb; clear hb hbox hg) | (refine cl 56 (some 4) Try.func56 #[.pointer (some ⟨g, 0, none⟩), .int .i64 8] ?_; (with_reducible refine (spec_l01Below.calls g s0_0 s0_1 s0_2 8 t754 t755 t756 w0 _ ?side1 ?side2 A2.out).mono ?_); (case side1 => exact fI HI0); (case side2 => exact fB HB); rintro e w30 ⟨rfl, hi, hb, hk⟩; refine ⟨_, rfl, ?_⟩; replace BK753 := kK BK753 hk NB753_0; replace HK := Kk HK hk; replace HB := am (hb); replace HI0 := am (hi); clear hb hk hi) | (refine cl 58 (some 18) Try.func58 #[.pointer (some ⟨g, 0, none⟩), .int .i64 2] ?_; (with_reducible refine (spec_l01Once.calls g s0_0 t755 t756 2 t773 t774 t775 w0 _ ?side1 ?side2 A25.out).mono ?_); (case side1 => exact fI HI0); (case side2 => exact fB HB); rintro e w31 ⟨rfl, hi, hb, hk⟩; refine ⟨_, rfl, ?_⟩; replace BK753 := kK BK753 hk NB753_0; replace HK := Kk HK hk; replace HB := am (hb); replace HI0 := am (hi); clear hb hk hi) | (refine cl 56 (some 20) Try.func56 #[.pointer (some ⟨g, 0, none⟩), .int .i64 1280] ?_; (with_reducible refine (spec_l01Below.calls g s0_0 t774 t775 1280 t776 t777 t778 w0 _ ?side1 ?side2 A26.out).mono ?_); (case side1 => exact fI HI0); (case side2 => exact fB HB); rintro e w32 ⟨rfl, hi, hb, hk⟩; refine ⟨_, rfl, ?_⟩; replace BK753 := kK BK753 hk NB753_0; replace HK := Kk HK hk; replace HB := am (hb); replace HI0 := am (hi); clear hb hk hi) | (refine cl 102 (some 21) Try.func102 #[.int .i64 t776] ?_; (with_reducible refine (spec_l02Bit.calls k t776 t779 t780 _ A27.out).mono ?_); rintro e w33 ⟨v781, rfl, ho0, hb⟩; refine ⟨_, rfl, ?_⟩; have HO782 := loK ho0 HK; replace HI0 := IB HI0 hb; replace BK753 := kB BK753 hb; replace HK := KB HK hb; replace HB := sB HB hb; clear hb ho0; obtain ⟨Ao34, co34, eo34⟩ := Kd.R_slice HO782.out; subst eo34) | (refine cl 101 (some 23) Try.func101 #[.bool t773, .slice Ao34 t780.length co34] ?_; (with_reducible refine (spec_l02Make.calls k t773 _ _ t780 t783 t784 _ ?side1 ?side2 A28.out).mono ?_); (case side1 => repeat (first | exact (Kd.R_reads' HO782.out).2.2 | (with_reducible refine Kd.C_alloc ?_ _) | (with_reducible refine Kd.C_drewN ?_ _) | (with_reducible refine Kd.C_drew ?_))); (case side2 => exact (Kd.R_reads' HO782.out).2.1); rintro e w35 ⟨v785, rfl, ho0, hb⟩; refine ⟨_, rfl, ?_⟩; have HO786 := am (Kd.R_lower (Kd.R_new' ho0 (Kd.R_lt (fR HO782))) (keep_size (w := w) (g := g) (row := none) (fK HK))); replace HO782 := eR HO782 ho0 hb; replace HI0 := IB HI0 hb; replace BK753 := kB BK753 hb; replace HK := KB HK hb; replace HB := sB HB hb; clear hb ho0; have hnb36 := NB753_0.out; have hnc36 := NB0_753.out; obtain ⟨hcz37_0, hcz37_1, hfz37_0, hfz37_1⟩ := cz2 BK753; obtain ⟨Ao38, co38, eo38⟩ := Kd.R_slice HO786.out; subst eo38))
    refine bodyPost_ret (results_cell_row rfl _ _ gb753 60 #[.bool t783, .slice Ao38 t784.length co38] (0, 0) _ rfl (fP BK753) Try.underlying60 rfl (by kernel_rfl)) rfl ?_
    exact ⟨_, rz, tR1 HO786 BK753 (fun _ h => trivial), fI HI0, fB HB, fK HK⟩
   ·
    rw [if_neg c24] at H
    obtain ⟨c24b0, c24b1⟩ := bqf c24
    by_cases c39 : t754 = 3
    ·
     rw [if_pos c39] at H
     obtain ⟨c39b0, c39b1⟩ := bqt c39
     clear c39
     obtain ⟨⟨t787, t788, t791, t792⟩, A40, H⟩ := ub H; dsimp only at H
     simp only [Option.some.injEq, Prod.mk.injEq] at H
     obtain ⟨rfl, rfl, rfl, rfl⟩ := H
     go_enter Try.func104, Try.ntmps104
     go_wp2_with (first | (refine bx 2 #[.bool false, .slice none 0 0] 60 ?_; intro gb753 hg w41 hbox hb; replace HB := sB HB hb; have BK753 := am (hbox); have GW753 := zK HK hg; have GE753 := zW HW0 (zK HK hg); replace HK := KB HK hb; obtain ⟨NB0_753, NB753_0⟩ := nI HI0 hg; replace HI0 := IB HI0 hb; clear hb hbox hg) | (refine cl 56 (some 4) Try.func56 #[.pointer (some ⟨g, 0, none⟩), .int .i64 8] ?_; (with_reducible refine (spec_l01Below.calls g s0_0 s0_1 s0_2 8 t754 t755 t756 w0 _ ?side1 ?side2 A2.out).mono ?_); (case side1 => exact fI HI0); (case side2 => exact fB HB); rintro e w42 ⟨rfl, hi, hb, hk⟩; refine ⟨_, rfl, ?_⟩; replace BK753 := kK BK753 hk NB753_0; replace HK := Kk HK hk; replace HB := am (hb); replace HI0 := am (hi); clear hb hk hi) | (refine cl 99 (some 27) Try.func99 #[.pointer (some ⟨g, 0, none⟩), .int .i64 40] ?_; (with_reducible refine (spec_l02Big.calls k g s0_0 t755 t756 40 t787 t788 t791 t792 w0 _ ?side1 ?side2 A40.out).mono ?_); (case side1 => exact fI HI0); (case side2 => exact fB HB); rintro e w43 ⟨v789, rfl, ho0, hi, hb, hk⟩; refine ⟨_, rfl, ?_⟩; replace BK753 := kK BK753 hk NB753_0; have HO790 := loK ho0 HK; replace HK := Kk HK hk; replace HB := am (hb); replace HI0 := am (hi); clear hb hk hi ho0; have hnb44 := NB753_0.out; have hnc44 := NB0_753.out; obtain ⟨hcz45_0, hcz45_1, hfz45_0, hfz45_1⟩ := cz2 BK753; obtain ⟨Ao46, co46, eo46⟩ := Kd.R_slice HO790.out; subst eo46))
     refine bodyPost_ret (results_cell_row rfl _ _ gb753 60 #[.bool t787, .slice Ao46 t788.length co46] (0, 0) _ rfl (fP BK753) Try.underlying60 rfl (by kernel_rfl)) rfl ?_
     exact ⟨_, rz, tR1 HO790 BK753 (fun _ h => trivial), fI HI0, fB HB, fK HK⟩
    ·
     rw [if_neg c39] at H
     obtain ⟨c39b0, c39b1⟩ := bqf c39
     obtain ⟨⟨t793, t794, t795⟩, A47, H⟩ := ub H; dsimp only at H
     obtain ⟨⟨t796, t797⟩, A48, H⟩ := ub H; dsimp only at H
     simp only [Option.some.injEq, Prod.mk.injEq] at H
     obtain ⟨rfl, rfl, rfl, rfl⟩ := H
     go_enter Try.func104, Try.ntmps104
     go_wp2_with (first | (refine bx 2 #[.bool false, .slice none 0 0] 60 ?_; intro gb753 hg w49 hbox hb; replace HB := sB HB hb; have BK753 := am (hbox); have GW753 := zK HK hg; have GE753 := zW HW0 (zK HK hg); replace HK := KB HK hb; obtain ⟨NB0_753, NB753_0⟩ := nI HI0 hg; replace HI0 := IB HI0 hb; clear hb hbox hg) | (refine cl 56 (some 4) Try.func56 #[.pointer (some ⟨g, 0, none⟩), .int .i64 8] ?_; (with_reducible refine (spec_l01Below.calls g s0_0 s0_1 s0_2 8 t754 t755 t756 w0 _ ?side1 ?side2 A2.out).mono ?_); (case side1 => exact fI HI0); (case side2 => exact fB HB); rintro e w50 ⟨rfl, hi, hb, hk⟩; refine ⟨_, rfl, ?_⟩; replace BK753 := kK BK753 hk NB753_0; replace HK := Kk HK hk; replace HB := am (hb); replace HI0 := am (hi); clear hb hk hi) | (refine cl 56 (some 29) Try.func56 #[.pointer (some ⟨g, 0, none⟩), .int .i64 2000] ?_; (with_reducible refine (spec_l01Below.calls g s0_0 t755 t756 2000 t793 t794 t795 w0 _ ?side1 ?side2 A47.out).mono ?_); (case side1 => exact fI HI0); (case side2 => exact fB HB); rintro e w51 ⟨rfl, hi, hb, hk⟩; refine ⟨_, rfl, ?_⟩; replace BK753 := kK BK753 hk NB753_0; replace HK := Kk HK hk; replace HB := am (hb); replace HI0 := am (hi); clear hb hk hi) | (refine cl 92 (some 31) Try.func92 #[.int .i64 (wrap64 (t793 - 1000))] ?_; (with_reducible refine (spec_FromInt.calls k (wrap64 (t793 - 1000)) t796 t797 _ A48.out).mono ?_); rintro e w52 ⟨v798, rfl, ho0, hb⟩; refine ⟨_, rfl, ?_⟩; have HO799 := loK ho0 HK; replace HI0 := IB HI0 hb; replace BK753 := kB BK753 hb; replace HK := KB HK hb; replace HB := sB HB hb; clear hb ho0; have hnb53 := NB753_0.out; have hnc53 := NB0_753.out; obtain ⟨hcz54_0, hcz54_1, hfz54_0, hfz54_1⟩ := cz2 BK753; obtain ⟨Ao55, co55, eo55⟩ := Kd.R_slice HO799.out; subst eo55))
     refine bodyPost_ret (results_cell_row rfl _ _ gb753 60 #[.bool t796, .slice Ao55 t797.length co55] (0, 0) _ rfl (fP BK753) Try.underlying60 rfl (by kernel_rfl)) rfl ?_
     exact ⟨_, rz, tR1 HO799 BK753 (fun _ h => trivial), fI HI0, fB HB, fK HK⟩

/-! ### spec_l02Any: function 94 -/
set_option maxHeartbeats 8000000 in
set_option maxRecDepth 100000 in
theorem spec_l02Any.calls (k : Nat) (g : Nat) (s0_0 : List Int) (s0_1 : Int) (s0_2 : Int) (r1 : Bool) (r2 : List Int) (r3 : Int) (r4 : Int) (w0 w : World) (hI : IsS90 w0 w g s0_0 s0_1 s0_2) (hB : Below w0.heap.size w0 w) (h : spec_l02Any.f k s0_0 s0_1 s0_2 = some (r1, r2, r3, r4)) :
  Calls Try.prog 94 #[.pointer (some ⟨g, 0, none⟩)] w fun e w' => ∃ v1_ : Value, e = .returned (.agg #[.bool r1, v1_]) ∧ Kd.R (Kd.int .u32) 119 w' w.heap.size (fun _ => True) v1_ r2 ∧ IsS90 w0 w' g s0_0 r3 r4 ∧ Below w0.heap.size w0 w' ∧ KeepBut w w' g none := by
 have hu60 := Try.underlying60
 have HI0 := am hI
 have HK := am (KeepBut.refl w g none)
 have HL := am hB.size
 clear hI
 have HW0 := am hB.size
 have HB := am hB
 clear hB
 have H : ((spec_l02Some.f k s0_0 s0_1 s0_2).bind fun bt801 => ((spec_l01Below.f s0_0 bt801.2.2.1 bt801.2.2.2 25).bind fun bt808 => (if bt808.1 = 0 then (if bt801.2.1.length < 35184372088832 then (some (bt801.1, (bt801.2.1 ++ [0]), bt808.2.1, bt808.2.2)) else (none)) else (if bt808.1 = 1 then (some (!bt801.1, bt801.2.1, bt808.2.1, bt808.2.2)) else (if bt808.1 = 2 then (spec_l02Any.l0 k s0_0 bt808.2.1 bt808.2.2 bt801.1 bt801.2.1) else (some (bt801.1, bt801.2.1, bt808.2.1, bt808.2.2))))))) = some (r1, r2, r3, r4) := h
 clear h
 obtain ⟨⟨t801, t802, t805, t806⟩, A2, H⟩ := ub H; dsimp only at H
 obtain ⟨⟨t808, t809, t810⟩, A3, H⟩ := ub H; dsimp only at H
 by_cases c4 : t808 = 0
 ·
  rw [if_pos c4] at H
  obtain ⟨c4b0, c4b1⟩ := bqt c4
  clear c4
  by_cases c5 : t802.length < 35184372088832
  ·
   rw [if_pos c5] at H
   have LMc5 := am c5
   clear c5
   obtain ⟨y811, Ny811⟩ : ∃ y_ : List Int, Aside0 (y_ = (t802 ++ [0])) := ⟨_, ⟨rfl⟩⟩; rw [← Ny811.out] at H
   simp only [Option.some.injEq, Prod.mk.injEq] at H
   obtain ⟨rfl, rfl, rfl, rfl⟩ := H
   go_enter Try.func94, Try.ntmps94
   go_wp2_with (first | (refine bx 2 #[.bool false, .slice none 0 0] 60 ?_; intro gb800 hg w6 hbox hb; replace HB := sB HB hb; have BK800 := am (hbox); have GW800 := zK HK hg; have GE800 := zW HW0 (zK HK hg); replace HK := KB HK hb; obtain ⟨NB0_800, NB800_0⟩ := nI HI0 hg; replace HI0 := IB HI0 hb; clear hb hbox hg) | (refine cl 104 (some 5) Try.func104 #[.pointer (some ⟨g, 0, none⟩)] ?_; (with_reducible refine (spec_l02Some.calls k g s0_0 s0_1 s0_2 t801 t802 t805 t806 w0 _ ?side1 ?side2 A2.out).mono ?_); (case side1 => exact fI HI0); (case side2 => exact fB HB); rintro e w7 ⟨v803, rfl, ho0, hi, hb, hk⟩; refine ⟨_, rfl, ?_⟩; replace BK800 := kK BK800 hk NB800_0; have HO804 := loK ho0 HK; replace HK := Kk HK hk; replace HB := am (hb); replace HI0 := am (hi); clear hb hk hi ho0) | (refine bx 3 #[.bool false, .slice none 0 0] 60 ?_; intro gb807 hg w8 hbox hb; replace HO804 := RB HO804 hb; replace HB := sB HB hb; have BK807 := am (hbox); have GW807 := zK HK hg; have GE807 := zW HW0 (zK HK hg); replace HK := KB HK hb; obtain ⟨NB800_807, NB807_800⟩ := nB BK800 hg; replace BK800 := kB BK800 hb; obtain ⟨NB0_807, NB807_0⟩ := nI HI0 hg; replace HI0 := IB HI0 hb; clear hb hbox hg; have hnb9 := NB807_800.out; have hnc9 := NB800_807.out; have hnb10 := NB807_0.out; have hnc10 := NB0_807.out; obtain ⟨hcz11_0, hcz11_1, hfz11_0, hfz11_1⟩ := cz2 BK807; obtain ⟨Ao12, co12, eo12⟩ := Kd.R_slice HO804.out; subst eo12) | (refine cl 56 (some 7) Try.func56 #[.pointer (some ⟨g, 0, none⟩), .int .i64 25] ?_; (with_reducible refine (spec_l01Below.calls g s0_0 t805 t806 25 t808 t809 t810 w0 _ ?side1 ?side2 A3.out).mono ?_); (case side1 => exact fI HI0); (case side2 => exact fB HB); rintro e w13 ⟨rfl, hi, hb, hk⟩; refine ⟨_, rfl, ?_⟩; replace BK800 := kK BK800 hk NB800_0; replace HO804 := kX HI0 (tR1 HO804 BK807 (fun _ h => h.1)) hk; replace BK807 := am (KeepBut.blk hk (g' := gb807) (o := .cells #[.bool t801, .slice Ao12 t802.length co12] 60 (0, 0)) (fP BK807) NB807_0.out (by simp)); replace HK := Kk HK hk; replace HB := am (hb); replace HI0 := am (hi); clear hb hk hi; obtain ⟨hcz14_0, hcz14_1, hfz14_0, hfz14_1⟩ := cz2 BK807) | ((with_reducible refine gate_builtin (b := .append) (xs := #[.tmp 11, .tmp 12]) rfl ?_); at_builtin; refine Kd.R_append (Kd.int .u32) w.heap.size rfl (.tmp 11) (.tmp 12) 58 119 (.int .u32 0) 4 rfl Try.underlying58 info119 rfl (by decide) (by omega) (.slice Ao12 t802.length co12) t802 0 [.int .u32 0] (fun _ => True) (fun _ => False) rfl rfl ?aP (fun _ hk => hk.elim) ?aF ?aO (Below.refl _ _) ?aS ?aL ?_; (case aP => exact rfl); (case aF => exact (fun _ _ => trivial)); (case aO => exact (fR HO804)); (case aS => exact (keep_size (w := w) (g := g) (row := none) (fK HK))); (case aL => have := LMc5.out; omega); intro v812 w15 ho hb hg hat; rw [← Ny811.out] at ho; replace HI0 := am (IsS90.grown (fI HI0) hg (IsS90.own_ne HI0.out HO804.out (by decide))); replace BK800 := am (blk_grown (g := gb800) (o := .cells #[.bool false, .slice none 0 0] 60 (0, 0)) (fb BK800) hg (Kd.R_ne HO804.out BK800.out (by decide))); replace BK807 := am (blk_grown (g := gb807) (o := .cells #[.bool t801, .slice Ao12 t802.length co12] 60 (0, 0)) (fb BK807) hg (Kd.R_ne HO804.out BK807.out (by decide))); replace HB := am (below_weaken (fB HB) HL.out hb); replace HK := am (KeepBut.trans (fK HK) (KeepBut.of_grown hg g) (Kd.R_base2 HO804.out)); have HO813 := am (ho); clear HO804; clear ho hb hg hat; obtain ⟨Ao16, co16, eo16⟩ := Kd.R_slice HO813.out; subst eo16; obtain ⟨hcz17_0, hcz17_1, hfz17_0, hfz17_1⟩ := cz2 BK807; have hnb18 := NB800_0.out; have hnc18 := NB0_800.out; obtain ⟨hcz19_0, hcz19_1, hfz19_0, hfz19_1⟩ := cz2 BK800))
   refine bodyPost_ret (results_cell_row rfl _ _ gb800 60 #[.bool t801, .slice Ao16 y811.length co16] (0, 0) _ rfl (fP BK800) Try.underlying60 rfl (by kernel_rfl)) rfl ?_
   exact ⟨_, rz, tR2 HO813 BK807 BK800 (fun _ h => trivial), fI HI0, fB HB, fK HK⟩
  ·
   rw [if_neg c5] at H
   exact absurd H (by simp)
 ·
  rw [if_neg c4] at H
  obtain ⟨c4b0, c4b1⟩ := bqf c4
  by_cases c20 : t808 = 1
  ·
   rw [if_pos c20] at H
   obtain ⟨c20b0, c20b1⟩ := bqt c20
   clear c20
   simp only [Option.some.injEq, Prod.mk.injEq] at H
   obtain ⟨rfl, rfl, rfl, rfl⟩ := H
   go_enter Try.func94, Try.ntmps94
   go_wp2_with (first | (refine bx 2 #[.bool false, .slice none 0 0] 60 ?_; intro gb800 hg w21 hbox hb; replace HB := sB HB hb; have BK800 := am (hbox); have GW800 := zK HK hg; have GE800 := zW HW0 (zK HK hg); replace HK := KB HK hb; obtain ⟨NB0_800, NB800_0⟩ := nI HI0 hg; replace HI0 := IB HI0 hb; clear hb hbox hg) | (refine cl 104 (some 5) Try.func104 #[.pointer (some ⟨g, 0, none⟩)] ?_; (with_reducible refine (spec_l02Some.calls k g s0_0 s0_1 s0_2 t801 t802 t805 t806 w0 _ ?side1 ?side2 A2.out).mono ?_); (case side1 => exact fI HI0); (case side2 => exact fB HB); rintro e w22 ⟨v803, rfl, ho0, hi, hb, hk⟩; refine ⟨_, rfl, ?_⟩; replace BK800 := kK BK800 hk NB800_0; have HO804 := loK ho0 HK; replace HK := Kk HK hk; replace HB := am (hb); replace HI0 := am (hi); clear hb hk hi ho0) | (refine bx 3 #[.bool false, .slice none 0 0] 60 ?_; intro gb807 hg w23 hbox hb; replace HO804 := RB HO804 hb; replace HB := sB HB hb; have BK807 := am (hbox); have GW807 := zK HK hg; have GE807 := zW HW0 (zK HK hg); replace HK := KB HK hb; obtain ⟨NB800_807, NB807_800⟩ := nB BK800 hg; replace BK800 := kB BK800 hb; obtain ⟨NB0_807, NB807_0⟩ := nI HI0 hg; replace HI0 := IB HI0 hb; clear hb hbox hg; have hnb24 := NB807_800.out; have hnc24 := NB800_807.out; have hnb25 := NB807_0.out; have hnc25 := NB0_807.out; obtain ⟨hcz26_0, hcz26_1, hfz26_0, hfz26_1⟩ := cz2 BK807; obtain ⟨Ao27, co27, eo27⟩ := Kd.R_slice HO804.out; subst eo27) | (refine cl 56 (some 7) Try.func56 #[.pointer (some ⟨g, 0, none⟩), .int .i64 25] ?_; (with_reducible refine (spec_l01Below.calls g s0_0 t805 t806 25 t808 t809 t810 w0 _ ?side1 ?side2 A3.out).mono ?_); (case side1 => exact fI HI0); (case side2 => exact fB HB); rintro e w28 ⟨rfl, hi, hb, hk⟩; refine ⟨_, rfl, ?_⟩; replace BK800 := kK BK800 hk NB800_0; replace HO804 := kX HI0 (tR1 HO804 BK807 (fun _ h => h.1)) hk; replace BK807 := am (KeepBut.blk hk (g' := gb807) (o := .cells #[.bool t801, .slice Ao27 t802.length co27] 60 (0, 0)) (fP BK807) NB807_0.out (by simp)); replace HK := Kk HK hk; replace HB := am (hb); replace HI0 := am (hi); clear hb hk hi; obtain ⟨hcz29_0, hcz29_1, hfz29_0, hfz29_1⟩ := cz2 BK807; have hnb30 := NB800_0.out; have hnc30 := NB0_800.out; obtain ⟨hcz31_0, hcz31_1, hfz31_0, hfz31_1⟩ := cz2 BK800))
   refine bodyPost_ret (results_cell_row rfl _ _ gb800 60 #[.bool (!t801), .slice Ao27 t802.length co27] (0, 0) _ rfl (fP BK800) Try.underlying60 rfl (by kernel_rfl)) rfl ?_
   exact ⟨_, rz, tR2 HO804 BK807 BK800 (fun _ h => trivial), fI HI0, fB HB, fK HK⟩
  ·
   rw [if_neg c20] at H
   obtain ⟨c20b0, c20b1⟩ := bqf c20
   by_cases c32 : t808 = 2
   ·
    rw [if_pos c32] at H
    obtain ⟨c32b0, c32b1⟩ := bqt c32
    clear c32
    have H' := am H
    clear H
    go_enter Try.func94, Try.ntmps94
    go_wp2_with (first | (refine bx 2 #[.bool false, .slice none 0 0] 60 ?_; intro gb800 hg w33 hbox hb; replace HB := sB HB hb; have BK800 := am (hbox); have GW800 := zK HK hg; have GE800 := zW HW0 (zK HK hg); replace HK := KB HK hb; obtain ⟨NB0_800, NB800_0⟩ := nI HI0 hg; replace HI0 := IB HI0 hb; clear hb hbox hg) | (refine cl 104 (some 5) Try.func104 #[.pointer (some ⟨g, 0, none⟩)] ?_; (with_reducible refine (spec_l02Some.calls k g s0_0 s0_1 s0_2 t801 t802 t805 t806 w0 _ ?side1 ?side2 A2.out).mono ?_); (case side1 => exact fI HI0); (case side2 => exact fB HB); rintro e w34 ⟨v803, rfl, ho0, hi, hb, hk⟩; refine ⟨_, rfl, ?_⟩; replace BK800 := kK BK800 hk NB800_0; have HO804 := loK ho0 HK; replace HK := Kk HK hk; replace HB := am (hb); replace HI0 := am (hi); clear hb hk hi ho0) | (refine bx 3 #[.bool false, .slice none 0 0] 60 ?_; intro gb807 hg w35 hbox hb; replace HO804 := RB HO804 hb; replace HB := sB HB hb; have BK807 := am (hbox); have GW807 := zK HK hg; have GE807 := zW HW0 (zK HK hg); replace HK := KB HK hb; obtain ⟨NB800_807, NB807_800⟩ := nB BK800 hg; replace BK800 := kB BK800 hb; obtain ⟨NB0_807, NB807_0⟩ := nI HI0 hg; replace HI0 := IB HI0 hb; clear hb hbox hg; have hnb36 := NB807_800.out; have hnc36 := NB800_807.out; have hnb37 := NB807_0.out; have hnc37 := NB0_807.out; obtain ⟨hcz38_0, hcz38_1, hfz38_0, hfz38_1⟩ := cz2 BK807; obtain ⟨Ao39, co39, eo39⟩ := Kd.R_slice HO804.out; subst eo39) | (refine cl 56 (some 7) Try.func56 #[.pointer (some ⟨g, 0, none⟩), .int .i64 25] ?_; (with_reducible refine (spec_l01Below.calls g s0_0 t805 t806 25 t808 t809 t810 w0 _ ?side1 ?side2 A3.out).mono ?_); (case side1 => exact fI HI0); (case side2 => exact fB HB); rintro e w40 ⟨rfl, hi, hb, hk⟩; refine ⟨_, rfl, ?_⟩; replace BK800 := kK BK800 hk NB800_0; replace HO804 := kX HI0 (tR1 HO804 BK807 (fun _ h => h.1)) hk; replace BK807 := am (KeepBut.blk hk (g' := gb807) (o := .cells #[.bool t801, .slice Ao39 t802.length co39] 60 (0, 0)) (fP BK807) NB807_0.out (by simp)); replace HK := Kk HK hk; replace HB := am (hb); replace HI0 := am (hi); clear hb hk hi))
    go_loopg [] k (fun kq w' => ∃ (x1001_1 : Int) (x1002_1 : Int) (x808001_1 : List Int) (u808001 : Value), Aside0 (spec_l02Any.l0 kq s0_0 x1001_1 x1002_1 t801 x808001_1 = some (r1, r2, r3, r4)) ∧ Aside0 (kq ≤ k) ∧ Aside0 (Kd.R (Kd.int .u32) 119 w' w.heap.size (fun _ => True) u808001 x808001_1) ∧ Aside0 (w'.heap[gb800]? = some (.cells #[.bool false, (.slice none 0 0)] 60 (0, 0))) ∧ Aside0 (w'.heap[gb807]? = some (.cells #[.bool t801, u808001] 60 (0, 0))) ∧ Aside0 (IsS90 w0 w' g s0_0 x1001_1 x1002_1) ∧ Aside0 (KeepBut w w' g none) ∧ Aside0 (Below w0.heap.size w0 w'))
    case atStart => exact ⟨(t809), (t810), (t802), (.slice Ao39 t802.length co39), H', ⟨Nat.le_refl _⟩, ⟨fR HO804⟩, ⟨fb BK800⟩, ⟨fb BK807⟩, ⟨fI HI0⟩, ⟨fK HK⟩, ⟨fB HB⟩⟩
    case round =>
     clear H'
     try clear c1
     try clear c2
     try clear p2
     try clear c3
     try clear c4
     try clear c4b0
     try clear c4b1
     try clear c5
     try clear c9
     try clear c10
     try clear c18
     try clear c20
     try clear c20b0
     try clear c20b1
     try clear c24
     try clear c25
     try clear c30
     try clear c32
     try clear c32b0
     try clear c32b1
     try clear c36
     try clear c37
     try clear hcz11_0
     try clear hcz11_1
     try clear hcz14_0
     try clear hcz14_1
     try clear hcz17_0
     try clear hcz17_1
     try clear hcz19_0
     try clear hcz19_1
     try clear hcz26_0
     try clear hcz26_1
     try clear hcz29_0
     try clear hcz29_1
     try clear hcz31_0
     try clear hcz31_1
     try clear hcz38_0
     try clear hcz38_1
     try clear hfz11_0
     try clear hfz11_1
     try clear hfz14_0
     try clear hfz14_1
     try clear hfz17_0
     try clear hfz17_1
     try clear hfz19_0
     try clear hfz19_1
     try clear hfz26_0
     try clear hfz26_1
     try clear hfz29_0
     try clear hfz29_1
     try clear hfz31_0
     try clear hfz31_1
     try clear hfz38_0
     try clear hfz38_1
     obtain ⟨x1001_1, x1002_1, x808001_1, u808001, HA, HK1, HO_808001, BK800, BK807, HI0, HK, HB⟩ := hrel
     cases gk with
     | zero => exact absurd HA.out (by simp [spec_l02Any.l0])
     | succ k1 =>
      have H := HA.out
      clear HA
      simp only [spec_l02Any.l0] at H
      obtain ⟨⟨t814, t815, t816⟩, A41, H⟩ := ub H; dsimp only at H
      by_cases c42 : (x808001_1.length : Int) < (wrap64 (40 + t814))
      ·
       rw [if_pos c42] at H
       have c42b0 : decide ((x808001_1.length : Int) < (wrap64 (40 + t814))) = true := decide_eq_true c42
       clear c42
       by_cases c43 : x808001_1.length < 35184372088832
       ·
        rw [if_pos c43] at H
        have LMc43 := am c43
        clear c43
        obtain ⟨y817, Ny817⟩ : ∃ y_ : List Int, Aside0 (y_ = (x808001_1 ++ [4294967295])) := ⟨_, ⟨rfl⟩⟩; rw [← Ny817.out] at H
        have H' := am H
        clear H
        try go_wp2
        replace HO_808001 := am (Kd.R_drew HO_808001.out); replace BK800 := am (blk_drew BK800.out); replace BK807 := am (blk_drew BK807.out); replace HI0 := am (IsS90.drew HI0.out); replace HK := am (keep_drew HK.out); replace HB := am (below_drew1 HB.out)
        obtain ⟨Ao45, co45, eo45⟩ := Kd.R_slice HO_808001.out
        (first | subst eo45 | (injection eo45 with f1_ f2_ f3_; have f4_ := f1_.symm; have f5_ := f3_.symm; clear f1_ f2_ f3_; subst f4_; subst f5_))
        refine start_ (n := 7) (S := fun w' => w'.cell? ⟨gb807, 0, none⟩ = some (.bool t801) ∧ w'.cell? ⟨gb807, 1, none⟩ = some (.slice Ao45 x808001_1.length co45)) (ds := []) #[false, false, false, false, false, false, false] (by kernel_rfl) rfl rfl (hh2 BK807) (fun hHeld => ?_)
        generalize wr.drew = w44 at HO_808001 BK800 BK807 HI0 HK HB hHeld ⊢
        refine pure_ (i := 0) (N := some 23) (v := ?_) (a' := ?_) #[true, false, false, false, false, false, false] rfl rfl (by kernel_rfl) (fun _ _ _ h => h) (Or.inl ⟨by rfl, ?_⟩) ?_ ?_
        rotate_left
        ·
         intro w'
         go_simp
         with_reducible rfl
        rotate_left
        ·
         simp only [Act.put, List.setIfInBounds_toArray, List.set_cons_zero, List.set_cons_succ, i64_w, i32_w]
         rfl
        refine pure_ (i := 3) (N := some 26) (v := ?_) (a' := ?_) #[true, false, false, true, false, false, false] rfl rfl (by kernel_rfl) (fun _ _ _ h => h) (Or.inl ⟨by rfl, ?_⟩) ?_ ?_
        rotate_left
        ·
         intro w'
         go_simp
         with_reducible rfl
        rotate_left
        ·
         simp only [Act.put, List.setIfInBounds_toArray, List.set_cons_zero, List.set_cons_succ, i64_w, i32_w]
         rfl
        refine take_ (i := 1) (N := some 24) (v := ?_) (a' := ?_) #[true, true, false, true, false, false, false] rfl rfl (by kernel_rfl) (fun _ _ _ h => h) (Or.inl ⟨by rfl, ?_⟩) hHeld ?_ ?_
        rotate_left
        ·
         rintro w' ⟨s0, s1⟩
         go_simp
         with_reducible rfl
        rotate_left
        ·
         simp only [Act.put, List.setIfInBounds_toArray, List.set_cons_zero, List.set_cons_succ, i64_w, i32_w]
         rfl
        refine pure_ (i := 2) (N := some 25) (v := ?_) (a' := ?_) #[true, true, true, true, false, false, false] rfl rfl (by kernel_rfl) (fun _ _ _ h => h) (Or.inl ⟨by rfl, ?_⟩) ?_ ?_
        rotate_left
        ·
         intro w'
         go_simp
         with_reducible rfl
        rotate_left
        ·
         simp only [Act.put, List.setIfInBounds_toArray, List.set_cons_zero, List.set_cons_succ, i64_w, i32_w]
         rfl
        refine one_ (i := 4) (N := some 27) #[true, true, true, true, true, false, false] rfl rfl (by kernel_rfl) (by decide) (fun K hK => ?_)
        refine ge Try.func56 #[.pointer (some ⟨g, 0, none⟩), .int .i64 2] ?_
        with_reducible refine (spec_l01Below.calls g s0_0 x1001_1 x1002_1 2 t814 t815 t816 w0 _ ?side1 ?side2 A41.out).mono ?_
        (case side1 => exact fI HI0)
        (case side2 => exact fB HB)
        rintro e w46 ⟨rfl, hi, hb, hk⟩
        refine ⟨_, rfl, ?_⟩
        replace HO_808001 := kR HI0 HO_808001 hk; replace BK800 := kK BK800 hk NB800_0; replace BK807 := kK BK807 hk NB807_0; replace HK := Kk HK hk; replace HB := am (hb); replace HI0 := am (hi)
        clear hb hk hi
        refine hK.out _ _ (hh2 BK807) (fun hHeld => ?_)
        clear hK K
        refine nm (some 27) ?_
        refine pure_ (i := 5) (N := some 28) (v := ?_) (a' := ?_) #[true, true, true, true, true, true, false] rfl rfl (by kernel_rfl) (fun _ _ _ h => h) (Or.inl ⟨by rfl, ?_⟩) ?_ ?_
        rotate_left
        ·
         intro w'
         go_simp
         with_reducible rfl
        rotate_left
        ·
         simp only [Act.put, List.setIfInBounds_toArray, List.set_cons_zero, List.set_cons_succ, i64_w, i32_w]
         rfl
        refine pure_ (i := 6) (N := some 29) (v := ?_) (a' := ?_) #[true, true, true, true, true, true, true] rfl rfl (by kernel_rfl) (fun _ _ _ h => h) (Or.inl ⟨by rfl, ?_⟩) ?_ ?_
        rotate_left
        ·
         intro w'
         go_simp
         with_reducible rfl
        rotate_left
        ·
         simp only [Act.put, List.setIfInBounds_toArray, List.set_cons_zero, List.set_cons_succ, i64_w, i32_w]
         rfl
        refine done_ (by kernel_rfl) ?_
        have hnb47 := NB807_800.out
        have hnc47 := NB800_807.out
        have hnb48 := NB807_0.out
        have hnc48 := NB0_807.out
        have hcz49_0 : w46.cell? ⟨gb807, 0, none⟩ = some (.bool t801) := (blk_cell BK807.out 0).trans rfl
        have hcz49_1 : w46.cell? ⟨gb807, 1, none⟩ = some (.slice Ao45 x808001_1.length co45) := (blk_cell BK807.out 1).trans rfl
        have hfz49_0 := blk_frozen BK807.out 0
        have hfz49_1 := blk_frozen BK807.out 1
        try go_wp2_with (first | ((with_reducible refine gate_builtin (b := .append) (xs := #[.tmp 31, .tmp 32]) rfl ?_); at_builtin; refine Kd.R_append (Kd.int .u32) w.heap.size rfl (.tmp 31) (.tmp 32) 58 119 (.int .u32 0) 4 rfl Try.underlying58 info119 rfl (by decide) (by omega) (.slice Ao45 x808001_1.length co45) x808001_1 4294967295 [.int .u32 4294967295] (fun _ => True) (fun _ => False) rfl rfl ?aP (fun _ hk => hk.elim) ?aF ?aO (Below.refl _ _) ?aS ?aL ?_; (case aP => exact rfl); (case aF => exact (fun _ _ => trivial)); (case aO => exact (fR HO_808001)); (case aS => exact (keep_size (w := w) (g := g) (row := none) (fK HK))); (case aL => have := LMc43.out; omega); intro v818 w50 ho hb hg hat; rw [← Ny817.out] at ho; replace BK800 := am (blk_grown (g := gb800) (o := .cells #[.bool false, .slice none 0 0] 60 (0, 0)) (fb BK800) hg (Kd.R_ne HO_808001.out BK800.out (by decide))); replace BK807 := am (blk_grown (g := gb807) (o := .cells #[.bool t801, .slice Ao45 x808001_1.length co45] 60 (0, 0)) (fb BK807) hg (Kd.R_ne HO_808001.out BK807.out (by decide))); replace HI0 := am (IsS90.grown (fI HI0) hg (IsS90.own_ne HI0.out HO_808001.out (by decide))); replace HB := am (below_weaken (fB HB) HL.out hb); replace HK := am (KeepBut.trans (fK HK) (KeepBut.of_grown hg g) (Kd.R_base2 HO_808001.out)); have HO819 := am (ho); clear HO_808001; clear ho hb hg hat; obtain ⟨Ao51, co51, eo51⟩ := Kd.R_slice HO819.out; subst eo51; obtain ⟨hcz52_0, hcz52_1, hfz52_0, hfz52_1⟩ := cz2 BK807))
        go_roundg k1
        case measure => have := HK1.out; omega
        case rel => exact ⟨(t815), (t816), (y817), (.slice Ao51 y817.length co51), H', ⟨by have := HK1.out; omega⟩, ⟨tR1 HO819 BK807 (fun _ h => trivial)⟩, ⟨fb BK800⟩, ⟨fP BK807⟩, ⟨fI HI0⟩, ⟨fK HK⟩, ⟨fB HB⟩⟩
       ·
        rw [if_neg c43] at H
        exact absurd H (by simp)
      ·
       rw [if_neg c42] at H
       have c42b0 : decide ((x808001_1.length : Int) < (wrap64 (40 + t814))) = false := decide_eq_false c42
       clear c42
       simp only [Option.some.injEq, Prod.mk.injEq] at H
       obtain ⟨rfl, rfl, rfl, rfl⟩ := H
       try go_wp2
       replace HO_808001 := am (Kd.R_drew HO_808001.out); replace BK800 := am (blk_drew BK800.out); replace BK807 := am (blk_drew BK807.out); replace HI0 := am (IsS90.drew HI0.out); replace HK := am (keep_drew HK.out); replace HB := am (below_drew1 HB.out)
       obtain ⟨Ao54, co54, eo54⟩ := Kd.R_slice HO_808001.out
       (first | subst eo54 | (injection eo54 with f1_ f2_ f3_; have f4_ := f1_.symm; have f5_ := f3_.symm; clear f1_ f2_ f3_; subst f4_; subst f5_))
       refine start_ (n := 7) (S := fun w' => w'.cell? ⟨gb807, 0, none⟩ = some (.bool t801) ∧ w'.cell? ⟨gb807, 1, none⟩ = some (.slice Ao54 x808001_1.length co54)) (ds := []) #[false, false, false, false, false, false, false] (by kernel_rfl) rfl rfl (hh2 BK807) (fun hHeld => ?_)
       generalize wr.drew = w53 at HO_808001 BK800 BK807 HI0 HK HB hHeld ⊢
       refine pure_ (i := 0) (N := some 23) (v := ?_) (a' := ?_) #[true, false, false, false, false, false, false] rfl rfl (by kernel_rfl) (fun _ _ _ h => h) (Or.inl ⟨by rfl, ?_⟩) ?_ ?_
       rotate_left
       ·
        intro w'
        go_simp
        with_reducible rfl
       rotate_left
       ·
        simp only [Act.put, List.setIfInBounds_toArray, List.set_cons_zero, List.set_cons_succ, i64_w, i32_w]
        rfl
       refine pure_ (i := 3) (N := some 26) (v := ?_) (a' := ?_) #[true, false, false, true, false, false, false] rfl rfl (by kernel_rfl) (fun _ _ _ h => h) (Or.inl ⟨by rfl, ?_⟩) ?_ ?_
       rotate_left
       ·
        intro w'
        go_simp
        with_reducible rfl
       rotate_left
       ·
        simp only [Act.put, List.setIfInBounds_toArray, List.set_cons_zero, List.set_cons_succ, i64_w, i32_w]
        rfl
       refine take_ (i := 1) (N := some 24) (v := ?_) (a' := ?_) #[true, true, false, true, false, false, false] rfl rfl (by kernel_rfl) (fun _ _ _ h => h) (Or.inl ⟨by rfl, ?_⟩) hHeld ?_ ?_
       rotate_left
       ·
        rintro w' ⟨s0, s1⟩
        go_simp
        with_reducible rfl
       rotate_left
       ·
        simp only [Act.put, List.setIfInBounds_toArray, List.set_cons_zero, List.set_cons_succ, i64_w, i32_w]
        rfl
       refine pure_ (i := 2) (N := some 25) (v := ?_) (a' := ?_) #[true, true, true, true, false, false, false] rfl rfl (by kernel_rfl) (fun _ _ _ h => h) (Or.inl ⟨by rfl, ?_⟩) ?_ ?_
       rotate_left
       ·
        intro w'
        go_simp
        with_reducible rfl
       rotate_left
       ·
        simp only [Act.put, List.setIfInBounds_toArray, List.set_cons_zero, List.set_cons_succ, i64_w, i32_w]
        rfl
       refine one_ (i := 4) (N := some 27) #[true, true, true, true, true, false, false] rfl rfl (by kernel_rfl) (by decide) (fun K hK => ?_)
       refine ge Try.func56 #[.pointer (some ⟨g, 0, none⟩), .int .i64 2] ?_
       with_reducible refine (spec_l01Below.calls g s0_0 x1001_1 x1002_1 2 t814 t815 t816 w0 _ ?side1 ?side2 A41.out).mono ?_
       (case side1 => exact fI HI0)
       (case side2 => exact fB HB)
       rintro e w55 ⟨rfl, hi, hb, hk⟩
       refine ⟨_, rfl, ?_⟩
       replace HO_808001 := kR HI0 HO_808001 hk; replace BK800 := kK BK800 hk NB800_0; replace BK807 := kK BK807 hk NB807_0; replace HK := Kk HK hk; replace HB := am (hb); replace HI0 := am (hi)
       clear hb hk hi
       refine hK.out _ _ (hh2 BK807) (fun hHeld => ?_)
       clear hK K
       refine nm (some 27) ?_
       refine pure_ (i := 5) (N := some 28) (v := ?_) (a' := ?_) #[true, true, true, true, true, true, false] rfl rfl (by kernel_rfl) (fun _ _ _ h => h) (Or.inl ⟨by rfl, ?_⟩) ?_ ?_
       rotate_left
       ·
        intro w'
        go_simp
        with_reducible rfl
       rotate_left
       ·
        simp only [Act.put, List.setIfInBounds_toArray, List.set_cons_zero, List.set_cons_succ, i64_w, i32_w]
        rfl
       refine pure_ (i := 6) (N := some 29) (v := ?_) (a' := ?_) #[true, true, true, true, true, true, true] rfl rfl (by kernel_rfl) (fun _ _ _ h => h) (Or.inl ⟨by rfl, ?_⟩) ?_ ?_
       rotate_left
       ·
        intro w'
        go_simp
        with_reducible rfl
       rotate_left
       ·
        simp only [Act.put, List.setIfInBounds_toArray, List.set_cons_zero, List.set_cons_succ, i64_w, i32_w]
        rfl
       refine done_ (by kernel_rfl) ?_
       have hnb56 := NB807_800.out
       have hnc56 := NB800_807.out
       have hnb57 := NB807_0.out
       have hnc57 := NB0_807.out
       have hcz58_0 : w55.cell? ⟨gb807, 0, none⟩ = some (.bool t801) := (blk_cell BK807.out 0).trans rfl
       have hcz58_1 : w55.cell? ⟨gb807, 1, none⟩ = some (.slice Ao54 x808001_1.length co54) := (blk_cell BK807.out 1).trans rfl
       have hfz58_0 := blk_frozen BK807.out 0
       have hfz58_1 := blk_frozen BK807.out 1
       have hnb59 := NB800_0.out
       have hnc59 := NB0_800.out
       have hcz60_0 : w55.cell? ⟨gb800, 0, none⟩ = some (.bool false) := (blk_cell BK800.out 0).trans rfl
       have hcz60_1 : w55.cell? ⟨gb800, 1, none⟩ = some (.slice none 0 0) := (blk_cell BK800.out 1).trans rfl
       have hfz60_0 := blk_frozen BK800.out 0
       have hfz60_1 := blk_frozen BK800.out 1
       try go_wp2
       refine bodyPost_ret (results_cell_row rfl _ _ gb800 60 #[.bool t801, .slice Ao54 x808001_1.length co54] (0, 0) _ rfl (fP BK800) Try.underlying60 rfl (by kernel_rfl)) rfl ?_
       exact ⟨_, rz, tR1 HO_808001 BK800 (fun _ h => trivial), fI HI0, fB HB, fK HK⟩
   ·
    rw [if_neg c32] at H
    obtain ⟨c32b0, c32b1⟩ := bqf c32
    simp only [Option.some.injEq, Prod.mk.injEq] at H
    obtain ⟨rfl, rfl, rfl, rfl⟩ := H
    go_enter Try.func94, Try.ntmps94
    go_wp2_with (first | (refine bx 2 #[.bool false, .slice none 0 0] 60 ?_; intro gb800 hg w61 hbox hb; replace HB := sB HB hb; have BK800 := am (hbox); have GW800 := zK HK hg; have GE800 := zW HW0 (zK HK hg); replace HK := KB HK hb; obtain ⟨NB0_800, NB800_0⟩ := nI HI0 hg; replace HI0 := IB HI0 hb; clear hb hbox hg) | (refine cl 104 (some 5) Try.func104 #[.pointer (some ⟨g, 0, none⟩)] ?_; (with_reducible refine (spec_l02Some.calls k g s0_0 s0_1 s0_2 t801 t802 t805 t806 w0 _ ?side1 ?side2 A2.out).mono ?_); (case side1 => exact fI HI0); (case side2 => exact fB HB); rintro e w62 ⟨v803, rfl, ho0, hi, hb, hk⟩; refine ⟨_, rfl, ?_⟩; replace BK800 := kK BK800 hk NB800_0; have HO804 := loK ho0 HK; replace HK := Kk HK hk; replace HB := am (hb); replace HI0 := am (hi); clear hb hk hi ho0) | (refine bx 3 #[.bool false, .slice none 0 0] 60 ?_; intro gb807 hg w63 hbox hb; replace HO804 := RB HO804 hb; replace HB := sB HB hb; have BK807 := am (hbox); have GW807 := zK HK hg; have GE807 := zW HW0 (zK HK hg); replace HK := KB HK hb; obtain ⟨NB800_807, NB807_800⟩ := nB BK800 hg; replace BK800 := kB BK800 hb; obtain ⟨NB0_807, NB807_0⟩ := nI HI0 hg; replace HI0 := IB HI0 hb; clear hb hbox hg; have hnb64 := NB807_800.out; have hnc64 := NB800_807.out; have hnb65 := NB807_0.out; have hnc65 := NB0_807.out; obtain ⟨hcz66_0, hcz66_1, hfz66_0, hfz66_1⟩ := cz2 BK807; obtain ⟨Ao67, co67, eo67⟩ := Kd.R_slice HO804.out; subst eo67) | (refine cl 56 (some 7) Try.func56 #[.pointer (some ⟨g, 0, none⟩), .int .i64 25] ?_; (with_reducible refine (spec_l01Below.calls g s0_0 t805 t806 25 t808 t809 t810 w0 _ ?side1 ?side2 A3.out).mono ?_); (case side1 => exact fI HI0); (case side2 => exact fB HB); rintro e w68 ⟨rfl, hi, hb, hk⟩; refine ⟨_, rfl, ?_⟩; replace BK800 := kK BK800 hk NB800_0; replace HO804 := kX HI0 (tR1 HO804 BK807 (fun _ h => h.1)) hk; replace BK807 := am (KeepBut.blk hk (g' := gb807) (o := .cells #[.bool t801, .slice Ao67 t802.length co67] 60 (0, 0)) (fP BK807) NB807_0.out (by simp)); replace HK := Kk HK hk; replace HB := am (hb); replace HI0 := am (hi); clear hb hk hi; obtain ⟨hcz69_0, hcz69_1, hfz69_0, hfz69_1⟩ := cz2 BK807; have hnb70 := NB800_0.out; have hnc70 := NB0_800.out; obtain ⟨hcz71_0, hcz71_1, hfz71_0, hfz71_1⟩ := cz2 BK800))
    refine bodyPost_ret (results_cell_row rfl _ _ gb800 60 #[.bool t801, .slice Ao67 t802.length co67] (0, 0) _ rfl (fP BK800) Try.underlying60 rfl (by kernel_rfl)) rfl ?_
    exact ⟨_, rz, tR1 HO804 BK800 (fun _ h => trivial), fI HI0, fB HB, fK HK⟩
end Go.Proofs.Ytjdndacollpjkaa.MFnVars
