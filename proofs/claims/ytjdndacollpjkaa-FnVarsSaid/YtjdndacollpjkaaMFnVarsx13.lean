/- Contracts of the functions that the law FnVars reaches (walks in the form of the kit's print; what it does not take by hand). -/
import Derived.Test.YtjdndacollpjkaaFvL
import Derived.Test.YtjdndacollpjkaaMFnVarsx1
import Derived.Test.YtjdndacollpjkaaMFnVarsx4
import Derived.Test.YtjdndacollpjkaaMFnVarsx6
import Derived.Test.YtjdndacollpjkaaMFnVarsx11
import Derived.Test.YtjdndacollpjkaaMFnVarsx12
namespace Go.Proofs.Ytjdndacollpjkaa.MFnVars
open Go.RowKit Go.Proofs.YtjdndacollpjkaaW.PrintWords Go.Proofs.YtjdndacollpjkaaW.PrintLast Go.Proofs.YtjdndacollpjkaaW.PrintMore
attribute [local go_sem] fld60_0 fld60_1 max2_int min2_int max_two min_two max_three min_three max_four min_four   -- for this text's walks alone
set_option linter.unusedVariables false
set_option linter.unusedSimpArgs false

/-! ### spec_l03Any: function 80 -/
def spec_l03Any.T6 : Bool × List (List Nat × List Nat) := (true, [([], []), ([0], [0]), ([], []), ([1, 2, 2], [1, 2]), ([], []), ([4], [4]), ([3], []), ([5, 6, 6], [5, 6]), ([3, 7], [3, 7]), ([8, 7, 0, 1, 2, 3, 4, 5, 6, 7, 8], [8])])
def spec_l03Any.B6 : List Nat := [0, 1, 0, 7, 0, 16, 15, 127, 255, 511]
theorem spec_l03Any.tab6 : rtab .any (opsOf Try.f80 6) = spec_l03Any.T6 := by kernel_rfl
theorem spec_l03Any.bits6 : waitsOk spec_l03Any.T6.2 spec_l03Any.B6 = true := by kernel_rfl
set_option maxHeartbeats 8000000 in
set_option maxRecDepth 100000 in
theorem spec_l03Any.calls (k : Nat) (g : Nat) (s0_0 : List Int) (s0_1 : Int) (s0_2 : Int) (r1 : Bool) (r2 : List Int) (r3 : Bool) (r4 : List Int) (r5 : Int) (r6 : Int) (w0 w : World) (hI : IsS90 w0 w g s0_0 s0_1 s0_2) (hB : Below w0.heap.size w0 w) (h : spec_l03Any.f k s0_0 s0_1 s0_2 = some (r1, r2, r3, r4, r5, r6)) :
  Calls Try.prog 80 #[.pointer (some ⟨g, 0, none⟩)] w fun e w' => ∃ v1_ v3_ : Value, e = .returned (.agg #[.bool r1, v1_, .bool r3, v3_]) ∧ Kd.R (Kd.int .u32) 119 w' w.heap.size (fun k_ => some k_ ≠ (v3_ : Value).ownBlock) v1_ r2 ∧ Kd.R (Kd.int .u32) 119 w' w.heap.size (fun k_ => some k_ ≠ (v1_ : Value).ownBlock) v3_ r4 ∧ IsS90 w0 w' g s0_0 r5 r6 ∧ Below w0.heap.size w0 w' ∧ KeepBut w w' g none := by
 have hu62 := Try.underlying62
 have hu60 := Try.underlying60
 have HI0 := am hI
 have HK := am (KeepBut.refl w g none)
 have HL := am hB.size
 clear hI
 have HW0 := am hB.size
 have HB := am hB
 clear hB
 have H : ((spec_l03Some.f k s0_0 s0_1 s0_2).bind fun bt821 => ((spec_l01Below.f s0_0 bt821.2.2.2.2.1 bt821.2.2.2.2.2 30).bind fun bt832 => (if bt832.1 = 0 then (some (bt821.1, bt821.2.1, false, ([] : List Int), bt832.2.1, bt832.2.2)) else (if bt832.1 = 1 then ((spec_FromInt.f k 6).bind fun bt835 => ((spec_l02Mul.f k bt821.1 bt821.2.1 bt835.1 bt835.2).bind fun bt839 => ((spec_FromInt.f k 6).bind fun bt843 => ((spec_l02Mul.f k bt821.2.2.1 bt821.2.2.2.1 bt843.1 bt843.2).bind fun bt847 => (some (bt839.1, bt839.2, bt847.1, bt847.2, bt832.2.1, bt832.2.2)))))) else (if bt832.1 = 2 then ((spec_l02Neg.f k bt821.2.2.1 bt821.2.2.2.1).bind fun bt851 => (some (bt821.1, bt821.2.1, bt851.1, bt851.2, bt832.2.1, bt832.2.2))) else (if bt832.1 = 3 then ((spec_l02Any.f k s0_0 bt832.2.1 bt832.2.2).bind fun bt855 => ((spec_l02Any.f k s0_0 bt855.2.2.1 bt855.2.2.2).bind fun bt861 => (some (bt855.1, bt855.2.1, bt861.1, bt861.2.1, bt861.2.2.1, bt861.2.2.2)))) else (some (bt821.1, bt821.2.1, bt821.2.2.1, bt821.2.2.2.1, bt832.2.1, bt832.2.2)))))))) = some (r1, r2, r3, r4, r5, r6) := h
 clear h
 obtain ⟨⟨t821, t822, t825, t826, t829, t830⟩, A2, H⟩ := ub H; dsimp only at H
 obtain ⟨⟨t832, t833, t834⟩, A3, H⟩ := ub H; dsimp only at H
 by_cases c4 : t832 = 0
 ·
  rw [if_pos c4] at H
  obtain ⟨c4b0, c4b1⟩ := bqt c4
  clear c4
  simp only [Option.some.injEq, Prod.mk.injEq] at H
  obtain ⟨rfl, rfl, rfl, rfl, rfl, rfl⟩ := H
  go_enter Try.func80, Try.ntmps80
  go_wp2_with (first | (refine bx 2 #[.bool false, .slice none 0 0, .bool false, .slice none 0 0] 62 ?_; intro gb820 hg w5 hbox hb; replace HB := sB HB hb; have BK820 := am (hbox); have GW820 := zK HK hg; have GE820 := zW HW0 (zK HK hg); replace HK := KB HK hb; obtain ⟨NB0_820, NB820_0⟩ := nI HI0 hg; replace HI0 := IB HI0 hb; clear hb hbox hg) | (refine cl 90 (some 5) Try.func90 #[.pointer (some ⟨g, 0, none⟩)] ?_; (with_reducible refine (spec_l03Some.calls k g s0_0 s0_1 s0_2 t821 t822 t825 t826 t829 t830 w0 _ ?side1 ?side2 A2.out).mono ?_); (case side1 => exact fI HI0); (case side2 => exact fB HB); rintro e w6 ⟨v823, v827, rfl, ho0, ho1, hi, hb, hk⟩; refine ⟨_, rfl, ?_⟩; replace BK820 := kK BK820 hk NB820_0; have HO824 := loK ho0 HK; have HO828 := loK ho1 HK; replace HK := Kk HK hk; replace HB := am (hb); replace HI0 := am (hi); clear hb hk hi ho0 ho1) | (refine bx 3 #[.bool false, .slice none 0 0, .bool false, .slice none 0 0] 62 ?_; intro gb831 hg w7 hbox hb; replace HO824 := RB HO824 hb; replace HO828 := RB HO828 hb; replace HB := sB HB hb; have BK831 := am (hbox); have GW831 := zK HK hg; have GE831 := zW HW0 (zK HK hg); replace HK := KB HK hb; obtain ⟨NB820_831, NB831_820⟩ := nB BK820 hg; replace BK820 := kB BK820 hb; obtain ⟨NB0_831, NB831_0⟩ := nI HI0 hg; replace HI0 := IB HI0 hb; clear hb hbox hg; have hnb8 := NB831_820.out; have hnc8 := NB820_831.out; have hnb9 := NB831_0.out; have hnc9 := NB0_831.out; obtain ⟨hcz10_0, hcz10_1, hcz10_2, hcz10_3, hfz10_0, hfz10_1, hfz10_2, hfz10_3⟩ := cz4 BK831; obtain ⟨Ao11, co11, eo11⟩ := Kd.R_slice HO824.out; subst eo11; obtain ⟨Ao12, co12, eo12⟩ := Kd.R_slice HO828.out; subst eo12) | (refine cl 56 (some 7) Try.func56 #[.pointer (some ⟨g, 0, none⟩), .int .i64 30] ?_; (with_reducible refine (spec_l01Below.calls g s0_0 t829 t830 30 t832 t833 t834 w0 _ ?side1 ?side2 A3.out).mono ?_); (case side1 => exact fI HI0); (case side2 => exact fB HB); rintro e w13 ⟨rfl, hi, hb, hk⟩; refine ⟨_, rfl, ?_⟩; replace BK820 := kK BK820 hk NB820_0; replace HO824 := kX HI0 (tR1 HO824 BK831 (fun _ h => h.1)) hk; replace HO828 := kX HI0 (tR1 HO828 BK831 (fun _ h => h.1)) hk; replace BK831 := am (KeepBut.blk hk (g' := gb831) (o := .cells #[.bool t821, .slice Ao11 t822.length co11, .bool t825, .slice Ao12 t826.length co12] 62 (0, 0)) (fP BK831) NB831_0.out (by simp)); replace HK := Kk HK hk; replace HB := am (hb); replace HI0 := am (hi); clear hb hk hi; obtain ⟨hcz14_0, hcz14_1, hcz14_2, hcz14_3, hfz14_0, hfz14_1, hfz14_2, hfz14_3⟩ := cz4 BK831; have hnb15 := NB820_0.out; have hnc15 := NB0_820.out; obtain ⟨hcz16_0, hcz16_1, hcz16_2, hcz16_3, hfz16_0, hfz16_1, hfz16_2, hfz16_3⟩ := cz4 BK820))
  refine bodyPost_ret (results_cell_row rfl _ _ gb820 62 #[.bool t821, .slice Ao11 t822.length co11, .bool false, .slice none 0 0] (0, 0) _ rfl (fP BK820) Try.underlying62 rfl (by kernel_rfl)) rfl ?_
  exact ⟨_, _, rz, tR1 HO824 BK820 (fun _ h => (by simp [Value.ownBlock])), by first | exact Kd.R_nil _ _ _ _ _ | exact Kd.N_nil _ _ _ _ _ | exact Kd.V_nil _ _ _ _ _ | exact Kd.Q_nil _ _ _ _ _ | exact Kd.S_nil _ _ _ _ _, fI HI0, fB HB, fK HK⟩
 ·
  rw [if_neg c4] at H
  obtain ⟨c4b0, c4b1⟩ := bqf c4
  by_cases c17 : t832 = 1
  ·
   rw [if_pos c17] at H
   obtain ⟨c17b0, c17b1⟩ := bqt c17
   clear c17
   obtain ⟨⟨t835, t836⟩, A18, H⟩ := ub H; dsimp only at H
   obtain ⟨⟨t839, t840⟩, A19, H⟩ := ub H; dsimp only at H
   obtain ⟨⟨t843, t844⟩, A20, H⟩ := ub H; dsimp only at H
   obtain ⟨⟨t847, t848⟩, A21, H⟩ := ub H; dsimp only at H
   simp only [Option.some.injEq, Prod.mk.injEq] at H
   obtain ⟨rfl, rfl, rfl, rfl, rfl, rfl⟩ := H
   go_enter Try.func80, Try.ntmps80
   try go_wp2_with (first | (refine bx 2 #[.bool false, .slice none 0 0, .bool false, .slice none 0 0] 62 ?_; intro gb820 hg w22 hbox hb; replace HB := sB HB hb; have BK820 := am (hbox); have GW820 := zK HK hg; have GE820 := zW HW0 (zK HK hg); replace HK := KB HK hb; obtain ⟨NB0_820, NB820_0⟩ := nI HI0 hg; replace HI0 := IB HI0 hb; clear hb hbox hg) | (refine cl 90 (some 5) Try.func90 #[.pointer (some ⟨g, 0, none⟩)] ?_; (with_reducible refine (spec_l03Some.calls k g s0_0 s0_1 s0_2 t821 t822 t825 t826 t829 t830 w0 _ ?side1 ?side2 A2.out).mono ?_); (case side1 => exact fI HI0); (case side2 => exact fB HB); rintro e w23 ⟨v823, v827, rfl, ho0, ho1, hi, hb, hk⟩; refine ⟨_, rfl, ?_⟩; replace BK820 := kK BK820 hk NB820_0; have HO824 := loK ho0 HK; have HO828 := loK ho1 HK; replace HK := Kk HK hk; replace HB := am (hb); replace HI0 := am (hi); clear hb hk hi ho0 ho1) | (refine bx 3 #[.bool false, .slice none 0 0, .bool false, .slice none 0 0] 62 ?_; intro gb831 hg w24 hbox hb; replace HO824 := RB HO824 hb; replace HO828 := RB HO828 hb; replace HB := sB HB hb; have BK831 := am (hbox); have GW831 := zK HK hg; have GE831 := zW HW0 (zK HK hg); replace HK := KB HK hb; obtain ⟨NB820_831, NB831_820⟩ := nB BK820 hg; replace BK820 := kB BK820 hb; obtain ⟨NB0_831, NB831_0⟩ := nI HI0 hg; replace HI0 := IB HI0 hb; clear hb hbox hg; have hnb25 := NB831_820.out; have hnc25 := NB820_831.out; have hnb26 := NB831_0.out; have hnc26 := NB0_831.out; obtain ⟨hcz27_0, hcz27_1, hcz27_2, hcz27_3, hfz27_0, hfz27_1, hfz27_2, hfz27_3⟩ := cz4 BK831; obtain ⟨Ao28, co28, eo28⟩ := Kd.R_slice HO824.out; subst eo28; obtain ⟨Ao29, co29, eo29⟩ := Kd.R_slice HO828.out; subst eo29) | (refine cl 56 (some 7) Try.func56 #[.pointer (some ⟨g, 0, none⟩), .int .i64 30] ?_; (with_reducible refine (spec_l01Below.calls g s0_0 t829 t830 30 t832 t833 t834 w0 _ ?side1 ?side2 A3.out).mono ?_); (case side1 => exact fI HI0); (case side2 => exact fB HB); rintro e w30 ⟨rfl, hi, hb, hk⟩; refine ⟨_, rfl, ?_⟩; replace BK820 := kK BK820 hk NB820_0; replace HO824 := kX HI0 (tR1 HO824 BK831 (fun _ h => h.1)) hk; replace HO828 := kX HI0 (tR1 HO828 BK831 (fun _ h => h.1)) hk; replace BK831 := am (KeepBut.blk hk (g' := gb831) (o := .cells #[.bool t821, .slice Ao28 t822.length co28, .bool t825, .slice Ao29 t826.length co29] 62 (0, 0)) (fP BK831) NB831_0.out (by simp)); replace HK := Kk HK hk; replace HB := am (hb); replace HI0 := am (hi); clear hb hk hi))
   replace HO824 := am (Kd.R_drew HO824.out); replace HO828 := am (Kd.R_drew HO828.out); replace BK820 := am (blk_drew BK820.out); replace BK831 := am (blk_drew BK831.out); replace HI0 := am (IsS90.drew HI0.out); replace HK := am (keep_drew HK.out); replace HB := am (below_drew1 HB.out)
   refine start_ (n := 10) (S := fun w' => w'.cell? ⟨gb831, 0, none⟩ = some (.bool t821) ∧ w'.cell? ⟨gb831, 1, none⟩ = some (.slice Ao28 t822.length co28) ∧ w'.cell? ⟨gb831, 2, none⟩ = some (.bool t825) ∧ w'.cell? ⟨gb831, 3, none⟩ = some (.slice Ao29 t826.length co29)) (ds := []) #[false, false, false, false, false, false, false, false, false, false] (by kernel_rfl) rfl rfl ⟨(blk_cell BK831.out 0).trans rfl, (blk_cell BK831.out 1).trans rfl, (blk_cell BK831.out 2).trans rfl, (blk_cell BK831.out 3).trans rfl⟩ (fun hHeld => ?_); refine with_tabW spec_l03Any.tab6 spec_l03Any.bits6 (fun HT_ HW_ => ?_)
   generalize w30.drew = w31 at HO824 HO828 BK820 BK831 HI0 HK HB hHeld ⊢
   refine pu 0 (some 15) #[true, false, false, false, false, false, false, false, false, false] HT_ ?_
   refine pu 4 (some 19) #[true, false, false, false, true, false, false, false, false, false] HT_ ?_
   refine tk 1 (some 16) #[true, true, false, false, true, false, false, false, false, false] HT_ HW_ hHeld ?_
   refine tk 5 (some 20) #[true, true, false, false, true, true, false, false, false, false] HT_ HW_ hHeld ?_
   refine on 2 (some 17) #[true, true, true, false, true, true, false, false, false, false] HT_ (fun K hK => ?_)
   refine ge Try.func92 #[.int .i64 6] ?_
   with_reducible refine (spec_FromInt.calls k 6 t835 t836 _ A18.out).mono ?_
   rintro e w32 ⟨v837, rfl, ho0, hb⟩
   refine ⟨_, rfl, ?_⟩
   have HO838 := am (Kd.R_lower (Kd.R_new' (Kd.R_new' ho0 (Kd.R_lt (fR HO824))) (Kd.R_lt (fR HO828))) (keep_size (w := w) (g := g) (row := none) (fK HK))); replace HO824 := eR HO824 ho0 hb; replace HO828 := eR HO828 ho0 hb; replace HI0 := IB HI0 hb; replace BK820 := kB BK820 hb; replace BK831 := kB BK831 hb; replace HK := KB HK hb; replace HB := sB HB hb
   clear hb ho0
   obtain ⟨Ao33, co33, eo33⟩ := Kd.R_slice HO838.out
   (first | subst eo33 | (injection eo33 with f1_ f2_ f3_; have f4_ := f1_.symm; have f5_ := f3_.symm; clear f1_ f2_ f3_; subst f4_; subst f5_))
   refine hK.out _ _ ⟨(blk_cell BK831.out 0).trans rfl, (blk_cell BK831.out 1).trans rfl, (blk_cell BK831.out 2).trans rfl, (blk_cell BK831.out 3).trans rfl⟩ (fun hHeld => ?_)
   clear hK K
   refine nm (some 17) ?_
   refine on 3 (some 18) #[true, true, true, true, true, true, false, false, false, false] HT_ (fun K hK => ?_)
   refine ge Try.func91 #[.agg #[.bool t821, .slice Ao28 t822.length co28], .agg #[.bool t835, .slice Ao33 t836.length co33]] ?_
   with_reducible refine (spec_l02Mul.calls k t821 _ _ t822 t835 _ _ t836 t839 t840 _ ?side1 ?side2 ?side3 ?side4 A19.out).mono ?_
   (case side1 => repeat (first | exact (Kd.R_reads' HO824.out).2.2 | (with_reducible refine Kd.C_alloc ?_ _) | (with_reducible refine Kd.C_drewN ?_ _) | (with_reducible refine Kd.C_drew ?_)))
   (case side2 => exact (Kd.R_reads' HO824.out).2.1)
   (case side3 => repeat (first | exact (Kd.R_reads' HO838.out).2.2 | (with_reducible refine Kd.C_alloc ?_ _) | (with_reducible refine Kd.C_drewN ?_ _) | (with_reducible refine Kd.C_drew ?_)))
   (case side4 => exact (Kd.R_reads' HO838.out).2.1)
   rintro e w34 ⟨v841, rfl, ho0, hb⟩
   refine ⟨_, rfl, ?_⟩
   have HO842 := am (Kd.R_lower (Kd.R_new' (Kd.R_new' (Kd.R_new' ho0 (Kd.R_lt (fR HO824))) (Kd.R_lt (fR HO828))) (Kd.R_lt (fR HO838))) (keep_size (w := w) (g := g) (row := none) (fK HK))); replace HO824 := eR HO824 ho0 hb; replace HO828 := eR HO828 ho0 hb; replace HO838 := eR HO838 ho0 hb; replace HI0 := IB HI0 hb; replace BK820 := kB BK820 hb; replace BK831 := kB BK831 hb; replace HK := KB HK hb; replace HB := sB HB hb
   clear hb ho0
   refine hK.out _ _ ⟨(blk_cell BK831.out 0).trans rfl, (blk_cell BK831.out 1).trans rfl, (blk_cell BK831.out 2).trans rfl, (blk_cell BK831.out 3).trans rfl⟩ (fun hHeld => ?_)
   clear hK K
   refine nm (some 18) ?_
   refine on 6 (some 21) #[true, true, true, true, true, true, true, false, false, false] HT_ (fun K hK => ?_)
   refine ge Try.func92 #[.int .i64 6] ?_
   with_reducible refine (spec_FromInt.calls k 6 t843 t844 _ A20.out).mono ?_
   rintro e w35 ⟨v845, rfl, ho0, hb⟩
   refine ⟨_, rfl, ?_⟩
   have HO846 := am (Kd.R_lower (Kd.R_new' (Kd.R_new' (Kd.R_new' (Kd.R_new' ho0 (Kd.R_lt (fR HO824))) (Kd.R_lt (fR HO828))) (Kd.R_lt (fR HO838))) (Kd.R_lt (fR HO842))) (keep_size (w := w) (g := g) (row := none) (fK HK))); replace HO824 := eR HO824 ho0 hb; replace HO828 := eR HO828 ho0 hb; replace HO838 := eR HO838 ho0 hb; replace HO842 := eR HO842 ho0 hb; replace HI0 := IB HI0 hb; replace BK820 := kB BK820 hb; replace BK831 := kB BK831 hb; replace HK := KB HK hb; replace HB := sB HB hb
   clear hb ho0
   obtain ⟨Ao36, co36, eo36⟩ := Kd.R_slice HO846.out
   (first | subst eo36 | (injection eo36 with f1_ f2_ f3_; have f4_ := f1_.symm; have f5_ := f3_.symm; clear f1_ f2_ f3_; subst f4_; subst f5_))
   refine hK.out _ _ ⟨(blk_cell BK831.out 0).trans rfl, (blk_cell BK831.out 1).trans rfl, (blk_cell BK831.out 2).trans rfl, (blk_cell BK831.out 3).trans rfl⟩ (fun hHeld => ?_)
   clear hK K
   refine nm (some 21) ?_
   refine on 7 (some 22) #[true, true, true, true, true, true, true, true, false, false] HT_ (fun K hK => ?_)
   refine ge Try.func91 #[.agg #[.bool t825, .slice Ao29 t826.length co29], .agg #[.bool t843, .slice Ao36 t844.length co36]] ?_
   with_reducible refine (spec_l02Mul.calls k t825 _ _ t826 t843 _ _ t844 t847 t848 _ ?side1 ?side2 ?side3 ?side4 A21.out).mono ?_
   (case side1 => repeat (first | exact (Kd.R_reads' HO828.out).2.2 | (with_reducible refine Kd.C_alloc ?_ _) | (with_reducible refine Kd.C_drewN ?_ _) | (with_reducible refine Kd.C_drew ?_)))
   (case side2 => exact (Kd.R_reads' HO828.out).2.1)
   (case side3 => repeat (first | exact (Kd.R_reads' HO846.out).2.2 | (with_reducible refine Kd.C_alloc ?_ _) | (with_reducible refine Kd.C_drewN ?_ _) | (with_reducible refine Kd.C_drew ?_)))
   (case side4 => exact (Kd.R_reads' HO846.out).2.1)
   rintro e w37 ⟨v849, rfl, ho0, hb⟩
   refine ⟨_, rfl, ?_⟩
   have HO850 := am (Kd.R_lower (Kd.R_new' (Kd.R_new' (Kd.R_new' (Kd.R_new' (Kd.R_new' ho0 (Kd.R_lt (fR HO824))) (Kd.R_lt (fR HO828))) (Kd.R_lt (fR HO838))) (Kd.R_lt (fR HO842))) (Kd.R_lt (fR HO846))) (keep_size (w := w) (g := g) (row := none) (fK HK))); replace HO824 := eR HO824 ho0 hb; replace HO828 := eR HO828 ho0 hb; replace HO838 := eR HO838 ho0 hb; replace HO842 := eR HO842 ho0 hb; replace HO846 := eR HO846 ho0 hb; replace HI0 := IB HI0 hb; replace BK820 := kB BK820 hb; replace BK831 := kB BK831 hb; replace HK := KB HK hb; replace HB := sB HB hb
   clear hb ho0
   obtain ⟨Ao38, co38, eo38⟩ := Kd.R_slice HO850.out
   (first | subst eo38 | (injection eo38 with f1_ f2_ f3_; have f4_ := f1_.symm; have f5_ := f3_.symm; clear f1_ f2_ f3_; subst f4_; subst f5_))
   obtain ⟨Ao39, co39, eo39⟩ := Kd.R_slice HO842.out
   (first | subst eo39 | (injection eo39 with f1_ f2_ f3_; have f4_ := f1_.symm; have f5_ := f3_.symm; clear f1_ f2_ f3_; subst f4_; subst f5_))
   refine hK.out _ _ ⟨(blk_cell BK831.out 0).trans rfl, (blk_cell BK831.out 1).trans rfl, (blk_cell BK831.out 2).trans rfl, (blk_cell BK831.out 3).trans rfl⟩ (fun hHeld => ?_)
   clear hK K
   refine nm (some 22) ?_
   refine pu 8 (some 23) #[true, true, true, true, true, true, true, true, true, false] HT_ ?_
   refine on 9 (none) #[true, true, true, true, true, true, true, true, true, true] HT_ (fun K hK => ?_)
   have hs40 : w37.cell? ⟨gb820, 0, none⟩ = some (.bool false) := (blk_cell BK820.out 0).trans rfl
   have hfs40 := blk_frozen BK820.out 0
   have hns40_1 := NB831_820.out
   have hms40_1 := NB820_831.out
   have hs41 : w37.cell? ⟨gb820, 1, none⟩ = some (.slice none 0 0) := (blk_cell BK820.out 1).trans rfl
   have hfs41 := blk_frozen BK820.out 1
   have hns41_1 := NB831_820.out
   have hms41_1 := NB820_831.out
   have hs42 : w37.cell? ⟨gb820, 2, none⟩ = some (.bool false) := (blk_cell BK820.out 2).trans rfl
   have hfs42 := blk_frozen BK820.out 2
   have hns42_1 := NB831_820.out
   have hms42_1 := NB820_831.out
   have hs43 : w37.cell? ⟨gb820, 3, none⟩ = some (.slice none 0 0) := (blk_cell BK820.out 3).trans rfl
   have hfs43 := blk_frozen BK820.out 3
   have hns43_1 := NB831_820.out
   have hms43_1 := NB820_831.out
   refine skip_ (w1 := ?_) (by rfl) rfl ?_ ?_
   rotate_left
   ·
    go_simp
    rfl
   refine hK.out _ _ ⟨((cell_far (p := ⟨gb820, _, none⟩) NB831_820.out _).trans (((cell_far (p := ⟨gb820, _, none⟩) NB831_820.out _).trans (((cell_far (p := ⟨gb820, _, none⟩) NB831_820.out _).trans (((cell_far (p := ⟨gb820, _, none⟩) NB831_820.out _).trans (hHeld.1)))))))), ((cell_far (p := ⟨gb820, _, none⟩) NB831_820.out _).trans (((cell_far (p := ⟨gb820, _, none⟩) NB831_820.out _).trans (((cell_far (p := ⟨gb820, _, none⟩) NB831_820.out _).trans (((cell_far (p := ⟨gb820, _, none⟩) NB831_820.out _).trans (hHeld.2.1)))))))), ((cell_far (p := ⟨gb820, _, none⟩) NB831_820.out _).trans (((cell_far (p := ⟨gb820, _, none⟩) NB831_820.out _).trans (((cell_far (p := ⟨gb820, _, none⟩) NB831_820.out _).trans (((cell_far (p := ⟨gb820, _, none⟩) NB831_820.out _).trans (hHeld.2.2.1)))))))), ((cell_far (p := ⟨gb820, _, none⟩) NB831_820.out _).trans (((cell_far (p := ⟨gb820, _, none⟩) NB831_820.out _).trans (((cell_far (p := ⟨gb820, _, none⟩) NB831_820.out _).trans (((cell_far (p := ⟨gb820, _, none⟩) NB831_820.out _).trans (hHeld.2.2.2))))))))⟩ (fun hHeld => ?_)
   clear hK K
   refine done_ (done_of HT_.out (by kernel_rfl)) ?_
   try go_wp2
   refine bodyPost_ret (results_cell_row rfl _ _ gb820 62 #[.bool t839, .slice Ao39 t840.length co39, .bool t847, .slice Ao38 t848.length co38] (0, 0) _ rfl (fP BK820) Try.underlying62 rfl (by kernel_rfl)) rfl ?_
   exact ⟨_, _, rz, tR1 HO842 BK820 (fun _ h => h.1.2), tR1 HO850 BK820 (fun _ h => h.1.1.2), fI HI0, fB HB, fK HK⟩
  ·
   rw [if_neg c17] at H
   obtain ⟨c17b0, c17b1⟩ := bqf c17
   by_cases c44 : t832 = 2
   ·
    rw [if_pos c44] at H
    obtain ⟨c44b0, c44b1⟩ := bqt c44
    clear c44
    obtain ⟨⟨t851, t852⟩, A45, H⟩ := ub H; dsimp only at H
    simp only [Option.some.injEq, Prod.mk.injEq] at H
    obtain ⟨rfl, rfl, rfl, rfl, rfl, rfl⟩ := H
    go_enter Try.func80, Try.ntmps80
    try go_wp2_with (first | (refine bx 2 #[.bool false, .slice none 0 0, .bool false, .slice none 0 0] 62 ?_; intro gb820 hg w46 hbox hb; replace HB := sB HB hb; have BK820 := am (hbox); have GW820 := zK HK hg; have GE820 := zW HW0 (zK HK hg); replace HK := KB HK hb; obtain ⟨NB0_820, NB820_0⟩ := nI HI0 hg; replace HI0 := IB HI0 hb; clear hb hbox hg) | (refine cl 90 (some 5) Try.func90 #[.pointer (some ⟨g, 0, none⟩)] ?_; (with_reducible refine (spec_l03Some.calls k g s0_0 s0_1 s0_2 t821 t822 t825 t826 t829 t830 w0 _ ?side1 ?side2 A2.out).mono ?_); (case side1 => exact fI HI0); (case side2 => exact fB HB); rintro e w47 ⟨v823, v827, rfl, ho0, ho1, hi, hb, hk⟩; refine ⟨_, rfl, ?_⟩; replace BK820 := kK BK820 hk NB820_0; have HO824 := loK ho0 HK; have HO828 := loK ho1 HK; replace HK := Kk HK hk; replace HB := am (hb); replace HI0 := am (hi); clear hb hk hi ho0 ho1) | (refine bx 3 #[.bool false, .slice none 0 0, .bool false, .slice none 0 0] 62 ?_; intro gb831 hg w48 hbox hb; replace HO824 := RB HO824 hb; replace HO828 := RB HO828 hb; replace HB := sB HB hb; have BK831 := am (hbox); have GW831 := zK HK hg; have GE831 := zW HW0 (zK HK hg); replace HK := KB HK hb; obtain ⟨NB820_831, NB831_820⟩ := nB BK820 hg; replace BK820 := kB BK820 hb; obtain ⟨NB0_831, NB831_0⟩ := nI HI0 hg; replace HI0 := IB HI0 hb; clear hb hbox hg; have hnb49 := NB831_820.out; have hnc49 := NB820_831.out; have hnb50 := NB831_0.out; have hnc50 := NB0_831.out; obtain ⟨hcz51_0, hcz51_1, hcz51_2, hcz51_3, hfz51_0, hfz51_1, hfz51_2, hfz51_3⟩ := cz4 BK831; obtain ⟨Ao52, co52, eo52⟩ := Kd.R_slice HO824.out; subst eo52; obtain ⟨Ao53, co53, eo53⟩ := Kd.R_slice HO828.out; subst eo53) | (refine cl 56 (some 7) Try.func56 #[.pointer (some ⟨g, 0, none⟩), .int .i64 30] ?_; (with_reducible refine (spec_l01Below.calls g s0_0 t829 t830 30 t832 t833 t834 w0 _ ?side1 ?side2 A3.out).mono ?_); (case side1 => exact fI HI0); (case side2 => exact fB HB); rintro e w54 ⟨rfl, hi, hb, hk⟩; refine ⟨_, rfl, ?_⟩; replace BK820 := kK BK820 hk NB820_0; replace HO824 := kX HI0 (tR1 HO824 BK831 (fun _ h => h.1)) hk; replace HO828 := kX HI0 (tR1 HO828 BK831 (fun _ h => h.1)) hk; replace BK831 := am (KeepBut.blk hk (g' := gb831) (o := .cells #[.bool t821, .slice Ao52 t822.length co52, .bool t825, .slice Ao53 t826.length co53] 62 (0, 0)) (fP BK831) NB831_0.out (by simp)); replace HK := Kk HK hk; replace HB := am (hb); replace HI0 := am (hi); clear hb hk hi))
    replace HO824 := am (Kd.R_drew HO824.out); replace HO828 := am (Kd.R_drew HO828.out); replace BK820 := am (blk_drew BK820.out); replace BK831 := am (blk_drew BK831.out); replace HI0 := am (IsS90.drew HI0.out); replace HK := am (keep_drew HK.out); replace HB := am (below_drew1 HB.out)
    refine start_ (n := 7) (S := fun w' => w'.cell? ⟨gb831, 0, none⟩ = some (.bool t821) ∧ w'.cell? ⟨gb831, 1, none⟩ = some (.slice Ao52 t822.length co52) ∧ w'.cell? ⟨gb831, 2, none⟩ = some (.bool t825) ∧ w'.cell? ⟨gb831, 3, none⟩ = some (.slice Ao53 t826.length co53)) (ds := []) #[false, false, false, false, false, false, false] (by kernel_rfl) rfl rfl ⟨(blk_cell BK831.out 0).trans rfl, (blk_cell BK831.out 1).trans rfl, (blk_cell BK831.out 2).trans rfl, (blk_cell BK831.out 3).trans rfl⟩ (fun hHeld => ?_)
    generalize w54.drew = w55 at HO824 HO828 BK820 BK831 HI0 HK HB hHeld ⊢
    refine pure_ (i := 0) (N := some 26) (v := ?_) (a' := ?_) #[true, false, false, false, false, false, false] rfl rfl (by kernel_rfl) (fun _ _ _ h => h) (Or.inl ⟨by rfl, ?_⟩) ?_ ?_
    rotate_left
    ·
     intro w'
     go_simp
     with_reducible rfl
    rotate_left
    ·
     simp only [Act.put, List.setIfInBounds_toArray, List.set_cons_zero, List.set_cons_succ, i64_w, i32_w]
     rfl
    refine pure_ (i := 2) (N := some 28) (v := ?_) (a' := ?_) #[true, false, true, false, false, false, false] rfl rfl (by kernel_rfl) (fun _ _ _ h => h) (Or.inl ⟨by rfl, ?_⟩) ?_ ?_
    rotate_left
    ·
     intro w'
     go_simp
     with_reducible rfl
    rotate_left
    ·
     simp only [Act.put, List.setIfInBounds_toArray, List.set_cons_zero, List.set_cons_succ, i64_w, i32_w]
     rfl
    refine take_ (i := 1) (N := some 27) (v := ?_) (a' := ?_) #[true, true, true, false, false, false, false] rfl rfl (by kernel_rfl) (fun _ _ _ h => h) (Or.inl ⟨by rfl, ?_⟩) hHeld ?_ ?_
    rotate_left
    ·
     rintro w' ⟨s0, s1, s2, s3⟩
     go_simp
     with_reducible rfl
    rotate_left
    ·
     simp only [Act.put, List.setIfInBounds_toArray, List.set_cons_zero, List.set_cons_succ, i64_w, i32_w]
     rfl
    refine take_ (i := 3) (N := some 29) (v := ?_) (a' := ?_) #[true, true, true, true, false, false, false] rfl rfl (by kernel_rfl) (fun _ _ _ h => h) (Or.inl ⟨by rfl, ?_⟩) hHeld ?_ ?_
    rotate_left
    ·
     rintro w' ⟨s0, s1, s2, s3⟩
     go_simp
     with_reducible rfl
    rotate_left
    ·
     simp only [Act.put, List.setIfInBounds_toArray, List.set_cons_zero, List.set_cons_succ, i64_w, i32_w]
     rfl
    refine one_ (i := 4) (N := some 30) #[true, true, true, true, true, false, false] rfl rfl (by kernel_rfl) (by decide) (fun K hK => ?_)
    refine ge Try.func93 #[.agg #[.bool t825, .slice Ao53 t826.length co53]] ?_
    with_reducible refine (spec_l02Neg.calls k t825 _ _ t826 t851 t852 _ ?side1 ?side2 A45.out).mono ?_
    (case side1 => repeat (first | exact (Kd.R_reads' HO828.out).2.2 | (with_reducible refine Kd.C_alloc ?_ _) | (with_reducible refine Kd.C_drewN ?_ _) | (with_reducible refine Kd.C_drew ?_)))
    (case side2 => exact (Kd.R_reads' HO828.out).2.1)
    rintro e w56 ⟨v853, rfl, ho0, hb⟩
    refine ⟨_, rfl, ?_⟩
    have HO854 := am (Kd.R_lower (Kd.R_new' (Kd.R_new' ho0 (Kd.R_lt (fR HO824))) (Kd.R_lt (fR HO828))) (keep_size (w := w) (g := g) (row := none) (fK HK))); replace HO824 := eR HO824 ho0 hb; replace HO828 := eR HO828 ho0 hb; replace HI0 := IB HI0 hb; replace BK820 := kB BK820 hb; replace BK831 := kB BK831 hb; replace HK := KB HK hb; replace HB := sB HB hb
    clear hb ho0
    obtain ⟨Ao57, co57, eo57⟩ := Kd.R_slice HO854.out
    (first | subst eo57 | (injection eo57 with f1_ f2_ f3_; have f4_ := f1_.symm; have f5_ := f3_.symm; clear f1_ f2_ f3_; subst f4_; subst f5_))
    refine hK.out _ _ ⟨(blk_cell BK831.out 0).trans rfl, (blk_cell BK831.out 1).trans rfl, (blk_cell BK831.out 2).trans rfl, (blk_cell BK831.out 3).trans rfl⟩ (fun hHeld => ?_)
    clear hK K
    refine nm (some 30) ?_
    refine pure_ (i := 5) (N := some 31) (v := ?_) (a' := ?_) #[true, true, true, true, true, true, false] rfl rfl (by kernel_rfl) (fun _ _ _ h => h) (Or.inl ⟨by rfl, ?_⟩) ?_ ?_
    rotate_left
    ·
     intro w'
     go_simp
     with_reducible rfl
    rotate_left
    ·
     simp only [Act.put, List.setIfInBounds_toArray, List.set_cons_zero, List.set_cons_succ, i64_w, i32_w]
     rfl
    refine one_ (i := 6) (N := none) #[true, true, true, true, true, true, true] rfl rfl (by kernel_rfl) (by decide) (fun K hK => ?_)
    have hs58 : w56.cell? ⟨gb820, 0, none⟩ = some (.bool false) := (blk_cell BK820.out 0).trans rfl
    have hfs58 := blk_frozen BK820.out 0
    have hns58_1 := NB831_820.out
    have hms58_1 := NB820_831.out
    have hs59 : w56.cell? ⟨gb820, 1, none⟩ = some (.slice none 0 0) := (blk_cell BK820.out 1).trans rfl
    have hfs59 := blk_frozen BK820.out 1
    have hns59_1 := NB831_820.out
    have hms59_1 := NB820_831.out
    have hs60 : w56.cell? ⟨gb820, 2, none⟩ = some (.bool false) := (blk_cell BK820.out 2).trans rfl
    have hfs60 := blk_frozen BK820.out 2
    have hns60_1 := NB831_820.out
    have hms60_1 := NB820_831.out
    have hs61 : w56.cell? ⟨gb820, 3, none⟩ = some (.slice none 0 0) := (blk_cell BK820.out 3).trans rfl
    have hfs61 := blk_frozen BK820.out 3
    have hns61_1 := NB831_820.out
    have hms61_1 := NB820_831.out
    refine skip_ (w1 := ?_) (by rfl) rfl ?_ ?_
    rotate_left
    ·
     go_simp
     rfl
    refine hK.out _ _ ⟨((cell_far (p := ⟨gb820, _, none⟩) NB831_820.out _).trans (((cell_far (p := ⟨gb820, _, none⟩) NB831_820.out _).trans (((cell_far (p := ⟨gb820, _, none⟩) NB831_820.out _).trans (((cell_far (p := ⟨gb820, _, none⟩) NB831_820.out _).trans (hHeld.1)))))))), ((cell_far (p := ⟨gb820, _, none⟩) NB831_820.out _).trans (((cell_far (p := ⟨gb820, _, none⟩) NB831_820.out _).trans (((cell_far (p := ⟨gb820, _, none⟩) NB831_820.out _).trans (((cell_far (p := ⟨gb820, _, none⟩) NB831_820.out _).trans (hHeld.2.1)))))))), ((cell_far (p := ⟨gb820, _, none⟩) NB831_820.out _).trans (((cell_far (p := ⟨gb820, _, none⟩) NB831_820.out _).trans (((cell_far (p := ⟨gb820, _, none⟩) NB831_820.out _).trans (((cell_far (p := ⟨gb820, _, none⟩) NB831_820.out _).trans (hHeld.2.2.1)))))))), ((cell_far (p := ⟨gb820, _, none⟩) NB831_820.out _).trans (((cell_far (p := ⟨gb820, _, none⟩) NB831_820.out _).trans (((cell_far (p := ⟨gb820, _, none⟩) NB831_820.out _).trans (((cell_far (p := ⟨gb820, _, none⟩) NB831_820.out _).trans (hHeld.2.2.2))))))))⟩ (fun hHeld => ?_)
    clear hK K
    refine done_ (by kernel_rfl) ?_
    try go_wp2
    refine bodyPost_ret (results_cell_row rfl _ _ gb820 62 #[.bool t821, .slice Ao52 t822.length co52, .bool t851, .slice Ao57 t852.length co57] (0, 0) _ rfl (fP BK820) Try.underlying62 rfl (by kernel_rfl)) rfl ?_
    exact ⟨_, _, rz, tR1 HO824 BK820 (fun _ h => h.1.2), tR1 HO854 BK820 (fun _ h => h.1.1.2), fI HI0, fB HB, fK HK⟩
   ·
    rw [if_neg c44] at H
    obtain ⟨c44b0, c44b1⟩ := bqf c44
    by_cases c62 : t832 = 3
    ·
     rw [if_pos c62] at H
     obtain ⟨c62b0, c62b1⟩ := bqt c62
     clear c62
     obtain ⟨⟨t855, t856, t859, t860⟩, A63, H⟩ := ub H; dsimp only at H
     obtain ⟨⟨t861, t862, t865, t866⟩, A64, H⟩ := ub H; dsimp only at H
     simp only [Option.some.injEq, Prod.mk.injEq] at H
     obtain ⟨rfl, rfl, rfl, rfl, rfl, rfl⟩ := H
     go_enter Try.func80, Try.ntmps80
     go_wp2_with (first | (refine bx 2 #[.bool false, .slice none 0 0, .bool false, .slice none 0 0] 62 ?_; intro gb820 hg w65 hbox hb; replace HB := sB HB hb; have BK820 := am (hbox); have GW820 := zK HK hg; have GE820 := zW HW0 (zK HK hg); replace HK := KB HK hb; obtain ⟨NB0_820, NB820_0⟩ := nI HI0 hg; replace HI0 := IB HI0 hb; clear hb hbox hg) | (refine cl 90 (some 5) Try.func90 #[.pointer (some ⟨g, 0, none⟩)] ?_; (with_reducible refine (spec_l03Some.calls k g s0_0 s0_1 s0_2 t821 t822 t825 t826 t829 t830 w0 _ ?side1 ?side2 A2.out).mono ?_); (case side1 => exact fI HI0); (case side2 => exact fB HB); rintro e w66 ⟨v823, v827, rfl, ho0, ho1, hi, hb, hk⟩; refine ⟨_, rfl, ?_⟩; replace BK820 := kK BK820 hk NB820_0; have HO824 := loK ho0 HK; have HO828 := loK ho1 HK; replace HK := Kk HK hk; replace HB := am (hb); replace HI0 := am (hi); clear hb hk hi ho0 ho1) | (refine bx 3 #[.bool false, .slice none 0 0, .bool false, .slice none 0 0] 62 ?_; intro gb831 hg w67 hbox hb; replace HO824 := RB HO824 hb; replace HO828 := RB HO828 hb; replace HB := sB HB hb; have BK831 := am (hbox); have GW831 := zK HK hg; have GE831 := zW HW0 (zK HK hg); replace HK := KB HK hb; obtain ⟨NB820_831, NB831_820⟩ := nB BK820 hg; replace BK820 := kB BK820 hb; obtain ⟨NB0_831, NB831_0⟩ := nI HI0 hg; replace HI0 := IB HI0 hb; clear hb hbox hg; have hnb68 := NB831_820.out; have hnc68 := NB820_831.out; have hnb69 := NB831_0.out; have hnc69 := NB0_831.out; obtain ⟨hcz70_0, hcz70_1, hcz70_2, hcz70_3, hfz70_0, hfz70_1, hfz70_2, hfz70_3⟩ := cz4 BK831; obtain ⟨Ao71, co71, eo71⟩ := Kd.R_slice HO824.out; subst eo71; obtain ⟨Ao72, co72, eo72⟩ := Kd.R_slice HO828.out; subst eo72) | (refine cl 56 (some 7) Try.func56 #[.pointer (some ⟨g, 0, none⟩), .int .i64 30] ?_; (with_reducible refine (spec_l01Below.calls g s0_0 t829 t830 30 t832 t833 t834 w0 _ ?side1 ?side2 A3.out).mono ?_); (case side1 => exact fI HI0); (case side2 => exact fB HB); rintro e w73 ⟨rfl, hi, hb, hk⟩; refine ⟨_, rfl, ?_⟩; replace BK820 := kK BK820 hk NB820_0; replace HO824 := kX HI0 (tR1 HO824 BK831 (fun _ h => h.1)) hk; replace HO828 := kX HI0 (tR1 HO828 BK831 (fun _ h => h.1)) hk; replace BK831 := am (KeepBut.blk hk (g' := gb831) (o := .cells #[.bool t821, .slice Ao71 t822.length co71, .bool t825, .slice Ao72 t826.length co72] 62 (0, 0)) (fP BK831) NB831_0.out (by simp)); replace HK := Kk HK hk; replace HB := am (hb); replace HI0 := am (hi); clear hb hk hi) | (refine cl 94 (some 35) Try.func94 #[.pointer (some ⟨g, 0, none⟩)] ?_; (with_reducible refine (spec_l02Any.calls k g s0_0 t833 t834 t855 t856 t859 t860 w0 _ ?side1 ?side2 A63.out).mono ?_); (case side1 => exact fI HI0); (case side2 => exact fB HB); rintro e w74 ⟨v857, rfl, ho0, hi, hb, hk⟩; refine ⟨_, rfl, ?_⟩; replace BK820 := kK BK820 hk NB820_0; replace BK831 := kK BK831 hk NB831_0; have HO858 := am (Kd.R_lower (Kd.R_new' (Kd.R_new' ho0 (Kd.R_lt (fR HO824))) (Kd.R_lt (fR HO828))) (keep_size (w := w) (g := g) (row := none) (fK HK))); replace HO824 := am (Kd.R_mono (Kd.R_told (Kd.R_oldK (IsS90.apart (show IsS90 w0 _ g s0_0 t833 t834 from fI HI0) (fR HO824) (by decide)) hk) (Kd.R_base ho0)) (fun _ h_ => h_.1)); replace HO828 := am (Kd.R_mono (Kd.R_told (Kd.R_oldK (IsS90.apart (show IsS90 w0 _ g s0_0 t833 t834 from fI HI0) (fR HO828) (by decide)) hk) (Kd.R_base ho0)) (fun _ h_ => h_.1)); replace HK := Kk HK hk; replace HB := am (hb); replace HI0 := am (hi); clear hb hk hi ho0) | (refine cl 94 (some 37) Try.func94 #[.pointer (some ⟨g, 0, none⟩)] ?_; (with_reducible refine (spec_l02Any.calls k g s0_0 t859 t860 t861 t862 t865 t866 w0 _ ?side1 ?side2 A64.out).mono ?_); (case side1 => exact fI HI0); (case side2 => exact fB HB); rintro e w75 ⟨v863, rfl, ho0, hi, hb, hk⟩; refine ⟨_, rfl, ?_⟩; replace BK820 := kK BK820 hk NB820_0; replace BK831 := kK BK831 hk NB831_0; have HO864 := am (Kd.R_lower (Kd.R_new' (Kd.R_new' (Kd.R_new' ho0 (Kd.R_lt (fR HO824))) (Kd.R_lt (fR HO828))) (Kd.R_lt (fR HO858))) (keep_size (w := w) (g := g) (row := none) (fK HK))); replace HO824 := am (Kd.R_mono (Kd.R_told (Kd.R_oldK (IsS90.apart (show IsS90 w0 _ g s0_0 t859 t860 from fI HI0) (fR HO824) (by decide)) hk) (Kd.R_base ho0)) (fun _ h_ => h_.1)); replace HO828 := am (Kd.R_mono (Kd.R_told (Kd.R_oldK (IsS90.apart (show IsS90 w0 _ g s0_0 t859 t860 from fI HI0) (fR HO828) (by decide)) hk) (Kd.R_base ho0)) (fun _ h_ => h_.1)); replace HO858 := am (Kd.R_mono (Kd.R_told (Kd.R_oldK (IsS90.apart (show IsS90 w0 _ g s0_0 t859 t860 from fI HI0) (fR HO858) (by decide)) hk) (Kd.R_base ho0)) (fun _ h_ => h_.1)); replace HK := Kk HK hk; replace HB := am (hb); replace HI0 := am (hi); clear hb hk hi ho0; obtain ⟨Ao76, co76, eo76⟩ := Kd.R_slice HO864.out; subst eo76; obtain ⟨Ao77, co77, eo77⟩ := Kd.R_slice HO858.out; subst eo77; have hnb78 := NB820_0.out; have hnc78 := NB0_820.out; obtain ⟨hcz79_0, hcz79_1, hcz79_2, hcz79_3, hfz79_0, hfz79_1, hfz79_2, hfz79_3⟩ := cz4 BK820))
     refine bodyPost_ret (results_cell_row rfl _ _ gb820 62 #[.bool t855, .slice Ao77 t856.length co77, .bool t861, .slice Ao76 t862.length co76] (0, 0) _ rfl (fP BK820) Try.underlying62 rfl (by kernel_rfl)) rfl ?_
     exact ⟨_, _, rz, tR1 HO858 BK820 (fun _ h => h.1.2), tR1 HO864 BK820 (fun _ h => h.1.2), fI HI0, fB HB, fK HK⟩
    ·
     rw [if_neg c62] at H
     obtain ⟨c62b0, c62b1⟩ := bqf c62
     simp only [Option.some.injEq, Prod.mk.injEq] at H
     obtain ⟨rfl, rfl, rfl, rfl, rfl, rfl⟩ := H
     go_enter Try.func80, Try.ntmps80
     go_wp2_with (first | (refine bx 2 #[.bool false, .slice none 0 0, .bool false, .slice none 0 0] 62 ?_; intro gb820 hg w80 hbox hb; replace HB := sB HB hb; have BK820 := am (hbox); have GW820 := zK HK hg; have GE820 := zW HW0 (zK HK hg); replace HK := KB HK hb; obtain ⟨NB0_820, NB820_0⟩ := nI HI0 hg; replace HI0 := IB HI0 hb; clear hb hbox hg) | (refine cl 90 (some 5) Try.func90 #[.pointer (some ⟨g, 0, none⟩)] ?_; (with_reducible refine (spec_l03Some.calls k g s0_0 s0_1 s0_2 t821 t822 t825 t826 t829 t830 w0 _ ?side1 ?side2 A2.out).mono ?_); (case side1 => exact fI HI0); (case side2 => exact fB HB); rintro e w81 ⟨v823, v827, rfl, ho0, ho1, hi, hb, hk⟩; refine ⟨_, rfl, ?_⟩; replace BK820 := kK BK820 hk NB820_0; have HO824 := loK ho0 HK; have HO828 := loK ho1 HK; replace HK := Kk HK hk; replace HB := am (hb); replace HI0 := am (hi); clear hb hk hi ho0 ho1) | (refine bx 3 #[.bool false, .slice none 0 0, .bool false, .slice none 0 0] 62 ?_; intro gb831 hg w82 hbox hb; replace HO824 := RB HO824 hb; replace HO828 := RB HO828 hb; replace HB := sB HB hb; have BK831 := am (hbox); have GW831 := zK HK hg; have GE831 := zW HW0 (zK HK hg); replace HK := KB HK hb; obtain ⟨NB820_831, NB831_820⟩ := nB BK820 hg; replace BK820 := kB BK820 hb; obtain ⟨NB0_831, NB831_0⟩ := nI HI0 hg; replace HI0 := IB HI0 hb; clear hb hbox hg; have hnb83 := NB831_820.out; have hnc83 := NB820_831.out; have hnb84 := NB831_0.out; have hnc84 := NB0_831.out; obtain ⟨hcz85_0, hcz85_1, hcz85_2, hcz85_3, hfz85_0, hfz85_1, hfz85_2, hfz85_3⟩ := cz4 BK831; obtain ⟨Ao86, co86, eo86⟩ := Kd.R_slice HO824.out; subst eo86; obtain ⟨Ao87, co87, eo87⟩ := Kd.R_slice HO828.out; subst eo87) | (refine cl 56 (some 7) Try.func56 #[.pointer (some ⟨g, 0, none⟩), .int .i64 30] ?_; (with_reducible refine (spec_l01Below.calls g s0_0 t829 t830 30 t832 t833 t834 w0 _ ?side1 ?side2 A3.out).mono ?_); (case side1 => exact fI HI0); (case side2 => exact fB HB); rintro e w88 ⟨rfl, hi, hb, hk⟩; refine ⟨_, rfl, ?_⟩; replace BK820 := kK BK820 hk NB820_0; replace HO824 := kX HI0 (tR1 HO824 BK831 (fun _ h => h.1)) hk; replace HO828 := kX HI0 (tR1 HO828 BK831 (fun _ h => h.1)) hk; replace BK831 := am (KeepBut.blk hk (g' := gb831) (o := .cells #[.bool t821, .slice Ao86 t822.length co86, .bool t825, .slice Ao87 t826.length co87] 62 (0, 0)) (fP BK831) NB831_0.out (by simp)); replace HK := Kk HK hk; replace HB := am (hb); replace HI0 := am (hi); clear hb hk hi; obtain ⟨hcz89_0, hcz89_1, hcz89_2, hcz89_3, hfz89_0, hfz89_1, hfz89_2, hfz89_3⟩ := cz4 BK831; have hnb90 := NB820_0.out; have hnc90 := NB0_820.out; obtain ⟨hcz91_0, hcz91_1, hcz91_2, hcz91_3, hfz91_0, hfz91_1, hfz91_2, hfz91_3⟩ := cz4 BK820))
     refine bodyPost_ret (results_cell_row rfl _ _ gb820 62 #[.bool t821, .slice Ao86 t822.length co86, .bool t825, .slice Ao87 t826.length co87] (0, 0) _ rfl (fP BK820) Try.underlying62 rfl (by kernel_rfl)) rfl ?_
     exact ⟨_, _, rz, tR1 HO824 BK820 (fun _ h => h.1), tR1 HO828 BK820 (fun _ h => h.1), fI HI0, fB HB, fK HK⟩

/-! ### spec_DecText: function 81 -/
set_option maxHeartbeats 8000000 in
set_option maxRecDepth 100000 in
theorem spec_DecText.calls (k : Nat) (a0 : Int) (r : ByteArray) (w : World) (h : spec_DecText.f k a0 = some r) :
  Calls Try.prog 81 #[.int .i64 a0] w fun e w' => e = .returned (.string r) ∧ Drawn0 w w' := by
 have H : (if a0 = 0 then (some (⟨#[48]⟩ : ByteArray)) else (spec_DecText.l0 k a0 (⟨#[]⟩ : ByteArray) a0)) = some r := h
 clear h
 by_cases c2 : a0 = 0
 ·
  rw [if_pos c2] at H
  obtain ⟨c2b0, c2b1⟩ := bqt c2
  clear c2
  obtain rfl := Option.some.inj H
  go_enter Try.func81, Try.ntmps81
  go_wp2
  go_ret
  exact ⟨rs, d0⟩
 ·
  rw [if_neg c2] at H
  obtain ⟨c2b0, c2b1⟩ := bqf c2
  have H' := am H
  clear H
  go_enter Try.func81, Try.ntmps81
  go_wp2
  go_loopg [3, 4] k (fun kq v3 v4 w' => ∃ (x3_1 : ByteArray) (x4_1 : Int), v3 = .string x3_1 ∧ v4 = .int .i64 x4_1 ∧ Aside0 (spec_DecText.l0 kq a0 x3_1 x4_1 = some r) ∧ Aside0 (kq ≤ k) ∧ Drawn0 w w')
  case atStart => exact ⟨((⟨#[]⟩ : ByteArray)), (a0), (rs), (rs), H', ⟨Nat.le_refl _⟩, d0⟩
  case round =>
   clear H'
   try clear c2
   try clear c2b0
   try clear c2b1
   try clear p2
   obtain ⟨x3_1, x4_1, rfl, rfl, HA, HK1, ⟨m1, rfl⟩⟩ := hrel
   cases gk with
   | zero => exact absurd HA.out (by simp [spec_DecText.l0])
   | succ k1 =>
    have H := HA.out
    clear HA
    simp only [spec_DecText.l0] at H
    by_cases c3 : x4_1 = 0
    ·
     rw [if_pos c3] at H
     obtain ⟨c3b0, c3b1⟩ := bqt c3
     clear c3
     by_cases c4 : a0 < 0
     ·
      rw [if_pos c4] at H
      have c4b0 : decide (a0 < 0) = true := decide_eq_true c4
      clear c4
      by_cases c5 : 1 + x3_1.size ≤ 9223372036854775807
      ·
       rw [if_pos c5] at H
       have c5b0 := eq_true c5
       have c5b1 : decide (1 + x3_1.size ≤ 9223372036854775807) = true := decide_eq_true c5
       try have c5b2 : (9223372036854775807 < 1 + x3_1.size) = False := eq_false (Nat.not_lt.2 c5)
       obtain rfl := Option.some.inj H
       go_wp2
       go_ret
       exact ⟨rs, d0⟩
      ·
       rw [if_neg c5] at H
       exact absurd H (by simp)
     ·
      rw [if_neg c4] at H
      have c4b0 : decide (a0 < 0) = false := decide_eq_false c4
      clear c4
      obtain rfl := Option.some.inj H
      go_wp2
      go_ret
      exact ⟨rs, d0⟩
    ·
     rw [if_neg c3] at H
     obtain ⟨c3b0, c3b1⟩ := bqf c3
     by_cases c6 : (Int.tmod x4_1 10) < 0
     ·
      rw [if_pos c6] at H
      have c6b0 : decide ((Int.tmod x4_1 10) < 0) = true := decide_eq_true c6
      clear c6
      obtain ⟨ji7, hji7⟩ : ∃ j_ : Int, (wrap64 (-(Int.tmod x4_1 10))) = j_ := ⟨_, rfl⟩
      replace H : (if 0 ≤ (ji7) then (if (ji7) ≤ (wrap64 ((ji7) + 1)) then (if (wrap64 ((ji7) + 1)) ≤ 10 then (if ((⟨#[48, 49, 50, 51, 52, 53, 54, 55, 56, 57]⟩ : ByteArray).extract ((ji7) : Int).toNat ((wrap64 ((ji7) + 1)) : Int).toNat).size + x3_1.size ≤ 9223372036854775807 then (spec_DecText.l0 k1 a0 (((⟨#[48, 49, 50, 51, 52, 53, 54, 55, 56, 57]⟩ : ByteArray).extract ((ji7) : Int).toNat ((wrap64 ((ji7) + 1)) : Int).toNat) ++ x3_1) (wrap64 (Int.tdiv x4_1 10))) else (none)) else (none)) else (none)) else (none)) = some r := by first | (rw [hji7] at H; exact H) | (simp only [hji7] at H ⊢; exact H)
      have hji7w : (IntKind.i64.wrap (-(Int.tmod x4_1 10))) = ji7 := (i64_w _).trans hji7
      by_cases c8 : 0 ≤ (ji7)
      ·
       rw [if_pos c8] at H
       have c8b0 := eq_true c8
       have c8b1 : decide (0 ≤ (ji7)) = true := decide_eq_true c8
       clear c8
       by_cases c9 : (ji7) ≤ (wrap64 ((ji7) + 1))
       ·
        rw [if_pos c9] at H
        have c9b0 := eq_true c9
        have c9b1 : decide ((ji7) ≤ (wrap64 ((ji7) + 1))) = true := decide_eq_true c9
        by_cases c10 : (wrap64 ((ji7) + 1)) ≤ 10
        ·
         rw [if_pos c10] at H
         have c10b0 := eq_true c10
         have c10b1 : decide ((wrap64 ((ji7) + 1)) ≤ 10) = true := decide_eq_true c10
         by_cases c11 : ((⟨#[48, 49, 50, 51, 52, 53, 54, 55, 56, 57]⟩ : ByteArray).extract ((ji7) : Int).toNat ((wrap64 ((ji7) + 1)) : Int).toNat).size + x3_1.size ≤ 9223372036854775807
         ·
          rw [if_pos c11] at H
          have c11b0 := eq_true c11
          have c11b1 : decide (((⟨#[48, 49, 50, 51, 52, 53, 54, 55, 56, 57]⟩ : ByteArray).extract ((ji7) : Int).toNat ((wrap64 ((ji7) + 1)) : Int).toNat).size + x3_1.size ≤ 9223372036854775807) = true := decide_eq_true c11
          try have c11b2 : (9223372036854775807 < ((⟨#[48, 49, 50, 51, 52, 53, 54, 55, 56, 57]⟩ : ByteArray).extract ((ji7) : Int).toNat ((wrap64 ((ji7) + 1)) : Int).toNat).size + x3_1.size) = False := eq_false (Nat.not_lt.2 c11)
          have H' := am H
          clear H
          go_wp2
          go_roundg k1
          case measure => have := HK1.out; omega
          case rel => exact ⟨(((⟨#[48, 49, 50, 51, 52, 53, 54, 55, 56, 57]⟩ : ByteArray).extract ((ji7) : Int).toNat ((wrap64 ((ji7) + 1)) : Int).toNat) ++ x3_1), (wrap64 (Int.tdiv x4_1 10)), (by first | rfl | (simp; done) | (simp only [← hji7] <;> (first | rfl | simp)) | (simp [*]; done)), (rs), H', ⟨by have := HK1.out; omega⟩, d0⟩
         ·
          rw [if_neg c11] at H
          exact absurd H (by simp)
        ·
         rw [if_neg c10] at H
         exact absurd H (by simp)
       ·
        rw [if_neg c9] at H
        exact absurd H (by simp)
      ·
       rw [if_neg c8] at H
       exact absurd H (by simp)
     ·
      rw [if_neg c6] at H
      have c6b0 : decide ((Int.tmod x4_1 10) < 0) = false := decide_eq_false c6
      clear c6
      obtain ⟨ji12, hji12⟩ : ∃ j_ : Int, (Int.tmod x4_1 10) = j_ := ⟨_, rfl⟩
      replace H : (if 0 ≤ (ji12) then (if (ji12) ≤ (wrap64 ((ji12) + 1)) then (if (wrap64 ((ji12) + 1)) ≤ 10 then (if ((⟨#[48, 49, 50, 51, 52, 53, 54, 55, 56, 57]⟩ : ByteArray).extract ((ji12) : Int).toNat ((wrap64 ((ji12) + 1)) : Int).toNat).size + x3_1.size ≤ 9223372036854775807 then (spec_DecText.l0 k1 a0 (((⟨#[48, 49, 50, 51, 52, 53, 54, 55, 56, 57]⟩ : ByteArray).extract ((ji12) : Int).toNat ((wrap64 ((ji12) + 1)) : Int).toNat) ++ x3_1) (wrap64 (Int.tdiv x4_1 10))) else (none)) else (none)) else (none)) else (none)) = some r := by first | (rw [hji12] at H; exact H) | (simp only [hji12] at H ⊢; exact H)
      (try rw [hji12] at c6b0)
      by_cases c13 : 0 ≤ (ji12)
      ·
       rw [if_pos c13] at H
       have c13b0 := eq_true c13
       have c13b1 : decide (0 ≤ (ji12)) = true := decide_eq_true c13
       clear c13
       by_cases c14 : (ji12) ≤ (wrap64 ((ji12) + 1))
       ·
        rw [if_pos c14] at H
        have c14b0 := eq_true c14
        have c14b1 : decide ((ji12) ≤ (wrap64 ((ji12) + 1))) = true := decide_eq_true c14
        by_cases c15 : (wrap64 ((ji12) + 1)) ≤ 10
        ·
         rw [if_pos c15] at H
         have c15b0 := eq_true c15
         have c15b1 : decide ((wrap64 ((ji12) + 1)) ≤ 10) = true := decide_eq_true c15
         by_cases c16 : ((⟨#[48, 49, 50, 51, 52, 53, 54, 55, 56, 57]⟩ : ByteArray).extract ((ji12) : Int).toNat ((wrap64 ((ji12) + 1)) : Int).toNat).size + x3_1.size ≤ 9223372036854775807
         ·
          rw [if_pos c16] at H
          have c16b0 := eq_true c16
          have c16b1 : decide (((⟨#[48, 49, 50, 51, 52, 53, 54, 55, 56, 57]⟩ : ByteArray).extract ((ji12) : Int).toNat ((wrap64 ((ji12) + 1)) : Int).toNat).size + x3_1.size ≤ 9223372036854775807) = true := decide_eq_true c16
          try have c16b2 : (9223372036854775807 < ((⟨#[48, 49, 50, 51, 52, 53, 54, 55, 56, 57]⟩ : ByteArray).extract ((ji12) : Int).toNat ((wrap64 ((ji12) + 1)) : Int).toNat).size + x3_1.size) = False := eq_false (Nat.not_lt.2 c16)
          have H' := am H
          clear H
          go_wp2
          go_roundg k1
          case measure => have := HK1.out; omega
          case rel => exact ⟨(((⟨#[48, 49, 50, 51, 52, 53, 54, 55, 56, 57]⟩ : ByteArray).extract ((ji12) : Int).toNat ((wrap64 ((ji12) + 1)) : Int).toNat) ++ x3_1), (wrap64 (Int.tdiv x4_1 10)), (by first | rfl | (simp; done) | (simp only [← hji12] <;> (first | rfl | simp)) | (simp [*]; done)), (rs), H', ⟨by have := HK1.out; omega⟩, d0⟩
         ·
          rw [if_neg c16] at H
          exact absurd H (by simp)
        ·
         rw [if_neg c15] at H
         exact absurd H (by simp)
       ·
        rw [if_neg c14] at H
        exact absurd H (by simp)
      ·
       rw [if_neg c13] at H
       exact absurd H (by simp)

/-! ### spec_Nought: function 83 -/
set_option maxHeartbeats 8000000 in
set_option maxRecDepth 100000 in
theorem spec_Nought.calls (a0 : Int) (r1 : Int) (r2 : List Int) (w : World) (h : spec_Nought.f a0 = some (r1, r2)) :
  Calls Try.prog 83 #[.int .i64 a0] w fun e w' => ∃ v1_ : Value, e = .returned (.agg #[.int .i64 r1, v1_]) ∧ Kd.R (Kd.int .i64) 3 w' w.heap.size (fun _ => True) v1_ r2 ∧ Below w.heap.size w w' := by
 have hu27 := Try.underlying27
 have HB := am (Below.refl w.heap.size w)
 have H : ((spec_l01In.f a0 0 8).bind fun t868 => (if t868 = true then (if 0 ≤ a0 then (if (a0 : Int).toNat ≤ 35184372088832 then (some (1, (List.replicate (a0 : Int).toNat 0))) else (none)) else (none)) else (some (0, ([] : List Int))))) = some (r1, r2) := h
 clear h
 obtain ⟨t868, A2, H⟩ := ub H; try dsimp only at H
 by_cases c3 : t868 = true
 ·
  subst c3
  have H1 : (if 0 ≤ a0 then (if (a0 : Int).toNat ≤ 35184372088832 then (some (1, (List.replicate (a0 : Int).toNat 0))) else (none)) else (none)) = some (r1, r2) := by rw [if_pos rfl] at H; exact H
  clear H
  have H := H1
  clear H1
  by_cases c4 : 0 ≤ a0
  ·
   rw [if_pos c4] at H
   have c4b0 := eq_true c4
   have c4b1 : decide (0 ≤ a0) = true := decide_eq_true c4
   clear c4
   by_cases c5 : (a0 : Int).toNat ≤ 35184372088832
   ·
    rw [if_pos c5] at H
    have c5b0 := eq_true c5
    have c5b1 : decide ((a0 : Int).toNat ≤ 35184372088832) = true := decide_eq_true c5
    clear c5
    obtain ⟨y869, Ny869⟩ : ∃ y_ : List Int, Aside0 (y_ = (List.replicate (a0 : Int).toNat 0)) := ⟨_, ⟨rfl⟩⟩; rw [← Ny869.out] at H
    simp only [Option.some.injEq, Prod.mk.injEq] at H
    obtain ⟨rfl, rfl⟩ := H
    go_enter Try.func83, Try.ntmps83
    go_wp2_with (first | (refine bx 2 #[.int .i64 0, .slice none 0 0] 27 ?_; intro gb867 hg w6 hbox hb; have BK867 := am (hbox); have GW867 := zB HB hg; have GE867 := zB HB hg; replace HB := sB HB hb; clear hb hbox hg) | (refine cl 42 (some 4) Try.func42 #[.int .i64 a0, .int .i64 0, .int .i64 8] ?_; (with_reducible refine (spec_l01In.calls a0 0 8 true _ A2.out).mono ?_); rintro e w' ⟨rfl, ⟨nd, rfl⟩⟩; refine ⟨_, rfl, ?_⟩; (try (rw [drewN_self w6]; generalize hq_ : World.drewN w6 _ = w6; have n0_ : Aside0 (w6.heap[gb867]? = some (.cells #[.int .i64 0, .slice none 0 0] 27 (0, 0))) := ⟨by rw [← hq_]; exact (fb BK867)⟩; have n1_ : Aside0 (Below w.heap.size w w6) := ⟨by rw [← hq_]; exact (fB HB)⟩; clear BK867 HB hq_; have BK867 := n0_; have HB := n1_; clear n0_ n1_))) | ((with_reducible refine gate_dst (N := 8) rfl ?_); refine Kd.R_make (Kd.int .i64) _ 3 rfl (N := 8) rfl 22 _ _ rfl a0 rfl rfl Try.underlying22 (.int .i64 0) 8 info3 rfl (by decide) (by omega) 0 (ok := fun _ => True) (okp := fun _ => True) rfl (fun _ hk => hk) trivial (of_decide_eq_true (ha)) (Nat.le_trans (Nat.mul_le_mul_right _ (of_decide_eq_true (ha) : a0.toNat ≤ 35184372088832)) (by omega)) (Below.refl _ _) (Nat.le_refl _) ?_; intro v870 w7 ho8 hb hg_ hnew_; clear hg_ hnew_; (first | rw [← Ny869.out] at ho8 | (simp only [Int.reduceToNat] at ho8; rw [← Ny869.out] at ho8)); have HO871 := loB ho8 HB; replace BK867 := kB BK867 hb; replace HB := sB HB hb; clear hb ho8; obtain ⟨Ao9, co9, eo9⟩ := Kd.R_slice HO871.out; subst eo9; obtain ⟨hcz10_0, hcz10_1, hfz10_0, hfz10_1⟩ := cz2 BK867))
    refine bodyPost_ret (results_cell_row rfl _ _ gb867 27 #[.int .i64 1, .slice Ao9 y869.length co9] (0, 0) _ rfl (fP BK867) Try.underlying27 rfl (by kernel_rfl)) rfl ?_
    exact ⟨_, rz, tR1 HO871 BK867 (fun _ h => trivial), fB HB⟩
   ·
    rw [if_neg c5] at H
    exact absurd H (by simp)
  ·
   rw [if_neg c4] at H
   exact absurd H (by simp)
 ·
  replace c3 := Bool.eq_false_iff.mpr c3
  subst c3
  have H1 : (some (0, ([] : List Int))) = some (r1, r2) := by rw [if_neg (show ¬ (false = true) by decide)] at H; exact H
  clear H
  have H := H1
  clear H1
  simp only [Option.some.injEq, Prod.mk.injEq] at H
  obtain ⟨rfl, rfl⟩ := H
  go_enter Try.func83, Try.ntmps83
  go_wp2_with (first | (refine bx 2 #[.int .i64 0, .slice none 0 0] 27 ?_; intro gb867 hg w11 hbox hb; have BK867 := am (hbox); have GW867 := zB HB hg; have GE867 := zB HB hg; replace HB := sB HB hb; clear hb hbox hg) | (refine cl 42 (some 4) Try.func42 #[.int .i64 a0, .int .i64 0, .int .i64 8] ?_; (with_reducible refine (spec_l01In.calls a0 0 8 false _ A2.out).mono ?_); rintro e w' ⟨rfl, ⟨nd, rfl⟩⟩; refine ⟨_, rfl, ?_⟩; (try (rw [drewN_self w11]; generalize hq_ : World.drewN w11 _ = w11; have n0_ : Aside0 (w11.heap[gb867]? = some (.cells #[.int .i64 0, .slice none 0 0] 27 (0, 0))) := ⟨by rw [← hq_]; exact (fb BK867)⟩; have n1_ : Aside0 (Below w.heap.size w w11) := ⟨by rw [← hq_]; exact (fB HB)⟩; clear BK867 HB hq_; have BK867 := n0_; have HB := n1_; clear n0_ n1_)); obtain ⟨hcz12_0, hcz12_1, hfz12_0, hfz12_1⟩ := cz2 BK867))
  refine bodyPost_ret (results_cell_row rfl _ _ gb867 27 #[.int .i64 0, .slice none 0 0] (0, 0) _ rfl (fP BK867) Try.underlying27 rfl (by kernel_rfl)) rfl ?_
  exact ⟨_, rz, by first | exact Kd.R_nil _ _ _ _ _ | exact Kd.N_nil _ _ _ _ _ | exact Kd.V_nil _ _ _ _ _ | exact Kd.Q_nil _ _ _ _ _ | exact Kd.S_nil _ _ _ _ _, fB HB⟩
end Go.Proofs.Ytjdndacollpjkaa.MFnVars
