/- Contracts of the functions that the law FnVars reaches (walks in the form of the kit's print; what it does not take by hand). -/
import Derived.Test.YtjdndacollpjkaaFvL
import Derived.Test.YtjdndacollpjkaaMFnVarsx1
import Derived.Test.YtjdndacollpjkaaMFnVarsx4
import Derived.Test.YtjdndacollpjkaaMFnVarsx6
import Derived.Test.YtjdndacollpjkaaMFnVarsx10
namespace Go.Proofs.Ytjdndacollpjkaa.MFnVars
open Go.RowKit Go.Proofs.YtjdndacollpjkaaW.PrintWords Go.Proofs.YtjdndacollpjkaaW.PrintLast Go.Proofs.YtjdndacollpjkaaW.PrintMore
attribute [local go_sem] fld60_0 fld60_1 max2_int min2_int max_two min_two max_three min_three max_four min_four   -- for this text's walks alone
set_option linter.unusedVariables false
set_option linter.unusedSimpArgs false

/-! ### spec_l02Add: function 100 -/
def spec_l02Add.T2 : Bool × List (List Nat × List Nat) := (true, [([], []), ([0], [0]), ([], []), ([2], [2]), ([], []), ([4], [4]), ([3, 5], [3, 5]), ([1, 6, 6], [1, 6]), ([7, 7, 0, 1, 2, 3, 4, 5, 6, 7], [7])])
def spec_l02Add.B2 : List Nat := [0, 1, 0, 4, 0, 16, 60, 127, 255]
theorem spec_l02Add.tab2 : rtab .any (opsOf Try.f100 2) = spec_l02Add.T2 := by kernel_rfl
theorem spec_l02Add.bits2 : waitsOk spec_l02Add.T2.2 spec_l02Add.B2 = true := by kernel_rfl
def spec_l02Add.T4 : Bool × List (List Nat × List Nat) := (true, [([], []), ([0], [0]), ([], []), ([2], [2]), ([], []), ([4], [4]), ([3, 5], [3, 5]), ([1, 6, 6], [1, 6]), ([7, 7, 0, 1, 2, 3, 4, 5, 6, 7], [7])])
def spec_l02Add.B4 : List Nat := [0, 1, 0, 4, 0, 16, 60, 127, 255]
theorem spec_l02Add.tab4 : rtab .any (opsOf Try.f100 4) = spec_l02Add.T4 := by kernel_rfl
theorem spec_l02Add.bits4 : waitsOk spec_l02Add.T4.2 spec_l02Add.B4 = true := by kernel_rfl
def spec_l02Add.T5 : Bool × List (List Nat × List Nat) := (true, [([], []), ([0], [0]), ([], []), ([2], [2]), ([], []), ([4], [4]), ([3, 5], [3, 5]), ([1, 6, 6], [1, 6]), ([7, 7, 0, 1, 2, 3, 4, 5, 6, 7], [7])])
def spec_l02Add.B5 : List Nat := [0, 1, 0, 4, 0, 16, 60, 127, 255]
theorem spec_l02Add.tab5 : rtab .any (opsOf Try.f100 5) = spec_l02Add.T5 := by kernel_rfl
theorem spec_l02Add.bits5 : waitsOk spec_l02Add.T5.2 spec_l02Add.B5 = true := by kernel_rfl
set_option maxHeartbeats 8000000 in
set_option maxRecDepth 100000 in
theorem spec_l02Add.calls (k : Nat) (a0_0 : Bool) (A0_1 : Option Addr) (c0_1 : Nat) (l0_1 : List Int) (a1_0 : Bool) (A1_1 : Option Addr) (c1_1 : Nat) (l1_1 : List Int) (r1 : Bool) (r2 : List Int) (w : World) (hr0_1 : Kd.C (Kd.int .u32) w A0_1 l0_1.length l0_1) (hc0_1 : l0_1.length ≤ c0_1) (hr1_1 : Kd.C (Kd.int .u32) w A1_1 l1_1.length l1_1) (hc1_1 : l1_1.length ≤ c1_1) (h : spec_l02Add.f k a0_0 l0_1 a1_0 l1_1 = some (r1, r2)) :
  Calls Try.prog 100 #[.agg #[.bool a0_0, .slice A0_1 l0_1.length c0_1], .agg #[.bool a1_0, .slice A1_1 l1_1.length c1_1]] w fun e w' => ∃ v1_ : Value, e = .returned (.agg #[.bool r1, v1_]) ∧ Kd.R (Kd.int .u32) 119 w' w.heap.size (fun _ => True) v1_ r2 ∧ Below w.heap.size w w' := by
 have hu60 := Try.underlying60
 have HR0_1 := am hr0_1
 have HC0_1 := am hc0_1
 clear hr0_1 hc0_1
 have HR1_1 := am hr1_1
 have HC1_1 := am hc1_1
 clear hr1_1 hc1_1
 have HB := am (Below.refl w.heap.size w)
 have H : (if (a0_0 == a1_0) = true then ((spec_l02Plus.f k l0_1 l1_1).bind fun t619 => ((spec_l02Make.f k a0_0 t619).bind fun bt622 => (some (bt622.1, bt622.2)))) else ((spec_l02Least.f k l0_1 l1_1).bind fun t626 => (if t626 ≥ 0 then ((spec_l02Less.f k l0_1 l1_1).bind fun t627 => ((spec_l02Make.f k a0_0 t627).bind fun bt630 => (some (bt630.1, bt630.2)))) else ((spec_l02Less.f k l1_1 l0_1).bind fun t634 => ((spec_l02Make.f k a1_0 t634).bind fun bt637 => (some (bt637.1, bt637.2))))))) = some (r1, r2) := h
 clear h
 by_cases c3 : (a0_0 == a1_0) = true
 ·
  rw [if_pos c3] at H
  have c3b0 : (a0_0 == a1_0) = true := c3
  (try (have c3b1 : decide (a0_0 = a1_0) = true := by simpa using c3))
  (try (have c3b2 : (a0_0 == a1_0) = true := by simpa using c3))
  clear c3
  obtain ⟨t619, A4, H⟩ := ub H; try dsimp only at H
  obtain ⟨⟨t622, t623⟩, A5, H⟩ := ub H; dsimp only at H
  simp only [Option.some.injEq, Prod.mk.injEq] at H
  obtain ⟨rfl, rfl⟩ := H
  go_enter Try.func100, Try.ntmps100
  try go_wp2_with (first | (refine bx 2 #[.bool a0_0, .slice A0_1 l0_1.length c0_1] 60 ?_; intro gb616 hg w6 hbox hb; have BK616 := am (hbox); have GW616 := zB HB hg; have GE616 := zB HB hg; replace HB := sB HB hb; clear hb hbox hg) | (refine bx 3 #[.bool a1_0, .slice A1_1 l1_1.length c1_1] 60 ?_; intro gb617 hg w7 hbox hb; have BK617 := am (hbox); have GW617 := zB HB hg; have GE617 := zB HB hg; replace HB := sB HB hb; obtain ⟨NB616_617, NB617_616⟩ := nB BK616 hg; replace BK616 := kB BK616 hb; clear hb hbox hg) | (refine bx 4 #[.bool false, .slice none 0 0] 60 ?_; intro gb618 hg w8 hbox hb; have BK618 := am (hbox); have GW618 := zB HB hg; have GE618 := zB HB hg; replace HB := sB HB hb; obtain ⟨NB616_618, NB618_616⟩ := nB BK616 hg; replace BK616 := kB BK616 hb; obtain ⟨NB617_618, NB618_617⟩ := nB BK617 hg; replace BK617 := kB BK617 hb; clear hb hbox hg; have hnb9 := NB616_617.out; have hnc9 := NB617_616.out; have hnb10 := NB616_618.out; have hnc10 := NB618_616.out; obtain ⟨hcz11_0, hcz11_1, hfz11_0, hfz11_1⟩ := cz2 BK616; have hnb12 := NB617_618.out; have hnc12 := NB618_617.out; obtain ⟨hcz13_0, hcz13_1, hfz13_0, hfz13_1⟩ := cz2 BK617))
  replace BK616 := am (blk_drew BK616.out); replace BK617 := am (blk_drew BK617.out); replace BK618 := am (blk_drew BK618.out); replace HB := am (below_drew1 HB.out)
  refine start_ (n := 9) (S := fun w' => w'.cell? ⟨gb616, 0, none⟩ = some (.bool a0_0) ∧ w'.cell? ⟨gb616, 1, none⟩ = some (.slice A0_1 l0_1.length c0_1) ∧ w'.cell? ⟨gb617, 0, none⟩ = some (.bool a1_0) ∧ w'.cell? ⟨gb617, 1, none⟩ = some (.slice A1_1 l1_1.length c1_1)) (ds := []) #[false, false, false, false, false, false, false, false, false] (by kernel_rfl) rfl rfl (hh4 BK616 BK617) (fun hHeld => ?_); refine with_tabW spec_l02Add.tab2 spec_l02Add.bits2 (fun HT_ HW_ => ?_)
  generalize w8.drew = w14 at BK616 BK617 BK618 HB hHeld ⊢
  refine pu 0 (some 10) #[true, false, false, false, false, false, false, false, false] HT_ ?_
  refine pu 2 (some 12) #[true, false, true, false, false, false, false, false, false] HT_ ?_
  refine pu 4 (some 14) #[true, false, true, false, true, false, false, false, false] HT_ ?_
  refine tk 1 (some 11) #[true, true, true, false, true, false, false, false, false] HT_ HW_ hHeld ?_
  refine tk 3 (some 13) #[true, true, true, true, true, false, false, false, false] HT_ HW_ hHeld ?_
  refine tk 5 (some 15) #[true, true, true, true, true, true, false, false, false] HT_ HW_ hHeld ?_
  refine on 6 (some 16) #[true, true, true, true, true, true, true, false, false] HT_ (fun K hK => ?_)
  refine ge Try.func108 #[.slice A0_1 l0_1.length c0_1, .slice A1_1 l1_1.length c1_1] ?_
  with_reducible refine (spec_l02Plus.calls k _ _ l0_1 _ _ l1_1 t619 _ ?side1 ?side2 ?side3 ?side4 A4.out).mono ?_
  (case side1 => repeat (first | exact (Kd.C_below HR0_1.out HB.out) | (with_reducible refine Kd.C_alloc ?_ _) | (with_reducible refine Kd.C_drewN ?_ _) | (with_reducible refine Kd.C_drew ?_)))
  (case side2 => exact HC0_1.out)
  (case side3 => repeat (first | exact (Kd.C_below HR1_1.out HB.out) | (with_reducible refine Kd.C_alloc ?_ _) | (with_reducible refine Kd.C_drewN ?_ _) | (with_reducible refine Kd.C_drew ?_)))
  (case side4 => exact HC1_1.out)
  rintro e w15 ⟨v620, rfl, ho0, hb⟩
  refine ⟨_, rfl, ?_⟩
  have HO621 := loB ho0 HB; replace BK616 := kB BK616 hb; replace BK617 := kB BK617 hb; replace BK618 := kB BK618 hb; replace HB := sB HB hb
  clear hb ho0
  obtain ⟨Ao16, co16, eo16⟩ := Kd.R_slice HO621.out
  (first | subst eo16 | (injection eo16 with f1_ f2_ f3_; have f4_ := f1_.symm; have f5_ := f3_.symm; clear f1_ f2_ f3_; subst f4_; subst f5_))
  refine hK.out _ _ (hh4 BK616 BK617) (fun hHeld => ?_)
  clear hK K
  refine nm (some 16) ?_
  refine on 7 (some 17) #[true, true, true, true, true, true, true, true, false] HT_ (fun K hK => ?_)
  refine ge Try.func101 #[.bool a0_0, .slice Ao16 t619.length co16] ?_
  with_reducible refine (spec_l02Make.calls k a0_0 _ _ t619 t622 t623 _ ?side1 ?side2 A5.out).mono ?_
  (case side1 => repeat (first | exact (Kd.R_reads' HO621.out).2.2 | (with_reducible refine Kd.C_alloc ?_ _) | (with_reducible refine Kd.C_drewN ?_ _) | (with_reducible refine Kd.C_drew ?_)))
  (case side2 => exact (Kd.R_reads' HO621.out).2.1)
  rintro e w17 ⟨v624, rfl, ho0, hb⟩
  refine ⟨_, rfl, ?_⟩
  have HO625 := am (Kd.R_lower (Kd.R_new' ho0 (Kd.R_lt (fR HO621))) (below_size (fB HB))); replace HO621 := eR HO621 ho0 hb; replace BK616 := kB BK616 hb; replace BK617 := kB BK617 hb; replace BK618 := kB BK618 hb; replace HB := sB HB hb
  clear hb ho0
  obtain ⟨Ao19, co19, eo19⟩ := Kd.R_slice HO625.out
  (first | subst eo19 | (injection eo19 with f1_ f2_ f3_; have f4_ := f1_.symm; have f5_ := f3_.symm; clear f1_ f2_ f3_; subst f4_; subst f5_))
  refine hK.out _ _ (hh4 BK616 BK617) (fun hHeld => ?_)
  clear hK K
  refine nm (some 17) ?_
  refine on 8 (none) #[true, true, true, true, true, true, true, true, true] HT_ (fun K hK => ?_)
  have hs18 : w17.cell? ⟨gb618, 0, none⟩ = some (.bool false) := (blk_cell BK618.out 0).trans rfl
  have hfs18 := blk_frozen BK618.out 0
  have hns18_0 := NB616_618.out
  have hns18_1 := NB617_618.out
  have hms18_0 := NB618_616.out
  have hms18_1 := NB618_617.out
  have hs20 : w17.cell? ⟨gb618, 1, none⟩ = some (.slice none 0 0) := (blk_cell BK618.out 1).trans rfl
  have hfs20 := blk_frozen BK618.out 1
  have hns20_0 := NB616_618.out
  have hns20_1 := NB617_618.out
  have hms20_0 := NB618_616.out
  have hms20_1 := NB618_617.out
  refine skip_ (w1 := ?_) (by rfl) rfl ?_ ?_
  rotate_left
  ·
   go_simp
   rfl
  refine hK.out _ _ ⟨((cell_far (p := ⟨gb618, _, none⟩) NB616_618.out _).trans (((cell_far (p := ⟨gb618, _, none⟩) NB616_618.out _).trans (hHeld.1)))), ((cell_far (p := ⟨gb618, _, none⟩) NB616_618.out _).trans (((cell_far (p := ⟨gb618, _, none⟩) NB616_618.out _).trans (hHeld.2.1)))), ((cell_far (p := ⟨gb618, _, none⟩) NB617_618.out _).trans (((cell_far (p := ⟨gb618, _, none⟩) NB617_618.out _).trans (hHeld.2.2.1)))), ((cell_far (p := ⟨gb618, _, none⟩) NB617_618.out _).trans (((cell_far (p := ⟨gb618, _, none⟩) NB617_618.out _).trans (hHeld.2.2.2))))⟩ (fun hHeld => ?_)
  clear hK K
  refine done_ (done_of HT_.out (by kernel_rfl)) ?_
  try go_wp2
  refine bodyPost_ret (results_cell_row rfl _ _ gb618 60 #[.bool t622, .slice Ao19 t623.length co19] (0, 0) _ rfl (fP BK618) Try.underlying60 rfl (by kernel_rfl)) rfl ?_
  exact ⟨_, rz, tR1 HO625 BK618 (fun _ h => trivial), fB HB⟩
 ·
  rw [if_neg c3] at H
  have c3b0 : (a0_0 == a1_0) = false := by simpa using c3
  (try (have c3b1 : decide (a0_0 = a1_0) = false := by simpa using c3))
  (try (have c3b2 : (a0_0 == a1_0) = false := by simpa using c3))
  (try (have c3b3 : ¬ (a0_0 = a1_0) := by simpa using c3))
  clear c3
  obtain ⟨t626, A21, H⟩ := ub H; try dsimp only at H
  by_cases c22 : t626 ≥ 0
  ·
   rw [if_pos c22] at H
   have c22b0 : decide (0 ≤ t626) = true := decide_eq_true c22
   clear c22
   obtain ⟨t627, A23, H⟩ := ub H; try dsimp only at H
   obtain ⟨⟨t630, t631⟩, A24, H⟩ := ub H; dsimp only at H
   simp only [Option.some.injEq, Prod.mk.injEq] at H
   obtain ⟨rfl, rfl⟩ := H
   go_enter Try.func100, Try.ntmps100
   try go_wp2_with (first | (refine bx 2 #[.bool a0_0, .slice A0_1 l0_1.length c0_1] 60 ?_; intro gb616 hg w25 hbox hb; have BK616 := am (hbox); have GW616 := zB HB hg; have GE616 := zB HB hg; replace HB := sB HB hb; clear hb hbox hg) | (refine bx 3 #[.bool a1_0, .slice A1_1 l1_1.length c1_1] 60 ?_; intro gb617 hg w26 hbox hb; have BK617 := am (hbox); have GW617 := zB HB hg; have GE617 := zB HB hg; replace HB := sB HB hb; obtain ⟨NB616_617, NB617_616⟩ := nB BK616 hg; replace BK616 := kB BK616 hb; clear hb hbox hg) | (refine bx 4 #[.bool false, .slice none 0 0] 60 ?_; intro gb618 hg w27 hbox hb; have BK618 := am (hbox); have GW618 := zB HB hg; have GE618 := zB HB hg; replace HB := sB HB hb; obtain ⟨NB616_618, NB618_616⟩ := nB BK616 hg; replace BK616 := kB BK616 hb; obtain ⟨NB617_618, NB618_617⟩ := nB BK617 hg; replace BK617 := kB BK617 hb; clear hb hbox hg; have hnb28 := NB616_617.out; have hnc28 := NB617_616.out; have hnb29 := NB616_618.out; have hnc29 := NB618_616.out; obtain ⟨hcz30_0, hcz30_1, hfz30_0, hfz30_1⟩ := cz2 BK616; have hnb31 := NB617_618.out; have hnc31 := NB618_617.out; obtain ⟨hcz32_0, hcz32_1, hfz32_0, hfz32_1⟩ := cz2 BK617) | (refine cl 109 (some 22) Try.func109 #[.slice A0_1 l0_1.length c0_1, .slice A1_1 l1_1.length c1_1] ?_; (with_reducible refine (spec_l02Least.calls k _ _ l0_1 _ _ l1_1 t626 _ ?side1 ?side2 ?side3 ?side4 A21.out).mono ?_); (case side1 => repeat (first | exact (Kd.C_below HR0_1.out HB.out) | (with_reducible refine Kd.C_alloc ?_ _) | (with_reducible refine Kd.C_drewN ?_ _) | (with_reducible refine Kd.C_drew ?_))); (case side2 => exact HC0_1.out); (case side3 => repeat (first | exact (Kd.C_below HR1_1.out HB.out) | (with_reducible refine Kd.C_alloc ?_ _) | (with_reducible refine Kd.C_drewN ?_ _) | (with_reducible refine Kd.C_drew ?_))); (case side4 => exact HC1_1.out); rintro e w' ⟨rfl, ⟨nd, rfl⟩⟩; refine ⟨_, rfl, ?_⟩; (try (rw [drewN_self w27]; generalize hq_ : World.drewN w27 _ = w27; have n0_ : Aside0 (w27.heap[gb616]? = some (.cells #[.bool a0_0, .slice A0_1 l0_1.length c0_1] 60 (0, 0))) := ⟨by rw [← hq_]; exact (fb BK616)⟩; have n1_ : Aside0 (w27.heap[gb617]? = some (.cells #[.bool a1_0, .slice A1_1 l1_1.length c1_1] 60 (0, 0))) := ⟨by rw [← hq_]; exact (fb BK617)⟩; have n2_ : Aside0 (w27.heap[gb618]? = some (.cells #[.bool false, .slice none 0 0] 60 (0, 0))) := ⟨by rw [← hq_]; exact (fb BK618)⟩; have n3_ : Aside0 (Below w.heap.size w w27) := ⟨by rw [← hq_]; exact (fB HB)⟩; clear BK616 BK617 BK618 HB hq_; have BK616 := n0_; have BK617 := n1_; have BK618 := n2_; have HB := n3_; clear n0_ n1_ n2_ n3_))))
   replace BK616 := am (blk_drew BK616.out); replace BK617 := am (blk_drew BK617.out); replace BK618 := am (blk_drew BK618.out); replace HB := am (below_drew1 HB.out)
   refine start_ (n := 9) (S := fun w' => w'.cell? ⟨gb616, 0, none⟩ = some (.bool a0_0) ∧ w'.cell? ⟨gb616, 1, none⟩ = some (.slice A0_1 l0_1.length c0_1) ∧ w'.cell? ⟨gb617, 0, none⟩ = some (.bool a1_0) ∧ w'.cell? ⟨gb617, 1, none⟩ = some (.slice A1_1 l1_1.length c1_1)) (ds := []) #[false, false, false, false, false, false, false, false, false] (by kernel_rfl) rfl rfl (hh4 BK616 BK617) (fun hHeld => ?_); refine with_tabW spec_l02Add.tab4 spec_l02Add.bits4 (fun HT_ HW_ => ?_)
   generalize w27.drew = w33 at BK616 BK617 BK618 HB hHeld ⊢
   refine pu 0 (some 24) #[true, false, false, false, false, false, false, false, false] HT_ ?_
   refine pu 2 (some 26) #[true, false, true, false, false, false, false, false, false] HT_ ?_
   refine pu 4 (some 28) #[true, false, true, false, true, false, false, false, false] HT_ ?_
   refine tk 1 (some 25) #[true, true, true, false, true, false, false, false, false] HT_ HW_ hHeld ?_
   refine tk 3 (some 27) #[true, true, true, true, true, false, false, false, false] HT_ HW_ hHeld ?_
   refine tk 5 (some 29) #[true, true, true, true, true, true, false, false, false] HT_ HW_ hHeld ?_
   refine on 6 (some 30) #[true, true, true, true, true, true, true, false, false] HT_ (fun K hK => ?_)
   refine ge Try.func110 #[.slice A0_1 l0_1.length c0_1, .slice A1_1 l1_1.length c1_1] ?_
   with_reducible refine (spec_l02Less.calls k _ _ l0_1 _ _ l1_1 t627 _ ?side1 ?side2 ?side3 ?side4 A23.out).mono ?_
   (case side1 => repeat (first | exact (Kd.C_below HR0_1.out HB.out) | (with_reducible refine Kd.C_alloc ?_ _) | (with_reducible refine Kd.C_drewN ?_ _) | (with_reducible refine Kd.C_drew ?_)))
   (case side2 => exact HC0_1.out)
   (case side3 => repeat (first | exact (Kd.C_below HR1_1.out HB.out) | (with_reducible refine Kd.C_alloc ?_ _) | (with_reducible refine Kd.C_drewN ?_ _) | (with_reducible refine Kd.C_drew ?_)))
   (case side4 => exact HC1_1.out)
   rintro e w34 ⟨v628, rfl, ho0, hb⟩
   refine ⟨_, rfl, ?_⟩
   have HO629 := loB ho0 HB; replace BK616 := kB BK616 hb; replace BK617 := kB BK617 hb; replace BK618 := kB BK618 hb; replace HB := sB HB hb
   clear hb ho0
   obtain ⟨Ao35, co35, eo35⟩ := Kd.R_slice HO629.out
   (first | subst eo35 | (injection eo35 with f1_ f2_ f3_; have f4_ := f1_.symm; have f5_ := f3_.symm; clear f1_ f2_ f3_; subst f4_; subst f5_))
   refine hK.out _ _ (hh4 BK616 BK617) (fun hHeld => ?_)
   clear hK K
   refine nm (some 30) ?_
   refine on 7 (some 31) #[true, true, true, true, true, true, true, true, false] HT_ (fun K hK => ?_)
   refine ge Try.func101 #[.bool a0_0, .slice Ao35 t627.length co35] ?_
   with_reducible refine (spec_l02Make.calls k a0_0 _ _ t627 t630 t631 _ ?side1 ?side2 A24.out).mono ?_
   (case side1 => repeat (first | exact (Kd.R_reads' HO629.out).2.2 | (with_reducible refine Kd.C_alloc ?_ _) | (with_reducible refine Kd.C_drewN ?_ _) | (with_reducible refine Kd.C_drew ?_)))
   (case side2 => exact (Kd.R_reads' HO629.out).2.1)
   rintro e w36 ⟨v632, rfl, ho0, hb⟩
   refine ⟨_, rfl, ?_⟩
   have HO633 := am (Kd.R_lower (Kd.R_new' ho0 (Kd.R_lt (fR HO629))) (below_size (fB HB))); replace HO629 := eR HO629 ho0 hb; replace BK616 := kB BK616 hb; replace BK617 := kB BK617 hb; replace BK618 := kB BK618 hb; replace HB := sB HB hb
   clear hb ho0
   obtain ⟨Ao38, co38, eo38⟩ := Kd.R_slice HO633.out
   (first | subst eo38 | (injection eo38 with f1_ f2_ f3_; have f4_ := f1_.symm; have f5_ := f3_.symm; clear f1_ f2_ f3_; subst f4_; subst f5_))
   refine hK.out _ _ (hh4 BK616 BK617) (fun hHeld => ?_)
   clear hK K
   refine nm (some 31) ?_
   refine on 8 (none) #[true, true, true, true, true, true, true, true, true] HT_ (fun K hK => ?_)
   have hs37 : w36.cell? ⟨gb618, 0, none⟩ = some (.bool false) := (blk_cell BK618.out 0).trans rfl
   have hfs37 := blk_frozen BK618.out 0
   have hns37_0 := NB616_618.out
   have hns37_1 := NB617_618.out
   have hms37_0 := NB618_616.out
   have hms37_1 := NB618_617.out
   have hs39 : w36.cell? ⟨gb618, 1, none⟩ = some (.slice none 0 0) := (blk_cell BK618.out 1).trans rfl
   have hfs39 := blk_frozen BK618.out 1
   have hns39_0 := NB616_618.out
   have hns39_1 := NB617_618.out
   have hms39_0 := NB618_616.out
   have hms39_1 := NB618_617.out
   refine skip_ (w1 := ?_) (by rfl) rfl ?_ ?_
   rotate_left
   ·
    go_simp
    rfl
   refine hK.out _ _ ⟨((cell_far (p := ⟨gb618, _, none⟩) NB616_618.out _).trans (((cell_far (p := ⟨gb618, _, none⟩) NB616_618.out _).trans (hHeld.1)))), ((cell_far (p := ⟨gb618, _, none⟩) NB616_618.out _).trans (((cell_far (p := ⟨gb618, _, none⟩) NB616_618.out _).trans (hHeld.2.1)))), ((cell_far (p := ⟨gb618, _, none⟩) NB617_618.out _).trans (((cell_far (p := ⟨gb618, _, none⟩) NB617_618.out _).trans (hHeld.2.2.1)))), ((cell_far (p := ⟨gb618, _, none⟩) NB617_618.out _).trans (((cell_far (p := ⟨gb618, _, none⟩) NB617_618.out _).trans (hHeld.2.2.2))))⟩ (fun hHeld => ?_)
   clear hK K
   refine done_ (done_of HT_.out (by kernel_rfl)) ?_
   try go_wp2
   refine bodyPost_ret (results_cell_row rfl _ _ gb618 60 #[.bool t630, .slice Ao38 t631.length co38] (0, 0) _ rfl (fP BK618) Try.underlying60 rfl (by kernel_rfl)) rfl ?_
   exact ⟨_, rz, tR1 HO633 BK618 (fun _ h => trivial), fB HB⟩
  ·
   rw [if_neg c22] at H
   have c22b0 : decide (0 ≤ t626) = false := decide_eq_false c22
   clear c22
   obtain ⟨t634, A40, H⟩ := ub H; try dsimp only at H
   obtain ⟨⟨t637, t638⟩, A41, H⟩ := ub H; dsimp only at H
   simp only [Option.some.injEq, Prod.mk.injEq] at H
   obtain ⟨rfl, rfl⟩ := H
   go_enter Try.func100, Try.ntmps100
   try go_wp2_with (first | (refine bx 2 #[.bool a0_0, .slice A0_1 l0_1.length c0_1] 60 ?_; intro gb616 hg w42 hbox hb; have BK616 := am (hbox); have GW616 := zB HB hg; have GE616 := zB HB hg; replace HB := sB HB hb; clear hb hbox hg) | (refine bx 3 #[.bool a1_0, .slice A1_1 l1_1.length c1_1] 60 ?_; intro gb617 hg w43 hbox hb; have BK617 := am (hbox); have GW617 := zB HB hg; have GE617 := zB HB hg; replace HB := sB HB hb; obtain ⟨NB616_617, NB617_616⟩ := nB BK616 hg; replace BK616 := kB BK616 hb; clear hb hbox hg) | (refine bx 4 #[.bool false, .slice none 0 0] 60 ?_; intro gb618 hg w44 hbox hb; have BK618 := am (hbox); have GW618 := zB HB hg; have GE618 := zB HB hg; replace HB := sB HB hb; obtain ⟨NB616_618, NB618_616⟩ := nB BK616 hg; replace BK616 := kB BK616 hb; obtain ⟨NB617_618, NB618_617⟩ := nB BK617 hg; replace BK617 := kB BK617 hb; clear hb hbox hg; have hnb45 := NB616_617.out; have hnc45 := NB617_616.out; have hnb46 := NB616_618.out; have hnc46 := NB618_616.out; obtain ⟨hcz47_0, hcz47_1, hfz47_0, hfz47_1⟩ := cz2 BK616; have hnb48 := NB617_618.out; have hnc48 := NB618_617.out; obtain ⟨hcz49_0, hcz49_1, hfz49_0, hfz49_1⟩ := cz2 BK617) | (refine cl 109 (some 22) Try.func109 #[.slice A0_1 l0_1.length c0_1, .slice A1_1 l1_1.length c1_1] ?_; (with_reducible refine (spec_l02Least.calls k _ _ l0_1 _ _ l1_1 t626 _ ?side1 ?side2 ?side3 ?side4 A21.out).mono ?_); (case side1 => repeat (first | exact (Kd.C_below HR0_1.out HB.out) | (with_reducible refine Kd.C_alloc ?_ _) | (with_reducible refine Kd.C_drewN ?_ _) | (with_reducible refine Kd.C_drew ?_))); (case side2 => exact HC0_1.out); (case side3 => repeat (first | exact (Kd.C_below HR1_1.out HB.out) | (with_reducible refine Kd.C_alloc ?_ _) | (with_reducible refine Kd.C_drewN ?_ _) | (with_reducible refine Kd.C_drew ?_))); (case side4 => exact HC1_1.out); rintro e w' ⟨rfl, ⟨nd, rfl⟩⟩; refine ⟨_, rfl, ?_⟩; (try (rw [drewN_self w44]; generalize hq_ : World.drewN w44 _ = w44; have n0_ : Aside0 (w44.heap[gb616]? = some (.cells #[.bool a0_0, .slice A0_1 l0_1.length c0_1] 60 (0, 0))) := ⟨by rw [← hq_]; exact (fb BK616)⟩; have n1_ : Aside0 (w44.heap[gb617]? = some (.cells #[.bool a1_0, .slice A1_1 l1_1.length c1_1] 60 (0, 0))) := ⟨by rw [← hq_]; exact (fb BK617)⟩; have n2_ : Aside0 (w44.heap[gb618]? = some (.cells #[.bool false, .slice none 0 0] 60 (0, 0))) := ⟨by rw [← hq_]; exact (fb BK618)⟩; have n3_ : Aside0 (Below w.heap.size w w44) := ⟨by rw [← hq_]; exact (fB HB)⟩; clear BK616 BK617 BK618 HB hq_; have BK616 := n0_; have BK617 := n1_; have BK618 := n2_; have HB := n3_; clear n0_ n1_ n2_ n3_))))
   replace BK616 := am (blk_drew BK616.out); replace BK617 := am (blk_drew BK617.out); replace BK618 := am (blk_drew BK618.out); replace HB := am (below_drew1 HB.out)
   refine start_ (n := 9) (S := fun w' => w'.cell? ⟨gb617, 0, none⟩ = some (.bool a1_0) ∧ w'.cell? ⟨gb617, 1, none⟩ = some (.slice A1_1 l1_1.length c1_1) ∧ w'.cell? ⟨gb616, 0, none⟩ = some (.bool a0_0) ∧ w'.cell? ⟨gb616, 1, none⟩ = some (.slice A0_1 l0_1.length c0_1)) (ds := []) #[false, false, false, false, false, false, false, false, false] (by kernel_rfl) rfl rfl (hh4 BK617 BK616) (fun hHeld => ?_); refine with_tabW spec_l02Add.tab5 spec_l02Add.bits5 (fun HT_ HW_ => ?_)
   generalize w44.drew = w50 at BK616 BK617 BK618 HB hHeld ⊢
   refine pu 0 (some 32) #[true, false, false, false, false, false, false, false, false] HT_ ?_
   refine pu 2 (some 34) #[true, false, true, false, false, false, false, false, false] HT_ ?_
   refine pu 4 (some 36) #[true, false, true, false, true, false, false, false, false] HT_ ?_
   refine tk 1 (some 33) #[true, true, true, false, true, false, false, false, false] HT_ HW_ hHeld ?_
   refine tk 3 (some 35) #[true, true, true, true, true, false, false, false, false] HT_ HW_ hHeld ?_
   refine tk 5 (some 37) #[true, true, true, true, true, true, false, false, false] HT_ HW_ hHeld ?_
   refine on 6 (some 38) #[true, true, true, true, true, true, true, false, false] HT_ (fun K hK => ?_)
   refine ge Try.func110 #[.slice A1_1 l1_1.length c1_1, .slice A0_1 l0_1.length c0_1] ?_
   with_reducible refine (spec_l02Less.calls k _ _ l1_1 _ _ l0_1 t634 _ ?side1 ?side2 ?side3 ?side4 A40.out).mono ?_
   (case side1 => repeat (first | exact (Kd.C_below HR1_1.out HB.out) | (with_reducible refine Kd.C_alloc ?_ _) | (with_reducible refine Kd.C_drewN ?_ _) | (with_reducible refine Kd.C_drew ?_)))
   (case side2 => exact HC1_1.out)
   (case side3 => repeat (first | exact (Kd.C_below HR0_1.out HB.out) | (with_reducible refine Kd.C_alloc ?_ _) | (with_reducible refine Kd.C_drewN ?_ _) | (with_reducible refine Kd.C_drew ?_)))
   (case side4 => exact HC0_1.out)
   rintro e w51 ⟨v635, rfl, ho0, hb⟩
   refine ⟨_, rfl, ?_⟩
   have HO636 := loB ho0 HB; replace BK616 := kB BK616 hb; replace BK617 := kB BK617 hb; replace BK618 := kB BK618 hb; replace HB := sB HB hb
   clear hb ho0
   obtain ⟨Ao52, co52, eo52⟩ := Kd.R_slice HO636.out
   (first | subst eo52 | (injection eo52 with f1_ f2_ f3_; have f4_ := f1_.symm; have f5_ := f3_.symm; clear f1_ f2_ f3_; subst f4_; subst f5_))
   refine hK.out _ _ (hh4 BK617 BK616) (fun hHeld => ?_)
   clear hK K
   refine nm (some 38) ?_
   refine on 7 (some 39) #[true, true, true, true, true, true, true, true, false] HT_ (fun K hK => ?_)
   refine ge Try.func101 #[.bool a1_0, .slice Ao52 t634.length co52] ?_
   with_reducible refine (spec_l02Make.calls k a1_0 _ _ t634 t637 t638 _ ?side1 ?side2 A41.out).mono ?_
   (case side1 => repeat (first | exact (Kd.R_reads' HO636.out).2.2 | (with_reducible refine Kd.C_alloc ?_ _) | (with_reducible refine Kd.C_drewN ?_ _) | (with_reducible refine Kd.C_drew ?_)))
   (case side2 => exact (Kd.R_reads' HO636.out).2.1)
   rintro e w53 ⟨v639, rfl, ho0, hb⟩
   refine ⟨_, rfl, ?_⟩
   have HO640 := am (Kd.R_lower (Kd.R_new' ho0 (Kd.R_lt (fR HO636))) (below_size (fB HB))); replace HO636 := eR HO636 ho0 hb; replace BK616 := kB BK616 hb; replace BK617 := kB BK617 hb; replace BK618 := kB BK618 hb; replace HB := sB HB hb
   clear hb ho0
   obtain ⟨Ao55, co55, eo55⟩ := Kd.R_slice HO640.out
   (first | subst eo55 | (injection eo55 with f1_ f2_ f3_; have f4_ := f1_.symm; have f5_ := f3_.symm; clear f1_ f2_ f3_; subst f4_; subst f5_))
   refine hK.out _ _ (hh4 BK617 BK616) (fun hHeld => ?_)
   clear hK K
   refine nm (some 39) ?_
   refine on 8 (none) #[true, true, true, true, true, true, true, true, true] HT_ (fun K hK => ?_)
   have hs54 : w53.cell? ⟨gb618, 0, none⟩ = some (.bool false) := (blk_cell BK618.out 0).trans rfl
   have hfs54 := blk_frozen BK618.out 0
   have hns54_0 := NB616_618.out
   have hns54_1 := NB617_618.out
   have hms54_0 := NB618_616.out
   have hms54_1 := NB618_617.out
   have hs56 : w53.cell? ⟨gb618, 1, none⟩ = some (.slice none 0 0) := (blk_cell BK618.out 1).trans rfl
   have hfs56 := blk_frozen BK618.out 1
   have hns56_0 := NB616_618.out
   have hns56_1 := NB617_618.out
   have hms56_0 := NB618_616.out
   have hms56_1 := NB618_617.out
   refine skip_ (w1 := ?_) (by rfl) rfl ?_ ?_
   rotate_left
   ·
    go_simp
    rfl
   refine hK.out _ _ ⟨((cell_far (p := ⟨gb618, _, none⟩) NB617_618.out _).trans (((cell_far (p := ⟨gb618, _, none⟩) NB617_618.out _).trans (hHeld.1)))), ((cell_far (p := ⟨gb618, _, none⟩) NB617_618.out _).trans (((cell_far (p := ⟨gb618, _, none⟩) NB617_618.out _).trans (hHeld.2.1)))), ((cell_far (p := ⟨gb618, _, none⟩) NB616_618.out _).trans (((cell_far (p := ⟨gb618, _, none⟩) NB616_618.out _).trans (hHeld.2.2.1)))), ((cell_far (p := ⟨gb618, _, none⟩) NB616_618.out _).trans (((cell_far (p := ⟨gb618, _, none⟩) NB616_618.out _).trans (hHeld.2.2.2))))⟩ (fun hHeld => ?_)
   clear hK K
   refine done_ (done_of HT_.out (by kernel_rfl)) ?_
   try go_wp2
   refine bodyPost_ret (results_cell_row rfl _ _ gb618 60 #[.bool t637, .slice Ao55 t638.length co55] (0, 0) _ rfl (fP BK618) Try.underlying60 rfl (by kernel_rfl)) rfl ?_
   exact ⟨_, rz, tR1 HO640 BK618 (fun _ h => trivial), fB HB⟩

/-! ### spec_l02Bit: function 102 -/
set_option maxHeartbeats 8000000 in
set_option maxRecDepth 100000 in
theorem spec_l02Bit.calls (k : Nat) (a0 : Int) (r1 : Bool) (r2 : List Int) (w : World) (h : spec_l02Bit.f k a0 = some (r1, r2)) :
  Calls Try.prog 102 #[.int .i64 a0] w fun e w' => ∃ v1_ : Value, e = .returned (.agg #[.bool r1, v1_]) ∧ Kd.R (Kd.int .u32) 119 w' w.heap.size (fun _ => True) v1_ r2 ∧ Below w.heap.size w w' := by
 have hu60 := Try.underlying60
 have HB := am (Below.refl w.heap.size w)
 have H : (if 0 ≤ (wrap64 ((wrap64 (Int.tdiv a0 32)) + 1)) then (if (wrap64 ((wrap64 (Int.tdiv a0 32)) + 1) : Int).toNat ≤ 70368744177664 then ((some (List.replicate (wrap64 ((wrap64 (Int.tdiv a0 32)) + 1) : Int).toNat 0 : List Int)).bind fun y642 => (if 0 ≤ (IntKind.u64.wrap (Int.tmod a0 32)) then (if 0 ≤ (wrap64 (Int.tdiv a0 32)) then (if (wrap64 (Int.tdiv a0 32)) < (y642.length : Int) then ((spec_l02Make.f k false (y642.set ((wrap64 (Int.tdiv a0 32)) : Int).toNat (shl .u32 1 (IntKind.u64.wrap (Int.tmod a0 32))))).bind fun bt646 => (some (bt646.1, bt646.2))) else (none)) else (none)) else (none))) else (none)) else (none)) = some (r1, r2) := h
 clear h
 obtain ⟨ji2, hji2⟩ : ∃ j_ : Int, (wrap64 ((wrap64 (Int.tdiv a0 32)) + 1)) = j_ := ⟨_, rfl⟩
 replace H : (if 0 ≤ (ji2) then (if (ji2 : Int).toNat ≤ 70368744177664 then ((some (List.replicate (ji2 : Int).toNat 0 : List Int)).bind fun y642 => (if 0 ≤ (IntKind.u64.wrap (Int.tmod a0 32)) then (if 0 ≤ (wrap64 (Int.tdiv a0 32)) then (if (wrap64 (Int.tdiv a0 32)) < (y642.length : Int) then ((spec_l02Make.f k false (y642.set ((wrap64 (Int.tdiv a0 32)) : Int).toNat (shl .u32 1 (IntKind.u64.wrap (Int.tmod a0 32))))).bind fun bt646 => (some (bt646.1, bt646.2))) else (none)) else (none)) else (none))) else (none)) else (none)) = some (r1, r2) := by first | (rw [hji2] at H; exact H) | (simp only [hji2] at H ⊢; exact H)
 have hji2w : (IntKind.i64.wrap ((wrap64 (Int.tdiv a0 32)) + 1)) = ji2 := (i64_w _).trans hji2
 by_cases c3 : 0 ≤ (ji2)
 ·
  rw [if_pos c3] at H
  have c3b0 := eq_true c3
  have c3b1 : decide (0 ≤ (ji2)) = true := decide_eq_true c3
  clear c3
  by_cases c4 : (ji2 : Int).toNat ≤ 70368744177664
  ·
   rw [if_pos c4] at H
   have c4b0 := eq_true c4
   have c4b1 : decide ((ji2 : Int).toNat ≤ 70368744177664) = true := decide_eq_true c4
   clear c4
   obtain ⟨y642, Ny642, H⟩ := uy H; try dsimp only at H
   obtain ⟨ji5, hji5⟩ : ∃ j_ : Int, (IntKind.u64.wrap (Int.tmod a0 32)) = j_ := ⟨_, rfl⟩
   replace H : (if 0 ≤ (ji5) then (if 0 ≤ (wrap64 (Int.tdiv a0 32)) then (if (wrap64 (Int.tdiv a0 32)) < (y642.length : Int) then ((spec_l02Make.f k false (y642.set ((wrap64 (Int.tdiv a0 32)) : Int).toNat (shl .u32 1 (ji5)))).bind fun bt646 => (some (bt646.1, bt646.2))) else (none)) else (none)) else (none)) = some (r1, r2) := by first | (rw [hji5] at H; exact H) | (simp only [hji5] at H ⊢; exact H)
   by_cases c6 : 0 ≤ (ji5)
   ·
    rw [if_pos c6] at H
    have c6b0 := eq_true c6
    have c6b1 : decide (0 ≤ (ji5)) = true := decide_eq_true c6
    clear c6
    obtain ⟨ji7, hji7⟩ : ∃ j_ : Int, (shl .u32 1 (ji5)) = j_ := ⟨_, rfl⟩
    replace H : (if 0 ≤ (wrap64 (Int.tdiv a0 32)) then (if (wrap64 (Int.tdiv a0 32)) < (y642.length : Int) then ((spec_l02Make.f k false (y642.set ((wrap64 (Int.tdiv a0 32)) : Int).toNat (ji7))).bind fun bt646 => (some (bt646.1, bt646.2))) else (none)) else (none)) = some (r1, r2) := by first | (rw [hji7] at H; exact H) | (simp only [hji7] at H ⊢; exact H)
    have hji7_ : (IntKind.u32.wrap (1 * 2 ^ min (ji5).toNat 32)) = ji7 := hji7
    have hji7z : (ji5) ≤ 32 → (IntKind.u32.wrap (1 * 2 ^ (ji5).toNat)) = ji7 := shl_small hji7
    have hji7u : (IntKind.u32.wrap (2 ^ min (ji5).toNat 32)) = ji7 := by have h_ := hji7_; rw [Int.one_mul] at h_; exact h_
    have hji7v : (ji5) ≤ 32 → (IntKind.u32.wrap (2 ^ (ji5).toNat)) = ji7 := fun hle_ => by have h_ := hji7z hle_; rw [Int.one_mul] at h_; exact h_
    obtain ⟨ji8, hji8⟩ : ∃ j_ : Int, (wrap64 (Int.tdiv a0 32)) = j_ := ⟨_, rfl⟩
    replace H : (if 0 ≤ (ji8) then (if (ji8) < (y642.length : Int) then ((spec_l02Make.f k false (y642.set ((ji8) : Int).toNat (ji7))).bind fun bt646 => (some (bt646.1, bt646.2))) else (none)) else (none)) = some (r1, r2) := by first | (rw [hji8] at H; exact H) | (simp only [hji8] at H ⊢; exact H)
    have hji8w : (IntKind.i64.wrap (Int.tdiv a0 32)) = ji8 := (i64_w _).trans hji8
    have hji2v : wrap64 (ji8 + 1) = ji2 := by rw [← hji8]; exact hji2
    have hji2u : IntKind.i64.wrap (ji8 + 1) = ji2 := (i64_w _).trans hji2v
    by_cases c9 : 0 ≤ (ji8)
    ·
     rw [if_pos c9] at H
     have c9b0 : decide (0 ≤ (ji8)) = true := decide_eq_true c9
     clear c9
     by_cases c10 : (ji8) < (y642.length : Int)
     ·
      rw [if_pos c10] at H
      have c10b0 : decide ((ji8) < (y642.length : Int)) = true := decide_eq_true c10
      clear c10
      obtain ⟨y645, Ny645⟩ : ∃ y_ : List Int, Aside0 (y_ = (y642.set ((ji8) : Int).toNat (ji7))) := ⟨_, ⟨rfl⟩⟩; rw [← Ny645.out] at H
      obtain ⟨⟨t646, t647⟩, A12, H⟩ := ub H; dsimp only at H
      simp only [Option.some.injEq, Prod.mk.injEq] at H
      obtain ⟨rfl, rfl⟩ := H
      go_enter Try.func102, Try.ntmps102
      go_wp2_with (first | (refine bx 2 #[.bool false, .slice none 0 0] 60 ?_; intro gb641 hg w13 hbox hb; have BK641 := am (hbox); have GW641 := zB HB hg; have GE641 := zB HB hg; replace HB := sB HB hb; clear hb hbox hg) | ((with_reducible refine gate_dst (N := 7) rfl ?_); refine Kd.R_make (Kd.int .u32) _ 119 rfl (N := 7) rfl 58 _ _ rfl ji2 rfl rfl Try.underlying58 (.int .u32 0) 4 info119 rfl (by decide) (by omega) 0 (ok := fun _ => True) (okp := fun _ => True) rfl (fun _ hk => hk) trivial (of_decide_eq_true (ha)) (Nat.le_trans (Nat.mul_le_mul_right _ (of_decide_eq_true (ha) : ji2.toNat ≤ 70368744177664)) (by omega)) (Below.refl _ _) (Nat.le_refl _) ?_; intro v643 w14 ho15 hb hg_ hnew_; clear hg_ hnew_; (first | rw [← Ny642.out] at ho15 | (simp only [Int.reduceToNat] at ho15; rw [← Ny642.out] at ho15)); have HO644 := loB ho15 HB; replace BK641 := kB BK641 hb; replace HB := sB HB hb; clear hb ho15; have p11 : 0 ≤ ((ji8) : Int) := of_decide_eq_true (ha); have q11 : ((ji8) : Int) < ((y642.length : Int) : Int) := of_decide_eq_true (ha); obtain ⟨go11, co11, eo11, gb11, gl11, cl11, HG11⟩ := Kd.R_form HO644.out (by omega); (first | cases eo11 | (injection eo11 with ea_ en_ ec_; (first | subst ea_ | (injection ea_ with ea_; subst ea_)); subst ec_; clear en_)); have GB11 := am gb11; have GG11 := am HG11; clear gb11 gl11 HG11; obtain ⟨hx11_0, hf11_0⟩ := Kd.R_celln 0 HO644.out ((ji8) : Int) p11 q11; replace p11 := eq_true p11; replace q11 := eq_true q11; obtain ⟨hy16_, hz16_⟩ := Kd.R_celln 0 HO644.out ((ji8) : Int) (of_decide_eq_true (ha)) (of_decide_eq_true (ha)); have HP16 := Kd.R_putg HO644.out ((ji8) : Int) ji7) | ((with_reducible refine gate_store (t := 119) (p := 15) rfl ?_); refine store_event (t := 119) (p := 15) (v := ?vo_w17) (w1 := (w14.setCell ⟨go11, ((ji8) : Int).toNat, none⟩ (.int .u32 ji7))) ?hg ?ho ?hn ?hr ?_; (case ho => rfl); (case hg => rfl); (case hn => rfl); (case hr => first | (go_simp; done) | (go_simp; rfl)); intro w17 hw; have hg : w14.grownBy w17 (some go11) := (by rw [hw]; exact HP16.2); have hp_ : Kd.R (Kd.int .u32) 119 w17 w.heap.size (fun _ => True) (.slice (some ⟨go11, 0, none⟩) y642.length co11) y645 := (by rw [hw, Ny645.out]; exact HP16.1); clear HP16; replace BK641 := am (blk_grown (g := gb641) (o := .cells #[.bool false, .slice none 0 0] 60 (0, 0)) (fb BK641) hg (Kd.R_ne HO644.out BK641.out (by decide))); replace HO644 := am (hp_); replace HB := am ((by rw [hw]; exact below_set (HB.out) GB11.out : Below w.heap.size w w17)); clear hg hw hp_) | ((with_reducible refine gate_callee (f := 101) rfl ?_); refine goesL_ (some 17) rfl rfl Try.func101 (by kernel_rfl) rfl #[.bool false, .slice (some ⟨go11, 0, none⟩) y645.length co11] rfl (by (try simp only [List.map_toArray, List.map_cons, List.map_nil]); first | done | (rw [show y645.length = y642.length from (Kd.R_reads' HO644.out).1.symm] <;> rfl) | rfl | (simp only [List.length_drop, List.length_take]; rfl)) ?_; (with_reducible refine (spec_l02Make.calls k false _ _ y645 t646 t647 _ ?side1 ?side2 A12.out).mono ?_); (case side1 => repeat (first | exact (Kd.R_reads' HO644.out).2.2 | (with_reducible refine Kd.C_alloc ?_ _) | (with_reducible refine Kd.C_drewN ?_ _) | (with_reducible refine Kd.C_drew ?_))); (case side2 => rw [show y645.length = y642.length from (Kd.R_reads' HO644.out).1.symm]; exact (Kd.R_reads' HO644.out).2.1); rintro e w18 ⟨v648, rfl, ho0, hb⟩; refine ⟨_, rfl, ?_⟩; have HO649 := am (Kd.R_lower (Kd.R_new' ho0 (Kd.R_lt (fR HO644))) (below_size (fB HB))); replace HO644 := eR HO644 ho0 hb; replace BK641 := kB BK641 hb; replace HB := sB HB hb; clear hb ho0; obtain ⟨hcz19_0, hcz19_1, hfz19_0, hfz19_1⟩ := cz2 BK641; obtain ⟨Ao20, co20, eo20⟩ := Kd.R_slice HO649.out; subst eo20))
      refine bodyPost_ret (results_cell_row rfl _ _ gb641 60 #[.bool t646, .slice Ao20 t647.length co20] (0, 0) _ rfl (fP BK641) Try.underlying60 rfl (by kernel_rfl)) rfl ?_
      exact ⟨_, by first | rfl | (simp [errW_none, errW_some] <;> rfl) | (simp only [← hji2, ← hji5, ← hji7, ← hji8]; first | rfl | (simp [errW_none, errW_some] <;> rfl)) | (simp [*, errW_none, errW_some] <;> rfl), tR1 HO649 BK641 (fun _ h => trivial), fB HB⟩
     ·
      rw [if_neg c10] at H
      exact absurd H (by simp)
    ·
     rw [if_neg c9] at H
     exact absurd H (by simp)
   ·
    rw [if_neg c6] at H
    exact absurd H (by simp)
  ·
   rw [if_neg c4] at H
   exact absurd H (by simp)
 ·
  rw [if_neg c3] at H
  exact absurd H (by simp)

/-! ### spec_l03Some: function 90 -/
set_option maxHeartbeats 8000000 in
set_option maxRecDepth 100000 in
theorem spec_l03Some.calls (k : Nat) (g : Nat) (s0_0 : List Int) (s0_1 : Int) (s0_2 : Int) (r1 : Bool) (r2 : List Int) (r3 : Bool) (r4 : List Int) (r5 : Int) (r6 : Int) (w0 w : World) (hI : IsS90 w0 w g s0_0 s0_1 s0_2) (hB : Below w0.heap.size w0 w) (h : spec_l03Some.f k s0_0 s0_1 s0_2 = some (r1, r2, r3, r4, r5, r6)) :
  Calls Try.prog 90 #[.pointer (some ⟨g, 0, none⟩)] w fun e w' => ∃ v1_ v3_ : Value, e = .returned (.agg #[.bool r1, v1_, .bool r3, v3_]) ∧ Kd.R (Kd.int .u32) 119 w' w.heap.size (fun k_ => some k_ ≠ (v3_ : Value).ownBlock) v1_ r2 ∧ Kd.R (Kd.int .u32) 119 w' w.heap.size (fun k_ => some k_ ≠ (v1_ : Value).ownBlock) v3_ r4 ∧ IsS90 w0 w' g s0_0 r5 r6 ∧ Below w0.heap.size w0 w' ∧ KeepBut w w' g none := by
 have hu60 := Try.underlying60
 have hu62 := Try.underlying62
 have HI0 := am hI
 have HK := am (KeepBut.refl w g none)
 have HL := am hB.size
 clear hI
 have HW0 := am hB.size
 have HB := am hB
 clear hB
 have H : ((spec_l01Below.f s0_0 s0_1 s0_2 8).bind fun bt651 => (if bt651.1 = 0 then ((spec_l01PickInt.f s0_0 bt651.2.1 bt651.2.2 (([0, 1, (-1), 2, 1000] : List Int))).bind fun bt657 => ((spec_l03Of.f k bt657.1).bind fun bt660 => (some (bt660.1, bt660.2.1, bt660.2.2.1, bt660.2.2.2, bt657.2.1, bt657.2.2)))) else (if bt651.1 = 1 then ((spec_l02Big.f k s0_0 bt651.2.1 bt651.2.2 4).bind fun bt668 => ((spec_l02Big.f k s0_0 bt668.2.2.1 bt668.2.2.2 4).bind fun bt674 => ((spec_l02Make.f k false bt674.2.1).bind fun bt680 => ((spec_FromInt.f k 1).bind fun bt684 => ((spec_l02Add.f k bt680.1 bt680.2 bt684.1 bt684.2).bind fun bt688 => ((spec_l03Make.f k bt668.1 bt668.2.1 bt688.1 bt688.2).bind fun bt692 => (some (bt692.1, bt692.2.1, bt692.2.2.1, bt692.2.2.2, bt674.2.2.1, bt674.2.2.2)))))))) else (if bt651.1 = 2 then ((spec_l02Big.f k s0_0 bt651.2.1 bt651.2.2 40).bind fun bt700 => ((spec_l01Below.f s0_0 bt700.2.2.1 bt700.2.2.2 1279).bind fun bt706 => ((spec_l02Bit.f k bt706.1).bind fun bt709 => ((spec_l03Make.f k bt700.1 bt700.2.1 bt709.1 bt709.2).bind fun bt713 => (some (bt713.1, bt713.2.1, bt713.2.2.1, bt713.2.2.2, bt706.2.1, bt706.2.2)))))) else ((spec_l01Below.f s0_0 bt651.2.1 bt651.2.2 400).bind fun bt721 => ((spec_FromInt.f k (wrap64 (bt721.1 - 150))).bind fun bt724 => ((spec_l01Below.f s0_0 bt721.2.1 bt721.2.2 24).bind fun bt728 => ((spec_FromInt.f k (wrap64 (1 + bt728.1))).bind fun bt731 => ((spec_l03Make.f k bt724.1 bt724.2 bt731.1 bt731.2).bind fun bt735 => (some (bt735.1, bt735.2.1, bt735.2.2.1, bt735.2.2.2, bt728.2.1, bt728.2.2))))))))))) = some (r1, r2, r3, r4, r5, r6) := h
 clear h
 obtain ⟨⟨t651, t652, t653⟩, A2, H⟩ := ub H; dsimp only at H
 by_cases c3 : t651 = 0
 ·
  rw [if_pos c3] at H
  obtain ⟨c3b0, c3b1⟩ := bqt c3
  clear c3
  obtain ⟨y654, Ny654⟩ : ∃ y_ : List Int, Aside0 (y_ = (([0, 1, (-1), 2, 1000] : List Int))) := ⟨_, ⟨rfl⟩⟩; rw [← Ny654.out] at H
  obtain ⟨⟨t657, t658, t659⟩, A4, H⟩ := ub H; dsimp only at H
  obtain ⟨⟨t660, t661, t664, t665⟩, A5, H⟩ := ub H; dsimp only at H
  simp only [Option.some.injEq, Prod.mk.injEq] at H
  obtain ⟨rfl, rfl, rfl, rfl, rfl, rfl⟩ := H
  go_enter Try.func90, Try.ntmps90
  go_wp2_with (first | (refine bx 2 #[.bool false, .slice none 0 0, .bool false, .slice none 0 0] 62 ?_; intro gb650 hg w6 hbox hb; replace HB := sB HB hb; have BK650 := am (hbox); have GW650 := zK HK hg; have GE650 := zW HW0 (zK HK hg); replace HK := KB HK hb; obtain ⟨NB0_650, NB650_0⟩ := nI HI0 hg; replace HI0 := IB HI0 hb; clear hb hbox hg) | (refine cl 56 (some 4) Try.func56 #[.pointer (some ⟨g, 0, none⟩), .int .i64 8] ?_; (with_reducible refine (spec_l01Below.calls g s0_0 s0_1 s0_2 8 t651 t652 t653 w0 _ ?side1 ?side2 A2.out).mono ?_); (case side1 => exact fI HI0); (case side2 => exact fB HB); rintro e w7 ⟨rfl, hi, hb, hk⟩; refine ⟨_, rfl, ?_⟩; replace BK650 := kK BK650 hk NB650_0; replace HK := Kk HK hk; replace HB := am (hb); replace HI0 := am (hi); clear hb hk hi) | ((with_reducible refine gate_dst (N := 8) rfl ?_); refine Kd.R_lit (Kd.int .i64) _ 3 ?hg (N := 8) ?hd (xs := ([0, 1, (-1), 2, 1000] : List Int)) (inner := [.int .i64 0, .int .i64 1, .int .i64 (-1), .int .i64 2, .int .i64 1000]) (ok := fun _ => True) (okp := fun _ => True) ?hr ?hp (fun _ hk => hk) trivial (Below.refl _ _) (Nat.le_refl _) (by simp) ?_; (case hd => rfl); (case hg => rfl); (case hr => first | (go_simp; done) | (go_simp; rfl)); (case hp => exact (Reps.one (show Kd.M (Kd.int .i64) _ _ _ 0 [.int .i64 0] from rfl) (Reps.one (show Kd.M (Kd.int .i64) _ _ _ 1 [.int .i64 1] from rfl) (Reps.one (show Kd.M (Kd.int .i64) _ _ _ (-1) [.int .i64 (-1)] from rfl) (Reps.one (show Kd.M (Kd.int .i64) _ _ _ 2 [.int .i64 2] from rfl) (Reps.one (show Kd.M (Kd.int .i64) _ _ _ 1000 [.int .i64 1000] from rfl) (Reps.none _ _))))))); intro v655 w8 ho9 hb hg_ hnew_; clear hg_ hnew_; (first | rw [← Ny654.out] at ho9 | (simp only [Int.reduceToNat] at ho9; rw [← Ny654.out] at ho9)); have HO656 := loK ho9 HK; replace HI0 := IB HI0 hb; replace BK650 := kB BK650 hb; replace HK := KB HK hb; replace HB := sB HB hb; clear hb ho9; obtain ⟨Ao10, co10, eo10⟩ := Kd.R_slice HO656.out; subst eo10) | (refine cl 59 (some 9) Try.func59 #[.pointer (some ⟨g, 0, none⟩), .slice Ao10 y654.length co10] ?_; (with_reducible refine (spec_l01PickInt.calls g s0_0 t652 t653 _ _ y654 t657 t658 t659 w0 _ ?side1 ?side2 ?side3 ?side4 ?side5 A4.out).mono ?_); (case side1 => exact fI HI0); (case side2 => exact fB HB); (case side3 => repeat (first | exact (Kd.R_reads' HO656.out).2.2 | (with_reducible refine Kd.C_alloc ?_ _) | (with_reducible refine Kd.C_drewN ?_ _) | (with_reducible refine Kd.C_drew ?_))); (case side4 => exact (Kd.R_reads' HO656.out).2.1); (case side5 => exact far_slice (IsS90.own_ne HI0.out HO656.out (by decide))); rintro e w11 ⟨rfl, hi, hb, hk⟩; refine ⟨_, rfl, ?_⟩; replace BK650 := kK BK650 hk NB650_0; replace HO656 := kR HI0 HO656 hk; replace HK := Kk HK hk; replace HB := am (hb); replace HI0 := am (hi); clear hb hk hi) | (refine cl 82 (some 10) Try.func82 #[.int .i64 t657] ?_; (with_reducible refine (spec_l03Of.calls k t657 t660 t661 t664 t665 _ A5.out).mono ?_); rintro e w12 ⟨v662, v666, rfl, ho0, ho1, hb⟩; refine ⟨_, rfl, ?_⟩; replace HO656 := RB HO656 hb; have HO663 := loK ho0 HK; have HO667 := loK ho1 HK; replace HI0 := IB HI0 hb; replace BK650 := kB BK650 hb; replace HK := KB HK hb; replace HB := sB HB hb; clear hb ho0 ho1; have hnb13 := NB650_0.out; have hnc13 := NB0_650.out; obtain ⟨hcz14_0, hcz14_1, hcz14_2, hcz14_3, hfz14_0, hfz14_1, hfz14_2, hfz14_3⟩ := cz4 BK650; obtain ⟨Ao15, co15, eo15⟩ := Kd.R_slice HO663.out; subst eo15; obtain ⟨Ao16, co16, eo16⟩ := Kd.R_slice HO667.out; subst eo16))
  refine bodyPost_ret (results_cell_row rfl _ _ gb650 62 #[.bool t660, .slice Ao15 t661.length co15, .bool t664, .slice Ao16 t665.length co16] (0, 0) _ rfl (fP BK650) Try.underlying62 rfl (by kernel_rfl)) rfl ?_
  exact ⟨_, _, rz, tR1 HO663 BK650 (fun _ h => h.1), tR1 HO667 BK650 (fun _ h => h.1), fI HI0, fB HB, fK HK⟩
 ·
  rw [if_neg c3] at H
  obtain ⟨c3b0, c3b1⟩ := bqf c3
  by_cases c17 : t651 = 1
  ·
   rw [if_pos c17] at H
   obtain ⟨c17b0, c17b1⟩ := bqt c17
   clear c17
   obtain ⟨⟨t668, t669, t672, t673⟩, A18, H⟩ := ub H; dsimp only at H
   obtain ⟨⟨t674, t675, t678, t679⟩, A19, H⟩ := ub H; dsimp only at H
   obtain ⟨⟨t680, t681⟩, A20, H⟩ := ub H; dsimp only at H
   obtain ⟨⟨t684, t685⟩, A21, H⟩ := ub H; dsimp only at H
   obtain ⟨⟨t688, t689⟩, A22, H⟩ := ub H; dsimp only at H
   obtain ⟨⟨t692, t693, t696, t697⟩, A23, H⟩ := ub H; dsimp only at H
   simp only [Option.some.injEq, Prod.mk.injEq] at H
   obtain ⟨rfl, rfl, rfl, rfl, rfl, rfl⟩ := H
   go_enter Try.func90, Try.ntmps90
   go_wp2_with (first | (refine bx 2 #[.bool false, .slice none 0 0, .bool false, .slice none 0 0] 62 ?_; intro gb650 hg w24 hbox hb; replace HB := sB HB hb; have BK650 := am (hbox); have GW650 := zK HK hg; have GE650 := zW HW0 (zK HK hg); replace HK := KB HK hb; obtain ⟨NB0_650, NB650_0⟩ := nI HI0 hg; replace HI0 := IB HI0 hb; clear hb hbox hg) | (refine cl 56 (some 4) Try.func56 #[.pointer (some ⟨g, 0, none⟩), .int .i64 8] ?_; (with_reducible refine (spec_l01Below.calls g s0_0 s0_1 s0_2 8 t651 t652 t653 w0 _ ?side1 ?side2 A2.out).mono ?_); (case side1 => exact fI HI0); (case side2 => exact fB HB); rintro e w25 ⟨rfl, hi, hb, hk⟩; refine ⟨_, rfl, ?_⟩; replace BK650 := kK BK650 hk NB650_0; replace HK := Kk HK hk; replace HB := am (hb); replace HI0 := am (hi); clear hb hk hi) | (refine cl 99 (some 14) Try.func99 #[.pointer (some ⟨g, 0, none⟩), .int .i64 4] ?_; (with_reducible refine (spec_l02Big.calls k g s0_0 t652 t653 4 t668 t669 t672 t673 w0 _ ?side1 ?side2 A18.out).mono ?_); (case side1 => exact fI HI0); (case side2 => exact fB HB); rintro e w26 ⟨v670, rfl, ho0, hi, hb, hk⟩; refine ⟨_, rfl, ?_⟩; replace BK650 := kK BK650 hk NB650_0; have HO671 := loK ho0 HK; replace HK := Kk HK hk; replace HB := am (hb); replace HI0 := am (hi); clear hb hk hi ho0) | (refine cl 99 (some 16) Try.func99 #[.pointer (some ⟨g, 0, none⟩), .int .i64 4] ?_; (with_reducible refine (spec_l02Big.calls k g s0_0 t672 t673 4 t674 t675 t678 t679 w0 _ ?side1 ?side2 A19.out).mono ?_); (case side1 => exact fI HI0); (case side2 => exact fB HB); rintro e w27 ⟨v676, rfl, ho0, hi, hb, hk⟩; refine ⟨_, rfl, ?_⟩; replace BK650 := kK BK650 hk NB650_0; have HO677 := am (Kd.R_lower (Kd.R_new' ho0 (Kd.R_lt (fR HO671))) (keep_size (w := w) (g := g) (row := none) (fK HK))); replace HO671 := am (Kd.R_mono (Kd.R_told (Kd.R_oldK (IsS90.apart (show IsS90 w0 _ g s0_0 t672 t673 from fI HI0) (fR HO671) (by decide)) hk) (Kd.R_base ho0)) (fun _ h_ => h_.1)); replace HK := Kk HK hk; replace HB := am (hb); replace HI0 := am (hi); clear hb hk hi ho0; obtain ⟨Ao28, co28, eo28⟩ := Kd.R_slice HO677.out; subst eo28) | (refine cl 101 (some 18) Try.func101 #[.bool false, .slice Ao28 t675.length co28] ?_; (with_reducible refine (spec_l02Make.calls k false _ _ t675 t680 t681 _ ?side1 ?side2 A20.out).mono ?_); (case side1 => repeat (first | exact (Kd.R_reads' HO677.out).2.2 | (with_reducible refine Kd.C_alloc ?_ _) | (with_reducible refine Kd.C_drewN ?_ _) | (with_reducible refine Kd.C_drew ?_))); (case side2 => exact (Kd.R_reads' HO677.out).2.1); rintro e w29 ⟨v682, rfl, ho0, hb⟩; refine ⟨_, rfl, ?_⟩; have HO683 := am (Kd.R_lower (Kd.R_new' (Kd.R_new' ho0 (Kd.R_lt (fR HO671))) (Kd.R_lt (fR HO677))) (keep_size (w := w) (g := g) (row := none) (fK HK))); replace HO671 := eR HO671 ho0 hb; replace HO677 := eR HO677 ho0 hb; replace HI0 := IB HI0 hb; replace BK650 := kB BK650 hb; replace HK := KB HK hb; replace HB := sB HB hb; clear hb ho0) | (refine cl 92 (some 19) Try.func92 #[.int .i64 1] ?_; (with_reducible refine (spec_FromInt.calls k 1 t684 t685 _ A21.out).mono ?_); rintro e w30 ⟨v686, rfl, ho0, hb⟩; refine ⟨_, rfl, ?_⟩; have HO687 := am (Kd.R_lower (Kd.R_new' (Kd.R_new' (Kd.R_new' ho0 (Kd.R_lt (fR HO671))) (Kd.R_lt (fR HO677))) (Kd.R_lt (fR HO683))) (keep_size (w := w) (g := g) (row := none) (fK HK))); replace HO671 := eR HO671 ho0 hb; replace HO677 := eR HO677 ho0 hb; replace HO683 := eR HO683 ho0 hb; replace HI0 := IB HI0 hb; replace BK650 := kB BK650 hb; replace HK := KB HK hb; replace HB := sB HB hb; clear hb ho0; obtain ⟨Ao31, co31, eo31⟩ := Kd.R_slice HO683.out; subst eo31; obtain ⟨Ao32, co32, eo32⟩ := Kd.R_slice HO687.out; subst eo32) | (refine cl 100 (some 20) Try.func100 #[.agg #[.bool t680, .slice Ao31 t681.length co31], .agg #[.bool t684, .slice Ao32 t685.length co32]] ?_; (with_reducible refine (spec_l02Add.calls k t680 _ _ t681 t684 _ _ t685 t688 t689 _ ?side1 ?side2 ?side3 ?side4 A22.out).mono ?_); (case side1 => repeat (first | exact (Kd.R_reads' HO683.out).2.2 | (with_reducible refine Kd.C_alloc ?_ _) | (with_reducible refine Kd.C_drewN ?_ _) | (with_reducible refine Kd.C_drew ?_))); (case side2 => exact (Kd.R_reads' HO683.out).2.1); (case side3 => repeat (first | exact (Kd.R_reads' HO687.out).2.2 | (with_reducible refine Kd.C_alloc ?_ _) | (with_reducible refine Kd.C_drewN ?_ _) | (with_reducible refine Kd.C_drew ?_))); (case side4 => exact (Kd.R_reads' HO687.out).2.1); rintro e w33 ⟨v690, rfl, ho0, hb⟩; refine ⟨_, rfl, ?_⟩; have HO691 := am (Kd.R_lower (Kd.R_new' (Kd.R_new' (Kd.R_new' (Kd.R_new' ho0 (Kd.R_lt (fR HO671))) (Kd.R_lt (fR HO677))) (Kd.R_lt (fR HO683))) (Kd.R_lt (fR HO687))) (keep_size (w := w) (g := g) (row := none) (fK HK))); replace HO671 := eR HO671 ho0 hb; replace HO677 := eR HO677 ho0 hb; replace HO683 := eR HO683 ho0 hb; replace HO687 := eR HO687 ho0 hb; replace HI0 := IB HI0 hb; replace BK650 := kB BK650 hb; replace HK := KB HK hb; replace HB := sB HB hb; clear hb ho0; obtain ⟨Ao34, co34, eo34⟩ := Kd.R_slice HO671.out; subst eo34; obtain ⟨Ao35, co35, eo35⟩ := Kd.R_slice HO691.out; subst eo35) | (refine cl 98 (some 21) Try.func98 #[.agg #[.bool t668, .slice Ao34 t669.length co34], .agg #[.bool t688, .slice Ao35 t689.length co35]] ?_; (with_reducible refine (spec_l03Make.calls k t668 _ _ t669 t688 _ _ t689 t692 t693 t696 t697 _ ?side1 ?side2 ?side3 ?side4 A23.out).mono ?_); (case side1 => repeat (first | exact (Kd.R_reads' HO671.out).2.2 | (with_reducible refine Kd.C_alloc ?_ _) | (with_reducible refine Kd.C_drewN ?_ _) | (with_reducible refine Kd.C_drew ?_))); (case side2 => exact (Kd.R_reads' HO671.out).2.1); (case side3 => repeat (first | exact (Kd.R_reads' HO691.out).2.2 | (with_reducible refine Kd.C_alloc ?_ _) | (with_reducible refine Kd.C_drewN ?_ _) | (with_reducible refine Kd.C_drew ?_))); (case side4 => exact (Kd.R_reads' HO691.out).2.1); rintro e w36 ⟨v694, v698, rfl, ho0, ho1, hb⟩; refine ⟨_, rfl, ?_⟩; have HO695 := am (Kd.R_lower (Kd.R_new' (Kd.R_new' (Kd.R_new' (Kd.R_new' (Kd.R_new' ho0 (Kd.R_lt (fR HO671))) (Kd.R_lt (fR HO677))) (Kd.R_lt (fR HO683))) (Kd.R_lt (fR HO687))) (Kd.R_lt (fR HO691))) (keep_size (w := w) (g := g) (row := none) (fK HK))); have HO699 := am (Kd.R_lower (Kd.R_new' (Kd.R_new' (Kd.R_new' (Kd.R_new' (Kd.R_new' ho1 (Kd.R_lt (fR HO671))) (Kd.R_lt (fR HO677))) (Kd.R_lt (fR HO683))) (Kd.R_lt (fR HO687))) (Kd.R_lt (fR HO691))) (keep_size (w := w) (g := g) (row := none) (fK HK))); replace HO671 := am (Kd.R_mono (Kd.R_told (Kd.R_told (Kd.R_old (fR HO671) hb) (Kd.R_base ho0)) (Kd.R_base ho1)) (fun _ h_ => h_.1)); replace HO677 := am (Kd.R_mono (Kd.R_told (Kd.R_told (Kd.R_old (fR HO677) hb) (Kd.R_base ho0)) (Kd.R_base ho1)) (fun _ h_ => h_.1)); replace HO683 := am (Kd.R_mono (Kd.R_told (Kd.R_told (Kd.R_old (fR HO683) hb) (Kd.R_base ho0)) (Kd.R_base ho1)) (fun _ h_ => h_.1)); replace HO687 := am (Kd.R_mono (Kd.R_told (Kd.R_told (Kd.R_old (fR HO687) hb) (Kd.R_base ho0)) (Kd.R_base ho1)) (fun _ h_ => h_.1)); replace HO691 := am (Kd.R_mono (Kd.R_told (Kd.R_told (Kd.R_old (fR HO691) hb) (Kd.R_base ho0)) (Kd.R_base ho1)) (fun _ h_ => h_.1)); replace HI0 := IB HI0 hb; replace BK650 := kB BK650 hb; replace HK := KB HK hb; replace HB := sB HB hb; clear hb ho0 ho1; have hnb37 := NB650_0.out; have hnc37 := NB0_650.out; obtain ⟨hcz38_0, hcz38_1, hcz38_2, hcz38_3, hfz38_0, hfz38_1, hfz38_2, hfz38_3⟩ := cz4 BK650; obtain ⟨Ao39, co39, eo39⟩ := Kd.R_slice HO695.out; subst eo39; obtain ⟨Ao40, co40, eo40⟩ := Kd.R_slice HO699.out; subst eo40))
   refine bodyPost_ret (results_cell_row rfl _ _ gb650 62 #[.bool t692, .slice Ao39 t693.length co39, .bool t696, .slice Ao40 t697.length co40] (0, 0) _ rfl (fP BK650) Try.underlying62 rfl (by kernel_rfl)) rfl ?_
   exact ⟨_, _, rz, tR1 HO695 BK650 (fun _ h => h.1.1.1.1.1.1), tR1 HO699 BK650 (fun _ h => h.1.1.1.1.1.1), fI HI0, fB HB, fK HK⟩
  ·
   rw [if_neg c17] at H
   obtain ⟨c17b0, c17b1⟩ := bqf c17
   by_cases c41 : t651 = 2
   ·
    rw [if_pos c41] at H
    obtain ⟨c41b0, c41b1⟩ := bqt c41
    clear c41
    obtain ⟨⟨t700, t701, t704, t705⟩, A42, H⟩ := ub H; dsimp only at H
    obtain ⟨⟨t706, t707, t708⟩, A43, H⟩ := ub H; dsimp only at H
    obtain ⟨⟨t709, t710⟩, A44, H⟩ := ub H; dsimp only at H
    obtain ⟨⟨t713, t714, t717, t718⟩, A45, H⟩ := ub H; dsimp only at H
    simp only [Option.some.injEq, Prod.mk.injEq] at H
    obtain ⟨rfl, rfl, rfl, rfl, rfl, rfl⟩ := H
    go_enter Try.func90, Try.ntmps90
    go_wp2_with (first | (refine bx 2 #[.bool false, .slice none 0 0, .bool false, .slice none 0 0] 62 ?_; intro gb650 hg w46 hbox hb; replace HB := sB HB hb; have BK650 := am (hbox); have GW650 := zK HK hg; have GE650 := zW HW0 (zK HK hg); replace HK := KB HK hb; obtain ⟨NB0_650, NB650_0⟩ := nI HI0 hg; replace HI0 := IB HI0 hb; clear hb hbox hg) | (refine cl 56 (some 4) Try.func56 #[.pointer (some ⟨g, 0, none⟩), .int .i64 8] ?_; (with_reducible refine (spec_l01Below.calls g s0_0 s0_1 s0_2 8 t651 t652 t653 w0 _ ?side1 ?side2 A2.out).mono ?_); (case side1 => exact fI HI0); (case side2 => exact fB HB); rintro e w47 ⟨rfl, hi, hb, hk⟩; refine ⟨_, rfl, ?_⟩; replace BK650 := kK BK650 hk NB650_0; replace HK := Kk HK hk; replace HB := am (hb); replace HI0 := am (hi); clear hb hk hi) | (refine cl 99 (some 25) Try.func99 #[.pointer (some ⟨g, 0, none⟩), .int .i64 40] ?_; (with_reducible refine (spec_l02Big.calls k g s0_0 t652 t653 40 t700 t701 t704 t705 w0 _ ?side1 ?side2 A42.out).mono ?_); (case side1 => exact fI HI0); (case side2 => exact fB HB); rintro e w48 ⟨v702, rfl, ho0, hi, hb, hk⟩; refine ⟨_, rfl, ?_⟩; replace BK650 := kK BK650 hk NB650_0; have HO703 := loK ho0 HK; replace HK := Kk HK hk; replace HB := am (hb); replace HI0 := am (hi); clear hb hk hi ho0) | (refine cl 56 (some 27) Try.func56 #[.pointer (some ⟨g, 0, none⟩), .int .i64 1279] ?_; (with_reducible refine (spec_l01Below.calls g s0_0 t704 t705 1279 t706 t707 t708 w0 _ ?side1 ?side2 A43.out).mono ?_); (case side1 => exact fI HI0); (case side2 => exact fB HB); rintro e w49 ⟨rfl, hi, hb, hk⟩; refine ⟨_, rfl, ?_⟩; replace BK650 := kK BK650 hk NB650_0; replace HO703 := kR HI0 HO703 hk; replace HK := Kk HK hk; replace HB := am (hb); replace HI0 := am (hi); clear hb hk hi) | (refine cl 102 (some 28) Try.func102 #[.int .i64 t706] ?_; (with_reducible refine (spec_l02Bit.calls k t706 t709 t710 _ A44.out).mono ?_); rintro e w50 ⟨v711, rfl, ho0, hb⟩; refine ⟨_, rfl, ?_⟩; have HO712 := am (Kd.R_lower (Kd.R_new' ho0 (Kd.R_lt (fR HO703))) (keep_size (w := w) (g := g) (row := none) (fK HK))); replace HO703 := eR HO703 ho0 hb; replace HI0 := IB HI0 hb; replace BK650 := kB BK650 hb; replace HK := KB HK hb; replace HB := sB HB hb; clear hb ho0; obtain ⟨Ao51, co51, eo51⟩ := Kd.R_slice HO703.out; subst eo51; obtain ⟨Ao52, co52, eo52⟩ := Kd.R_slice HO712.out; subst eo52) | (refine cl 98 (some 29) Try.func98 #[.agg #[.bool t700, .slice Ao51 t701.length co51], .agg #[.bool t709, .slice Ao52 t710.length co52]] ?_; (with_reducible refine (spec_l03Make.calls k t700 _ _ t701 t709 _ _ t710 t713 t714 t717 t718 _ ?side1 ?side2 ?side3 ?side4 A45.out).mono ?_); (case side1 => repeat (first | exact (Kd.R_reads' HO703.out).2.2 | (with_reducible refine Kd.C_alloc ?_ _) | (with_reducible refine Kd.C_drewN ?_ _) | (with_reducible refine Kd.C_drew ?_))); (case side2 => exact (Kd.R_reads' HO703.out).2.1); (case side3 => repeat (first | exact (Kd.R_reads' HO712.out).2.2 | (with_reducible refine Kd.C_alloc ?_ _) | (with_reducible refine Kd.C_drewN ?_ _) | (with_reducible refine Kd.C_drew ?_))); (case side4 => exact (Kd.R_reads' HO712.out).2.1); rintro e w53 ⟨v715, v719, rfl, ho0, ho1, hb⟩; refine ⟨_, rfl, ?_⟩; have HO716 := am (Kd.R_lower (Kd.R_new' (Kd.R_new' ho0 (Kd.R_lt (fR HO703))) (Kd.R_lt (fR HO712))) (keep_size (w := w) (g := g) (row := none) (fK HK))); have HO720 := am (Kd.R_lower (Kd.R_new' (Kd.R_new' ho1 (Kd.R_lt (fR HO703))) (Kd.R_lt (fR HO712))) (keep_size (w := w) (g := g) (row := none) (fK HK))); replace HO703 := am (Kd.R_mono (Kd.R_told (Kd.R_told (Kd.R_old (fR HO703) hb) (Kd.R_base ho0)) (Kd.R_base ho1)) (fun _ h_ => h_.1)); replace HO712 := am (Kd.R_mono (Kd.R_told (Kd.R_told (Kd.R_old (fR HO712) hb) (Kd.R_base ho0)) (Kd.R_base ho1)) (fun _ h_ => h_.1)); replace HI0 := IB HI0 hb; replace BK650 := kB BK650 hb; replace HK := KB HK hb; replace HB := sB HB hb; clear hb ho0 ho1; have hnb54 := NB650_0.out; have hnc54 := NB0_650.out; obtain ⟨hcz55_0, hcz55_1, hcz55_2, hcz55_3, hfz55_0, hfz55_1, hfz55_2, hfz55_3⟩ := cz4 BK650; obtain ⟨Ao56, co56, eo56⟩ := Kd.R_slice HO716.out; subst eo56; obtain ⟨Ao57, co57, eo57⟩ := Kd.R_slice HO720.out; subst eo57))
    refine bodyPost_ret (results_cell_row rfl _ _ gb650 62 #[.bool t713, .slice Ao56 t714.length co56, .bool t717, .slice Ao57 t718.length co57] (0, 0) _ rfl (fP BK650) Try.underlying62 rfl (by kernel_rfl)) rfl ?_
    exact ⟨_, _, rz, tR1 HO716 BK650 (fun _ h => h.1.1.1), tR1 HO720 BK650 (fun _ h => h.1.1.1), fI HI0, fB HB, fK HK⟩
   ·
    rw [if_neg c41] at H
    obtain ⟨c41b0, c41b1⟩ := bqf c41
    obtain ⟨⟨t721, t722, t723⟩, A58, H⟩ := ub H; dsimp only at H
    obtain ⟨⟨t724, t725⟩, A59, H⟩ := ub H; dsimp only at H
    obtain ⟨⟨t728, t729, t730⟩, A60, H⟩ := ub H; dsimp only at H
    obtain ⟨⟨t731, t732⟩, A61, H⟩ := ub H; dsimp only at H
    obtain ⟨⟨t735, t736, t739, t740⟩, A62, H⟩ := ub H; dsimp only at H
    simp only [Option.some.injEq, Prod.mk.injEq] at H
    obtain ⟨rfl, rfl, rfl, rfl, rfl, rfl⟩ := H
    go_enter Try.func90, Try.ntmps90
    go_wp2_with (first | (refine bx 2 #[.bool false, .slice none 0 0, .bool false, .slice none 0 0] 62 ?_; intro gb650 hg w63 hbox hb; replace HB := sB HB hb; have BK650 := am (hbox); have GW650 := zK HK hg; have GE650 := zW HW0 (zK HK hg); replace HK := KB HK hb; obtain ⟨NB0_650, NB650_0⟩ := nI HI0 hg; replace HI0 := IB HI0 hb; clear hb hbox hg) | (refine cl 56 (some 4) Try.func56 #[.pointer (some ⟨g, 0, none⟩), .int .i64 8] ?_; (with_reducible refine (spec_l01Below.calls g s0_0 s0_1 s0_2 8 t651 t652 t653 w0 _ ?side1 ?side2 A2.out).mono ?_); (case side1 => exact fI HI0); (case side2 => exact fB HB); rintro e w64 ⟨rfl, hi, hb, hk⟩; refine ⟨_, rfl, ?_⟩; replace BK650 := kK BK650 hk NB650_0; replace HK := Kk HK hk; replace HB := am (hb); replace HI0 := am (hi); clear hb hk hi) | (refine cl 56 (some 31) Try.func56 #[.pointer (some ⟨g, 0, none⟩), .int .i64 400] ?_; (with_reducible refine (spec_l01Below.calls g s0_0 t652 t653 400 t721 t722 t723 w0 _ ?side1 ?side2 A58.out).mono ?_); (case side1 => exact fI HI0); (case side2 => exact fB HB); rintro e w65 ⟨rfl, hi, hb, hk⟩; refine ⟨_, rfl, ?_⟩; replace BK650 := kK BK650 hk NB650_0; replace HK := Kk HK hk; replace HB := am (hb); replace HI0 := am (hi); clear hb hk hi) | (refine cl 92 (some 33) Try.func92 #[.int .i64 (wrap64 (t721 - 150))] ?_; (with_reducible refine (spec_FromInt.calls k (wrap64 (t721 - 150)) t724 t725 _ A59.out).mono ?_); rintro e w66 ⟨v726, rfl, ho0, hb⟩; refine ⟨_, rfl, ?_⟩; have HO727 := loK ho0 HK; replace HI0 := IB HI0 hb; replace BK650 := kB BK650 hb; replace HK := KB HK hb; replace HB := sB HB hb; clear hb ho0) | (refine cl 56 (some 35) Try.func56 #[.pointer (some ⟨g, 0, none⟩), .int .i64 24] ?_; (with_reducible refine (spec_l01Below.calls g s0_0 t722 t723 24 t728 t729 t730 w0 _ ?side1 ?side2 A60.out).mono ?_); (case side1 => exact fI HI0); (case side2 => exact fB HB); rintro e w67 ⟨rfl, hi, hb, hk⟩; refine ⟨_, rfl, ?_⟩; replace BK650 := kK BK650 hk NB650_0; replace HO727 := kR HI0 HO727 hk; replace HK := Kk HK hk; replace HB := am (hb); replace HI0 := am (hi); clear hb hk hi) | (refine cl 92 (some 37) Try.func92 #[.int .i64 (wrap64 (1 + t728))] ?_; (with_reducible refine (spec_FromInt.calls k (wrap64 (1 + t728)) t731 t732 _ A61.out).mono ?_); rintro e w68 ⟨v733, rfl, ho0, hb⟩; refine ⟨_, rfl, ?_⟩; have HO734 := am (Kd.R_lower (Kd.R_new' ho0 (Kd.R_lt (fR HO727))) (keep_size (w := w) (g := g) (row := none) (fK HK))); replace HO727 := eR HO727 ho0 hb; replace HI0 := IB HI0 hb; replace BK650 := kB BK650 hb; replace HK := KB HK hb; replace HB := sB HB hb; clear hb ho0; obtain ⟨Ao69, co69, eo69⟩ := Kd.R_slice HO727.out; subst eo69; obtain ⟨Ao70, co70, eo70⟩ := Kd.R_slice HO734.out; subst eo70) | (refine cl 98 (some 38) Try.func98 #[.agg #[.bool t724, .slice Ao69 t725.length co69], .agg #[.bool t731, .slice Ao70 t732.length co70]] ?_; (with_reducible refine (spec_l03Make.calls k t724 _ _ t725 t731 _ _ t732 t735 t736 t739 t740 _ ?side1 ?side2 ?side3 ?side4 A62.out).mono ?_); (case side1 => repeat (first | exact (Kd.R_reads' HO727.out).2.2 | (with_reducible refine Kd.C_alloc ?_ _) | (with_reducible refine Kd.C_drewN ?_ _) | (with_reducible refine Kd.C_drew ?_))); (case side2 => exact (Kd.R_reads' HO727.out).2.1); (case side3 => repeat (first | exact (Kd.R_reads' HO734.out).2.2 | (with_reducible refine Kd.C_alloc ?_ _) | (with_reducible refine Kd.C_drewN ?_ _) | (with_reducible refine Kd.C_drew ?_))); (case side4 => exact (Kd.R_reads' HO734.out).2.1); rintro e w71 ⟨v737, v741, rfl, ho0, ho1, hb⟩; refine ⟨_, rfl, ?_⟩; have HO738 := am (Kd.R_lower (Kd.R_new' (Kd.R_new' ho0 (Kd.R_lt (fR HO727))) (Kd.R_lt (fR HO734))) (keep_size (w := w) (g := g) (row := none) (fK HK))); have HO742 := am (Kd.R_lower (Kd.R_new' (Kd.R_new' ho1 (Kd.R_lt (fR HO727))) (Kd.R_lt (fR HO734))) (keep_size (w := w) (g := g) (row := none) (fK HK))); replace HO727 := am (Kd.R_mono (Kd.R_told (Kd.R_told (Kd.R_old (fR HO727) hb) (Kd.R_base ho0)) (Kd.R_base ho1)) (fun _ h_ => h_.1)); replace HO734 := am (Kd.R_mono (Kd.R_told (Kd.R_told (Kd.R_old (fR HO734) hb) (Kd.R_base ho0)) (Kd.R_base ho1)) (fun _ h_ => h_.1)); replace HI0 := IB HI0 hb; replace BK650 := kB BK650 hb; replace HK := KB HK hb; replace HB := sB HB hb; clear hb ho0 ho1; have hnb72 := NB650_0.out; have hnc72 := NB0_650.out; obtain ⟨hcz73_0, hcz73_1, hcz73_2, hcz73_3, hfz73_0, hfz73_1, hfz73_2, hfz73_3⟩ := cz4 BK650; obtain ⟨Ao74, co74, eo74⟩ := Kd.R_slice HO738.out; subst eo74; obtain ⟨Ao75, co75, eo75⟩ := Kd.R_slice HO742.out; subst eo75))
    refine bodyPost_ret (results_cell_row rfl _ _ gb650 62 #[.bool t735, .slice Ao74 t736.length co74, .bool t739, .slice Ao75 t740.length co75] (0, 0) _ rfl (fP BK650) Try.underlying62 rfl (by kernel_rfl)) rfl ?_
    exact ⟨_, _, rz, tR1 HO738 BK650 (fun _ h => h.1.1.1), tR1 HO742 BK650 (fun _ h => h.1.1.1), fI HI0, fB HB, fK HK⟩
end Go.Proofs.Ytjdndacollpjkaa.MFnVars
