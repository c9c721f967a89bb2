/- Contracts of the functions that the law FnVars reaches (walks in the form of the kit's print; what it does not take by hand). -/
import Derived.Test.YtjdndacollpjkaaFvL
import Derived.Test.YtjdndacollpjkaaMFnVarsx4
import Derived.Test.YtjdndacollpjkaaMFnVarsx6
import Derived.Test.YtjdndacollpjkaaMFnVarsx7
namespace Go.Proofs.Ytjdndacollpjkaa.MFnVars
open Go.RowKit Go.Proofs.YtjdndacollpjkaaW.PrintWords Go.Proofs.YtjdndacollpjkaaW.PrintLast Go.Proofs.YtjdndacollpjkaaW.PrintMore
attribute [local go_sem] fld60_0 fld60_1 max2_int min2_int max_two min_two max_three min_three max_four min_four   -- for this text's walks alone
set_option linter.unusedVariables false
set_option linter.unusedSimpArgs false

/-! ### spec_l02DivMod: function 106 -/
def spec_l02DivMod.T4 : Bool × List (List Nat × List Nat) := (true, [([], []), ([0], [0]), ([], []), ([2], [2]), ([1, 3], [1, 3]), ([], []), ([], []), ([5, 6], [5, 6]), ([4, 7, 7], [4, 7]), ([8, 8, 0, 1, 2, 3, 4, 5, 6, 7, 8], [8])])
def spec_l02DivMod.B4 : List Nat := [0, 1, 0, 4, 15, 0, 0, 96, 255, 511]
theorem spec_l02DivMod.tab4 : rtab .any (opsOf Try.f106 4) = spec_l02DivMod.T4 := by kernel_rfl
theorem spec_l02DivMod.bits4 : waitsOk spec_l02DivMod.T4.2 spec_l02DivMod.B4 = true := by kernel_rfl
set_option maxHeartbeats 8000000 in
set_option maxRecDepth 100000 in
theorem spec_l02DivMod.calls (k : Nat) (a0_0 : Bool) (A0_1 : Option Addr) (c0_1 : Nat) (l0_1 : List Int) (a1_0 : Bool) (A1_1 : Option Addr) (c1_1 : Nat) (l1_1 : List Int) (r1 : Bool) (r2 : List Int) (r3 : Bool) (r4 : List Int) (w : World) (hr0_1 : Kd.C (Kd.int .u32) w A0_1 l0_1.length l0_1) (hc0_1 : l0_1.length ≤ c0_1) (hr1_1 : Kd.C (Kd.int .u32) w A1_1 l1_1.length l1_1) (hc1_1 : l1_1.length ≤ c1_1) (h : spec_l02DivMod.f k a0_0 l0_1 a1_0 l1_1 = some (r1, r2, r3, r4)) :
  Calls Try.prog 106 #[.agg #[.bool a0_0, .slice A0_1 l0_1.length c0_1], .agg #[.bool a1_0, .slice A1_1 l1_1.length c1_1]] w fun e w' => ∃ v1_ v3_ : Value, e = .returned (.tuple #[.agg #[.bool r1, v1_], .agg #[.bool r3, v3_]]) ∧ Kd.R (Kd.int .u32) 119 w' w.heap.size (fun k_ => some k_ ≠ (v3_ : Value).ownBlock) v1_ r2 ∧ Kd.R (Kd.int .u32) 119 w' w.heap.size (fun k_ => some k_ ≠ (v1_ : Value).ownBlock) v3_ r4 ∧ Below w.heap.size w w' := by
 have hu60 := Try.underlying60
 have HR0_1 := am hr0_1
 have HC0_1 := am hc0_1
 clear hr0_1 hc0_1
 have HR1_1 := am hr1_1
 have HC1_1 := am hc1_1
 clear hr1_1 hc1_1
 have HB := am (Below.refl w.heap.size w)
 have H : ((spec_l02Long.f k l0_1 l1_1).bind fun bt461 => ((spec_l02Make.f k (a0_0 != a1_0) bt461.1).bind fun bt467 => ((spec_l02Make.f k false bt461.2).bind fun bt471 => (if a0_0 = true then (spec_l02DivMod.j0 k bt461.1 (decide ((bt471.2.length : Int) > 0)) a0_0 l0_1 a1_0 l1_1 bt467.1 bt467.2 bt471.1 bt471.2) else (spec_l02DivMod.j0 k bt461.1 false a0_0 l0_1 a1_0 l1_1 bt467.1 bt467.2 bt471.1 bt471.2))))) = some (r1, r2, r3, r4) := h
 clear h
 obtain ⟨⟨t461, t462⟩, A3, H⟩ := ub H; dsimp only at H
 obtain ⟨⟨t467, t468⟩, A4, H⟩ := ub H; dsimp only at H
 obtain ⟨⟨t471, t472⟩, A5, H⟩ := ub H; dsimp only at H
 have HC6 := am H
 clear H
 go_enter Try.func106, Try.ntmps106
 go_upto_region 3 with (first | ((with_reducible refine gate_dst (N := 2) rfl ?_); (try (refine gate_guard (by rfl) ?_; dsimp only)); refine box_event ?hg (N := 2) ?hd (cs := #[.bool a0_0, .slice A0_1 l0_1.length c0_1]) (t := 60) ?hr ?_; (case hd => rfl); (case hg => rfl); (case hr => first | (go_simp; done) | (go_simp; rfl)); intro gb457 hg w7 hbox hb; have BK457 := am (hbox); have GW457 := zB HB hg; have GE457 := zB HB hg; replace HB := sB HB hb; clear hb hbox hg) | ((with_reducible refine gate_dst (N := 3) rfl ?_); (try (refine gate_guard (by rfl) ?_; dsimp only)); refine box_event ?hg (N := 3) ?hd (cs := #[.bool a1_0, .slice A1_1 l1_1.length c1_1]) (t := 60) ?hr ?_; (case hd => rfl); (case hg => rfl); (case hr => first | (go_simp; done) | (go_simp; rfl)); intro gb458 hg w8 hbox hb; have BK458 := am (hbox); have GW458 := zB HB hg; have GE458 := zB HB hg; replace HB := sB HB hb; obtain ⟨NB457_458, NB458_457⟩ := nB BK457 hg; replace BK457 := kB BK457 hb; clear hb hbox hg) | ((with_reducible refine gate_dst (N := 4) rfl ?_); (try (refine gate_guard (by rfl) ?_; dsimp only)); refine box_event ?hg (N := 4) ?hd (cs := #[.bool false, .slice none 0 0]) (t := 60) ?hr ?_; (case hd => rfl); (case hg => rfl); (case hr => first | (go_simp; done) | (go_simp; rfl)); intro gb459 hg w9 hbox hb; have BK459 := am (hbox); have GW459 := zB HB hg; have GE459 := zB HB hg; replace HB := sB HB hb; obtain ⟨NB457_459, NB459_457⟩ := nB BK457 hg; replace BK457 := kB BK457 hb; obtain ⟨NB458_459, NB459_458⟩ := nB BK458 hg; replace BK458 := kB BK458 hb; clear hb hbox hg) | ((with_reducible refine gate_dst (N := 5) rfl ?_); (try (refine gate_guard (by rfl) ?_; dsimp only)); refine box_event ?hg (N := 5) ?hd (cs := #[.bool false, .slice none 0 0]) (t := 60) ?hr ?_; (case hd => rfl); (case hg => rfl); (case hr => first | (go_simp; done) | (go_simp; rfl)); intro gb460 hg w10 hbox hb; have BK460 := am (hbox); have GW460 := zB HB hg; have GE460 := zB HB hg; replace HB := sB HB hb; obtain ⟨NB457_460, NB460_457⟩ := nB BK457 hg; replace BK457 := kB BK457 hb; obtain ⟨NB458_460, NB460_458⟩ := nB BK458 hg; replace BK458 := kB BK458 hb; obtain ⟨NB459_460, NB460_459⟩ := nB BK459 hg; replace BK459 := kB BK459 hb; clear hb hbox hg; have hnb11 := NB457_458.out; have hnc11 := NB458_457.out; have hnb12 := NB457_459.out; have hnc12 := NB459_457.out; have hnb13 := NB457_460.out; have hnc13 := NB460_457.out; obtain ⟨hcz14_0, hcz14_1, hfz14_0, hfz14_1⟩ := cz2 BK457; have hnb15 := NB458_459.out; have hnc15 := NB459_458.out; have hnb16 := NB458_460.out; have hnc16 := NB460_458.out; obtain ⟨hcz17_0, hcz17_1, hfz17_0, hfz17_1⟩ := cz2 BK458) | (refine cl 111 (some 15) Try.func111 #[.slice A0_1 l0_1.length c0_1, .slice A1_1 l1_1.length c1_1] ?_; (with_reducible refine (spec_l02Long.calls k _ _ l0_1 _ _ l1_1 t461 t462 _ ?side1 ?side2 ?side3 ?side4 A3.out).mono ?_); (case side1 => repeat (first | exact (Kd.C_below HR0_1.out HB.out) | (with_reducible refine Kd.C_alloc ?_ _) | (with_reducible refine Kd.C_drewN ?_ _) | (with_reducible refine Kd.C_drew ?_))); (case side2 => exact HC0_1.out); (case side3 => repeat (first | exact (Kd.C_below HR1_1.out HB.out) | (with_reducible refine Kd.C_alloc ?_ _) | (with_reducible refine Kd.C_drewN ?_ _) | (with_reducible refine Kd.C_drew ?_))); (case side4 => exact HC1_1.out); rintro e w18 ⟨v463, v465, rfl, ho0, ho1, hb⟩; refine ⟨_, rfl, ?_⟩; have HO464 := loB ho0 HB; have HO466 := loB ho1 HB; replace BK457 := kB BK457 hb; replace BK458 := kB BK458 hb; replace BK459 := kB BK459 hb; replace BK460 := kB BK460 hb; replace HB := sB HB hb; clear hb ho0 ho1; obtain ⟨hcz19_0, hcz19_1, hfz19_0, hfz19_1⟩ := cz2 BK457; obtain ⟨hcz20_0, hcz20_1, hfz20_0, hfz20_1⟩ := cz2 BK458; obtain ⟨Ao21, co21, eo21⟩ := Kd.R_slice HO464.out; subst eo21) | (refine cl 101 (some 24) Try.func101 #[.bool (a0_0 != a1_0), .slice Ao21 t461.length co21] ?_; (with_reducible refine (spec_l02Make.calls k (a0_0 != a1_0) _ _ t461 t467 t468 _ ?side1 ?side2 A4.out).mono ?_); (case side1 => repeat (first | exact (Kd.R_reads' HO464.out).2.2 | (with_reducible refine Kd.C_alloc ?_ _) | (with_reducible refine Kd.C_drewN ?_ _) | (with_reducible refine Kd.C_drew ?_))); (case side2 => exact (Kd.R_reads' HO464.out).2.1); rintro e w22 ⟨v469, rfl, ho0, hb⟩; refine ⟨_, rfl, ?_⟩; have HO470 := am (Kd.R_lower (Kd.R_new' (Kd.R_new' ho0 (Kd.R_lt (fR HO464))) (Kd.R_lt (fR HO466))) (below_size (fB HB))); replace HO464 := eR HO464 ho0 hb; replace HO466 := eR HO466 ho0 hb; replace BK457 := kB BK457 hb; replace BK458 := kB BK458 hb; replace BK459 := kB BK459 hb; replace BK460 := kB BK460 hb; replace HB := sB HB hb; clear hb ho0; obtain ⟨Ao23, co23, eo23⟩ := Kd.R_slice HO466.out; subst eo23) | (refine cl 101 (some 26) Try.func101 #[.bool false, .slice Ao23 t462.length co23] ?_; (with_reducible refine (spec_l02Make.calls k false _ _ t462 t471 t472 _ ?side1 ?side2 A5.out).mono ?_); (case side1 => repeat (first | exact (Kd.R_reads' HO466.out).2.2 | (with_reducible refine Kd.C_alloc ?_ _) | (with_reducible refine Kd.C_drewN ?_ _) | (with_reducible refine Kd.C_drew ?_))); (case side2 => exact (Kd.R_reads' HO466.out).2.1); rintro e w24 ⟨v473, rfl, ho0, hb⟩; refine ⟨_, rfl, ?_⟩; have HO474 := am (Kd.R_lower (Kd.R_new' (Kd.R_new' (Kd.R_new' ho0 (Kd.R_lt (fR HO464))) (Kd.R_lt (fR HO466))) (Kd.R_lt (fR HO470))) (below_size (fB HB))); replace HO464 := eR HO464 ho0 hb; replace HO466 := eR HO466 ho0 hb; replace HO470 := eR HO470 ho0 hb; replace BK457 := kB BK457 hb; replace BK458 := kB BK458 hb; replace BK459 := kB BK459 hb; replace BK460 := kB BK460 hb; replace HB := sB HB hb; clear hb ho0) | ((with_reducible refine gate_dst (N := 8) rfl ?_); (try (refine gate_guard (by rfl) ?_; dsimp only)); refine box_event ?hg (N := 8) ?hd (cs := #[.bool false, .slice none 0 0]) (t := 60) ?hr ?_; (case hd => rfl); (case hg => rfl); (case hr => first | (go_simp; done) | (go_simp; rfl)); intro gb475 hg w25 hbox hb; replace HO464 := RB HO464 hb; replace HO466 := RB HO466 hb; replace HO470 := RB HO470 hb; replace HO474 := RB HO474 hb; have BK475 := am (hbox); have GW475 := zB HB hg; have GE475 := zB HB hg; replace HB := sB HB hb; obtain ⟨NB457_475, NB475_457⟩ := nB BK457 hg; replace BK457 := kB BK457 hb; obtain ⟨NB458_475, NB475_458⟩ := nB BK458 hg; replace BK458 := kB BK458 hb; obtain ⟨NB459_475, NB475_459⟩ := nB BK459 hg; replace BK459 := kB BK459 hb; obtain ⟨NB460_475, NB475_460⟩ := nB BK460 hg; replace BK460 := kB BK460 hb; clear hb hbox hg) | ((with_reducible refine gate_dst (N := 9) rfl ?_); (try (refine gate_guard (by rfl) ?_; dsimp only)); refine box_event ?hg (N := 9) ?hd (cs := #[.bool false, .slice none 0 0]) (t := 60) ?hr ?_; (case hd => rfl); (case hg => rfl); (case hr => first | (go_simp; done) | (go_simp; rfl)); intro gb476 hg w26 hbox hb; replace HO464 := RB HO464 hb; replace HO466 := RB HO466 hb; replace HO470 := RB HO470 hb; replace HO474 := RB HO474 hb; have BK476 := am (hbox); have GW476 := zB HB hg; have GE476 := zB HB hg; replace HB := sB HB hb; obtain ⟨NB457_476, NB476_457⟩ := nB BK457 hg; replace BK457 := kB BK457 hb; obtain ⟨NB458_476, NB476_458⟩ := nB BK458 hg; replace BK458 := kB BK458 hb; obtain ⟨NB459_476, NB476_459⟩ := nB BK459 hg; replace BK459 := kB BK459 hb; obtain ⟨NB460_476, NB476_460⟩ := nB BK460 hg; replace BK460 := kB BK460 hb; obtain ⟨NB475_476, NB476_475⟩ := nB BK475 hg; replace BK475 := kB BK475 hb; clear hb hbox hg; have hnb27 := NB475_457.out; have hnc27 := NB457_475.out; have hnb28 := NB475_458.out; have hnc28 := NB458_475.out; have hnb29 := NB475_459.out; have hnc29 := NB459_475.out; have hnb30 := NB475_460.out; have hnc30 := NB460_475.out; have hnb31 := NB475_476.out; have hnc31 := NB476_475.out; obtain ⟨hcz32_0, hcz32_1, hfz32_0, hfz32_1⟩ := cz2 BK475; obtain ⟨Ao33, co33, eo33⟩ := Kd.R_slice HO470.out; subst eo33; have hnb34 := NB476_457.out; have hnc34 := NB457_476.out; have hnb35 := NB476_458.out; have hnc35 := NB458_476.out; have hnb36 := NB476_459.out; have hnc36 := NB459_476.out; have hnb37 := NB476_460.out; have hnc37 := NB460_476.out; obtain ⟨hcz38_0, hcz38_1, hfz38_0, hfz38_1⟩ := cz2 BK476; obtain ⟨Ao39, co39, eo39⟩ := Kd.R_slice HO474.out; subst eo39))
 (try simp only [Act.put, List.setIfInBounds_toArray, List.set_cons_zero, List.set_cons_succ])
 go_cut [34] (fun v34 wc => ∃ (kq : Nat) (x34_5 : Bool), v34 = .bool x34_5 ∧ Aside0 (spec_l02DivMod.j0 kq t461 x34_5 a0_0 l0_1 a1_0 l1_1 t467 t468 t471 t472 = some (r1, r2, r3, r4)) ∧ Aside0 (kq ≤ k) ∧ Aside0 (Kd.R (Kd.int .u32) 119 wc w.heap.size (fun k_ => some k_ ≠ ((.slice Ao33 t468.length co33) : Value).ownBlock ∧ some k_ ≠ ((.slice Ao39 t472.length co39) : Value).ownBlock) (.slice Ao21 t461.length co21) t461) ∧ Aside0 (Kd.R (Kd.int .u32) 119 wc w.heap.size (fun k_ => some k_ ≠ ((.slice Ao21 t461.length co21) : Value).ownBlock ∧ some k_ ≠ ((.slice Ao39 t472.length co39) : Value).ownBlock) (.slice Ao33 t468.length co33) t468) ∧ Aside0 (Kd.R (Kd.int .u32) 119 wc w.heap.size (fun k_ => some k_ ≠ ((.slice Ao21 t461.length co21) : Value).ownBlock ∧ some k_ ≠ ((.slice Ao33 t468.length co33) : Value).ownBlock) (.slice Ao39 t472.length co39) t472) ∧ Aside0 (wc.heap[gb457]? = some (.cells #[.bool a0_0, (.slice A0_1 l0_1.length c0_1)] 60 (0, 0))) ∧ Aside0 (wc.heap[gb458]? = some (.cells #[.bool a1_0, (.slice A1_1 l1_1.length c1_1)] 60 (0, 0))) ∧ Aside0 (wc.heap[gb459]? = some (.cells #[.bool false, (.slice none 0 0)] 60 (0, 0))) ∧ Aside0 (wc.heap[gb460]? = some (.cells #[.bool false, (.slice none 0 0)] 60 (0, 0))) ∧ Aside0 (wc.heap[gb475]? = some (.cells #[.bool t467, (.slice Ao33 t468.length co33)] 60 (0, 0))) ∧ Aside0 (wc.heap[gb476]? = some (.cells #[.bool t471, (.slice Ao39 t472.length co39)] 60 (0, 0))) ∧ Aside0 (Below w.heap.size w wc))
 case first =>
  have H := HC6.out
  clear HC6
  by_cases c40 : a0_0 = true
  ·
   subst c40
   have H1 : (spec_l02DivMod.j0 k t461 (decide ((t472.length : Int) > 0)) true l0_1 a1_0 l1_1 t467 t468 t471 t472) = some (r1, r2, r3, r4) := by rw [if_pos rfl] at H; exact H
   clear H
   have H := H1
   clear H1
   have H' := am H
   clear H
   have hnb41 := NB457_458.out
   have hnc41 := NB458_457.out
   have hnb42 := NB457_459.out
   have hnc42 := NB459_457.out
   have hnb43 := NB457_460.out
   have hnc43 := NB460_457.out
   have hnb44 := NB457_475.out
   have hnc44 := NB475_457.out
   have hnb45 := NB457_476.out
   have hnc45 := NB476_457.out
   have hcz46_0 : w26.cell? ⟨gb457, 0, none⟩ = some (.bool true) := (blk_cell BK457.out 0).trans rfl
   have hcz46_1 : w26.cell? ⟨gb457, 1, none⟩ = some (.slice A0_1 l0_1.length c0_1) := (blk_cell BK457.out 1).trans rfl
   have hfz46_0 := blk_frozen BK457.out 0
   have hfz46_1 := blk_frozen BK457.out 1
   have hnb47 := NB476_458.out
   have hnc47 := NB458_476.out
   have hnb48 := NB476_459.out
   have hnc48 := NB459_476.out
   have hnb49 := NB476_460.out
   have hnc49 := NB460_476.out
   have hnb50 := NB476_475.out
   have hnc50 := NB475_476.out
   have hcz51_0 : w26.cell? ⟨gb476, 0, none⟩ = some (.bool false) := (blk_cell BK476.out 0).trans rfl
   have hcz51_1 : w26.cell? ⟨gb476, 1, none⟩ = some (.slice none 0 0) := (blk_cell BK476.out 1).trans rfl
   have hfz51_0 := blk_frozen BK476.out 0
   have hfz51_1 := blk_frozen BK476.out 1
   go_wp2
   go_meet
   case rel => exact ⟨_, (decide ((t472.length : Int) > 0)), (rs), H', ⟨by first | omega | exact Nat.le_refl _⟩, ⟨tR2 HO464 BK475 BK476 (fun _ h => ⟨h.1.1.1.2, h.1.1.2⟩)⟩, ⟨tR2 HO470 BK475 BK476 (fun _ h => ⟨h.1.1.1.1.2, h.1.1.2⟩)⟩, ⟨tR2 HO474 BK475 BK476 (fun _ h => ⟨h.1.1.1.1.2, h.1.1.2⟩)⟩, ⟨fb BK457⟩, ⟨fb BK458⟩, ⟨fb BK459⟩, ⟨fb BK460⟩, ⟨fP BK475⟩, ⟨fP BK476⟩, ⟨fB HB⟩⟩
  ·
   replace c40 := Bool.eq_false_iff.mpr c40
   subst c40
   have H1 : (spec_l02DivMod.j0 k t461 false false l0_1 a1_0 l1_1 t467 t468 t471 t472) = some (r1, r2, r3, r4) := by rw [if_neg (show ¬ (false = true) by decide)] at H; exact H
   clear H
   have H := H1
   clear H1
   have H' := am H
   clear H
   have hnb52 := NB457_458.out
   have hnc52 := NB458_457.out
   have hnb53 := NB457_459.out
   have hnc53 := NB459_457.out
   have hnb54 := NB457_460.out
   have hnc54 := NB460_457.out
   have hnb55 := NB457_475.out
   have hnc55 := NB475_457.out
   have hnb56 := NB457_476.out
   have hnc56 := NB476_457.out
   have hcz57_0 : w26.cell? ⟨gb457, 0, none⟩ = some (.bool false) := (blk_cell BK457.out 0).trans rfl
   have hcz57_1 : w26.cell? ⟨gb457, 1, none⟩ = some (.slice A0_1 l0_1.length c0_1) := (blk_cell BK457.out 1).trans rfl
   have hfz57_0 := blk_frozen BK457.out 0
   have hfz57_1 := blk_frozen BK457.out 1
   go_wp2
   go_meet
   case rel => exact ⟨_, (false), (rs), H', ⟨by first | omega | exact Nat.le_refl _⟩, ⟨tR2 HO464 BK475 BK476 (fun _ h => ⟨h.1.1.1.2, h.1.1.2⟩)⟩, ⟨tR2 HO470 BK475 BK476 (fun _ h => ⟨h.1.1.1.1.2, h.1.1.2⟩)⟩, ⟨tR2 HO474 BK475 BK476 (fun _ h => ⟨h.1.1.1.1.2, h.1.1.2⟩)⟩, ⟨fb BK457⟩, ⟨fb BK458⟩, ⟨fb BK459⟩, ⟨fb BK460⟩, ⟨fP BK475⟩, ⟨fP BK476⟩, ⟨fB HB⟩⟩
 case rest =>
  clear HC6
  try clear c1
  try clear c2
  try clear p2
  try clear c3
  try clear c4
  try clear c5
  try clear c10
  try clear c11
  try clear c12
  try clear c13
  try clear c15
  try clear c16
  try clear c27
  try clear c28
  try clear c29
  try clear c30
  try clear c31
  try clear c34
  try clear c35
  try clear c36
  try clear c37
  try clear c40
  try clear c41
  try clear c42
  try clear c43
  try clear c44
  try clear c45
  try clear c47
  try clear c48
  try clear c49
  try clear c50
  try clear c52
  try clear c53
  try clear c54
  try clear c55
  try clear c56
  try clear hcz14_0
  try clear hcz14_1
  try clear hcz17_0
  try clear hcz17_1
  try clear hcz19_0
  try clear hcz19_1
  try clear hcz20_0
  try clear hcz20_1
  try clear hcz32_0
  try clear hcz32_1
  try clear hcz38_0
  try clear hcz38_1
  try clear hcz46_0
  try clear hcz46_1
  try clear hcz51_0
  try clear hcz51_1
  try clear hcz57_0
  try clear hcz57_1
  try clear hfz14_0
  try clear hfz14_1
  try clear hfz17_0
  try clear hfz17_1
  try clear hfz19_0
  try clear hfz19_1
  try clear hfz20_0
  try clear hfz20_1
  try clear hfz32_0
  try clear hfz32_1
  try clear hfz38_0
  try clear hfz38_1
  try clear hfz46_0
  try clear hfz46_1
  try clear hfz51_0
  try clear hfz51_1
  try clear hfz57_0
  try clear hfz57_1
  obtain ⟨kq, x34_5, rfl, HA, HJ5, HO_6, HO_476001, HO_477001, BK457, BK458, BK459, BK460, BK475, BK476, HB⟩ := hcut
  cases kq with
  | zero => exact absurd HA.out (by simp [spec_l02DivMod.j0])
  | succ kj5 =>
   have H := HA.out
   clear HA
   simp only [spec_l02DivMod.j0] at H
   by_cases c58 : x34_5 = true
   ·
    subst c58
    have H1 : ((spec_l02Plus.f kj5 t461 (([1] : List Int))).bind fun t480 => ((spec_l02Make.f kj5 (a0_0 != a1_0) t480).bind fun bt483 => ((spec_l02Less.f kj5 l1_1 t472).bind fun t487 => ((spec_l02Make.f kj5 false t487).bind fun bt490 => (some (bt483.1, bt483.2, bt490.1, bt490.2)))))) = some (r1, r2, r3, r4) := by rw [if_pos rfl] at H; exact H
    clear H
    have H := H1
    clear H1
    obtain ⟨y477, Ny477⟩ : ∃ y_ : List Int, Aside0 (y_ = (([1] : List Int))) := ⟨_, ⟨rfl⟩⟩; rw [← Ny477.out] at H
    obtain ⟨t480, A59, H⟩ := ub H; try dsimp only at H
    obtain ⟨⟨t483, t484⟩, A60, H⟩ := ub H; dsimp only at H
    obtain ⟨t487, A61, H⟩ := ub H; try dsimp only at H
    obtain ⟨⟨t490, t491⟩, A62, H⟩ := ub H; dsimp only at H
    simp only [Option.some.injEq, Prod.mk.injEq] at H
    obtain ⟨rfl, rfl, rfl, rfl⟩ := H
    try go_wp2
    replace HO_6 := am (Kd.R_drew HO_6.out); replace HO_476001 := am (Kd.R_drew HO_476001.out); replace HO_477001 := am (Kd.R_drew HO_477001.out); replace BK457 := am (blk_drew BK457.out); replace BK458 := am (blk_drew BK458.out); replace BK459 := am (blk_drew BK459.out); replace BK460 := am (blk_drew BK460.out); replace BK475 := am (blk_drew BK475.out); replace BK476 := am (blk_drew BK476.out); replace HB := am (below_drew1 HB.out)
    refine start_ (n := 10) (S := fun w' => w'.cell? ⟨gb457, 0, none⟩ = some (.bool a0_0) ∧ w'.cell? ⟨gb457, 1, none⟩ = some (.slice A0_1 l0_1.length c0_1) ∧ w'.cell? ⟨gb458, 0, none⟩ = some (.bool a1_0) ∧ w'.cell? ⟨gb458, 1, none⟩ = some (.slice A1_1 l1_1.length c1_1)) (ds := []) #[false, false, false, false, false, false, false, false, false, false] (by kernel_rfl) rfl rfl (hh4 BK457 BK458) (fun hHeld => ?_); refine with_tabW spec_l02DivMod.tab4 spec_l02DivMod.bits4 (fun HT_ HW_ => ?_)
    generalize wc.drew = w63 at HO_6 HO_476001 HO_477001 BK457 BK458 BK459 BK460 BK475 BK476 HB hHeld ⊢
    refine pu 0 (some 35) #[true, false, false, false, false, false, false, false, false, false] HT_ ?_
    refine pu 2 (some 37) #[true, false, true, false, false, false, false, false, false, false] HT_ ?_
    refine pu 5 (some 40) #[true, false, true, false, false, true, false, false, false, false] HT_ ?_
    refine tk 1 (some 36) #[true, true, true, false, false, true, false, false, false, false] HT_ HW_ hHeld ?_
    refine tk 3 (some 38) #[true, true, true, true, false, true, false, false, false, false] HT_ HW_ hHeld ?_
    refine pu 4 (some 39) #[true, true, true, true, true, true, false, false, false, false] HT_ ?_
    refine on 6 (some 41) #[true, true, true, true, true, true, true, false, false, false] HT_ (fun K hK => ?_)
    refine Kd.R_lit_step (Kd.int .u32) _ 119 ?hg (N := 41) ?hd (xs := ([1] : List Int)) (inner := [.int .u32 1]) (ok := fun _ => True) (okp := fun _ => True) ?hr ?hp (fun _ hk => hk) trivial (Below.refl _ _) (Nat.le_refl _) (by simp) ?_; (case hd => rfl); (case hg => rfl); (case hr => first | (go_simp; done) | (go_simp; rfl)); (case hp => exact (Reps.one (show Kd.M (Kd.int .u32) _ _ _ 1 [.int .u32 1] from rfl) (Reps.none _ _)))
    intro v478 w64 ho65 hb hg_ hnew_
    clear hg_ hnew_
    (first | rw [← Ny477.out] at ho65 | (simp only [Int.reduceToNat] at ho65; rw [← Ny477.out] at ho65))
    have HO479 := am (Kd.R_lower (Kd.R_new' (Kd.R_new' (Kd.R_new' ho65 (Kd.R_lt (fR HO_6))) (Kd.R_lt (fR HO_476001))) (Kd.R_lt (fR HO_477001))) (below_size (fB HB))); replace HO_6 := eR HO_6 ho65 hb; replace HO_476001 := eR HO_476001 ho65 hb; replace HO_477001 := eR HO_477001 ho65 hb; replace BK457 := kB BK457 hb; replace BK458 := kB BK458 hb; replace BK459 := kB BK459 hb; replace BK460 := kB BK460 hb; replace BK475 := kB BK475 hb; replace BK476 := kB BK476 hb; replace HB := sB HB hb
    clear hb ho65
    obtain ⟨Ao66, co66, eo66⟩ := Kd.R_slice HO479.out
    (first | subst eo66 | (injection eo66 with f1_ f2_ f3_; have f4_ := f1_.symm; have f5_ := f3_.symm; clear f1_ f2_ f3_; subst f4_; subst f5_))
    refine hK.out _ _ (hh4 BK457 BK458) (fun hHeld => ?_)
    clear hK K
    refine nm (some 41) ?_
    refine on 7 (some 42) #[true, true, true, true, true, true, true, true, false, false] HT_ (fun K hK => ?_)
    refine ge Try.func108 #[.slice Ao21 t461.length co21, .slice Ao66 y477.length co66] ?_
    with_reducible refine (spec_l02Plus.calls kj5 _ _ t461 _ _ y477 t480 _ ?side1 ?side2 ?side3 ?side4 A59.out).mono ?_
    (case side1 => repeat (first | exact (Kd.R_reads' HO_6.out).2.2 | (with_reducible refine Kd.C_alloc ?_ _) | (with_reducible refine Kd.C_drewN ?_ _) | (with_reducible refine Kd.C_drew ?_)))
    (case side2 => exact (Kd.R_reads' HO_6.out).2.1)
    (case side3 => repeat (first | exact (Kd.R_reads' HO479.out).2.2 | (with_reducible refine Kd.C_alloc ?_ _) | (with_reducible refine Kd.C_drewN ?_ _) | (with_reducible refine Kd.C_drew ?_)))
    (case side4 => exact (Kd.R_reads' HO479.out).2.1)
    rintro e w67 ⟨v481, rfl, ho0, hb⟩
    refine ⟨_, rfl, ?_⟩
    have HO482 := am (Kd.R_lower (Kd.R_new' (Kd.R_new' (Kd.R_new' (Kd.R_new' ho0 (Kd.R_lt (fR HO_6))) (Kd.R_lt (fR HO_476001))) (Kd.R_lt (fR HO_477001))) (Kd.R_lt (fR HO479))) (below_size (fB HB))); replace HO_6 := eR HO_6 ho0 hb; replace HO_476001 := eR HO_476001 ho0 hb; replace HO_477001 := eR HO_477001 ho0 hb; replace HO479 := eR HO479 ho0 hb; replace BK457 := kB BK457 hb; replace BK458 := kB BK458 hb; replace BK459 := kB BK459 hb; replace BK460 := kB BK460 hb; replace BK475 := kB BK475 hb; replace BK476 := kB BK476 hb; replace HB := sB HB hb
    clear hb ho0
    obtain ⟨Ao68, co68, eo68⟩ := Kd.R_slice HO482.out
    (first | subst eo68 | (injection eo68 with f1_ f2_ f3_; have f4_ := f1_.symm; have f5_ := f3_.symm; clear f1_ f2_ f3_; subst f4_; subst f5_))
    refine hK.out _ _ (hh4 BK457 BK458) (fun hHeld => ?_)
    clear hK K
    refine nm (some 42) ?_
    refine on 8 (some 43) #[true, true, true, true, true, true, true, true, true, false] HT_ (fun K hK => ?_)
    refine ge Try.func101 #[.bool (a0_0 != a1_0), .slice Ao68 t480.length co68] ?_
    with_reducible refine (spec_l02Make.calls kj5 (a0_0 != a1_0) _ _ t480 t483 t484 _ ?side1 ?side2 A60.out).mono ?_
    (case side1 => repeat (first | exact (Kd.R_reads' HO482.out).2.2 | (with_reducible refine Kd.C_alloc ?_ _) | (with_reducible refine Kd.C_drewN ?_ _) | (with_reducible refine Kd.C_drew ?_)))
    (case side2 => exact (Kd.R_reads' HO482.out).2.1)
    rintro e w69 ⟨v485, rfl, ho0, hb⟩
    refine ⟨_, rfl, ?_⟩
    have HO486 := am (Kd.R_lower (Kd.R_new' (Kd.R_new' (Kd.R_new' (Kd.R_new' (Kd.R_new' ho0 (Kd.R_lt (fR HO_6))) (Kd.R_lt (fR HO_476001))) (Kd.R_lt (fR HO_477001))) (Kd.R_lt (fR HO479))) (Kd.R_lt (fR HO482))) (below_size (fB HB))); replace HO_6 := eR HO_6 ho0 hb; replace HO_476001 := eR HO_476001 ho0 hb; replace HO_477001 := eR HO_477001 ho0 hb; replace HO479 := eR HO479 ho0 hb; replace HO482 := eR HO482 ho0 hb; replace BK457 := kB BK457 hb; replace BK458 := kB BK458 hb; replace BK459 := kB BK459 hb; replace BK460 := kB BK460 hb; replace BK475 := kB BK475 hb; replace BK476 := kB BK476 hb; replace HB := sB HB hb
    clear hb ho0
    obtain ⟨Ao71, co71, eo71⟩ := Kd.R_slice HO486.out
    (first | subst eo71 | (injection eo71 with f1_ f2_ f3_; have f4_ := f1_.symm; have f5_ := f3_.symm; clear f1_ f2_ f3_; subst f4_; subst f5_))
    refine hK.out _ _ (hh4 BK457 BK458) (fun hHeld => ?_)
    clear hK K
    refine nm (some 43) ?_
    refine on 9 (none) #[true, true, true, true, true, true, true, true, true, true] HT_ (fun K hK => ?_)
    have hs70 : w69.cell? ⟨gb475, 0, none⟩ = some (.bool t467) := (blk_cell BK475.out 0).trans rfl
    have hfs70 := blk_frozen BK475.out 0
    have hns70_0 := NB457_475.out
    have hns70_1 := NB458_475.out
    have hns70_2 := NB459_475.out
    have hns70_3 := NB460_475.out
    have hns70_5 := NB476_475.out
    have hms70_0 := NB475_457.out
    have hms70_1 := NB475_458.out
    have hms70_2 := NB475_459.out
    have hms70_3 := NB475_460.out
    have hms70_5 := NB475_476.out
    have hs72 : w69.cell? ⟨gb475, 1, none⟩ = some (.slice Ao33 t468.length co33) := (blk_cell BK475.out 1).trans rfl
    have hfs72 := blk_frozen BK475.out 1
    have hns72_0 := NB457_475.out
    have hns72_1 := NB458_475.out
    have hns72_2 := NB459_475.out
    have hns72_3 := NB460_475.out
    have hns72_5 := NB476_475.out
    have hms72_0 := NB475_457.out
    have hms72_1 := NB475_458.out
    have hms72_2 := NB475_459.out
    have hms72_3 := NB475_460.out
    have hms72_5 := NB475_476.out
    refine skip_ (w1 := ?_) (by rfl) rfl ?_ ?_
    rotate_left
    ·
     go_simp
     rfl
    refine hK.out _ _ ⟨((cell_far (p := ⟨gb475, _, none⟩) NB457_475.out _).trans (((cell_far (p := ⟨gb475, _, none⟩) NB457_475.out _).trans (hHeld.1)))), ((cell_far (p := ⟨gb475, _, none⟩) NB457_475.out _).trans (((cell_far (p := ⟨gb475, _, none⟩) NB457_475.out _).trans (hHeld.2.1)))), ((cell_far (p := ⟨gb475, _, none⟩) NB458_475.out _).trans (((cell_far (p := ⟨gb475, _, none⟩) NB458_475.out _).trans (hHeld.2.2.1)))), ((cell_far (p := ⟨gb475, _, none⟩) NB458_475.out _).trans (((cell_far (p := ⟨gb475, _, none⟩) NB458_475.out _).trans (hHeld.2.2.2))))⟩ (fun hHeld => ?_)
    clear hK K
    refine done_ (done_of HT_.out (by kernel_rfl)) ?_
    have hnb73 := NB458_457.out
    have hnc73 := NB457_458.out
    have hnb74 := NB458_459.out
    have hnc74 := NB459_458.out
    have hnb75 := NB458_460.out
    have hnc75 := NB460_458.out
    have hnb76 := NB458_475.out
    have hnc76 := NB475_458.out
    have hnb77 := NB458_476.out
    have hnc77 := NB476_458.out
    have hcz78_0 : w69.cell? ⟨gb458, 0, none⟩ = some (.bool a1_0) := (blk_cell BK458.out 0).trans rfl
    have hcz78_1 : w69.cell? ⟨gb458, 1, none⟩ = some (.slice A1_1 l1_1.length c1_1) := (blk_cell BK458.out 1).trans rfl
    have hfz78_0 := blk_frozen BK458.out 0
    have hfz78_1 := blk_frozen BK458.out 1
    have hnb79 := NB476_457.out
    have hnc79 := NB457_476.out
    have hnb80 := NB476_459.out
    have hnc80 := NB459_476.out
    have hnb81 := NB476_460.out
    have hnc81 := NB460_476.out
    have hnb82 := NB476_475.out
    have hnc82 := NB475_476.out
    have hcz83_0 : w69.cell? ⟨gb476, 0, none⟩ = some (.bool t471) := (blk_cell BK476.out 0).trans rfl
    have hcz83_1 : w69.cell? ⟨gb476, 1, none⟩ = some (.slice Ao39 t472.length co39) := (blk_cell BK476.out 1).trans rfl
    have hfz83_0 := blk_frozen BK476.out 0
    have hfz83_1 := blk_frozen BK476.out 1
    try go_wp2_with (first | (refine cl 110 (some 48) Try.func110 #[.slice A1_1 l1_1.length c1_1, .slice Ao39 t472.length co39] ?_; (with_reducible refine (spec_l02Less.calls kj5 _ _ l1_1 _ _ t472 t487 _ ?side1 ?side2 ?side3 ?side4 A61.out).mono ?_); (case side1 => exact Kd.C_below HR1_1.out (fB HB)); (case side2 => exact HC1_1.out); (case side3 => refine (Kd.R_reads' (e := 119) (base := w.heap.size) (ok := fun k_ => ((((some k_ ≠ (.slice Ao21 t461.length co21 : Value).ownBlock ∧ some k_ ≠ (.slice Ao33 t468.length co33 : Value).ownBlock) ∧ some k_ ≠ (.slice Ao66 y477.length co66 : Value).ownBlock) ∧ some k_ ≠ (.slice Ao68 t480.length co68 : Value).ownBlock) ∧ some k_ ≠ (.slice Ao71 t484.length co71 : Value).ownBlock)) (n := t472.length) (c := co39) ?_).2.2; exact (tR1 HO_477001 BK475 (fun _ h => h.1))); (case side4 => exact (Kd.R_reads' HO_477001.out).2.1); rintro e w84 ⟨v488, rfl, ho0, hb⟩; refine ⟨_, rfl, ?_⟩; have HO489 := am (Kd.R_lower (Kd.R_new' (Kd.R_new' (Kd.R_new' (Kd.R_new' (Kd.R_new' (Kd.R_new' ho0 (Kd.R_lt (tR1 HO_6 BK475 (fun _ h => h.1)))) (Kd.R_lt (tR1 HO_476001 BK475 (fun _ h => h.1)))) (Kd.R_lt (tR1 HO_477001 BK475 (fun _ h => h.1)))) (Kd.R_lt (tR1 HO479 BK475 (fun _ h => h.1)))) (Kd.R_lt (tR1 HO482 BK475 (fun _ h => h.1)))) (Kd.R_lt (tR1 HO486 BK475 (fun _ h => h.1)))) (below_size (fB HB))); replace HO_6 := am (Kd.R_elder' (tR1 HO_6 BK475 (fun _ h => h.1)) (Kd.R_base ho0) hb); replace HO_476001 := am (Kd.R_elder' (tR1 HO_476001 BK475 (fun _ h => h.1)) (Kd.R_base ho0) hb); replace HO_477001 := am (Kd.R_elder' (tR1 HO_477001 BK475 (fun _ h => h.1)) (Kd.R_base ho0) hb); replace HO479 := am (Kd.R_elder' (tR1 HO479 BK475 (fun _ h => h.1)) (Kd.R_base ho0) hb); replace HO482 := am (Kd.R_elder' (tR1 HO482 BK475 (fun _ h => h.1)) (Kd.R_base ho0) hb); replace HO486 := am (Kd.R_elder' (tR1 HO486 BK475 (fun _ h => h.1)) (Kd.R_base ho0) hb); replace BK457 := kB BK457 hb; replace BK458 := kB BK458 hb; replace BK459 := kB BK459 hb; replace BK460 := kB BK460 hb; replace BK475 := kP BK475 hb #[.bool t483, .slice Ao71 t484.length co71]; replace BK476 := kB BK476 hb; replace HB := sB HB hb; clear hb ho0; obtain ⟨Ao85, co85, eo85⟩ := Kd.R_slice HO489.out; subst eo85) | (refine cl 101 (some 49) Try.func101 #[.bool false, .slice Ao85 t487.length co85] ?_; (with_reducible refine (spec_l02Make.calls kj5 false _ _ t487 t490 t491 _ ?side1 ?side2 A62.out).mono ?_); (case side1 => repeat (first | exact (Kd.R_reads' HO489.out).2.2 | (with_reducible refine Kd.C_alloc ?_ _) | (with_reducible refine Kd.C_drewN ?_ _) | (with_reducible refine Kd.C_drew ?_))); (case side2 => exact (Kd.R_reads' HO489.out).2.1); rintro e w86 ⟨v492, rfl, ho0, hb⟩; refine ⟨_, rfl, ?_⟩; have HO493 := am (Kd.R_lower (Kd.R_new' (Kd.R_new' (Kd.R_new' (Kd.R_new' (Kd.R_new' (Kd.R_new' (Kd.R_new' ho0 (Kd.R_lt (fR HO_6))) (Kd.R_lt (fR HO_476001))) (Kd.R_lt (fR HO_477001))) (Kd.R_lt (fR HO479))) (Kd.R_lt (fR HO482))) (Kd.R_lt (fR HO486))) (Kd.R_lt (fR HO489))) (below_size (fB HB))); replace HO_6 := eR HO_6 ho0 hb; replace HO_476001 := eR HO_476001 ho0 hb; replace HO_477001 := eR HO_477001 ho0 hb; replace HO479 := eR HO479 ho0 hb; replace HO482 := eR HO482 ho0 hb; replace HO486 := eR HO486 ho0 hb; replace HO489 := eR HO489 ho0 hb; replace BK457 := kB BK457 hb; replace BK458 := kB BK458 hb; replace BK459 := kB BK459 hb; replace BK460 := kB BK460 hb; replace BK475 := kB BK475 hb; replace BK476 := kB BK476 hb; replace HB := sB HB hb; clear hb ho0; obtain ⟨hcz87_0, hcz87_1, hfz87_0, hfz87_1⟩ := cz2 BK476; obtain ⟨Ao88, co88, eo88⟩ := Kd.R_slice HO493.out; subst eo88))
    have n0_ : Aside0 (Kd.R (Kd.int .u32) 119 ((w86.setCell ⟨gb476, 0, none⟩ (.bool t490)).setCell ⟨gb476, 1, none⟩ (.slice Ao88 t491.length co88)) w.heap.size (fun k_ => some k_ ≠ (.slice Ao33 t468.length co33 : Value).ownBlock ∧ some k_ ≠ (.slice Ao39 t472.length co39 : Value).ownBlock ∧ some k_ ≠ (.slice Ao66 y477.length co66 : Value).ownBlock ∧ some k_ ≠ (.slice Ao68 t480.length co68 : Value).ownBlock ∧ some k_ ≠ (.slice Ao71 t484.length co71 : Value).ownBlock ∧ some k_ ≠ (.slice Ao85 t487.length co85 : Value).ownBlock ∧ some k_ ≠ (.slice Ao88 t491.length co88 : Value).ownBlock) (.slice Ao21 t461.length co21) t461) := ⟨tR1 HO_6 BK476 (fun _ h => ⟨h.1.1.1.1.1.1.1, ⟨h.1.1.1.1.1.1.2, ⟨h.1.1.1.1.1.2, ⟨h.1.1.1.1.2, ⟨h.1.1.1.2, ⟨h.1.1.2, h.1.2⟩⟩⟩⟩⟩⟩)⟩
    have n1_ : Aside0 (Kd.R (Kd.int .u32) 119 ((w86.setCell ⟨gb476, 0, none⟩ (.bool t490)).setCell ⟨gb476, 1, none⟩ (.slice Ao88 t491.length co88)) w.heap.size (fun k_ => some k_ ≠ (.slice Ao21 t461.length co21 : Value).ownBlock ∧ some k_ ≠ (.slice Ao39 t472.length co39 : Value).ownBlock ∧ some k_ ≠ (.slice Ao66 y477.length co66 : Value).ownBlock ∧ some k_ ≠ (.slice Ao68 t480.length co68 : Value).ownBlock ∧ some k_ ≠ (.slice Ao71 t484.length co71 : Value).ownBlock ∧ some k_ ≠ (.slice Ao85 t487.length co85 : Value).ownBlock ∧ some k_ ≠ (.slice Ao88 t491.length co88 : Value).ownBlock) (.slice Ao33 t468.length co33) t468) := ⟨tR1 HO_476001 BK476 (fun _ h => ⟨h.1.1.1.1.1.1.1, ⟨h.1.1.1.1.1.1.2, ⟨h.1.1.1.1.1.2, ⟨h.1.1.1.1.2, ⟨h.1.1.1.2, ⟨h.1.1.2, h.1.2⟩⟩⟩⟩⟩⟩)⟩
    have n2_ : Aside0 (Kd.R (Kd.int .u32) 119 ((w86.setCell ⟨gb476, 0, none⟩ (.bool t490)).setCell ⟨gb476, 1, none⟩ (.slice Ao88 t491.length co88)) w.heap.size (fun k_ => some k_ ≠ (.slice Ao21 t461.length co21 : Value).ownBlock ∧ some k_ ≠ (.slice Ao33 t468.length co33 : Value).ownBlock ∧ some k_ ≠ (.slice Ao66 y477.length co66 : Value).ownBlock ∧ some k_ ≠ (.slice Ao68 t480.length co68 : Value).ownBlock ∧ some k_ ≠ (.slice Ao71 t484.length co71 : Value).ownBlock ∧ some k_ ≠ (.slice Ao85 t487.length co85 : Value).ownBlock ∧ some k_ ≠ (.slice Ao88 t491.length co88 : Value).ownBlock) (.slice Ao39 t472.length co39) t472) := ⟨tR1 HO_477001 BK476 (fun _ h => ⟨h.1.1.1.1.1.1.1, ⟨h.1.1.1.1.1.1.2, ⟨h.1.1.1.1.1.2, ⟨h.1.1.1.1.2, ⟨h.1.1.1.2, ⟨h.1.1.2, h.1.2⟩⟩⟩⟩⟩⟩)⟩
    have n3_ : Aside0 (Kd.R (Kd.int .u32) 119 ((w86.setCell ⟨gb476, 0, none⟩ (.bool t490)).setCell ⟨gb476, 1, none⟩ (.slice Ao88 t491.length co88)) w.heap.size (fun k_ => some k_ ≠ (.slice Ao21 t461.length co21 : Value).ownBlock ∧ some k_ ≠ (.slice Ao33 t468.length co33 : Value).ownBlock ∧ some k_ ≠ (.slice Ao39 t472.length co39 : Value).ownBlock ∧ some k_ ≠ (.slice Ao68 t480.length co68 : Value).ownBlock ∧ some k_ ≠ (.slice Ao71 t484.length co71 : Value).ownBlock ∧ some k_ ≠ (.slice Ao85 t487.length co85 : Value).ownBlock ∧ some k_ ≠ (.slice Ao88 t491.length co88 : Value).ownBlock) (.slice Ao66 y477.length co66) y477) := ⟨tR1 HO479 BK476 (fun _ h => ⟨h.1.1.1.1.1.1.1.2, ⟨h.1.1.1.1.1.1.2, ⟨h.1.1.1.1.1.2, ⟨h.1.1.1.1.2, ⟨h.1.1.1.2, ⟨h.1.1.2, h.1.2⟩⟩⟩⟩⟩⟩)⟩
    have n4_ : Aside0 (Kd.R (Kd.int .u32) 119 ((w86.setCell ⟨gb476, 0, none⟩ (.bool t490)).setCell ⟨gb476, 1, none⟩ (.slice Ao88 t491.length co88)) w.heap.size (fun k_ => some k_ ≠ (.slice Ao21 t461.length co21 : Value).ownBlock ∧ some k_ ≠ (.slice Ao33 t468.length co33 : Value).ownBlock ∧ some k_ ≠ (.slice Ao39 t472.length co39 : Value).ownBlock ∧ some k_ ≠ (.slice Ao66 y477.length co66 : Value).ownBlock ∧ some k_ ≠ (.slice Ao71 t484.length co71 : Value).ownBlock ∧ some k_ ≠ (.slice Ao85 t487.length co85 : Value).ownBlock ∧ some k_ ≠ (.slice Ao88 t491.length co88 : Value).ownBlock) (.slice Ao68 t480.length co68) t480) := ⟨tR1 HO482 BK476 (fun _ h => ⟨h.1.1.1.1.1.1.1.2, ⟨h.1.1.1.1.1.1.2, ⟨h.1.1.1.1.1.2, ⟨h.1.1.1.1.2, ⟨h.1.1.1.2, ⟨h.1.1.2, h.1.2⟩⟩⟩⟩⟩⟩)⟩
    have n5_ : Aside0 (Kd.R (Kd.int .u32) 119 ((w86.setCell ⟨gb476, 0, none⟩ (.bool t490)).setCell ⟨gb476, 1, none⟩ (.slice Ao88 t491.length co88)) w.heap.size (fun k_ => some k_ ≠ (.slice Ao21 t461.length co21 : Value).ownBlock ∧ some k_ ≠ (.slice Ao33 t468.length co33 : Value).ownBlock ∧ some k_ ≠ (.slice Ao39 t472.length co39 : Value).ownBlock ∧ some k_ ≠ (.slice Ao66 y477.length co66 : Value).ownBlock ∧ some k_ ≠ (.slice Ao68 t480.length co68 : Value).ownBlock ∧ some k_ ≠ (.slice Ao85 t487.length co85 : Value).ownBlock ∧ some k_ ≠ (.slice Ao88 t491.length co88 : Value).ownBlock) (.slice Ao71 t484.length co71) t484) := ⟨tR1 HO486 BK476 (fun _ h => ⟨h.1.1.1.1.1.1.1.2, ⟨h.1.1.1.1.1.1.2, ⟨h.1.1.1.1.1.2, ⟨h.1.1.1.1.2, ⟨h.1.1.1.2, ⟨h.1.1.2, h.1.2⟩⟩⟩⟩⟩⟩)⟩
    have n6_ : Aside0 (Kd.R (Kd.int .u32) 119 ((w86.setCell ⟨gb476, 0, none⟩ (.bool t490)).setCell ⟨gb476, 1, none⟩ (.slice Ao88 t491.length co88)) w.heap.size (fun k_ => some k_ ≠ (.slice Ao21 t461.length co21 : Value).ownBlock ∧ some k_ ≠ (.slice Ao33 t468.length co33 : Value).ownBlock ∧ some k_ ≠ (.slice Ao39 t472.length co39 : Value).ownBlock ∧ some k_ ≠ (.slice Ao66 y477.length co66 : Value).ownBlock ∧ some k_ ≠ (.slice Ao68 t480.length co68 : Value).ownBlock ∧ some k_ ≠ (.slice Ao71 t484.length co71 : Value).ownBlock ∧ some k_ ≠ (.slice Ao88 t491.length co88 : Value).ownBlock) (.slice Ao85 t487.length co85) t487) := ⟨tR1 HO489 BK476 (fun _ h => ⟨h.1.1.1.1.1.1.1.2, ⟨h.1.1.1.1.1.1.2, ⟨h.1.1.1.1.1.2, ⟨h.1.1.1.1.2, ⟨h.1.1.1.2, ⟨h.1.1.2, h.1.2⟩⟩⟩⟩⟩⟩)⟩
    have n7_ : Aside0 (Kd.R (Kd.int .u32) 119 ((w86.setCell ⟨gb476, 0, none⟩ (.bool t490)).setCell ⟨gb476, 1, none⟩ (.slice Ao88 t491.length co88)) w.heap.size (fun k_ => some k_ ≠ (.slice Ao21 t461.length co21 : Value).ownBlock ∧ some k_ ≠ (.slice Ao33 t468.length co33 : Value).ownBlock ∧ some k_ ≠ (.slice Ao39 t472.length co39 : Value).ownBlock ∧ some k_ ≠ (.slice Ao66 y477.length co66 : Value).ownBlock ∧ some k_ ≠ (.slice Ao68 t480.length co68 : Value).ownBlock ∧ some k_ ≠ (.slice Ao71 t484.length co71 : Value).ownBlock ∧ some k_ ≠ (.slice Ao85 t487.length co85 : Value).ownBlock) (.slice Ao88 t491.length co88) t491) := ⟨tR1 HO493 BK476 (fun _ h => ⟨h.1.1.1.1.1.1.1.2, ⟨h.1.1.1.1.1.1.2, ⟨h.1.1.1.1.1.2, ⟨h.1.1.1.1.2, ⟨h.1.1.1.2, ⟨h.1.1.2, h.1.2⟩⟩⟩⟩⟩⟩)⟩
    have n8_ : Aside0 (((w86.setCell ⟨gb476, 0, none⟩ (.bool t490)).setCell ⟨gb476, 1, none⟩ (.slice Ao88 t491.length co88)).heap[gb457]? = some (.cells #[.bool a0_0, .slice A0_1 l0_1.length c0_1] 60 (0, 0))) := ⟨fb BK457⟩
    have n9_ : Aside0 (((w86.setCell ⟨gb476, 0, none⟩ (.bool t490)).setCell ⟨gb476, 1, none⟩ (.slice Ao88 t491.length co88)).heap[gb458]? = some (.cells #[.bool a1_0, .slice A1_1 l1_1.length c1_1] 60 (0, 0))) := ⟨fb BK458⟩
    have n10_ : Aside0 (((w86.setCell ⟨gb476, 0, none⟩ (.bool t490)).setCell ⟨gb476, 1, none⟩ (.slice Ao88 t491.length co88)).heap[gb459]? = some (.cells #[.bool false, .slice none 0 0] 60 (0, 0))) := ⟨fb BK459⟩
    have n11_ : Aside0 (((w86.setCell ⟨gb476, 0, none⟩ (.bool t490)).setCell ⟨gb476, 1, none⟩ (.slice Ao88 t491.length co88)).heap[gb460]? = some (.cells #[.bool false, .slice none 0 0] 60 (0, 0))) := ⟨fb BK460⟩
    have n12_ : Aside0 (((w86.setCell ⟨gb476, 0, none⟩ (.bool t490)).setCell ⟨gb476, 1, none⟩ (.slice Ao88 t491.length co88)).heap[gb475]? = some (.cells #[.bool t483, .slice Ao71 t484.length co71] 60 (0, 0))) := ⟨fb BK475⟩
    have n13_ : Aside0 (((w86.setCell ⟨gb476, 0, none⟩ (.bool t490)).setCell ⟨gb476, 1, none⟩ (.slice Ao88 t491.length co88)).heap[gb476]? = some (.cells #[.bool t490, .slice Ao88 t491.length co88] 60 (0, 0))) := ⟨fP BK476⟩
    have n14_ : Aside0 (Below w.heap.size w ((w86.setCell ⟨gb476, 0, none⟩ (.bool t490)).setCell ⟨gb476, 1, none⟩ (.slice Ao88 t491.length co88))) := ⟨fB HB⟩
    generalize ((w86.setCell ⟨gb476, 0, none⟩ (.bool t490)).setCell ⟨gb476, 1, none⟩ (.slice Ao88 t491.length co88)) = w89 at n0_ n1_ n2_ n3_ n4_ n5_ n6_ n7_ n8_ n9_ n10_ n11_ n12_ n13_ n14_ ⊢
    have HO_6 := n0_
    have HO_476001 := n1_
    have HO_477001 := n2_
    have HO479 := n3_
    have HO482 := n4_
    have HO486 := n5_
    have HO489 := n6_
    have HO493 := n7_
    have BK457 := n8_
    have BK458 := n9_
    have BK459 := n10_
    have BK460 := n11_
    have BK475 := n12_
    have BK476 := n13_
    have HB := n14_
    clear n0_ n1_ n2_ n3_ n4_ n5_ n6_ n7_ n8_ n9_ n10_ n11_ n12_ n13_ n14_
    replace HO_6 := am (Kd.R_drew HO_6.out); replace HO_476001 := am (Kd.R_drew HO_476001.out); replace HO_477001 := am (Kd.R_drew HO_477001.out); replace HO479 := am (Kd.R_drew HO479.out); replace HO482 := am (Kd.R_drew HO482.out); replace HO486 := am (Kd.R_drew HO486.out); replace HO489 := am (Kd.R_drew HO489.out); replace HO493 := am (Kd.R_drew HO493.out); replace BK457 := am (blk_drew BK457.out); replace BK458 := am (blk_drew BK458.out); replace BK459 := am (blk_drew BK459.out); replace BK460 := am (blk_drew BK460.out); replace BK475 := am (blk_drew BK475.out); replace BK476 := am (blk_drew BK476.out); replace HB := am (below_drew1 HB.out)
    refine start_ (n := 4) (S := fun w' => w'.cell? ⟨gb475, 0, none⟩ = some (.bool t483) ∧ w'.cell? ⟨gb475, 1, none⟩ = some (.slice Ao71 t484.length co71) ∧ w'.cell? ⟨gb476, 0, none⟩ = some (.bool t490) ∧ w'.cell? ⟨gb476, 1, none⟩ = some (.slice Ao88 t491.length co88)) (ds := []) #[false, false, false, false] (by kernel_rfl) rfl rfl (hh4 BK475 BK476) (fun hHeld => ?_)
    generalize w89.drew = w90 at HO_6 HO_476001 HO_477001 HO479 HO482 HO486 HO489 HO493 BK457 BK458 BK459 BK460 BK475 BK476 HB hHeld ⊢
    refine take_ (i := 0) (N := some 50) (v := ?_) (a' := ?_) #[true, false, false, false] rfl rfl (by kernel_rfl) (fun _ _ _ h => h) (Or.inl ⟨by rfl, ?_⟩) hHeld ?_ ?_
    rotate_left
    ·
     rintro w' ⟨s0, s1, s2, s3⟩
     go_simp
     with_reducible rfl
    rotate_left
    ·
     simp only [Act.put, List.setIfInBounds_toArray, List.set_cons_zero, List.set_cons_succ, i64_w, i32_w]
     rfl
    refine take_ (i := 1) (N := some 51) (v := ?_) (a' := ?_) #[true, true, false, false] rfl rfl (by kernel_rfl) (fun _ _ _ h => h) (Or.inl ⟨by rfl, ?_⟩) hHeld ?_ ?_
    rotate_left
    ·
     rintro w' ⟨s0, s1, s2, s3⟩
     go_simp
     with_reducible rfl
    rotate_left
    ·
     simp only [Act.put, List.setIfInBounds_toArray, List.set_cons_zero, List.set_cons_succ, i64_w, i32_w]
     rfl
    refine one_ (i := 2) (N := none) #[true, true, true, false] rfl rfl (by kernel_rfl) (by decide) (fun K hK => ?_)
    have hs91 : w90.cell? ⟨gb459, 0, none⟩ = some (.bool false) := (blk_cell BK459.out 0).trans rfl
    have hfs91 := blk_frozen BK459.out 0
    have hns91_0 := NB457_459.out
    have hns91_1 := NB458_459.out
    have hns91_3 := NB460_459.out
    have hns91_4 := NB475_459.out
    have hns91_5 := NB476_459.out
    have hms91_0 := NB459_457.out
    have hms91_1 := NB459_458.out
    have hms91_3 := NB459_460.out
    have hms91_4 := NB459_475.out
    have hms91_5 := NB459_476.out
    have hs92 : w90.cell? ⟨gb459, 1, none⟩ = some (.slice none 0 0) := (blk_cell BK459.out 1).trans rfl
    have hfs92 := blk_frozen BK459.out 1
    have hns92_0 := NB457_459.out
    have hns92_1 := NB458_459.out
    have hns92_3 := NB460_459.out
    have hns92_4 := NB475_459.out
    have hns92_5 := NB476_459.out
    have hms92_0 := NB459_457.out
    have hms92_1 := NB459_458.out
    have hms92_3 := NB459_460.out
    have hms92_4 := NB459_475.out
    have hms92_5 := NB459_476.out
    refine skip_ (w1 := ?_) (by rfl) rfl ?_ ?_
    rotate_left
    ·
     go_simp
     rfl
    refine hK.out _ _ ⟨((cell_far (p := ⟨gb459, _, none⟩) NB475_459.out _).trans (((cell_far (p := ⟨gb459, _, none⟩) NB475_459.out _).trans (hHeld.1)))), ((cell_far (p := ⟨gb459, _, none⟩) NB475_459.out _).trans (((cell_far (p := ⟨gb459, _, none⟩) NB475_459.out _).trans (hHeld.2.1)))), ((cell_far (p := ⟨gb459, _, none⟩) NB476_459.out _).trans (((cell_far (p := ⟨gb459, _, none⟩) NB476_459.out _).trans (hHeld.2.2.1)))), ((cell_far (p := ⟨gb459, _, none⟩) NB476_459.out _).trans (((cell_far (p := ⟨gb459, _, none⟩) NB476_459.out _).trans (hHeld.2.2.2))))⟩ (fun hHeld => ?_)
    clear hK K
    refine one_ (i := 3) (N := none) #[true, true, true, true] rfl rfl (by kernel_rfl) (by decide) (fun K hK => ?_)
    have hs93 : w90.cell? ⟨gb460, 0, none⟩ = some (.bool false) := (blk_cell BK460.out 0).trans rfl
    have hfs93 := blk_frozen BK460.out 0
    have hns93_0 := NB457_460.out
    have hns93_1 := NB458_460.out
    have hns93_2 := NB459_460.out
    have hns93_4 := NB475_460.out
    have hns93_5 := NB476_460.out
    have hms93_0 := NB460_457.out
    have hms93_1 := NB460_458.out
    have hms93_2 := NB460_459.out
    have hms93_4 := NB460_475.out
    have hms93_5 := NB460_476.out
    have hs94 : w90.cell? ⟨gb460, 1, none⟩ = some (.slice none 0 0) := (blk_cell BK460.out 1).trans rfl
    have hfs94 := blk_frozen BK460.out 1
    have hns94_0 := NB457_460.out
    have hns94_1 := NB458_460.out
    have hns94_2 := NB459_460.out
    have hns94_4 := NB475_460.out
    have hns94_5 := NB476_460.out
    have hms94_0 := NB460_457.out
    have hms94_1 := NB460_458.out
    have hms94_2 := NB460_459.out
    have hms94_4 := NB460_475.out
    have hms94_5 := NB460_476.out
    refine skip_ (w1 := ?_) (by rfl) rfl ?_ ?_
    rotate_left
    ·
     go_simp
     rfl
    refine hK.out _ _ ⟨((cell_far (p := ⟨gb460, _, none⟩) NB475_460.out _).trans (((cell_far (p := ⟨gb460, _, none⟩) NB475_460.out _).trans (hHeld.1)))), ((cell_far (p := ⟨gb460, _, none⟩) NB475_460.out _).trans (((cell_far (p := ⟨gb460, _, none⟩) NB475_460.out _).trans (hHeld.2.1)))), ((cell_far (p := ⟨gb460, _, none⟩) NB476_460.out _).trans (((cell_far (p := ⟨gb460, _, none⟩) NB476_460.out _).trans (hHeld.2.2.1)))), ((cell_far (p := ⟨gb460, _, none⟩) NB476_460.out _).trans (((cell_far (p := ⟨gb460, _, none⟩) NB476_460.out _).trans (hHeld.2.2.2))))⟩ (fun hHeld => ?_)
    clear hK K
    refine done_ (by kernel_rfl) ?_
    try go_wp2
    refine bodyPost_ret (results_cc rfl _ _ gb459 gb460 60 60 #[.bool t483, .slice Ao71 t484.length co71] #[.bool t490, .slice Ao88 t491.length co88] (0, 0) (0, 0) _ _ rfl (fP BK459) Try.underlying60 rfl (by kernel_rfl) rfl (fP BK460) Try.underlying60 rfl (by kernel_rfl)) rfl ?_
    exact ⟨_, _, rz, tR2 HO486 BK459 BK460 (fun _ h => h.1.1.2.2.2.2.2.2), tR2 HO493 BK459 BK460 (fun _ h => h.1.1.2.2.2.2.2.1), fB HB⟩
   ·
    replace c58 := Bool.eq_false_iff.mpr c58
    subst c58
    have H1 : (some (t467, t468, t471, t472)) = some (r1, r2, r3, r4) := by rw [if_neg (show ¬ (false = true) by decide)] at H; exact H
    clear H
    have H := H1
    clear H1
    simp only [Option.some.injEq, Prod.mk.injEq] at H
    obtain ⟨rfl, rfl, rfl, rfl⟩ := H
    try go_wp2
    replace HO_6 := am (Kd.R_drew HO_6.out); replace HO_476001 := am (Kd.R_drew HO_476001.out); replace HO_477001 := am (Kd.R_drew HO_477001.out); replace BK457 := am (blk_drew BK457.out); replace BK458 := am (blk_drew BK458.out); replace BK459 := am (blk_drew BK459.out); replace BK460 := am (blk_drew BK460.out); replace BK475 := am (blk_drew BK475.out); replace BK476 := am (blk_drew BK476.out); replace HB := am (below_drew1 HB.out)
    refine start_ (n := 4) (S := fun w' => w'.cell? ⟨gb475, 0, none⟩ = some (.bool t467) ∧ w'.cell? ⟨gb475, 1, none⟩ = some (.slice Ao33 t468.length co33) ∧ w'.cell? ⟨gb476, 0, none⟩ = some (.bool t471) ∧ w'.cell? ⟨gb476, 1, none⟩ = some (.slice Ao39 t472.length co39)) (ds := []) #[false, false, false, false] (by kernel_rfl) rfl rfl (hh4 BK475 BK476) (fun hHeld => ?_)
    generalize wc.drew = w95 at HO_6 HO_476001 HO_477001 BK457 BK458 BK459 BK460 BK475 BK476 HB hHeld ⊢
    refine take_ (i := 0) (N := some 50) (v := ?_) (a' := ?_) #[true, false, false, false] rfl rfl (by kernel_rfl) (fun _ _ _ h => h) (Or.inl ⟨by rfl, ?_⟩) hHeld ?_ ?_
    rotate_left
    ·
     rintro w' ⟨s0, s1, s2, s3⟩
     go_simp
     with_reducible rfl
    rotate_left
    ·
     simp only [Act.put, List.setIfInBounds_toArray, List.set_cons_zero, List.set_cons_succ, i64_w, i32_w]
     rfl
    refine take_ (i := 1) (N := some 51) (v := ?_) (a' := ?_) #[true, true, false, false] rfl rfl (by kernel_rfl) (fun _ _ _ h => h) (Or.inl ⟨by rfl, ?_⟩) hHeld ?_ ?_
    rotate_left
    ·
     rintro w' ⟨s0, s1, s2, s3⟩
     go_simp
     with_reducible rfl
    rotate_left
    ·
     simp only [Act.put, List.setIfInBounds_toArray, List.set_cons_zero, List.set_cons_succ, i64_w, i32_w]
     rfl
    refine one_ (i := 2) (N := none) #[true, true, true, false] rfl rfl (by kernel_rfl) (by decide) (fun K hK => ?_)
    have hs96 : w95.cell? ⟨gb459, 0, none⟩ = some (.bool false) := (blk_cell BK459.out 0).trans rfl
    have hfs96 := blk_frozen BK459.out 0
    have hns96_0 := NB457_459.out
    have hns96_1 := NB458_459.out
    have hns96_3 := NB460_459.out
    have hns96_4 := NB475_459.out
    have hns96_5 := NB476_459.out
    have hms96_0 := NB459_457.out
    have hms96_1 := NB459_458.out
    have hms96_3 := NB459_460.out
    have hms96_4 := NB459_475.out
    have hms96_5 := NB459_476.out
    have hs97 : w95.cell? ⟨gb459, 1, none⟩ = some (.slice none 0 0) := (blk_cell BK459.out 1).trans rfl
    have hfs97 := blk_frozen BK459.out 1
    have hns97_0 := NB457_459.out
    have hns97_1 := NB458_459.out
    have hns97_3 := NB460_459.out
    have hns97_4 := NB475_459.out
    have hns97_5 := NB476_459.out
    have hms97_0 := NB459_457.out
    have hms97_1 := NB459_458.out
    have hms97_3 := NB459_460.out
    have hms97_4 := NB459_475.out
    have hms97_5 := NB459_476.out
    refine skip_ (w1 := ?_) (by rfl) rfl ?_ ?_
    rotate_left
    ·
     go_simp
     rfl
    refine hK.out _ _ ⟨((cell_far (p := ⟨gb459, _, none⟩) NB475_459.out _).trans (((cell_far (p := ⟨gb459, _, none⟩) NB475_459.out _).trans (hHeld.1)))), ((cell_far (p := ⟨gb459, _, none⟩) NB475_459.out _).trans (((cell_far (p := ⟨gb459, _, none⟩) NB475_459.out _).trans (hHeld.2.1)))), ((cell_far (p := ⟨gb459, _, none⟩) NB476_459.out _).trans (((cell_far (p := ⟨gb459, _, none⟩) NB476_459.out _).trans (hHeld.2.2.1)))), ((cell_far (p := ⟨gb459, _, none⟩) NB476_459.out _).trans (((cell_far (p := ⟨gb459, _, none⟩) NB476_459.out _).trans (hHeld.2.2.2))))⟩ (fun hHeld => ?_)
    clear hK K
    refine one_ (i := 3) (N := none) #[true, true, true, true] rfl rfl (by kernel_rfl) (by decide) (fun K hK => ?_)
    have hs98 : w95.cell? ⟨gb460, 0, none⟩ = some (.bool false) := (blk_cell BK460.out 0).trans rfl
    have hfs98 := blk_frozen BK460.out 0
    have hns98_0 := NB457_460.out
    have hns98_1 := NB458_460.out
    have hns98_2 := NB459_460.out
    have hns98_4 := NB475_460.out
    have hns98_5 := NB476_460.out
    have hms98_0 := NB460_457.out
    have hms98_1 := NB460_458.out
    have hms98_2 := NB460_459.out
    have hms98_4 := NB460_475.out
    have hms98_5 := NB460_476.out
    have hs99 : w95.cell? ⟨gb460, 1, none⟩ = some (.slice none 0 0) := (blk_cell BK460.out 1).trans rfl
    have hfs99 := blk_frozen BK460.out 1
    have hns99_0 := NB457_460.out
    have hns99_1 := NB458_460.out
    have hns99_2 := NB459_460.out
    have hns99_4 := NB475_460.out
    have hns99_5 := NB476_460.out
    have hms99_0 := NB460_457.out
    have hms99_1 := NB460_458.out
    have hms99_2 := NB460_459.out
    have hms99_4 := NB460_475.out
    have hms99_5 := NB460_476.out
    refine skip_ (w1 := ?_) (by rfl) rfl ?_ ?_
    rotate_left
    ·
     go_simp
     rfl
    refine hK.out _ _ ⟨((cell_far (p := ⟨gb460, _, none⟩) NB475_460.out _).trans (((cell_far (p := ⟨gb460, _, none⟩) NB475_460.out _).trans (hHeld.1)))), ((cell_far (p := ⟨gb460, _, none⟩) NB475_460.out _).trans (((cell_far (p := ⟨gb460, _, none⟩) NB475_460.out _).trans (hHeld.2.1)))), ((cell_far (p := ⟨gb460, _, none⟩) NB476_460.out _).trans (((cell_far (p := ⟨gb460, _, none⟩) NB476_460.out _).trans (hHeld.2.2.1)))), ((cell_far (p := ⟨gb460, _, none⟩) NB476_460.out _).trans (((cell_far (p := ⟨gb460, _, none⟩) NB476_460.out _).trans (hHeld.2.2.2))))⟩ (fun hHeld => ?_)
    clear hK K
    refine done_ (by kernel_rfl) ?_
    try go_wp2
    refine bodyPost_ret (results_cc rfl _ _ gb459 gb460 60 60 #[.bool t467, .slice Ao33 t468.length co33] #[.bool t471, .slice Ao39 t472.length co39] (0, 0) (0, 0) _ _ rfl (fP BK459) Try.underlying60 rfl (by kernel_rfl) rfl (fP BK460) Try.underlying60 rfl (by kernel_rfl)) rfl ?_
    exact ⟨_, _, rz, tR2 HO_476001 BK459 BK460 (fun _ h => h.1.1.2), tR2 HO_477001 BK459 BK460 (fun _ h => h.1.1.2), fB HB⟩
end Go.Proofs.Ytjdndacollpjkaa.MFnVars
