/- Contracts of the functions that the law FnVars reaches (walks in the form of the kit's print; what it does not take by hand). -/
import Derived.Test.YtjdndacollpjkaaFvL
import Derived.Test.YtjdndacollpjkaaMFnVarsx1
import Derived.Test.YtjdndacollpjkaaMFnVarsx2
namespace Go.Proofs.Ytjdndacollpjkaa.MFnVars
open Go.RowKit Go.Proofs.YtjdndacollpjkaaW.PrintWords Go.Proofs.YtjdndacollpjkaaW.PrintLast Go.Proofs.YtjdndacollpjkaaW.PrintMore
attribute [local go_sem] max2_int min2_int max_two min_two max_three min_three max_four min_four   -- for this text's walks alone
set_option linter.unusedVariables false
set_option linter.unusedSimpArgs false

/-! ### spec_l04Some: function 73 -/
set_option maxHeartbeats 8000000 in
set_option maxRecDepth 100000 in
theorem spec_l04Some.calls (k : Nat) (g : Nat) (s0_0 : List Int) (s0_1 : Int) (s0_2 : Int) (a1 : Int) (r1 : Int) (r2 : List Int) (r3 : Int) (r4 : Int) (w0 w : World) (hI : IsS90 w0 w g s0_0 s0_1 s0_2) (hB : Below w0.heap.size w0 w) (h : spec_l04Some.f k s0_0 s0_1 s0_2 a1 = some (r1, r2, r3, r4)) :
  Calls Try.prog 73 #[.pointer (some ⟨g, 0, none⟩), .int .i64 a1] w fun e w' => ∃ v1_ : Value, e = .returned (.agg #[.int .i64 r1, v1_]) ∧ Kd.R (Kd.int .i64) 3 w' w.heap.size (fun _ => True) v1_ r2 ∧ IsS90 w0 w' g s0_0 r3 r4 ∧ Below w0.heap.size w0 w' ∧ KeepBut w w' g none := by
 have hu27 := Try.underlying27
 have HI0 := am hI
 have HK := am (KeepBut.refl w g none)
 have HL := am hB.size
 clear hI
 have HW0 := am hB.size
 have HB := am hB
 clear hB
 have H : (spec_l04Some.l0 k a1 (([] : List Int)) 0 s0_0 s0_1 s0_2) = some (r1, r2, r3, r4) := h
 clear h
 obtain ⟨y153, Ny153⟩ : ∃ y_ : List Int, Aside0 (y_ = (([] : List Int))) := ⟨_, ⟨rfl⟩⟩; rw [← Ny153.out] at H
 have H' := am H
 clear H
 go_enter Try.func73, Try.ntmps73
 go_wp2_with (first | (refine bx 4 #[.int .i64 0, .slice none 0 0] 27 ?_; intro gb152 hg w3 hbox hb; replace HB := sB HB hb; have BK152 := am (hbox); have GW152 := zK HK hg; have GE152 := zW HW0 (zK HK hg); replace HK := KB HK hb; obtain ⟨NB0_152, NB152_0⟩ := nI HI0 hg; replace HI0 := IB HI0 hb; clear hb hbox hg) | ((with_reducible refine gate_dst (N := 9) rfl ?_); refine Kd.R_lit (Kd.int .i64) _ 3 ?hg (N := 9) ?hd (xs := ([] : List Int)) (inner := []) (ok := fun _ => True) (okp := fun _ => True) ?hr ?hp (fun _ hk => hk) trivial (Below.refl _ _) (Nat.le_refl _) (by simp) ?_; (case hd => rfl); (case hg => rfl); (case hr => first | (go_simp; done) | (go_simp; rfl)); (case hp => exact (Reps.none _ _)); intro v154 w4 ho5 hb hg_ hnew_; clear hg_ hnew_; (first | rw [← Ny153.out] at ho5 | (simp only [Int.reduceToNat] at ho5; rw [← Ny153.out] at ho5)); have HO155 := loK ho5 HK; replace HI0 := IB HI0 hb; replace BK152 := kB BK152 hb; replace HK := KB HK hb; replace HB := sB HB hb; clear hb ho5))
 go_loopg [5, 6] k (fun kq v5 v6 w' => ∃ (x5_1 : List Int) (x6_1 : Int) (x1001_1 : Int) (x1002_1 : Int), v6 = .int .i64 x6_1 ∧ Aside0 (spec_l04Some.l0 kq a1 x5_1 x6_1 s0_0 x1001_1 x1002_1 = some (r1, r2, r3, r4)) ∧ Aside0 (kq ≤ k) ∧ Aside0 (Kd.R (Kd.int .i64) 3 w' w.heap.size (fun _ => True) v5 x5_1) ∧ Aside0 (w'.heap[gb152]? = some (.cells #[.int .i64 0, (.slice none 0 0)] 27 (0, 0))) ∧ Aside0 (IsS90 w0 w' g s0_0 x1001_1 x1002_1) ∧ Aside0 (KeepBut w w' g none) ∧ Aside0 (Below w0.heap.size w0 w'))
 case atStart => exact ⟨(y153), (0), (s0_1), (s0_2), (rs), H', ⟨Nat.le_refl _⟩, ⟨fR HO155⟩, ⟨fb BK152⟩, ⟨fI HI0⟩, ⟨fK HK⟩, ⟨fB HB⟩⟩
 case round =>
  clear H'
  try clear p2
  obtain ⟨x5_1, x6_1, x1001_1, x1002_1, rfl, HA, HK1, HO_5, BK152, HI0, HK, HB⟩ := hrel
  cases gk with
  | zero => exact absurd HA.out (by simp [spec_l04Some.l0])
  | succ k1 =>
   have H := HA.out
   clear HA
   simp only [spec_l04Some.l0] at H
   by_cases c6 : x6_1 < a1
   ·
    rw [if_pos c6] at H
    have c6b0 : decide (x6_1 < a1) = true := decide_eq_true c6
    clear c6
    obtain ⟨⟨t156, t157, t158⟩, A7, H⟩ := ub H; dsimp only at H
    obtain ⟨y159, Ny159⟩ : ∃ y_ : List Int, Aside0 (y_ = (([0, 0, 1, (-1), 2, (-2), 3, wrap64 (t156 - 6)] : List Int))) := ⟨_, ⟨rfl⟩⟩; rw [← Ny159.out] at H
    obtain ⟨⟨t162, t163, t164⟩, A8, H⟩ := ub H; dsimp only at H
    by_cases c9 : x5_1.length < 17592186044416
    ·
     rw [if_pos c9] at H
     have LMc9 := am c9
     clear c9
     obtain ⟨y165, Ny165⟩ : ∃ y_ : List Int, Aside0 (y_ = (x5_1 ++ [t162])) := ⟨_, ⟨rfl⟩⟩; rw [← Ny165.out] at H
     have H' := am H
     clear H
     go_wp2_with (first | (refine cl 56 (some 18) Try.func56 #[.pointer (some ⟨g, 0, none⟩), .int .i64 13] ?_; (with_reducible refine (spec_l01Below.calls g s0_0 x1001_1 x1002_1 13 t156 t157 t158 w0 _ ?side1 ?side2 A7.out).mono ?_); (case side1 => exact fI HI0); (case side2 => exact fB HB); rintro e w10 ⟨rfl, hi, hb, hk⟩; refine ⟨_, rfl, ?_⟩; replace HO_5 := kR HI0 HO_5 hk; replace BK152 := kK BK152 hk NB152_0; replace HK := Kk HK hk; replace HB := am (hb); replace HI0 := am (hi); clear hb hk hi) | ((with_reducible refine gate_dst (N := 20) rfl ?_); refine Kd.R_lit (Kd.int .i64) _ 3 ?hg (N := 20) ?hd (xs := ([0, 0, 1, (-1), 2, (-2), 3, wrap64 (t156 - 6)] : List Int)) (inner := [.int .i64 0, .int .i64 0, .int .i64 1, .int .i64 (-1), .int .i64 2, .int .i64 (-2), .int .i64 3, .int .i64 (wrap64 (t156 - 6))]) (ok := fun _ => True) (okp := fun _ => True) ?hr ?hp (fun _ hk => hk) trivial (Below.refl _ _) (Nat.le_refl _) (by simp) ?_; (case hd => rfl); (case hg => rfl); (case hr => first | (go_simp; done) | (go_simp; rfl)); (case hp => exact (Reps.one (show Kd.M (Kd.int .i64) _ _ _ 0 [.int .i64 0] from rfl) (Reps.one (show Kd.M (Kd.int .i64) _ _ _ 0 [.int .i64 0] from rfl) (Reps.one (show Kd.M (Kd.int .i64) _ _ _ 1 [.int .i64 1] from rfl) (Reps.one (show Kd.M (Kd.int .i64) _ _ _ (-1) [.int .i64 (-1)] from rfl) (Reps.one (show Kd.M (Kd.int .i64) _ _ _ 2 [.int .i64 2] from rfl) (Reps.one (show Kd.M (Kd.int .i64) _ _ _ (-2) [.int .i64 (-2)] from rfl) (Reps.one (show Kd.M (Kd.int .i64) _ _ _ 3 [.int .i64 3] from rfl) (Reps.one (show Kd.M (Kd.int .i64) _ _ _ (wrap64 (t156 - 6)) [.int .i64 (wrap64 (t156 - 6))] from rfl) (Reps.none _ _)))))))))); intro v160 w11 ho12 hb hg_ hnew_; clear hg_ hnew_; (first | rw [← Ny159.out] at ho12 | (simp only [Int.reduceToNat] at ho12; rw [← Ny159.out] at ho12)); have HO161 := am (Kd.R_lower (Kd.R_new' ho12 (Kd.R_lt (fR HO_5))) (keep_size (w := w) (g := g) (row := none) (fK HK))); replace HO_5 := eR HO_5 ho12 hb; replace BK152 := kB BK152 hb; replace HI0 := IB HI0 hb; replace HK := KB HK hb; replace HB := sB HB hb; clear hb ho12; obtain ⟨Ao13, co13, eo13⟩ := Kd.R_slice HO161.out; subst eo13) | (refine cl 59 (some 21) Try.func59 #[.pointer (some ⟨g, 0, none⟩), .slice Ao13 y159.length co13] ?_; (with_reducible refine (spec_l01PickInt.calls g s0_0 t157 t158 _ _ y159 t162 t163 t164 w0 _ ?side1 ?side2 ?side3 ?side4 ?side5 A8.out).mono ?_); (case side1 => exact fI HI0); (case side2 => exact fB HB); (case side3 => repeat (first | exact (Kd.R_reads' HO161.out).2.2 | (with_reducible refine Kd.C_alloc ?_ _) | (with_reducible refine Kd.C_drewN ?_ _) | (with_reducible refine Kd.C_drew ?_))); (case side4 => exact (Kd.R_reads' HO161.out).2.1); (case side5 => exact far_slice (IsS90.own_ne HI0.out HO161.out (by decide))); rintro e w14 ⟨rfl, hi, hb, hk⟩; refine ⟨_, rfl, ?_⟩; replace HO_5 := kR HI0 HO_5 hk; replace BK152 := kK BK152 hk NB152_0; replace HO161 := kR HI0 HO161 hk; replace HK := Kk HK hk; replace HB := am (hb); replace HI0 := am (hi); clear hb hk hi) | ((with_reducible refine gate_builtin (b := .append) (xs := #[.tmp 15, .tmp 22]) rfl ?_); at_builtin; refine Kd.R_append (Kd.int .i64) w.heap.size rfl (.tmp 15) (.tmp 22) 22 3 (.int .i64 0) 8 rfl Try.underlying22 info3 rfl (by decide) (by omega) u5 x5_1 t162 [.int .i64 t162] (fun k_ => some k_ ≠ (.slice Ao13 y159.length co13 : Value).ownBlock) (fun _ => False) rfl rfl ?aP (fun _ hk => hk.elim) ?aF ?aO (Below.refl _ _) ?aS ?aL ?_; (case aP => exact rfl); (case aF => exact (fun k_ hk => Kd.fresh' (Kd.R_lt (fR HO161)) k_ hk)); (case aO => exact (mR HO_5 (fun _ h => h.2))); (case aS => exact (keep_size (w := w) (g := g) (row := none) (fK HK))); (case aL => have := LMc9.out; omega); intro v166 w15 ho hb hg hat; rw [← Ny165.out] at ho; replace BK152 := am (blk_grown (g := gb152) (o := .cells #[.int .i64 0, .slice none 0 0] 27 (0, 0)) (fb BK152) hg (Kd.R_ne HO_5.out BK152.out (by decide))); replace HI0 := am (IsS90.grown (fI HI0) hg (IsS90.own_ne HI0.out HO_5.out (by decide))); replace HO161 := am (Kd.R_after (ok := (fun _ => True)) (fR HO161) hg hat); replace HB := am (below_weaken (fB HB) HL.out hb); replace HK := am (KeepBut.trans (fK HK) (KeepBut.of_grown hg g) (Kd.R_base2 HO_5.out)); have HO167 := am (ho); clear HO_5; clear ho hb hg hat))
     go_roundg k1
     case measure => have := HK1.out; omega
     case rel => exact ⟨(y165), (wrap64 (x6_1 + 1)), (t163), (t164), (rs), H', ⟨by have := HK1.out; omega⟩, ⟨mR HO167 (fun _ h => trivial)⟩, ⟨fb BK152⟩, ⟨fI HI0⟩, ⟨fK HK⟩, ⟨fB HB⟩⟩
    ·
     rw [if_neg c9] at H
     exact absurd H (by simp)
   ·
    rw [if_neg c6] at H
    have c6b0 : decide (x6_1 < a1) = false := decide_eq_false c6
    clear c6
    obtain ⟨y168, Ny168⟩ : ∃ y_ : List Int, Aside0 (y_ = (([1, 1, 1, 2, 3, 4, 6] : List Int))) := ⟨_, ⟨rfl⟩⟩; rw [← Ny168.out] at H
    obtain ⟨⟨t171, t172, t173⟩, A16, H⟩ := ub H; dsimp only at H
    obtain ⟨⟨t174, t175, t178⟩, A17, H⟩ := ub H; dsimp only at H
    simp only [Option.some.injEq, Prod.mk.injEq] at H
    obtain ⟨rfl, rfl, rfl, rfl⟩ := H
    go_wp2_with (first | ((with_reducible refine gate_dst (N := 27) rfl ?_); refine Kd.R_lit (Kd.int .i64) _ 3 ?hg (N := 27) ?hd (xs := ([1, 1, 1, 2, 3, 4, 6] : List Int)) (inner := [.int .i64 1, .int .i64 1, .int .i64 1, .int .i64 2, .int .i64 3, .int .i64 4, .int .i64 6]) (ok := fun _ => True) (okp := fun _ => True) ?hr ?hp (fun _ hk => hk) trivial (Below.refl _ _) (Nat.le_refl _) (by simp) ?_; (case hd => rfl); (case hg => rfl); (case hr => first | (go_simp; done) | (go_simp; rfl)); (case hp => exact (Reps.one (show Kd.M (Kd.int .i64) _ _ _ 1 [.int .i64 1] from rfl) (Reps.one (show Kd.M (Kd.int .i64) _ _ _ 1 [.int .i64 1] from rfl) (Reps.one (show Kd.M (Kd.int .i64) _ _ _ 1 [.int .i64 1] from rfl) (Reps.one (show Kd.M (Kd.int .i64) _ _ _ 2 [.int .i64 2] from rfl) (Reps.one (show Kd.M (Kd.int .i64) _ _ _ 3 [.int .i64 3] from rfl) (Reps.one (show Kd.M (Kd.int .i64) _ _ _ 4 [.int .i64 4] from rfl) (Reps.one (show Kd.M (Kd.int .i64) _ _ _ 6 [.int .i64 6] from rfl) (Reps.none _ _))))))))); intro v169 w18 ho19 hb hg_ hnew_; clear hg_ hnew_; (first | rw [← Ny168.out] at ho19 | (simp only [Int.reduceToNat] at ho19; rw [← Ny168.out] at ho19)); have HO170 := am (Kd.R_lower (Kd.R_new' ho19 (Kd.R_lt (fR HO_5))) (keep_size (w := w) (g := g) (row := none) (fK HK))); replace HO_5 := eR HO_5 ho19 hb; replace BK152 := kB BK152 hb; replace HI0 := IB HI0 hb; replace HK := KB HK hb; replace HB := sB HB hb; clear hb ho19; obtain ⟨Ao20, co20, eo20⟩ := Kd.R_slice HO170.out; subst eo20) | (refine cl 59 (some 28) Try.func59 #[.pointer (some ⟨g, 0, none⟩), .slice Ao20 y168.length co20] ?_; (with_reducible refine (spec_l01PickInt.calls g s0_0 x1001_1 x1002_1 _ _ y168 t171 t172 t173 w0 _ ?side1 ?side2 ?side3 ?side4 ?side5 A16.out).mono ?_); (case side1 => exact fI HI0); (case side2 => exact fB HB); (case side3 => repeat (first | exact (Kd.R_reads' HO170.out).2.2 | (with_reducible refine Kd.C_alloc ?_ _) | (with_reducible refine Kd.C_drewN ?_ _) | (with_reducible refine Kd.C_drew ?_))); (case side4 => exact (Kd.R_reads' HO170.out).2.1); (case side5 => exact far_slice (IsS90.own_ne HI0.out HO170.out (by decide))); rintro e w21 ⟨rfl, hi, hb, hk⟩; refine ⟨_, rfl, ?_⟩; replace HO_5 := kR HI0 HO_5 hk; replace BK152 := kK BK152 hk NB152_0; replace HO170 := kR HI0 HO170 hk; replace HK := Kk HK hk; replace HB := am (hb); replace HI0 := am (hi); clear hb hk hi; obtain ⟨Ao22, co22, eo22⟩ := Kd.R_slice HO_5.out; subst eo22) | (refine cl 47 (some 29) Try.func47 #[.slice Ao22 x5_1.length co22, .int .i64 t171] ?_; (with_reducible refine (spec_l04Make.calls k1 _ _ x5_1 t171 t174 t175 t178 _ ?side1 ?side2 A17.out).mono ?_); (case side1 => repeat (first | exact (Kd.R_reads' HO_5.out).2.2 | (with_reducible refine Kd.C_alloc ?_ _) | (with_reducible refine Kd.C_drewN ?_ _) | (with_reducible refine Kd.C_drew ?_))); (case side2 => exact (Kd.R_reads' HO_5.out).2.1); rintro e w23 ⟨v176, rfl, ho0, hb⟩; refine ⟨_, rfl, ?_⟩; have HO177 := am (Kd.R_lower (Kd.R_new' (Kd.R_new' ho0 (Kd.R_lt (fR HO_5))) (Kd.R_lt (fR HO170))) (keep_size (w := w) (g := g) (row := none) (fK HK))); replace HO_5 := eR HO_5 ho0 hb; replace HO170 := eR HO170 ho0 hb; replace BK152 := kB BK152 hb; replace HI0 := IB HI0 hb; replace HK := KB HK hb; replace HB := sB HB hb; clear hb ho0) | (refine bx 7 #[.int .i64 0, .slice none 0 0] 27 ?_; intro gb179 hg w24 hbox hb; replace HO_5 := RB HO_5 hb; replace HO170 := RB HO170 hb; replace HO177 := RB HO177 hb; replace HB := sB HB hb; have BK179 := am (hbox); have GW179 := zK HK hg; have GE179 := zW HW0 (zK HK hg); replace HK := KB HK hb; obtain ⟨NB152_179, NB179_152⟩ := nB BK152 hg; replace BK152 := kB BK152 hb; obtain ⟨NB0_179, NB179_0⟩ := nI HI0 hg; replace HI0 := IB HI0 hb; clear hb hbox hg; have hnb25 := NB179_152.out; have hnc25 := NB152_179.out; have hnb26 := NB179_0.out; have hnc26 := NB0_179.out; obtain ⟨hcz27_0, hcz27_1, hfz27_0, hfz27_1⟩ := cz2 BK179; obtain ⟨Ao28, co28, eo28⟩ := Kd.R_slice HO177.out; subst eo28; have hnb29 := NB152_0.out; have hnc29 := NB0_152.out; obtain ⟨hcz30_0, hcz30_1, hfz30_0, hfz30_1⟩ := cz2 BK152))
    refine bodyPost_ret (results_cell_row rfl _ _ gb152 27 #[.int .i64 t174, .slice Ao28 t175.length co28] (0, 0) _ rfl (fP BK152) Try.underlying27 rfl (by kernel_rfl)) rfl ?_
    exact ⟨_, rz, tR2 HO177 BK179 BK152 (fun _ h => trivial), fI HI0, fB HB, fK HK⟩

/-! ### spec_l04Any: function 57 -/
def spec_l04Any.T7 : Bool × List (List Nat × List Nat) := (true, [([], []), ([0], [0]), ([], []), ([], []), ([3], [3]), ([4], [4]), ([2, 5], [2, 5]), ([], []), ([], []), ([7, 8, 6], [7, 8]), ([1, 6, 0, 1, 2, 3, 4, 5, 6, 7, 8, 9], [1, 6]), ([10, 9, 9, 0, 1, 2, 3, 4, 5, 6, 7, 8, 9], [9, 10])])
def spec_l04Any.B7 : List Nat := [0, 1, 0, 0, 8, 24, 60, 0, 0, 508, 1023, 2047]
theorem spec_l04Any.tab7 : rtab .any (opsOf Try.f57 7) = spec_l04Any.T7 := by kernel_rfl
theorem spec_l04Any.bits7 : waitsOk spec_l04Any.T7.2 spec_l04Any.B7 = true := by kernel_rfl
set_option maxHeartbeats 8000000 in
set_option maxRecDepth 100000 in
theorem spec_l04Any.calls (k : Nat) (g : Nat) (s0_0 : List Int) (s0_1 : Int) (s0_2 : Int) (a1 : Int) (r1 : Int) (r2 : List Int) (r3 : Int) (r4 : Int) (w0 w : World) (hI : IsS90 w0 w g s0_0 s0_1 s0_2) (hB : Below w0.heap.size w0 w) (h : spec_l04Any.f k s0_0 s0_1 s0_2 a1 = some (r1, r2, r3, r4)) :
  Calls Try.prog 57 #[.pointer (some ⟨g, 0, none⟩), .int .i64 a1] w fun e w' => ∃ v1_ : Value, e = .returned (.agg #[.int .i64 r1, v1_]) ∧ Kd.R (Kd.int .i64) 3 w' w.heap.size (fun _ => True) v1_ r2 ∧ IsS90 w0 w' g s0_0 r3 r4 ∧ Below w0.heap.size w0 w' ∧ KeepBut w w' g none := by
 have hu27 := Try.underlying27
 have HI0 := am hI
 have HK := am (KeepBut.refl w g none)
 have HL := am hB.size
 clear hI
 have HW0 := am hB.size
 have HB := am hB
 clear hB
 have H : ((spec_l04Some.f k s0_0 s0_1 s0_2 a1).bind fun bt181 => ((spec_l01Below.f s0_0 bt181.2.2.1 bt181.2.2.2 20).bind fun bt188 => (if bt188.1 = 0 then ((spec_l01PickInt.f s0_0 bt188.2.1 bt188.2.2 (([0, (-1), 720, 721, 2] : List Int))).bind fun bt194 => (some (bt194.1, bt181.2.1, bt194.2.1, bt194.2.2))) else (if bt188.1 = 1 then (if (bt181.2.1.length : Int) > 0 then ((spec_l01Below.f s0_0 bt188.2.1 bt188.2.2 (bt181.2.1.length : Int)).bind fun bt197 => ((spec_l01PickInt.f s0_0 bt197.2.1 bt197.2.2 (([100000, (-100000), 100001, (-100001), 99999] : List Int))).bind fun bt203 => (if 0 ≤ bt197.1 then (if bt197.1 < (bt181.2.1.length : Int) then (some (bt181.1, (bt181.2.1.set (bt197.1 : Int).toNat bt203.1), bt203.2.1, bt203.2.2)) else (none)) else (none)))) else (some (bt181.1, bt181.2.1, bt188.2.1, bt188.2.2))) else (if bt188.1 = 2 then (some (0, ([] : List Int), bt188.2.1, bt188.2.2)) else (if bt188.1 = 3 then ((spec_l01PickInt.f s0_0 bt188.2.1 bt188.2.2 (([719, 720, 360, 1] : List Int))).bind fun bt210 => (some (bt210.1, bt181.2.1, bt210.2.1, bt210.2.2))) else (some (bt181.1, bt181.2.1, bt188.2.1, bt188.2.2)))))))) = some (r1, r2, r3, r4) := h
 clear h
 obtain ⟨⟨t181, t182, t185, t186⟩, A3, H⟩ := ub H; dsimp only at H
 obtain ⟨⟨t188, t189, t190⟩, A4, H⟩ := ub H; dsimp only at H
 by_cases c5 : t188 = 0
 ·
  rw [if_pos c5] at H
  obtain ⟨c5b0, c5b1⟩ := bqt c5
  clear c5
  obtain ⟨y191, Ny191⟩ : ∃ y_ : List Int, Aside0 (y_ = (([0, (-1), 720, 721, 2] : List Int))) := ⟨_, ⟨rfl⟩⟩; rw [← Ny191.out] at H
  obtain ⟨⟨t194, t195, t196⟩, A6, H⟩ := ub H; dsimp only at H
  simp only [Option.some.injEq, Prod.mk.injEq] at H
  obtain ⟨rfl, rfl, rfl, rfl⟩ := H
  go_enter Try.func57, Try.ntmps57
  go_wp2_with (first | (refine bx 4 #[.int .i64 0, .slice none 0 0] 27 ?_; intro gb180 hg w7 hbox hb; replace HB := sB HB hb; have BK180 := am (hbox); have GW180 := zK HK hg; have GE180 := zW HW0 (zK HK hg); replace HK := KB HK hb; obtain ⟨NB0_180, NB180_0⟩ := nI HI0 hg; replace HI0 := IB HI0 hb; clear hb hbox hg) | (refine cl 73 (some 8) Try.func73 #[.pointer (some ⟨g, 0, none⟩), .int .i64 a1] ?_; (with_reducible refine (spec_l04Some.calls k g s0_0 s0_1 s0_2 a1 t181 t182 t185 t186 w0 _ ?side1 ?side2 A3.out).mono ?_); (case side1 => exact fI HI0); (case side2 => exact fB HB); rintro e w8 ⟨v183, rfl, ho0, hi, hb, hk⟩; refine ⟨_, rfl, ?_⟩; replace BK180 := kK BK180 hk NB180_0; have HO184 := loK ho0 HK; replace HK := Kk HK hk; replace HB := am (hb); replace HI0 := am (hi); clear hb hk hi ho0) | (refine bx 5 #[.int .i64 0, .slice none 0 0] 27 ?_; intro gb187 hg w9 hbox hb; replace HO184 := RB HO184 hb; replace HB := sB HB hb; have BK187 := am (hbox); have GW187 := zK HK hg; have GE187 := zW HW0 (zK HK hg); replace HK := KB HK hb; obtain ⟨NB180_187, NB187_180⟩ := nB BK180 hg; replace BK180 := kB BK180 hb; obtain ⟨NB0_187, NB187_0⟩ := nI HI0 hg; replace HI0 := IB HI0 hb; clear hb hbox hg; have hnb10 := NB187_180.out; have hnc10 := NB180_187.out; have hnb11 := NB187_0.out; have hnc11 := NB0_187.out; obtain ⟨hcz12_0, hcz12_1, hfz12_0, hfz12_1⟩ := cz2 BK187; obtain ⟨Ao13, co13, eo13⟩ := Kd.R_slice HO184.out; subst eo13) | (refine cl 56 (some 10) Try.func56 #[.pointer (some ⟨g, 0, none⟩), .int .i64 20] ?_; (with_reducible refine (spec_l01Below.calls g s0_0 t185 t186 20 t188 t189 t190 w0 _ ?side1 ?side2 A4.out).mono ?_); (case side1 => exact fI HI0); (case side2 => exact fB HB); rintro e w14 ⟨rfl, hi, hb, hk⟩; refine ⟨_, rfl, ?_⟩; replace BK180 := kK BK180 hk NB180_0; replace HO184 := kX HI0 (tR1 HO184 BK187 (fun _ h => h.1)) hk; replace BK187 := am (KeepBut.blk hk (g' := gb187) (o := .cells #[.int .i64 t181, .slice Ao13 t182.length co13] 27 (0, 0)) (fP BK187) NB187_0.out (by simp)); replace HK := Kk HK hk; replace HB := am (hb); replace HI0 := am (hi); clear hb hk hi) | ((with_reducible refine gate_dst (N := 14) rfl ?_); refine Kd.R_lit (Kd.int .i64) _ 3 ?hg (N := 14) ?hd (xs := ([0, (-1), 720, 721, 2] : List Int)) (inner := [.int .i64 0, .int .i64 (-1), .int .i64 720, .int .i64 721, .int .i64 2]) (ok := fun _ => True) (okp := fun _ => True) ?hr ?hp (fun _ hk => hk) trivial (Below.refl _ _) (Nat.le_refl _) (by simp) ?_; (case hd => rfl); (case hg => rfl); (case hr => first | (go_simp; done) | (go_simp; rfl)); (case hp => exact (Reps.one (show Kd.M (Kd.int .i64) _ _ _ 0 [.int .i64 0] from rfl) (Reps.one (show Kd.M (Kd.int .i64) _ _ _ (-1) [.int .i64 (-1)] from rfl) (Reps.one (show Kd.M (Kd.int .i64) _ _ _ 720 [.int .i64 720] from rfl) (Reps.one (show Kd.M (Kd.int .i64) _ _ _ 721 [.int .i64 721] from rfl) (Reps.one (show Kd.M (Kd.int .i64) _ _ _ 2 [.int .i64 2] from rfl) (Reps.none _ _))))))); intro v192 w15 ho16 hb hg_ hnew_; clear hg_ hnew_; (first | rw [← Ny191.out] at ho16 | (simp only [Int.reduceToNat] at ho16; rw [← Ny191.out] at ho16)); have HO193 := am (Kd.R_lower (Kd.R_new' ho16 (Kd.R_lt (fR HO184))) (keep_size (w := w) (g := g) (row := none) (fK HK))); replace HO184 := eR HO184 ho16 hb; replace HI0 := IB HI0 hb; replace BK180 := kB BK180 hb; replace BK187 := kB BK187 hb; replace HK := KB HK hb; replace HB := sB HB hb; clear hb ho16; obtain ⟨Ao17, co17, eo17⟩ := Kd.R_slice HO193.out; subst eo17) | (refine cl 59 (some 15) Try.func59 #[.pointer (some ⟨g, 0, none⟩), .slice Ao17 y191.length co17] ?_; (with_reducible refine (spec_l01PickInt.calls g s0_0 t189 t190 _ _ y191 t194 t195 t196 w0 _ ?side1 ?side2 ?side3 ?side4 ?side5 A6.out).mono ?_); (case side1 => exact fI HI0); (case side2 => exact fB HB); (case side3 => repeat (first | exact (Kd.R_reads' HO193.out).2.2 | (with_reducible refine Kd.C_alloc ?_ _) | (with_reducible refine Kd.C_drewN ?_ _) | (with_reducible refine Kd.C_drew ?_))); (case side4 => exact (Kd.R_reads' HO193.out).2.1); (case side5 => exact far_slice (IsS90.own_ne HI0.out HO193.out (by decide))); rintro e w18 ⟨rfl, hi, hb, hk⟩; refine ⟨_, rfl, ?_⟩; replace BK180 := kK BK180 hk NB180_0; replace HO184 := kR HI0 HO184 hk; replace BK187 := kK BK187 hk NB187_0; replace HO193 := kR HI0 HO193 hk; replace HK := Kk HK hk; replace HB := am (hb); replace HI0 := am (hi); clear hb hk hi; obtain ⟨hcz19_0, hcz19_1, hfz19_0, hfz19_1⟩ := cz2 BK187; have hnb20 := NB180_0.out; have hnc20 := NB0_180.out; obtain ⟨hcz21_0, hcz21_1, hfz21_0, hfz21_1⟩ := cz2 BK180))
  refine bodyPost_ret (results_cell_row rfl _ _ gb180 27 #[.int .i64 t194, .slice Ao13 t182.length co13] (0, 0) _ rfl (fP BK180) Try.underlying27 rfl (by kernel_rfl)) rfl ?_
  exact ⟨_, rz, tR2 HO184 BK187 BK180 (fun _ h => trivial), fI HI0, fB HB, fK HK⟩
 ·
  rw [if_neg c5] at H
  obtain ⟨c5b0, c5b1⟩ := bqf c5
  by_cases c22 : t188 = 1
  ·
   rw [if_pos c22] at H
   obtain ⟨c22b0, c22b1⟩ := bqt c22
   clear c22
   by_cases c23 : (t182.length : Int) > 0
   ·
    rw [if_pos c23] at H
    have c23b0 : decide (0 < (t182.length : Int)) = true := decide_eq_true c23
    have c23b1 : decide (0 < t182.length) = true := decide_eq_true (by omega)
    clear c23
    obtain ⟨⟨t197, t198, t199⟩, A24, H⟩ := ub H; dsimp only at H
    obtain ⟨y200, Ny200⟩ : ∃ y_ : List Int, Aside0 (y_ = (([100000, (-100000), 100001, (-100001), 99999] : List Int))) := ⟨_, ⟨rfl⟩⟩; rw [← Ny200.out] at H
    obtain ⟨⟨t203, t204, t205⟩, A25, H⟩ := ub H; dsimp only at H
    by_cases c26 : 0 ≤ t197
    ·
     rw [if_pos c26] at H
     have c26b0 : decide (0 ≤ t197) = true := decide_eq_true c26
     clear c26
     by_cases c27 : t197 < (t182.length : Int)
     ·
      rw [if_pos c27] at H
      have c27b0 : decide (t197 < (t182.length : Int)) = true := decide_eq_true c27
      clear c27
      obtain ⟨y206, Ny206⟩ : ∃ y_ : List Int, Aside0 (y_ = (t182.set (t197 : Int).toNat t203)) := ⟨_, ⟨rfl⟩⟩; rw [← Ny206.out] at H
      simp only [Option.some.injEq, Prod.mk.injEq] at H
      obtain ⟨rfl, rfl, rfl, rfl⟩ := H
      go_enter Try.func57, Try.ntmps57
      try go_wp2_with (first | (refine bx 4 #[.int .i64 0, .slice none 0 0] 27 ?_; intro gb180 hg w29 hbox hb; replace HB := sB HB hb; have BK180 := am (hbox); have GW180 := zK HK hg; have GE180 := zW HW0 (zK HK hg); replace HK := KB HK hb; obtain ⟨NB0_180, NB180_0⟩ := nI HI0 hg; replace HI0 := IB HI0 hb; clear hb hbox hg) | (refine cl 73 (some 8) Try.func73 #[.pointer (some ⟨g, 0, none⟩), .int .i64 a1] ?_; (with_reducible refine (spec_l04Some.calls k g s0_0 s0_1 s0_2 a1 t181 t182 t185 t186 w0 _ ?side1 ?side2 A3.out).mono ?_); (case side1 => exact fI HI0); (case side2 => exact fB HB); rintro e w30 ⟨v183, rfl, ho0, hi, hb, hk⟩; refine ⟨_, rfl, ?_⟩; replace BK180 := kK BK180 hk NB180_0; have HO184 := loK ho0 HK; replace HK := Kk HK hk; replace HB := am (hb); replace HI0 := am (hi); clear hb hk hi ho0) | (refine bx 5 #[.int .i64 0, .slice none 0 0] 27 ?_; intro gb187 hg w31 hbox hb; replace HO184 := RB HO184 hb; replace HB := sB HB hb; have BK187 := am (hbox); have GW187 := zK HK hg; have GE187 := zW HW0 (zK HK hg); replace HK := KB HK hb; obtain ⟨NB180_187, NB187_180⟩ := nB BK180 hg; replace BK180 := kB BK180 hb; obtain ⟨NB0_187, NB187_0⟩ := nI HI0 hg; replace HI0 := IB HI0 hb; clear hb hbox hg; have hnb32 := NB187_180.out; have hnc32 := NB180_187.out; have hnb33 := NB187_0.out; have hnc33 := NB0_187.out; obtain ⟨hcz34_0, hcz34_1, hfz34_0, hfz34_1⟩ := cz2 BK187; obtain ⟨Ao35, co35, eo35⟩ := Kd.R_slice HO184.out; subst eo35) | (refine cl 56 (some 10) Try.func56 #[.pointer (some ⟨g, 0, none⟩), .int .i64 20] ?_; (with_reducible refine (spec_l01Below.calls g s0_0 t185 t186 20 t188 t189 t190 w0 _ ?side1 ?side2 A4.out).mono ?_); (case side1 => exact fI HI0); (case side2 => exact fB HB); rintro e w36 ⟨rfl, hi, hb, hk⟩; refine ⟨_, rfl, ?_⟩; replace BK180 := kK BK180 hk NB180_0; replace HO184 := kX HI0 (tR1 HO184 BK187 (fun _ h => h.1)) hk; replace BK187 := am (KeepBut.blk hk (g' := gb187) (o := .cells #[.int .i64 t181, .slice Ao35 t182.length co35] 27 (0, 0)) (fP BK187) NB187_0.out (by simp)); replace HK := Kk HK hk; replace HB := am (hb); replace HI0 := am (hi); clear hb hk hi; obtain ⟨hcz37_0, hcz37_1, hfz37_0, hfz37_1⟩ := cz2 BK187))
      replace HO184 := am (Kd.R_drew HO184.out); replace BK180 := am (blk_drew BK180.out); replace BK187 := am (blk_drew BK187.out); replace HI0 := am (IsS90.drew HI0.out); replace HK := am (keep_drew HK.out); replace HB := am (below_drew1 HB.out)
      refine start_ (n := 12) (S := fun w' => w'.cell? ⟨gb187, 0, none⟩ = some (.int .i64 t181) ∧ w'.cell? ⟨gb187, 1, none⟩ = some (.slice Ao35 t182.length co35)) (ds := [11]) #[false, false, false, false, false, false, false, false, false, false, false, false] (by kernel_rfl) rfl rfl (hh2 BK187) (fun hHeld => ?_); refine with_tabW spec_l04Any.tab7 spec_l04Any.bits7 (fun HT_ HW_ => ?_)
      generalize w36.drew = w38 at HO184 BK180 BK187 HI0 HK HB hHeld ⊢
      refine pu 0 (some 23) #[true, false, false, false, false, false, false, false, false, false, false, false] HT_ ?_
      refine pu 2 (some 25) #[true, false, true, false, false, false, false, false, false, false, false, false] HT_ ?_
      refine pu 3 (some 26) #[true, false, true, true, false, false, false, false, false, false, false, false] HT_ ?_
      refine pu 7 (some 30) #[true, false, true, true, false, false, false, true, false, false, false, false] HT_ ?_
      refine tk 1 (some 24) #[true, true, true, true, false, false, false, true, false, false, false, false] HT_ HW_ hHeld ?_
      refine tk 4 (some 27) #[true, true, true, true, true, false, false, true, false, false, false, false] HT_ HW_ hHeld ?_
      refine pu 5 (some 28) #[true, true, true, true, true, true, false, true, false, false, false, false] HT_ ?_
      refine join_ (σ := Value) 3 #[true, true, true, true, true, true, true, true, true, false, false, false] (fun s_ => [(29, .int .i64 t197), (31, s_)]) (fun s_ w' => (w'.cell? ⟨gb187, 0, none⟩ = some (.int .i64 t181) ∧ w'.cell? ⟨gb187, 1, none⟩ = some (.slice Ao35 t182.length co35)) ∧ (Kd.R (Kd.int .i64) 3 w' w.heap.size (fun k_ => some k_ ≠ (s_ : Value).ownBlock) (.slice Ao35 t182.length co35) t182) ∧ (Kd.R (Kd.int .i64) 3 w' w.heap.size (fun k_ => some k_ ≠ (.slice Ao35 t182.length co35 : Value).ownBlock) s_ y200) ∧ (w'.heap[gb180]? = some (.cells #[.int .i64 0, .slice none 0 0] 27 (0, 0))) ∧ (w'.heap[gb187]? = some (.cells #[.int .i64 t181, .slice Ao35 t182.length co35] 27 (0, 0))) ∧ (IsS90 w0 w' g s0_0 t198 t199) ∧ (KeepBut w w' g none) ∧ (Below w0.heap.size w0 w')) ?_ ?_
      rotate_left
      ·
       intro hCont
       refine two_ (i := 6) (j := 8) (Ni := some 29) (Nj := some 31) #[true, true, true, true, true, true, true, true, false, false, false, false] #[true, true, true, true, true, true, false, true, true, false, false, false] rfl rfl rfl rfl (two_of HT_.out (by kernel_rfl)) (by decide) (by decide) (fun K hK => ?_) (fun K hK => ?_)
       ·
        skip
        refine ge Try.func56 #[.pointer (some ⟨g, 0, none⟩), .int .i64 (t182.length : Int)] ?_
        with_reducible refine (spec_l01Below.calls g s0_0 t189 t190 (t182.length : Int) t197 t198 t199 w0 _ ?side1 ?side2 A24.out).mono ?_
        (case side1 => exact fI HI0)
        (case side2 => exact fB HB)
        rintro e w39 ⟨rfl, hi, hb, hk⟩
        refine ⟨_, rfl, ?_⟩
        replace BK180 := kK BK180 hk NB180_0; replace HO184 := kR HI0 HO184 hk; replace BK187 := kK BK187 hk NB187_0; replace HK := Kk HK hk; replace HB := am (hb); replace HI0 := am (hi)
        clear hb hk hi
        refine hK.out _ _ (hh2 BK187) (fun hHeld => ?_)
        clear hK K
        refine nm (some 29) ?_
        refine on 8 (some 31) #[true, true, true, true, true, true, true, true, true, false, false, false] HT_ (fun K hK => ?_)
        refine Kd.R_lit_step (Kd.int .i64) _ 3 ?hg (N := 31) ?hd (xs := ([100000, (-100000), 100001, (-100001), 99999] : List Int)) (inner := [.int .i64 100000, .int .i64 (-100000), .int .i64 100001, .int .i64 (-100001), .int .i64 99999]) (ok := fun _ => True) (okp := fun _ => True) ?hr ?hp (fun _ hk => hk) trivial (Below.refl _ _) (Nat.le_refl _) (by simp) ?_; (case hd => rfl); (case hg => rfl); (case hr => first | (go_simp; done) | (go_simp; rfl)); (case hp => exact (Reps.one (show Kd.M (Kd.int .i64) _ _ _ 100000 [.int .i64 100000] from rfl) (Reps.one (show Kd.M (Kd.int .i64) _ _ _ (-100000) [.int .i64 (-100000)] from rfl) (Reps.one (show Kd.M (Kd.int .i64) _ _ _ 100001 [.int .i64 100001] from rfl) (Reps.one (show Kd.M (Kd.int .i64) _ _ _ (-100001) [.int .i64 (-100001)] from rfl) (Reps.one (show Kd.M (Kd.int .i64) _ _ _ 99999 [.int .i64 99999] from rfl) (Reps.none _ _)))))))
        intro v201 w40 ho41 hb hg_ hnew_
        clear hg_ hnew_
        (first | rw [← Ny200.out] at ho41 | (simp only [Int.reduceToNat] at ho41; rw [← Ny200.out] at ho41))
        have HO202 := am (Kd.R_lower (Kd.R_new' ho41 (Kd.R_lt (fR HO184))) (keep_size (w := w) (g := g) (row := none) (fK HK))); replace HO184 := eR HO184 ho41 hb; replace HI0 := IB HI0 hb; replace BK180 := kB BK180 hb; replace BK187 := kB BK187 hb; replace HK := KB HK hb; replace HB := sB HB hb
        clear hb ho41
        refine hK.out _ _ (hh2 BK187) (fun hHeld => ?_)
        clear hK K
        refine nm (some 31) ?_
        exact norm_ (by simp only [putAll, Act.put, List.setIfInBounds_toArray, List.set_cons_zero, List.set_cons_succ]) (hCont (v201) _ ⟨hHeld, (mR HO184 (fun _ h => h.2)), (mR HO202 (fun _ h => h.2)), (fb BK180), (fb BK187), (fI HI0), (fK HK), (fB HB)⟩)
       ·
        skip
        refine Kd.R_lit_step (Kd.int .i64) _ 3 ?hg (N := 31) ?hd (xs := ([100000, (-100000), 100001, (-100001), 99999] : List Int)) (inner := [.int .i64 100000, .int .i64 (-100000), .int .i64 100001, .int .i64 (-100001), .int .i64 99999]) (ok := fun _ => True) (okp := fun _ => True) ?hr ?hp (fun _ hk => hk) trivial (Below.refl _ _) (Nat.le_refl _) (by simp) ?_; (case hd => rfl); (case hg => rfl); (case hr => first | (go_simp; done) | (go_simp; rfl)); (case hp => exact (Reps.one (show Kd.M (Kd.int .i64) _ _ _ 100000 [.int .i64 100000] from rfl) (Reps.one (show Kd.M (Kd.int .i64) _ _ _ (-100000) [.int .i64 (-100000)] from rfl) (Reps.one (show Kd.M (Kd.int .i64) _ _ _ 100001 [.int .i64 100001] from rfl) (Reps.one (show Kd.M (Kd.int .i64) _ _ _ (-100001) [.int .i64 (-100001)] from rfl) (Reps.one (show Kd.M (Kd.int .i64) _ _ _ 99999 [.int .i64 99999] from rfl) (Reps.none _ _)))))))
        intro v201 w39 ho40 hb hg_ hnew_
        clear hg_ hnew_
        (first | rw [← Ny200.out] at ho40 | (simp only [Int.reduceToNat] at ho40; rw [← Ny200.out] at ho40))
        have HO202 := am (Kd.R_lower (Kd.R_new' ho40 (Kd.R_lt (fR HO184))) (keep_size (w := w) (g := g) (row := none) (fK HK))); replace HO184 := eR HO184 ho40 hb; replace HI0 := IB HI0 hb; replace BK180 := kB BK180 hb; replace BK187 := kB BK187 hb; replace HK := KB HK hb; replace HB := sB HB hb
        clear hb ho40
        refine hK.out _ _ (hh2 BK187) (fun hHeld => ?_)
        clear hK K
        refine nm (some 31) ?_
        refine on 6 (some 29) #[true, true, true, true, true, true, true, true, true, false, false, false] HT_ (fun K hK => ?_)
        refine ge Try.func56 #[.pointer (some ⟨g, 0, none⟩), .int .i64 (t182.length : Int)] ?_
        with_reducible refine (spec_l01Below.calls g s0_0 t189 t190 (t182.length : Int) t197 t198 t199 w0 _ ?side1 ?side2 A24.out).mono ?_
        (case side1 => exact fI HI0)
        (case side2 => exact fB HB)
        rintro e w41 ⟨rfl, hi, hb, hk⟩
        refine ⟨_, rfl, ?_⟩
        replace BK180 := kK BK180 hk NB180_0; replace HO184 := kR HI0 HO184 hk; replace BK187 := kK BK187 hk NB187_0; replace HO202 := kR HI0 HO202 hk; replace HK := Kk HK hk; replace HB := am (hb); replace HI0 := am (hi)
        clear hb hk hi
        refine hK.out _ _ (hh2 BK187) (fun hHeld => ?_)
        clear hK K
        refine nm (some 29) ?_
        exact norm_ (by simp only [putAll, Act.put, List.setIfInBounds_toArray, List.set_cons_zero, List.set_cons_succ]) (hCont (v201) _ ⟨hHeld, (mR HO184 (fun _ h => h.2)), (mR HO202 (fun _ h => h.2)), (fb BK180), (fb BK187), (fI HI0), (fK HK), (fB HB)⟩)
      clear HO184 BK180 BK187 HI0 HK HB; rintro v201 w42 ⟨hHeld, HO184, HO202, BK180, BK187, HI0, HK, HB⟩; replace HO184 := am HO184; replace HO202 := am HO202; replace BK180 := am BK180; replace BK187 := am BK187; replace HI0 := am HI0; replace HK := am HK; replace HB := am HB
      obtain ⟨Ao43, co43, eo43⟩ := Kd.R_slice HO202.out
      (first | subst eo43 | (injection eo43 with f1_ f2_ f3_; have f4_ := f1_.symm; have f5_ := f3_.symm; clear f1_ f2_ f3_; subst f4_; subst f5_))
      refine nq _ ?_
      refine on 9 (some 32) #[true, true, true, true, true, true, true, true, true, true, false, false] HT_ (fun K hK => ?_)
      refine ge Try.func59 #[.pointer (some ⟨g, 0, none⟩), .slice Ao43 y200.length co43] ?_
      with_reducible refine (spec_l01PickInt.calls g s0_0 t198 t199 _ _ y200 t203 t204 t205 w0 _ ?side1 ?side2 ?side3 ?side4 ?side5 A25.out).mono ?_
      (case side1 => exact fI HI0)
      (case side2 => exact fB HB)
      (case side3 => repeat (first | exact (Kd.R_reads' HO202.out).2.2 | (with_reducible refine Kd.C_alloc ?_ _) | (with_reducible refine Kd.C_drewN ?_ _) | (with_reducible refine Kd.C_drew ?_)))
      (case side4 => exact (Kd.R_reads' HO202.out).2.1)
      (case side5 => exact far_slice (IsS90.own_ne HI0.out HO202.out (by decide)))
      rintro e w44 ⟨rfl, hi, hb, hk⟩
      refine ⟨_, rfl, ?_⟩
      replace BK180 := kK BK180 hk NB180_0; replace HO184 := kR HI0 HO184 hk; replace BK187 := kK BK187 hk NB187_0; replace HO202 := kR HI0 HO202 hk; replace HK := Kk HK hk; replace HB := am (hb); replace HI0 := am (hi)
      clear hb hk hi
      have p28 : 0 ≤ (t197 : Int) := of_decide_eq_true (ha)
      have q28 : (t197 : Int) < ((t182.length : Int) : Int) := of_decide_eq_true (ha)
      obtain ⟨go28, co28, eo28, gb28, gl28, cl28, HG28⟩ := Kd.R_form HO184.out (by omega)
      (first | cases eo28 | (injection eo28 with ea_ en_ ec_; (first | subst ea_ | (injection ea_ with ea_; subst ea_)); subst ec_; clear en_))
      have GB28 := am gb28
      have GG28 := am HG28
      clear gb28 gl28 HG28
      obtain ⟨hx28_0, hf28_0⟩ := Kd.R_celln 0 HO184.out (t197 : Int) p28 q28
      replace p28 := eq_true p28
      replace q28 := eq_true q28
      have HN0_go28 := am (show g ≠ go28 from by have h_ := IsS90.own_ne HI0.out HO184.out (by decide); intro e_; exact h_ (by rw [e_]; rfl))
      have HP45 := Kd.R_putn HO184.out (t197 : Int) t203
      rw [← Ny206.out] at HP45
      have HQ45 := am HP45
      clear HP45
      refine hK.out _ _ (hh2 BK187) (fun hHeld => ?_)
      clear hK K
      refine nm (some 32) ?_
      refine pu 10 (some 33) #[true, true, true, true, true, true, true, true, true, true, true, false] HT_ ?_
      refine last_ (i := 11) (N := none) #[true, true, true, true, true, true, true, true, true, true, true, true] rfl rfl (one_of HT_.out (by kernel_rfl)) (by decide) (fun K hK => ?_)
      refine skip_ (w1 := ?_) (by rfl) rfl ?_ ?_
      rotate_left
      ·
       go_simp
       rfl
      refine hK.out _ _ ?_
      clear hK K
      refine done_ (done_of HT_.out (by kernel_rfl)) ?_
      have n0_ : Aside0 (Kd.R (Kd.int .i64) 3 (w44.setCell ⟨go28, (t197 : Int).toNat, none⟩ (.int .i64 t203)) w.heap.size (fun k_ => some k_ ≠ (.slice Ao43 y200.length co43 : Value).ownBlock) (.slice (some ⟨go28, 0, none⟩) t182.length co35) y206) := ⟨fR HQ45⟩
      have n1_ : Aside0 (Kd.R (Kd.int .i64) 3 (w44.setCell ⟨go28, (t197 : Int).toNat, none⟩ (.int .i64 t203)) w.heap.size (fun k_ => some k_ ≠ (.slice (some ⟨go28, 0, none⟩) t182.length co35 : Value).ownBlock) (.slice Ao43 y200.length co43) y200) := ⟨by (with_reducible repeat (first | apply Kd.R_alloc | apply Kd.R_drewN | apply Kd.R_drew)); exact Kd.R_mono (Kd.R_far (p := ⟨go28, (t197 : Int).toNat, none⟩) (Kd.R_mono HO202.out (fun k_ hk => (⟨hk, fun e_ => hk (by rw [e_]; rfl)⟩ : _ ∧ k_ ≠ go28))) (fun _ hk => hk.2) (.int .i64 t203)) (fun _ hk => hk.1)⟩
      have n2_ : Aside0 ((w44.setCell ⟨go28, (t197 : Int).toNat, none⟩ (.int .i64 t203)).heap[gb180]? = some (.cells #[.int .i64 0, .slice none 0 0] 27 (0, 0))) := ⟨by (with_reducible repeat (first | refine blk_drewN ?_ _ | refine blk_drew ?_ | refine blk_alloc ?_ _)); refine blk_far ?_ (by have h_ := Kd.R_ne HO184.out BK180.out (by decide); intro e_; exact h_ (by rw [e_]; rfl)) _; (with_reducible repeat (first | refine blk_drewN ?_ _ | refine blk_drew ?_ | refine blk_alloc ?_ _)); exact BK180.out⟩
      have n3_ : Aside0 ((w44.setCell ⟨go28, (t197 : Int).toNat, none⟩ (.int .i64 t203)).heap[gb187]? = some (.cells #[.int .i64 t181, .slice (some ⟨go28, 0, none⟩) t182.length co35] 27 (0, 0))) := ⟨by (with_reducible repeat (first | refine blk_drewN ?_ _ | refine blk_drew ?_ | refine blk_alloc ?_ _)); refine blk_far ?_ (by have h_ := Kd.R_ne HO184.out BK187.out (by decide); intro e_; exact h_ (by rw [e_]; rfl)) _; (with_reducible repeat (first | refine blk_drewN ?_ _ | refine blk_drew ?_ | refine blk_alloc ?_ _)); exact BK187.out⟩
      have n4_ : Aside0 (IsS90 w0 (w44.setCell ⟨go28, (t197 : Int).toNat, none⟩ (.int .i64 t203)) g s0_0 t204 t205) := ⟨fI HI0⟩
      have n5_ : Aside0 (KeepBut w (w44.setCell ⟨go28, (t197 : Int).toNat, none⟩ (.int .i64 t203)) g none) := ⟨fK HK⟩
      have n6_ : Aside0 (Below w0.heap.size w0 (w44.setCell ⟨go28, (t197 : Int).toNat, none⟩ (.int .i64 t203))) := ⟨by repeat (first | (with_reducible first | exact HB.out | apply below_alloc | apply pw_below_drewN | apply below_drew1 | refine below_set ?_ (Nat.le_trans HL.out GB28.out) | refine below_set ?_ (IsS90.ge HI0.out) | refine below_set ?_ GE180.out | refine below_set ?_ GE187.out) | exact HB.out)⟩
      generalize (w44.setCell ⟨go28, (t197 : Int).toNat, none⟩ (.int .i64 t203)) = w46 at n0_ n1_ n2_ n3_ n4_ n5_ n6_ ⊢
      have HO184 := n0_
      have HO202 := n1_
      have BK180 := n2_
      have BK187 := n3_
      have HI0 := n4_
      have HK := n5_
      have HB := n6_
      clear n0_ n1_ n2_ n3_ n4_ n5_ n6_
      have hcz47_0 : w46.cell? ⟨gb187, 0, none⟩ = some (.int .i64 t181) := (blk_cell BK187.out 0).trans rfl
      have hcz47_1 : w46.cell? ⟨gb187, 1, none⟩ = some (.slice (some ⟨go28, 0, none⟩) t182.length co35) := (blk_cell BK187.out 1).trans rfl
      have hfz47_0 := blk_frozen BK187.out 0
      have hfz47_1 := blk_frozen BK187.out 1
      have hnb48 := NB180_0.out
      have hnc48 := NB0_180.out
      have hcz49_0 : w46.cell? ⟨gb180, 0, none⟩ = some (.int .i64 0) := (blk_cell BK180.out 0).trans rfl
      have hcz49_1 : w46.cell? ⟨gb180, 1, none⟩ = some (.slice none 0 0) := (blk_cell BK180.out 1).trans rfl
      have hfz49_0 := blk_frozen BK180.out 0
      have hfz49_1 := blk_frozen BK180.out 1
      try go_wp2
      refine bodyPost_ret (results_cell_row rfl _ _ gb180 27 #[.int .i64 t181, .slice (some ⟨go28, 0, none⟩) t182.length co35] (0, 0) _ rfl (fP BK180) Try.underlying27 rfl (by kernel_rfl)) rfl ?_
      exact ⟨_, rz, tR1 HO184 BK180 (fun _ h => trivial), fI HI0, fB HB, fK HK⟩
     ·
      rw [if_neg c27] at H
      exact absurd H (by simp)
    ·
     rw [if_neg c26] at H
     exact absurd H (by simp)
   ·
    rw [if_neg c23] at H
    have c23b0 : decide (0 < (t182.length : Int)) = false := decide_eq_false c23
    have c23b1 : decide (0 < t182.length) = false := decide_eq_false (by omega)
    clear c23
    simp only [Option.some.injEq, Prod.mk.injEq] at H
    obtain ⟨rfl, rfl, rfl, rfl⟩ := H
    go_enter Try.func57, Try.ntmps57
    go_wp2_with (first | (refine bx 4 #[.int .i64 0, .slice none 0 0] 27 ?_; intro gb180 hg w50 hbox hb; replace HB := sB HB hb; have BK180 := am (hbox); have GW180 := zK HK hg; have GE180 := zW HW0 (zK HK hg); replace HK := KB HK hb; obtain ⟨NB0_180, NB180_0⟩ := nI HI0 hg; replace HI0 := IB HI0 hb; clear hb hbox hg) | (refine cl 73 (some 8) Try.func73 #[.pointer (some ⟨g, 0, none⟩), .int .i64 a1] ?_; (with_reducible refine (spec_l04Some.calls k g s0_0 s0_1 s0_2 a1 t181 t182 t185 t186 w0 _ ?side1 ?side2 A3.out).mono ?_); (case side1 => exact fI HI0); (case side2 => exact fB HB); rintro e w51 ⟨v183, rfl, ho0, hi, hb, hk⟩; refine ⟨_, rfl, ?_⟩; replace BK180 := kK BK180 hk NB180_0; have HO184 := loK ho0 HK; replace HK := Kk HK hk; replace HB := am (hb); replace HI0 := am (hi); clear hb hk hi ho0) | (refine bx 5 #[.int .i64 0, .slice none 0 0] 27 ?_; intro gb187 hg w52 hbox hb; replace HO184 := RB HO184 hb; replace HB := sB HB hb; have BK187 := am (hbox); have GW187 := zK HK hg; have GE187 := zW HW0 (zK HK hg); replace HK := KB HK hb; obtain ⟨NB180_187, NB187_180⟩ := nB BK180 hg; replace BK180 := kB BK180 hb; obtain ⟨NB0_187, NB187_0⟩ := nI HI0 hg; replace HI0 := IB HI0 hb; clear hb hbox hg; have hnb53 := NB187_180.out; have hnc53 := NB180_187.out; have hnb54 := NB187_0.out; have hnc54 := NB0_187.out; obtain ⟨hcz55_0, hcz55_1, hfz55_0, hfz55_1⟩ := cz2 BK187; obtain ⟨Ao56, co56, eo56⟩ := Kd.R_slice HO184.out; subst eo56) | (refine cl 56 (some 10) Try.func56 #[.pointer (some ⟨g, 0, none⟩), .int .i64 20] ?_; (with_reducible refine (spec_l01Below.calls g s0_0 t185 t186 20 t188 t189 t190 w0 _ ?side1 ?side2 A4.out).mono ?_); (case side1 => exact fI HI0); (case side2 => exact fB HB); rintro e w57 ⟨rfl, hi, hb, hk⟩; refine ⟨_, rfl, ?_⟩; replace BK180 := kK BK180 hk NB180_0; replace HO184 := kX HI0 (tR1 HO184 BK187 (fun _ h => h.1)) hk; replace BK187 := am (KeepBut.blk hk (g' := gb187) (o := .cells #[.int .i64 t181, .slice Ao56 t182.length co56] 27 (0, 0)) (fP BK187) NB187_0.out (by simp)); replace HK := Kk HK hk; replace HB := am (hb); replace HI0 := am (hi); clear hb hk hi; obtain ⟨hcz58_0, hcz58_1, hfz58_0, hfz58_1⟩ := cz2 BK187; have hnb59 := NB180_0.out; have hnc59 := NB0_180.out; obtain ⟨hcz60_0, hcz60_1, hfz60_0, hfz60_1⟩ := cz2 BK180))
    refine bodyPost_ret (results_cell_row rfl _ _ gb180 27 #[.int .i64 t181, .slice Ao56 t182.length co56] (0, 0) _ rfl (fP BK180) Try.underlying27 rfl (by kernel_rfl)) rfl ?_
    exact ⟨_, rz, tR1 HO184 BK180 (fun _ h => trivial), fI HI0, fB HB, fK HK⟩
  ·
   rw [if_neg c22] at H
   obtain ⟨c22b0, c22b1⟩ := bqf c22
   by_cases c61 : t188 = 2
   ·
    rw [if_pos c61] at H
    obtain ⟨c61b0, c61b1⟩ := bqt c61
    clear c61
    simp only [Option.some.injEq, Prod.mk.injEq] at H
    obtain ⟨rfl, rfl, rfl, rfl⟩ := H
    go_enter Try.func57, Try.ntmps57
    go_wp2_with (first | (refine bx 4 #[.int .i64 0, .slice none 0 0] 27 ?_; intro gb180 hg w62 hbox hb; replace HB := sB HB hb; have BK180 := am (hbox); have GW180 := zK HK hg; have GE180 := zW HW0 (zK HK hg); replace HK := KB HK hb; obtain ⟨NB0_180, NB180_0⟩ := nI HI0 hg; replace HI0 := IB HI0 hb; clear hb hbox hg) | (refine cl 73 (some 8) Try.func73 #[.pointer (some ⟨g, 0, none⟩), .int .i64 a1] ?_; (with_reducible refine (spec_l04Some.calls k g s0_0 s0_1 s0_2 a1 t181 t182 t185 t186 w0 _ ?side1 ?side2 A3.out).mono ?_); (case side1 => exact fI HI0); (case side2 => exact fB HB); rintro e w63 ⟨v183, rfl, ho0, hi, hb, hk⟩; refine ⟨_, rfl, ?_⟩; replace BK180 := kK BK180 hk NB180_0; have HO184 := loK ho0 HK; replace HK := Kk HK hk; replace HB := am (hb); replace HI0 := am (hi); clear hb hk hi ho0) | (refine bx 5 #[.int .i64 0, .slice none 0 0] 27 ?_; intro gb187 hg w64 hbox hb; replace HO184 := RB HO184 hb; replace HB := sB HB hb; have BK187 := am (hbox); have GW187 := zK HK hg; have GE187 := zW HW0 (zK HK hg); replace HK := KB HK hb; obtain ⟨NB180_187, NB187_180⟩ := nB BK180 hg; replace BK180 := kB BK180 hb; obtain ⟨NB0_187, NB187_0⟩ := nI HI0 hg; replace HI0 := IB HI0 hb; clear hb hbox hg; have hnb65 := NB187_180.out; have hnc65 := NB180_187.out; have hnb66 := NB187_0.out; have hnc66 := NB0_187.out; obtain ⟨hcz67_0, hcz67_1, hfz67_0, hfz67_1⟩ := cz2 BK187; obtain ⟨Ao68, co68, eo68⟩ := Kd.R_slice HO184.out; subst eo68) | (refine cl 56 (some 10) Try.func56 #[.pointer (some ⟨g, 0, none⟩), .int .i64 20] ?_; (with_reducible refine (spec_l01Below.calls g s0_0 t185 t186 20 t188 t189 t190 w0 _ ?side1 ?side2 A4.out).mono ?_); (case side1 => exact fI HI0); (case side2 => exact fB HB); rintro e w69 ⟨rfl, hi, hb, hk⟩; refine ⟨_, rfl, ?_⟩; replace BK180 := kK BK180 hk NB180_0; replace HO184 := kX HI0 (tR1 HO184 BK187 (fun _ h => h.1)) hk; replace BK187 := am (KeepBut.blk hk (g' := gb187) (o := .cells #[.int .i64 t181, .slice Ao68 t182.length co68] 27 (0, 0)) (fP BK187) NB187_0.out (by simp)); replace HK := Kk HK hk; replace HB := am (hb); replace HI0 := am (hi); clear hb hk hi; have hnb70 := NB180_0.out; have hnc70 := NB0_180.out; obtain ⟨hcz71_0, hcz71_1, hfz71_0, hfz71_1⟩ := cz2 BK180))
    refine bodyPost_ret (results_cell_row rfl _ _ gb180 27 #[.int .i64 0, .slice none 0 0] (0, 0) _ rfl (fP BK180) Try.underlying27 rfl (by kernel_rfl)) rfl ?_
    exact ⟨_, rz, by first | exact Kd.R_nil _ _ _ _ _ | exact Kd.N_nil _ _ _ _ _ | exact Kd.V_nil _ _ _ _ _ | exact Kd.Q_nil _ _ _ _ _ | exact Kd.S_nil _ _ _ _ _, fI HI0, fB HB, fK HK⟩
   ·
    rw [if_neg c61] at H
    obtain ⟨c61b0, c61b1⟩ := bqf c61
    by_cases c72 : t188 = 3
    ·
     rw [if_pos c72] at H
     obtain ⟨c72b0, c72b1⟩ := bqt c72
     clear c72
     obtain ⟨y207, Ny207⟩ : ∃ y_ : List Int, Aside0 (y_ = (([719, 720, 360, 1] : List Int))) := ⟨_, ⟨rfl⟩⟩; rw [← Ny207.out] at H
     obtain ⟨⟨t210, t211, t212⟩, A73, H⟩ := ub H; dsimp only at H
     simp only [Option.some.injEq, Prod.mk.injEq] at H
     obtain ⟨rfl, rfl, rfl, rfl⟩ := H
     go_enter Try.func57, Try.ntmps57
     go_wp2_with (first | (refine bx 4 #[.int .i64 0, .slice none 0 0] 27 ?_; intro gb180 hg w74 hbox hb; replace HB := sB HB hb; have BK180 := am (hbox); have GW180 := zK HK hg; have GE180 := zW HW0 (zK HK hg); replace HK := KB HK hb; obtain ⟨NB0_180, NB180_0⟩ := nI HI0 hg; replace HI0 := IB HI0 hb; clear hb hbox hg) | (refine cl 73 (some 8) Try.func73 #[.pointer (some ⟨g, 0, none⟩), .int .i64 a1] ?_; (with_reducible refine (spec_l04Some.calls k g s0_0 s0_1 s0_2 a1 t181 t182 t185 t186 w0 _ ?side1 ?side2 A3.out).mono ?_); (case side1 => exact fI HI0); (case side2 => exact fB HB); rintro e w75 ⟨v183, rfl, ho0, hi, hb, hk⟩; refine ⟨_, rfl, ?_⟩; replace BK180 := kK BK180 hk NB180_0; have HO184 := loK ho0 HK; replace HK := Kk HK hk; replace HB := am (hb); replace HI0 := am (hi); clear hb hk hi ho0) | (refine bx 5 #[.int .i64 0, .slice none 0 0] 27 ?_; intro gb187 hg w76 hbox hb; replace HO184 := RB HO184 hb; replace HB := sB HB hb; have BK187 := am (hbox); have GW187 := zK HK hg; have GE187 := zW HW0 (zK HK hg); replace HK := KB HK hb; obtain ⟨NB180_187, NB187_180⟩ := nB BK180 hg; replace BK180 := kB BK180 hb; obtain ⟨NB0_187, NB187_0⟩ := nI HI0 hg; replace HI0 := IB HI0 hb; clear hb hbox hg; have hnb77 := NB187_180.out; have hnc77 := NB180_187.out; have hnb78 := NB187_0.out; have hnc78 := NB0_187.out; obtain ⟨hcz79_0, hcz79_1, hfz79_0, hfz79_1⟩ := cz2 BK187; obtain ⟨Ao80, co80, eo80⟩ := Kd.R_slice HO184.out; subst eo80) | (refine cl 56 (some 10) Try.func56 #[.pointer (some ⟨g, 0, none⟩), .int .i64 20] ?_; (with_reducible refine (spec_l01Below.calls g s0_0 t185 t186 20 t188 t189 t190 w0 _ ?side1 ?side2 A4.out).mono ?_); (case side1 => exact fI HI0); (case side2 => exact fB HB); rintro e w81 ⟨rfl, hi, hb, hk⟩; refine ⟨_, rfl, ?_⟩; replace BK180 := kK BK180 hk NB180_0; replace HO184 := kX HI0 (tR1 HO184 BK187 (fun _ h => h.1)) hk; replace BK187 := am (KeepBut.blk hk (g' := gb187) (o := .cells #[.int .i64 t181, .slice Ao80 t182.length co80] 27 (0, 0)) (fP BK187) NB187_0.out (by simp)); replace HK := Kk HK hk; replace HB := am (hb); replace HI0 := am (hi); clear hb hk hi) | ((with_reducible refine gate_dst (N := 40) rfl ?_); refine Kd.R_lit (Kd.int .i64) _ 3 ?hg (N := 40) ?hd (xs := ([719, 720, 360, 1] : List Int)) (inner := [.int .i64 719, .int .i64 720, .int .i64 360, .int .i64 1]) (ok := fun _ => True) (okp := fun _ => True) ?hr ?hp (fun _ hk => hk) trivial (Below.refl _ _) (Nat.le_refl _) (by simp) ?_; (case hd => rfl); (case hg => rfl); (case hr => first | (go_simp; done) | (go_simp; rfl)); (case hp => exact (Reps.one (show Kd.M (Kd.int .i64) _ _ _ 719 [.int .i64 719] from rfl) (Reps.one (show Kd.M (Kd.int .i64) _ _ _ 720 [.int .i64 720] from rfl) (Reps.one (show Kd.M (Kd.int .i64) _ _ _ 360 [.int .i64 360] from rfl) (Reps.one (show Kd.M (Kd.int .i64) _ _ _ 1 [.int .i64 1] from rfl) (Reps.none _ _)))))); intro v208 w82 ho83 hb hg_ hnew_; clear hg_ hnew_; (first | rw [← Ny207.out] at ho83 | (simp only [Int.reduceToNat] at ho83; rw [← Ny207.out] at ho83)); have HO209 := am (Kd.R_lower (Kd.R_new' ho83 (Kd.R_lt (fR HO184))) (keep_size (w := w) (g := g) (row := none) (fK HK))); replace HO184 := eR HO184 ho83 hb; replace HI0 := IB HI0 hb; replace BK180 := kB BK180 hb; replace BK187 := kB BK187 hb; replace HK := KB HK hb; replace HB := sB HB hb; clear hb ho83; obtain ⟨Ao84, co84, eo84⟩ := Kd.R_slice HO209.out; subst eo84) | (refine cl 59 (some 41) Try.func59 #[.pointer (some ⟨g, 0, none⟩), .slice Ao84 y207.length co84] ?_; (with_reducible refine (spec_l01PickInt.calls g s0_0 t189 t190 _ _ y207 t210 t211 t212 w0 _ ?side1 ?side2 ?side3 ?side4 ?side5 A73.out).mono ?_); (case side1 => exact fI HI0); (case side2 => exact fB HB); (case side3 => repeat (first | exact (Kd.R_reads' HO209.out).2.2 | (with_reducible refine Kd.C_alloc ?_ _) | (with_reducible refine Kd.C_drewN ?_ _) | (with_reducible refine Kd.C_drew ?_))); (case side4 => exact (Kd.R_reads' HO209.out).2.1); (case side5 => exact far_slice (IsS90.own_ne HI0.out HO209.out (by decide))); rintro e w85 ⟨rfl, hi, hb, hk⟩; refine ⟨_, rfl, ?_⟩; replace BK180 := kK BK180 hk NB180_0; replace HO184 := kR HI0 HO184 hk; replace BK187 := kK BK187 hk NB187_0; replace HO209 := kR HI0 HO209 hk; replace HK := Kk HK hk; replace HB := am (hb); replace HI0 := am (hi); clear hb hk hi; obtain ⟨hcz86_0, hcz86_1, hfz86_0, hfz86_1⟩ := cz2 BK187; have hnb87 := NB180_0.out; have hnc87 := NB0_180.out; obtain ⟨hcz88_0, hcz88_1, hfz88_0, hfz88_1⟩ := cz2 BK180))
     refine bodyPost_ret (results_cell_row rfl _ _ gb180 27 #[.int .i64 t210, .slice Ao80 t182.length co80] (0, 0) _ rfl (fP BK180) Try.underlying27 rfl (by kernel_rfl)) rfl ?_
     exact ⟨_, rz, tR2 HO184 BK187 BK180 (fun _ h => trivial), fI HI0, fB HB, fK HK⟩
    ·
     rw [if_neg c72] at H
     obtain ⟨c72b0, c72b1⟩ := bqf c72
     simp only [Option.some.injEq, Prod.mk.injEq] at H
     obtain ⟨rfl, rfl, rfl, rfl⟩ := H
     go_enter Try.func57, Try.ntmps57
     go_wp2_with (first | (refine bx 4 #[.int .i64 0, .slice none 0 0] 27 ?_; intro gb180 hg w89 hbox hb; replace HB := sB HB hb; have BK180 := am (hbox); have GW180 := zK HK hg; have GE180 := zW HW0 (zK HK hg); replace HK := KB HK hb; obtain ⟨NB0_180, NB180_0⟩ := nI HI0 hg; replace HI0 := IB HI0 hb; clear hb hbox hg) | (refine cl 73 (some 8) Try.func73 #[.pointer (some ⟨g, 0, none⟩), .int .i64 a1] ?_; (with_reducible refine (spec_l04Some.calls k g s0_0 s0_1 s0_2 a1 t181 t182 t185 t186 w0 _ ?side1 ?side2 A3.out).mono ?_); (case side1 => exact fI HI0); (case side2 => exact fB HB); rintro e w90 ⟨v183, rfl, ho0, hi, hb, hk⟩; refine ⟨_, rfl, ?_⟩; replace BK180 := kK BK180 hk NB180_0; have HO184 := loK ho0 HK; replace HK := Kk HK hk; replace HB := am (hb); replace HI0 := am (hi); clear hb hk hi ho0) | (refine bx 5 #[.int .i64 0, .slice none 0 0] 27 ?_; intro gb187 hg w91 hbox hb; replace HO184 := RB HO184 hb; replace HB := sB HB hb; have BK187 := am (hbox); have GW187 := zK HK hg; have GE187 := zW HW0 (zK HK hg); replace HK := KB HK hb; obtain ⟨NB180_187, NB187_180⟩ := nB BK180 hg; replace BK180 := kB BK180 hb; obtain ⟨NB0_187, NB187_0⟩ := nI HI0 hg; replace HI0 := IB HI0 hb; clear hb hbox hg; have hnb92 := NB187_180.out; have hnc92 := NB180_187.out; have hnb93 := NB187_0.out; have hnc93 := NB0_187.out; obtain ⟨hcz94_0, hcz94_1, hfz94_0, hfz94_1⟩ := cz2 BK187; obtain ⟨Ao95, co95, eo95⟩ := Kd.R_slice HO184.out; subst eo95) | (refine cl 56 (some 10) Try.func56 #[.pointer (some ⟨g, 0, none⟩), .int .i64 20] ?_; (with_reducible refine (spec_l01Below.calls g s0_0 t185 t186 20 t188 t189 t190 w0 _ ?side1 ?side2 A4.out).mono ?_); (case side1 => exact fI HI0); (case side2 => exact fB HB); rintro e w96 ⟨rfl, hi, hb, hk⟩; refine ⟨_, rfl, ?_⟩; replace BK180 := kK BK180 hk NB180_0; replace HO184 := kX HI0 (tR1 HO184 BK187 (fun _ h => h.1)) hk; replace BK187 := am (KeepBut.blk hk (g' := gb187) (o := .cells #[.int .i64 t181, .slice Ao95 t182.length co95] 27 (0, 0)) (fP BK187) NB187_0.out (by simp)); replace HK := Kk HK hk; replace HB := am (hb); replace HI0 := am (hi); clear hb hk hi; obtain ⟨hcz97_0, hcz97_1, hfz97_0, hfz97_1⟩ := cz2 BK187; have hnb98 := NB180_0.out; have hnc98 := NB0_180.out; obtain ⟨hcz99_0, hcz99_1, hfz99_0, hfz99_1⟩ := cz2 BK180))
     refine bodyPost_ret (results_cell_row rfl _ _ gb180 27 #[.int .i64 t181, .slice Ao95 t182.length co95] (0, 0) _ rfl (fP BK180) Try.underlying27 rfl (by kernel_rfl)) rfl ?_
     exact ⟨_, rz, tR1 HO184 BK180 (fun _ h => trivial), fI HI0, fB HB, fK HK⟩

/-! ### spec_l01Pick: function 65 -/
set_option maxHeartbeats 8000000 in
set_option maxRecDepth 100000 in
theorem spec_l01Pick.calls (g : Nat) (s0_0 : List Int) (s0_1 : Int) (s0_2 : Int) (A1 : Option Addr) (c1 : Nat) (l1 : List ByteArray) (r1 : ByteArray) (r2 : Int) (r3 : Int) (w0 w : World) (hI : IsS90 w0 w g s0_0 s0_1 s0_2) (hB : Below w0.heap.size w0 w) (hr1 : Kd.C Kd.string w A1 l1.length l1) (hc1 : l1.length ≤ c1) (hf1 : ∀ ad, A1 = some ad → 0 < l1.length → ad.block ≠ g) (h : spec_l01Pick.f s0_0 s0_1 s0_2 l1 = some (r1, r2, r3)) :
  Calls Try.prog 65 #[.pointer (some ⟨g, 0, none⟩), .slice A1 l1.length c1] w fun e w' => e = .returned (.string r1) ∧ IsS90 w0 w' g s0_0 r2 r3 ∧ Below w0.heap.size w0 w' ∧ KeepBut w w' g none := by
 have HR1 := am hr1
 have HC1 := am hc1
 clear hr1 hc1
 have HI0 := am hI
 have HK := am (KeepBut.refl w g none)
 have HL := am hB.size
 clear hI
 have HW0 := am hB.size
 have HB := am hB
 clear hB
 have H : ((spec_l01Below.f s0_0 s0_1 s0_2 (l1.length : Int)).bind fun bt213 => (if 0 ≤ bt213.1 then (if bt213.1 < (l1.length : Int) then (some (rdOf ByteArray.empty l1 bt213.1, bt213.2.1, bt213.2.2)) else (none)) else (none))) = some (r1, r2, r3) := h
 clear h
 obtain ⟨⟨t213, t214, t215⟩, A3, H⟩ := ub H; dsimp only at H
 by_cases c4 : 0 ≤ t213
 ·
  rw [if_pos c4] at H
  have c4b0 : decide (0 ≤ t213) = true := decide_eq_true c4
  clear c4
  by_cases c5 : t213 < (l1.length : Int)
  ·
   rw [if_pos c5] at H
   have c5b0 : decide (t213 < (l1.length : Int)) = true := decide_eq_true c5
   clear c5
   simp only [Option.some.injEq, Prod.mk.injEq] at H
   obtain ⟨rfl, rfl, rfl⟩ := H
   go_enter Try.func65, Try.ntmps65
   go_wp2_with (first | (refine cl 56 (some 9) Try.func56 #[.pointer (some ⟨g, 0, none⟩), .int .i64 (l1.length : Int)] ?_; (with_reducible refine (spec_l01Below.calls g s0_0 s0_1 s0_2 (l1.length : Int) t213 t214 t215 w0 _ ?side1 ?side2 A3.out).mono ?_); (case side1 => exact fI HI0); (case side2 => exact fB HB); rintro e w6 ⟨rfl, hi, hb, hk⟩; refine ⟨_, rfl, ?_⟩; replace HK := Kk HK hk; replace HB := am (hb); replace HI0 := am (hi); clear hb hk hi; have p216 : 0 ≤ (t213 : Int) := of_decide_eq_true (ha); have q216 : t213 < (l1.length : Int) := of_decide_eq_true (ha); obtain ⟨ad216, e216, hx216_0⟩ := Kd.at_string HR1.out t213 p216 q216; cases e216; replace hx216_0 := keep_cell HK.out hx216_0 (by first | (rw [add_block]; exact hf1 _ rfl (by omega)) | exact hf1 _ rfl (by omega) | exact hf1 ad216 rfl (by omega)); replace p216 := eq_true p216; replace q216 := eq_true q216))
   go_ret
   exact ⟨rz, fI HI0, fB HB, fK HK⟩
  ·
   rw [if_neg c5] at H
   exact absurd H (by simp)
 ·
  rw [if_neg c4] at H
  exact absurd H (by simp)

/-! ### spec_l01Once: function 58 -/
set_option maxHeartbeats 8000000 in
set_option maxRecDepth 100000 in
theorem spec_l01Once.calls (g : Nat) (s0_0 : List Int) (s0_1 : Int) (s0_2 : Int) (a1 : Int) (r1 : Bool) (r2 : Int) (r3 : Int) (w0 w : World) (hI : IsS90 w0 w g s0_0 s0_1 s0_2) (hB : Below w0.heap.size w0 w) (h : spec_l01Once.f s0_0 s0_1 s0_2 a1 = some (r1, r2, r3)) :
  Calls Try.prog 58 #[.pointer (some ⟨g, 0, none⟩), .int .i64 a1] w fun e w' => e = .returned (.bool r1) ∧ IsS90 w0 w' g s0_0 r2 r3 ∧ Below w0.heap.size w0 w' ∧ KeepBut w w' g none := by
 have HI0 := am hI
 have HK := am (KeepBut.refl w g none)
 have HL := am hB.size
 clear hI
 have HW0 := am hB.size
 have HB := am hB
 clear hB
 have H : ((spec_l01Below.f s0_0 s0_1 s0_2 a1).bind fun bt217 => (some ((bt217.1 == 0), bt217.2.1, bt217.2.2))) = some (r1, r2, r3) := h
 clear h
 obtain ⟨⟨t217, t218, t219⟩, A3, H⟩ := ub H; dsimp only at H
 simp only [Option.some.injEq, Prod.mk.injEq] at H
 obtain ⟨rfl, rfl, rfl⟩ := H
 go_enter Try.func58, Try.ntmps58
 go_wp2_with (first | (refine cl 56 (some 7) Try.func56 #[.pointer (some ⟨g, 0, none⟩), .int .i64 a1] ?_; (with_reducible refine (spec_l01Below.calls g s0_0 s0_1 s0_2 a1 t217 t218 t219 w0 _ ?side1 ?side2 A3.out).mono ?_); (case side1 => exact fI HI0); (case side2 => exact fB HB); rintro e w4 ⟨rfl, hi, hb, hk⟩; refine ⟨_, rfl, ?_⟩; replace HK := Kk HK hk; replace HB := am (hb); replace HI0 := am (hi); clear hb hk hi))
 go_ret
 exact ⟨rz, fI HI0, fB HB, fK HK⟩
end Go.Proofs.Ytjdndacollpjkaa.MFnVars
