/- Contracts of the functions that the law FnVars reaches (walks in the form of the kit's print; what it does not take by hand). -/
import Derived.Test.YtjdndacollpjkaaFvL
import Derived.Test.YtjdndacollpjkaaMFnVarsx4
namespace Go.Proofs.Ytjdndacollpjkaa.MFnVars
open Go.RowKit Go.Proofs.YtjdndacollpjkaaW.PrintWords Go.Proofs.YtjdndacollpjkaaW.PrintLast Go.Proofs.YtjdndacollpjkaaW.PrintMore
attribute [local go_sem] max2_int min2_int max_two min_two max_three min_three max_four min_four   -- for this text's walks alone
set_option linter.unusedVariables false
set_option linter.unusedSimpArgs false

/-! ### spec_l02Neg: function 93 -/
set_option maxHeartbeats 8000000 in
set_option maxRecDepth 100000 in
theorem spec_l02Neg.calls (k : Nat) (a0_0 : Bool) (A0_1 : Option Addr) (c0_1 : Nat) (l0_1 : List Int) (r1 : Bool) (r2 : List Int) (w : World) (hr0_1 : Kd.C (Kd.int .u32) w A0_1 l0_1.length l0_1) (hc0_1 : l0_1.length ≤ c0_1) (h : spec_l02Neg.f k a0_0 l0_1 = some (r1, r2)) :
  Calls Try.prog 93 #[.agg #[.bool a0_0, .slice A0_1 l0_1.length c0_1]] w fun e w' => ∃ v1_ : Value, e = .returned (.agg #[.bool r1, v1_]) ∧ Kd.R (Kd.int .u32) 119 w' w.heap.size (fun _ => True) v1_ r2 ∧ Below w.heap.size w w' := by
 have hu60 := Try.underlying60
 have HR0_1 := am hr0_1
 have HC0_1 := am hc0_1
 clear hr0_1 hc0_1
 have HB := am (Below.refl w.heap.size w)
 have H : ((spec_l02Make.f k (!a0_0) l0_1).bind fun bt358 => (some (bt358.1, bt358.2))) = some (r1, r2) := h
 clear h
 obtain ⟨⟨t358, t359⟩, A2, H⟩ := ub H; dsimp only at H
 simp only [Option.some.injEq, Prod.mk.injEq] at H
 obtain ⟨rfl, rfl⟩ := H
 go_enter Try.func93, Try.ntmps93
 go_wp2_with (first | (refine bx 1 #[.bool a0_0, .slice A0_1 l0_1.length c0_1] 60 ?_; intro gb356 hg w3 hbox hb; have BK356 := am (hbox); have GW356 := zB HB hg; have GE356 := zB HB hg; replace HB := sB HB hb; clear hb hbox hg) | (refine bx 2 #[.bool false, .slice none 0 0] 60 ?_; intro gb357 hg w4 hbox hb; have BK357 := am (hbox); have GW357 := zB HB hg; have GE357 := zB HB hg; replace HB := sB HB hb; obtain ⟨NB356_357, NB357_356⟩ := nB BK356 hg; replace BK356 := kB BK356 hb; clear hb hbox hg; have hnb5 := NB356_357.out; have hnc5 := NB357_356.out; obtain ⟨hcz6_0, hcz6_1, hfz6_0, hfz6_1⟩ := cz2 BK356) | (refine cl 101 (some 8) Try.func101 #[.bool (!a0_0), .slice A0_1 l0_1.length c0_1] ?_; (with_reducible refine (spec_l02Make.calls k (!a0_0) _ _ l0_1 t358 t359 _ ?side1 ?side2 A2.out).mono ?_); (case side1 => repeat (first | exact (Kd.C_below HR0_1.out HB.out) | (with_reducible refine Kd.C_alloc ?_ _) | (with_reducible refine Kd.C_drewN ?_ _) | (with_reducible refine Kd.C_drew ?_))); (case side2 => exact HC0_1.out); rintro e w7 ⟨v360, rfl, ho0, hb⟩; refine ⟨_, rfl, ?_⟩; have HO361 := loB ho0 HB; replace BK356 := kB BK356 hb; replace BK357 := kB BK357 hb; replace HB := sB HB hb; clear hb ho0; obtain ⟨hcz8_0, hcz8_1, hfz8_0, hfz8_1⟩ := cz2 BK357; obtain ⟨Ao9, co9, eo9⟩ := Kd.R_slice HO361.out; subst eo9))
 refine bodyPost_ret (results_cell_row rfl _ _ gb357 60 #[.bool t358, .slice Ao9 t359.length co9] (0, 0) _ rfl (fP BK357) Try.underlying60 rfl (by kernel_rfl)) rfl ?_
 exact ⟨_, rz, tR1 HO361 BK357 (fun _ h => trivial), fB HB⟩

/-! ### spec_l02Limb: function 112 -/
set_option maxHeartbeats 8000000 in
set_option maxRecDepth 100000 in
theorem spec_l02Limb.calls (A0 : Option Addr) (c0 : Nat) (l0 : List Int) (a1 : Int) (r : Int) (w : World) (hr0 : Kd.C (Kd.int .u32) w A0 l0.length l0) (hc0 : l0.length ≤ c0) (h : spec_l02Limb.f l0 a1 = some r) :
  Calls Try.prog 112 #[.slice A0 l0.length c0, .int .i64 a1] w fun e w' => e = .returned (.int .u64 r) ∧ Drawn0 w w' := by
 have HR0 := am hr0
 have HC0 := am hc0
 clear hr0 hc0
 have H : (if a1 < (l0.length : Int) then (if 0 ≤ a1 then (some (IntKind.u64.wrap (rd l0 a1))) else (none)) else (some 0)) = some r := h
 clear h
 by_cases c3 : a1 < (l0.length : Int)
 ·
  rw [if_pos c3] at H
  have c3b0 : decide (a1 < (l0.length : Int)) = true := decide_eq_true c3
  clear c3
  by_cases c4 : 0 ≤ a1
  ·
   rw [if_pos c4] at H
   have c4b0 : decide (0 ≤ a1) = true := decide_eq_true c4
   clear c4
   obtain rfl := Option.some.inj H
   have p362 : 0 ≤ (a1 : Int) := of_decide_eq_true (ha)
   have q362 : a1 < (l0.length : Int) := of_decide_eq_true (ha)
   obtain ⟨ad362, e362, hx362_0⟩ := Kd.at_int HR0.out a1 p362 q362
   cases e362
   replace p362 := eq_true p362
   replace q362 := eq_true q362
   go_enter Try.func112, Try.ntmps112
   go_wp2
   go_ret
   exact ⟨rs, d0⟩
  ·
   rw [if_neg c4] at H
   exact absurd H (by simp)
 ·
  rw [if_neg c3] at H
  have c3b0 : decide (a1 < (l0.length : Int)) = false := decide_eq_false c3
  clear c3
  obtain rfl := Option.some.inj H
  go_enter Try.func112, Try.ntmps112
  go_wp2
  go_ret
  exact ⟨rs, d0⟩

/-! ### spec_l02Plus: function 108 -/
set_option maxHeartbeats 8000000 in
set_option maxRecDepth 100000 in
theorem spec_l02Plus.calls (k : Nat) (A0 : Option Addr) (c0 : Nat) (l0 : List Int) (A1 : Option Addr) (c1 : Nat) (l1 : List Int) (r : List Int) (w : World) (hr0 : Kd.C (Kd.int .u32) w A0 l0.length l0) (hc0 : l0.length ≤ c0) (hr1 : Kd.C (Kd.int .u32) w A1 l1.length l1) (hc1 : l1.length ≤ c1) (h : spec_l02Plus.f k l0 l1 = some r) :
  Calls Try.prog 108 #[.slice A0 l0.length c0, .slice A1 l1.length c1] w fun e w' => ∃ v0_ : Value, e = .returned (v0_) ∧ Kd.R (Kd.int .u32) 119 w' w.heap.size (fun _ => True) v0_ r ∧ Below w.heap.size w w' := by
 have HR0 := am hr0
 have HC0 := am hc0
 clear hr0 hc0
 have HR1 := am hr1
 have HC1 := am hc1
 clear hr1 hc1
 have HB := am (Below.refl w.heap.size w)
 have H : (spec_l02Plus.l0 k l0 l1 (([] : List Int)) 0 0) = some r := h
 clear h
 obtain ⟨y363, Ny363⟩ : ∃ y_ : List Int, Aside0 (y_ = (([] : List Int))) := ⟨_, ⟨rfl⟩⟩; rw [← Ny363.out] at H
 have H' := am H
 clear H
 go_enter Try.func108, Try.ntmps108
 go_wp2_with (first | ((with_reducible refine gate_dst (N := 9) rfl ?_); (try (refine gate_guard (by rfl) ?_; dsimp only)); refine Kd.R_lit (Kd.int .u32) _ 119 ?hg (N := 9) ?hd (xs := ([] : List Int)) (inner := []) (ok := fun _ => True) (okp := fun _ => True) ?hr ?hp (fun _ hk => hk) trivial (Below.refl _ _) (Nat.le_refl _) (by simp) ?_; (case hd => rfl); (case hg => rfl); (case hr => first | (go_simp; done) | (go_simp; rfl)); (case hp => exact (Reps.none _ _)); intro v364 w3 ho4 hb hg_ hnew_; clear hg_ hnew_; (first | rw [← Ny363.out] at ho4 | (simp only [Int.reduceToNat] at ho4; rw [← Ny363.out] at ho4)); have HO365 := loB ho4 HB; replace HB := sB HB hb; clear hb ho4))
 go_loopg [5, 6, 7] k (fun kq v5 v6 v7 w' => ∃ (x5_1 : List Int) (x6_1 : Int) (x7_1 : Int), v6 = .int .u64 x6_1 ∧ v7 = .int .i64 x7_1 ∧ Aside0 (spec_l02Plus.l0 kq l0 l1 x5_1 x6_1 x7_1 = some r) ∧ Aside0 (kq ≤ k) ∧ Aside0 (Kd.R (Kd.int .u32) 119 w' w.heap.size (fun _ => True) v5 x5_1) ∧ Aside0 (Below w.heap.size w w'))
 case atStart => exact ⟨(y363), (0), (0), (rs), (rs), H', ⟨Nat.le_refl _⟩, ⟨fR HO365⟩, ⟨fB HB⟩⟩
 case round =>
  clear H'
  try clear c1
  try clear p2
  obtain ⟨x5_1, x6_1, x7_1, rfl, rfl, HA, HK1, HO_5, HB⟩ := hrel
  cases gk with
  | zero => exact absurd HA.out (by simp [spec_l02Plus.l0])
  | succ k1 =>
   have H := HA.out
   clear HA
   simp only [spec_l02Plus.l0] at H
   have HC5 := am H
   clear H
   go_upto_region 4 with (fail)
   go_cut [19] (fun v19 wc => ∃ (kq : Nat) (x19_4 : Bool), v19 = .bool x19_4 ∧ Aside0 (spec_l02Plus.j1 kq l0 l1 x5_1 x6_1 x7_1 x19_4 = some r) ∧ Aside0 (kq ≤ k1) ∧ Aside0 (Kd.R (Kd.int .u32) 119 wc w.heap.size (fun _ => True) u5 x5_1) ∧ Aside0 (Below w.heap.size w wc))
   case first =>
    have H := HC5.out
    clear HC5
    by_cases c6 : x7_1 < (l0.length : Int)
    ·
     rw [if_pos c6] at H
     have c6b0 : decide (x7_1 < (l0.length : Int)) = true := decide_eq_true c6
     clear c6
     (first | rw [c6b0] | (simp only [i64_w, i32_w]; rw [c6b0]) | skip)
     have H' := am H
     clear H
     go_wp2
     go_meet
     case rel => exact ⟨_, (true), (rs), H', ⟨by have := HK1.out; first | omega | exact Nat.le_refl _⟩, ⟨fR HO_5⟩, ⟨fB HB⟩⟩
    ·
     rw [if_neg c6] at H
     have c6b0 : decide (x7_1 < (l0.length : Int)) = false := decide_eq_false c6
     clear c6
     (first | rw [c6b0] | (simp only [i64_w, i32_w]; rw [c6b0]) | skip)
     have H' := am H
     clear H
     go_wp2
     go_meet
     case rel => exact ⟨_, (decide (x7_1 < (l1.length : Int))), (rs), H', ⟨by have := HK1.out; first | omega | exact Nat.le_refl _⟩, ⟨fR HO_5⟩, ⟨fB HB⟩⟩
   case rest =>
    clear HC5
    try clear c1
    try clear p2
    try clear c6
    try clear c6b0
    try clear p2
    obtain ⟨kq, x19_4, rfl, HA, HJ4, HO_5, HB⟩ := hcut
    cases kq with
    | zero => exact absurd HA.out (by simp [spec_l02Plus.j1])
    | succ kj4 =>
     have H := HA.out
     clear HA
     simp only [spec_l02Plus.j1] at H
     by_cases c7 : x19_4 = true
     ·
      subst c7
      have H1 : ((spec_l02Limb.f l0 x7_1).bind fun t366 => ((spec_l02Limb.f l1 x7_1).bind fun t367 => (if x5_1.length < 35184372088832 then (spec_l02Plus.l0 kj4 l0 l1 (x5_1 ++ [(Go.bits .and .u64 (IntKind.u64.wrap ((IntKind.u64.wrap (t366 + t367)) + x6_1)) 4294967295) % 4294967296]) ((IntKind.u64.wrap ((IntKind.u64.wrap (t366 + t367)) + x6_1)) / 4294967296) (wrap64 (x7_1 + 1))) else (none)))) = some r := by rw [if_pos rfl] at H; exact H
      clear H
      have H := H1
      clear H1
      obtain ⟨t366, A8, H⟩ := ub H; try dsimp only at H
      obtain ⟨t367, A9, H⟩ := ub H; try dsimp only at H
      by_cases c10 : x5_1.length < 35184372088832
      ·
       rw [if_pos c10] at H
       have LMc10 := am c10
       clear c10
       obtain ⟨y368, Ny368⟩ : ∃ y_ : List Int, Aside0 (y_ = (x5_1 ++ [(Go.bits .and .u64 (IntKind.u64.wrap ((IntKind.u64.wrap (t366 + t367)) + x6_1)) 4294967295) % 4294967296])) := ⟨_, ⟨rfl⟩⟩; rw [← Ny368.out] at H
       have H' := am H
       clear H
       go_wp2_with (first | (refine cl 112 (some 24) Try.func112 #[.slice A0 l0.length c0, .int .i64 x7_1] ?_; (with_reducible refine (spec_l02Limb.calls _ _ l0 x7_1 t366 _ ?side1 ?side2 A8.out).mono ?_); (case side1 => repeat (first | exact (Kd.C_below HR0.out HB.out) | (with_reducible refine Kd.C_alloc ?_ _) | (with_reducible refine Kd.C_drewN ?_ _) | (with_reducible refine Kd.C_drew ?_))); (case side2 => exact HC0.out); rintro e w' ⟨rfl, ⟨nd, rfl⟩⟩; refine ⟨_, rfl, ?_⟩) | (refine cl 112 (some 27) Try.func112 #[.slice A1 l1.length c1, .int .i64 x7_1] ?_; (with_reducible refine (spec_l02Limb.calls _ _ l1 x7_1 t367 _ ?side1 ?side2 A9.out).mono ?_); (case side1 => repeat (first | exact (Kd.C_below HR1.out (fB HB)) | (with_reducible refine Kd.C_alloc ?_ _) | (with_reducible refine Kd.C_drewN ?_ _) | (with_reducible refine Kd.C_drew ?_))); (case side2 => exact HC1.out); rintro e w' ⟨rfl, ⟨nd, rfl⟩⟩; refine ⟨_, rfl, ?_⟩) | ((with_reducible refine gate_builtin (b := .append) (xs := #[.tmp 31, .tmp 35]) rfl ?_); (try (refine gate_guard (by rfl) ?_; dsimp only)); at_builtin; refine Kd.R_append (Kd.int .u32) (w0 := w) w.heap.size rfl (.tmp 31) (.tmp 35) 58 119 (.int .u32 0) 4 rfl Try.underlying58 info119 rfl (by decide) (by omega) u5 x5_1 ((Go.bits .and .u64 (IntKind.u64.wrap ((IntKind.u64.wrap (t366 + t367)) + x6_1)) 4294967295) % 4294967296) [.int .u32 ((Go.bits .and .u64 (IntKind.u64.wrap ((IntKind.u64.wrap (t366 + t367)) + x6_1)) 4294967295) % 4294967296)] (fun _ => True) (fun _ => False) rfl rfl ?aP (fun _ hk => hk.elim) ?aF ?aO ?aB ?aS ?aL ?_; (case aP => exact rfl); (case aB => exact (fB HB)); (case aF => exact (fun _ _ => trivial)); (case aO => exact (fR HO_5)); (case aS => exact (below_size (fB HB))); (case aL => have := LMc10.out; omega); intro v369 w11 ho hb hg hat; rw [← Ny368.out] at ho; replace HB := am (hb); have HO370 := am (ho); clear HO_5; clear ho hb hg hat))
       go_roundg kj4
       case measure => have := HK1.out; have := HJ4.out; omega
       case rel => exact ⟨(y368), ((IntKind.u64.wrap ((IntKind.u64.wrap (t366 + t367)) + x6_1)) / 4294967296), (wrap64 (x7_1 + 1)), (rs), (rs), H', ⟨by have := HK1.out; have := HJ4.out; omega⟩, ⟨fR HO370⟩, ⟨fB HB⟩⟩
      ·
       rw [if_neg c10] at H
       exact absurd H (by simp)
     ·
      replace c7 := Bool.eq_false_iff.mpr c7
      subst c7
      have H1 : (if x5_1.length < 35184372088832 then (some (x5_1 ++ [(x6_1) % 4294967296])) else (none)) = some r := by rw [if_neg (show ¬ (false = true) by decide)] at H; exact H
      clear H
      have H := H1
      clear H1
      by_cases c12 : x5_1.length < 35184372088832
      ·
       rw [if_pos c12] at H
       have LMc12 := am c12
       clear c12
       obtain ⟨y371, Ny371⟩ : ∃ y_ : List Int, Aside0 (y_ = (x5_1 ++ [(x6_1) % 4294967296])) := ⟨_, ⟨rfl⟩⟩; rw [← Ny371.out] at H
       obtain rfl := Option.some.inj H
       go_wp2_with (first | ((with_reducible refine gate_builtin (b := .append) (xs := #[.tmp 39, .tmp 42]) rfl ?_); (try (refine gate_guard (by rfl) ?_; dsimp only)); at_builtin; refine Kd.R_append (Kd.int .u32) (w0 := w) w.heap.size rfl (.tmp 39) (.tmp 42) 58 119 (.int .u32 0) 4 rfl Try.underlying58 info119 rfl (by decide) (by omega) u5 x5_1 ((x6_1) % 4294967296) [.int .u32 ((x6_1) % 4294967296)] (fun _ => True) (fun _ => False) rfl rfl ?aP (fun _ hk => hk.elim) ?aF ?aO ?aB ?aS ?aL ?_; (case aP => exact rfl); (case aB => exact (fB HB)); (case aF => exact (fun _ _ => trivial)); (case aO => exact (fR HO_5)); (case aS => exact (below_size (fB HB))); (case aL => have := LMc12.out; omega); intro v372 w13 ho hb hg hat; rw [← Ny371.out] at ho; replace HB := am (hb); have HO373 := am (ho); clear HO_5; clear ho hb hg hat))
       go_ret
       exact ⟨_, rz, fR HO373, fB HB⟩
      ·
       rw [if_neg c12] at H
       exact absurd H (by simp)

/-! ### spec_l02Less: function 110 -/
set_option maxHeartbeats 8000000 in
set_option maxRecDepth 100000 in
theorem spec_l02Less.calls (k : Nat) (A0 : Option Addr) (c0 : Nat) (l0 : List Int) (A1 : Option Addr) (c1 : Nat) (l1 : List Int) (r : List Int) (w : World) (hr0 : Kd.C (Kd.int .u32) w A0 l0.length l0) (hc0 : l0.length ≤ c0) (hr1 : Kd.C (Kd.int .u32) w A1 l1.length l1) (hc1 : l1.length ≤ c1) (h : spec_l02Less.f k l0 l1 = some r) :
  Calls Try.prog 110 #[.slice A0 l0.length c0, .slice A1 l1.length c1] w fun e w' => ∃ v0_ : Value, e = .returned (v0_) ∧ Kd.R (Kd.int .u32) 119 w' w.heap.size (fun _ => True) v0_ r ∧ Below w.heap.size w w' := by
 have HR0 := am hr0
 have HC0 := am hc0
 clear hr0 hc0
 have HR1 := am hr1
 have HC1 := am hc1
 clear hr1 hc1
 have HB := am (Below.refl w.heap.size w)
 have H : (spec_l02Less.l0 k l0 l1 (([] : List Int)) 0 0) = some r := h
 clear h
 obtain ⟨y374, Ny374⟩ : ∃ y_ : List Int, Aside0 (y_ = (([] : List Int))) := ⟨_, ⟨rfl⟩⟩; rw [← Ny374.out] at H
 have H' := am H
 clear H
 go_enter Try.func110, Try.ntmps110
 go_wp2_with (first | ((with_reducible refine gate_dst (N := 9) rfl ?_); refine Kd.R_lit (Kd.int .u32) _ 119 ?hg (N := 9) ?hd (xs := ([] : List Int)) (inner := []) (ok := fun _ => True) (okp := fun _ => True) ?hr ?hp (fun _ hk => hk) trivial (Below.refl _ _) (Nat.le_refl _) (by simp) ?_; (case hd => rfl); (case hg => rfl); (case hr => first | (go_simp; done) | (go_simp; rfl)); (case hp => exact (Reps.none _ _)); intro v375 w3 ho4 hb hg_ hnew_; clear hg_ hnew_; (first | rw [← Ny374.out] at ho4 | (simp only [Int.reduceToNat] at ho4; rw [← Ny374.out] at ho4)); have HO376 := loB ho4 HB; replace HB := sB HB hb; clear hb ho4))
 go_loopg [5, 6, 7] k (fun kq v5 v6 v7 w' => ∃ (x5_1 : List Int) (x6_1 : Int) (x7_1 : Int), v6 = .int .u64 x6_1 ∧ v7 = .int .i64 x7_1 ∧ Aside0 (spec_l02Less.l0 kq l0 l1 x5_1 x6_1 x7_1 = some r) ∧ Aside0 (kq ≤ k) ∧ Aside0 (Kd.R (Kd.int .u32) 119 w' w.heap.size (fun _ => True) v5 x5_1) ∧ Aside0 (Below w.heap.size w w'))
 case atStart => exact ⟨(y374), (0), (0), (rs), (rs), H', ⟨Nat.le_refl _⟩, ⟨fR HO376⟩, ⟨fB HB⟩⟩
 case round =>
  clear H'
  try clear c1
  try clear p2
  obtain ⟨x5_1, x6_1, x7_1, rfl, rfl, HA, HK1, HO_5, HB⟩ := hrel
  cases gk with
  | zero => exact absurd HA.out (by simp [spec_l02Less.l0])
  | succ k1 =>
   have H := HA.out
   clear HA
   simp only [spec_l02Less.l0] at H
   by_cases c5 : x7_1 < (l0.length : Int)
   ·
    rw [if_pos c5] at H
    have c5b0 : decide (x7_1 < (l0.length : Int)) = true := decide_eq_true c5
    clear c5
    obtain ⟨t377, A6, H⟩ := ub H; try dsimp only at H
    obtain ⟨t378, A7, H⟩ := ub H; try dsimp only at H
    by_cases c8 : x5_1.length < 35184372088832
    ·
     rw [if_pos c8] at H
     have LMc8 := am c8
     clear c8
     obtain ⟨y379, Ny379⟩ : ∃ y_ : List Int, Aside0 (y_ = (x5_1 ++ [(Go.bits .and .u64 (IntKind.u64.wrap ((IntKind.u64.wrap ((IntKind.u64.wrap (t377 + 4294967296)) - t378)) - x6_1)) 4294967295) % 4294967296])) := ⟨_, ⟨rfl⟩⟩; rw [← Ny379.out] at H
     have H' := am H
     clear H
     go_wp2_with (first | (refine cl 112 (some 18) Try.func112 #[.slice A0 l0.length c0, .int .i64 x7_1] ?_; (with_reducible refine (spec_l02Limb.calls _ _ l0 x7_1 t377 _ ?side1 ?side2 A6.out).mono ?_); (case side1 => repeat (first | exact (Kd.C_below HR0.out HB.out) | (with_reducible refine Kd.C_alloc ?_ _) | (with_reducible refine Kd.C_drewN ?_ _) | (with_reducible refine Kd.C_drew ?_))); (case side2 => exact HC0.out); rintro e w' ⟨rfl, ⟨nd, rfl⟩⟩; refine ⟨_, rfl, ?_⟩) | (refine cl 112 (some 22) Try.func112 #[.slice A1 l1.length c1, .int .i64 x7_1] ?_; (with_reducible refine (spec_l02Limb.calls _ _ l1 x7_1 t378 _ ?side1 ?side2 A7.out).mono ?_); (case side1 => repeat (first | exact (Kd.C_below HR1.out (fB HB)) | (with_reducible refine Kd.C_alloc ?_ _) | (with_reducible refine Kd.C_drewN ?_ _) | (with_reducible refine Kd.C_drew ?_))); (case side2 => exact HC1.out); rintro e w' ⟨rfl, ⟨nd, rfl⟩⟩; refine ⟨_, rfl, ?_⟩) | ((with_reducible refine gate_builtin (b := .append) (xs := #[.tmp 26, .tmp 30]) rfl ?_); at_builtin; refine Kd.R_append (Kd.int .u32) (w0 := w) w.heap.size rfl (.tmp 26) (.tmp 30) 58 119 (.int .u32 0) 4 rfl Try.underlying58 info119 rfl (by decide) (by omega) u5 x5_1 ((Go.bits .and .u64 (IntKind.u64.wrap ((IntKind.u64.wrap ((IntKind.u64.wrap (t377 + 4294967296)) - t378)) - x6_1)) 4294967295) % 4294967296) [.int .u32 ((Go.bits .and .u64 (IntKind.u64.wrap ((IntKind.u64.wrap ((IntKind.u64.wrap (t377 + 4294967296)) - t378)) - x6_1)) 4294967295) % 4294967296)] (fun _ => True) (fun _ => False) rfl rfl ?aP (fun _ hk => hk.elim) ?aF ?aO ?aB ?aS ?aL ?_; (case aP => exact rfl); (case aB => exact (fB HB)); (case aF => exact (fun _ _ => trivial)); (case aO => exact (fR HO_5)); (case aS => exact (below_size (fB HB))); (case aL => have := LMc8.out; omega); intro v380 w9 ho hb hg hat; rw [← Ny379.out] at ho; replace HB := am (hb); have HO381 := am (ho); clear HO_5; clear ho hb hg hat))
     go_roundg k1
     case measure => have := HK1.out; omega
     case rel => exact ⟨(y379), (IntKind.u64.wrap (1 - ((IntKind.u64.wrap ((IntKind.u64.wrap ((IntKind.u64.wrap (t377 + 4294967296)) - t378)) - x6_1)) / 4294967296))), (wrap64 (x7_1 + 1)), (rs), (rs), H', ⟨by have := HK1.out; omega⟩, ⟨fR HO381⟩, ⟨fB HB⟩⟩
    ·
     rw [if_neg c8] at H
     exact absurd H (by simp)
   ·
    rw [if_neg c5] at H
    have c5b0 : decide (x7_1 < (l0.length : Int)) = false := decide_eq_false c5
    clear c5
    obtain rfl := Option.some.inj H
    go_wp2
    go_ret
    exact ⟨_, rz, fR HO_5, fB HB⟩

/-! ### spec_l02Times: function 103 -/
set_option maxHeartbeats 8000000 in
set_option maxRecDepth 100000 in
theorem spec_l02Times.calls (k : Nat) (A0 : Option Addr) (c0 : Nat) (l0 : List Int) (A1 : Option Addr) (c1 : Nat) (l1 : List Int) (r : List Int) (w : World) (hr0 : Kd.C (Kd.int .u32) w A0 l0.length l0) (hc0 : l0.length ≤ c0) (hr1 : Kd.C (Kd.int .u32) w A1 l1.length l1) (hc1 : l1.length ≤ c1) (h : spec_l02Times.f k l0 l1 = some r) :
  Calls Try.prog 103 #[.slice A0 l0.length c0, .slice A1 l1.length c1] w fun e w' => ∃ v0_ : Value, e = .returned (v0_) ∧ Kd.R (Kd.int .u32) 119 w' w.heap.size (fun _ => True) v0_ r ∧ Below w.heap.size w w' := by
 have HR0 := am hr0
 have HC0 := am hc0
 clear hr0 hc0
 have HR1 := am hr1
 have HC1 := am hc1
 clear hr1 hc1
 have HB := am (Below.refl w.heap.size w)
 have H : (if 0 ≤ (wrap64 ((l0.length : Int) + (l1.length : Int))) then (if (wrap64 ((l0.length : Int) + (l1.length : Int)) : Int).toNat ≤ 70368744177664 then (spec_l02Times.l0 k l0 l1 (List.replicate (wrap64 ((l0.length : Int) + (l1.length : Int)) : Int).toNat 0) 0) else (none)) else (none)) = some r := h
 clear h
 obtain ⟨ji3, hji3⟩ : ∃ j_ : Int, (wrap64 ((l0.length : Int) + (l1.length : Int))) = j_ := ⟨_, rfl⟩
 replace H : (if 0 ≤ (ji3) then (if (ji3 : Int).toNat ≤ 70368744177664 then (spec_l02Times.l0 k l0 l1 (List.replicate (ji3 : Int).toNat 0) 0) else (none)) else (none)) = some r := by first | (rw [hji3] at H; exact H) | (simp only [hji3] at H ⊢; exact H)
 have hji3w : (IntKind.i64.wrap ((l0.length : Int) + (l1.length : Int))) = ji3 := (i64_w _).trans hji3
 by_cases c4 : 0 ≤ (ji3)
 ·
  rw [if_pos c4] at H
  have c4b0 := eq_true c4
  have c4b1 : decide (0 ≤ (ji3)) = true := decide_eq_true c4
  clear c4
  by_cases c5 : (ji3 : Int).toNat ≤ 70368744177664
  ·
   rw [if_pos c5] at H
   have c5b0 := eq_true c5
   have c5b1 : decide ((ji3 : Int).toNat ≤ 70368744177664) = true := decide_eq_true c5
   clear c5
   obtain ⟨y382, Ny382⟩ : ∃ y_ : List Int, Aside0 (y_ = (List.replicate (ji3 : Int).toNat 0)) := ⟨_, ⟨rfl⟩⟩; rw [← Ny382.out] at H
   have H' := am H
   clear H
   go_enter Try.func103, Try.ntmps103
   go_wp2_with (first | ((with_reducible refine gate_dst (N := 15) rfl ?_); refine Kd.R_make (Kd.int .u32) _ 119 rfl (N := 15) rfl 58 _ _ rfl ji3 rfl rfl Try.underlying58 (.int .u32 0) 4 info119 rfl (by decide) (by omega) 0 (ok := fun _ => True) (okp := fun _ => True) rfl (fun _ hk => hk) trivial (of_decide_eq_true (ha)) (Nat.le_trans (Nat.mul_le_mul_right _ (of_decide_eq_true (ha) : ji3.toNat ≤ 70368744177664)) (by omega)) (Below.refl _ _) (Nat.le_refl _) ?_; intro v383 w6 ho7 hb hg_ hnew_; clear hg_ hnew_; (first | rw [← Ny382.out] at ho7 | (simp only [Int.reduceToNat] at ho7; rw [← Ny382.out] at ho7)); have HO384 := loB ho7 HB; replace HB := sB HB hb; clear hb ho7))
   repeat (go_quiet (first | ((with_reducible refine gate_dst (N := 15) rfl ?_); refine Kd.R_make (Kd.int .u32) _ 119 rfl (N := 15) rfl 58 _ _ rfl ji3 rfl rfl Try.underlying58 (.int .u32 0) 4 info119 rfl (by decide) (by omega) 0 (ok := fun _ => True) (okp := fun _ => True) rfl (fun _ hk => hk) trivial (of_decide_eq_true (ha)) (Nat.le_trans (Nat.mul_le_mul_right _ (of_decide_eq_true (ha) : ji3.toNat ≤ 70368744177664)) (by omega)) (Below.refl _ _) (Nat.le_refl _) ?_; intro v383 w6 ho7 hb hg_ hnew_; clear hg_ hnew_; (first | rw [← Ny382.out] at ho7 | (simp only [Int.reduceToNat] at ho7; rw [← Ny382.out] at ho7)); have HO384 := loB ho7 HB; replace HB := sB HB hb; clear hb ho7)); try go_wp2_with (first | ((with_reducible refine gate_dst (N := 15) rfl ?_); refine Kd.R_make (Kd.int .u32) _ 119 rfl (N := 15) rfl 58 _ _ rfl ji3 rfl rfl Try.underlying58 (.int .u32 0) 4 info119 rfl (by decide) (by omega) 0 (ok := fun _ => True) (okp := fun _ => True) rfl (fun _ hk => hk) trivial (of_decide_eq_true (ha)) (Nat.le_trans (Nat.mul_le_mul_right _ (of_decide_eq_true (ha) : ji3.toNat ≤ 70368744177664)) (by omega)) (Below.refl _ _) (Nat.le_refl _) ?_; intro v383 w6 ho7 hb hg_ hnew_; clear hg_ hnew_; (first | rw [← Ny382.out] at ho7 | (simp only [Int.reduceToNat] at ho7; rw [← Ny382.out] at ho7)); have HO384 := loB ho7 HB; replace HB := sB HB hb; clear hb ho7)))
   go_loopg [6] k (fun kq v6 w' => ∃ (x5_1 : List Int) (x6_1 : Int), v6 = .int .i64 x6_1 ∧ Aside0 (spec_l02Times.l0 kq l0 l1 x5_1 x6_1 = some r) ∧ Aside0 (kq ≤ k) ∧ Aside0 (Kd.R (Kd.int .u32) 119 w' w.heap.size (fun _ => True) v383 x5_1) ∧ Aside0 (Below w.heap.size w w'))
   case atStart => exact ⟨(y382), (0), (rs), H', ⟨Nat.le_refl _⟩, ⟨fR HO384⟩, ⟨fB HB⟩⟩
   case round =>
    clear H'
    try clear c1
    try clear p2
    try clear c4
    try clear c4b0
    try clear c4b1
    try clear c5
    try clear c5b0
    try clear c5b1
    try clear p6
    obtain ⟨x5_1, x6_1, rfl, HA, HK1, HO_5, HB⟩ := hrel
    cases gk with
    | zero => exact absurd HA.out (by simp [spec_l02Times.l0])
    | succ k1 =>
     have H := HA.out
     clear HA
     simp only [spec_l02Times.l0] at H
     by_cases c8 : x6_1 < (l0.length : Int)
     ·
      rw [if_pos c8] at H
      have c8b0 : decide (x6_1 < (l0.length : Int)) = true := decide_eq_true c8
      clear c8
      have H' := am H
      clear H
      go_wp2
      repeat (go_quiet (fail); try go_wp2)
      go_loopg [7, 8] k1 (fun kq v7 v8 w' => ∃ (x5_2 : List Int) (x7_2 : Int) (x8_2 : Int), v7 = .int .u64 x7_2 ∧ v8 = .int .i64 x8_2 ∧ Aside0 (spec_l02Times.l1 kq l0 l1 x5_2 x6_1 x7_2 x8_2 = some r) ∧ Aside0 (kq ≤ k1) ∧ Aside0 (Kd.R (Kd.int .u32) 119 w' w.heap.size (fun _ => True) v383 x5_2) ∧ Aside0 (Below w.heap.size w w'))
      case atStart => exact ⟨(x5_1), (0), (0), (rs), (rs), H', ⟨Nat.le_refl _⟩, ⟨fR HO_5⟩, ⟨fB HB⟩⟩
      case round =>
       clear H'
       try clear c1
       try clear p2
       try clear c4
       try clear c4b0
       try clear c4b1
       try clear c5
       try clear c5b0
       try clear c5b1
       try clear p6
       try clear c8
       try clear c8b0
       try clear p2
       try clear p6
       obtain ⟨x5_2, x7_2, x8_2, rfl, rfl, HA, HK2, HO_5, HB⟩ := hrel
       cases gk with
       | zero => exact absurd HA.out (by simp [spec_l02Times.l1])
       | succ k2 =>
        have H := HA.out
        clear HA
        simp only [spec_l02Times.l1] at H
        by_cases c9 : x8_2 < (l1.length : Int)
        ·
         rw [if_pos c9] at H
         have c9b0 : decide (x8_2 < (l1.length : Int)) = true := decide_eq_true c9
         clear c9
         by_cases c10 : 0 ≤ x6_1
         ·
          rw [if_pos c10] at H
          have c10b0 : decide (0 ≤ x6_1) = true := decide_eq_true c10
          clear c10
          by_cases c11 : x6_1 < (l0.length : Int)
          ·
           rw [if_pos c11] at H
           have c11b0 : decide (x6_1 < (l0.length : Int)) = true := decide_eq_true c11
           clear c11
           by_cases c12 : 0 ≤ x8_2
           ·
            rw [if_pos c12] at H
            have c12b0 : decide (0 ≤ x8_2) = true := decide_eq_true c12
            clear c12
            obtain ⟨ji13, hji13⟩ : ∃ j_ : Int, (wrap64 (x6_1 + x8_2)) = j_ := ⟨_, rfl⟩
            replace H : (if 0 ≤ (ji13) then (if (ji13) < (x5_2.length : Int) then (spec_l02Times.l1 k2 l0 l1 (x5_2.set ((ji13) : Int).toNat ((Go.bits .and .u64 (IntKind.u64.wrap ((IntKind.u64.wrap ((IntKind.u64.wrap ((IntKind.u64.wrap (rd l0 x6_1)) * (IntKind.u64.wrap (rd l1 x8_2)))) + (IntKind.u64.wrap (rd x5_2 (ji13))))) + x7_2)) 4294967295) % 4294967296)) x6_1 ((IntKind.u64.wrap ((IntKind.u64.wrap ((IntKind.u64.wrap ((IntKind.u64.wrap (rd l0 x6_1)) * (IntKind.u64.wrap (rd l1 x8_2)))) + (IntKind.u64.wrap (rd x5_2 (ji13))))) + x7_2)) / 4294967296) (wrap64 (x8_2 + 1))) else (none)) else (none)) = some r := by first | (rw [hji13] at H; exact H) | (simp only [hji13] at H ⊢; exact H)
            have hji13w : (IntKind.i64.wrap (x6_1 + x8_2)) = ji13 := (i64_w _).trans hji13
            by_cases c14 : 0 ≤ (ji13)
            ·
             rw [if_pos c14] at H
             have c14b0 : decide (0 ≤ (ji13)) = true := decide_eq_true c14
             clear c14
             by_cases c15 : (ji13) < (x5_2.length : Int)
             ·
              rw [if_pos c15] at H
              have c15b0 : decide ((ji13) < (x5_2.length : Int)) = true := decide_eq_true c15
              clear c15
              obtain ⟨y388, Ny388⟩ : ∃ y_ : List Int, Aside0 (y_ = (x5_2.set ((ji13) : Int).toNat ((Go.bits .and .u64 (IntKind.u64.wrap ((IntKind.u64.wrap ((IntKind.u64.wrap ((IntKind.u64.wrap (rd l0 x6_1)) * (IntKind.u64.wrap (rd l1 x8_2)))) + (IntKind.u64.wrap (rd x5_2 (ji13))))) + x7_2)) 4294967295) % 4294967296))) := ⟨_, ⟨rfl⟩⟩; rw [← Ny388.out] at H
              have H' := am H
              clear H
              have p385 : 0 ≤ (x6_1 : Int) := of_decide_eq_true (ha)
              have q385 : x6_1 < (l0.length : Int) := of_decide_eq_true (ha)
              obtain ⟨ad385, e385, hx385_0⟩ := Kd.at_int HR0.out x6_1 p385 q385
              cases e385
              replace hx385_0 := (HB.out.cell (World.block_lt_of_cell? w _ hx385_0)).trans hx385_0
              replace p385 := eq_true p385
              replace q385 := eq_true q385
              have p386 : 0 ≤ (x8_2 : Int) := of_decide_eq_true (ha)
              have q386 : x8_2 < (l1.length : Int) := of_decide_eq_true (ha)
              obtain ⟨ad386, e386, hx386_0⟩ := Kd.at_int HR1.out x8_2 p386 q386
              cases e386
              replace hx386_0 := (HB.out.cell (World.block_lt_of_cell? w _ hx386_0)).trans hx386_0
              replace p386 := eq_true p386
              replace q386 := eq_true q386
              obtain ⟨Ao17, co17, eo17⟩ := Kd.R_slice HO_5.out
              subst eo17
              have p387 : 0 ≤ ((ji13) : Int) := of_decide_eq_true (ha)
              have q387 : (ji13) < (x5_2.length : Int) := of_decide_eq_true (ha)
              obtain ⟨ad387, e387, hx387_0⟩ := Kd.at_int (Kd.R_reads' HO_5.out).2.2 (ji13) p387 q387
              cases e387
              replace p387 := eq_true p387
              replace q387 := eq_true q387
              have p16 : 0 ≤ ((ji13) : Int) := of_decide_eq_true (ha)
              have q16 : ((ji13) : Int) < ((x5_2.length : Int) : Int) := of_decide_eq_true (ha)
              obtain ⟨go16, co16, eo16, gb16, gl16, cl16, HG16⟩ := Kd.R_form HO_5.out (by omega)
              (first | cases eo16 | (injection eo16 with ea_ en_ ec_; (first | subst ea_ | (injection ea_ with ea_; subst ea_)); subst ec_; clear en_))
              have GB16 := am gb16
              have GG16 := am HG16
              clear gb16 gl16 HG16
              (first | simp only [add_plain] at hx387_0 | skip)
              obtain ⟨hx16_0, hf16_0⟩ := Kd.R_celln 0 HO_5.out ((ji13) : Int) p16 q16
              replace p16 := eq_true p16
              replace q16 := eq_true q16
              have HP18 := Kd.R_putg HO_5.out ((ji13) : Int) ((Go.bits .and .u64 (IntKind.u64.wrap ((IntKind.u64.wrap ((IntKind.u64.wrap ((IntKind.u64.wrap (rd l0 x6_1)) * (IntKind.u64.wrap (rd l1 x8_2)))) + (IntKind.u64.wrap (rd x5_2 (ji13))))) + x7_2)) 4294967295) % 4294967296)
              go_wp2_with (first | ((with_reducible refine gate_store (t := 119) (p := 56) rfl ?_); (try (rw [drewN_self wr]; generalize hq_ : World.drewN wr _ = wr; replace hx16_0 := (congrArg (fun w_ : World => World.cell? w_ _) hq_).symm.trans hx16_0; replace hf16_0 := (congrArg (fun w_ : World => World.frozen? w_ _) hq_).symm.trans hf16_0; have n0_ := am (Kd.R_at hq_ HO_5.out); have n1_ := am (below_at hq_ HB.out); clear hq_ HO_5 HB; have HO_5 := n0_; have HB := n1_; clear n0_ n1_; (try (have HP18 := Kd.R_putg HO_5.out ((ji13) : Int) ((Go.bits .and .u64 (IntKind.u64.wrap ((IntKind.u64.wrap ((IntKind.u64.wrap ((IntKind.u64.wrap (rd l0 x6_1)) * (IntKind.u64.wrap (rd l1 x8_2)))) + (IntKind.u64.wrap (rd x5_2 (ji13))))) + x7_2)) 4294967295) % 4294967296))))); refine store_event (t := 119) (p := 56) (v := ?vo_w19) (w1 := (wr.setCell ⟨go16, ((ji13) : Int).toNat, none⟩ (.int .u32 ((Go.bits .and .u64 (IntKind.u64.wrap ((IntKind.u64.wrap ((IntKind.u64.wrap ((IntKind.u64.wrap (rd l0 x6_1)) * (IntKind.u64.wrap (rd l1 x8_2)))) + (IntKind.u64.wrap (rd x5_2 (ji13))))) + x7_2)) 4294967295) % 4294967296)))) ?hg ?ho ?hn ?hr ?_; (case ho => rfl); (case hg => rfl); (case hn => rfl); (case hr => first | (go_simp; done) | (go_simp; rfl)); intro w19 hw; have hg : wr.grownBy w19 (some go16) := (by rw [hw]; exact HP18.2); have hp_ : Kd.R (Kd.int .u32) 119 w19 w.heap.size (fun _ => True) (.slice (some ⟨go16, 0, none⟩) x5_2.length co17) y388 := (by rw [hw, Ny388.out]; exact HP18.1); clear HP18; replace HO_5 := am (hp_); replace HB := am ((by rw [hw]; exact below_set (HB.out) GB16.out : Below w.heap.size w w19)); clear hg hw hp_))
              repeat (go_quiet (first | ((with_reducible refine gate_store (t := 119) (p := 56) rfl ?_); (try (rw [drewN_self wr]; generalize hq_ : World.drewN wr _ = wr; replace hx16_0 := (congrArg (fun w_ : World => World.cell? w_ _) hq_).symm.trans hx16_0; replace hf16_0 := (congrArg (fun w_ : World => World.frozen? w_ _) hq_).symm.trans hf16_0; have n0_ := am (Kd.R_at hq_ HO_5.out); have n1_ := am (below_at hq_ HB.out); clear hq_ HO_5 HB; have HO_5 := n0_; have HB := n1_; clear n0_ n1_; (try (have HP18 := Kd.R_putg HO_5.out ((ji13) : Int) ((Go.bits .and .u64 (IntKind.u64.wrap ((IntKind.u64.wrap ((IntKind.u64.wrap ((IntKind.u64.wrap (rd l0 x6_1)) * (IntKind.u64.wrap (rd l1 x8_2)))) + (IntKind.u64.wrap (rd x5_2 (ji13))))) + x7_2)) 4294967295) % 4294967296))))); refine store_event (t := 119) (p := 56) (v := ?vo_w19) (w1 := (wr.setCell ⟨go16, ((ji13) : Int).toNat, none⟩ (.int .u32 ((Go.bits .and .u64 (IntKind.u64.wrap ((IntKind.u64.wrap ((IntKind.u64.wrap ((IntKind.u64.wrap (rd l0 x6_1)) * (IntKind.u64.wrap (rd l1 x8_2)))) + (IntKind.u64.wrap (rd x5_2 (ji13))))) + x7_2)) 4294967295) % 4294967296)))) ?hg ?ho ?hn ?hr ?_; (case ho => rfl); (case hg => rfl); (case hn => rfl); (case hr => first | (go_simp; done) | (go_simp; rfl)); intro w19 hw; have hg : wr.grownBy w19 (some go16) := (by rw [hw]; exact HP18.2); have hp_ : Kd.R (Kd.int .u32) 119 w19 w.heap.size (fun _ => True) (.slice (some ⟨go16, 0, none⟩) x5_2.length co17) y388 := (by rw [hw, Ny388.out]; exact HP18.1); clear HP18; replace HO_5 := am (hp_); replace HB := am ((by rw [hw]; exact below_set (HB.out) GB16.out : Below w.heap.size w w19)); clear hg hw hp_)); try go_wp2_with (first | ((with_reducible refine gate_store (t := 119) (p := 56) rfl ?_); (try (rw [drewN_self wr]; generalize hq_ : World.drewN wr _ = wr; replace hx16_0 := (congrArg (fun w_ : World => World.cell? w_ _) hq_).symm.trans hx16_0; replace hf16_0 := (congrArg (fun w_ : World => World.frozen? w_ _) hq_).symm.trans hf16_0; have n0_ := am (Kd.R_at hq_ HO_5.out); have n1_ := am (below_at hq_ HB.out); clear hq_ HO_5 HB; have HO_5 := n0_; have HB := n1_; clear n0_ n1_; (try (have HP18 := Kd.R_putg HO_5.out ((ji13) : Int) ((Go.bits .and .u64 (IntKind.u64.wrap ((IntKind.u64.wrap ((IntKind.u64.wrap ((IntKind.u64.wrap (rd l0 x6_1)) * (IntKind.u64.wrap (rd l1 x8_2)))) + (IntKind.u64.wrap (rd x5_2 (ji13))))) + x7_2)) 4294967295) % 4294967296))))); refine store_event (t := 119) (p := 56) (v := ?vo_w19) (w1 := (wr.setCell ⟨go16, ((ji13) : Int).toNat, none⟩ (.int .u32 ((Go.bits .and .u64 (IntKind.u64.wrap ((IntKind.u64.wrap ((IntKind.u64.wrap ((IntKind.u64.wrap (rd l0 x6_1)) * (IntKind.u64.wrap (rd l1 x8_2)))) + (IntKind.u64.wrap (rd x5_2 (ji13))))) + x7_2)) 4294967295) % 4294967296)))) ?hg ?ho ?hn ?hr ?_; (case ho => rfl); (case hg => rfl); (case hn => rfl); (case hr => first | (go_simp; done) | (go_simp; rfl)); intro w19 hw; have hg : wr.grownBy w19 (some go16) := (by rw [hw]; exact HP18.2); have hp_ : Kd.R (Kd.int .u32) 119 w19 w.heap.size (fun _ => True) (.slice (some ⟨go16, 0, none⟩) x5_2.length co17) y388 := (by rw [hw, Ny388.out]; exact HP18.1); clear HP18; replace HO_5 := am (hp_); replace HB := am ((by rw [hw]; exact below_set (HB.out) GB16.out : Below w.heap.size w w19)); clear hg hw hp_)))
              go_roundg k2
              case measure => have := HK1.out; have := HK2.out; omega
              case rel => exact ⟨(y388), ((IntKind.u64.wrap ((IntKind.u64.wrap ((IntKind.u64.wrap ((IntKind.u64.wrap (rd l0 x6_1)) * (IntKind.u64.wrap (rd l1 x8_2)))) + (IntKind.u64.wrap (rd x5_2 (ji13))))) + x7_2)) / 4294967296), (wrap64 (x8_2 + 1)), (by first | rfl | (simp; done) | (simp only [← hji13] <;> (first | rfl | simp)) | (simp [*]; done)), (rs), H', ⟨by have := HK1.out; have := HK2.out; omega⟩, ⟨fR HO_5⟩, ⟨fB HB⟩⟩
             ·
              rw [if_neg c15] at H
              exact absurd H (by simp)
            ·
             rw [if_neg c14] at H
             exact absurd H (by simp)
           ·
            rw [if_neg c12] at H
            exact absurd H (by simp)
          ·
           rw [if_neg c11] at H
           exact absurd H (by simp)
         ·
          rw [if_neg c10] at H
          exact absurd H (by simp)
        ·
         rw [if_neg c9] at H
         have c9b0 : decide (x8_2 < (l1.length : Int)) = false := decide_eq_false c9
         clear c9
         obtain ⟨ji20, hji20⟩ : ∃ j_ : Int, (wrap64 (x6_1 + (l1.length : Int))) = j_ := ⟨_, rfl⟩
         replace H : (if 0 ≤ (ji20) then (if (ji20) < (x5_2.length : Int) then (spec_l02Times.l0 k2 l0 l1 (x5_2.set ((ji20) : Int).toNat ((x7_2) % 4294967296)) (wrap64 (x6_1 + 1))) else (none)) else (none)) = some r := by first | (rw [hji20] at H; exact H) | (simp only [hji20] at H ⊢; exact H)
         have hji20w : (IntKind.i64.wrap (x6_1 + (l1.length : Int))) = ji20 := (i64_w _).trans hji20
         by_cases c21 : 0 ≤ (ji20)
         ·
          rw [if_pos c21] at H
          have c21b0 : decide (0 ≤ (ji20)) = true := decide_eq_true c21
          clear c21
          by_cases c22 : (ji20) < (x5_2.length : Int)
          ·
           rw [if_pos c22] at H
           have c22b0 : decide ((ji20) < (x5_2.length : Int)) = true := decide_eq_true c22
           clear c22
           obtain ⟨y389, Ny389⟩ : ∃ y_ : List Int, Aside0 (y_ = (x5_2.set ((ji20) : Int).toNat ((x7_2) % 4294967296))) := ⟨_, ⟨rfl⟩⟩; rw [← Ny389.out] at H
           have H' := am H
           clear H
           have p23 : 0 ≤ ((ji20) : Int) := of_decide_eq_true (ha)
           have q23 : ((ji20) : Int) < ((x5_2.length : Int) : Int) := of_decide_eq_true (ha)
           obtain ⟨go23, co23, eo23, gb23, gl23, cl23, HG23⟩ := Kd.R_form HO_5.out (by omega)
           (first | cases eo23 | (injection eo23 with ea_ en_ ec_; (first | subst ea_ | (injection ea_ with ea_; subst ea_)); subst ec_; clear en_))
           have GB23 := am gb23
           have GG23 := am HG23
           clear gb23 gl23 HG23
           obtain ⟨hx23_0, hf23_0⟩ := Kd.R_celln 0 HO_5.out ((ji20) : Int) p23 q23
           replace p23 := eq_true p23
           replace q23 := eq_true q23
           have HP24 := Kd.R_putg HO_5.out ((ji20) : Int) ((x7_2) % 4294967296)
           go_wp2_with (first | ((with_reducible refine gate_store (t := 119) (p := 66) rfl ?_); (try (rw [drewN_self wr]; generalize hq_ : World.drewN wr _ = wr; replace hx23_0 := (congrArg (fun w_ : World => World.cell? w_ _) hq_).symm.trans hx23_0; replace hf23_0 := (congrArg (fun w_ : World => World.frozen? w_ _) hq_).symm.trans hf23_0; have n0_ := am (Kd.R_at hq_ HO_5.out); have n1_ := am (below_at hq_ HB.out); clear hq_ HO_5 HB; have HO_5 := n0_; have HB := n1_; clear n0_ n1_; (try (have HP24 := Kd.R_putg HO_5.out ((ji20) : Int) ((x7_2) % 4294967296))))); refine store_event (t := 119) (p := 66) (v := ?vo_w25) (w1 := (wr.setCell ⟨go23, ((ji20) : Int).toNat, none⟩ (.int .u32 ((x7_2) % 4294967296)))) ?hg ?ho ?hn ?hr ?_; (case ho => rfl); (case hg => rfl); (case hn => rfl); (case hr => first | (go_simp; done) | (go_simp; rfl)); intro w25 hw; have hg : wr.grownBy w25 (some go23) := (by rw [hw]; exact HP24.2); have hp_ : Kd.R (Kd.int .u32) 119 w25 w.heap.size (fun _ => True) (.slice (some ⟨go23, 0, none⟩) x5_2.length co23) y389 := (by rw [hw, Ny389.out]; exact HP24.1); clear HP24; replace HO_5 := am (hp_); replace HB := am ((by rw [hw]; exact below_set (HB.out) GB23.out : Below w.heap.size w w25)); clear hg hw hp_))
           repeat (go_quiet (first | ((with_reducible refine gate_store (t := 119) (p := 66) rfl ?_); (try (rw [drewN_self wr]; generalize hq_ : World.drewN wr _ = wr; replace hx23_0 := (congrArg (fun w_ : World => World.cell? w_ _) hq_).symm.trans hx23_0; replace hf23_0 := (congrArg (fun w_ : World => World.frozen? w_ _) hq_).symm.trans hf23_0; have n0_ := am (Kd.R_at hq_ HO_5.out); have n1_ := am (below_at hq_ HB.out); clear hq_ HO_5 HB; have HO_5 := n0_; have HB := n1_; clear n0_ n1_; (try (have HP24 := Kd.R_putg HO_5.out ((ji20) : Int) ((x7_2) % 4294967296))))); refine store_event (t := 119) (p := 66) (v := ?vo_w25) (w1 := (wr.setCell ⟨go23, ((ji20) : Int).toNat, none⟩ (.int .u32 ((x7_2) % 4294967296)))) ?hg ?ho ?hn ?hr ?_; (case ho => rfl); (case hg => rfl); (case hn => rfl); (case hr => first | (go_simp; done) | (go_simp; rfl)); intro w25 hw; have hg : wr.grownBy w25 (some go23) := (by rw [hw]; exact HP24.2); have hp_ : Kd.R (Kd.int .u32) 119 w25 w.heap.size (fun _ => True) (.slice (some ⟨go23, 0, none⟩) x5_2.length co23) y389 := (by rw [hw, Ny389.out]; exact HP24.1); clear HP24; replace HO_5 := am (hp_); replace HB := am ((by rw [hw]; exact below_set (HB.out) GB23.out : Below w.heap.size w w25)); clear hg hw hp_)); try go_wp2_with (first | ((with_reducible refine gate_store (t := 119) (p := 66) rfl ?_); (try (rw [drewN_self wr]; generalize hq_ : World.drewN wr _ = wr; replace hx23_0 := (congrArg (fun w_ : World => World.cell? w_ _) hq_).symm.trans hx23_0; replace hf23_0 := (congrArg (fun w_ : World => World.frozen? w_ _) hq_).symm.trans hf23_0; have n0_ := am (Kd.R_at hq_ HO_5.out); have n1_ := am (below_at hq_ HB.out); clear hq_ HO_5 HB; have HO_5 := n0_; have HB := n1_; clear n0_ n1_; (try (have HP24 := Kd.R_putg HO_5.out ((ji20) : Int) ((x7_2) % 4294967296))))); refine store_event (t := 119) (p := 66) (v := ?vo_w25) (w1 := (wr.setCell ⟨go23, ((ji20) : Int).toNat, none⟩ (.int .u32 ((x7_2) % 4294967296)))) ?hg ?ho ?hn ?hr ?_; (case ho => rfl); (case hg => rfl); (case hn => rfl); (case hr => first | (go_simp; done) | (go_simp; rfl)); intro w25 hw; have hg : wr.grownBy w25 (some go23) := (by rw [hw]; exact HP24.2); have hp_ : Kd.R (Kd.int .u32) 119 w25 w.heap.size (fun _ => True) (.slice (some ⟨go23, 0, none⟩) x5_2.length co23) y389 := (by rw [hw, Ny389.out]; exact HP24.1); clear HP24; replace HO_5 := am (hp_); replace HB := am ((by rw [hw]; exact below_set (HB.out) GB23.out : Below w.heap.size w w25)); clear hg hw hp_)))
           go_roundg k2
           case measure => have := HK1.out; have := HK2.out; omega
           case rel => exact ⟨(y389), (wrap64 (x6_1 + 1)), (rs), H', ⟨by have := HK1.out; have := HK2.out; omega⟩, ⟨fR HO_5⟩, ⟨fB HB⟩⟩
          ·
           rw [if_neg c22] at H
           exact absurd H (by simp)
         ·
          rw [if_neg c21] at H
          exact absurd H (by simp)
     ·
      rw [if_neg c8] at H
      have c8b0 : decide (x6_1 < (l0.length : Int)) = false := decide_eq_false c8
      clear c8
      obtain rfl := Option.some.inj H
      go_wp2
      repeat (go_quiet (fail); try go_wp2)
      go_ret
      exact ⟨_, by first | rfl | (simp [errW_none, errW_some] <;> rfl) | (simp only [← hji3]; first | rfl | (simp [errW_none, errW_some] <;> rfl)) | (simp [*, errW_none, errW_some] <;> rfl), fR HO_5, fB HB⟩
  ·
   rw [if_neg c5] at H
   exact absurd H (by simp)
 ·
  rw [if_neg c4] at H
  exact absurd H (by simp)

/-! ### spec_l02Least: function 109 -/
set_option maxHeartbeats 8000000 in
set_option maxRecDepth 100000 in
theorem spec_l02Least.calls (k : Nat) (A0 : Option Addr) (c0 : Nat) (l0 : List Int) (A1 : Option Addr) (c1 : Nat) (l1 : List Int) (r : Int) (w : World) (hr0 : Kd.C (Kd.int .u32) w A0 l0.length l0) (hc0 : l0.length ≤ c0) (hr1 : Kd.C (Kd.int .u32) w A1 l1.length l1) (hc1 : l1.length ≤ c1) (h : spec_l02Least.f k l0 l1 = some r) :
  Calls Try.prog 109 #[.slice A0 l0.length c0, .slice A1 l1.length c1] w fun e w' => e = .returned (.int .i64 r) ∧ Drawn0 w w' := by
 have HR0 := am hr0
 have HC0 := am hc0
 clear hr0 hc0
 have HR1 := am hr1
 have HC1 := am hc1
 clear hr1 hc1
 have H : (if (l0.length : Int) = (l1.length : Int) then (spec_l02Least.l0 k l0 l1 (wrap64 ((l0.length : Int) - 1))) else (if (l0.length : Int) < (l1.length : Int) then (some (-1)) else (some 1))) = some r := h
 clear h
 by_cases c3 : (l0.length : Int) = (l1.length : Int)
 ·
  rw [if_pos c3] at H
  obtain ⟨c3b0, c3b1⟩ := bqt c3
  have c3b2 : (l0.length == l1.length) = true := by first | simpa using c3 | (simp at c3 ⊢; omega)
  clear c3
  have H' := am H
  clear H
  go_enter Try.func109, Try.ntmps109
  go_wp2
  repeat (go_quiet (fail); try go_wp2)
  go_loopg [5] k (fun kq v5 w' => ∃ (x5_1 : Int), v5 = .int .i64 x5_1 ∧ Aside0 (spec_l02Least.l0 kq l0 l1 x5_1 = some r) ∧ Aside0 (kq ≤ k) ∧ Drawn0 w w')
  case atStart => exact ⟨(wrap64 ((l0.length : Int) - 1)), (rs), H', ⟨Nat.le_refl _⟩, d0⟩
  case round =>
   clear H'
   try clear c1
   try clear p2
   try clear c3
   try clear c3b0
   try clear c3b1
   try clear c3b2
   obtain ⟨x5_1, rfl, HA, HK1, ⟨m1, rfl⟩⟩ := hrel
   cases gk with
   | zero => exact absurd HA.out (by simp [spec_l02Least.l0])
   | succ k1 =>
    have H := HA.out
    clear HA
    simp only [spec_l02Least.l0] at H
    by_cases c4 : x5_1 ≥ 0
    ·
     rw [if_pos c4] at H
     have c4b0 : decide (0 ≤ x5_1) = true := decide_eq_true c4
     clear c4
     by_cases c5 : 0 ≤ x5_1
     ·
      rw [if_pos c5] at H
      have c5b0 : decide (0 ≤ x5_1) = true := decide_eq_true c5
      clear c5
      by_cases c6 : x5_1 < (l0.length : Int)
      ·
       rw [if_pos c6] at H
       have c6b0 : decide (x5_1 < (l0.length : Int)) = true := decide_eq_true c6
       clear c6
       by_cases c7 : x5_1 < (l1.length : Int)
       ·
        rw [if_pos c7] at H
        have c7b0 : decide (x5_1 < (l1.length : Int)) = true := decide_eq_true c7
        clear c7
        by_cases c8 : (rd l0 x5_1) = (rd l1 x5_1)
        ·
         rw [if_pos c8] at H
         obtain ⟨c8b0, c8b1⟩ := bqt c8
         clear c8
         have H' := am H
         clear H
         have p390 : 0 ≤ (x5_1 : Int) := of_decide_eq_true (ha)
         have q390 : x5_1 < (l0.length : Int) := of_decide_eq_true (ha)
         obtain ⟨ad390, e390, hx390_0⟩ := Kd.at_int HR0.out x5_1 p390 q390
         cases e390
         replace p390 := eq_true p390
         replace q390 := eq_true q390
         have p391 : 0 ≤ (x5_1 : Int) := of_decide_eq_true (ha)
         have q391 : x5_1 < (l1.length : Int) := of_decide_eq_true (ha)
         obtain ⟨ad391, e391, hx391_0⟩ := Kd.at_int HR1.out x5_1 p391 q391
         cases e391
         replace p391 := eq_true p391
         replace q391 := eq_true q391
         go_wp2
         repeat (go_quiet (fail); try go_wp2)
         go_roundg k1
         case measure => have := HK1.out; omega
         case rel => exact ⟨(wrap64 (x5_1 - 1)), (rs), H', ⟨by have := HK1.out; omega⟩, d0⟩
        ·
         rw [if_neg c8] at H
         obtain ⟨c8b0, c8b1⟩ := bqf c8
         by_cases c9 : (rd l0 x5_1) < (rd l1 x5_1)
         ·
          rw [if_pos c9] at H
          have c9b0 : decide ((rd l0 x5_1) < (rd l1 x5_1)) = true := decide_eq_true c9
          clear c9
          obtain rfl := Option.some.inj H
          have p390 : 0 ≤ (x5_1 : Int) := of_decide_eq_true (ha)
          have q390 : x5_1 < (l0.length : Int) := of_decide_eq_true (ha)
          obtain ⟨ad390, e390, hx390_0⟩ := Kd.at_int HR0.out x5_1 p390 q390
          cases e390
          replace p390 := eq_true p390
          replace q390 := eq_true q390
          have p391 : 0 ≤ (x5_1 : Int) := of_decide_eq_true (ha)
          have q391 : x5_1 < (l1.length : Int) := of_decide_eq_true (ha)
          obtain ⟨ad391, e391, hx391_0⟩ := Kd.at_int HR1.out x5_1 p391 q391
          cases e391
          replace p391 := eq_true p391
          replace q391 := eq_true q391
          have p392 : 0 ≤ (x5_1 : Int) := of_decide_eq_true (ha)
          have q392 : x5_1 < (l0.length : Int) := of_decide_eq_true (ha)
          obtain ⟨ad392, e392, hx392_0⟩ := Kd.at_int HR0.out x5_1 p392 q392
          obtain rfl : ad390 = ad392 := (by injection e392)
          replace p392 := eq_true p392
          replace q392 := eq_true q392
          have p393 : 0 ≤ (x5_1 : Int) := of_decide_eq_true (ha)
          have q393 : x5_1 < (l1.length : Int) := of_decide_eq_true (ha)
          obtain ⟨ad393, e393, hx393_0⟩ := Kd.at_int HR1.out x5_1 p393 q393
          obtain rfl : ad391 = ad393 := (by injection e393)
          replace p393 := eq_true p393
          replace q393 := eq_true q393
          go_wp2
          repeat (go_quiet (fail); try go_wp2)
          go_ret
          exact ⟨rs, d0⟩
         ·
          rw [if_neg c9] at H
          have c9b0 : decide ((rd l0 x5_1) < (rd l1 x5_1)) = false := decide_eq_false c9
          clear c9
          obtain rfl := Option.some.inj H
          have p390 : 0 ≤ (x5_1 : Int) := of_decide_eq_true (ha)
          have q390 : x5_1 < (l0.length : Int) := of_decide_eq_true (ha)
          obtain ⟨ad390, e390, hx390_0⟩ := Kd.at_int HR0.out x5_1 p390 q390
          cases e390
          replace p390 := eq_true p390
          replace q390 := eq_true q390
          have p391 : 0 ≤ (x5_1 : Int) := of_decide_eq_true (ha)
          have q391 : x5_1 < (l1.length : Int) := of_decide_eq_true (ha)
          obtain ⟨ad391, e391, hx391_0⟩ := Kd.at_int HR1.out x5_1 p391 q391
          cases e391
          replace p391 := eq_true p391
          replace q391 := eq_true q391
          have p392 : 0 ≤ (x5_1 : Int) := of_decide_eq_true (ha)
          have q392 : x5_1 < (l0.length : Int) := of_decide_eq_true (ha)
          obtain ⟨ad392, e392, hx392_0⟩ := Kd.at_int HR0.out x5_1 p392 q392
          obtain rfl : ad390 = ad392 := (by injection e392)
          replace p392 := eq_true p392
          replace q392 := eq_true q392
          have p393 : 0 ≤ (x5_1 : Int) := of_decide_eq_true (ha)
          have q393 : x5_1 < (l1.length : Int) := of_decide_eq_true (ha)
          obtain ⟨ad393, e393, hx393_0⟩ := Kd.at_int HR1.out x5_1 p393 q393
          obtain rfl : ad391 = ad393 := (by injection e393)
          replace p393 := eq_true p393
          replace q393 := eq_true q393
          go_wp2
          repeat (go_quiet (fail); try go_wp2)
          go_ret
          exact ⟨rs, d0⟩
       ·
        rw [if_neg c7] at H
        exact absurd H (by simp)
      ·
       rw [if_neg c6] at H
       exact absurd H (by simp)
     ·
      rw [if_neg c5] at H
      exact absurd H (by simp)
    ·
     rw [if_neg c4] at H
     have c4b0 : decide (0 ≤ x5_1) = false := decide_eq_false c4
     clear c4
     obtain rfl := Option.some.inj H
     go_wp2
     repeat (go_quiet (fail); try go_wp2)
     go_ret
     exact ⟨rs, d0⟩
 ·
  rw [if_neg c3] at H
  obtain ⟨c3b0, c3b1⟩ := bqf c3
  have c3b2 : (l0.length == l1.length) = false := by first | simpa using c3 | (simp at c3 ⊢; omega)
  by_cases c10 : (l0.length : Int) < (l1.length : Int)
  ·
   rw [if_pos c10] at H
   have c10b0 : decide ((l0.length : Int) < (l1.length : Int)) = true := decide_eq_true c10
   have c10b1 : decide (l0.length < l1.length) = true := decide_eq_true (Int.ofNat_lt.mp c10)
   clear c10
   obtain rfl := Option.some.inj H
   go_enter Try.func109, Try.ntmps109
   go_wp2
   repeat (go_quiet (fail); try go_wp2)
   go_ret
   exact ⟨rs, d0⟩
  ·
   rw [if_neg c10] at H
   have c10b0 : decide ((l0.length : Int) < (l1.length : Int)) = false := decide_eq_false c10
   have c10b1 : decide (l0.length < l1.length) = false := decide_eq_false (fun h => c10 (Int.ofNat_lt.mpr h))
   clear c10
   obtain rfl := Option.some.inj H
   go_enter Try.func109, Try.ntmps109
   go_wp2
   repeat (go_quiet (fail); try go_wp2)
   go_ret
   exact ⟨rs, d0⟩
end Go.Proofs.Ytjdndacollpjkaa.MFnVars
