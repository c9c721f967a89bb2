/- Contracts of the functions that the law FnVars reaches (walks in the form of the kit's print; what it does not take by hand). -/
import Derived.Test.YtjdndacollpjkaaFvL
import Derived.Test.YtjdndacollpjkaaMFnVarsx4
import Derived.Test.YtjdndacollpjkaaMFnVarsx6
namespace Go.Proofs.Ytjdndacollpjkaa.MFnVars
open Go.RowKit Go.Proofs.YtjdndacollpjkaaW.PrintWords Go.Proofs.YtjdndacollpjkaaW.PrintLast Go.Proofs.YtjdndacollpjkaaW.PrintMore
theorem fld60_0 (u v : Value) (w : World) : (Instr.field 60 (.agg #[u, v]) 0).run Try.prog w = .ok u w := by kernel_rfl
theorem fld60_1 (u v : Value) (w : World) : (Instr.field 60 (.agg #[u, v]) 1).run Try.prog w = .ok v w := by kernel_rfl
attribute [local go_sem] fld60_0 fld60_1 max2_int min2_int max_two min_two max_three min_three max_four min_four   -- for this text's walks alone
set_option linter.unusedVariables false
set_option linter.unusedSimpArgs false

/-! ### spec_l02Short: function 113 -/
set_option maxHeartbeats 8000000 in
set_option maxRecDepth 100000 in
theorem spec_l02Short.calls (k : Nat) (A0 : Option Addr) (c0 : Nat) (l0 : List Int) (a1 : Int) (r1 : List Int) (r2 : List Int) (w : World) (hr0 : Kd.C (Kd.int .u32) w A0 l0.length l0) (hc0 : l0.length ≤ c0) (h : spec_l02Short.f k l0 a1 = some (r1, r2)) :
  Calls Try.prog 113 #[.slice A0 l0.length c0, .int .u32 a1] w fun e w' => ∃ v0_ v1_ : Value, e = .returned (.tuple #[v0_, v1_]) ∧ Kd.R (Kd.int .u32) 119 w' w.heap.size (fun k_ => some k_ ≠ (v1_ : Value).ownBlock) v0_ r1 ∧ Kd.R (Kd.int .u32) 119 w' w.heap.size (fun k_ => some k_ ≠ (v0_ : Value).ownBlock) v1_ r2 ∧ Below w.heap.size w w' := by
 have HR0 := am hr0
 have HC0 := am hc0
 clear hr0 hc0
 have HB := am (Below.refl w.heap.size w)
 have H : (if 0 ≤ (l0.length : Int) then (if ((l0.length : Int) : Int).toNat ≤ 70368744177664 then (spec_l02Short.l0 k l0 a1 (List.replicate ((l0.length : Int) : Int).toNat 0) 0 (wrap64 ((l0.length : Int) - 1))) else (none)) else (none)) = some (r1, r2) := h
 clear h
 by_cases c3 : 0 ≤ (l0.length : Int)
 ·
  rw [if_pos c3] at H
  have c3b0 := eq_true c3
  have c3b1 : decide (0 ≤ (l0.length : Int)) = true := decide_eq_true c3
  clear c3
  by_cases c4 : ((l0.length : Int) : Int).toNat ≤ 70368744177664
  ·
   rw [if_pos c4] at H
   have c4b0 := eq_true c4
   have c4b1 : decide (((l0.length : Int) : Int).toNat ≤ 70368744177664) = true := decide_eq_true c4
   clear c4
   obtain ⟨y394, Ny394⟩ : ∃ y_ : List Int, Aside0 (y_ = (List.replicate ((l0.length : Int) : Int).toNat 0)) := ⟨_, ⟨rfl⟩⟩; rw [← Ny394.out] at H
   have H' := am H
   clear H
   go_enter Try.func113, Try.ntmps113
   go_wp2_with (first | ((with_reducible refine gate_dst (N := 12) rfl ?_); refine Kd.R_make (Kd.int .u32) _ 119 rfl (N := 12) rfl 58 _ _ rfl (l0.length : Int) rfl rfl Try.underlying58 (.int .u32 0) 4 info119 rfl (by decide) (by omega) 0 (ok := fun _ => True) (okp := fun _ => True) rfl (fun _ hk => hk) trivial (of_decide_eq_true (ha)) (Nat.le_trans (Nat.mul_le_mul_right _ (of_decide_eq_true (ha) : (l0.length : Int).toNat ≤ 70368744177664)) (by omega)) (Below.refl _ _) (Nat.le_refl _) ?_; intro v395 w5 ho6 hb hg_ hnew_; clear hg_ hnew_; (first | rw [← Ny394.out] at ho6 | (simp only [Int.reduceToNat] at ho6; rw [← Ny394.out] at ho6)); have HO396 := loB ho6 HB; replace HB := sB HB hb; clear hb ho6))
   go_loopg [7, 8] k (fun kq v7 v8 w' => ∃ (x6_1 : List Int) (x7_1 : Int) (x8_1 : Int), v7 = .int .u64 x7_1 ∧ v8 = .int .i64 x8_1 ∧ Aside0 (spec_l02Short.l0 kq l0 a1 x6_1 x7_1 x8_1 = some (r1, r2)) ∧ Aside0 (kq ≤ k) ∧ Aside0 (Kd.R (Kd.int .u32) 119 w' w.heap.size (fun _ => True) v395 x6_1) ∧ Aside0 (Below w.heap.size w w'))
   case atStart => exact ⟨(y394), (0), (wrap64 ((l0.length : Int) - 1)), (rs), (rs), H', ⟨Nat.le_refl _⟩, ⟨fR HO396⟩, ⟨fB HB⟩⟩
   case round =>
    clear H'
    try clear c1
    try clear p2
    try clear c3
    try clear c3b0
    try clear c3b1
    try clear c4
    try clear c4b0
    try clear c4b1
    try clear p6
    obtain ⟨x6_1, x7_1, x8_1, rfl, rfl, HA, HK1, HO_6, HB⟩ := hrel
    cases gk with
    | zero => exact absurd HA.out (by simp [spec_l02Short.l0])
    | succ k1 =>
     have H := HA.out
     clear HA
     simp only [spec_l02Short.l0] at H
     by_cases c7 : x8_1 ≥ 0
     ·
      rw [if_pos c7] at H
      have c7b0 : decide (0 ≤ x8_1) = true := decide_eq_true c7
      clear c7
      by_cases c8 : 0 ≤ x8_1
      ·
       rw [if_pos c8] at H
       have c8b0 : decide (0 ≤ x8_1) = true := decide_eq_true c8
       clear c8
       by_cases c9 : x8_1 < (l0.length : Int)
       ·
        rw [if_pos c9] at H
        have c9b0 : decide (x8_1 < (l0.length : Int)) = true := decide_eq_true c9
        clear c9
        by_cases c10 : (IntKind.u64.wrap (a1)) = 0
        ·
         rw [if_pos c10] at H
         exact absurd H (by simp)
        ·
         rw [if_neg c10] at H
         obtain ⟨c10b0, c10b1⟩ := bqf c10
         by_cases c11 : x8_1 < (x6_1.length : Int)
         ·
          rw [if_pos c11] at H
          have c11b0 : decide (x8_1 < (x6_1.length : Int)) = true := decide_eq_true c11
          clear c11
          obtain ⟨y398, Ny398⟩ : ∃ y_ : List Int, Aside0 (y_ = (x6_1.set (x8_1 : Int).toNat ((IntKind.u64.wrap (Int.tdiv (IntKind.u64.wrap ((IntKind.u64.wrap (x7_1 * 4294967296)) + (IntKind.u64.wrap (rd l0 x8_1)))) (IntKind.u64.wrap (a1)))) % 4294967296))) := ⟨_, ⟨rfl⟩⟩; rw [← Ny398.out] at H
          have H' := am H
          clear H
          have p397 : 0 ≤ (x8_1 : Int) := of_decide_eq_true (ha)
          have q397 : x8_1 < (l0.length : Int) := of_decide_eq_true (ha)
          obtain ⟨ad397, e397, hx397_0⟩ := Kd.at_int HR0.out x8_1 p397 q397
          cases e397
          replace hx397_0 := (HB.out.cell (World.block_lt_of_cell? w _ hx397_0)).trans hx397_0
          replace p397 := eq_true p397
          replace q397 := eq_true q397
          have p12 : 0 ≤ (x8_1 : Int) := of_decide_eq_true (ha)
          have q12 : (x8_1 : Int) < ((x6_1.length : Int) : Int) := of_decide_eq_true (ha)
          obtain ⟨go12, co12, eo12, gb12, gl12, cl12, HG12⟩ := Kd.R_form HO_6.out (by omega)
          (first | cases eo12 | (injection eo12 with ea_ en_ ec_; (first | subst ea_ | (injection ea_ with ea_; subst ea_)); subst ec_; clear en_))
          have GB12 := am gb12
          have GG12 := am HG12
          clear gb12 gl12 HG12
          obtain ⟨hx12_0, hf12_0⟩ := Kd.R_celln 0 HO_6.out (x8_1 : Int) p12 q12
          replace p12 := eq_true p12
          replace q12 := eq_true q12
          have HP13 := Kd.R_putg HO_6.out (x8_1 : Int) ((IntKind.u64.wrap (Int.tdiv (IntKind.u64.wrap ((IntKind.u64.wrap (x7_1 * 4294967296)) + (IntKind.u64.wrap (rd l0 x8_1)))) (IntKind.u64.wrap (a1)))) % 4294967296)
          go_wp2_with (first | ((with_reducible refine gate_store (t := 119) (p := 35) rfl ?_); refine store_event (t := 119) (p := 35) (v := ?vo_w14) (w1 := (wr.setCell ⟨go12, (x8_1 : Int).toNat, none⟩ (.int .u32 ((IntKind.u64.wrap (Int.tdiv (IntKind.u64.wrap ((IntKind.u64.wrap (x7_1 * 4294967296)) + (IntKind.u64.wrap (rd l0 x8_1)))) (IntKind.u64.wrap (a1)))) % 4294967296)))) ?hg ?ho ?hn ?hr ?_; (case ho => rfl); (case hg => rfl); (case hn => rfl); (case hr => first | (go_simp; done) | (go_simp; rfl)); intro w14 hw; have hg : wr.grownBy w14 (some go12) := (by rw [hw]; exact HP13.2); have hp_ : Kd.R (Kd.int .u32) 119 w14 w.heap.size (fun _ => True) (.slice (some ⟨go12, 0, none⟩) x6_1.length co12) y398 := (by rw [hw, Ny398.out]; exact HP13.1); clear HP13; replace HO_6 := am (hp_); replace HB := am ((by rw [hw]; exact below_set (HB.out) GB12.out : Below w.heap.size w w14)); clear hg hw hp_))
          go_roundg k1
          case measure => have := HK1.out; omega
          case rel => exact ⟨(y398), (Int.tmod (IntKind.u64.wrap ((IntKind.u64.wrap (x7_1 * 4294967296)) + (IntKind.u64.wrap (rd l0 x8_1)))) (IntKind.u64.wrap (a1))), (wrap64 (x8_1 - 1)), (rs), (rs), H', ⟨by have := HK1.out; omega⟩, ⟨fR HO_6⟩, ⟨fB HB⟩⟩
         ·
          rw [if_neg c11] at H
          exact absurd H (by simp)
       ·
        rw [if_neg c9] at H
        exact absurd H (by simp)
      ·
       rw [if_neg c8] at H
       exact absurd H (by simp)
     ·
      rw [if_neg c7] at H
      have c7b0 : decide (0 ≤ x8_1) = false := decide_eq_false c7
      clear c7
      obtain ⟨y399, Ny399⟩ : ∃ y_ : List Int, Aside0 (y_ = (([(x7_1) % 4294967296] : List Int))) := ⟨_, ⟨rfl⟩⟩; rw [← Ny399.out] at H
      simp only [Option.some.injEq, Prod.mk.injEq] at H
      obtain ⟨rfl, rfl⟩ := H
      go_wp2_with (first | ((with_reducible refine gate_dst (N := 43) rfl ?_); refine Kd.R_lit (Kd.int .u32) _ 119 ?hg (N := 43) ?hd (xs := ([(x7_1) % 4294967296] : List Int)) (inner := [.int .u32 ((x7_1) % 4294967296)]) (ok := fun _ => True) (okp := fun _ => True) ?hr ?hp (fun _ hk => hk) trivial (Below.refl _ _) (Nat.le_refl _) (by simp) ?_; (case hd => rfl); (case hg => rfl); (case hr => first | (go_simp; done) | (go_simp; rfl)); (case hp => exact (Reps.one (show Kd.M (Kd.int .u32) _ _ _ ((x7_1) % 4294967296) [.int .u32 ((x7_1) % 4294967296)] from rfl) (Reps.none _ _))); intro v400 w15 ho16 hb hg_ hnew_; clear hg_ hnew_; (first | rw [← Ny399.out] at ho16 | (simp only [Int.reduceToNat] at ho16; rw [← Ny399.out] at ho16)); have HO401 := am (Kd.R_lower (Kd.R_new' ho16 (Kd.R_lt (fR HO_6))) (below_size (fB HB))); replace HO_6 := eR HO_6 ho16 hb; replace HB := sB HB hb; clear hb ho16))
      go_ret2
      exact ⟨_, _, rz, mR HO_6 (fun _ h => h.2), mR HO401 (fun _ h => h.2), fB HB⟩
  ·
   rw [if_neg c4] at H
   exact absurd H (by simp)
 ·
  rw [if_neg c3] at H
  exact absurd H (by simp)

/-! ### spec_l02Digit: function 114 -/
set_option maxHeartbeats 8000000 in
set_option maxRecDepth 100000 in
theorem spec_l02Digit.calls (k : Nat) (A0 : Option Addr) (c0 : Nat) (l0 : List Int) (A1 : Option Addr) (c1 : Nat) (l1 : List Int) (r : Int) (w : World) (hr0 : Kd.C (Kd.int .u32) w A0 l0.length l0) (hc0 : l0.length ≤ c0) (hr1 : Kd.C (Kd.int .u32) w A1 l1.length l1) (hc1 : l1.length ≤ c1) (h : spec_l02Digit.f k l0 l1 = some r) :
  Calls Try.prog 114 #[.slice A0 l0.length c0, .slice A1 l1.length c1] w fun e w' => e = .returned (.int .u32 r) ∧ Below w.heap.size w w' := by
 have hu60 := Try.underlying60
 have HR0 := am hr0
 have HC0 := am hc0
 clear hr0 hc0
 have HR1 := am hr1
 have HC1 := am hc1
 clear hr1 hc1
 have HB := am (Below.refl w.heap.size w)
 have H : (spec_l02Digit.l0 k l0 l1 0 4294967295) = some r := h
 clear h
 have H' := am H
 clear H
 go_enter Try.func114, Try.ntmps114
 go_wp2
 go_loopg [5, 6] k (fun kq v5 v6 w' => ∃ (x5_1 : Int) (x6_1 : Int), v5 = .int .u64 x5_1 ∧ v6 = .int .u64 x6_1 ∧ Aside0 (spec_l02Digit.l0 kq l0 l1 x5_1 x6_1 = some r) ∧ Aside0 (kq ≤ k) ∧ Aside0 (Below w.heap.size w w'))
 case atStart => exact ⟨(0), (4294967295), (rs), (rs), H', ⟨Nat.le_refl _⟩, ⟨fB HB⟩⟩
 case round =>
  clear H'
  try clear c1
  try clear p2
  obtain ⟨x5_1, x6_1, rfl, rfl, HA, HK1, HB⟩ := hrel
  cases gk with
  | zero => exact absurd HA.out (by simp [spec_l02Digit.l0])
  | succ k1 =>
   have H := HA.out
   clear HA
   simp only [spec_l02Digit.l0] at H
   by_cases c3 : x5_1 < x6_1
   ·
    rw [if_pos c3] at H
    have c3b0 : decide (x5_1 < x6_1) = true := decide_eq_true c3
    clear c3
    obtain ⟨y402, Ny402⟩ : ∃ y_ : List Int, Aside0 (y_ = (([(IntKind.u64.wrap (Int.tdiv (IntKind.u64.wrap ((IntKind.u64.wrap (x5_1 + x6_1)) + 1)) 2)) % 4294967296] : List Int))) := ⟨_, ⟨rfl⟩⟩; rw [← Ny402.out] at H
    obtain ⟨t405, A4, H⟩ := ub H; try dsimp only at H
    obtain ⟨⟨t408, t409⟩, A5, H⟩ := ub H; dsimp only at H
    obtain ⟨t412, A6, H⟩ := ub H; try dsimp only at H
    by_cases c7 : t412 ≤ 0
    ·
     rw [if_pos c7] at H
     have c7b0 : decide (t412 ≤ 0) = true := decide_eq_true c7
     clear c7
     have H' := am H
     clear H
     go_wp2_with (first | ((with_reducible refine gate_dst (N := 19) rfl ?_); refine Kd.R_lit (Kd.int .u32) _ 119 ?hg (N := 19) ?hd (xs := ([(IntKind.u64.wrap (Int.tdiv (IntKind.u64.wrap ((IntKind.u64.wrap (x5_1 + x6_1)) + 1)) 2)) % 4294967296] : List Int)) (inner := [.int .u32 ((IntKind.u64.wrap (Int.tdiv (IntKind.u64.wrap ((IntKind.u64.wrap (x5_1 + x6_1)) + 1)) 2)) % 4294967296)]) (ok := fun _ => True) (okp := fun _ => True) ?hr ?hp (fun _ hk => hk) trivial (Below.refl _ _) (Nat.le_refl _) (by simp) ?_; (case hd => rfl); (case hg => rfl); (case hr => first | (go_simp; done) | (go_simp; rfl)); (case hp => exact (Reps.one (show Kd.M (Kd.int .u32) _ _ _ ((IntKind.u64.wrap (Int.tdiv (IntKind.u64.wrap ((IntKind.u64.wrap (x5_1 + x6_1)) + 1)) 2)) % 4294967296) [.int .u32 ((IntKind.u64.wrap (Int.tdiv (IntKind.u64.wrap ((IntKind.u64.wrap (x5_1 + x6_1)) + 1)) 2)) % 4294967296)] from rfl) (Reps.none _ _))); intro v403 w8 ho9 hb hg_ hnew_; clear hg_ hnew_; (first | rw [← Ny402.out] at ho9 | (simp only [Int.reduceToNat] at ho9; rw [← Ny402.out] at ho9)); have HO404 := loB ho9 HB; replace HB := sB HB hb; clear hb ho9; obtain ⟨Ao10, co10, eo10⟩ := Kd.R_slice HO404.out; subst eo10) | (refine cl 103 (some 20) Try.func103 #[.slice A1 l1.length c1, .slice Ao10 y402.length co10] ?_; (with_reducible refine (spec_l02Times.calls k1 _ _ l1 _ _ y402 t405 _ ?side1 ?side2 ?side3 ?side4 A4.out).mono ?_); (case side1 => repeat (first | exact (Kd.C_below HR1.out HB.out) | (with_reducible refine Kd.C_alloc ?_ _) | (with_reducible refine Kd.C_drewN ?_ _) | (with_reducible refine Kd.C_drew ?_))); (case side2 => exact HC1.out); (case side3 => repeat (first | exact (Kd.R_reads' HO404.out).2.2 | (with_reducible refine Kd.C_alloc ?_ _) | (with_reducible refine Kd.C_drewN ?_ _) | (with_reducible refine Kd.C_drew ?_))); (case side4 => exact (Kd.R_reads' HO404.out).2.1); rintro e w11 ⟨v406, rfl, ho0, hb⟩; refine ⟨_, rfl, ?_⟩; have HO407 := am (Kd.R_lower (Kd.R_new' ho0 (Kd.R_lt (fR HO404))) (below_size (fB HB))); replace HO404 := eR HO404 ho0 hb; replace HB := sB HB hb; clear hb ho0; obtain ⟨Ao12, co12, eo12⟩ := Kd.R_slice HO407.out; subst eo12) | (refine cl 101 (some 21) Try.func101 #[.bool false, .slice Ao12 t405.length co12] ?_; (with_reducible refine (spec_l02Make.calls k1 false _ _ t405 t408 t409 _ ?side1 ?side2 A5.out).mono ?_); (case side1 => repeat (first | exact (Kd.R_reads' HO407.out).2.2 | (with_reducible refine Kd.C_alloc ?_ _) | (with_reducible refine Kd.C_drewN ?_ _) | (with_reducible refine Kd.C_drew ?_))); (case side2 => exact (Kd.R_reads' HO407.out).2.1); rintro e w13 ⟨v410, rfl, ho0, hb⟩; refine ⟨_, rfl, ?_⟩; have HO411 := am (Kd.R_lower (Kd.R_new' (Kd.R_new' ho0 (Kd.R_lt (fR HO404))) (Kd.R_lt (fR HO407))) (below_size (fB HB))); replace HO404 := eR HO404 ho0 hb; replace HO407 := eR HO407 ho0 hb; replace HB := sB HB hb; clear hb ho0; obtain ⟨Ao14, co14, eo14⟩ := Kd.R_slice HO411.out; subst eo14) | (refine cl 109 (some 24) Try.func109 #[.slice Ao14 t409.length co14, .slice A0 l0.length c0] ?_; (with_reducible refine (spec_l02Least.calls k1 _ _ t409 _ _ l0 t412 _ ?side1 ?side2 ?side3 ?side4 A6.out).mono ?_); (case side1 => repeat (first | exact (Kd.R_reads' HO411.out).2.2 | (with_reducible refine Kd.C_alloc ?_ _) | (with_reducible refine Kd.C_drewN ?_ _) | (with_reducible refine Kd.C_drew ?_))); (case side2 => exact (Kd.R_reads' HO411.out).2.1); (case side3 => repeat (first | exact (Kd.C_below HR0.out HB.out) | (with_reducible refine Kd.C_alloc ?_ _) | (with_reducible refine Kd.C_drewN ?_ _) | (with_reducible refine Kd.C_drew ?_))); (case side4 => exact HC0.out); rintro e w' ⟨rfl, ⟨nd, rfl⟩⟩; refine ⟨_, rfl, ?_⟩))
     go_roundg k1
     case measure => have := HK1.out; omega
     case rel => exact ⟨(IntKind.u64.wrap (Int.tdiv (IntKind.u64.wrap ((IntKind.u64.wrap (x5_1 + x6_1)) + 1)) 2)), (x6_1), (rs), (rs), H', ⟨by have := HK1.out; omega⟩, ⟨fB HB⟩⟩
    ·
     rw [if_neg c7] at H
     have c7b0 : decide (t412 ≤ 0) = false := decide_eq_false c7
     clear c7
     have H' := am H
     clear H
     go_wp2_with (first | ((with_reducible refine gate_dst (N := 19) rfl ?_); refine Kd.R_lit (Kd.int .u32) _ 119 ?hg (N := 19) ?hd (xs := ([(IntKind.u64.wrap (Int.tdiv (IntKind.u64.wrap ((IntKind.u64.wrap (x5_1 + x6_1)) + 1)) 2)) % 4294967296] : List Int)) (inner := [.int .u32 ((IntKind.u64.wrap (Int.tdiv (IntKind.u64.wrap ((IntKind.u64.wrap (x5_1 + x6_1)) + 1)) 2)) % 4294967296)]) (ok := fun _ => True) (okp := fun _ => True) ?hr ?hp (fun _ hk => hk) trivial (Below.refl _ _) (Nat.le_refl _) (by simp) ?_; (case hd => rfl); (case hg => rfl); (case hr => first | (go_simp; done) | (go_simp; rfl)); (case hp => exact (Reps.one (show Kd.M (Kd.int .u32) _ _ _ ((IntKind.u64.wrap (Int.tdiv (IntKind.u64.wrap ((IntKind.u64.wrap (x5_1 + x6_1)) + 1)) 2)) % 4294967296) [.int .u32 ((IntKind.u64.wrap (Int.tdiv (IntKind.u64.wrap ((IntKind.u64.wrap (x5_1 + x6_1)) + 1)) 2)) % 4294967296)] from rfl) (Reps.none _ _))); intro v403 w15 ho16 hb hg_ hnew_; clear hg_ hnew_; (first | rw [← Ny402.out] at ho16 | (simp only [Int.reduceToNat] at ho16; rw [← Ny402.out] at ho16)); have HO404 := loB ho16 HB; replace HB := sB HB hb; clear hb ho16; obtain ⟨Ao17, co17, eo17⟩ := Kd.R_slice HO404.out; subst eo17) | (refine cl 103 (some 20) Try.func103 #[.slice A1 l1.length c1, .slice Ao17 y402.length co17] ?_; (with_reducible refine (spec_l02Times.calls k1 _ _ l1 _ _ y402 t405 _ ?side1 ?side2 ?side3 ?side4 A4.out).mono ?_); (case side1 => repeat (first | exact (Kd.C_below HR1.out HB.out) | (with_reducible refine Kd.C_alloc ?_ _) | (with_reducible refine Kd.C_drewN ?_ _) | (with_reducible refine Kd.C_drew ?_))); (case side2 => exact HC1.out); (case side3 => repeat (first | exact (Kd.R_reads' HO404.out).2.2 | (with_reducible refine Kd.C_alloc ?_ _) | (with_reducible refine Kd.C_drewN ?_ _) | (with_reducible refine Kd.C_drew ?_))); (case side4 => exact (Kd.R_reads' HO404.out).2.1); rintro e w18 ⟨v406, rfl, ho0, hb⟩; refine ⟨_, rfl, ?_⟩; have HO407 := am (Kd.R_lower (Kd.R_new' ho0 (Kd.R_lt (fR HO404))) (below_size (fB HB))); replace HO404 := eR HO404 ho0 hb; replace HB := sB HB hb; clear hb ho0; obtain ⟨Ao19, co19, eo19⟩ := Kd.R_slice HO407.out; subst eo19) | (refine cl 101 (some 21) Try.func101 #[.bool false, .slice Ao19 t405.length co19] ?_; (with_reducible refine (spec_l02Make.calls k1 false _ _ t405 t408 t409 _ ?side1 ?side2 A5.out).mono ?_); (case side1 => repeat (first | exact (Kd.R_reads' HO407.out).2.2 | (with_reducible refine Kd.C_alloc ?_ _) | (with_reducible refine Kd.C_drewN ?_ _) | (with_reducible refine Kd.C_drew ?_))); (case side2 => exact (Kd.R_reads' HO407.out).2.1); rintro e w20 ⟨v410, rfl, ho0, hb⟩; refine ⟨_, rfl, ?_⟩; have HO411 := am (Kd.R_lower (Kd.R_new' (Kd.R_new' ho0 (Kd.R_lt (fR HO404))) (Kd.R_lt (fR HO407))) (below_size (fB HB))); replace HO404 := eR HO404 ho0 hb; replace HO407 := eR HO407 ho0 hb; replace HB := sB HB hb; clear hb ho0; obtain ⟨Ao21, co21, eo21⟩ := Kd.R_slice HO411.out; subst eo21) | (refine cl 109 (some 24) Try.func109 #[.slice Ao21 t409.length co21, .slice A0 l0.length c0] ?_; (with_reducible refine (spec_l02Least.calls k1 _ _ t409 _ _ l0 t412 _ ?side1 ?side2 ?side3 ?side4 A6.out).mono ?_); (case side1 => repeat (first | exact (Kd.R_reads' HO411.out).2.2 | (with_reducible refine Kd.C_alloc ?_ _) | (with_reducible refine Kd.C_drewN ?_ _) | (with_reducible refine Kd.C_drew ?_))); (case side2 => exact (Kd.R_reads' HO411.out).2.1); (case side3 => repeat (first | exact (Kd.C_below HR0.out HB.out) | (with_reducible refine Kd.C_alloc ?_ _) | (with_reducible refine Kd.C_drewN ?_ _) | (with_reducible refine Kd.C_drew ?_))); (case side4 => exact HC0.out); rintro e w' ⟨rfl, ⟨nd, rfl⟩⟩; refine ⟨_, rfl, ?_⟩))
     go_roundg k1
     case measure => have := HK1.out; omega
     case rel => exact ⟨(x5_1), (IntKind.u64.wrap ((IntKind.u64.wrap (Int.tdiv (IntKind.u64.wrap ((IntKind.u64.wrap (x5_1 + x6_1)) + 1)) 2)) - 1)), (rs), (rs), H', ⟨by have := HK1.out; omega⟩, ⟨fB HB⟩⟩
   ·
    rw [if_neg c3] at H
    have c3b0 : decide (x5_1 < x6_1) = false := decide_eq_false c3
    clear c3
    obtain rfl := Option.some.inj H
    go_wp2
    go_ret
    exact ⟨rz, fB HB⟩

/-! ### spec_l02Long: function 111 -/
set_option maxHeartbeats 8000000 in
set_option maxRecDepth 100000 in
theorem spec_l02Long.calls (k : Nat) (A0 : Option Addr) (c0 : Nat) (l0 : List Int) (A1 : Option Addr) (c1 : Nat) (l1 : List Int) (r1 : List Int) (r2 : List Int) (w : World) (hr0 : Kd.C (Kd.int .u32) w A0 l0.length l0) (hc0 : l0.length ≤ c0) (hr1 : Kd.C (Kd.int .u32) w A1 l1.length l1) (hc1 : l1.length ≤ c1) (h : spec_l02Long.f k l0 l1 = some (r1, r2)) :
  Calls Try.prog 111 #[.slice A0 l0.length c0, .slice A1 l1.length c1] w fun e w' => ∃ v0_ v1_ : Value, e = .returned (.tuple #[v0_, v1_]) ∧ Kd.R (Kd.int .u32) 119 w' w.heap.size (fun k_ => some k_ ≠ (v1_ : Value).ownBlock) v0_ r1 ∧ Kd.R (Kd.int .u32) 119 w' w.heap.size (fun k_ => some k_ ≠ (v0_ : Value).ownBlock) v1_ r2 ∧ Below w.heap.size w w' := by
 have hu60 := Try.underlying60
 have HR0 := am hr0
 have HC0 := am hc0
 clear hr0 hc0
 have HR1 := am hr1
 have HC1 := am hc1
 clear hr1 hc1
 have HB := am (Below.refl w.heap.size w)
 have H : (if (l1.length : Int) = 1 then (if 0 < (l1.length : Int) then ((spec_l02Short.f k l0 (rd l1 0)).bind fun bt414 => (some (bt414.1, bt414.2))) else (none)) else (if 0 ≤ (l0.length : Int) then (if ((l0.length : Int) : Int).toNat ≤ 70368744177664 then (spec_l02Long.l0 k l0 l1 (List.replicate ((l0.length : Int) : Int).toNat 0) (([] : List Int)) (wrap64 ((l0.length : Int) - 1))) else (none)) else (none))) = some (r1, r2) := h
 clear h
 by_cases c3 : (l1.length : Int) = 1
 ·
  rw [if_pos c3] at H
  obtain ⟨c3b0, c3b1⟩ := bqt c3
  clear c3
  by_cases c4 : 0 < (l1.length : Int)
  ·
   rw [if_pos c4] at H
   have c4b0 : decide (0 < (l1.length : Int)) = true := decide_eq_true c4
   have c4b1 : decide (0 < l1.length) = true := decide_eq_true (by omega)
   clear c4
   obtain ⟨⟨t414, t415⟩, A5, H⟩ := ub H; dsimp only at H
   simp only [Option.some.injEq, Prod.mk.injEq] at H
   obtain ⟨rfl, rfl⟩ := H
   have p413 : 0 ≤ (0 : Int) := (by omega)
   have q413 : 0 < (l1.length : Int) := of_decide_eq_true (ha)
   obtain ⟨ad413, e413, hx413_0⟩ := Kd.at_int HR1.out 0 p413 q413
   cases e413
   have qi413 : (0 < l1.length) = True := eq_true (by omega)
   (try rw [show ((0 : Int)).toNat = 0 from rfl] at hx413_0)
   (try rw [Addr.add_zero'] at hx413_0)
   replace p413 := eq_true p413
   replace q413 := eq_true q413
   go_enter Try.func111, Try.ntmps111
   go_wp2_with (first | (refine cl 113 (some 17) Try.func113 #[.slice A0 l0.length c0, .int .u32 (rd l1 0)] ?_; (with_reducible refine (spec_l02Short.calls k _ _ l0 (rd l1 0) t414 t415 _ ?side1 ?side2 A5.out).mono ?_); (case side1 => repeat (first | exact HR0.out | (with_reducible refine Kd.C_alloc ?_ _) | (with_reducible refine Kd.C_drewN ?_ _) | (with_reducible refine Kd.C_drew ?_))); (case side2 => exact HC0.out); rintro e w6 ⟨v416, v418, rfl, ho0, ho1, hb⟩; refine ⟨_, rfl, ?_⟩; have HO417 := loB ho0 HB; have HO419 := loB ho1 HB; replace HB := sB HB hb; clear hb ho0 ho1))
   go_ret2
   exact ⟨_, _, rz, fR HO417, fR HO419, fB HB⟩
  ·
   rw [if_neg c4] at H
   exact absurd H (by simp)
 ·
  rw [if_neg c3] at H
  obtain ⟨c3b0, c3b1⟩ := bqf c3
  by_cases c7 : 0 ≤ (l0.length : Int)
  ·
   rw [if_pos c7] at H
   have c7b0 := eq_true c7
   have c7b1 : decide (0 ≤ (l0.length : Int)) = true := decide_eq_true c7
   clear c7
   by_cases c8 : ((l0.length : Int) : Int).toNat ≤ 70368744177664
   ·
    rw [if_pos c8] at H
    have c8b0 := eq_true c8
    have c8b1 : decide (((l0.length : Int) : Int).toNat ≤ 70368744177664) = true := decide_eq_true c8
    clear c8
    obtain ⟨y420, Ny420⟩ : ∃ y_ : List Int, Aside0 (y_ = (List.replicate ((l0.length : Int) : Int).toNat 0)) := ⟨_, ⟨rfl⟩⟩; rw [← Ny420.out] at H
    obtain ⟨y423, Ny423⟩ : ∃ y_ : List Int, Aside0 (y_ = (([] : List Int))) := ⟨_, ⟨rfl⟩⟩; rw [← Ny423.out] at H
    have H' := am H
    clear H
    go_enter Try.func111, Try.ntmps111
    go_wp2_with (first | ((with_reducible refine gate_dst (N := 22) rfl ?_); refine Kd.R_make (Kd.int .u32) _ 119 rfl (N := 22) rfl 58 _ _ rfl (l0.length : Int) rfl rfl Try.underlying58 (.int .u32 0) 4 info119 rfl (by decide) (by omega) 0 (ok := fun _ => True) (okp := fun _ => True) rfl (fun _ hk => hk) trivial (of_decide_eq_true (ha)) (Nat.le_trans (Nat.mul_le_mul_right _ (of_decide_eq_true (ha) : (l0.length : Int).toNat ≤ 70368744177664)) (by omega)) (Below.refl _ _) (Nat.le_refl _) ?_; intro v421 w9 ho10 hb hg_ hnew_; clear hg_ hnew_; (first | rw [← Ny420.out] at ho10 | (simp only [Int.reduceToNat] at ho10; rw [← Ny420.out] at ho10)); have HO422 := loB ho10 HB; replace HB := sB HB hb; clear hb ho10) | ((with_reducible refine gate_dst (N := 23) rfl ?_); refine Kd.R_lit (Kd.int .u32) _ 119 ?hg (N := 23) ?hd (xs := ([] : List Int)) (inner := []) (ok := fun _ => True) (okp := fun _ => True) ?hr ?hp (fun _ hk => hk) trivial (Below.refl _ _) (Nat.le_refl _) (by simp) ?_; (case hd => rfl); (case hg => rfl); (case hr => first | (go_simp; done) | (go_simp; rfl)); (case hp => exact (Reps.none _ _)); intro v424 w11 ho12 hb hg_ hnew_; clear hg_ hnew_; (first | rw [← Ny423.out] at ho12 | (simp only [Int.reduceToNat] at ho12; rw [← Ny423.out] at ho12)); have HO425 := am (Kd.R_lower (Kd.R_new' ho12 (Kd.R_lt (fR HO422))) (below_size (fB HB))); replace HO422 := eR HO422 ho12 hb; replace HB := sB HB hb; clear hb ho12))
    go_loopg [7, 8] k (fun kq v7 v8 w' => ∃ (x6_1 : List Int) (x7_1 : List Int) (x8_1 : Int), v8 = .int .i64 x8_1 ∧ Aside0 (spec_l02Long.l0 kq l0 l1 x6_1 x7_1 x8_1 = some (r1, r2)) ∧ Aside0 (kq ≤ k) ∧ Aside0 (Kd.R (Kd.int .u32) 119 w' w.heap.size (fun k_ => some k_ ≠ (v7 : Value).ownBlock) v421 x6_1) ∧ Aside0 (Kd.R (Kd.int .u32) 119 w' w.heap.size (fun k_ => some k_ ≠ (v421 : Value).ownBlock) v7 x7_1) ∧ Aside0 (Below w.heap.size w w'))
    case atStart => exact ⟨(y420), (y423), (wrap64 ((l0.length : Int) - 1)), (rs), H', ⟨Nat.le_refl _⟩, ⟨mR HO422 (fun _ h => h.2)⟩, ⟨mR HO425 (fun _ h => h.2)⟩, ⟨fB HB⟩⟩
    case round =>
     clear H'
     try clear c1
     try clear p2
     try clear c3
     try clear c3b0
     try clear c3b1
     try clear c4
     try clear c4b0
     try clear c4b1
     try clear p4
     try clear q4
     try clear hx4
     try clear qi4
     try clear p6
     try clear c7
     try clear c7b0
     try clear c7b1
     try clear c8
     try clear c8b0
     try clear c8b1
     try clear c11
     try clear hx413_0
     try clear p413
     try clear q413
     obtain ⟨x6_1, x7_1, x8_1, rfl, HA, HK1, HO_6, HO_7, HB⟩ := hrel
     cases gk with
     | zero => exact absurd HA.out (by simp [spec_l02Long.l0])
     | succ k1 =>
      have H := HA.out
      clear HA
      simp only [spec_l02Long.l0] at H
      by_cases c13 : x8_1 ≥ 0
      ·
       rw [if_pos c13] at H
       have c13b0 : decide (0 ≤ x8_1) = true := decide_eq_true c13
       clear c13
       by_cases c14 : 0 ≤ x8_1
       ·
        rw [if_pos c14] at H
        have c14b0 : decide (0 ≤ x8_1) = true := decide_eq_true c14
        clear c14
        by_cases c15 : x8_1 < (l0.length : Int)
        ·
         rw [if_pos c15] at H
         have c15b0 : decide (x8_1 < (l0.length : Int)) = true := decide_eq_true c15
         clear c15
         obtain ⟨y427, Ny427, H⟩ := uy H; try dsimp only at H
         by_cases c16 : y427.length + x7_1.length < 35184372088832
         ·
          rw [if_pos c16] at H
          have LMc16 := am c16
          clear c16
          obtain ⟨y430, Ny430⟩ : ∃ y_ : List Int, Aside0 (y_ = (y427 ++ x7_1)) := ⟨_, ⟨rfl⟩⟩; rw [← Ny430.out] at H
          obtain ⟨⟨t433, t434⟩, A17, H⟩ := ub H; dsimp only at H
          obtain ⟨t437, A18, H⟩ := ub H; try dsimp only at H
          by_cases c19 : t437 < 0
          ·
           rw [if_pos c19] at H
           have c19b0 : decide (t437 < 0) = true := decide_eq_true c19
           clear c19
           have H' := am H
           clear H
           have p426 : 0 ≤ (x8_1 : Int) := of_decide_eq_true (ha)
           have q426 : x8_1 < (l0.length : Int) := of_decide_eq_true (ha)
           obtain ⟨ad426, e426, hx426_0⟩ := Kd.at_int HR0.out x8_1 p426 q426
           cases e426
           replace hx426_0 := (HB.out.cell (World.block_lt_of_cell? w _ hx426_0)).trans hx426_0
           replace p426 := eq_true p426
           replace q426 := eq_true q426
           go_wp2_with (first | ((with_reducible refine gate_dst (N := 35) rfl ?_); refine Kd.R_lit (Kd.int .u32) _ 119 ?hg (N := 35) ?hd (xs := ([rd l0 x8_1] : List Int)) (inner := [.int .u32 (rd l0 x8_1)]) (ok := fun _ => True) (okp := fun _ => True) ?hr ?hp (fun _ hk => hk) trivial (Below.refl _ _) (Nat.le_refl _) (by simp) ?_; (case hd => rfl); (case hg => rfl); (case hr => first | (go_simp; done) | (go_simp; rfl)); (case hp => exact (Reps.one (show Kd.M (Kd.int .u32) _ _ _ (rd l0 x8_1) [.int .u32 (rd l0 x8_1)] from rfl) (Reps.none _ _))); intro v428 w20 ho21 hb hg_ hnew_; clear hg_ hnew_; (first | rw [← Ny427.out] at ho21 | (simp only [Int.reduceToNat] at ho21; rw [← Ny427.out] at ho21)); have HO429 := am (Kd.R_lower (Kd.R_new' (Kd.R_new' ho21 (Kd.R_lt (fR HO_6))) (Kd.R_lt (fR HO_7))) (below_size (fB HB))); replace HO_6 := eR HO_6 ho21 hb; replace HO_7 := eR HO_7 ho21 hb; replace HB := sB HB hb; clear hb ho21; obtain ⟨Ao23, co23, eo23⟩ := Kd.R_slice HO_7.out; subst eo23) | ((with_reducible refine gate_builtin (b := .append) (xs := #[.tmp 35, .tmp 36]) rfl ?_); at_builtin; refine Kd.R_append_rows (Kd.int .u32) (w0 := w) w.heap.size rfl (.tmp 35) (.tmp 36) 58 119 (.int .u32 0) 4 rfl Try.underlying58 info119 rfl (by decide) (by omega) v428 y427 x7_1 _ _ _ (fun k_ => some k_ ≠ (v421 : Value).ownBlock ∧ some k_ ≠ (.slice Ao23 x7_1.length co23 : Value).ownBlock) (fun _ => False) rfl rfl ?aO ?aR (fun _ _ h => h) (fun _ h => h.elim) ?aF ?aB ?aS ?aL ?_; (case aR => repeat (first | exact (Kd.R_reads' HO_7.out).2.2 | (with_reducible refine Kd.C_alloc ?_ _) | (with_reducible refine Kd.C_drewN ?_ _) | (with_reducible refine Kd.C_drew ?_))); (case aB => exact (fB HB)); (case aF => exact (fun k_ hk => ⟨Kd.fresh' (Kd.R_lt (fR HO_6)) k_ hk, Kd.fresh' (Kd.R_lt (fR HO_7)) k_ hk⟩)); (case aO => exact (mR HO429 (fun _ h => by refine ⟨?_, ?_⟩ <;> first | exact h.1.1 | exact h.1.2 | exact h.2 | exact h.1 | exact h.2.1 | exact h.2.2 | exact h.1.1.1 | exact h.1.1.2 | exact h.1.2.1 | exact h.1.2.2 | exact h.2.1.1 | exact h.2.1.2 | exact h.2.2.1 | exact h.2.2.2))); (case aS => exact (below_size (fB HB))); (case aL => have := LMc16.out; omega); intro v431 w22 ho hb hg hat; rw [← Ny430.out] at ho; replace HO_6 := am (Kd.R_after (ok := (fun k_ => some k_ ≠ (.slice Ao23 x7_1.length co23 : Value).ownBlock)) (fR HO_6) hg hat); replace HO_7 := am (Kd.R_after (ok := (fun k_ => some k_ ≠ (v421 : Value).ownBlock)) (fR HO_7) hg hat); replace HB := am (hb); have HO432 := am (ho); clear HO429; clear ho hb hg hat; obtain ⟨Ao24, co24, eo24⟩ := Kd.R_slice HO432.out; subst eo24) | (refine cl 101 (some 38) Try.func101 #[.bool false, .slice Ao24 y430.length co24] ?_; (with_reducible refine (spec_l02Make.calls k1 false _ _ y430 t433 t434 _ ?side1 ?side2 A17.out).mono ?_); (case side1 => repeat (first | exact (Kd.R_reads' HO432.out).2.2 | (with_reducible refine Kd.C_alloc ?_ _) | (with_reducible refine Kd.C_drewN ?_ _) | (with_reducible refine Kd.C_drew ?_))); (case side2 => exact (Kd.R_reads' HO432.out).2.1); rintro e w25 ⟨v435, rfl, ho0, hb⟩; refine ⟨_, rfl, ?_⟩; have HO436 := am (Kd.R_lower (Kd.R_new' (Kd.R_new' (Kd.R_new' ho0 (Kd.R_lt (fR HO_6))) (Kd.R_lt (fR HO_7))) (Kd.R_lt (fR HO432))) (below_size (fB HB))); replace HO_6 := eR HO_6 ho0 hb; replace HO_7 := eR HO_7 ho0 hb; replace HO432 := eR HO432 ho0 hb; replace HB := sB HB hb; clear hb ho0; obtain ⟨Ao26, co26, eo26⟩ := Kd.R_slice HO436.out; subst eo26) | (refine cl 109 (some 42) Try.func109 #[.slice Ao26 t434.length co26, .slice A1 l1.length c1] ?_; (with_reducible refine (spec_l02Least.calls k1 _ _ t434 _ _ l1 t437 _ ?side1 ?side2 ?side3 ?side4 A18.out).mono ?_); (case side1 => repeat (first | exact (Kd.R_reads' HO436.out).2.2 | (with_reducible refine Kd.C_alloc ?_ _) | (with_reducible refine Kd.C_drewN ?_ _) | (with_reducible refine Kd.C_drew ?_))); (case side2 => exact (Kd.R_reads' HO436.out).2.1); (case side3 => repeat (first | exact (Kd.C_below HR1.out HB.out) | (with_reducible refine Kd.C_alloc ?_ _) | (with_reducible refine Kd.C_drewN ?_ _) | (with_reducible refine Kd.C_drew ?_))); (case side4 => exact HC1.out); rintro e w' ⟨rfl, ⟨nd, rfl⟩⟩; refine ⟨_, rfl, ?_⟩))
           go_roundg k1
           case measure => have := HK1.out; omega
           case rel => exact ⟨(x6_1), (t434), (wrap64 (x8_1 - 1)), (rs), H', ⟨by have := HK1.out; omega⟩, ⟨mR HO_6 (fun _ h => h.2)⟩, ⟨mR HO436 (fun _ h => h.1.1.2)⟩, ⟨fB HB⟩⟩
          ·
           rw [if_neg c19] at H
           have c19b0 : decide (t437 < 0) = false := decide_eq_false c19
           clear c19
           obtain ⟨t438, A27, H⟩ := ub H; try dsimp only at H
           by_cases c28 : x8_1 < (x6_1.length : Int)
           ·
            rw [if_pos c28] at H
            have c28b0 : decide (x8_1 < (x6_1.length : Int)) = true := decide_eq_true c28
            clear c28
            obtain ⟨y439, Ny439⟩ : ∃ y_ : List Int, Aside0 (y_ = (x6_1.set (x8_1 : Int).toNat t438)) := ⟨_, ⟨rfl⟩⟩; rw [← Ny439.out] at H
            obtain ⟨y440, Ny440⟩ : ∃ y_ : List Int, Aside0 (y_ = (([t438] : List Int))) := ⟨_, ⟨rfl⟩⟩; rw [← Ny440.out] at H
            obtain ⟨t443, A30, H⟩ := ub H; try dsimp only at H
            obtain ⟨⟨t446, t447⟩, A31, H⟩ := ub H; dsimp only at H
            obtain ⟨t450, A32, H⟩ := ub H; try dsimp only at H
            obtain ⟨⟨t453, t454⟩, A33, H⟩ := ub H; dsimp only at H
            have H' := am H
            clear H
            have p426 : 0 ≤ (x8_1 : Int) := of_decide_eq_true (ha)
            have q426 : x8_1 < (l0.length : Int) := of_decide_eq_true (ha)
            obtain ⟨ad426, e426, hx426_0⟩ := Kd.at_int HR0.out x8_1 p426 q426
            cases e426
            replace hx426_0 := (HB.out.cell (World.block_lt_of_cell? w _ hx426_0)).trans hx426_0
            replace p426 := eq_true p426
            replace q426 := eq_true q426
            go_wp2_with (first | ((with_reducible refine gate_dst (N := 35) rfl ?_); refine Kd.R_lit (Kd.int .u32) _ 119 ?hg (N := 35) ?hd (xs := ([rd l0 x8_1] : List Int)) (inner := [.int .u32 (rd l0 x8_1)]) (ok := fun _ => True) (okp := fun _ => True) ?hr ?hp (fun _ hk => hk) trivial (Below.refl _ _) (Nat.le_refl _) (by simp) ?_; (case hd => rfl); (case hg => rfl); (case hr => first | (go_simp; done) | (go_simp; rfl)); (case hp => exact (Reps.one (show Kd.M (Kd.int .u32) _ _ _ (rd l0 x8_1) [.int .u32 (rd l0 x8_1)] from rfl) (Reps.none _ _))); intro v428 w34 ho35 hb hg_ hnew_; clear hg_ hnew_; (first | rw [← Ny427.out] at ho35 | (simp only [Int.reduceToNat] at ho35; rw [← Ny427.out] at ho35)); have HO429 := am (Kd.R_lower (Kd.R_new' (Kd.R_new' ho35 (Kd.R_lt (fR HO_6))) (Kd.R_lt (fR HO_7))) (below_size (fB HB))); replace HO_6 := eR HO_6 ho35 hb; replace HO_7 := eR HO_7 ho35 hb; replace HB := sB HB hb; clear hb ho35; obtain ⟨Ao37, co37, eo37⟩ := Kd.R_slice HO_7.out; subst eo37) | ((with_reducible refine gate_builtin (b := .append) (xs := #[.tmp 35, .tmp 36]) rfl ?_); at_builtin; refine Kd.R_append_rows (Kd.int .u32) (w0 := w) w.heap.size rfl (.tmp 35) (.tmp 36) 58 119 (.int .u32 0) 4 rfl Try.underlying58 info119 rfl (by decide) (by omega) v428 y427 x7_1 _ _ _ (fun k_ => some k_ ≠ (v421 : Value).ownBlock ∧ some k_ ≠ (.slice Ao37 x7_1.length co37 : Value).ownBlock) (fun _ => False) rfl rfl ?aO ?aR (fun _ _ h => h) (fun _ h => h.elim) ?aF ?aB ?aS ?aL ?_; (case aR => repeat (first | exact (Kd.R_reads' HO_7.out).2.2 | (with_reducible refine Kd.C_alloc ?_ _) | (with_reducible refine Kd.C_drewN ?_ _) | (with_reducible refine Kd.C_drew ?_))); (case aB => exact (fB HB)); (case aF => exact (fun k_ hk => ⟨Kd.fresh' (Kd.R_lt (fR HO_6)) k_ hk, Kd.fresh' (Kd.R_lt (fR HO_7)) k_ hk⟩)); (case aO => exact (mR HO429 (fun _ h => by refine ⟨?_, ?_⟩ <;> first | exact h.1.1 | exact h.1.2 | exact h.2 | exact h.1 | exact h.2.1 | exact h.2.2 | exact h.1.1.1 | exact h.1.1.2 | exact h.1.2.1 | exact h.1.2.2 | exact h.2.1.1 | exact h.2.1.2 | exact h.2.2.1 | exact h.2.2.2))); (case aS => exact (below_size (fB HB))); (case aL => have := LMc16.out; omega); intro v431 w36 ho hb hg hat; rw [← Ny430.out] at ho; replace HO_6 := am (Kd.R_after (ok := (fun k_ => some k_ ≠ (.slice Ao37 x7_1.length co37 : Value).ownBlock)) (fR HO_6) hg hat); replace HO_7 := am (Kd.R_after (ok := (fun k_ => some k_ ≠ (v421 : Value).ownBlock)) (fR HO_7) hg hat); replace HB := am (hb); have HO432 := am (ho); clear HO429; clear ho hb hg hat; obtain ⟨Ao38, co38, eo38⟩ := Kd.R_slice HO432.out; subst eo38) | (refine cl 101 (some 38) Try.func101 #[.bool false, .slice Ao38 y430.length co38] ?_; (with_reducible refine (spec_l02Make.calls k1 false _ _ y430 t433 t434 _ ?side1 ?side2 A17.out).mono ?_); (case side1 => repeat (first | exact (Kd.R_reads' HO432.out).2.2 | (with_reducible refine Kd.C_alloc ?_ _) | (with_reducible refine Kd.C_drewN ?_ _) | (with_reducible refine Kd.C_drew ?_))); (case side2 => exact (Kd.R_reads' HO432.out).2.1); rintro e w39 ⟨v435, rfl, ho0, hb⟩; refine ⟨_, rfl, ?_⟩; have HO436 := am (Kd.R_lower (Kd.R_new' (Kd.R_new' (Kd.R_new' ho0 (Kd.R_lt (fR HO_6))) (Kd.R_lt (fR HO_7))) (Kd.R_lt (fR HO432))) (below_size (fB HB))); replace HO_6 := eR HO_6 ho0 hb; replace HO_7 := eR HO_7 ho0 hb; replace HO432 := eR HO432 ho0 hb; replace HB := sB HB hb; clear hb ho0; obtain ⟨Ao40, co40, eo40⟩ := Kd.R_slice HO436.out; subst eo40) | (refine cl 109 (some 42) Try.func109 #[.slice Ao40 t434.length co40, .slice A1 l1.length c1] ?_; (with_reducible refine (spec_l02Least.calls k1 _ _ t434 _ _ l1 t437 _ ?side1 ?side2 ?side3 ?side4 A18.out).mono ?_); (case side1 => repeat (first | exact (Kd.R_reads' HO436.out).2.2 | (with_reducible refine Kd.C_alloc ?_ _) | (with_reducible refine Kd.C_drewN ?_ _) | (with_reducible refine Kd.C_drew ?_))); (case side2 => exact (Kd.R_reads' HO436.out).2.1); (case side3 => repeat (first | exact (Kd.C_below HR1.out HB.out) | (with_reducible refine Kd.C_alloc ?_ _) | (with_reducible refine Kd.C_drewN ?_ _) | (with_reducible refine Kd.C_drew ?_))); (case side4 => exact HC1.out); rintro e w' ⟨rfl, ⟨nd, rfl⟩⟩; refine ⟨_, rfl, ?_⟩; (try (rw [drewN_self w39]; generalize hq_ : World.drewN w39 _ = w39; have n0_ : Aside0 (Kd.R (Kd.int .u32) 119 w39 w.heap.size (fun k_ => some k_ ≠ (.slice Ao40 t434.length co40 : Value).ownBlock ∧ some k_ ≠ (v421 : Value).ownBlock ∧ some k_ ≠ (.slice Ao37 x7_1.length co37 : Value).ownBlock) (.slice Ao38 y430.length co38) y430) := ⟨by rw [← hq_]; exact (mR HO432 (fun _ h => by refine ⟨?_, ⟨?_, ?_⟩⟩ <;> first | exact h.1.1 | exact h.1.2 | exact h.2 | exact h.1 | exact h.2.1 | exact h.2.2 | exact h.1.1.1 | exact h.1.1.2 | exact h.1.2.1 | exact h.1.2.2 | exact h.2.1.1 | exact h.2.1.2 | exact h.2.2.1 | exact h.2.2.2))⟩; have n1_ : Aside0 (Kd.R (Kd.int .u32) 119 w39 w.heap.size (fun k_ => some k_ ≠ (.slice Ao38 y430.length co38 : Value).ownBlock ∧ some k_ ≠ (v421 : Value).ownBlock ∧ some k_ ≠ (.slice Ao37 x7_1.length co37 : Value).ownBlock) (.slice Ao40 t434.length co40) t434) := ⟨by rw [← hq_]; exact (mR HO436 (fun _ h => by refine ⟨?_, ⟨?_, ?_⟩⟩ <;> first | exact h.1.1 | exact h.1.2 | exact h.2 | exact h.1 | exact h.2.1 | exact h.2.2 | exact h.1.1.1 | exact h.1.1.2 | exact h.1.2.1 | exact h.1.2.2 | exact h.2.1.1 | exact h.2.1.2 | exact h.2.2.1 | exact h.2.2.2))⟩; have n2_ : Aside0 (Kd.R (Kd.int .u32) 119 w39 w.heap.size (fun k_ => some k_ ≠ (.slice Ao38 y430.length co38 : Value).ownBlock ∧ some k_ ≠ (.slice Ao40 t434.length co40 : Value).ownBlock ∧ some k_ ≠ (.slice Ao37 x7_1.length co37 : Value).ownBlock) v421 x6_1) := ⟨by rw [← hq_]; exact (mR HO_6 (fun _ h => by refine ⟨?_, ⟨?_, ?_⟩⟩ <;> first | exact h.1.1 | exact h.1.2 | exact h.2 | exact h.1 | exact h.2.1 | exact h.2.2 | exact h.1.1.1 | exact h.1.1.2 | exact h.1.2.1 | exact h.1.2.2 | exact h.2.1.1 | exact h.2.1.2 | exact h.2.2.1 | exact h.2.2.2))⟩; have n3_ : Aside0 (Kd.R (Kd.int .u32) 119 w39 w.heap.size (fun k_ => some k_ ≠ (.slice Ao38 y430.length co38 : Value).ownBlock ∧ some k_ ≠ (.slice Ao40 t434.length co40 : Value).ownBlock ∧ some k_ ≠ (v421 : Value).ownBlock) (.slice Ao37 x7_1.length co37) x7_1) := ⟨by rw [← hq_]; exact (mR HO_7 (fun _ h => by refine ⟨?_, ⟨?_, ?_⟩⟩ <;> first | exact h.1.1 | exact h.1.2 | exact h.2 | exact h.1 | exact h.2.1 | exact h.2.2 | exact h.1.1.1 | exact h.1.1.2 | exact h.1.2.1 | exact h.1.2.2 | exact h.2.1.1 | exact h.2.1.2 | exact h.2.2.1 | exact h.2.2.2))⟩; have n4_ : Aside0 (Below w.heap.size w w39) := ⟨by rw [← hq_]; exact (fB HB)⟩; clear HO432 HO436 HO_6 HO_7 HB hq_; have HO432 := n0_; have HO436 := n1_; have HO_6 := n2_; have HO_7 := n3_; have HB := n4_; clear n0_ n1_ n2_ n3_ n4_))) | (refine cl 114 (some 46) Try.func114 #[.slice Ao40 t434.length co40, .slice A1 l1.length c1] ?_; (with_reducible refine (spec_l02Digit.calls k1 _ _ t434 _ _ l1 t438 _ ?side1 ?side2 ?side3 ?side4 A27.out).mono ?_); (case side1 => repeat (first | exact (Kd.R_reads' HO436.out).2.2 | (with_reducible refine Kd.C_alloc ?_ _) | (with_reducible refine Kd.C_drewN ?_ _) | (with_reducible refine Kd.C_drew ?_))); (case side2 => exact (Kd.R_reads' HO436.out).2.1); (case side3 => repeat (first | exact (Kd.C_below HR1.out HB.out) | (with_reducible refine Kd.C_alloc ?_ _) | (with_reducible refine Kd.C_drewN ?_ _) | (with_reducible refine Kd.C_drew ?_))); (case side4 => exact HC1.out); rintro e w41 ⟨rfl, hb⟩; refine ⟨_, rfl, ?_⟩; replace HO_6 := RB HO_6 hb; replace HO_7 := RB HO_7 hb; replace HO432 := RB HO432 hb; replace HO436 := RB HO436 hb; replace HB := sB HB hb; clear hb; have p29 : 0 ≤ (x8_1 : Int) := of_decide_eq_true (ha); have q29 : (x8_1 : Int) < ((x6_1.length : Int) : Int) := of_decide_eq_true (ha); obtain ⟨go29, co29, eo29, gb29, gl29, cl29, HG29⟩ := Kd.R_form HO_6.out (by omega); (first | cases eo29 | (injection eo29 with ea_ en_ ec_; (first | subst ea_ | (injection ea_ with ea_; subst ea_)); subst ec_; clear en_)); have GB29 := am gb29; have GG29 := am HG29; clear gb29 gl29 HG29; obtain ⟨hx29_0, hf29_0⟩ := Kd.R_celln 0 HO_6.out (x8_1 : Int) p29 q29; replace p29 := eq_true p29; replace q29 := eq_true q29; have n_ := am (Kd.R_mono (ok' := (fun k_ => some k_ ≠ (.slice Ao37 x7_1.length co37 : Value).ownBlock ∧ some k_ ≠ (.slice Ao38 y430.length co38 : Value).ownBlock ∧ some k_ ≠ (.slice Ao40 t434.length co40 : Value).ownBlock)) HO_6.out (fun k_ hk => by refine ⟨?_, ⟨?_, ?_⟩⟩ <;> first | exact hk.1.1 | exact hk.1.2 | exact hk.2 | exact hk.1 | exact hk.2.1 | exact hk.2.2 | exact hk.1.1.1 | exact hk.1.1.2 | exact hk.1.2.1 | exact hk.1.2.2 | exact hk.2.1.1 | exact hk.2.1.2 | exact hk.2.2.1 | exact hk.2.2.2)); clear HO_6; have HO_6 := n_; clear n_; obtain ⟨hy42_, hz42_⟩ := Kd.R_celln 0 HO_6.out (x8_1 : Int) (of_decide_eq_true (ha)) (of_decide_eq_true (ha)); have HP42 := Kd.R_putg HO_6.out (x8_1 : Int) t438) | ((with_reducible refine gate_store (t := 119) (p := 50) rfl ?_); refine store_event (t := 119) (p := 50) (v := ?vo_w43) (w1 := (w41.setCell ⟨go29, (x8_1 : Int).toNat, none⟩ (.int .u32 t438))) ?hg ?ho ?hn ?hr ?_; (case ho => rfl); (case hg => rfl); (case hn => rfl); (case hr => first | (go_simp; done) | (go_simp; rfl)); intro w43 hw; have hg : w41.grownBy w43 (some go29) := (by rw [hw]; exact HP42.2); have hp_ : Kd.R (Kd.int .u32) 119 w43 w.heap.size (fun k_ => some k_ ≠ (.slice Ao37 x7_1.length co37 : Value).ownBlock ∧ some k_ ≠ (.slice Ao38 y430.length co38 : Value).ownBlock ∧ some k_ ≠ (.slice Ao40 t434.length co40 : Value).ownBlock) (.slice (some ⟨go29, 0, none⟩) x6_1.length co29) y439 := (by rw [hw, Ny439.out]; exact HP42.1); clear HP42; replace HO_6 := am (hp_); replace HO_7 := am (Kd.R_after (v := (.slice (some ⟨go29, 0, none⟩) x6_1.length co29)) (v1 := (.slice (some ⟨go29, 0, none⟩) x6_1.length co29)) (ok := (fun k_ => some k_ ≠ (.slice Ao38 y430.length co38 : Value).ownBlock ∧ some k_ ≠ (.slice Ao40 t434.length co40 : Value).ownBlock)) (mR HO_7 (fun _ h => by refine ⟨⟨?_, ?_⟩, ?_⟩ <;> first | exact h.1.1 | exact h.1.2 | exact h.2 | exact h.1 | exact h.2.1 | exact h.2.2 | exact h.1.1.1 | exact h.1.1.2 | exact h.1.2.1 | exact h.1.2.2 | exact h.2.1.1 | exact h.2.1.2 | exact h.2.2.1 | exact h.2.2.2)) hg (.inl rfl)); replace HO432 := am (Kd.R_after (v := (.slice (some ⟨go29, 0, none⟩) x6_1.length co29)) (v1 := (.slice (some ⟨go29, 0, none⟩) x6_1.length co29)) (ok := (fun k_ => some k_ ≠ (.slice Ao37 x7_1.length co37 : Value).ownBlock ∧ some k_ ≠ (.slice Ao40 t434.length co40 : Value).ownBlock)) (mR HO432 (fun _ h => by refine ⟨⟨?_, ?_⟩, ?_⟩ <;> first | exact h.1.1 | exact h.1.2 | exact h.2 | exact h.1 | exact h.2.1 | exact h.2.2 | exact h.1.1.1 | exact h.1.1.2 | exact h.1.2.1 | exact h.1.2.2 | exact h.2.1.1 | exact h.2.1.2 | exact h.2.2.1 | exact h.2.2.2)) hg (.inl rfl)); replace HO436 := am (Kd.R_after (v := (.slice (some ⟨go29, 0, none⟩) x6_1.length co29)) (v1 := (.slice (some ⟨go29, 0, none⟩) x6_1.length co29)) (ok := (fun k_ => some k_ ≠ (.slice Ao37 x7_1.length co37 : Value).ownBlock ∧ some k_ ≠ (.slice Ao38 y430.length co38 : Value).ownBlock)) (mR HO436 (fun _ h => by refine ⟨⟨?_, ?_⟩, ?_⟩ <;> first | exact h.1.1 | exact h.1.2 | exact h.2 | exact h.1 | exact h.2.1 | exact h.2.2 | exact h.1.1.1 | exact h.1.1.2 | exact h.1.2.1 | exact h.1.2.2 | exact h.2.1.1 | exact h.2.1.2 | exact h.2.2.1 | exact h.2.2.2)) hg (.inl rfl)); replace HB := am ((by rw [hw]; exact below_set (HB.out) GB29.out : Below w.heap.size w w43)); clear hg hw hp_) | ((with_reducible refine gate_dst (N := 54) rfl ?_); refine Kd.R_lit (Kd.int .u32) _ 119 ?hg (N := 54) ?hd (xs := ([t438] : List Int)) (inner := [.int .u32 t438]) (ok := fun _ => True) (okp := fun _ => True) ?hr ?hp (fun _ hk => hk) trivial (Below.refl _ _) (Nat.le_refl _) (by simp) ?_; (case hd => rfl); (case hg => rfl); (case hr => first | (go_simp; done) | (go_simp; rfl)); (case hp => exact (Reps.one (show Kd.M (Kd.int .u32) _ _ _ t438 [.int .u32 t438] from rfl) (Reps.none _ _))); intro v441 w44 ho45 hb hg_ hnew_; clear hg_ hnew_; (first | rw [← Ny440.out] at ho45 | (simp only [Int.reduceToNat] at ho45; rw [← Ny440.out] at ho45)); have HO442 := am (Kd.R_lower (Kd.R_new' (Kd.R_new' (Kd.R_new' (Kd.R_new' ho45 (Kd.R_lt (fR HO_6))) (Kd.R_lt (fR HO_7))) (Kd.R_lt (fR HO432))) (Kd.R_lt (fR HO436))) (below_size (fB HB))); replace HO_6 := eR HO_6 ho45 hb; replace HO_7 := eR HO_7 ho45 hb; replace HO432 := eR HO432 ho45 hb; replace HO436 := eR HO436 ho45 hb; replace HB := sB HB hb; clear hb ho45; obtain ⟨Ao46, co46, eo46⟩ := Kd.R_slice HO442.out; subst eo46) | (refine cl 103 (some 55) Try.func103 #[.slice A1 l1.length c1, .slice Ao46 y440.length co46] ?_; (with_reducible refine (spec_l02Times.calls k1 _ _ l1 _ _ y440 t443 _ ?side1 ?side2 ?side3 ?side4 A30.out).mono ?_); (case side1 => repeat (first | exact (Kd.C_below HR1.out HB.out) | (with_reducible refine Kd.C_alloc ?_ _) | (with_reducible refine Kd.C_drewN ?_ _) | (with_reducible refine Kd.C_drew ?_))); (case side2 => exact HC1.out); (case side3 => repeat (first | exact (Kd.R_reads' HO442.out).2.2 | (with_reducible refine Kd.C_alloc ?_ _) | (with_reducible refine Kd.C_drewN ?_ _) | (with_reducible refine Kd.C_drew ?_))); (case side4 => exact (Kd.R_reads' HO442.out).2.1); rintro e w47 ⟨v444, rfl, ho0, hb⟩; refine ⟨_, rfl, ?_⟩; have HO445 := am (Kd.R_lower (Kd.R_new' (Kd.R_new' (Kd.R_new' (Kd.R_new' (Kd.R_new' ho0 (Kd.R_lt (fR HO_6))) (Kd.R_lt (fR HO_7))) (Kd.R_lt (fR HO432))) (Kd.R_lt (fR HO436))) (Kd.R_lt (fR HO442))) (below_size (fB HB))); replace HO_6 := eR HO_6 ho0 hb; replace HO_7 := eR HO_7 ho0 hb; replace HO432 := eR HO432 ho0 hb; replace HO436 := eR HO436 ho0 hb; replace HO442 := eR HO442 ho0 hb; replace HB := sB HB hb; clear hb ho0; obtain ⟨Ao48, co48, eo48⟩ := Kd.R_slice HO445.out; subst eo48) | (refine cl 101 (some 56) Try.func101 #[.bool false, .slice Ao48 t443.length co48] ?_; (with_reducible refine (spec_l02Make.calls k1 false _ _ t443 t446 t447 _ ?side1 ?side2 A31.out).mono ?_); (case side1 => repeat (first | exact (Kd.R_reads' HO445.out).2.2 | (with_reducible refine Kd.C_alloc ?_ _) | (with_reducible refine Kd.C_drewN ?_ _) | (with_reducible refine Kd.C_drew ?_))); (case side2 => exact (Kd.R_reads' HO445.out).2.1); rintro e w49 ⟨v448, rfl, ho0, hb⟩; refine ⟨_, rfl, ?_⟩; have HO449 := am (Kd.R_lower (Kd.R_new' (Kd.R_new' (Kd.R_new' (Kd.R_new' (Kd.R_new' (Kd.R_new' ho0 (Kd.R_lt (fR HO_6))) (Kd.R_lt (fR HO_7))) (Kd.R_lt (fR HO432))) (Kd.R_lt (fR HO436))) (Kd.R_lt (fR HO442))) (Kd.R_lt (fR HO445))) (below_size (fB HB))); replace HO_6 := eR HO_6 ho0 hb; replace HO_7 := eR HO_7 ho0 hb; replace HO432 := eR HO432 ho0 hb; replace HO436 := eR HO436 ho0 hb; replace HO442 := eR HO442 ho0 hb; replace HO445 := eR HO445 ho0 hb; replace HB := sB HB hb; clear hb ho0; obtain ⟨Ao50, co50, eo50⟩ := Kd.R_slice HO449.out; subst eo50) | (refine cl 110 (some 58) Try.func110 #[.slice Ao40 t434.length co40, .slice Ao50 t447.length co50] ?_; (with_reducible refine (spec_l02Less.calls k1 _ _ t434 _ _ t447 t450 _ ?side1 ?side2 ?side3 ?side4 A32.out).mono ?_); (case side1 => repeat (first | exact (Kd.R_reads' HO436.out).2.2 | (with_reducible refine Kd.C_alloc ?_ _) | (with_reducible refine Kd.C_drewN ?_ _) | (with_reducible refine Kd.C_drew ?_))); (case side2 => exact (Kd.R_reads' HO436.out).2.1); (case side3 => repeat (first | exact (Kd.R_reads' HO449.out).2.2 | (with_reducible refine Kd.C_alloc ?_ _) | (with_reducible refine Kd.C_drewN ?_ _) | (with_reducible refine Kd.C_drew ?_))); (case side4 => exact (Kd.R_reads' HO449.out).2.1); rintro e w51 ⟨v451, rfl, ho0, hb⟩; refine ⟨_, rfl, ?_⟩; have HO452 := am (Kd.R_lower (Kd.R_new' (Kd.R_new' (Kd.R_new' (Kd.R_new' (Kd.R_new' (Kd.R_new' (Kd.R_new' ho0 (Kd.R_lt (fR HO_6))) (Kd.R_lt (fR HO_7))) (Kd.R_lt (fR HO432))) (Kd.R_lt (fR HO436))) (Kd.R_lt (fR HO442))) (Kd.R_lt (fR HO445))) (Kd.R_lt (fR HO449))) (below_size (fB HB))); replace HO_6 := eR HO_6 ho0 hb; replace HO_7 := eR HO_7 ho0 hb; replace HO432 := eR HO432 ho0 hb; replace HO436 := eR HO436 ho0 hb; replace HO442 := eR HO442 ho0 hb; replace HO445 := eR HO445 ho0 hb; replace HO449 := eR HO449 ho0 hb; replace HB := sB HB hb; clear hb ho0; obtain ⟨Ao52, co52, eo52⟩ := Kd.R_slice HO452.out; subst eo52) | (refine cl 101 (some 59) Try.func101 #[.bool false, .slice Ao52 t450.length co52] ?_; (with_reducible refine (spec_l02Make.calls k1 false _ _ t450 t453 t454 _ ?side1 ?side2 A33.out).mono ?_); (case side1 => repeat (first | exact (Kd.R_reads' HO452.out).2.2 | (with_reducible refine Kd.C_alloc ?_ _) | (with_reducible refine Kd.C_drewN ?_ _) | (with_reducible refine Kd.C_drew ?_))); (case side2 => exact (Kd.R_reads' HO452.out).2.1); rintro e w53 ⟨v455, rfl, ho0, hb⟩; refine ⟨_, rfl, ?_⟩; have HO456 := am (Kd.R_lower (Kd.R_new' (Kd.R_new' (Kd.R_new' (Kd.R_new' (Kd.R_new' (Kd.R_new' (Kd.R_new' (Kd.R_new' ho0 (Kd.R_lt (fR HO_6))) (Kd.R_lt (fR HO_7))) (Kd.R_lt (fR HO432))) (Kd.R_lt (fR HO436))) (Kd.R_lt (fR HO442))) (Kd.R_lt (fR HO445))) (Kd.R_lt (fR HO449))) (Kd.R_lt (fR HO452))) (below_size (fB HB))); replace HO_6 := eR HO_6 ho0 hb; replace HO_7 := eR HO_7 ho0 hb; replace HO432 := eR HO432 ho0 hb; replace HO436 := eR HO436 ho0 hb; replace HO442 := eR HO442 ho0 hb; replace HO445 := eR HO445 ho0 hb; replace HO449 := eR HO449 ho0 hb; replace HO452 := eR HO452 ho0 hb; replace HB := sB HB hb; clear hb ho0))
            go_roundg k1
            case measure => have := HK1.out; omega
            case rel => exact ⟨(y439), (t454), (wrap64 (x8_1 - 1)), (rs), H', ⟨by have := HK1.out; omega⟩, ⟨mR HO_6 (fun _ h => h.2)⟩, ⟨mR HO456 (fun _ h => h.1.1.1.1.1.1.1.2)⟩, ⟨fB HB⟩⟩
           ·
            rw [if_neg c28] at H
            exact absurd H (by simp)
         ·
          rw [if_neg c16] at H
          exact absurd H (by simp)
        ·
         rw [if_neg c15] at H
         exact absurd H (by simp)
       ·
        rw [if_neg c14] at H
        exact absurd H (by simp)
      ·
       rw [if_neg c13] at H
       have c13b0 : decide (0 ≤ x8_1) = false := decide_eq_false c13
       clear c13
       simp only [Option.some.injEq, Prod.mk.injEq] at H
       obtain ⟨rfl, rfl⟩ := H
       go_wp2
       go_ret2
       exact ⟨_, _, rz, fR HO_6, fR HO_7, fB HB⟩
   ·
    rw [if_neg c8] at H
    exact absurd H (by simp)
  ·
   rw [if_neg c7] at H
   exact absurd H (by simp)
end Go.Proofs.Ytjdndacollpjkaa.MFnVars
