/- Contracts of the functions that the law FnVars reaches (walks in the form of the kit's print; what it does not take by hand). -/
import Derived.Test.YtjdndacollpjkaaFvL
import Derived.Test.YtjdndacollpjkaaMFnVarsx1
import Derived.Test.YtjdndacollpjkaaMFnVarsx2
import Derived.Test.YtjdndacollpjkaaMFnVarsx3
namespace Go.Proofs.Ytjdndacollpjkaa.MFnVars
open Go.RowKit Go.Proofs.YtjdndacollpjkaaW.PrintWords Go.Proofs.YtjdndacollpjkaaW.PrintLast Go.Proofs.YtjdndacollpjkaaW.PrintMore
attribute [local go_sem] max2_int min2_int max_two min_two max_three min_three max_four min_four   -- for this text's walks alone
set_option linter.unusedVariables false
set_option linter.unusedSimpArgs false

/-! ### spec_l02Make: function 101 -/
set_option maxHeartbeats 8000000 in
set_option maxRecDepth 100000 in
theorem spec_l02Make.calls (k : Nat) (a0 : Bool) (A1 : Option Addr) (c1 : Nat) (l1 : List Int) (r1 : Bool) (r2 : List Int) (w : World) (hr1 : Kd.C (Kd.int .u32) w A1 l1.length l1) (hc1 : l1.length ≤ c1) (h : spec_l02Make.f k a0 l1 = some (r1, r2)) :
  Calls Try.prog 101 #[.bool a0, .slice A1 l1.length c1] w fun e w' => ∃ v1_ : Value, e = .returned (.agg #[.bool r1, v1_]) ∧ Kd.R (Kd.int .u32) 119 w' w.heap.size (fun _ => True) v1_ r2 ∧ Below w.heap.size w w' := by
 have hu60 := Try.underlying60
 have HR1 := am hr1
 have HC1 := am hc1
 clear hr1 hc1
 have HB := am (Below.refl w.heap.size w)
 have H : (spec_l02Make.l0 k a0 l1 (l1.length : Int)) = some (r1, r2) := h
 clear h
 have H' := am H
 clear H
 go_enter Try.func101, Try.ntmps101
 go_wp2_with (first | (refine bx 4 #[.bool false, .slice none 0 0] 60 ?_; intro gb220 hg w3 hbox hb; have BK220 := am (hbox); have GW220 := zB HB hg; have GE220 := zB HB hg; replace HB := sB HB hb; clear hb hbox hg))
 go_loopg [5] k (fun kq v5 w' => ∃ (x5_1 : Int), v5 = .int .i64 x5_1 ∧ Aside0 (spec_l02Make.l0 kq a0 l1 x5_1 = some (r1, r2)) ∧ Aside0 (kq ≤ k) ∧ Aside0 (w'.heap[gb220]? = some (.cells #[.bool false, (.slice none 0 0)] 60 (0, 0))) ∧ Aside0 (Below w.heap.size w w'))
 case atStart => exact ⟨((l1.length : Int)), (rs), H', ⟨Nat.le_refl _⟩, ⟨fb BK220⟩, ⟨fB HB⟩⟩
 case round =>
  clear H'
  try clear c1
  try clear p2
  obtain ⟨x5_1, rfl, HA, HK1, BK220, HB⟩ := hrel
  cases gk with
  | zero => exact absurd HA.out (by simp [spec_l02Make.l0])
  | succ k1 =>
   have H := HA.out
   clear HA
   simp only [spec_l02Make.l0] at H
   by_cases c4 : x5_1 > 0
   ·
    rw [if_pos c4] at H
    have c4b0 : decide (0 < x5_1) = true := decide_eq_true c4
    clear c4
    obtain ⟨ji5, hji5⟩ : ∃ j_ : Int, (wrap64 (x5_1 - 1)) = j_ := ⟨_, rfl⟩
    replace H : (if 0 ≤ (ji5) then (if (ji5) < (l1.length : Int) then (if (rd l1 (ji5)) = 0 then (spec_l02Make.l0 k1 a0 l1 ji5) else (if x5_1 = 0 then (some (false, ([] : List Int))) else ((some (([] : List Int) : List Int)).bind fun y222 => (if 0 ≤ x5_1 then (if x5_1 ≤ (l1.length : Int) then (if y222.length + (l1.take (x5_1 : Int).toNat).length < 35184372088832 then (some (a0, (y222 ++ (l1.take (x5_1 : Int).toNat)))) else (none)) else (none)) else (none))))) else (none)) else (none)) = some (r1, r2) := by first | (rw [hji5] at H; exact H) | (simp only [hji5] at H ⊢; exact H)
    have hji5w : (IntKind.i64.wrap (x5_1 - 1)) = ji5 := (i64_w _).trans hji5
    by_cases c6 : 0 ≤ (ji5)
    ·
     rw [if_pos c6] at H
     have c6b0 : decide (0 ≤ (ji5)) = true := decide_eq_true c6
     clear c6
     by_cases c7 : (ji5) < (l1.length : Int)
     ·
      rw [if_pos c7] at H
      have c7b0 : decide ((ji5) < (l1.length : Int)) = true := decide_eq_true c7
      clear c7
      by_cases c8 : (rd l1 (ji5)) = 0
      ·
       rw [if_pos c8] at H
       obtain ⟨c8b0, c8b1⟩ := bqt c8
       clear c8
       have H' := am H
       clear H
       have p221 : 0 ≤ ((ji5) : Int) := of_decide_eq_true (ha)
       have q221 : (ji5) < (l1.length : Int) := of_decide_eq_true (ha)
       obtain ⟨ad221, e221, hx221_0⟩ := Kd.at_int HR1.out (ji5) p221 q221
       cases e221
       replace hx221_0 := (HB.out.cell (World.block_lt_of_cell? w _ hx221_0)).trans hx221_0
       replace p221 := eq_true p221
       replace q221 := eq_true q221
       go_wp2
       go_roundg k1
       case measure => have := HK1.out; omega
       case rel => exact ⟨(ji5), (by first | rfl | (simp; done) | (simp only [← hji5] <;> (first | rfl | simp)) | (simp [*]; done)), H', ⟨by have := HK1.out; omega⟩, ⟨fb BK220⟩, ⟨fB HB⟩⟩
      ·
       rw [if_neg c8] at H
       obtain ⟨c8b0, c8b1⟩ := bqf c8
       by_cases c9 : x5_1 = 0
       ·
        rw [if_pos c9] at H
        obtain ⟨c9b0, c9b1⟩ := bqt c9
        clear c9
        simp only [Option.some.injEq, Prod.mk.injEq] at H
        obtain ⟨rfl, rfl⟩ := H
        have p221 : 0 ≤ ((ji5) : Int) := of_decide_eq_true (ha)
        have q221 : (ji5) < (l1.length : Int) := of_decide_eq_true (ha)
        obtain ⟨ad221, e221, hx221_0⟩ := Kd.at_int HR1.out (ji5) p221 q221
        cases e221
        replace hx221_0 := (HB.out.cell (World.block_lt_of_cell? w _ hx221_0)).trans hx221_0
        replace p221 := eq_true p221
        replace q221 := eq_true q221
        have hcz10_0 : wr.cell? ⟨gb220, 0, none⟩ = some (.bool false) := (blk_cell BK220.out 0).trans rfl
        have hcz10_1 : wr.cell? ⟨gb220, 1, none⟩ = some (.slice none 0 0) := (blk_cell BK220.out 1).trans rfl
        have hfz10_0 := blk_frozen BK220.out 0
        have hfz10_1 := blk_frozen BK220.out 1
        go_wp2
        refine bodyPost_ret (results_cell_row rfl _ _ gb220 60 #[.bool false, .slice none 0 0] (0, 0) _ rfl (fP BK220) Try.underlying60 rfl (by kernel_rfl)) rfl ?_
        exact ⟨_, by first | rfl | (simp [errW_none, errW_some] <;> rfl) | (simp only [← hji5]; first | rfl | (simp [errW_none, errW_some] <;> rfl)) | (simp [*, errW_none, errW_some] <;> rfl), by first | exact Kd.R_nil _ _ _ _ _ | exact Kd.N_nil _ _ _ _ _ | exact Kd.V_nil _ _ _ _ _ | exact Kd.Q_nil _ _ _ _ _ | exact Kd.S_nil _ _ _ _ _, fB HB⟩
       ·
        rw [if_neg c9] at H
        obtain ⟨c9b0, c9b1⟩ := bqf c9
        obtain ⟨y222, Ny222, H⟩ := uy H; try dsimp only at H
        by_cases c11 : 0 ≤ x5_1
        ·
         rw [if_pos c11] at H
         have c11b0 := eq_true c11
         have c11b1 : decide (0 ≤ x5_1) = true := decide_eq_true c11
         clear c11
         by_cases c12 : x5_1 ≤ (l1.length : Int)
         ·
          rw [if_pos c12] at H
          have c12b0 := eq_true c12
          have c12b1 : decide (x5_1 ≤ (l1.length : Int)) = true := decide_eq_true c12
          clear c12
          by_cases c13 : y222.length + (l1.take (x5_1 : Int).toNat).length < 35184372088832
          ·
           rw [if_pos c13] at H
           have LMc13 := am c13
           clear c13
           obtain ⟨y226, Ny226⟩ : ∃ y_ : List Int, Aside0 (y_ = (y222 ++ (l1.take (x5_1 : Int).toNat))) := ⟨_, ⟨rfl⟩⟩; rw [← Ny226.out] at H
           simp only [Option.some.injEq, Prod.mk.injEq] at H
           obtain ⟨rfl, rfl⟩ := H
           have p221 : 0 ≤ ((ji5) : Int) := of_decide_eq_true (ha)
           have q221 : (ji5) < (l1.length : Int) := of_decide_eq_true (ha)
           obtain ⟨ad221, e221, hx221_0⟩ := Kd.at_int HR1.out (ji5) p221 q221
           cases e221
           replace hx221_0 := (HB.out.cell (World.block_lt_of_cell? w _ hx221_0)).trans hx221_0
           replace p221 := eq_true p221
           replace q221 := eq_true q221
           go_wp2_with (first | ((with_reducible refine gate_dst (N := 24) rfl ?_); refine Kd.R_lit (Kd.int .u32) _ 119 ?hg (N := 24) ?hd (xs := ([] : List Int)) (inner := []) (ok := fun _ => True) (okp := fun _ => True) ?hr ?hp (fun _ hk => hk) trivial (Below.refl _ _) (Nat.le_refl _) (by simp) ?_; (case hd => rfl); (case hg => rfl); (case hr => first | (go_simp; done) | (go_simp; rfl)); (case hp => exact (Reps.none _ _)); intro v223 w14 ho15 hb hg_ hnew_; clear hg_ hnew_; (first | rw [← Ny222.out] at ho15 | (simp only [Int.reduceToNat] at ho15; rw [← Ny222.out] at ho15)); have HO224 := loB ho15 HB; replace BK220 := kB BK220 hb; replace HB := sB HB hb; clear hb ho15; obtain ⟨i016, hi016, _, hsz16, _⟩ := info_parts info119; obtain ⟨hcut16, hA16, hC16⟩ := print_take_of (P := Try.prog) (Value.int .u32) 0 58 119 .i64 Try.underlying58 hi016 hsz16 (some ad221) c1 l1 x5_1 (of_decide_eq_true (ha)) (of_decide_eq_true (ha)) HC1.out; have HR225 := am (Kd.C_of_reads (h1 := fun _ => rfl) (hA16 _ (Kd.reads_of_C HR1.out))); have HC225 := am hC16; clear hA16 hC16 hi016 hsz16) | ((with_reducible refine gate_builtin (b := .append) (xs := #[.tmp 24, .tmp 27]) rfl ?_); at_builtin; refine Kd.R_append_rows (Kd.int .u32) (w0 := w) w.heap.size rfl (.tmp 24) (.tmp 27) 58 119 (.int .u32 0) 4 rfl Try.underlying58 info119 rfl (by decide) (by omega) v223 y222 (l1.take (x5_1 : Int).toNat) _ _ _ (fun _ => True) (fun _ => False) rfl rfl ?aO ?aR (fun _ _ h => h) (fun _ h => h.elim) ?aF ?aB ?aS ?aL ?_; (case aR => first | (have hl_ := (show (l1.take (x5_1 : Int).toNat).length = x5_1.toNat from (by rw [List.length_take]; have h_ : (x5_1 : Int) ≤ (l1.length : Int) := of_decide_eq_true (ha); omega)); have hh_ := (Kd.C_below HR225.out HB.out); rw [hl_] at hh_; exact hh_) | (rw [← show (l1.take (x5_1 : Int).toNat).length = x5_1.toNat from (by rw [List.length_take]; have h_ : (x5_1 : Int) ≤ (l1.length : Int) := of_decide_eq_true (ha); omega)]; repeat (first | exact (Kd.C_below HR225.out HB.out) | (with_reducible refine Kd.C_alloc ?_ _) | (with_reducible refine Kd.C_drewN ?_ _) | (with_reducible refine Kd.C_drew ?_))) | (repeat (first | exact (Kd.C_below HR225.out HB.out) | (with_reducible refine Kd.C_alloc ?_ _) | (with_reducible refine Kd.C_drewN ?_ _) | (with_reducible refine Kd.C_drew ?_)))); (case aB => exact (fB HB)); (case aF => exact (fun _ _ => trivial)); (case aO => exact (fR HO224)); (case aS => exact (below_size (fB HB))); (case aL => have := LMc13.out; have hlx_ := (show (l1.take (x5_1 : Int).toNat).length = x5_1.toNat from (by rw [List.length_take]; have h_ : (x5_1 : Int) ≤ (l1.length : Int) := of_decide_eq_true (ha); omega)); omega); intro v227 w17 ho hb hg hat; rw [← Ny226.out] at ho; replace BK220 := am (blk_grown (g := gb220) (o := .cells #[.bool false, .slice none 0 0] 60 (0, 0)) (fb BK220) hg (Kd.R_ne HO224.out BK220.out (by decide))); replace HB := am (hb); have HO228 := am (ho); clear HO224; clear ho hb hg hat; obtain ⟨Ao18, co18, eo18⟩ := Kd.R_slice HO228.out; subst eo18; obtain ⟨hcz19_0, hcz19_1, hfz19_0, hfz19_1⟩ := cz2 BK220))
           refine bodyPost_ret (results_cell_row rfl _ _ gb220 60 #[.bool a0, .slice Ao18 y226.length co18] (0, 0) _ rfl (fP BK220) Try.underlying60 rfl (by kernel_rfl)) rfl ?_
           exact ⟨_, by first | rfl | (simp [errW_none, errW_some] <;> rfl) | (simp only [← hji5]; first | rfl | (simp [errW_none, errW_some] <;> rfl)) | (simp [*, errW_none, errW_some] <;> rfl), tR1 HO228 BK220 (fun _ h => trivial), fB HB⟩
          ·
           rw [if_neg c13] at H
           exact absurd H (by simp)
         ·
          rw [if_neg c12] at H
          exact absurd H (by simp)
        ·
         rw [if_neg c11] at H
         exact absurd H (by simp)
     ·
      rw [if_neg c7] at H
      exact absurd H (by simp)
    ·
     rw [if_neg c6] at H
     exact absurd H (by simp)
   ·
    rw [if_neg c4] at H
    have c4b0 : decide (0 < x5_1) = false := decide_eq_false c4
    clear c4
    by_cases c20 : x5_1 = 0
    ·
     rw [if_pos c20] at H
     obtain ⟨c20b0, c20b1⟩ := bqt c20
     clear c20
     simp only [Option.some.injEq, Prod.mk.injEq] at H
     obtain ⟨rfl, rfl⟩ := H
     have hcz21_0 : wr.cell? ⟨gb220, 0, none⟩ = some (.bool false) := (blk_cell BK220.out 0).trans rfl
     have hcz21_1 : wr.cell? ⟨gb220, 1, none⟩ = some (.slice none 0 0) := (blk_cell BK220.out 1).trans rfl
     have hfz21_0 := blk_frozen BK220.out 0
     have hfz21_1 := blk_frozen BK220.out 1
     go_wp2
     refine bodyPost_ret (results_cell_row rfl _ _ gb220 60 #[.bool false, .slice none 0 0] (0, 0) _ rfl (fP BK220) Try.underlying60 rfl (by kernel_rfl)) rfl ?_
     exact ⟨_, rz, by first | exact Kd.R_nil _ _ _ _ _ | exact Kd.N_nil _ _ _ _ _ | exact Kd.V_nil _ _ _ _ _ | exact Kd.Q_nil _ _ _ _ _ | exact Kd.S_nil _ _ _ _ _, fB HB⟩
    ·
     rw [if_neg c20] at H
     obtain ⟨c20b0, c20b1⟩ := bqf c20
     obtain ⟨y229, Ny229, H⟩ := uy H; try dsimp only at H
     by_cases c22 : 0 ≤ x5_1
     ·
      rw [if_pos c22] at H
      have c22b0 := eq_true c22
      have c22b1 : decide (0 ≤ x5_1) = true := decide_eq_true c22
      clear c22
      by_cases c23 : x5_1 ≤ (l1.length : Int)
      ·
       rw [if_pos c23] at H
       have c23b0 := eq_true c23
       have c23b1 : decide (x5_1 ≤ (l1.length : Int)) = true := decide_eq_true c23
       clear c23
       by_cases c24 : y229.length + (l1.take (x5_1 : Int).toNat).length < 35184372088832
       ·
        rw [if_pos c24] at H
        have LMc24 := am c24
        clear c24
        obtain ⟨y233, Ny233⟩ : ∃ y_ : List Int, Aside0 (y_ = (y229 ++ (l1.take (x5_1 : Int).toNat))) := ⟨_, ⟨rfl⟩⟩; rw [← Ny233.out] at H
        simp only [Option.some.injEq, Prod.mk.injEq] at H
        obtain ⟨rfl, rfl⟩ := H
        go_wp2_with (first | ((with_reducible refine gate_dst (N := 24) rfl ?_); refine Kd.R_lit (Kd.int .u32) _ 119 ?hg (N := 24) ?hd (xs := ([] : List Int)) (inner := []) (ok := fun _ => True) (okp := fun _ => True) ?hr ?hp (fun _ hk => hk) trivial (Below.refl _ _) (Nat.le_refl _) (by simp) ?_; (case hd => rfl); (case hg => rfl); (case hr => first | (go_simp; done) | (go_simp; rfl)); (case hp => exact (Reps.none _ _)); intro v230 w25 ho26 hb hg_ hnew_; clear hg_ hnew_; (first | rw [← Ny229.out] at ho26 | (simp only [Int.reduceToNat] at ho26; rw [← Ny229.out] at ho26)); have HO231 := loB ho26 HB; replace BK220 := kB BK220 hb; replace HB := sB HB hb; clear hb ho26; obtain ⟨i027, hi027, _, hsz27, _⟩ := info_parts info119; obtain ⟨hcut27, hA27, hC27⟩ := print_take_of (P := Try.prog) (Value.int .u32) 0 58 119 .i64 Try.underlying58 hi027 hsz27 A1 c1 l1 x5_1 (of_decide_eq_true (ha)) (of_decide_eq_true (ha)) HC1.out; have HR232 := am (Kd.C_of_reads (h1 := fun _ => rfl) (hA27 _ (Kd.reads_of_C HR1.out))); have HC232 := am hC27; clear hA27 hC27 hi027 hsz27) | ((with_reducible refine gate_builtin (b := .append) (xs := #[.tmp 24, .tmp 27]) rfl ?_); at_builtin; refine Kd.R_append_rows (Kd.int .u32) (w0 := w) w.heap.size rfl (.tmp 24) (.tmp 27) 58 119 (.int .u32 0) 4 rfl Try.underlying58 info119 rfl (by decide) (by omega) v230 y229 (l1.take (x5_1 : Int).toNat) _ _ _ (fun _ => True) (fun _ => False) rfl rfl ?aO ?aR (fun _ _ h => h) (fun _ h => h.elim) ?aF ?aB ?aS ?aL ?_; (case aR => first | (have hl_ := (show (l1.take (x5_1 : Int).toNat).length = x5_1.toNat from (by rw [List.length_take]; have h_ : (x5_1 : Int) ≤ (l1.length : Int) := of_decide_eq_true (ha); omega)); have hh_ := (Kd.C_below HR232.out HB.out); rw [hl_] at hh_; exact hh_) | (rw [← show (l1.take (x5_1 : Int).toNat).length = x5_1.toNat from (by rw [List.length_take]; have h_ : (x5_1 : Int) ≤ (l1.length : Int) := of_decide_eq_true (ha); omega)]; repeat (first | exact (Kd.C_below HR232.out HB.out) | (with_reducible refine Kd.C_alloc ?_ _) | (with_reducible refine Kd.C_drewN ?_ _) | (with_reducible refine Kd.C_drew ?_))) | (repeat (first | exact (Kd.C_below HR232.out HB.out) | (with_reducible refine Kd.C_alloc ?_ _) | (with_reducible refine Kd.C_drewN ?_ _) | (with_reducible refine Kd.C_drew ?_)))); (case aB => exact (fB HB)); (case aF => exact (fun _ _ => trivial)); (case aO => exact (fR HO231)); (case aS => exact (below_size (fB HB))); (case aL => have := LMc24.out; have hlx_ := (show (l1.take (x5_1 : Int).toNat).length = x5_1.toNat from (by rw [List.length_take]; have h_ : (x5_1 : Int) ≤ (l1.length : Int) := of_decide_eq_true (ha); omega)); omega); intro v234 w28 ho hb hg hat; rw [← Ny233.out] at ho; replace BK220 := am (blk_grown (g := gb220) (o := .cells #[.bool false, .slice none 0 0] 60 (0, 0)) (fb BK220) hg (Kd.R_ne HO231.out BK220.out (by decide))); replace HB := am (hb); have HO235 := am (ho); clear HO231; clear ho hb hg hat; obtain ⟨Ao29, co29, eo29⟩ := Kd.R_slice HO235.out; subst eo29; obtain ⟨hcz30_0, hcz30_1, hfz30_0, hfz30_1⟩ := cz2 BK220))
        refine bodyPost_ret (results_cell_row rfl _ _ gb220 60 #[.bool a0, .slice Ao29 y233.length co29] (0, 0) _ rfl (fP BK220) Try.underlying60 rfl (by kernel_rfl)) rfl ?_
        exact ⟨_, rz, tR1 HO235 BK220 (fun _ h => trivial), fB HB⟩
       ·
        rw [if_neg c24] at H
        exact absurd H (by simp)
      ·
       rw [if_neg c23] at H
       exact absurd H (by simp)
     ·
      rw [if_neg c22] at H
      exact absurd H (by simp)

/-! ### spec_FromInt: function 92 -/
set_option maxHeartbeats 8000000 in
set_option maxRecDepth 100000 in
theorem spec_FromInt.calls (k : Nat) (a0 : Int) (r1 : Bool) (r2 : List Int) (w : World) (h : spec_FromInt.f k a0 = some (r1, r2)) :
  Calls Try.prog 92 #[.int .i64 a0] w fun e w' => ∃ v1_ : Value, e = .returned (.agg #[.bool r1, v1_]) ∧ Kd.R (Kd.int .u32) 119 w' w.heap.size (fun _ => True) v1_ r2 ∧ Below w.heap.size w w' := by
 have hu60 := Try.underlying60
 have HB := am (Below.refl w.heap.size w)
 have H : (if a0 < 0 then ((spec_l02Make.f k (decide (a0 < 0)) (([(Go.bits .and .u64 (IntKind.u64.wrap ((IntKind.u64.wrap (wrap64 (-(wrap64 (a0 + 1))))) + 1)) 4294967295) % 4294967296, ((IntKind.u64.wrap ((IntKind.u64.wrap (wrap64 (-(wrap64 (a0 + 1))))) + 1)) / 4294967296) % 4294967296] : List Int))).bind fun bt240 => (some (bt240.1, bt240.2))) else ((spec_l02Make.f k (decide (a0 < 0)) (([(Go.bits .and .u64 (IntKind.u64.wrap (a0)) 4294967295) % 4294967296, ((IntKind.u64.wrap (a0)) / 4294967296) % 4294967296] : List Int))).bind fun bt247 => (some (bt247.1, bt247.2)))) = some (r1, r2) := h
 clear h
 by_cases c2 : a0 < 0
 ·
  rw [if_pos c2] at H
  have c2b0 : decide (a0 < 0) = true := decide_eq_true c2
  rw [c2b0] at H
  clear c2
  obtain ⟨y237, Ny237⟩ : ∃ y_ : List Int, Aside0 (y_ = (([(Go.bits .and .u64 (IntKind.u64.wrap ((IntKind.u64.wrap (wrap64 (-(wrap64 (a0 + 1))))) + 1)) 4294967295) % 4294967296, ((IntKind.u64.wrap ((IntKind.u64.wrap (wrap64 (-(wrap64 (a0 + 1))))) + 1)) / 4294967296) % 4294967296] : List Int))) := ⟨_, ⟨rfl⟩⟩; rw [← Ny237.out] at H
  obtain ⟨⟨t240, t241⟩, A3, H⟩ := ub H; dsimp only at H
  simp only [Option.some.injEq, Prod.mk.injEq] at H
  obtain ⟨rfl, rfl⟩ := H
  go_enter Try.func92, Try.ntmps92
  go_wp2_with (first | (refine bx 2 #[.bool false, .slice none 0 0] 60 ?_; intro gb236 hg w4 hbox hb; have BK236 := am (hbox); have GW236 := zB HB hg; have GE236 := zB HB hg; replace HB := sB HB hb; clear hb hbox hg) | ((with_reducible refine gate_dst (N := 21) rfl ?_); refine Kd.R_lit (Kd.int .u32) _ 119 ?hg (N := 21) ?hd (xs := ([(Go.bits .and .u64 (IntKind.u64.wrap ((IntKind.u64.wrap (wrap64 (-(wrap64 (a0 + 1))))) + 1)) 4294967295) % 4294967296, ((IntKind.u64.wrap ((IntKind.u64.wrap (wrap64 (-(wrap64 (a0 + 1))))) + 1)) / 4294967296) % 4294967296] : List Int)) (inner := [.int .u32 ((Go.bits .and .u64 (IntKind.u64.wrap ((IntKind.u64.wrap (wrap64 (-(wrap64 (a0 + 1))))) + 1)) 4294967295) % 4294967296), .int .u32 (((IntKind.u64.wrap ((IntKind.u64.wrap (wrap64 (-(wrap64 (a0 + 1))))) + 1)) / 4294967296) % 4294967296)]) (ok := fun _ => True) (okp := fun _ => True) ?hr ?hp (fun _ hk => hk) trivial (Below.refl _ _) (Nat.le_refl _) (by simp) ?_; (case hd => rfl); (case hg => rfl); (case hr => first | (go_simp; done) | (go_simp; rfl)); (case hp => exact (Reps.one (show Kd.M (Kd.int .u32) _ _ _ ((Go.bits .and .u64 (IntKind.u64.wrap ((IntKind.u64.wrap (wrap64 (-(wrap64 (a0 + 1))))) + 1)) 4294967295) % 4294967296) [.int .u32 ((Go.bits .and .u64 (IntKind.u64.wrap ((IntKind.u64.wrap (wrap64 (-(wrap64 (a0 + 1))))) + 1)) 4294967295) % 4294967296)] from rfl) (Reps.one (show Kd.M (Kd.int .u32) _ _ _ (((IntKind.u64.wrap ((IntKind.u64.wrap (wrap64 (-(wrap64 (a0 + 1))))) + 1)) / 4294967296) % 4294967296) [.int .u32 (((IntKind.u64.wrap ((IntKind.u64.wrap (wrap64 (-(wrap64 (a0 + 1))))) + 1)) / 4294967296) % 4294967296)] from rfl) (Reps.none _ _)))); intro v238 w5 ho6 hb hg_ hnew_; clear hg_ hnew_; (first | rw [← Ny237.out] at ho6 | (simp only [Int.reduceToNat] at ho6; rw [← Ny237.out] at ho6)); have HO239 := loB ho6 HB; replace BK236 := kB BK236 hb; replace HB := sB HB hb; clear hb ho6; obtain ⟨Ao7, co7, eo7⟩ := Kd.R_slice HO239.out; subst eo7) | (refine cl 101 (some 22) Try.func101 #[.bool true, .slice Ao7 y237.length co7] ?_; (with_reducible refine (spec_l02Make.calls k true _ _ y237 t240 t241 _ ?side1 ?side2 A3.out).mono ?_); (case side1 => repeat (first | exact (Kd.R_reads' HO239.out).2.2 | (with_reducible refine Kd.C_alloc ?_ _) | (with_reducible refine Kd.C_drewN ?_ _) | (with_reducible refine Kd.C_drew ?_))); (case side2 => exact (Kd.R_reads' HO239.out).2.1); rintro e w8 ⟨v242, rfl, ho0, hb⟩; refine ⟨_, rfl, ?_⟩; have HO243 := am (Kd.R_lower (Kd.R_new' ho0 (Kd.R_lt (fR HO239))) (below_size (fB HB))); replace HO239 := eR HO239 ho0 hb; replace BK236 := kB BK236 hb; replace HB := sB HB hb; clear hb ho0; obtain ⟨hcz9_0, hcz9_1, hfz9_0, hfz9_1⟩ := cz2 BK236; obtain ⟨Ao10, co10, eo10⟩ := Kd.R_slice HO243.out; subst eo10))
  refine bodyPost_ret (results_cell_row rfl _ _ gb236 60 #[.bool t240, .slice Ao10 t241.length co10] (0, 0) _ rfl (fP BK236) Try.underlying60 rfl (by kernel_rfl)) rfl ?_
  exact ⟨_, rz, tR1 HO243 BK236 (fun _ h => trivial), fB HB⟩
 ·
  rw [if_neg c2] at H
  have c2b0 : decide (a0 < 0) = false := decide_eq_false c2
  rw [c2b0] at H
  clear c2
  obtain ⟨y244, Ny244⟩ : ∃ y_ : List Int, Aside0 (y_ = (([(Go.bits .and .u64 (IntKind.u64.wrap (a0)) 4294967295) % 4294967296, ((IntKind.u64.wrap (a0)) / 4294967296) % 4294967296] : List Int))) := ⟨_, ⟨rfl⟩⟩; rw [← Ny244.out] at H
  obtain ⟨⟨t247, t248⟩, A11, H⟩ := ub H; dsimp only at H
  simp only [Option.some.injEq, Prod.mk.injEq] at H
  obtain ⟨rfl, rfl⟩ := H
  go_enter Try.func92, Try.ntmps92
  go_wp2_with (first | (refine bx 2 #[.bool false, .slice none 0 0] 60 ?_; intro gb236 hg w12 hbox hb; have BK236 := am (hbox); have GW236 := zB HB hg; have GE236 := zB HB hg; replace HB := sB HB hb; clear hb hbox hg) | ((with_reducible refine gate_dst (N := 21) rfl ?_); refine Kd.R_lit (Kd.int .u32) _ 119 ?hg (N := 21) ?hd (xs := ([(Go.bits .and .u64 (IntKind.u64.wrap (a0)) 4294967295) % 4294967296, ((IntKind.u64.wrap (a0)) / 4294967296) % 4294967296] : List Int)) (inner := [.int .u32 ((Go.bits .and .u64 (IntKind.u64.wrap (a0)) 4294967295) % 4294967296), .int .u32 (((IntKind.u64.wrap (a0)) / 4294967296) % 4294967296)]) (ok := fun _ => True) (okp := fun _ => True) ?hr ?hp (fun _ hk => hk) trivial (Below.refl _ _) (Nat.le_refl _) (by simp) ?_; (case hd => rfl); (case hg => rfl); (case hr => first | (go_simp; done) | (go_simp; rfl)); (case hp => exact (Reps.one (show Kd.M (Kd.int .u32) _ _ _ ((Go.bits .and .u64 (IntKind.u64.wrap (a0)) 4294967295) % 4294967296) [.int .u32 ((Go.bits .and .u64 (IntKind.u64.wrap (a0)) 4294967295) % 4294967296)] from rfl) (Reps.one (show Kd.M (Kd.int .u32) _ _ _ (((IntKind.u64.wrap (a0)) / 4294967296) % 4294967296) [.int .u32 (((IntKind.u64.wrap (a0)) / 4294967296) % 4294967296)] from rfl) (Reps.none _ _)))); intro v245 w13 ho14 hb hg_ hnew_; clear hg_ hnew_; (first | rw [← Ny244.out] at ho14 | (simp only [Int.reduceToNat] at ho14; rw [← Ny244.out] at ho14)); have HO246 := loB ho14 HB; replace BK236 := kB BK236 hb; replace HB := sB HB hb; clear hb ho14; obtain ⟨Ao15, co15, eo15⟩ := Kd.R_slice HO246.out; subst eo15) | (refine cl 101 (some 22) Try.func101 #[.bool false, .slice Ao15 y244.length co15] ?_; (with_reducible refine (spec_l02Make.calls k false _ _ y244 t247 t248 _ ?side1 ?side2 A11.out).mono ?_); (case side1 => repeat (first | exact (Kd.R_reads' HO246.out).2.2 | (with_reducible refine Kd.C_alloc ?_ _) | (with_reducible refine Kd.C_drewN ?_ _) | (with_reducible refine Kd.C_drew ?_))); (case side2 => exact (Kd.R_reads' HO246.out).2.1); rintro e w16 ⟨v249, rfl, ho0, hb⟩; refine ⟨_, rfl, ?_⟩; have HO250 := am (Kd.R_lower (Kd.R_new' ho0 (Kd.R_lt (fR HO246))) (below_size (fB HB))); replace HO246 := eR HO246 ho0 hb; replace BK236 := kB BK236 hb; replace HB := sB HB hb; clear hb ho0; obtain ⟨hcz17_0, hcz17_1, hfz17_0, hfz17_1⟩ := cz2 BK236; obtain ⟨Ao18, co18, eo18⟩ := Kd.R_slice HO250.out; subst eo18))
  refine bodyPost_ret (results_cell_row rfl _ _ gb236 60 #[.bool t247, .slice Ao18 t248.length co18] (0, 0) _ rfl (fP BK236) Try.underlying60 rfl (by kernel_rfl)) rfl ?_
  exact ⟨_, rz, tR1 HO250 BK236 (fun _ h => trivial), fB HB⟩

/-! ### spec_l03Of: function 82 -/
set_option maxHeartbeats 8000000 in
set_option maxRecDepth 100000 in
theorem spec_l03Of.calls (k : Nat) (a0 : Int) (r1 : Bool) (r2 : List Int) (r3 : Bool) (r4 : List Int) (w : World) (h : spec_l03Of.f k a0 = some (r1, r2, r3, r4)) :
  Calls Try.prog 82 #[.int .i64 a0] w fun e w' => ∃ v1_ v3_ : Value, e = .returned (.agg #[.bool r1, v1_, .bool r3, v3_]) ∧ Kd.R (Kd.int .u32) 119 w' w.heap.size (fun k_ => some k_ ≠ (v3_ : Value).ownBlock) v1_ r2 ∧ Kd.R (Kd.int .u32) 119 w' w.heap.size (fun k_ => some k_ ≠ (v1_ : Value).ownBlock) v3_ r4 ∧ Below w.heap.size w w' := by
 have hu62 := Try.underlying62
 have HB := am (Below.refl w.heap.size w)
 have H : ((spec_FromInt.f k a0).bind fun bt252 => ((spec_FromInt.f k 1).bind fun bt256 => (some (bt252.1, bt252.2, bt256.1, bt256.2)))) = some (r1, r2, r3, r4) := h
 clear h
 obtain ⟨⟨t252, t253⟩, A2, H⟩ := ub H; dsimp only at H
 obtain ⟨⟨t256, t257⟩, A3, H⟩ := ub H; dsimp only at H
 simp only [Option.some.injEq, Prod.mk.injEq] at H
 obtain ⟨rfl, rfl, rfl, rfl⟩ := H
 go_enter Try.func82, Try.ntmps82
 go_wp2_with (first | (refine bx 2 #[.bool false, .slice none 0 0, .bool false, .slice none 0 0] 62 ?_; intro gb251 hg w4 hbox hb; have BK251 := am (hbox); have GW251 := zB HB hg; have GE251 := zB HB hg; replace HB := sB HB hb; clear hb hbox hg) | (refine cl 92 (some 4) Try.func92 #[.int .i64 a0] ?_; (with_reducible refine (spec_FromInt.calls k a0 t252 t253 _ A2.out).mono ?_); rintro e w5 ⟨v254, rfl, ho0, hb⟩; refine ⟨_, rfl, ?_⟩; have HO255 := loB ho0 HB; replace BK251 := kB BK251 hb; replace HB := sB HB hb; clear hb ho0) | (refine cl 92 (some 5) Try.func92 #[.int .i64 1] ?_; (with_reducible refine (spec_FromInt.calls k 1 t256 t257 _ A3.out).mono ?_); rintro e w6 ⟨v258, rfl, ho0, hb⟩; refine ⟨_, rfl, ?_⟩; have HO259 := am (Kd.R_lower (Kd.R_new' ho0 (Kd.R_lt (fR HO255))) (below_size (fB HB))); replace HO255 := eR HO255 ho0 hb; replace BK251 := kB BK251 hb; replace HB := sB HB hb; clear hb ho0; obtain ⟨Ao7, co7, eo7⟩ := Kd.R_slice HO259.out; subst eo7; obtain ⟨Ao8, co8, eo8⟩ := Kd.R_slice HO255.out; subst eo8; obtain ⟨hcz9_0, hcz9_1, hcz9_2, hcz9_3, hfz9_0, hfz9_1, hfz9_2, hfz9_3⟩ := cz4 BK251))
 refine bodyPost_ret (results_cell_row rfl _ _ gb251 62 #[.bool t252, .slice Ao8 t253.length co8, .bool t256, .slice Ao7 t257.length co7] (0, 0) _ rfl (fP BK251) Try.underlying62 rfl (by kernel_rfl)) rfl ?_
 exact ⟨_, _, rz, tR1 HO255 BK251 (fun _ h => h.1.2), tR1 HO259 BK251 (fun _ h => h.1.2), fB HB⟩

/-! ### spec_l09Bent: function 88 -/
set_option maxHeartbeats 8000000 in
set_option maxRecDepth 100000 in
theorem spec_l09Bent.calls (k : Nat) (g : Nat) (s0_0 : List Int) (s0_1 : Int) (s0_2 : Int) (a1 : Int) (r1 : Int) (r2 : List Int) (r3 : Int) (r4 : Int) (w0 w : World) (hI : IsS90 w0 w g s0_0 s0_1 s0_2) (hB : Below w0.heap.size w0 w) (h : spec_l09Bent.f k s0_0 s0_1 s0_2 a1 = some (r1, r2, r3, r4)) :
  Calls Try.prog 88 #[.pointer (some ⟨g, 0, none⟩), .int .i64 a1] w fun e w' => ∃ v1_ : Value, e = .returned (.agg #[.int .i64 r1, v1_]) ∧ Kd.R (Kd.int .i64) 3 w' w.heap.size (fun _ => True) v1_ r2 ∧ IsS90 w0 w' g s0_0 r3 r4 ∧ Below w0.heap.size w0 w' ∧ KeepBut w w' g none := by
 have hu27 := Try.underlying27
 have HI0 := am hI
 have HK := am (KeepBut.refl w g none)
 have HL := am hB.size
 clear hI
 have HW0 := am hB.size
 have HB := am hB
 clear hB
 have H : ((spec_l01Once.f s0_0 s0_1 s0_2 8).bind fun bt261 => (if bt261.1 = true then ((spec_l04Some.f k s0_0 bt261.2.1 bt261.2.2 a1).bind fun bt264 => (some (bt264.1, bt264.2.1, bt264.2.2.1, bt264.2.2.2))) else (spec_l09Bent.l0 k a1 (([] : List Int)) 0 s0_0 bt261.2.1 bt261.2.2))) = some (r1, r2, r3, r4) := h
 clear h
 obtain ⟨⟨t261, t262, t263⟩, A3, H⟩ := ub H; dsimp only at H
 by_cases c4 : t261 = true
 ·
  subst c4
  have H1 : ((spec_l04Some.f k s0_0 t262 t263 a1).bind fun bt264 => (some (bt264.1, bt264.2.1, bt264.2.2.1, bt264.2.2.2))) = some (r1, r2, r3, r4) := by rw [if_pos rfl] at H; exact H
  clear H
  have H := H1
  clear H1
  obtain ⟨⟨t264, t265, t268, t269⟩, A5, H⟩ := ub H; dsimp only at H
  simp only [Option.some.injEq, Prod.mk.injEq] at H
  obtain ⟨rfl, rfl, rfl, rfl⟩ := H
  go_enter Try.func88, Try.ntmps88
  go_wp2_with (first | (refine bx 4 #[.int .i64 0, .slice none 0 0] 27 ?_; intro gb260 hg w6 hbox hb; replace HB := sB HB hb; have BK260 := am (hbox); have GW260 := zK HK hg; have GE260 := zW HW0 (zK HK hg); replace HK := KB HK hb; obtain ⟨NB0_260, NB260_0⟩ := nI HI0 hg; replace HI0 := IB HI0 hb; clear hb hbox hg) | (refine cl 58 (some 10) Try.func58 #[.pointer (some ⟨g, 0, none⟩), .int .i64 8] ?_; (with_reducible refine (spec_l01Once.calls g s0_0 s0_1 s0_2 8 true t262 t263 w0 _ ?side1 ?side2 A3.out).mono ?_); (case side1 => exact fI HI0); (case side2 => exact fB HB); rintro e w7 ⟨rfl, hi, hb, hk⟩; refine ⟨_, rfl, ?_⟩; replace BK260 := kK BK260 hk NB260_0; replace HK := Kk HK hk; replace HB := am (hb); replace HI0 := am (hi); clear hb hk hi) | (refine cl 73 (some 13) Try.func73 #[.pointer (some ⟨g, 0, none⟩), .int .i64 a1] ?_; (with_reducible refine (spec_l04Some.calls k g s0_0 t262 t263 a1 t264 t265 t268 t269 w0 _ ?side1 ?side2 A5.out).mono ?_); (case side1 => exact fI HI0); (case side2 => exact fB HB); rintro e w8 ⟨v266, rfl, ho0, hi, hb, hk⟩; refine ⟨_, rfl, ?_⟩; replace BK260 := kK BK260 hk NB260_0; have HO267 := loK ho0 HK; replace HK := Kk HK hk; replace HB := am (hb); replace HI0 := am (hi); clear hb hk hi ho0; have hnb9 := NB260_0.out; have hnc9 := NB0_260.out; obtain ⟨hcz10_0, hcz10_1, hfz10_0, hfz10_1⟩ := cz2 BK260; obtain ⟨Ao11, co11, eo11⟩ := Kd.R_slice HO267.out; subst eo11))
  refine bodyPost_ret (results_cell_row rfl _ _ gb260 27 #[.int .i64 t264, .slice Ao11 t265.length co11] (0, 0) _ rfl (fP BK260) Try.underlying27 rfl (by kernel_rfl)) rfl ?_
  exact ⟨_, rz, tR1 HO267 BK260 (fun _ h => trivial), fI HI0, fB HB, fK HK⟩
 ·
  replace c4 := Bool.eq_false_iff.mpr c4
  subst c4
  have H1 : (spec_l09Bent.l0 k a1 (([] : List Int)) 0 s0_0 t262 t263) = some (r1, r2, r3, r4) := by rw [if_neg (show ¬ (false = true) by decide)] at H; exact H
  clear H
  have H := H1
  clear H1
  obtain ⟨y270, Ny270⟩ : ∃ y_ : List Int, Aside0 (y_ = (([] : List Int))) := ⟨_, ⟨rfl⟩⟩; rw [← Ny270.out] at H
  have H' := am H
  clear H
  go_enter Try.func88, Try.ntmps88
  go_wp2_with (first | (refine bx 4 #[.int .i64 0, .slice none 0 0] 27 ?_; intro gb260 hg w12 hbox hb; replace HB := sB HB hb; have BK260 := am (hbox); have GW260 := zK HK hg; have GE260 := zW HW0 (zK HK hg); replace HK := KB HK hb; obtain ⟨NB0_260, NB260_0⟩ := nI HI0 hg; replace HI0 := IB HI0 hb; clear hb hbox hg) | (refine cl 58 (some 10) Try.func58 #[.pointer (some ⟨g, 0, none⟩), .int .i64 8] ?_; (with_reducible refine (spec_l01Once.calls g s0_0 s0_1 s0_2 8 false t262 t263 w0 _ ?side1 ?side2 A3.out).mono ?_); (case side1 => exact fI HI0); (case side2 => exact fB HB); rintro e w13 ⟨rfl, hi, hb, hk⟩; refine ⟨_, rfl, ?_⟩; replace BK260 := kK BK260 hk NB260_0; replace HK := Kk HK hk; replace HB := am (hb); replace HI0 := am (hi); clear hb hk hi) | ((with_reducible refine gate_dst (N := 14) rfl ?_); refine Kd.R_lit (Kd.int .i64) _ 3 ?hg (N := 14) ?hd (xs := ([] : List Int)) (inner := []) (ok := fun _ => True) (okp := fun _ => True) ?hr ?hp (fun _ hk => hk) trivial (Below.refl _ _) (Nat.le_refl _) (by simp) ?_; (case hd => rfl); (case hg => rfl); (case hr => first | (go_simp; done) | (go_simp; rfl)); (case hp => exact (Reps.none _ _)); intro v271 w14 ho15 hb hg_ hnew_; clear hg_ hnew_; (first | rw [← Ny270.out] at ho15 | (simp only [Int.reduceToNat] at ho15; rw [← Ny270.out] at ho15)); have HO272 := loK ho15 HK; replace HI0 := IB HI0 hb; replace BK260 := kB BK260 hb; replace HK := KB HK hb; replace HB := sB HB hb; clear hb ho15))
  go_loopg [5, 6] k (fun kq v5 v6 w' => ∃ (x5_1 : List Int) (x6_1 : Int) (x1001_1 : Int) (x1002_1 : Int), v6 = .int .i64 x6_1 ∧ Aside0 (spec_l09Bent.l0 kq a1 x5_1 x6_1 s0_0 x1001_1 x1002_1 = some (r1, r2, r3, r4)) ∧ Aside0 (kq ≤ k) ∧ Aside0 (Kd.R (Kd.int .i64) 3 w' w.heap.size (fun _ => True) v5 x5_1) ∧ Aside0 (w'.heap[gb260]? = some (.cells #[.int .i64 0, (.slice none 0 0)] 27 (0, 0))) ∧ Aside0 (IsS90 w0 w' g s0_0 x1001_1 x1002_1) ∧ Aside0 (KeepBut w w' g none) ∧ Aside0 (Below w0.heap.size w0 w'))
  case atStart => exact ⟨(y270), (0), (t262), (t263), (rs), H', ⟨Nat.le_refl _⟩, ⟨fR HO272⟩, ⟨fb BK260⟩, ⟨fI HI0⟩, ⟨fK HK⟩, ⟨fB HB⟩⟩
  case round =>
   clear H'
   try clear p2
   try clear c4
   try clear c5
   try clear c7
   try clear c8
   try clear c9
   try clear hcz10_0
   try clear hcz10_1
   try clear hfz10_0
   try clear hfz10_1
   obtain ⟨x5_1, x6_1, x1001_1, x1002_1, rfl, HA, HK1, HO_5, BK260, HI0, HK, HB⟩ := hrel
   cases gk with
   | zero => exact absurd HA.out (by simp [spec_l09Bent.l0])
   | succ k1 =>
    have H := HA.out
    clear HA
    simp only [spec_l09Bent.l0] at H
    by_cases c16 : x6_1 < a1
    ·
     rw [if_pos c16] at H
     have c16b0 : decide (x6_1 < a1) = true := decide_eq_true c16
     clear c16
     obtain ⟨y273, Ny273⟩ : ∃ y_ : List Int, Aside0 (y_ = (([0, 0, 1, (-1), 1, (-2), 2, 3] : List Int))) := ⟨_, ⟨rfl⟩⟩; rw [← Ny273.out] at H
     obtain ⟨⟨t276, t277, t278⟩, A17, H⟩ := ub H; dsimp only at H
     by_cases c18 : x5_1.length < 17592186044416
     ·
      rw [if_pos c18] at H
      have LMc18 := am c18
      clear c18
      obtain ⟨y279, Ny279⟩ : ∃ y_ : List Int, Aside0 (y_ = (x5_1 ++ [t276])) := ⟨_, ⟨rfl⟩⟩; rw [← Ny279.out] at H
      have H' := am H
      clear H
      go_wp2_with (first | ((with_reducible refine gate_dst (N := 22) rfl ?_); refine Kd.R_lit (Kd.int .i64) _ 3 ?hg (N := 22) ?hd (xs := ([0, 0, 1, (-1), 1, (-2), 2, 3] : List Int)) (inner := [.int .i64 0, .int .i64 0, .int .i64 1, .int .i64 (-1), .int .i64 1, .int .i64 (-2), .int .i64 2, .int .i64 3]) (ok := fun _ => True) (okp := fun _ => True) ?hr ?hp (fun _ hk => hk) trivial (Below.refl _ _) (Nat.le_refl _) (by simp) ?_; (case hd => rfl); (case hg => rfl); (case hr => first | (go_simp; done) | (go_simp; rfl)); (case hp => exact (Reps.one (show Kd.M (Kd.int .i64) _ _ _ 0 [.int .i64 0] from rfl) (Reps.one (show Kd.M (Kd.int .i64) _ _ _ 0 [.int .i64 0] from rfl) (Reps.one (show Kd.M (Kd.int .i64) _ _ _ 1 [.int .i64 1] from rfl) (Reps.one (show Kd.M (Kd.int .i64) _ _ _ (-1) [.int .i64 (-1)] from rfl) (Reps.one (show Kd.M (Kd.int .i64) _ _ _ 1 [.int .i64 1] from rfl) (Reps.one (show Kd.M (Kd.int .i64) _ _ _ (-2) [.int .i64 (-2)] from rfl) (Reps.one (show Kd.M (Kd.int .i64) _ _ _ 2 [.int .i64 2] from rfl) (Reps.one (show Kd.M (Kd.int .i64) _ _ _ 3 [.int .i64 3] from rfl) (Reps.none _ _)))))))))); intro v274 w19 ho20 hb hg_ hnew_; clear hg_ hnew_; (first | rw [← Ny273.out] at ho20 | (simp only [Int.reduceToNat] at ho20; rw [← Ny273.out] at ho20)); have HO275 := am (Kd.R_lower (Kd.R_new' ho20 (Kd.R_lt (fR HO_5))) (keep_size (w := w) (g := g) (row := none) (fK HK))); replace HO_5 := eR HO_5 ho20 hb; replace BK260 := kB BK260 hb; replace HI0 := IB HI0 hb; replace HK := KB HK hb; replace HB := sB HB hb; clear hb ho20; obtain ⟨Ao21, co21, eo21⟩ := Kd.R_slice HO275.out; subst eo21) | (refine cl 59 (some 23) Try.func59 #[.pointer (some ⟨g, 0, none⟩), .slice Ao21 y273.length co21] ?_; (with_reducible refine (spec_l01PickInt.calls g s0_0 x1001_1 x1002_1 _ _ y273 t276 t277 t278 w0 _ ?side1 ?side2 ?side3 ?side4 ?side5 A17.out).mono ?_); (case side1 => exact fI HI0); (case side2 => exact fB HB); (case side3 => repeat (first | exact (Kd.R_reads' HO275.out).2.2 | (with_reducible refine Kd.C_alloc ?_ _) | (with_reducible refine Kd.C_drewN ?_ _) | (with_reducible refine Kd.C_drew ?_))); (case side4 => exact (Kd.R_reads' HO275.out).2.1); (case side5 => exact far_slice (IsS90.own_ne HI0.out HO275.out (by decide))); rintro e w22 ⟨rfl, hi, hb, hk⟩; refine ⟨_, rfl, ?_⟩; replace HO_5 := kR HI0 HO_5 hk; replace BK260 := kK BK260 hk NB260_0; replace HO275 := kR HI0 HO275 hk; replace HK := Kk HK hk; replace HB := am (hb); replace HI0 := am (hi); clear hb hk hi) | ((with_reducible refine gate_builtin (b := .append) (xs := #[.tmp 20, .tmp 24]) rfl ?_); at_builtin; refine Kd.R_append (Kd.int .i64) w.heap.size rfl (.tmp 20) (.tmp 24) 22 3 (.int .i64 0) 8 rfl Try.underlying22 info3 rfl (by decide) (by omega) u5 x5_1 t276 [.int .i64 t276] (fun k_ => some k_ ≠ (.slice Ao21 y273.length co21 : Value).ownBlock) (fun _ => False) rfl rfl ?aP (fun _ hk => hk.elim) ?aF ?aO (Below.refl _ _) ?aS ?aL ?_; (case aP => exact rfl); (case aF => exact (fun k_ hk => Kd.fresh' (Kd.R_lt (fR HO275)) k_ hk)); (case aO => exact (mR HO_5 (fun _ h => h.2))); (case aS => exact (keep_size (w := w) (g := g) (row := none) (fK HK))); (case aL => have := LMc18.out; omega); intro v280 w23 ho hb hg hat; rw [← Ny279.out] at ho; replace BK260 := am (blk_grown (g := gb260) (o := .cells #[.int .i64 0, .slice none 0 0] 27 (0, 0)) (fb BK260) hg (Kd.R_ne HO_5.out BK260.out (by decide))); replace HI0 := am (IsS90.grown (fI HI0) hg (IsS90.own_ne HI0.out HO_5.out (by decide))); replace HO275 := am (Kd.R_after (ok := (fun _ => True)) (fR HO275) hg hat); replace HB := am (below_weaken (fB HB) HL.out hb); replace HK := am (KeepBut.trans (fK HK) (KeepBut.of_grown hg g) (Kd.R_base2 HO_5.out)); have HO281 := am (ho); clear HO_5; clear ho hb hg hat))
      go_roundg k1
      case measure => have := HK1.out; omega
      case rel => exact ⟨(y279), (wrap64 (x6_1 + 1)), (t277), (t278), (rs), H', ⟨by have := HK1.out; omega⟩, ⟨mR HO281 (fun _ h => trivial)⟩, ⟨fb BK260⟩, ⟨fI HI0⟩, ⟨fK HK⟩, ⟨fB HB⟩⟩
     ·
      rw [if_neg c18] at H
      exact absurd H (by simp)
    ·
     rw [if_neg c16] at H
     have c16b0 : decide (x6_1 < a1) = false := decide_eq_false c16
     clear c16
     obtain ⟨⟨t282, t283, t286⟩, A24, H⟩ := ub H; dsimp only at H
     simp only [Option.some.injEq, Prod.mk.injEq] at H
     obtain ⟨rfl, rfl, rfl, rfl⟩ := H
     obtain ⟨Ao25, co25, eo25⟩ := Kd.R_slice HO_5.out
     subst eo25
     go_wp2_with (first | (refine cl 47 (some 28) Try.func47 #[.slice Ao25 x5_1.length co25, .int .i64 1] ?_; (with_reducible refine (spec_l04Make.calls k1 _ _ x5_1 1 t282 t283 t286 _ ?side1 ?side2 A24.out).mono ?_); (case side1 => repeat (first | exact (Kd.R_reads' HO_5.out).2.2 | (with_reducible refine Kd.C_alloc ?_ _) | (with_reducible refine Kd.C_drewN ?_ _) | (with_reducible refine Kd.C_drew ?_))); (case side2 => exact (Kd.R_reads' HO_5.out).2.1); rintro e w26 ⟨v284, rfl, ho0, hb⟩; refine ⟨_, rfl, ?_⟩; have HO285 := am (Kd.R_lower (Kd.R_new' ho0 (Kd.R_lt (fR HO_5))) (keep_size (w := w) (g := g) (row := none) (fK HK))); replace HO_5 := eR HO_5 ho0 hb; replace BK260 := kB BK260 hb; replace HI0 := IB HI0 hb; replace HK := KB HK hb; replace HB := sB HB hb; clear hb ho0) | (refine bx 7 #[.int .i64 0, .slice none 0 0] 27 ?_; intro gb287 hg w27 hbox hb; replace HO_5 := RB HO_5 hb; replace HO285 := RB HO285 hb; replace HB := sB HB hb; have BK287 := am (hbox); have GW287 := zK HK hg; have GE287 := zW HW0 (zK HK hg); replace HK := KB HK hb; obtain ⟨NB260_287, NB287_260⟩ := nB BK260 hg; replace BK260 := kB BK260 hb; obtain ⟨NB0_287, NB287_0⟩ := nI HI0 hg; replace HI0 := IB HI0 hb; clear hb hbox hg; have hnb28 := NB287_260.out; have hnc28 := NB260_287.out; have hnb29 := NB287_0.out; have hnc29 := NB0_287.out; obtain ⟨hcz30_0, hcz30_1, hfz30_0, hfz30_1⟩ := cz2 BK287; obtain ⟨Ao31, co31, eo31⟩ := Kd.R_slice HO285.out; subst eo31; have hnb32 := NB260_0.out; have hnc32 := NB0_260.out; obtain ⟨hcz33_0, hcz33_1, hfz33_0, hfz33_1⟩ := cz2 BK260))
     refine bodyPost_ret (results_cell_row rfl _ _ gb260 27 #[.int .i64 t282, .slice Ao31 t283.length co31] (0, 0) _ rfl (fP BK260) Try.underlying27 rfl (by kernel_rfl)) rfl ?_
     exact ⟨_, rz, tR2 HO285 BK287 BK260 (fun _ h => trivial), fI HI0, fB HB, fK HK⟩

/-! ### spec_l08Vec: function 89 -/
def spec_l08Vec.T1 : Bool × List (List Nat × List Nat) := (true, [([], []), ([0], [0]), ([], []), ([], []), ([3], [3]), ([2, 4], [2, 4]), ([1, 5], [1, 5]), ([6, 5, 0, 1, 2, 3, 4, 5, 6], [6])])
def spec_l08Vec.B1 : List Nat := [0, 1, 0, 0, 8, 28, 63, 127]
theorem spec_l08Vec.tab1 : rtab .any (opsOf Try.f89 1) = spec_l08Vec.T1 := by kernel_rfl
theorem spec_l08Vec.bits1 : waitsOk spec_l08Vec.T1.2 spec_l08Vec.B1 = true := by kernel_rfl
set_option maxHeartbeats 8000000 in
set_option maxRecDepth 100000 in
theorem spec_l08Vec.calls (a0_0 : Int) (A0_1 : Option Addr) (c0_1 : Nat) (l0_1 : List Int) (r1 : Int) (r2 : List Int) (w : World) (hr0_1 : Kd.C (Kd.int .i64) w A0_1 l0_1.length l0_1) (hc0_1 : l0_1.length ≤ c0_1) (h : spec_l08Vec.f a0_0 l0_1 = some (r1, r2)) :
  Calls Try.prog 89 #[.agg #[.int .i64 a0_0, .slice A0_1 l0_1.length c0_1]] w fun e w' => ∃ v1_ : Value, e = .returned (.agg #[.int .i64 r1, v1_]) ∧ Kd.R (Kd.int .i64) 3 w' w.heap.size (fun _ => True) v1_ r2 ∧ Below w.heap.size w w' := by
 have hu27 := Try.underlying27
 have HR0_1 := am hr0_1
 have HC0_1 := am hc0_1
 clear hr0_1 hc0_1
 have HB := am (Below.refl w.heap.size w)
 have H : ((some (([] : List Int) : List Int)).bind fun y290 => (if y290.length + l0_1.length < 17592186044416 then (some (a0_0, (y290 ++ l0_1))) else (none))) = some (r1, r2) := h
 clear h
 obtain ⟨y290, Ny290, H⟩ := uy H; try dsimp only at H
 by_cases c2 : y290.length + l0_1.length < 17592186044416
 ·
  rw [if_pos c2] at H
  have LMc2 := am c2
  clear c2
  obtain ⟨y293, Ny293⟩ : ∃ y_ : List Int, Aside0 (y_ = (y290 ++ l0_1)) := ⟨_, ⟨rfl⟩⟩; rw [← Ny293.out] at H
  simp only [Option.some.injEq, Prod.mk.injEq] at H
  obtain ⟨rfl, rfl⟩ := H
  go_enter Try.func89, Try.ntmps89
  try go_wp2_with (first | (refine bx 1 #[.int .i64 a0_0, .slice A0_1 l0_1.length c0_1] 27 ?_; intro gb288 hg w3 hbox hb; have BK288 := am (hbox); have GW288 := zB HB hg; have GE288 := zB HB hg; replace HB := sB HB hb; clear hb hbox hg) | (refine bx 2 #[.int .i64 0, .slice none 0 0] 27 ?_; intro gb289 hg w4 hbox hb; have BK289 := am (hbox); have GW289 := zB HB hg; have GE289 := zB HB hg; replace HB := sB HB hb; obtain ⟨NB288_289, NB289_288⟩ := nB BK288 hg; replace BK288 := kB BK288 hb; clear hb hbox hg))
  replace BK288 := am (blk_drew BK288.out); replace BK289 := am (blk_drew BK289.out); replace HB := am (below_drew1 HB.out)
  refine start_ (n := 8) (S := fun w' => w'.cell? ⟨gb288, 0, none⟩ = some (.int .i64 a0_0) ∧ w'.cell? ⟨gb288, 1, none⟩ = some (.slice A0_1 l0_1.length c0_1)) (ds := []) #[false, false, false, false, false, false, false, false] (by kernel_rfl) rfl rfl (hh2 BK288) (fun hHeld => ?_); refine with_tabW spec_l08Vec.tab1 spec_l08Vec.bits1 (fun HT_ HW_ => ?_)
  generalize w4.drew = w5 at BK288 BK289 HB hHeld ⊢
  refine pu 0 (some 3) #[true, false, false, false, false, false, false, false] HT_ ?_
  refine pu 3 (some 6) #[true, false, false, true, false, false, false, false] HT_ ?_
  refine tk 1 (some 4) #[true, true, false, true, false, false, false, false] HT_ HW_ hHeld ?_
  refine tk 4 (some 7) #[true, true, false, true, true, false, false, false] HT_ HW_ hHeld ?_
  refine on 2 (some 5) #[true, true, true, true, true, false, false, false] HT_ (fun K hK => ?_)
  refine Kd.R_lit_step (Kd.int .i64) _ 3 ?hg (N := 5) ?hd (xs := ([] : List Int)) (inner := []) (ok := fun _ => True) (okp := fun _ => True) ?hr ?hp (fun _ hk => hk) trivial (Below.refl _ _) (Nat.le_refl _) (by simp) ?_; (case hd => rfl); (case hg => rfl); (case hr => first | (go_simp; done) | (go_simp; rfl)); (case hp => exact (Reps.none _ _))
  intro v291 w6 ho7 hb hg_ hnew_
  clear hg_ hnew_
  (first | rw [← Ny290.out] at ho7 | (simp only [Int.reduceToNat] at ho7; rw [← Ny290.out] at ho7))
  have HO292 := loB ho7 HB; replace BK288 := kB BK288 hb; replace BK289 := kB BK289 hb; replace HB := sB HB hb
  clear hb ho7
  refine hK.out _ _ (hh2 BK288) (fun hHeld => ?_)
  clear hK K
  refine nm (some 5) ?_
  refine on 5 (some 8) #[true, true, true, true, true, true, false, false] HT_ (fun K hK => ?_)
  refine Kd.R_append_rows_step (Kd.int .i64) (w0 := w) w.heap.size (by rfl) (.tmp 5) (.tmp 7) 22 3 (.int .i64 0) 8 rfl Try.underlying22 info3 rfl (by decide) (by omega) v291 y290 l0_1 _ _ _ (fun _ => True) (fun _ => False) rfl rfl ?aO ?aR (fun _ _ h => h) (fun _ h => h.elim) ?aF ?aB ?aS ?aL ?_
  (case aR => repeat (first | exact (Kd.C_below HR0_1.out HB.out) | (with_reducible refine Kd.C_alloc ?_ _) | (with_reducible refine Kd.C_drewN ?_ _) | (with_reducible refine Kd.C_drew ?_)))
  (case aB => exact (fB HB))
  (case aF => exact (fun _ _ => trivial))
  (case aO => exact (fR HO292))
  (case aS => exact (below_size (fB HB)))
  (case aL => have := LMc2.out; omega)
  intro v294 w8 ho hb hg hat
  rw [← Ny293.out] at ho
  replace BK288 := am (blk_grown (g := gb288) (o := .cells #[.int .i64 a0_0, .slice A0_1 l0_1.length c0_1] 27 (0, 0)) (fb BK288) hg (Kd.R_ne HO292.out BK288.out (by decide))); replace BK289 := am (blk_grown (g := gb289) (o := .cells #[.int .i64 0, .slice none 0 0] 27 (0, 0)) (fb BK289) hg (Kd.R_ne HO292.out BK289.out (by decide))); replace HB := am (hb); have HO295 := am (ho); clear HO292
  clear ho hb hg hat
  obtain ⟨Ao9, co9, eo9⟩ := Kd.R_slice HO295.out
  (first | subst eo9 | (injection eo9 with f1_ f2_ f3_; have f4_ := f1_.symm; have f5_ := f3_.symm; clear f1_ f2_ f3_; subst f4_; subst f5_))
  refine hK.out _ _ (hh2 BK288) (fun hHeld => ?_)
  clear hK K
  refine nm (some 8) ?_
  refine pu 6 (some 9) #[true, true, true, true, true, true, true, false] HT_ ?_
  refine on 7 (none) #[true, true, true, true, true, true, true, true] HT_ (fun K hK => ?_)
  have hs10 : w8.cell? ⟨gb289, 0, none⟩ = some (.int .i64 0) := (blk_cell BK289.out 0).trans rfl
  have hfs10 := blk_frozen BK289.out 0
  have hns10_0 := NB288_289.out
  have hms10_0 := NB289_288.out
  have hs11 : w8.cell? ⟨gb289, 1, none⟩ = some (.slice none 0 0) := (blk_cell BK289.out 1).trans rfl
  have hfs11 := blk_frozen BK289.out 1
  have hns11_0 := NB288_289.out
  have hms11_0 := NB289_288.out
  refine skip_ (w1 := ?_) (by rfl) rfl ?_ ?_
  rotate_left
  ·
   go_simp
   rfl
  refine hK.out _ _ ⟨((cell_far (p := ⟨gb289, _, none⟩) NB288_289.out _).trans (((cell_far (p := ⟨gb289, _, none⟩) NB288_289.out _).trans (hHeld.1)))), ((cell_far (p := ⟨gb289, _, none⟩) NB288_289.out _).trans (((cell_far (p := ⟨gb289, _, none⟩) NB288_289.out _).trans (hHeld.2))))⟩ (fun hHeld => ?_)
  clear hK K
  refine done_ (done_of HT_.out (by kernel_rfl)) ?_
  try go_wp2
  refine bodyPost_ret (results_cell_row rfl _ _ gb289 27 #[.int .i64 a0_0, .slice Ao9 y293.length co9] (0, 0) _ rfl (fP BK289) Try.underlying27 rfl (by kernel_rfl)) rfl ?_
  exact ⟨_, rz, tR1 HO295 BK289 (fun _ h => trivial), fB HB⟩
 ·
  rw [if_neg c2] at H
  exact absurd H (by simp)
end Go.Proofs.Ytjdndacollpjkaa.MFnVars
