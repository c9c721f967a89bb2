/- Contracts of the functions that the law FnVars reaches (walks in the form of the kit's print; what it does not take by hand). -/
import Derived.Test.YtjdndacollpjkaaFvL
import Derived.Test.YtjdndacollpjkaaMFnVarsx1
import Derived.Test.YtjdndacollpjkaaMFnVarsx3
import Derived.Test.YtjdndacollpjkaaMFnVarsx4
namespace Go.Proofs.Ytjdndacollpjkaa.MFnVars
open Go.RowKit Go.Proofs.YtjdndacollpjkaaW.PrintWords Go.Proofs.YtjdndacollpjkaaW.PrintLast Go.Proofs.YtjdndacollpjkaaW.PrintMore
attribute [local go_sem] max2_int min2_int max_two min_two max_three min_three max_four min_four   -- for this text's walks alone
set_option linter.unusedVariables false
set_option linter.unusedSimpArgs false

/-! ### spec_l09Vars: function 79 -/
def spec_l09Vars.T9 : Bool × List (List Nat × List Nat) := (true, [([], []), ([], []), ([], []), ([1, 2], [1, 2]), ([3], [3]), ([], []), ([5], [5]), ([6], [6]), ([7, 6], [7]), ([], []), ([4, 8, 9], [4, 8, 9]), ([10], [10]), ([0, 11, 8], [0, 11]), ([12, 12, 0, 1, 2, 3, 4, 5, 6, 7, 8, 9, 10, 11, 12], [0, 12])])
def spec_l09Vars.B9 : List Nat := [0, 0, 0, 6, 14, 0, 32, 96, 224, 0, 1022, 2046, 4095, 8191]
theorem spec_l09Vars.tab9 : rtab .any (opsOf Try.f79 9) = spec_l09Vars.T9 := by kernel_rfl
theorem spec_l09Vars.bits9 : waitsOk spec_l09Vars.T9.2 spec_l09Vars.B9 = true := by kernel_rfl
set_option maxHeartbeats 8000000 in
set_option maxRecDepth 100000 in
theorem spec_l09Vars.calls (k : Nat) (g : Nat) (s0_0 : List Int) (s0_1 : Int) (s0_2 : Int) (a1 : Int) (a2 : Int) (r1 : List (S64)) (r2 : Int) (r3 : Int) (w0 w : World) (hI : IsS90 w0 w g s0_0 s0_1 s0_2) (hB : Below w0.heap.size w0 w) (h : spec_l09Vars.f k s0_0 s0_1 s0_2 a1 a2 = some (r1, r2, r3)) :
  Calls Try.prog 79 #[.pointer (some ⟨g, 0, none⟩), .int .i64 a1, .int .i64 a2] w fun e w' => ∃ v0_ : Value, e = .returned (v0_) ∧ Kd.S k64 64 w' w.heap.size (fun _ => True) v0_ r1 ∧ IsS90 w0 w' g s0_0 r2 r3 ∧ Below w0.heap.size w0 w' ∧ KeepBut w w' g none := by
 have hu27 := Try.underlying27
 have hu64 := Try.underlying64
 have HI0 := am hI
 have HK := am (KeepBut.refl w g none)
 have HL := am hB.size
 clear hI
 have HW0 := am hB.size
 have HB := am hB
 clear hB
 have H : ((spec_l01Below.f s0_0 s0_1 s0_2 (wrap64 (a1 + 1))).bind fun bt299 => (spec_l09Vars.l0 k a2 (([] : List (S64))) bt299.1 0 s0_0 bt299.2.1 bt299.2.2)) = some (r1, r2, r3) := h
 clear h
 obtain ⟨y296, Ny296⟩ : ∃ y_ : List (S64), Aside0 (y_ = (([] : List (S64)))) := ⟨_, ⟨rfl⟩⟩; rw [← Ny296.out] at H
 obtain ⟨⟨t299, t300, t301⟩, A4, H⟩ := ub H; dsimp only at H
 have H' := am H
 clear H
 go_enter Try.func79, Try.ntmps79
 go_wp2_with (first | ((with_reducible refine gate_dst (N := 11) rfl ?_); refine Kd.S_lit k64 _ 64 ?hg (N := 11) ?hd (xs := ([] : List (S64))) (inner := []) (ok := fun _ => True) (okp := fun _ => True) ?hr ?hp (fun _ hk => hk) trivial (Below.refl _ _) (Nat.le_refl _) (by simp) ?_; (case hd => rfl); (case hg => rfl); (case hr => first | (go_simp; done) | (go_simp; rfl)); (case hp => exact (Reps.none _ _)); intro v297 w5 ho6 hb hg_ hnew_; clear hg_ hnew_; (first | rw [← Ny296.out] at ho6 | (simp only [Int.reduceToNat] at ho6; rw [← Ny296.out] at ho6)); have HO298 := am (Kd.S_lower ho6 (keep_size (w := w) (g := g) (row := none) (fK HK))); replace HI0 := IB HI0 hb; replace HK := KB HK hb; replace HB := sB HB hb; clear hb ho6) | (refine cl 56 (some 15) Try.func56 #[.pointer (some ⟨g, 0, none⟩), .int .i64 (wrap64 (a1 + 1))] ?_; (with_reducible refine (spec_l01Below.calls g s0_0 s0_1 s0_2 (wrap64 (a1 + 1)) t299 t300 t301 w0 _ ?side1 ?side2 A4.out).mono ?_); (case side1 => exact fI HI0); (case side2 => exact fB HB); rintro e w7 ⟨rfl, hi, hb, hk⟩; refine ⟨_, rfl, ?_⟩; replace HO298 := am (Kd.S_mono (Kd.S_keep (IsS90.apartS (show IsS90 w0 _ g s0_0 s0_1 s0_2 from fI HI0) (fS HO298) (by decide)) hk (fun _ h => h.2)) (fun _ h => h.1)); replace HK := Kk HK hk; replace HB := am (hb); replace HI0 := am (hi); clear hb hk hi))
 go_loopg [7, 9] k (fun kq v7 v9 w' => ∃ (x7_1 : List (S64)) (x9_1 : Int) (x1001_1 : Int) (x1002_1 : Int), v9 = .int .i64 x9_1 ∧ Aside0 (spec_l09Vars.l0 kq a2 x7_1 t299 x9_1 s0_0 x1001_1 x1002_1 = some (r1, r2, r3)) ∧ Aside0 (kq ≤ k) ∧ Aside0 (Kd.S k64 64 w' w.heap.size (fun _ => True) v7 x7_1) ∧ Aside0 (IsS90 w0 w' g s0_0 x1001_1 x1002_1) ∧ Aside0 (KeepBut w w' g none) ∧ Aside0 (Below w0.heap.size w0 w'))
 case atStart => exact ⟨(y296), (0), (t300), (t301), (rs), H', ⟨Nat.le_refl _⟩, ⟨fS HO298⟩, ⟨fI HI0⟩, ⟨fK HK⟩, ⟨fB HB⟩⟩
 case round =>
  clear H'
  try clear p2
  try clear c5
  try clear p6
  try clear c7
  obtain ⟨x7_1, x9_1, x1001_1, x1002_1, rfl, HA, HK1, HO_7, HI0, HK, HB⟩ := hrel
  cases gk with
  | zero => exact absurd HA.out (by simp [spec_l09Vars.l0])
  | succ k1 =>
   have H := HA.out
   clear HA
   simp only [spec_l09Vars.l0] at H
   have HC8 := am H
   clear H
   go_upto_region 4 with (fail)
   go_cut [22] (fun v22 wc => ∃ (kq : Nat) (x22_7 : Bool), v22 = .bool x22_7 ∧ Aside0 (spec_l09Vars.j1 kq a2 x7_1 t299 x9_1 x22_7 s0_0 x1001_1 x1002_1 = some (r1, r2, r3)) ∧ Aside0 (kq ≤ k1) ∧ Aside0 (Kd.S k64 64 wc w.heap.size (fun _ => True) u7 x7_1) ∧ Aside0 (IsS90 w0 wc g s0_0 x1001_1 x1002_1) ∧ Aside0 (KeepBut w wc g none) ∧ Aside0 (Below w0.heap.size w0 wc))
   case first =>
    have H := HC8.out
    clear HC8
    by_cases c9 : x9_1 < t299
    ·
     rw [if_pos c9] at H
     have c9b0 : decide (x9_1 < t299) = true := decide_eq_true c9
     clear c9
     (first | rw [c9b0] | (simp only [i64_w, i32_w]; rw [c9b0]) | skip)
     have H' := am H
     clear H
     go_wp2
     go_meet
     case rel => exact ⟨_, (decide (x9_1 < 8)), (rs), H', ⟨by have := HK1.out; first | omega | exact Nat.le_refl _⟩, ⟨fS HO_7⟩, ⟨fI HI0⟩, ⟨fK HK⟩, ⟨fB HB⟩⟩
    ·
     rw [if_neg c9] at H
     have c9b0 : decide (x9_1 < t299) = false := decide_eq_false c9
     clear c9
     (first | rw [c9b0] | (simp only [i64_w, i32_w]; rw [c9b0]) | skip)
     have H' := am H
     clear H
     go_wp2
     go_meet
     case rel => exact ⟨_, (false), (rs), H', ⟨by have := HK1.out; first | omega | exact Nat.le_refl _⟩, ⟨fS HO_7⟩, ⟨fI HI0⟩, ⟨fK HK⟩, ⟨fB HB⟩⟩
   case rest =>
    clear HC8
    try clear p2
    try clear c5
    try clear p6
    try clear c7
    try clear c9
    try clear c9b0
    try clear p2
    try clear p6
    obtain ⟨kq, x22_7, rfl, HA, HJ7, HO_7, HI0, HK, HB⟩ := hcut
    cases kq with
    | zero => exact absurd HA.out (by simp [spec_l09Vars.j1])
    | succ kj7 =>
     have H := HA.out
     clear HA
     simp only [spec_l09Vars.j1] at H
     by_cases c10 : x22_7 = true
     ·
      subst c10
      have H1 : ((spec_l09Bent.f kj7 s0_0 x1001_1 x1002_1 a2).bind fun bt302 => (if x9_1 > 0 then ((spec_l01Once.f s0_0 bt302.2.2.1 bt302.2.2.2 3).bind fun bt309 => (spec_l09Vars.j2 kj7 a2 x7_1 t299 x9_1 bt309.1 s0_0 bt309.2.1 bt309.2.2 bt302.1 bt302.2.1)) else (spec_l09Vars.j2 kj7 a2 x7_1 t299 x9_1 false s0_0 bt302.2.2.1 bt302.2.2.2 bt302.1 bt302.2.1))) = some (r1, r2, r3) := by rw [if_pos rfl] at H; exact H
      clear H
      have H := H1
      clear H1
      obtain ⟨⟨t302, t303, t306, t307⟩, A11, H⟩ := ub H; dsimp only at H
      have HC12 := am H
      clear H
      go_upto_region 7 with (first | (refine cl 88 (some 27) Try.func88 #[.pointer (some ⟨g, 0, none⟩), .int .i64 a2] ?_; (with_reducible refine (spec_l09Bent.calls kj7 g s0_0 x1001_1 x1002_1 a2 t302 t303 t306 t307 w0 _ ?side1 ?side2 A11.out).mono ?_); (case side1 => exact fI HI0); (case side2 => exact fB HB); rintro e w13 ⟨v304, rfl, ho0, hi, hb, hk⟩; refine ⟨_, rfl, ?_⟩; replace HO_7 := am (Kd.S_mono (Kd.S_told (Kd.S_oldK (IsS90.apartS (show IsS90 w0 _ g s0_0 x1001_1 x1002_1 from fI HI0) (fS HO_7) (by decide)) hk) (Kd.R_base ho0)) (fun _ h_ => h_.1)); have HO305 := loK ho0 HK; replace HK := Kk HK hk; replace HB := am (hb); replace HI0 := am (hi); clear hb hk hi ho0) | (refine bx 10 #[.int .i64 0, .slice none 0 0] 27 ?_; intro gb308 hg w14 hbox hb; replace HO_7 := am (Kd.S_below (fS HO_7) hb); replace HO305 := RB HO305 hb; replace HB := sB HB hb; have BK308 := am (hbox); have GW308 := zK HK hg; have GE308 := zW HW0 (zK HK hg); replace HK := KB HK hb; obtain ⟨NB0_308, NB308_0⟩ := nI HI0 hg; replace HI0 := IB HI0 hb; clear hb hbox hg; have hnb15 := NB308_0.out; have hnc15 := NB0_308.out; obtain ⟨hcz16_0, hcz16_1, hfz16_0, hfz16_1⟩ := cz2 BK308; obtain ⟨Ao17, co17, eo17⟩ := Kd.R_slice HO305.out; subst eo17))
      (try simp only [Act.put, List.setIfInBounds_toArray, List.set_cons_zero, List.set_cons_succ])
      go_cut [33] (fun v33 wc => ∃ (kq : Nat) (x33_11 : Bool) (x1001_11 : Int) (x1002_11 : Int), v33 = .bool x33_11 ∧ Aside0 (spec_l09Vars.j2 kq a2 x7_1 t299 x9_1 x33_11 s0_0 x1001_11 x1002_11 t302 t303 = some (r1, r2, r3)) ∧ Aside0 (kq ≤ kj7) ∧ Aside0 (Kd.S k64 64 wc w.heap.size (fun k_ => some k_ ≠ ((.slice Ao17 t303.length co17) : Value).ownBlock) u7 x7_1) ∧ Aside0 (Kd.R (Kd.int .i64) 3 wc w.heap.size (fun _ => True) (.slice Ao17 t303.length co17) t303) ∧ Aside0 (wc.heap[gb308]? = some (.cells #[.int .i64 t302, (.slice Ao17 t303.length co17)] 27 (0, 0))) ∧ Aside0 (IsS90 w0 wc g s0_0 x1001_11 x1002_11) ∧ Aside0 (KeepBut w wc g none) ∧ Aside0 (Below w0.heap.size w0 wc))
      case first =>
       have H := HC12.out
       clear HC12
       by_cases c18 : x9_1 > 0
       ·
        rw [if_pos c18] at H
        have c18b0 : decide (0 < x9_1) = true := decide_eq_true c18
        clear c18
        (first | rw [c18b0] | (simp only [i64_w, i32_w]; rw [c18b0]) | skip)
        obtain ⟨⟨t309, t310, t311⟩, A19, H⟩ := ub H; dsimp only at H
        have H' := am H
        clear H
        go_wp2_with (first | (go_at_call 58; (with_reducible refine (spec_l01Once.calls g s0_0 t306 t307 3 t309 t310 t311 w0 _ ?side1 ?side2 A19.out).mono ?_); (case side1 => exact fI HI0); (case side2 => exact fB HB); rintro e w20 ⟨rfl, hi, hb, hk⟩; replace HO_7 := am (Kd.S_mono (Kd.S_keep (IsS90.apartS (show IsS90 w0 _ g s0_0 t306 t307 from fI HI0) (by (with_reducible repeat (first | apply Kd.S_alloc | apply Kd.S_drewN | apply Kd.S_drew)); exact (Kd.S_mono (Kd.S_far (p := ⟨gb308, 1, none⟩) (Kd.S_far (p := ⟨gb308, 0, none⟩) (Kd.S_types HO_7.out BK308.out (by decide)) (fun _ hk => hk.2) (.int .i64 t302)) (fun _ hk => hk.2) (.slice Ao17 t303.length co17)) (fun _ h_ => h_.1))) (by decide)) hk (fun _ h => h.2)) (fun _ h => h.1)); replace HO305 := kX HI0 (tR1 HO305 BK308 (fun _ h => h.1)) hk; replace BK308 := am (KeepBut.blk hk (g' := gb308) (o := .cells #[.int .i64 t302, .slice Ao17 t303.length co17] 27 (0, 0)) (fP BK308) NB308_0.out (by simp)); replace HK := Kk HK hk; replace HB := am (hb); replace HI0 := am (hi); clear hb hk hi))
        go_meet
        case rel => exact ⟨_, (t309), (t310), (t311), (rs), H', ⟨by have := HK1.out; have := HJ7.out; first | omega | exact Nat.le_refl _⟩, ⟨by (with_reducible repeat (first | apply Kd.S_alloc | apply Kd.S_drewN | apply Kd.S_drew)); exact Kd.S_mono HO_7.out (fun _ hk => hk.2)⟩, ⟨fR HO305⟩, ⟨fb BK308⟩, ⟨fI HI0⟩, ⟨fK HK⟩, ⟨fB HB⟩⟩
       ·
        rw [if_neg c18] at H
        have c18b0 : decide (0 < x9_1) = false := decide_eq_false c18
        clear c18
        (first | rw [c18b0] | (simp only [i64_w, i32_w]; rw [c18b0]) | skip)
        have H' := am H
        clear H
        go_wp2
        go_meet
        case rel => exact ⟨_, (false), (t306), (t307), (rs), H', ⟨by have := HK1.out; have := HJ7.out; first | omega | exact Nat.le_refl _⟩, ⟨by (with_reducible repeat (first | apply Kd.S_alloc | apply Kd.S_drewN | apply Kd.S_drew)); exact Kd.S_mono (Kd.S_far (p := ⟨gb308, 1, none⟩) (Kd.S_far (p := ⟨gb308, 0, none⟩) (Kd.S_types HO_7.out BK308.out (by decide)) (fun _ hk => hk.2) (.int .i64 t302)) (fun _ hk => hk.2) (.slice Ao17 t303.length co17)) (fun _ hk => hk.1.2)⟩, ⟨tR1 HO305 BK308 (fun _ h => trivial)⟩, ⟨fP BK308⟩, ⟨fI HI0⟩, ⟨fK HK⟩, ⟨fB HB⟩⟩
      case rest =>
       clear HC12
       try clear c1
       try clear p2
       try clear c5
       try clear p6
       try clear c7
       try clear c8
       try clear c9
       try clear c9b0
       try clear c10
       try clear c15
       try clear c18
       try clear c18b0
       try clear hcz16_0
       try clear hcz16_1
       try clear hfz16_0
       try clear hfz16_1
       try clear p2
       try clear p6
       obtain ⟨kq, x33_11, x1001_11, x1002_11, rfl, HA, HJ11, HO_7, HO_309001, BK308, HI0, HK, HB⟩ := hcut
       cases kq with
       | zero => exact absurd HA.out (by simp [spec_l09Vars.j2])
       | succ kj11 =>
        have H := HA.out
        clear HA
        simp only [spec_l09Vars.j2] at H
        by_cases c21 : x33_11 = true
        ·
         subst c21
         have H1 : ((spec_l01Below.f s0_0 x1001_11 x1002_11 x9_1).bind fun bt312 => (if 0 ≤ bt312.1 then (if bt312.1 < (x7_1.length : Int) then ((spec_l08Vec.f ((rd_T64 x7_1 bt312.1).f2.f0) ((rd_T64 x7_1 bt312.1).f2.f1)).bind fun bt316 => ((some (([(⟨#[118]⟩ : ByteArray), (⟨#[103]⟩ : ByteArray), (⟨#[104]⟩ : ByteArray), (⟨#[116]⟩ : ByteArray), (⟨#[114, 104, 111]⟩ : ByteArray), (⟨#[109, 117]⟩ : ByteArray), (⟨#[76]⟩ : ByteArray), (⟨#[70]⟩ : ByteArray)] : List ByteArray) : List ByteArray)).bind fun y320 => (if 0 ≤ x9_1 then (if x9_1 < (y320.length : Int) then ((spec_l01Below.f s0_0 bt312.2.1 bt312.2.2 3).bind fun bt324 => ((spec_l03Of.f kj11 (wrap64 (1 + bt324.1))).bind fun bt327 => (if x7_1.length < 1256584717458 then (spec_l09Vars.l0 kj11 a2 (x7_1 ++ [(⟨rdOf ByteArray.empty y320 x9_1, (⟨(⟨bt327.1, bt327.2.1⟩ : S60), (⟨bt327.2.2.1, bt327.2.2.2⟩ : S60)⟩ : S62), (⟨bt316.1, bt316.2⟩ : S27)⟩ : S64)]) t299 (wrap64 (x9_1 + 1)) s0_0 bt324.2.1 bt324.2.2) else (none)))) else (none)) else (none)))) else (none)) else (none))) = some (r1, r2, r3) := by rw [if_pos rfl] at H; exact H
         clear H
         have H := H1
         clear H1
         obtain ⟨⟨t312, t313, t314⟩, A22, H⟩ := ub H; dsimp only at H
         by_cases c23 : 0 ≤ t312
         ·
          rw [if_pos c23] at H
          have c23b0 : decide (0 ≤ t312) = true := decide_eq_true c23
          clear c23
          by_cases c24 : t312 < (x7_1.length : Int)
          ·
           rw [if_pos c24] at H
           have c24b0 : decide (t312 < (x7_1.length : Int)) = true := decide_eq_true c24
           clear c24
           obtain ⟨⟨t316, t317⟩, A25, H⟩ := ub H; dsimp only at H
           obtain ⟨y320, Ny320, H⟩ := uy H; try dsimp only at H
           by_cases c26 : 0 ≤ x9_1
           ·
            rw [if_pos c26] at H
            have c26b0 : decide (0 ≤ x9_1) = true := decide_eq_true c26
            clear c26
            by_cases c27 : x9_1 < (y320.length : Int)
            ·
             rw [if_pos c27] at H
             have c27b0 : decide (x9_1 < (y320.length : Int)) = true := decide_eq_true c27
             clear c27
             obtain ⟨⟨t324, t325, t326⟩, A28, H⟩ := ub H; dsimp only at H
             obtain ⟨⟨t327, t328, t331, t332⟩, A29, H⟩ := ub H; dsimp only at H
             by_cases c30 : x7_1.length < 1256584717458
             ·
              rw [if_pos c30] at H
              have LMc30 := am c30
              clear c30
              obtain ⟨y335, Ny335⟩ : ∃ y_ : List (S64), Aside0 (y_ = (x7_1 ++ [(⟨rdOf ByteArray.empty y320 x9_1, (⟨(⟨t327, t328⟩ : S60), (⟨t331, t332⟩ : S60)⟩ : S62), (⟨t316, t317⟩ : S27)⟩ : S64)])) := ⟨_, ⟨rfl⟩⟩; rw [← Ny335.out] at H
              have H' := am H
              clear H
              try go_wp2_with (first | (refine cl 56 (some 37) Try.func56 #[.pointer (some ⟨g, 0, none⟩), .int .i64 x9_1] ?_; (with_reducible refine (spec_l01Below.calls g s0_0 x1001_11 x1002_11 x9_1 t312 t313 t314 w0 _ ?side1 ?side2 A22.out).mono ?_); (case side1 => exact fI HI0); (case side2 => exact fB HB); rintro e w31 ⟨rfl, hi, hb, hk⟩; refine ⟨_, rfl, ?_⟩; replace HO_7 := am (Kd.S_mono (Kd.S_keep (IsS90.apartS (show IsS90 w0 _ g s0_0 x1001_11 x1002_11 from fI HI0) (fS HO_7) (by decide)) hk (fun _ h => h.2)) (fun _ h => h.1)); replace HO_309001 := kR HI0 HO_309001 hk; replace BK308 := kK BK308 hk NB308_0; replace HK := Kk HK hk; replace HB := am (hb); replace HI0 := am (hi); clear hb hk hi; obtain ⟨Ao32, co32, eo32⟩ := Kd.S_slice HO_7.out; subst eo32; have p315 : 0 ≤ (t312 : Int) := of_decide_eq_true (ha); have q315 : t312 < (x7_1.length : Int) := of_decide_eq_true (ha); obtain ⟨ad315, A315_2, c315_2, A315_4, c315_4, A315_6, c315_6, e315, hx315_0, hx315_1, hx315_2, hx315_3, hx315_4, hx315_5, hx315_6, hl315_2, hi315_2, hl315_4, hi315_4, hl315_6, hi315_6⟩ := at_T64 (Kd.S_reads' HO_7.out).2.2 t312 p315 q315; cases e315; obtain ⟨ce315, hce315, hMe315, hcc315⟩ := Kd.S_get HO_7.out z64 t312 p315 (by first | exact q315 | exact of_decide_eq_true (ha) | (have e_ := (Kd.S_reads' HO_7.out).1; omega)); obtain ⟨ve315_2, ve315_4, ve315_6, rfl, ge315_2, ge315_4, ge315_6⟩ := k64_openM hMe315; have hv315_2 := hcc315 2 _ rfl; rw [add_field _ _ 2 (by omega)] at hv315_2; replace hv315_2 := Option.some.inj (hv315_2.symm.trans hx315_2); rw [hv315_2] at ge315_2; have HL315_2 := am (show Kd.R (Kd.int .u32) 119 _ _ _ _ ((rd_T64 x7_1 t312).f1.f0.f1) from ge315_2); clear hv315_2 ge315_2; have hv315_4 := hcc315 4 _ rfl; rw [add_field _ _ 4 (by omega)] at hv315_4; replace hv315_4 := Option.some.inj (hv315_4.symm.trans hx315_4); rw [hv315_4] at ge315_4; have HL315_4 := am (show Kd.R (Kd.int .u32) 119 _ _ _ _ ((rd_T64 x7_1 t312).f1.f1.f1) from ge315_4); clear hv315_4 ge315_4; have hv315_6 := hcc315 6 _ rfl; rw [add_field _ _ 6 (by omega)] at hv315_6; replace hv315_6 := Option.some.inj (hv315_6.symm.trans hx315_6); rw [hv315_6] at ge315_6; have HL315_6 := am (show Kd.R (Kd.int .i64) 3 _ _ _ _ ((rd_T64 x7_1 t312).f2.f1) from ge315_6); clear hv315_6 ge315_6; clear hcc315 hce315; have HR315_2 := am hi315_2; have HC315_2 := am hl315_2; clear hi315_2 hl315_2; have HR315_4 := am hi315_4; have HC315_4 := am hl315_4; clear hi315_4 hl315_4; have HR315_6 := am hi315_6; have HC315_6 := am hl315_6; clear hi315_6 hl315_6; replace p315 := eq_true p315; replace q315 := eq_true q315) | (refine cl 89 (some 41) Try.func89 #[.agg #[.int .i64 ((rd_T64 x7_1 t312).f2.f0), .slice A315_6 ((rd_T64 x7_1 t312).f2.f1).length c315_6]] ?_; (with_reducible refine (spec_l08Vec.calls ((rd_T64 x7_1 t312).f2.f0) _ _ ((rd_T64 x7_1 t312).f2.f1) t316 t317 _ ?side1 ?side2 A25.out).mono ?_); (case side1 => repeat (first | exact (by repeat (first | (with_reducible exact HR315_6.out) | (with_reducible refine Kd.C_alloc ?_ _) | (with_reducible refine Kd.C_drewN ?_ _) | (with_reducible refine Kd.C_drew ?_) | exact HR315_6.out)) | (with_reducible refine Kd.C_alloc ?_ _) | (with_reducible refine Kd.C_drewN ?_ _) | (with_reducible refine Kd.C_drew ?_))); (case side2 => exact HC315_6.out); rintro e w33 ⟨v318, rfl, ho0, hb⟩; refine ⟨_, rfl, ?_⟩; replace HO_7 := am (Kd.S_elder' (fS HO_7) (Kd.R_base ho0) hb); replace HL315_2 := RB HL315_2 hb; replace HL315_4 := RB HL315_4 hb; have HO319 := am (Kd.R_lower (Kd.R_new' (Kd.R_new' ho0 (Kd.R_lt (fR HO_309001))) (Kd.R_lt (fR HL315_6))) (keep_size (w := w) (g := g) (row := none) (fK HK))); replace HO_309001 := eR HO_309001 ho0 hb; replace HL315_6 := eR HL315_6 ho0 hb; replace BK308 := kB BK308 hb; replace HI0 := IB HI0 hb; replace HR315_2 := am (Kd.C_below (by repeat (first | (with_reducible exact HR315_2.out) | (with_reducible refine Kd.C_alloc ?_ _) | (with_reducible refine Kd.C_drewN ?_ _) | (with_reducible refine Kd.C_drew ?_) | exact HR315_2.out)) hb); replace HR315_4 := am (Kd.C_below (by repeat (first | (with_reducible exact HR315_4.out) | (with_reducible refine Kd.C_alloc ?_ _) | (with_reducible refine Kd.C_drewN ?_ _) | (with_reducible refine Kd.C_drew ?_) | exact HR315_4.out)) hb); replace HR315_6 := am (Kd.C_below (by repeat (first | (with_reducible exact HR315_6.out) | (with_reducible refine Kd.C_alloc ?_ _) | (with_reducible refine Kd.C_drewN ?_ _) | (with_reducible refine Kd.C_drew ?_) | exact HR315_6.out)) hb); replace HK := KB HK hb; replace HB := sB HB hb; clear hb ho0; have hnb34 := NB308_0.out; have hnc34 := NB0_308.out; obtain ⟨hcz35_0, hcz35_1, hfz35_0, hfz35_1⟩ := cz2 BK308; obtain ⟨Ao36, co36, eo36⟩ := Kd.R_slice HO319.out; subst eo36))
              have pi323 : (0 ≤ (x9_1 : Int)) = True := eq_true (of_decide_eq_true (ha))
              have qi323 : (x9_1 < (y320.length : Int)) = True := eq_true (of_decide_eq_true (ha))
              have n0_ : Aside0 (Kd.S k64 64 ((w33.setCell ⟨gb308, 0, none⟩ (.int .i64 t316)).setCell ⟨gb308, 1, none⟩ (.slice Ao36 t317.length co36)) w.heap.size (fun k_ => some k_ ≠ (.slice Ao17 t303.length co17 : Value).ownBlock ∧ some k_ ≠ (.slice Ao36 t317.length co36 : Value).ownBlock) (.slice (some ad315) x7_1.length co32) x7_1) := ⟨by (with_reducible repeat (first | apply Kd.S_alloc | apply Kd.S_drewN | apply Kd.S_drew)); exact Kd.S_mono (Kd.S_far (p := ⟨gb308, 1, none⟩) (Kd.S_far (p := ⟨gb308, 0, none⟩) (Kd.S_types HO_7.out BK308.out (by decide)) (fun _ hk => hk.2) (.int .i64 t316)) (fun _ hk => hk.2) (.slice Ao36 t317.length co36)) (fun _ hk => ⟨hk.1.1, hk.1.2⟩)⟩
              have n1_ : Aside0 (Kd.R (Kd.int .i64) 3 ((w33.setCell ⟨gb308, 0, none⟩ (.int .i64 t316)).setCell ⟨gb308, 1, none⟩ (.slice Ao36 t317.length co36)) w.heap.size (fun k_ => some k_ ≠ (.slice Ao36 t317.length co36 : Value).ownBlock) (.slice Ao17 t303.length co17) t303) := ⟨tR1 HO_309001 BK308 (fun _ h => h.1.2)⟩
              have n2_ : Aside0 (Kd.R (Kd.int .u32) 119 ((w33.setCell ⟨gb308, 0, none⟩ (.int .i64 t316)).setCell ⟨gb308, 1, none⟩ (.slice Ao36 t317.length co36)) w.heap.size (fun k_ => some k_ ≠ (.slice (some ad315) x7_1.length co32 : Value).ownBlock ∧ some k_ ≠ (.slice Ao17 t303.length co17 : Value).ownBlock) (.slice A315_2 ((rd_T64 x7_1 t312).f1.f0.f1).length c315_2) ((rd_T64 x7_1 t312).f1.f0.f1)) := ⟨tR1 HL315_2 BK308 (fun _ h => ⟨h.1.2, h.1.1⟩)⟩
              have n3_ : Aside0 (Kd.R (Kd.int .u32) 119 ((w33.setCell ⟨gb308, 0, none⟩ (.int .i64 t316)).setCell ⟨gb308, 1, none⟩ (.slice Ao36 t317.length co36)) w.heap.size (fun k_ => some k_ ≠ (.slice (some ad315) x7_1.length co32 : Value).ownBlock ∧ some k_ ≠ (.slice Ao17 t303.length co17 : Value).ownBlock) (.slice A315_4 ((rd_T64 x7_1 t312).f1.f1.f1).length c315_4) ((rd_T64 x7_1 t312).f1.f1.f1)) := ⟨tR1 HL315_4 BK308 (fun _ h => ⟨h.1.2, h.1.1⟩)⟩
              have n4_ : Aside0 (Kd.R (Kd.int .i64) 3 ((w33.setCell ⟨gb308, 0, none⟩ (.int .i64 t316)).setCell ⟨gb308, 1, none⟩ (.slice Ao36 t317.length co36)) w.heap.size (fun k_ => some k_ ≠ (.slice (some ad315) x7_1.length co32 : Value).ownBlock ∧ some k_ ≠ (.slice Ao17 t303.length co17 : Value).ownBlock ∧ some k_ ≠ (.slice Ao36 t317.length co36 : Value).ownBlock) (.slice A315_6 ((rd_T64 x7_1 t312).f2.f1).length c315_6) ((rd_T64 x7_1 t312).f2.f1)) := ⟨tR1 HL315_6 BK308 (fun _ h => ⟨h.1.1.2, ⟨h.1.1.1, h.1.2⟩⟩)⟩
              have n5_ : Aside0 (Kd.R (Kd.int .i64) 3 ((w33.setCell ⟨gb308, 0, none⟩ (.int .i64 t316)).setCell ⟨gb308, 1, none⟩ (.slice Ao36 t317.length co36)) w.heap.size (fun k_ => some k_ ≠ (.slice Ao17 t303.length co17 : Value).ownBlock ∧ some k_ ≠ (.slice A315_6 ((rd_T64 x7_1 t312).f2.f1).length c315_6 : Value).ownBlock) (.slice Ao36 t317.length co36) t317) := ⟨tR1 HO319 BK308 (fun _ h => ⟨h.1.1.2, h.1.2⟩)⟩
              have n6_ : Aside0 (((w33.setCell ⟨gb308, 0, none⟩ (.int .i64 t316)).setCell ⟨gb308, 1, none⟩ (.slice Ao36 t317.length co36)).heap[gb308]? = some (.cells #[.int .i64 t316, .slice Ao36 t317.length co36] 27 (0, 0))) := ⟨fP BK308⟩
              have n7_ : Aside0 (IsS90 w0 ((w33.setCell ⟨gb308, 0, none⟩ (.int .i64 t316)).setCell ⟨gb308, 1, none⟩ (.slice Ao36 t317.length co36)) g s0_0 t313 t314) := ⟨fI HI0⟩
              have n8_ : Aside0 (KeepBut w ((w33.setCell ⟨gb308, 0, none⟩ (.int .i64 t316)).setCell ⟨gb308, 1, none⟩ (.slice Ao36 t317.length co36)) g none) := ⟨fK HK⟩
              have n9_ : Aside0 (Below w0.heap.size w0 ((w33.setCell ⟨gb308, 0, none⟩ (.int .i64 t316)).setCell ⟨gb308, 1, none⟩ (.slice Ao36 t317.length co36))) := ⟨fB HB⟩
              generalize ((w33.setCell ⟨gb308, 0, none⟩ (.int .i64 t316)).setCell ⟨gb308, 1, none⟩ (.slice Ao36 t317.length co36)) = w37 at n0_ n1_ n2_ n3_ n4_ n5_ n6_ n7_ n8_ n9_ ⊢
              have HO_7 := n0_
              have HO_309001 := n1_
              have HL315_2 := n2_
              have HL315_4 := n3_
              have HL315_6 := n4_
              have HO319 := n5_
              have BK308 := n6_
              have HI0 := n7_
              have HK := n8_
              have HB := n9_
              clear n0_ n1_ n2_ n3_ n4_ n5_ n6_ n7_ n8_ n9_
              replace HO_7 := am (Kd.S_drew HO_7.out); replace HO_309001 := am (Kd.R_drew HO_309001.out); replace HL315_2 := am (Kd.R_drew HL315_2.out); replace HL315_4 := am (Kd.R_drew HL315_4.out); replace HL315_6 := am (Kd.R_drew HL315_6.out); replace HO319 := am (Kd.R_drew HO319.out); replace BK308 := am (blk_drew BK308.out); replace HI0 := am (IsS90.drew HI0.out); replace HK := am (keep_drew HK.out); replace HB := am (below_drew1 HB.out)
              refine start_ (n := 14) (S := fun w' => w'.cell? ⟨gb308, 0, none⟩ = some (.int .i64 t316) ∧ w'.cell? ⟨gb308, 1, none⟩ = some (.slice Ao36 t317.length co36)) (ds := []) #[false, false, false, false, false, false, false, false, false, false, false, false, false, false] (by kernel_rfl) rfl rfl (hh2 BK308) (fun hHeld => ?_); refine with_tabW spec_l09Vars.tab9 spec_l09Vars.bits9 (fun HT_ HW_ => ?_)
              generalize w37.drew = w38 at HO_7 HO_309001 HL315_2 HL315_4 HL315_6 HO319 BK308 HI0 HK HB hHeld ⊢
              refine pu 0 (some 42) #[true, false, false, false, false, false, false, false, false, false, false, false, false, false] HT_ ?_
              refine pu 2 (some 44) #[true, false, true, false, false, false, false, false, false, false, false, false, false, false] HT_ ?_
              refine pu 5 (some 47) #[true, false, true, false, false, true, false, false, false, false, false, false, false, false] HT_ ?_
              refine tk 9 (some 51) #[true, false, true, false, false, true, false, false, false, true, false, false, false, false] HT_ HW_ hHeld ?_
              refine join_ (σ := Value × Addr × Value × Value) 4 #[true, true, true, true, true, true, true, true, true, true, false, false, false, false] (fun s_ => [(43, s_.1), (46, .string (rdOf ByteArray.empty y320 x9_1)), (48, .int .i64 t324), (50, .agg #[.bool t327, s_.2.2.1, .bool t331, s_.2.2.2]), (45, .pointer (some (s_.2.1.add (x9_1).toNat))), (49, .int .i64 (wrap64 (1 + t324)))]) (fun s_ w' => (w'.cell? ⟨gb308, 0, none⟩ = some (.int .i64 t316) ∧ w'.cell? ⟨gb308, 1, none⟩ = some (.slice Ao36 t317.length co36)) ∧ (Kd.R (Kd.int .u32) 119 w' w.heap.size (fun k_ => some k_ ≠ (s_.2.2.1 : Value).ownBlock ∧ some k_ ≠ (s_.2.2.2 : Value).ownBlock ∧ some k_ ≠ (.slice Ao17 t303.length co17 : Value).ownBlock ∧ some k_ ≠ (.slice (some ad315) x7_1.length co32 : Value).ownBlock) (.slice A315_2 ((rd_T64 x7_1 t312).f1.f0.f1).length c315_2) ((rd_T64 x7_1 t312).f1.f0.f1)) ∧ (Kd.R (Kd.int .u32) 119 w' w.heap.size (fun k_ => some k_ ≠ (s_.2.2.1 : Value).ownBlock ∧ some k_ ≠ (s_.2.2.2 : Value).ownBlock ∧ some k_ ≠ (.slice Ao17 t303.length co17 : Value).ownBlock ∧ some k_ ≠ (.slice (some ad315) x7_1.length co32 : Value).ownBlock) (.slice A315_4 ((rd_T64 x7_1 t312).f1.f1.f1).length c315_4) ((rd_T64 x7_1 t312).f1.f1.f1)) ∧ (Kd.R (Kd.int .i64) 3 w' w.heap.size (fun k_ => some k_ ≠ (.slice Ao36 t317.length co36 : Value).ownBlock ∧ some k_ ≠ (.slice Ao17 t303.length co17 : Value).ownBlock ∧ some k_ ≠ (.slice (some ad315) x7_1.length co32 : Value).ownBlock) (.slice A315_6 ((rd_T64 x7_1 t312).f2.f1).length c315_6) ((rd_T64 x7_1 t312).f2.f1)) ∧ (Kd.R (Kd.int .i64) 3 w' w.heap.size (fun k_ => some k_ ≠ (.slice A315_6 ((rd_T64 x7_1 t312).f2.f1).length c315_6 : Value).ownBlock ∧ some k_ ≠ (.slice Ao17 t303.length co17 : Value).ownBlock) (.slice Ao36 t317.length co36) t317) ∧ (Kd.R Kd.string 9 w' w.heap.size (fun _ => True) s_.1 y320) ∧ (Kd.R (Kd.int .u32) 119 w' w.heap.size (fun k_ => some k_ ≠ (.slice A315_2 ((rd_T64 x7_1 t312).f1.f0.f1).length c315_2 : Value).ownBlock ∧ some k_ ≠ (.slice A315_4 ((rd_T64 x7_1 t312).f1.f1.f1).length c315_4 : Value).ownBlock ∧ some k_ ≠ (s_.2.2.2 : Value).ownBlock) s_.2.2.1 t328) ∧ (Kd.R (Kd.int .u32) 119 w' w.heap.size (fun k_ => some k_ ≠ (.slice A315_2 ((rd_T64 x7_1 t312).f1.f0.f1).length c315_2 : Value).ownBlock ∧ some k_ ≠ (.slice A315_4 ((rd_T64 x7_1 t312).f1.f1.f1).length c315_4 : Value).ownBlock ∧ some k_ ≠ (s_.2.2.1 : Value).ownBlock) s_.2.2.2 t332) ∧ (Kd.R (Kd.int .i64) 3 w' w.heap.size (fun k_ => some k_ ≠ (.slice Ao36 t317.length co36 : Value).ownBlock) (.slice Ao17 t303.length co17) t303) ∧ (Kd.S k64 64 w' w.heap.size (fun k_ => some k_ ≠ (.slice Ao36 t317.length co36 : Value).ownBlock ∧ some k_ ≠ (s_.2.2.1 : Value).ownBlock ∧ some k_ ≠ (s_.2.2.2 : Value).ownBlock ∧ some k_ ≠ (.slice Ao17 t303.length co17 : Value).ownBlock) (.slice (some ad315) x7_1.length co32) x7_1) ∧ (∃ c_, (s_.1 : Value) = .slice (some s_.2.1) y320.length c_) ∧ (w'.heap[gb308]? = some (.cells #[.int .i64 t316, .slice Ao36 t317.length co36] 27 (0, 0))) ∧ (IsS90 w0 w' g s0_0 t325 t326) ∧ (KeepBut w w' g none) ∧ (Below w0.heap.size w0 w')) ?_ ?_
              rotate_left
              ·
               intro hJ1_4_6_8
               refine join_ (σ := Value × Addr) 5 #[true, true, true, true, true, true, true, true, false, true, false, false, false, false] (fun s_ => [(43, s_.1), (46, .string (rdOf ByteArray.empty y320 x9_1)), (48, .int .i64 t324), (45, .pointer (some (s_.2.add (x9_1).toNat))), (49, .int .i64 (wrap64 (1 + t324)))]) (fun s_ w' => (w'.cell? ⟨gb308, 0, none⟩ = some (.int .i64 t316) ∧ w'.cell? ⟨gb308, 1, none⟩ = some (.slice Ao36 t317.length co36)) ∧ (Kd.R (Kd.int .u32) 119 w' w.heap.size (fun k_ => some k_ ≠ (.slice Ao17 t303.length co17 : Value).ownBlock ∧ some k_ ≠ (.slice (some ad315) x7_1.length co32 : Value).ownBlock) (.slice A315_2 ((rd_T64 x7_1 t312).f1.f0.f1).length c315_2) ((rd_T64 x7_1 t312).f1.f0.f1)) ∧ (Kd.R (Kd.int .u32) 119 w' w.heap.size (fun k_ => some k_ ≠ (.slice Ao17 t303.length co17 : Value).ownBlock ∧ some k_ ≠ (.slice (some ad315) x7_1.length co32 : Value).ownBlock) (.slice A315_4 ((rd_T64 x7_1 t312).f1.f1.f1).length c315_4) ((rd_T64 x7_1 t312).f1.f1.f1)) ∧ (Kd.R (Kd.int .i64) 3 w' w.heap.size (fun k_ => some k_ ≠ (.slice Ao36 t317.length co36 : Value).ownBlock ∧ some k_ ≠ (.slice Ao17 t303.length co17 : Value).ownBlock ∧ some k_ ≠ (.slice (some ad315) x7_1.length co32 : Value).ownBlock) (.slice A315_6 ((rd_T64 x7_1 t312).f2.f1).length c315_6) ((rd_T64 x7_1 t312).f2.f1)) ∧ (Kd.R (Kd.int .i64) 3 w' w.heap.size (fun k_ => some k_ ≠ (.slice A315_6 ((rd_T64 x7_1 t312).f2.f1).length c315_6 : Value).ownBlock ∧ some k_ ≠ (.slice Ao17 t303.length co17 : Value).ownBlock) (.slice Ao36 t317.length co36) t317) ∧ (Kd.R Kd.string 9 w' w.heap.size (fun _ => True) s_.1 y320) ∧ (Kd.R (Kd.int .i64) 3 w' w.heap.size (fun k_ => some k_ ≠ (.slice Ao36 t317.length co36 : Value).ownBlock) (.slice Ao17 t303.length co17) t303) ∧ (Kd.S k64 64 w' w.heap.size (fun k_ => some k_ ≠ (.slice Ao36 t317.length co36 : Value).ownBlock ∧ some k_ ≠ (.slice Ao17 t303.length co17 : Value).ownBlock) (.slice (some ad315) x7_1.length co32) x7_1) ∧ (∃ c_, (s_.1 : Value) = .slice (some s_.2) y320.length c_) ∧ (w'.heap[gb308]? = some (.cells #[.int .i64 t316, .slice Ao36 t317.length co36] 27 (0, 0))) ∧ (IsS90 w0 w' g s0_0 t325 t326) ∧ (KeepBut w w' g none) ∧ (Below w0.heap.size w0 w')) ?_ ?_
               rotate_left
               ·
                intro hJ1_4_6
                refine join_ (σ := Value × Addr × Value × Value) 5 #[true, true, true, true, false, true, true, true, true, true, false, false, false, false] (fun s_ => [(43, s_.1), (48, .int .i64 t324), (50, .agg #[.bool t327, s_.2.2.1, .bool t331, s_.2.2.2]), (45, .pointer (some (s_.2.1.add (x9_1).toNat))), (49, .int .i64 (wrap64 (1 + t324)))]) (fun s_ w' => (w'.cell? ⟨gb308, 0, none⟩ = some (.int .i64 t316) ∧ w'.cell? ⟨gb308, 1, none⟩ = some (.slice Ao36 t317.length co36)) ∧ (Kd.R (Kd.int .u32) 119 w' w.heap.size (fun k_ => some k_ ≠ (s_.2.2.1 : Value).ownBlock ∧ some k_ ≠ (s_.2.2.2 : Value).ownBlock ∧ some k_ ≠ (.slice Ao17 t303.length co17 : Value).ownBlock ∧ some k_ ≠ (.slice (some ad315) x7_1.length co32 : Value).ownBlock) (.slice A315_2 ((rd_T64 x7_1 t312).f1.f0.f1).length c315_2) ((rd_T64 x7_1 t312).f1.f0.f1)) ∧ (Kd.R (Kd.int .u32) 119 w' w.heap.size (fun k_ => some k_ ≠ (s_.2.2.1 : Value).ownBlock ∧ some k_ ≠ (s_.2.2.2 : Value).ownBlock ∧ some k_ ≠ (.slice Ao17 t303.length co17 : Value).ownBlock ∧ some k_ ≠ (.slice (some ad315) x7_1.length co32 : Value).ownBlock) (.slice A315_4 ((rd_T64 x7_1 t312).f1.f1.f1).length c315_4) ((rd_T64 x7_1 t312).f1.f1.f1)) ∧ (Kd.R (Kd.int .i64) 3 w' w.heap.size (fun k_ => some k_ ≠ (.slice Ao36 t317.length co36 : Value).ownBlock ∧ some k_ ≠ (.slice Ao17 t303.length co17 : Value).ownBlock ∧ some k_ ≠ (.slice (some ad315) x7_1.length co32 : Value).ownBlock) (.slice A315_6 ((rd_T64 x7_1 t312).f2.f1).length c315_6) ((rd_T64 x7_1 t312).f2.f1)) ∧ (Kd.R (Kd.int .i64) 3 w' w.heap.size (fun k_ => some k_ ≠ (.slice A315_6 ((rd_T64 x7_1 t312).f2.f1).length c315_6 : Value).ownBlock ∧ some k_ ≠ (.slice Ao17 t303.length co17 : Value).ownBlock) (.slice Ao36 t317.length co36) t317) ∧ (Kd.R Kd.string 9 w' w.heap.size (fun _ => True) s_.1 y320) ∧ (Kd.R (Kd.int .u32) 119 w' w.heap.size (fun k_ => some k_ ≠ (.slice A315_2 ((rd_T64 x7_1 t312).f1.f0.f1).length c315_2 : Value).ownBlock ∧ some k_ ≠ (.slice A315_4 ((rd_T64 x7_1 t312).f1.f1.f1).length c315_4 : Value).ownBlock ∧ some k_ ≠ (s_.2.2.2 : Value).ownBlock) s_.2.2.1 t328) ∧ (Kd.R (Kd.int .u32) 119 w' w.heap.size (fun k_ => some k_ ≠ (.slice A315_2 ((rd_T64 x7_1 t312).f1.f0.f1).length c315_2 : Value).ownBlock ∧ some k_ ≠ (.slice A315_4 ((rd_T64 x7_1 t312).f1.f1.f1).length c315_4 : Value).ownBlock ∧ some k_ ≠ (s_.2.2.1 : Value).ownBlock) s_.2.2.2 t332) ∧ (Kd.R (Kd.int .i64) 3 w' w.heap.size (fun k_ => some k_ ≠ (.slice Ao36 t317.length co36 : Value).ownBlock) (.slice Ao17 t303.length co17) t303) ∧ (Kd.S k64 64 w' w.heap.size (fun k_ => some k_ ≠ (.slice Ao36 t317.length co36 : Value).ownBlock ∧ some k_ ≠ (s_.2.2.1 : Value).ownBlock ∧ some k_ ≠ (s_.2.2.2 : Value).ownBlock ∧ some k_ ≠ (.slice Ao17 t303.length co17 : Value).ownBlock) (.slice (some ad315) x7_1.length co32) x7_1) ∧ (∃ c_, (s_.1 : Value) = .slice (some s_.2.1) y320.length c_) ∧ (w'.heap[gb308]? = some (.cells #[.int .i64 t316, .slice Ao36 t317.length co36] 27 (0, 0))) ∧ (IsS90 w0 w' g s0_0 t325 t326) ∧ (KeepBut w w' g none) ∧ (Below w0.heap.size w0 w')) ?_ ?_
                rotate_left
                ·
                 intro hJ1_6_8
                 refine join_ (σ := Value × Addr) 7 #[true, true, true, true, true, true, false, false, false, true, false, false, false, false] (fun s_ => [(43, s_.1), (46, .string (rdOf ByteArray.empty y320 x9_1)), (45, .pointer (some (s_.2.add (x9_1).toNat)))]) (fun s_ w' => (w'.cell? ⟨gb308, 0, none⟩ = some (.int .i64 t316) ∧ w'.cell? ⟨gb308, 1, none⟩ = some (.slice Ao36 t317.length co36)) ∧ (Kd.R (Kd.int .u32) 119 w' w.heap.size (fun k_ => some k_ ≠ (.slice Ao17 t303.length co17 : Value).ownBlock ∧ some k_ ≠ (.slice (some ad315) x7_1.length co32 : Value).ownBlock) (.slice A315_2 ((rd_T64 x7_1 t312).f1.f0.f1).length c315_2) ((rd_T64 x7_1 t312).f1.f0.f1)) ∧ (Kd.R (Kd.int .u32) 119 w' w.heap.size (fun k_ => some k_ ≠ (.slice Ao17 t303.length co17 : Value).ownBlock ∧ some k_ ≠ (.slice (some ad315) x7_1.length co32 : Value).ownBlock) (.slice A315_4 ((rd_T64 x7_1 t312).f1.f1.f1).length c315_4) ((rd_T64 x7_1 t312).f1.f1.f1)) ∧ (Kd.R (Kd.int .i64) 3 w' w.heap.size (fun k_ => some k_ ≠ (.slice Ao36 t317.length co36 : Value).ownBlock ∧ some k_ ≠ (.slice Ao17 t303.length co17 : Value).ownBlock ∧ some k_ ≠ (.slice (some ad315) x7_1.length co32 : Value).ownBlock) (.slice A315_6 ((rd_T64 x7_1 t312).f2.f1).length c315_6) ((rd_T64 x7_1 t312).f2.f1)) ∧ (Kd.R (Kd.int .i64) 3 w' w.heap.size (fun k_ => some k_ ≠ (.slice A315_6 ((rd_T64 x7_1 t312).f2.f1).length c315_6 : Value).ownBlock ∧ some k_ ≠ (.slice Ao17 t303.length co17 : Value).ownBlock) (.slice Ao36 t317.length co36) t317) ∧ (Kd.R Kd.string 9 w' w.heap.size (fun _ => True) s_.1 y320) ∧ (Kd.R (Kd.int .i64) 3 w' w.heap.size (fun k_ => some k_ ≠ (.slice Ao36 t317.length co36 : Value).ownBlock) (.slice Ao17 t303.length co17) t303) ∧ (Kd.S k64 64 w' w.heap.size (fun k_ => some k_ ≠ (.slice Ao36 t317.length co36 : Value).ownBlock ∧ some k_ ≠ (.slice Ao17 t303.length co17 : Value).ownBlock) (.slice (some ad315) x7_1.length co32) x7_1) ∧ (∃ c_, (s_.1 : Value) = .slice (some s_.2) y320.length c_) ∧ (w'.heap[gb308]? = some (.cells #[.int .i64 t316, .slice Ao36 t317.length co36] 27 (0, 0))) ∧ (IsS90 w0 w' g s0_0 t313 t314) ∧ (KeepBut w w' g none) ∧ (Below w0.heap.size w0 w')) ?_ ?_
                 rotate_left
                 ·
                  intro hJ1_4
                  refine join_ (σ := Value × Addr) 6 #[true, true, true, true, false, true, true, true, false, true, false, false, false, false] (fun s_ => [(43, s_.1), (48, .int .i64 t324), (45, .pointer (some (s_.2.add (x9_1).toNat))), (49, .int .i64 (wrap64 (1 + t324)))]) (fun s_ w' => (w'.cell? ⟨gb308, 0, none⟩ = some (.int .i64 t316) ∧ w'.cell? ⟨gb308, 1, none⟩ = some (.slice Ao36 t317.length co36)) ∧ (Kd.R (Kd.int .u32) 119 w' w.heap.size (fun k_ => some k_ ≠ (.slice Ao17 t303.length co17 : Value).ownBlock ∧ some k_ ≠ (.slice (some ad315) x7_1.length co32 : Value).ownBlock) (.slice A315_2 ((rd_T64 x7_1 t312).f1.f0.f1).length c315_2) ((rd_T64 x7_1 t312).f1.f0.f1)) ∧ (Kd.R (Kd.int .u32) 119 w' w.heap.size (fun k_ => some k_ ≠ (.slice Ao17 t303.length co17 : Value).ownBlock ∧ some k_ ≠ (.slice (some ad315) x7_1.length co32 : Value).ownBlock) (.slice A315_4 ((rd_T64 x7_1 t312).f1.f1.f1).length c315_4) ((rd_T64 x7_1 t312).f1.f1.f1)) ∧ (Kd.R (Kd.int .i64) 3 w' w.heap.size (fun k_ => some k_ ≠ (.slice Ao36 t317.length co36 : Value).ownBlock ∧ some k_ ≠ (.slice Ao17 t303.length co17 : Value).ownBlock ∧ some k_ ≠ (.slice (some ad315) x7_1.length co32 : Value).ownBlock) (.slice A315_6 ((rd_T64 x7_1 t312).f2.f1).length c315_6) ((rd_T64 x7_1 t312).f2.f1)) ∧ (Kd.R (Kd.int .i64) 3 w' w.heap.size (fun k_ => some k_ ≠ (.slice A315_6 ((rd_T64 x7_1 t312).f2.f1).length c315_6 : Value).ownBlock ∧ some k_ ≠ (.slice Ao17 t303.length co17 : Value).ownBlock) (.slice Ao36 t317.length co36) t317) ∧ (Kd.R Kd.string 9 w' w.heap.size (fun _ => True) s_.1 y320) ∧ (Kd.R (Kd.int .i64) 3 w' w.heap.size (fun k_ => some k_ ≠ (.slice Ao36 t317.length co36 : Value).ownBlock) (.slice Ao17 t303.length co17) t303) ∧ (Kd.S k64 64 w' w.heap.size (fun k_ => some k_ ≠ (.slice Ao36 t317.length co36 : Value).ownBlock ∧ some k_ ≠ (.slice Ao17 t303.length co17 : Value).ownBlock) (.slice (some ad315) x7_1.length co32) x7_1) ∧ (∃ c_, (s_.1 : Value) = .slice (some s_.2) y320.length c_) ∧ (w'.heap[gb308]? = some (.cells #[.int .i64 t316, .slice Ao36 t317.length co36] 27 (0, 0))) ∧ (IsS90 w0 w' g s0_0 t325 t326) ∧ (KeepBut w w' g none) ∧ (Below w0.heap.size w0 w')) ?_ ?_
                  rotate_left
                  ·
                   intro hJ1_6
                   refine join_ (σ := Value × Value) 7 #[true, false, true, false, false, true, true, true, true, true, false, false, false, false] (fun s_ => [(48, .int .i64 t324), (50, .agg #[.bool t327, s_.1, .bool t331, s_.2]), (49, .int .i64 (wrap64 (1 + t324)))]) (fun s_ w' => (w'.cell? ⟨gb308, 0, none⟩ = some (.int .i64 t316) ∧ w'.cell? ⟨gb308, 1, none⟩ = some (.slice Ao36 t317.length co36)) ∧ (Kd.R (Kd.int .u32) 119 w' w.heap.size (fun k_ => some k_ ≠ (s_.1 : Value).ownBlock ∧ some k_ ≠ (s_.2 : Value).ownBlock ∧ some k_ ≠ (.slice Ao17 t303.length co17 : Value).ownBlock ∧ some k_ ≠ (.slice (some ad315) x7_1.length co32 : Value).ownBlock) (.slice A315_2 ((rd_T64 x7_1 t312).f1.f0.f1).length c315_2) ((rd_T64 x7_1 t312).f1.f0.f1)) ∧ (Kd.R (Kd.int .u32) 119 w' w.heap.size (fun k_ => some k_ ≠ (s_.1 : Value).ownBlock ∧ some k_ ≠ (s_.2 : Value).ownBlock ∧ some k_ ≠ (.slice Ao17 t303.length co17 : Value).ownBlock ∧ some k_ ≠ (.slice (some ad315) x7_1.length co32 : Value).ownBlock) (.slice A315_4 ((rd_T64 x7_1 t312).f1.f1.f1).length c315_4) ((rd_T64 x7_1 t312).f1.f1.f1)) ∧ (Kd.R (Kd.int .i64) 3 w' w.heap.size (fun k_ => some k_ ≠ (.slice Ao36 t317.length co36 : Value).ownBlock ∧ some k_ ≠ (.slice Ao17 t303.length co17 : Value).ownBlock ∧ some k_ ≠ (.slice (some ad315) x7_1.length co32 : Value).ownBlock) (.slice A315_6 ((rd_T64 x7_1 t312).f2.f1).length c315_6) ((rd_T64 x7_1 t312).f2.f1)) ∧ (Kd.R (Kd.int .i64) 3 w' w.heap.size (fun k_ => some k_ ≠ (.slice A315_6 ((rd_T64 x7_1 t312).f2.f1).length c315_6 : Value).ownBlock ∧ some k_ ≠ (.slice Ao17 t303.length co17 : Value).ownBlock) (.slice Ao36 t317.length co36) t317) ∧ (Kd.R (Kd.int .u32) 119 w' w.heap.size (fun k_ => some k_ ≠ (.slice A315_2 ((rd_T64 x7_1 t312).f1.f0.f1).length c315_2 : Value).ownBlock ∧ some k_ ≠ (.slice A315_4 ((rd_T64 x7_1 t312).f1.f1.f1).length c315_4 : Value).ownBlock ∧ some k_ ≠ (s_.2 : Value).ownBlock) s_.1 t328) ∧ (Kd.R (Kd.int .u32) 119 w' w.heap.size (fun k_ => some k_ ≠ (.slice A315_2 ((rd_T64 x7_1 t312).f1.f0.f1).length c315_2 : Value).ownBlock ∧ some k_ ≠ (.slice A315_4 ((rd_T64 x7_1 t312).f1.f1.f1).length c315_4 : Value).ownBlock ∧ some k_ ≠ (s_.1 : Value).ownBlock) s_.2 t332) ∧ (Kd.R (Kd.int .i64) 3 w' w.heap.size (fun k_ => some k_ ≠ (.slice Ao36 t317.length co36 : Value).ownBlock) (.slice Ao17 t303.length co17) t303) ∧ (Kd.S k64 64 w' w.heap.size (fun k_ => some k_ ≠ (.slice Ao36 t317.length co36 : Value).ownBlock ∧ some k_ ≠ (s_.1 : Value).ownBlock ∧ some k_ ≠ (s_.2 : Value).ownBlock ∧ some k_ ≠ (.slice Ao17 t303.length co17 : Value).ownBlock) (.slice (some ad315) x7_1.length co32) x7_1) ∧ (w'.heap[gb308]? = some (.cells #[.int .i64 t316, .slice Ao36 t317.length co36] 27 (0, 0))) ∧ (IsS90 w0 w' g s0_0 t325 t326) ∧ (KeepBut w w' g none) ∧ (Below w0.heap.size w0 w')) ?_ ?_
                   rotate_left
                   ·
                    intro hJ6_8
                    refine join_ (σ := Value × Addr) 8 #[true, true, true, true, false, true, false, false, false, true, false, false, false, false] (fun s_ => [(43, s_.1), (45, .pointer (some (s_.2.add (x9_1).toNat)))]) (fun s_ w' => (w'.cell? ⟨gb308, 0, none⟩ = some (.int .i64 t316) ∧ w'.cell? ⟨gb308, 1, none⟩ = some (.slice Ao36 t317.length co36)) ∧ (Kd.R (Kd.int .u32) 119 w' w.heap.size (fun k_ => some k_ ≠ (.slice Ao17 t303.length co17 : Value).ownBlock ∧ some k_ ≠ (.slice (some ad315) x7_1.length co32 : Value).ownBlock) (.slice A315_2 ((rd_T64 x7_1 t312).f1.f0.f1).length c315_2) ((rd_T64 x7_1 t312).f1.f0.f1)) ∧ (Kd.R (Kd.int .u32) 119 w' w.heap.size (fun k_ => some k_ ≠ (.slice Ao17 t303.length co17 : Value).ownBlock ∧ some k_ ≠ (.slice (some ad315) x7_1.length co32 : Value).ownBlock) (.slice A315_4 ((rd_T64 x7_1 t312).f1.f1.f1).length c315_4) ((rd_T64 x7_1 t312).f1.f1.f1)) ∧ (Kd.R (Kd.int .i64) 3 w' w.heap.size (fun k_ => some k_ ≠ (.slice Ao36 t317.length co36 : Value).ownBlock ∧ some k_ ≠ (.slice Ao17 t303.length co17 : Value).ownBlock ∧ some k_ ≠ (.slice (some ad315) x7_1.length co32 : Value).ownBlock) (.slice A315_6 ((rd_T64 x7_1 t312).f2.f1).length c315_6) ((rd_T64 x7_1 t312).f2.f1)) ∧ (Kd.R (Kd.int .i64) 3 w' w.heap.size (fun k_ => some k_ ≠ (.slice A315_6 ((rd_T64 x7_1 t312).f2.f1).length c315_6 : Value).ownBlock ∧ some k_ ≠ (.slice Ao17 t303.length co17 : Value).ownBlock) (.slice Ao36 t317.length co36) t317) ∧ (Kd.R Kd.string 9 w' w.heap.size (fun _ => True) s_.1 y320) ∧ (Kd.R (Kd.int .i64) 3 w' w.heap.size (fun k_ => some k_ ≠ (.slice Ao36 t317.length co36 : Value).ownBlock) (.slice Ao17 t303.length co17) t303) ∧ (Kd.S k64 64 w' w.heap.size (fun k_ => some k_ ≠ (.slice Ao36 t317.length co36 : Value).ownBlock ∧ some k_ ≠ (.slice Ao17 t303.length co17 : Value).ownBlock) (.slice (some ad315) x7_1.length co32) x7_1) ∧ (∃ c_, (s_.1 : Value) = .slice (some s_.2) y320.length c_) ∧ (w'.heap[gb308]? = some (.cells #[.int .i64 t316, .slice Ao36 t317.length co36] 27 (0, 0))) ∧ (IsS90 w0 w' g s0_0 t313 t314) ∧ (KeepBut w w' g none) ∧ (Below w0.heap.size w0 w')) ?_ ?_
                    rotate_left
                    ·
                     intro hJ1
                     refine join_ (σ := Unit) 8 #[true, false, true, false, false, true, true, true, false, true, false, false, false, false] (fun s_ => [(48, .int .i64 t324), (49, .int .i64 (wrap64 (1 + t324)))]) (fun s_ w' => (w'.cell? ⟨gb308, 0, none⟩ = some (.int .i64 t316) ∧ w'.cell? ⟨gb308, 1, none⟩ = some (.slice Ao36 t317.length co36)) ∧ (Kd.R (Kd.int .u32) 119 w' w.heap.size (fun k_ => some k_ ≠ (.slice Ao17 t303.length co17 : Value).ownBlock ∧ some k_ ≠ (.slice (some ad315) x7_1.length co32 : Value).ownBlock) (.slice A315_2 ((rd_T64 x7_1 t312).f1.f0.f1).length c315_2) ((rd_T64 x7_1 t312).f1.f0.f1)) ∧ (Kd.R (Kd.int .u32) 119 w' w.heap.size (fun k_ => some k_ ≠ (.slice Ao17 t303.length co17 : Value).ownBlock ∧ some k_ ≠ (.slice (some ad315) x7_1.length co32 : Value).ownBlock) (.slice A315_4 ((rd_T64 x7_1 t312).f1.f1.f1).length c315_4) ((rd_T64 x7_1 t312).f1.f1.f1)) ∧ (Kd.R (Kd.int .i64) 3 w' w.heap.size (fun k_ => some k_ ≠ (.slice Ao36 t317.length co36 : Value).ownBlock ∧ some k_ ≠ (.slice Ao17 t303.length co17 : Value).ownBlock ∧ some k_ ≠ (.slice (some ad315) x7_1.length co32 : Value).ownBlock) (.slice A315_6 ((rd_T64 x7_1 t312).f2.f1).length c315_6) ((rd_T64 x7_1 t312).f2.f1)) ∧ (Kd.R (Kd.int .i64) 3 w' w.heap.size (fun k_ => some k_ ≠ (.slice A315_6 ((rd_T64 x7_1 t312).f2.f1).length c315_6 : Value).ownBlock ∧ some k_ ≠ (.slice Ao17 t303.length co17 : Value).ownBlock) (.slice Ao36 t317.length co36) t317) ∧ (Kd.R (Kd.int .i64) 3 w' w.heap.size (fun k_ => some k_ ≠ (.slice Ao36 t317.length co36 : Value).ownBlock) (.slice Ao17 t303.length co17) t303) ∧ (Kd.S k64 64 w' w.heap.size (fun k_ => some k_ ≠ (.slice Ao36 t317.length co36 : Value).ownBlock ∧ some k_ ≠ (.slice Ao17 t303.length co17 : Value).ownBlock) (.slice (some ad315) x7_1.length co32) x7_1) ∧ (w'.heap[gb308]? = some (.cells #[.int .i64 t316, .slice Ao36 t317.length co36] 27 (0, 0))) ∧ (IsS90 w0 w' g s0_0 t325 t326) ∧ (KeepBut w w' g none) ∧ (Below w0.heap.size w0 w')) ?_ ?_
                     rotate_left
                     ·
                      intro hJ6
                      refine two_ (i := 1) (j := 6) (Ni := some 43) (Nj := some 48) #[true, true, true, false, false, true, false, false, false, true, false, false, false, false] #[true, false, true, false, false, true, true, false, false, true, false, false, false, false] rfl rfl rfl rfl (two_of HT_.out (by kernel_rfl)) (by decide) (by decide) (fun K hK => ?_) (fun K hK => ?_)
                      ·
                       skip
                       refine Kd.R_lit_step Kd.string _ 9 ?hg (N := 43) ?hd (xs := ([(⟨#[118]⟩ : ByteArray), (⟨#[103]⟩ : ByteArray), (⟨#[104]⟩ : ByteArray), (⟨#[116]⟩ : ByteArray), (⟨#[114, 104, 111]⟩ : ByteArray), (⟨#[109, 117]⟩ : ByteArray), (⟨#[76]⟩ : ByteArray), (⟨#[70]⟩ : ByteArray)] : List ByteArray)) (inner := [.string (⟨#[118]⟩ : ByteArray), .string (⟨#[103]⟩ : ByteArray), .string (⟨#[104]⟩ : ByteArray), .string (⟨#[116]⟩ : ByteArray), .string (⟨#[114, 104, 111]⟩ : ByteArray), .string (⟨#[109, 117]⟩ : ByteArray), .string (⟨#[76]⟩ : ByteArray), .string (⟨#[70]⟩ : ByteArray)]) (ok := fun _ => True) (okp := fun _ => True) ?hr ?hp (fun _ hk => hk) trivial (Below.refl _ _) (Nat.le_refl _) (by simp) ?_; (case hd => rfl); (case hg => rfl); (case hr => first | (go_simp; done) | (go_simp; rfl)); (case hp => exact (Reps.one (show Kd.M Kd.string _ _ _ (⟨#[118]⟩ : ByteArray) [.string (⟨#[118]⟩ : ByteArray)] from rfl) (Reps.one (show Kd.M Kd.string _ _ _ (⟨#[103]⟩ : ByteArray) [.string (⟨#[103]⟩ : ByteArray)] from rfl) (Reps.one (show Kd.M Kd.string _ _ _ (⟨#[104]⟩ : ByteArray) [.string (⟨#[104]⟩ : ByteArray)] from rfl) (Reps.one (show Kd.M Kd.string _ _ _ (⟨#[116]⟩ : ByteArray) [.string (⟨#[116]⟩ : ByteArray)] from rfl) (Reps.one (show Kd.M Kd.string _ _ _ (⟨#[114, 104, 111]⟩ : ByteArray) [.string (⟨#[114, 104, 111]⟩ : ByteArray)] from rfl) (Reps.one (show Kd.M Kd.string _ _ _ (⟨#[109, 117]⟩ : ByteArray) [.string (⟨#[109, 117]⟩ : ByteArray)] from rfl) (Reps.one (show Kd.M Kd.string _ _ _ (⟨#[76]⟩ : ByteArray) [.string (⟨#[76]⟩ : ByteArray)] from rfl) (Reps.one (show Kd.M Kd.string _ _ _ (⟨#[70]⟩ : ByteArray) [.string (⟨#[70]⟩ : ByteArray)] from rfl) (Reps.none _ _))))))))))
                       intro v321 w39 ho40 hb hg_ hnew_
                       clear hg_ hnew_
                       (first | rw [← Ny320.out] at ho40 | (simp only [Int.reduceToNat] at ho40; rw [← Ny320.out] at ho40))
                       replace HO_7 := am (Kd.S_below (fS HO_7) hb); replace HO_309001 := RB HO_309001 hb; replace HL315_2 := RB HL315_2 hb; replace HL315_4 := RB HL315_4 hb; replace HL315_6 := RB HL315_6 hb; replace HO319 := RB HO319 hb; have HO322 := loK ho40 HK; replace BK308 := kB BK308 hb; replace HI0 := IB HI0 hb; replace HK := KB HK hb; replace HB := sB HB hb
                       clear hb ho40
                       obtain ⟨Ao41, co41, eo41⟩ := Kd.R_slice HO322.out
                       subst eo41
                       obtain ⟨ado41, fo41, _⟩ := Kd.at_string (Kd.R_reads' HO322.out).2.2 0 (by decide) (by rw [Ny320.out]; simp)
                       cases fo41
                       refine hK.out _ _ (hh2 BK308) (fun hHeld => ?_)
                       clear hK K
                       refine nm (some 43) ?_
                       refine pu 3 (some 45) #[true, true, true, true, false, true, false, false, false, true, false, false, false, false] HT_ ?_
                       exact norm_ pa (hJ1 (.slice (some ado41) y320.length co41, ado41) _ ⟨hHeld, (mR HL315_2 (fun _ h => ⟨h.2, h.1⟩)), (mR HL315_4 (fun _ h => ⟨h.2, h.1⟩)), (mR HL315_6 (fun _ h => ⟨h.2.2, ⟨h.2.1, h.1⟩⟩)), (mR HO319 (fun _ h => ⟨h.2, h.1⟩)), (fR HO322), (fR HO_309001), (by (with_reducible repeat (first | apply Kd.S_alloc | apply Kd.S_drewN | apply Kd.S_drew)); exact Kd.S_mono HO_7.out (fun _ hk => ⟨hk.2, hk.1⟩)), ⟨_, rfl⟩, (fb BK308), (fI HI0), (fK HK), (fB HB)⟩)
                      ·
                       skip
                       refine ge Try.func56 #[.pointer (some ⟨g, 0, none⟩), .int .i64 3] ?_
                       with_reducible refine (spec_l01Below.calls g s0_0 t313 t314 3 t324 t325 t326 w0 _ ?side1 ?side2 A28.out).mono ?_
                       (case side1 => exact fI HI0)
                       (case side2 => exact fB HB)
                       rintro e w39 ⟨rfl, hi, hb, hk⟩
                       refine ⟨_, rfl, ?_⟩
                       replace HO_7 := am (Kd.S_mono (Kd.S_keep (IsS90.apartS (show IsS90 w0 _ g s0_0 t313 t314 from fI HI0) (fS HO_7) (by decide)) hk (fun _ h => h.2)) (fun _ h => h.1)); replace HO_309001 := kR HI0 HO_309001 hk; replace BK308 := kK BK308 hk NB308_0; replace HL315_2 := kR HI0 HL315_2 hk; replace HL315_4 := kR HI0 HL315_4 hk; replace HL315_6 := kR HI0 HL315_6 hk; replace HO319 := kR HI0 HO319 hk; replace HK := Kk HK hk; replace HB := am (hb); replace HI0 := am (hi)
                       clear hb hk hi
                       refine hK.out _ _ (hh2 BK308) (fun hHeld => ?_)
                       clear hK K
                       refine nm (some 48) ?_
                       refine pu 7 (some 49) #[true, false, true, false, false, true, true, true, false, true, false, false, false, false] HT_ ?_
                       exact norm_ pa (hJ6 () _ ⟨hHeld, (mR HL315_2 (fun _ h => ⟨h.2, h.1⟩)), (mR HL315_4 (fun _ h => ⟨h.2, h.1⟩)), (mR HL315_6 (fun _ h => ⟨h.2.2, ⟨h.2.1, h.1⟩⟩)), (mR HO319 (fun _ h => ⟨h.2, h.1⟩)), (fR HO_309001), (by (with_reducible repeat (first | apply Kd.S_alloc | apply Kd.S_drewN | apply Kd.S_drew)); exact Kd.S_mono HO_7.out (fun _ hk => ⟨hk.2, hk.1⟩)), (fb BK308), (fI HI0), (fK HK), (fB HB)⟩)
                     ·
                      skip
                      clear HO_7 HO_309001 HL315_2 HL315_4 HL315_6 HO319 BK308 HI0 HK HB; rintro _ w40 ⟨hHeld, HL315_2, HL315_4, HL315_6, HO319, HO_309001, HO_7, BK308, HI0, HK, HB⟩; replace HL315_2 := am HL315_2; replace HL315_4 := am HL315_4; replace HL315_6 := am HL315_6; replace HO319 := am HO319; replace HO_309001 := am HO_309001; replace HO_7 := am HO_7; replace BK308 := am BK308; replace HI0 := am HI0; replace HK := am HK; replace HB := am HB
                      refine nq _ ?_
                      refine two_ (i := 1) (j := 8) (Ni := some 43) (Nj := some 50) #[true, true, true, false, false, true, true, true, false, true, false, false, false, false] #[true, false, true, false, false, true, true, true, true, true, false, false, false, false] rfl rfl rfl rfl (two_of HT_.out (by kernel_rfl)) (by decide) (by decide) (fun K hK => ?_) (fun K hK => ?_)
                      ·
                       skip
                       refine Kd.R_lit_step Kd.string _ 9 ?hg (N := 43) ?hd (xs := ([(⟨#[118]⟩ : ByteArray), (⟨#[103]⟩ : ByteArray), (⟨#[104]⟩ : ByteArray), (⟨#[116]⟩ : ByteArray), (⟨#[114, 104, 111]⟩ : ByteArray), (⟨#[109, 117]⟩ : ByteArray), (⟨#[76]⟩ : ByteArray), (⟨#[70]⟩ : ByteArray)] : List ByteArray)) (inner := [.string (⟨#[118]⟩ : ByteArray), .string (⟨#[103]⟩ : ByteArray), .string (⟨#[104]⟩ : ByteArray), .string (⟨#[116]⟩ : ByteArray), .string (⟨#[114, 104, 111]⟩ : ByteArray), .string (⟨#[109, 117]⟩ : ByteArray), .string (⟨#[76]⟩ : ByteArray), .string (⟨#[70]⟩ : ByteArray)]) (ok := fun _ => True) (okp := fun _ => True) ?hr ?hp (fun _ hk => hk) trivial (Below.refl _ _) (Nat.le_refl _) (by simp) ?_; (case hd => rfl); (case hg => rfl); (case hr => first | (go_simp; done) | (go_simp; rfl)); (case hp => exact (Reps.one (show Kd.M Kd.string _ _ _ (⟨#[118]⟩ : ByteArray) [.string (⟨#[118]⟩ : ByteArray)] from rfl) (Reps.one (show Kd.M Kd.string _ _ _ (⟨#[103]⟩ : ByteArray) [.string (⟨#[103]⟩ : ByteArray)] from rfl) (Reps.one (show Kd.M Kd.string _ _ _ (⟨#[104]⟩ : ByteArray) [.string (⟨#[104]⟩ : ByteArray)] from rfl) (Reps.one (show Kd.M Kd.string _ _ _ (⟨#[116]⟩ : ByteArray) [.string (⟨#[116]⟩ : ByteArray)] from rfl) (Reps.one (show Kd.M Kd.string _ _ _ (⟨#[114, 104, 111]⟩ : ByteArray) [.string (⟨#[114, 104, 111]⟩ : ByteArray)] from rfl) (Reps.one (show Kd.M Kd.string _ _ _ (⟨#[109, 117]⟩ : ByteArray) [.string (⟨#[109, 117]⟩ : ByteArray)] from rfl) (Reps.one (show Kd.M Kd.string _ _ _ (⟨#[76]⟩ : ByteArray) [.string (⟨#[76]⟩ : ByteArray)] from rfl) (Reps.one (show Kd.M Kd.string _ _ _ (⟨#[70]⟩ : ByteArray) [.string (⟨#[70]⟩ : ByteArray)] from rfl) (Reps.none _ _))))))))))
                       intro v321 w41 ho42 hb hg_ hnew_
                       clear hg_ hnew_
                       (first | rw [← Ny320.out] at ho42 | (simp only [Int.reduceToNat] at ho42; rw [← Ny320.out] at ho42))
                       replace HO_7 := am (Kd.S_below (fS HO_7) hb); replace HO_309001 := RB HO_309001 hb; replace HL315_2 := RB HL315_2 hb; replace HL315_4 := RB HL315_4 hb; replace HL315_6 := RB HL315_6 hb; replace HO319 := RB HO319 hb; have HO322 := loK ho42 HK; replace BK308 := kB BK308 hb; replace HI0 := IB HI0 hb; replace HK := KB HK hb; replace HB := sB HB hb
                       clear hb ho42
                       obtain ⟨Ao43, co43, eo43⟩ := Kd.R_slice HO322.out
                       subst eo43
                       obtain ⟨ado43, fo43, _⟩ := Kd.at_string (Kd.R_reads' HO322.out).2.2 0 (by decide) (by rw [Ny320.out]; simp)
                       cases fo43
                       refine hK.out _ _ (hh2 BK308) (fun hHeld => ?_)
                       clear hK K
                       refine nm (some 43) ?_
                       refine pu 3 (some 45) #[true, true, true, true, false, true, true, true, false, true, false, false, false, false] HT_ ?_
                       exact norm_ pa (hJ1_6 (.slice (some ado43) y320.length co43, ado43) _ ⟨hHeld, (fR HL315_2), (fR HL315_4), (fR HL315_6), (fR HO319), (fR HO322), (fR HO_309001), (fS HO_7), ⟨_, rfl⟩, (fb BK308), (fI HI0), (fK HK), (fB HB)⟩)
                      ·
                       skip
                       refine ge Try.func82 #[.int .i64 (wrap64 (1 + t324))] ?_
                       with_reducible refine (spec_l03Of.calls kj11 (wrap64 (1 + t324)) t327 t328 t331 t332 _ A29.out).mono ?_
                       rintro e w41 ⟨v329, v333, rfl, ho0, ho1, hb⟩
                       refine ⟨_, rfl, ?_⟩
                       replace HO_7 := am (Kd.S_mono (Kd.S_told (Kd.S_told (Kd.S_old (fS HO_7) hb) (Kd.R_base ho0)) (Kd.R_base ho1)) (fun _ h_ => h_.1)); replace HO_309001 := RB HO_309001 hb; replace HL315_6 := RB HL315_6 hb; replace HO319 := RB HO319 hb; have HO330 := am (Kd.R_lower (Kd.R_new' (Kd.R_new' ho0 (Kd.R_lt (fR HL315_2))) (Kd.R_lt (fR HL315_4))) (keep_size (w := w) (g := g) (row := none) (fK HK))); have HO334 := am (Kd.R_lower (Kd.R_new' (Kd.R_new' ho1 (Kd.R_lt (fR HL315_2))) (Kd.R_lt (fR HL315_4))) (keep_size (w := w) (g := g) (row := none) (fK HK))); replace HL315_2 := am (Kd.R_mono (Kd.R_told (Kd.R_told (Kd.R_old (fR HL315_2) hb) (Kd.R_base ho0)) (Kd.R_base ho1)) (fun _ h_ => h_.1)); replace HL315_4 := am (Kd.R_mono (Kd.R_told (Kd.R_told (Kd.R_old (fR HL315_4) hb) (Kd.R_base ho0)) (Kd.R_base ho1)) (fun _ h_ => h_.1)); replace BK308 := kB BK308 hb; replace HI0 := IB HI0 hb; replace HK := KB HK hb; replace HB := sB HB hb
                       clear hb ho0 ho1
                       refine hK.out _ _ (hh2 BK308) (fun hHeld => ?_)
                       clear hK K
                       refine nm (some 50) ?_
                       exact norm_ pa (hJ6_8 (v329, v333) _ ⟨hHeld, (mR HL315_2 (fun _ h => ⟨h.1.2, ⟨h.2, ⟨h.1.1.1, h.1.1.2⟩⟩⟩)), (mR HL315_4 (fun _ h => ⟨h.1.2, ⟨h.2, ⟨h.1.1.1, h.1.1.2⟩⟩⟩)), (fR HL315_6), (fR HO319), (mR HO330 (fun _ h => ⟨h.1.2, ⟨h.2, h.1.1⟩⟩)), (mR HO334 (fun _ h => ⟨h.1.2, ⟨h.2, h.1.1⟩⟩)), (fR HO_309001), (by (with_reducible repeat (first | apply Kd.S_alloc | apply Kd.S_drewN | apply Kd.S_drew)); exact Kd.S_mono HO_7.out (fun _ hk => ⟨hk.1.1.1, ⟨hk.1.2, ⟨hk.2, hk.1.1.2⟩⟩⟩)), (fb BK308), (fI HI0), (fK HK), (fB HB)⟩)
                    ·
                     skip
                     clear HO_7 HO_309001 HL315_2 HL315_4 HL315_6 HO319 BK308 HI0 HK HB; rintro ⟨v321, adz_v321⟩ w42 ⟨hHeld, HL315_2, HL315_4, HL315_6, HO319, HO322, HO_309001, HO_7, HA_HO322, BK308, HI0, HK, HB⟩; (try dsimp only at HL315_2 HL315_4 HL315_6 HO319 HO322 HO_309001 HO_7 HA_HO322 BK308 HI0 HK HB); replace HL315_2 := am HL315_2; replace HL315_4 := am HL315_4; replace HL315_6 := am HL315_6; replace HO319 := am HO319; replace HO322 := am HO322; replace HO_309001 := am HO_309001; replace HO_7 := am HO_7; replace HA_HO322 := am HA_HO322; replace BK308 := am BK308; replace HI0 := am HI0; replace HK := am HK; replace HB := am HB
                     obtain ⟨co43, eo43⟩ := HA_HO322.out
                     clear HA_HO322
                     subst eo43
                     refine nq _ ?_
                     refine two_ (i := 4) (j := 6) (Ni := some 46) (Nj := some 48) #[true, true, true, true, true, true, false, false, false, true, false, false, false, false] #[true, true, true, true, false, true, true, false, false, true, false, false, false, false] rfl rfl rfl rfl (two_of HT_.out (by kernel_rfl)) (by decide) (by decide) (fun K hK => ?_) (fun K hK => ?_)
                     ·
                      skip
                      (have p323 : 0 ≤ (x9_1 : Int) := of_decide_eq_true (ha); have q323 : x9_1 < (y320.length : Int) := of_decide_eq_true (ha); obtain ⟨ad323, e323, hx323_0⟩ := Kd.at_string (Kd.R_reads' HO322.out).2.2 x9_1 p323 q323; obtain rfl : adz_v321 = ad323 := (by injection e323))
                      refine value_ (w1 := ?_) (v := ?_) (by rfl) rfl ?_ ?_
                      rotate_left 2
                      ·
                       go_simp
                       constructor
                       ·
                        rfl
                       ·
                        rfl
                      clear hx323_0
                      refine hK.out _ _ (hh2 BK308) (fun hHeld => ?_)
                      clear hK K
                      refine nm (some 46) ?_
                      exact norm_ pa (hJ1_4 (.slice (some adz_v321) y320.length co43, adz_v321) _ ⟨hHeld, (fR HL315_2), (fR HL315_4), (fR HL315_6), (fR HO319), (fR HO322), (fR HO_309001), (fS HO_7), ⟨_, rfl⟩, (fb BK308), (fI HI0), (fK HK), (fB HB)⟩)
                     ·
                      skip
                      refine ge Try.func56 #[.pointer (some ⟨g, 0, none⟩), .int .i64 3] ?_
                      with_reducible refine (spec_l01Below.calls g s0_0 t313 t314 3 t324 t325 t326 w0 _ ?side1 ?side2 A28.out).mono ?_
                      (case side1 => exact fI HI0)
                      (case side2 => exact fB HB)
                      rintro e w44 ⟨rfl, hi, hb, hk⟩
                      refine ⟨_, rfl, ?_⟩
                      replace HO_7 := am (Kd.S_mono (Kd.S_keep (IsS90.apartS (show IsS90 w0 _ g s0_0 t313 t314 from fI HI0) (fS HO_7) (by decide)) hk (fun _ h => h.2)) (fun _ h => h.1)); replace HO_309001 := kR HI0 HO_309001 hk; replace BK308 := kK BK308 hk NB308_0; replace HL315_2 := kR HI0 HL315_2 hk; replace HL315_4 := kR HI0 HL315_4 hk; replace HL315_6 := kR HI0 HL315_6 hk; replace HO319 := kR HI0 HO319 hk; replace HO322 := kR HI0 HO322 hk; replace HK := Kk HK hk; replace HB := am (hb); replace HI0 := am (hi)
                      clear hb hk hi
                      refine hK.out _ _ (hh2 BK308) (fun hHeld => ?_)
                      clear hK K
                      refine nm (some 48) ?_
                      refine pu 7 (some 49) #[true, true, true, true, false, true, true, true, false, true, false, false, false, false] HT_ ?_
                      exact norm_ pa (hJ1_6 (.slice (some adz_v321) y320.length co43, adz_v321) _ ⟨hHeld, (fR HL315_2), (fR HL315_4), (fR HL315_6), (fR HO319), (fR HO322), (fR HO_309001), (fS HO_7), ⟨_, rfl⟩, (fb BK308), (fI HI0), (fK HK), (fB HB)⟩)
                   ·
                    skip
                    clear HO_7 HO_309001 HL315_2 HL315_4 HL315_6 HO319 BK308 HI0 HK HB; rintro ⟨v329, v333⟩ w41 ⟨hHeld, HL315_2, HL315_4, HL315_6, HO319, HO330, HO334, HO_309001, HO_7, BK308, HI0, HK, HB⟩; (try dsimp only at HL315_2 HL315_4 HL315_6 HO319 HO330 HO334 HO_309001 HO_7 BK308 HI0 HK HB); replace HL315_2 := am HL315_2; replace HL315_4 := am HL315_4; replace HL315_6 := am HL315_6; replace HO319 := am HO319; replace HO330 := am HO330; replace HO334 := am HO334; replace HO_309001 := am HO_309001; replace HO_7 := am HO_7; replace BK308 := am BK308; replace HI0 := am HI0; replace HK := am HK; replace HB := am HB
                    refine nq _ ?_
                    refine on 1 (some 43) #[true, true, true, false, false, true, true, true, true, true, false, false, false, false] HT_ (fun K hK => ?_)
                    refine Kd.R_lit_step Kd.string _ 9 ?hg (N := 43) ?hd (xs := ([(⟨#[118]⟩ : ByteArray), (⟨#[103]⟩ : ByteArray), (⟨#[104]⟩ : ByteArray), (⟨#[116]⟩ : ByteArray), (⟨#[114, 104, 111]⟩ : ByteArray), (⟨#[109, 117]⟩ : ByteArray), (⟨#[76]⟩ : ByteArray), (⟨#[70]⟩ : ByteArray)] : List ByteArray)) (inner := [.string (⟨#[118]⟩ : ByteArray), .string (⟨#[103]⟩ : ByteArray), .string (⟨#[104]⟩ : ByteArray), .string (⟨#[116]⟩ : ByteArray), .string (⟨#[114, 104, 111]⟩ : ByteArray), .string (⟨#[109, 117]⟩ : ByteArray), .string (⟨#[76]⟩ : ByteArray), .string (⟨#[70]⟩ : ByteArray)]) (ok := fun _ => True) (okp := fun _ => True) ?hr ?hp (fun _ hk => hk) trivial (Below.refl _ _) (Nat.le_refl _) (by simp) ?_; (case hd => rfl); (case hg => rfl); (case hr => first | (go_simp; done) | (go_simp; rfl)); (case hp => exact (Reps.one (show Kd.M Kd.string _ _ _ (⟨#[118]⟩ : ByteArray) [.string (⟨#[118]⟩ : ByteArray)] from rfl) (Reps.one (show Kd.M Kd.string _ _ _ (⟨#[103]⟩ : ByteArray) [.string (⟨#[103]⟩ : ByteArray)] from rfl) (Reps.one (show Kd.M Kd.string _ _ _ (⟨#[104]⟩ : ByteArray) [.string (⟨#[104]⟩ : ByteArray)] from rfl) (Reps.one (show Kd.M Kd.string _ _ _ (⟨#[116]⟩ : ByteArray) [.string (⟨#[116]⟩ : ByteArray)] from rfl) (Reps.one (show Kd.M Kd.string _ _ _ (⟨#[114, 104, 111]⟩ : ByteArray) [.string (⟨#[114, 104, 111]⟩ : ByteArray)] from rfl) (Reps.one (show Kd.M Kd.string _ _ _ (⟨#[109, 117]⟩ : ByteArray) [.string (⟨#[109, 117]⟩ : ByteArray)] from rfl) (Reps.one (show Kd.M Kd.string _ _ _ (⟨#[76]⟩ : ByteArray) [.string (⟨#[76]⟩ : ByteArray)] from rfl) (Reps.one (show Kd.M Kd.string _ _ _ (⟨#[70]⟩ : ByteArray) [.string (⟨#[70]⟩ : ByteArray)] from rfl) (Reps.none _ _))))))))))
                    intro v321 w42 ho43 hb hg_ hnew_
                    clear hg_ hnew_
                    (first | rw [← Ny320.out] at ho43 | (simp only [Int.reduceToNat] at ho43; rw [← Ny320.out] at ho43))
                    replace HO_7 := am (Kd.S_below (fS HO_7) hb); replace HO_309001 := RB HO_309001 hb; replace HL315_2 := RB HL315_2 hb; replace HL315_4 := RB HL315_4 hb; replace HL315_6 := RB HL315_6 hb; replace HO319 := RB HO319 hb; replace HO330 := RB HO330 hb; replace HO334 := RB HO334 hb; have HO322 := loK ho43 HK; replace BK308 := kB BK308 hb; replace HI0 := IB HI0 hb; replace HK := KB HK hb; replace HB := sB HB hb
                    clear hb ho43
                    obtain ⟨Ao44, co44, eo44⟩ := Kd.R_slice HO322.out
                    subst eo44
                    obtain ⟨ado44, fo44, _⟩ := Kd.at_string (Kd.R_reads' HO322.out).2.2 0 (by decide) (by rw [Ny320.out]; simp)
                    cases fo44
                    refine hK.out _ _ (hh2 BK308) (fun hHeld => ?_)
                    clear hK K
                    refine nm (some 43) ?_
                    refine pu 3 (some 45) #[true, true, true, true, false, true, true, true, true, true, false, false, false, false] HT_ ?_
                    exact norm_ pa (hJ1_6_8 (.slice (some ado44) y320.length co44, ado44, v329, v333) _ ⟨hHeld, (fR HL315_2), (fR HL315_4), (fR HL315_6), (fR HO319), (fR HO322), (fR HO330), (fR HO334), (fR HO_309001), (fS HO_7), ⟨_, rfl⟩, (fb BK308), (fI HI0), (fK HK), (fB HB)⟩)
                  ·
                   skip
                   clear HO_7 HO_309001 HL315_2 HL315_4 HL315_6 HO319 BK308 HI0 HK HB; rintro ⟨v321, adz_v321⟩ w43 ⟨hHeld, HL315_2, HL315_4, HL315_6, HO319, HO322, HO_309001, HO_7, HA_HO322, BK308, HI0, HK, HB⟩; (try dsimp only at HL315_2 HL315_4 HL315_6 HO319 HO322 HO_309001 HO_7 HA_HO322 BK308 HI0 HK HB); replace HL315_2 := am HL315_2; replace HL315_4 := am HL315_4; replace HL315_6 := am HL315_6; replace HO319 := am HO319; replace HO322 := am HO322; replace HO_309001 := am HO_309001; replace HO_7 := am HO_7; replace HA_HO322 := am HA_HO322; replace BK308 := am BK308; replace HI0 := am HI0; replace HK := am HK; replace HB := am HB
                   obtain ⟨co44, eo44⟩ := HA_HO322.out
                   clear HA_HO322
                   subst eo44
                   refine nq _ ?_
                   refine two_ (i := 4) (j := 8) (Ni := some 46) (Nj := some 50) #[true, true, true, true, true, true, true, true, false, true, false, false, false, false] #[true, true, true, true, false, true, true, true, true, true, false, false, false, false] rfl rfl rfl rfl (two_of HT_.out (by kernel_rfl)) (by decide) (by decide) (fun K hK => ?_) (fun K hK => ?_)
                   ·
                    skip
                    (have p323 : 0 ≤ (x9_1 : Int) := of_decide_eq_true (ha); have q323 : x9_1 < (y320.length : Int) := of_decide_eq_true (ha); obtain ⟨ad323, e323, hx323_0⟩ := Kd.at_string (Kd.R_reads' HO322.out).2.2 x9_1 p323 q323; obtain rfl : adz_v321 = ad323 := (by injection e323))
                    refine value_ (w1 := ?_) (v := ?_) (by rfl) rfl ?_ ?_
                    rotate_left 2
                    ·
                     go_simp
                     constructor
                     ·
                      rfl
                     ·
                      rfl
                    clear hx323_0
                    refine hK.out _ _ (hh2 BK308) (fun hHeld => ?_)
                    clear hK K
                    refine nm (some 46) ?_
                    exact norm_ pa (hJ1_4_6 (.slice (some adz_v321) y320.length co44, adz_v321) _ ⟨hHeld, (fR HL315_2), (fR HL315_4), (fR HL315_6), (fR HO319), (fR HO322), (fR HO_309001), (fS HO_7), ⟨_, rfl⟩, (fb BK308), (fI HI0), (fK HK), (fB HB)⟩)
                   ·
                    skip
                    refine ge Try.func82 #[.int .i64 (wrap64 (1 + t324))] ?_
                    with_reducible refine (spec_l03Of.calls kj11 (wrap64 (1 + t324)) t327 t328 t331 t332 _ A29.out).mono ?_
                    rintro e w45 ⟨v329, v333, rfl, ho0, ho1, hb⟩
                    refine ⟨_, rfl, ?_⟩
                    replace HO_7 := am (Kd.S_mono (Kd.S_told (Kd.S_told (Kd.S_old (fS HO_7) hb) (Kd.R_base ho0)) (Kd.R_base ho1)) (fun _ h_ => h_.1)); replace HO_309001 := RB HO_309001 hb; replace HL315_6 := RB HL315_6 hb; replace HO319 := RB HO319 hb; replace HO322 := RB HO322 hb; have HO330 := am (Kd.R_lower (Kd.R_new' (Kd.R_new' ho0 (Kd.R_lt (fR HL315_2))) (Kd.R_lt (fR HL315_4))) (keep_size (w := w) (g := g) (row := none) (fK HK))); have HO334 := am (Kd.R_lower (Kd.R_new' (Kd.R_new' ho1 (Kd.R_lt (fR HL315_2))) (Kd.R_lt (fR HL315_4))) (keep_size (w := w) (g := g) (row := none) (fK HK))); replace HL315_2 := am (Kd.R_mono (Kd.R_told (Kd.R_told (Kd.R_old (fR HL315_2) hb) (Kd.R_base ho0)) (Kd.R_base ho1)) (fun _ h_ => h_.1)); replace HL315_4 := am (Kd.R_mono (Kd.R_told (Kd.R_told (Kd.R_old (fR HL315_4) hb) (Kd.R_base ho0)) (Kd.R_base ho1)) (fun _ h_ => h_.1)); replace BK308 := kB BK308 hb; replace HI0 := IB HI0 hb; replace HK := KB HK hb; replace HB := sB HB hb
                    clear hb ho0 ho1
                    refine hK.out _ _ (hh2 BK308) (fun hHeld => ?_)
                    clear hK K
                    refine nm (some 50) ?_
                    exact norm_ pa (hJ1_6_8 (.slice (some adz_v321) y320.length co44, adz_v321, v329, v333) _ ⟨hHeld, (mR HL315_2 (fun _ h => ⟨h.1.2, ⟨h.2, ⟨h.1.1.1, h.1.1.2⟩⟩⟩)), (mR HL315_4 (fun _ h => ⟨h.1.2, ⟨h.2, ⟨h.1.1.1, h.1.1.2⟩⟩⟩)), (fR HL315_6), (fR HO319), (fR HO322), (mR HO330 (fun _ h => ⟨h.1.2, ⟨h.2, h.1.1⟩⟩)), (mR HO334 (fun _ h => ⟨h.1.2, ⟨h.2, h.1.1⟩⟩)), (fR HO_309001), (by (with_reducible repeat (first | apply Kd.S_alloc | apply Kd.S_drewN | apply Kd.S_drew)); exact Kd.S_mono HO_7.out (fun _ hk => ⟨hk.1.1.1, ⟨hk.1.2, ⟨hk.2, hk.1.1.2⟩⟩⟩)), ⟨_, rfl⟩, (fb BK308), (fI HI0), (fK HK), (fB HB)⟩)
                 ·
                  skip
                  clear HO_7 HO_309001 HL315_2 HL315_4 HL315_6 HO319 BK308 HI0 HK HB; rintro ⟨v321, adz_v321⟩ w42 ⟨hHeld, HL315_2, HL315_4, HL315_6, HO319, HO322, HO_309001, HO_7, HA_HO322, BK308, HI0, HK, HB⟩; (try dsimp only at HL315_2 HL315_4 HL315_6 HO319 HO322 HO_309001 HO_7 HA_HO322 BK308 HI0 HK HB); replace HL315_2 := am HL315_2; replace HL315_4 := am HL315_4; replace HL315_6 := am HL315_6; replace HO319 := am HO319; replace HO322 := am HO322; replace HO_309001 := am HO_309001; replace HO_7 := am HO_7; replace HA_HO322 := am HA_HO322; replace BK308 := am BK308; replace HI0 := am HI0; replace HK := am HK; replace HB := am HB
                  obtain ⟨co43, eo43⟩ := HA_HO322.out
                  clear HA_HO322
                  subst eo43
                  refine nq _ ?_
                  refine on 6 (some 48) #[true, true, true, true, true, true, true, false, false, true, false, false, false, false] HT_ (fun K hK => ?_)
                  refine ge Try.func56 #[.pointer (some ⟨g, 0, none⟩), .int .i64 3] ?_
                  with_reducible refine (spec_l01Below.calls g s0_0 t313 t314 3 t324 t325 t326 w0 _ ?side1 ?side2 A28.out).mono ?_
                  (case side1 => exact fI HI0)
                  (case side2 => exact fB HB)
                  rintro e w44 ⟨rfl, hi, hb, hk⟩
                  refine ⟨_, rfl, ?_⟩
                  replace HO_7 := am (Kd.S_mono (Kd.S_keep (IsS90.apartS (show IsS90 w0 _ g s0_0 t313 t314 from fI HI0) (fS HO_7) (by decide)) hk (fun _ h => h.2)) (fun _ h => h.1)); replace HO_309001 := kR HI0 HO_309001 hk; replace BK308 := kK BK308 hk NB308_0; replace HL315_2 := kR HI0 HL315_2 hk; replace HL315_4 := kR HI0 HL315_4 hk; replace HL315_6 := kR HI0 HL315_6 hk; replace HO319 := kR HI0 HO319 hk; replace HO322 := kR HI0 HO322 hk; replace HK := Kk HK hk; replace HB := am (hb); replace HI0 := am (hi)
                  clear hb hk hi
                  refine hK.out _ _ (hh2 BK308) (fun hHeld => ?_)
                  clear hK K
                  refine nm (some 48) ?_
                  refine pu 7 (some 49) #[true, true, true, true, true, true, true, true, false, true, false, false, false, false] HT_ ?_
                  exact norm_ pa (hJ1_4_6 (.slice (some adz_v321) y320.length co43, adz_v321) _ ⟨hHeld, (fR HL315_2), (fR HL315_4), (fR HL315_6), (fR HO319), (fR HO322), (fR HO_309001), (fS HO_7), ⟨_, rfl⟩, (fb BK308), (fI HI0), (fK HK), (fB HB)⟩)
                ·
                 skip
                 clear HO_7 HO_309001 HL315_2 HL315_4 HL315_6 HO319 BK308 HI0 HK HB; rintro ⟨v321, adz_v321, v329, v333⟩ w44 ⟨hHeld, HL315_2, HL315_4, HL315_6, HO319, HO322, HO330, HO334, HO_309001, HO_7, HA_HO322, BK308, HI0, HK, HB⟩; (try dsimp only at HL315_2 HL315_4 HL315_6 HO319 HO322 HO330 HO334 HO_309001 HO_7 HA_HO322 BK308 HI0 HK HB); replace HL315_2 := am HL315_2; replace HL315_4 := am HL315_4; replace HL315_6 := am HL315_6; replace HO319 := am HO319; replace HO322 := am HO322; replace HO330 := am HO330; replace HO334 := am HO334; replace HO_309001 := am HO_309001; replace HO_7 := am HO_7; replace HA_HO322 := am HA_HO322; replace BK308 := am BK308; replace HI0 := am HI0; replace HK := am HK; replace HB := am HB
                 obtain ⟨co45, eo45⟩ := HA_HO322.out
                 clear HA_HO322
                 subst eo45
                 obtain ⟨Ao46, co46, eo46⟩ := Kd.R_slice HO334.out
                 (first | subst eo46 | (injection eo46 with f1_ f2_ f3_; have f4_ := f1_.symm; have f5_ := f3_.symm; clear f1_ f2_ f3_; subst f4_; subst f5_))
                 obtain ⟨Ao47, co47, eo47⟩ := Kd.R_slice HO330.out
                 (first | subst eo47 | (injection eo47 with f1_ f2_ f3_; have f4_ := f1_.symm; have f5_ := f3_.symm; clear f1_ f2_ f3_; subst f4_; subst f5_))
                 refine nq _ ?_
                 refine on 4 (some 46) #[true, true, true, true, true, true, true, true, true, true, false, false, false, false] HT_ (fun K hK => ?_)
                 (have p323 : 0 ≤ (x9_1 : Int) := of_decide_eq_true (ha); have q323 : x9_1 < (y320.length : Int) := of_decide_eq_true (ha); obtain ⟨ad323, e323, hx323_0⟩ := Kd.at_string (Kd.R_reads' HO322.out).2.2 x9_1 p323 q323; obtain rfl : adz_v321 = ad323 := (by injection e323))
                 refine value_ (w1 := ?_) (v := ?_) (by rfl) rfl ?_ ?_
                 rotate_left 2
                 ·
                  go_simp
                  constructor
                  ·
                   rfl
                  ·
                   rfl
                 clear hx323_0
                 refine hK.out _ _ (hh2 BK308) (fun hHeld => ?_)
                 clear hK K
                 refine nm (some 46) ?_
                 exact norm_ pa (hJ1_4_6_8 (.slice (some adz_v321) y320.length co45, adz_v321, .slice Ao47 t328.length co47, .slice Ao46 t332.length co46) _ ⟨hHeld, (fR HL315_2), (fR HL315_4), (fR HL315_6), (fR HO319), (fR HO322), (fR HO330), (fR HO334), (fR HO_309001), (fS HO_7), ⟨_, rfl⟩, (fb BK308), (fI HI0), (fK HK), (fB HB)⟩)
               ·
                skip
                clear HO_7 HO_309001 HL315_2 HL315_4 HL315_6 HO319 BK308 HI0 HK HB; rintro ⟨v321, adz_v321⟩ w43 ⟨hHeld, HL315_2, HL315_4, HL315_6, HO319, HO322, HO_309001, HO_7, HA_HO322, BK308, HI0, HK, HB⟩; (try dsimp only at HL315_2 HL315_4 HL315_6 HO319 HO322 HO_309001 HO_7 HA_HO322 BK308 HI0 HK HB); replace HL315_2 := am HL315_2; replace HL315_4 := am HL315_4; replace HL315_6 := am HL315_6; replace HO319 := am HO319; replace HO322 := am HO322; replace HO_309001 := am HO_309001; replace HO_7 := am HO_7; replace HA_HO322 := am HA_HO322; replace BK308 := am BK308; replace HI0 := am HI0; replace HK := am HK; replace HB := am HB
                obtain ⟨co44, eo44⟩ := HA_HO322.out
                clear HA_HO322
                subst eo44
                refine nq _ ?_
                refine on 8 (some 50) #[true, true, true, true, true, true, true, true, true, true, false, false, false, false] HT_ (fun K hK => ?_)
                refine ge Try.func82 #[.int .i64 (wrap64 (1 + t324))] ?_
                with_reducible refine (spec_l03Of.calls kj11 (wrap64 (1 + t324)) t327 t328 t331 t332 _ A29.out).mono ?_
                rintro e w45 ⟨v329, v333, rfl, ho0, ho1, hb⟩
                refine ⟨_, rfl, ?_⟩
                replace HO_7 := am (Kd.S_mono (Kd.S_told (Kd.S_told (Kd.S_old (fS HO_7) hb) (Kd.R_base ho0)) (Kd.R_base ho1)) (fun _ h_ => h_.1)); replace HO_309001 := RB HO_309001 hb; replace HL315_6 := RB HL315_6 hb; replace HO319 := RB HO319 hb; replace HO322 := RB HO322 hb; have HO330 := am (Kd.R_lower (Kd.R_new' (Kd.R_new' ho0 (Kd.R_lt (fR HL315_2))) (Kd.R_lt (fR HL315_4))) (keep_size (w := w) (g := g) (row := none) (fK HK))); have HO334 := am (Kd.R_lower (Kd.R_new' (Kd.R_new' ho1 (Kd.R_lt (fR HL315_2))) (Kd.R_lt (fR HL315_4))) (keep_size (w := w) (g := g) (row := none) (fK HK))); replace HL315_2 := am (Kd.R_mono (Kd.R_told (Kd.R_told (Kd.R_old (fR HL315_2) hb) (Kd.R_base ho0)) (Kd.R_base ho1)) (fun _ h_ => h_.1)); replace HL315_4 := am (Kd.R_mono (Kd.R_told (Kd.R_told (Kd.R_old (fR HL315_4) hb) (Kd.R_base ho0)) (Kd.R_base ho1)) (fun _ h_ => h_.1)); replace BK308 := kB BK308 hb; replace HI0 := IB HI0 hb; replace HK := KB HK hb; replace HB := sB HB hb
                clear hb ho0 ho1
                obtain ⟨Ao46, co46, eo46⟩ := Kd.R_slice HO334.out
                (first | subst eo46 | (injection eo46 with f1_ f2_ f3_; have f4_ := f1_.symm; have f5_ := f3_.symm; clear f1_ f2_ f3_; subst f4_; subst f5_))
                obtain ⟨Ao47, co47, eo47⟩ := Kd.R_slice HO330.out
                (first | subst eo47 | (injection eo47 with f1_ f2_ f3_; have f4_ := f1_.symm; have f5_ := f3_.symm; clear f1_ f2_ f3_; subst f4_; subst f5_))
                refine hK.out _ _ (hh2 BK308) (fun hHeld => ?_)
                clear hK K
                refine nm (some 50) ?_
                exact norm_ pa (hJ1_4_6_8 (.slice (some adz_v321) y320.length co44, adz_v321, .slice Ao47 t328.length co47, .slice Ao46 t332.length co46) _ ⟨hHeld, (mR HL315_2 (fun _ h => ⟨h.1.2, ⟨h.2, ⟨h.1.1.1, h.1.1.2⟩⟩⟩)), (mR HL315_4 (fun _ h => ⟨h.1.2, ⟨h.2, ⟨h.1.1.1, h.1.1.2⟩⟩⟩)), (fR HL315_6), (fR HO319), (fR HO322), (mR HO330 (fun _ h => ⟨h.1.2, ⟨h.2, h.1.1⟩⟩)), (mR HO334 (fun _ h => ⟨h.1.2, ⟨h.2, h.1.1⟩⟩)), (fR HO_309001), (by (with_reducible repeat (first | apply Kd.S_alloc | apply Kd.S_drewN | apply Kd.S_drew)); exact Kd.S_mono HO_7.out (fun _ hk => ⟨hk.1.1.1, ⟨hk.1.2, ⟨hk.2, hk.1.1.2⟩⟩⟩)), ⟨_, rfl⟩, (fb BK308), (fI HI0), (fK HK), (fB HB)⟩)
              clear HO_7 HO_309001 HL315_2 HL315_4 HL315_6 HO319 BK308 HI0 HK HB; rintro ⟨v321, adz_v321, v329, v333⟩ w46 ⟨hHeld, HL315_2, HL315_4, HL315_6, HO319, HO322, HO330, HO334, HO_309001, HO_7, HA_HO322, BK308, HI0, HK, HB⟩; (try dsimp only at HL315_2 HL315_4 HL315_6 HO319 HO322 HO330 HO334 HO_309001 HO_7 HA_HO322 BK308 HI0 HK HB); replace HL315_2 := am HL315_2; replace HL315_4 := am HL315_4; replace HL315_6 := am HL315_6; replace HO319 := am HO319; replace HO322 := am HO322; replace HO330 := am HO330; replace HO334 := am HO334; replace HO_309001 := am HO_309001; replace HO_7 := am HO_7; replace HA_HO322 := am HA_HO322; replace BK308 := am BK308; replace HI0 := am HI0; replace HK := am HK; replace HB := am HB
              obtain ⟨co47, eo47⟩ := HA_HO322.out
              clear HA_HO322
              subst eo47
              obtain ⟨Ao48, co48, eo48⟩ := Kd.R_slice HO334.out
              (first | subst eo48 | (injection eo48 with f1_ f2_ f3_; have f4_ := f1_.symm; have f5_ := f3_.symm; clear f1_ f2_ f3_; subst f4_; subst f5_))
              obtain ⟨Ao49, co49, eo49⟩ := Kd.R_slice HO330.out
              (first | subst eo49 | (injection eo49 with f1_ f2_ f3_; have f4_ := f1_.symm; have f5_ := f3_.symm; clear f1_ f2_ f3_; subst f4_; subst f5_))
              refine nq _ ?_
              refine pu 10 (some 52) #[true, true, true, true, true, true, true, true, true, true, true, false, false, false] HT_ ?_
              refine on 11 (some 53) #[true, true, true, true, true, true, true, true, true, true, true, true, false, false] HT_ (fun K hK => ?_)
              refine value_ (w1 := ?_) (v := ?_) (by rfl) rfl ?_ ?_
              rotate_left 2
              ·
               go_simp
               constructor
               ·
                rfl
               ·
                rfl
              refine hK.out _ _ ⟨(blk_cell (blk_alloc BK308.out _) 0).trans rfl, (blk_cell (blk_alloc BK308.out _) 1).trans rfl⟩ (fun hHeld => ?_)
              clear hK K
              refine nm (some 53) ?_
              refine on 12 (some 54) #[true, true, true, true, true, true, true, true, true, true, true, true, true, false] HT_ (fun K hK => ?_)
              refine Kd.S_append_step k64 w.heap.size (by rfl) (.tmp 42) (.tmp 53) 52 64 (.agg #[(.string ⟨#[]⟩), (.bool false), (.slice none 0 0), (.bool false), (.slice none 0 0), (.int .i64 0), (.slice none 0 0)]) 112 rfl Try.underlying52 info64 rfl (by decide) (by omega) (.slice (some ad315) x7_1.length co32) x7_1 (⟨rdOf ByteArray.empty y320 x9_1, (⟨(⟨t327, t328⟩ : S60), (⟨t331, t332⟩ : S60)⟩ : S62), (⟨t316, t317⟩ : S27)⟩ : S64) [.string (rdOf ByteArray.empty y320 x9_1), .bool t327, .slice Ao49 t328.length co49, .bool t331, .slice Ao48 t332.length co48, .int .i64 t316, .slice Ao36 t317.length co36] (fun k_ => some k_ ≠ (.slice Ao17 t303.length co17 : Value).ownBlock) (fun k_ => some k_ = (.slice Ao49 t328.length co49 : Value).ownBlock ∨ some k_ = (.slice Ao48 t332.length co48 : Value).ownBlock ∨ some k_ = (.slice Ao36 t317.length co36 : Value).ownBlock) rfl rfl ?aP (fun k_ hk_ => hk_.elim (fun h_ => ((Kd.R_mono (ok' := fun k_ => ((fun k_ => some k_ ≠ (.slice Ao17 t303.length co17 : Value).ownBlock)) k_ ∧ some k_ ≠ (.slice (some ad315) x7_1.length co32 : Value).ownBlock) (Kd.R_apart' (Kd.R_apart' (HO330.out) (Kd.R_typed HO_309001.out) (by decide)) (Kd.S_typed HO_7.out) (by decide)) (fun k_ hk => ⟨hk.1.2, hk.2⟩))).1 k_ h_.symm) (fun h_ => h_.elim (fun h_ => ((Kd.R_mono (ok' := fun k_ => ((fun k_ => some k_ ≠ (.slice Ao17 t303.length co17 : Value).ownBlock)) k_ ∧ some k_ ≠ (.slice (some ad315) x7_1.length co32 : Value).ownBlock) (Kd.R_apart' (Kd.R_apart' (HO334.out) (Kd.R_typed HO_309001.out) (by decide)) (Kd.S_typed HO_7.out) (by decide)) (fun k_ hk => ⟨hk.1.2, hk.2⟩))).1 k_ h_.symm) (fun h_ => ((Kd.R_mono (ok' := fun k_ => ((fun k_ => some k_ ≠ (.slice Ao17 t303.length co17 : Value).ownBlock)) k_ ∧ some k_ ≠ (.slice (some ad315) x7_1.length co32 : Value).ownBlock) (Kd.R_apart' (HO319.out) (Kd.S_typed HO_7.out) (by decide)) (fun k_ hk => ⟨hk.1.2, hk.2⟩))).1 k_ h_.symm))) ?aF ?aO (Below.refl _ _) ?aS ?aL ?_
              (case aP => exact k64_mkM _ _ _ (⟨rdOf ByteArray.empty y320 x9_1, (⟨(⟨t327, t328⟩ : S60), (⟨t331, t332⟩ : S60)⟩ : S62), (⟨t316, t317⟩ : S27)⟩ : S64) (Kd.R_mono (Kd.R_tight rfl (Kd.R_mono (ok' := fun k_ => ((fun k_ => some k_ ≠ (.slice Ao17 t303.length co17 : Value).ownBlock)) k_ ∧ some k_ ≠ (.slice (some ad315) x7_1.length co32 : Value).ownBlock) (Kd.R_apart' (Kd.R_apart' (HO330.out) (Kd.R_typed HO_309001.out) (by decide)) (Kd.S_typed HO_7.out) (by decide)) (fun k_ hk => ⟨hk.1.2, hk.2⟩))) (fun _ h_ => Or.inl h_)) (Kd.R_mono (Kd.R_tight rfl (Kd.R_mono (ok' := fun k_ => ((fun k_ => some k_ ≠ (.slice Ao17 t303.length co17 : Value).ownBlock)) k_ ∧ some k_ ≠ (.slice (some ad315) x7_1.length co32 : Value).ownBlock) (Kd.R_apart' (Kd.R_apart' (HO334.out) (Kd.R_typed HO_309001.out) (by decide)) (Kd.S_typed HO_7.out) (by decide)) (fun k_ hk => ⟨hk.1.2, hk.2⟩))) (fun _ h_ => Or.inr (Or.inl h_))) (Kd.R_mono (Kd.R_tight rfl (Kd.R_mono (ok' := fun k_ => ((fun k_ => some k_ ≠ (.slice Ao17 t303.length co17 : Value).ownBlock)) k_ ∧ some k_ ≠ (.slice (some ad315) x7_1.length co32 : Value).ownBlock) (Kd.R_apart' (HO319.out) (Kd.S_typed HO_7.out) (by decide)) (fun k_ hk => ⟨hk.1.2, hk.2⟩))) (fun _ h_ => Or.inr (Or.inr (h_)))))
              (case aF => exact (fun k_ hk => Kd.fresh' (Kd.R_lt (fR HO_309001)) k_ hk))
              (case aO => exact (by (with_reducible repeat (first | apply Kd.S_alloc | apply Kd.S_drewN | apply Kd.S_drew)); exact Kd.S_mono HO_7.out (fun k_ hk => ⟨hk.2.2.2, fun e_ => e_.elim (fun h_ => hk.2.1 h_) (fun h_ => h_.elim (fun h_ => hk.2.2.1 h_) (fun h_ => hk.1 h_))⟩)))
              (case aS => exact (keep_size (w := w) (g := g) (row := none) (fK HK)))
              (case aL => have := LMc30.out; omega)
              intro v336 w50 ho hb hg hat
              rw [← Ny335.out] at ho
              replace HO_309001 := am (Kd.R_over' (fR HO_309001) (Kd.S_typed (fS HO_7)) (by decide) hg); replace BK308 := am (blk_grown (g := gb308) (o := .cells #[.int .i64 t316, .slice Ao36 t317.length co36] 27 (0, 0)) (fb BK308) hg (Kd.S_ne HO_7.out BK308.out (by decide))); replace HI0 := am (IsS90.grown (fI HI0) hg (IsS90.own_neS HI0.out HO_7.out (by decide))); replace HL315_2 := am (Kd.R_after (ok := (fun k_ => some k_ ≠ (.slice Ao17 t303.length co17 : Value).ownBlock ∧ some k_ ≠ (.slice Ao49 t328.length co49 : Value).ownBlock ∧ some k_ ≠ (.slice Ao48 t332.length co48 : Value).ownBlock)) (mR HL315_2 (fun _ h => ⟨⟨h.2.2.1, ⟨h.1, h.2.1⟩⟩, h.2.2.2⟩)) hg hat); replace HL315_4 := am (Kd.R_after (ok := (fun k_ => some k_ ≠ (.slice Ao17 t303.length co17 : Value).ownBlock ∧ some k_ ≠ (.slice Ao49 t328.length co49 : Value).ownBlock ∧ some k_ ≠ (.slice Ao48 t332.length co48 : Value).ownBlock)) (mR HL315_4 (fun _ h => ⟨⟨h.2.2.1, ⟨h.1, h.2.1⟩⟩, h.2.2.2⟩)) hg hat); replace HL315_6 := am (Kd.R_after (ok := (fun k_ => some k_ ≠ (.slice Ao17 t303.length co17 : Value).ownBlock ∧ some k_ ≠ (.slice Ao36 t317.length co36 : Value).ownBlock)) (mR HL315_6 (fun _ h => ⟨⟨h.2.1, h.1⟩, h.2.2⟩)) hg hat); replace HO322 := am (Kd.R_over' (fR HO322) (Kd.S_typed (fS HO_7)) (by decide) hg); replace HB := am (below_weaken (fB HB) HL.out hb); replace HK := am (KeepBut.trans (fK HK) (KeepBut.of_grown hg g) (Kd.S_base2 HO_7.out)); have HO337 := am (ho); clear HO_7 HO319 HO330 HO334
              clear ho hb hg hat
              refine hK.out _ _ (hh2 BK308) (fun hHeld => ?_)
              clear hK K
              refine nm (some 54) ?_
              refine pu 13 (some 7) #[true, true, true, true, true, true, true, true, true, true, true, true, true, true] HT_ ?_
              refine done_ (done_of HT_.out (by kernel_rfl)) ?_
              try go_wp2
              go_roundg kj11
              case measure => have := HK1.out; have := HJ7.out; have := HJ11.out; omega
              case rel => exact ⟨(y335), (wrap64 (x9_1 + 1)), (t325), (t326), (rs), H', ⟨by have := HK1.out; have := HJ7.out; have := HJ11.out; omega⟩, ⟨by (with_reducible repeat (first | apply Kd.S_alloc | apply Kd.S_drewN | apply Kd.S_drew)); exact Kd.S_mono HO337.out (fun _ hk => trivial)⟩, ⟨fI HI0⟩, ⟨fK HK⟩, ⟨fB HB⟩⟩
             ·
              rw [if_neg c30] at H
              exact absurd H (by simp)
            ·
             rw [if_neg c27] at H
             exact absurd H (by simp)
           ·
            rw [if_neg c26] at H
            exact absurd H (by simp)
          ·
           rw [if_neg c24] at H
           exact absurd H (by simp)
         ·
          rw [if_neg c23] at H
          exact absurd H (by simp)
        ·
         replace c21 := Bool.eq_false_iff.mpr c21
         subst c21
         have H1 : ((some (([(⟨#[118]⟩ : ByteArray), (⟨#[103]⟩ : ByteArray), (⟨#[104]⟩ : ByteArray), (⟨#[116]⟩ : ByteArray), (⟨#[114, 104, 111]⟩ : ByteArray), (⟨#[109, 117]⟩ : ByteArray), (⟨#[76]⟩ : ByteArray), (⟨#[70]⟩ : ByteArray)] : List ByteArray) : List ByteArray)).bind fun y338 => (if 0 ≤ x9_1 then (if x9_1 < (y338.length : Int) then ((spec_l01Below.f s0_0 x1001_11 x1002_11 3).bind fun bt342 => ((spec_l03Of.f kj11 (wrap64 (1 + bt342.1))).bind fun bt345 => (if x7_1.length < 1256584717458 then (spec_l09Vars.l0 kj11 a2 (x7_1 ++ [(⟨rdOf ByteArray.empty y338 x9_1, (⟨(⟨bt345.1, bt345.2.1⟩ : S60), (⟨bt345.2.2.1, bt345.2.2.2⟩ : S60)⟩ : S62), (⟨t302, t303⟩ : S27)⟩ : S64)]) t299 (wrap64 (x9_1 + 1)) s0_0 bt342.2.1 bt342.2.2) else (none)))) else (none)) else (none))) = some (r1, r2, r3) := by rw [if_neg (show ¬ (false = true) by decide)] at H; exact H
         clear H
         have H := H1
         clear H1
         obtain ⟨y338, Ny338, H⟩ := uy H; try dsimp only at H
         by_cases c51 : 0 ≤ x9_1
         ·
          rw [if_pos c51] at H
          have c51b0 : decide (0 ≤ x9_1) = true := decide_eq_true c51
          clear c51
          by_cases c52 : x9_1 < (y338.length : Int)
          ·
           rw [if_pos c52] at H
           have c52b0 : decide (x9_1 < (y338.length : Int)) = true := decide_eq_true c52
           clear c52
           obtain ⟨⟨t342, t343, t344⟩, A53, H⟩ := ub H; dsimp only at H
           obtain ⟨⟨t345, t346, t349, t350⟩, A54, H⟩ := ub H; dsimp only at H
           by_cases c55 : x7_1.length < 1256584717458
           ·
            rw [if_pos c55] at H
            have LMc55 := am c55
            clear c55
            obtain ⟨y353, Ny353⟩ : ∃ y_ : List (S64), Aside0 (y_ = (x7_1 ++ [(⟨rdOf ByteArray.empty y338 x9_1, (⟨(⟨t345, t346⟩ : S60), (⟨t349, t350⟩ : S60)⟩ : S62), (⟨t302, t303⟩ : S27)⟩ : S64)])) := ⟨_, ⟨rfl⟩⟩; rw [← Ny353.out] at H
            have H' := am H
            clear H
            obtain ⟨Ao56, co56, eo56⟩ := Kd.S_slice HO_7.out
            subst eo56
            try go_wp2
            have pi341 : (0 ≤ (x9_1 : Int)) = True := eq_true (of_decide_eq_true (ha))
            have qi341 : (x9_1 < (y338.length : Int)) = True := eq_true (of_decide_eq_true (ha))
            replace HO_7 := am (Kd.S_drew HO_7.out); replace HO_309001 := am (Kd.R_drew HO_309001.out); replace BK308 := am (blk_drew BK308.out); replace HI0 := am (IsS90.drew HI0.out); replace HK := am (keep_drew HK.out); replace HB := am (below_drew1 HB.out)
            refine start_ (n := 14) (S := fun w' => w'.cell? ⟨gb308, 0, none⟩ = some (.int .i64 t302) ∧ w'.cell? ⟨gb308, 1, none⟩ = some (.slice Ao17 t303.length co17)) (ds := []) #[false, false, false, false, false, false, false, false, false, false, false, false, false, false] (by kernel_rfl) rfl rfl (hh2 BK308) (fun hHeld => ?_); refine with_tabW spec_l09Vars.tab9 spec_l09Vars.bits9 (fun HT_ HW_ => ?_)
            generalize wc.drew = w57 at HO_7 HO_309001 BK308 HI0 HK HB hHeld ⊢
            refine pu 0 (some 42) #[true, false, false, false, false, false, false, false, false, false, false, false, false, false] HT_ ?_
            refine pu 2 (some 44) #[true, false, true, false, false, false, false, false, false, false, false, false, false, false] HT_ ?_
            refine pu 5 (some 47) #[true, false, true, false, false, true, false, false, false, false, false, false, false, false] HT_ ?_
            refine tk 9 (some 51) #[true, false, true, false, false, true, false, false, false, true, false, false, false, false] HT_ HW_ hHeld ?_
            refine join_ (σ := Value × Addr × Value × Value) 4 #[true, true, true, true, true, true, true, true, true, true, false, false, false, false] (fun s_ => [(43, s_.1), (46, .string (rdOf ByteArray.empty y338 x9_1)), (48, .int .i64 t342), (50, .agg #[.bool t345, s_.2.2.1, .bool t349, s_.2.2.2]), (45, .pointer (some (s_.2.1.add (x9_1).toNat))), (49, .int .i64 (wrap64 (1 + t342)))]) (fun s_ w' => (w'.cell? ⟨gb308, 0, none⟩ = some (.int .i64 t302) ∧ w'.cell? ⟨gb308, 1, none⟩ = some (.slice Ao17 t303.length co17)) ∧ (Kd.R Kd.string 9 w' w.heap.size (fun _ => True) s_.1 y338) ∧ (Kd.R (Kd.int .u32) 119 w' w.heap.size (fun k_ => some k_ ≠ (s_.2.2.2 : Value).ownBlock) s_.2.2.1 t346) ∧ (Kd.R (Kd.int .u32) 119 w' w.heap.size (fun k_ => some k_ ≠ (s_.2.2.1 : Value).ownBlock) s_.2.2.2 t350) ∧ (Kd.R (Kd.int .i64) 3 w' w.heap.size (fun _ => True) (.slice Ao17 t303.length co17) t303) ∧ (Kd.S k64 64 w' w.heap.size (fun k_ => some k_ ≠ (s_.2.2.1 : Value).ownBlock ∧ some k_ ≠ (s_.2.2.2 : Value).ownBlock ∧ some k_ ≠ (.slice Ao17 t303.length co17 : Value).ownBlock) (.slice Ao56 x7_1.length co56) x7_1) ∧ (∃ c_, (s_.1 : Value) = .slice (some s_.2.1) y338.length c_) ∧ (w'.heap[gb308]? = some (.cells #[.int .i64 t302, .slice Ao17 t303.length co17] 27 (0, 0))) ∧ (IsS90 w0 w' g s0_0 t343 t344) ∧ (KeepBut w w' g none) ∧ (Below w0.heap.size w0 w')) ?_ ?_
            rotate_left
            ·
             intro hJ1_4_6_8
             refine join_ (σ := Value × Addr) 5 #[true, true, true, true, true, true, true, true, false, true, false, false, false, false] (fun s_ => [(43, s_.1), (46, .string (rdOf ByteArray.empty y338 x9_1)), (48, .int .i64 t342), (45, .pointer (some (s_.2.add (x9_1).toNat))), (49, .int .i64 (wrap64 (1 + t342)))]) (fun s_ w' => (w'.cell? ⟨gb308, 0, none⟩ = some (.int .i64 t302) ∧ w'.cell? ⟨gb308, 1, none⟩ = some (.slice Ao17 t303.length co17)) ∧ (Kd.R Kd.string 9 w' w.heap.size (fun _ => True) s_.1 y338) ∧ (Kd.R (Kd.int .i64) 3 w' w.heap.size (fun _ => True) (.slice Ao17 t303.length co17) t303) ∧ (Kd.S k64 64 w' w.heap.size (fun k_ => some k_ ≠ (.slice Ao17 t303.length co17 : Value).ownBlock) (.slice Ao56 x7_1.length co56) x7_1) ∧ (∃ c_, (s_.1 : Value) = .slice (some s_.2) y338.length c_) ∧ (w'.heap[gb308]? = some (.cells #[.int .i64 t302, .slice Ao17 t303.length co17] 27 (0, 0))) ∧ (IsS90 w0 w' g s0_0 t343 t344) ∧ (KeepBut w w' g none) ∧ (Below w0.heap.size w0 w')) ?_ ?_
             rotate_left
             ·
              intro hJ1_4_6
              refine join_ (σ := Value × Addr × Value × Value) 5 #[true, true, true, true, false, true, true, true, true, true, false, false, false, false] (fun s_ => [(43, s_.1), (48, .int .i64 t342), (50, .agg #[.bool t345, s_.2.2.1, .bool t349, s_.2.2.2]), (45, .pointer (some (s_.2.1.add (x9_1).toNat))), (49, .int .i64 (wrap64 (1 + t342)))]) (fun s_ w' => (w'.cell? ⟨gb308, 0, none⟩ = some (.int .i64 t302) ∧ w'.cell? ⟨gb308, 1, none⟩ = some (.slice Ao17 t303.length co17)) ∧ (Kd.R Kd.string 9 w' w.heap.size (fun _ => True) s_.1 y338) ∧ (Kd.R (Kd.int .u32) 119 w' w.heap.size (fun k_ => some k_ ≠ (s_.2.2.2 : Value).ownBlock) s_.2.2.1 t346) ∧ (Kd.R (Kd.int .u32) 119 w' w.heap.size (fun k_ => some k_ ≠ (s_.2.2.1 : Value).ownBlock) s_.2.2.2 t350) ∧ (Kd.R (Kd.int .i64) 3 w' w.heap.size (fun _ => True) (.slice Ao17 t303.length co17) t303) ∧ (Kd.S k64 64 w' w.heap.size (fun k_ => some k_ ≠ (s_.2.2.1 : Value).ownBlock ∧ some k_ ≠ (s_.2.2.2 : Value).ownBlock ∧ some k_ ≠ (.slice Ao17 t303.length co17 : Value).ownBlock) (.slice Ao56 x7_1.length co56) x7_1) ∧ (∃ c_, (s_.1 : Value) = .slice (some s_.2.1) y338.length c_) ∧ (w'.heap[gb308]? = some (.cells #[.int .i64 t302, .slice Ao17 t303.length co17] 27 (0, 0))) ∧ (IsS90 w0 w' g s0_0 t343 t344) ∧ (KeepBut w w' g none) ∧ (Below w0.heap.size w0 w')) ?_ ?_
              rotate_left
              ·
               intro hJ1_6_8
               refine join_ (σ := Value × Addr) 7 #[true, true, true, true, true, true, false, false, false, true, false, false, false, false] (fun s_ => [(43, s_.1), (46, .string (rdOf ByteArray.empty y338 x9_1)), (45, .pointer (some (s_.2.add (x9_1).toNat)))]) (fun s_ w' => (w'.cell? ⟨gb308, 0, none⟩ = some (.int .i64 t302) ∧ w'.cell? ⟨gb308, 1, none⟩ = some (.slice Ao17 t303.length co17)) ∧ (Kd.R Kd.string 9 w' w.heap.size (fun _ => True) s_.1 y338) ∧ (Kd.R (Kd.int .i64) 3 w' w.heap.size (fun _ => True) (.slice Ao17 t303.length co17) t303) ∧ (Kd.S k64 64 w' w.heap.size (fun k_ => some k_ ≠ (.slice Ao17 t303.length co17 : Value).ownBlock) (.slice Ao56 x7_1.length co56) x7_1) ∧ (∃ c_, (s_.1 : Value) = .slice (some s_.2) y338.length c_) ∧ (w'.heap[gb308]? = some (.cells #[.int .i64 t302, .slice Ao17 t303.length co17] 27 (0, 0))) ∧ (IsS90 w0 w' g s0_0 x1001_11 x1002_11) ∧ (KeepBut w w' g none) ∧ (Below w0.heap.size w0 w')) ?_ ?_
               rotate_left
               ·
                intro hJ1_4
                refine join_ (σ := Value × Addr) 6 #[true, true, true, true, false, true, true, true, false, true, false, false, false, false] (fun s_ => [(43, s_.1), (48, .int .i64 t342), (45, .pointer (some (s_.2.add (x9_1).toNat))), (49, .int .i64 (wrap64 (1 + t342)))]) (fun s_ w' => (w'.cell? ⟨gb308, 0, none⟩ = some (.int .i64 t302) ∧ w'.cell? ⟨gb308, 1, none⟩ = some (.slice Ao17 t303.length co17)) ∧ (Kd.R Kd.string 9 w' w.heap.size (fun _ => True) s_.1 y338) ∧ (Kd.R (Kd.int .i64) 3 w' w.heap.size (fun _ => True) (.slice Ao17 t303.length co17) t303) ∧ (Kd.S k64 64 w' w.heap.size (fun k_ => some k_ ≠ (.slice Ao17 t303.length co17 : Value).ownBlock) (.slice Ao56 x7_1.length co56) x7_1) ∧ (∃ c_, (s_.1 : Value) = .slice (some s_.2) y338.length c_) ∧ (w'.heap[gb308]? = some (.cells #[.int .i64 t302, .slice Ao17 t303.length co17] 27 (0, 0))) ∧ (IsS90 w0 w' g s0_0 t343 t344) ∧ (KeepBut w w' g none) ∧ (Below w0.heap.size w0 w')) ?_ ?_
                rotate_left
                ·
                 intro hJ1_6
                 refine join_ (σ := Value × Value) 7 #[true, false, true, false, false, true, true, true, true, true, false, false, false, false] (fun s_ => [(48, .int .i64 t342), (50, .agg #[.bool t345, s_.1, .bool t349, s_.2]), (49, .int .i64 (wrap64 (1 + t342)))]) (fun s_ w' => (w'.cell? ⟨gb308, 0, none⟩ = some (.int .i64 t302) ∧ w'.cell? ⟨gb308, 1, none⟩ = some (.slice Ao17 t303.length co17)) ∧ (Kd.R (Kd.int .u32) 119 w' w.heap.size (fun k_ => some k_ ≠ (s_.2 : Value).ownBlock) s_.1 t346) ∧ (Kd.R (Kd.int .u32) 119 w' w.heap.size (fun k_ => some k_ ≠ (s_.1 : Value).ownBlock) s_.2 t350) ∧ (Kd.R (Kd.int .i64) 3 w' w.heap.size (fun _ => True) (.slice Ao17 t303.length co17) t303) ∧ (Kd.S k64 64 w' w.heap.size (fun k_ => some k_ ≠ (s_.1 : Value).ownBlock ∧ some k_ ≠ (s_.2 : Value).ownBlock ∧ some k_ ≠ (.slice Ao17 t303.length co17 : Value).ownBlock) (.slice Ao56 x7_1.length co56) x7_1) ∧ (w'.heap[gb308]? = some (.cells #[.int .i64 t302, .slice Ao17 t303.length co17] 27 (0, 0))) ∧ (IsS90 w0 w' g s0_0 t343 t344) ∧ (KeepBut w w' g none) ∧ (Below w0.heap.size w0 w')) ?_ ?_
                 rotate_left
                 ·
                  intro hJ6_8
                  refine join_ (σ := Value × Addr) 8 #[true, true, true, true, false, true, false, false, false, true, false, false, false, false] (fun s_ => [(43, s_.1), (45, .pointer (some (s_.2.add (x9_1).toNat)))]) (fun s_ w' => (w'.cell? ⟨gb308, 0, none⟩ = some (.int .i64 t302) ∧ w'.cell? ⟨gb308, 1, none⟩ = some (.slice Ao17 t303.length co17)) ∧ (Kd.R Kd.string 9 w' w.heap.size (fun _ => True) s_.1 y338) ∧ (Kd.R (Kd.int .i64) 3 w' w.heap.size (fun _ => True) (.slice Ao17 t303.length co17) t303) ∧ (Kd.S k64 64 w' w.heap.size (fun k_ => some k_ ≠ (.slice Ao17 t303.length co17 : Value).ownBlock) (.slice Ao56 x7_1.length co56) x7_1) ∧ (∃ c_, (s_.1 : Value) = .slice (some s_.2) y338.length c_) ∧ (w'.heap[gb308]? = some (.cells #[.int .i64 t302, .slice Ao17 t303.length co17] 27 (0, 0))) ∧ (IsS90 w0 w' g s0_0 x1001_11 x1002_11) ∧ (KeepBut w w' g none) ∧ (Below w0.heap.size w0 w')) ?_ ?_
                  rotate_left
                  ·
                   intro hJ1
                   refine join_ (σ := Unit) 8 #[true, false, true, false, false, true, true, true, false, true, false, false, false, false] (fun s_ => [(48, .int .i64 t342), (49, .int .i64 (wrap64 (1 + t342)))]) (fun s_ w' => (w'.cell? ⟨gb308, 0, none⟩ = some (.int .i64 t302) ∧ w'.cell? ⟨gb308, 1, none⟩ = some (.slice Ao17 t303.length co17)) ∧ (Kd.R (Kd.int .i64) 3 w' w.heap.size (fun _ => True) (.slice Ao17 t303.length co17) t303) ∧ (Kd.S k64 64 w' w.heap.size (fun k_ => some k_ ≠ (.slice Ao17 t303.length co17 : Value).ownBlock) (.slice Ao56 x7_1.length co56) x7_1) ∧ (w'.heap[gb308]? = some (.cells #[.int .i64 t302, .slice Ao17 t303.length co17] 27 (0, 0))) ∧ (IsS90 w0 w' g s0_0 t343 t344) ∧ (KeepBut w w' g none) ∧ (Below w0.heap.size w0 w')) ?_ ?_
                   rotate_left
                   ·
                    intro hJ6
                    refine two_ (i := 1) (j := 6) (Ni := some 43) (Nj := some 48) #[true, true, true, false, false, true, false, false, false, true, false, false, false, false] #[true, false, true, false, false, true, true, false, false, true, false, false, false, false] rfl rfl rfl rfl (two_of HT_.out (by kernel_rfl)) (by decide) (by decide) (fun K hK => ?_) (fun K hK => ?_)
                    ·
                     skip
                     refine Kd.R_lit_step Kd.string _ 9 ?hg (N := 43) ?hd (xs := ([(⟨#[118]⟩ : ByteArray), (⟨#[103]⟩ : ByteArray), (⟨#[104]⟩ : ByteArray), (⟨#[116]⟩ : ByteArray), (⟨#[114, 104, 111]⟩ : ByteArray), (⟨#[109, 117]⟩ : ByteArray), (⟨#[76]⟩ : ByteArray), (⟨#[70]⟩ : ByteArray)] : List ByteArray)) (inner := [.string (⟨#[118]⟩ : ByteArray), .string (⟨#[103]⟩ : ByteArray), .string (⟨#[104]⟩ : ByteArray), .string (⟨#[116]⟩ : ByteArray), .string (⟨#[114, 104, 111]⟩ : ByteArray), .string (⟨#[109, 117]⟩ : ByteArray), .string (⟨#[76]⟩ : ByteArray), .string (⟨#[70]⟩ : ByteArray)]) (ok := fun _ => True) (okp := fun _ => True) ?hr ?hp (fun _ hk => hk) trivial (Below.refl _ _) (Nat.le_refl _) (by simp) ?_; (case hd => rfl); (case hg => rfl); (case hr => first | (go_simp; done) | (go_simp; rfl)); (case hp => exact (Reps.one (show Kd.M Kd.string _ _ _ (⟨#[118]⟩ : ByteArray) [.string (⟨#[118]⟩ : ByteArray)] from rfl) (Reps.one (show Kd.M Kd.string _ _ _ (⟨#[103]⟩ : ByteArray) [.string (⟨#[103]⟩ : ByteArray)] from rfl) (Reps.one (show Kd.M Kd.string _ _ _ (⟨#[104]⟩ : ByteArray) [.string (⟨#[104]⟩ : ByteArray)] from rfl) (Reps.one (show Kd.M Kd.string _ _ _ (⟨#[116]⟩ : ByteArray) [.string (⟨#[116]⟩ : ByteArray)] from rfl) (Reps.one (show Kd.M Kd.string _ _ _ (⟨#[114, 104, 111]⟩ : ByteArray) [.string (⟨#[114, 104, 111]⟩ : ByteArray)] from rfl) (Reps.one (show Kd.M Kd.string _ _ _ (⟨#[109, 117]⟩ : ByteArray) [.string (⟨#[109, 117]⟩ : ByteArray)] from rfl) (Reps.one (show Kd.M Kd.string _ _ _ (⟨#[76]⟩ : ByteArray) [.string (⟨#[76]⟩ : ByteArray)] from rfl) (Reps.one (show Kd.M Kd.string _ _ _ (⟨#[70]⟩ : ByteArray) [.string (⟨#[70]⟩ : ByteArray)] from rfl) (Reps.none _ _))))))))))
                     intro v339 w58 ho59 hb hg_ hnew_
                     clear hg_ hnew_
                     (first | rw [← Ny338.out] at ho59 | (simp only [Int.reduceToNat] at ho59; rw [← Ny338.out] at ho59))
                     replace HO_7 := am (Kd.S_below (fS HO_7) hb); replace HO_309001 := RB HO_309001 hb; have HO340 := loK ho59 HK; replace BK308 := kB BK308 hb; replace HI0 := IB HI0 hb; replace HK := KB HK hb; replace HB := sB HB hb
                     clear hb ho59
                     obtain ⟨Ao60, co60, eo60⟩ := Kd.R_slice HO340.out
                     subst eo60
                     obtain ⟨ado60, fo60, _⟩ := Kd.at_string (Kd.R_reads' HO340.out).2.2 0 (by decide) (by rw [Ny338.out]; simp)
                     cases fo60
                     refine hK.out _ _ (hh2 BK308) (fun hHeld => ?_)
                     clear hK K
                     refine nm (some 43) ?_
                     refine pu 3 (some 45) #[true, true, true, true, false, true, false, false, false, true, false, false, false, false] HT_ ?_
                     exact norm_ pa (hJ1 (.slice (some ado60) y338.length co60, ado60) _ ⟨hHeld, (fR HO340), (fR HO_309001), (fS HO_7), ⟨_, rfl⟩, (fb BK308), (fI HI0), (fK HK), (fB HB)⟩)
                    ·
                     skip
                     refine ge Try.func56 #[.pointer (some ⟨g, 0, none⟩), .int .i64 3] ?_
                     with_reducible refine (spec_l01Below.calls g s0_0 x1001_11 x1002_11 3 t342 t343 t344 w0 _ ?side1 ?side2 A53.out).mono ?_
                     (case side1 => exact fI HI0)
                     (case side2 => exact fB HB)
                     rintro e w58 ⟨rfl, hi, hb, hk⟩
                     refine ⟨_, rfl, ?_⟩
                     replace HO_7 := am (Kd.S_mono (Kd.S_keep (IsS90.apartS (show IsS90 w0 _ g s0_0 x1001_11 x1002_11 from fI HI0) (fS HO_7) (by decide)) hk (fun _ h => h.2)) (fun _ h => h.1)); replace HO_309001 := kR HI0 HO_309001 hk; replace BK308 := kK BK308 hk NB308_0; replace HK := Kk HK hk; replace HB := am (hb); replace HI0 := am (hi)
                     clear hb hk hi
                     refine hK.out _ _ (hh2 BK308) (fun hHeld => ?_)
                     clear hK K
                     refine nm (some 48) ?_
                     refine pu 7 (some 49) #[true, false, true, false, false, true, true, true, false, true, false, false, false, false] HT_ ?_
                     exact norm_ pa (hJ6 () _ ⟨hHeld, (fR HO_309001), (fS HO_7), (fb BK308), (fI HI0), (fK HK), (fB HB)⟩)
                   ·
                    skip
                    clear HO_7 HO_309001 BK308 HI0 HK HB; rintro _ w59 ⟨hHeld, HO_309001, HO_7, BK308, HI0, HK, HB⟩; replace HO_309001 := am HO_309001; replace HO_7 := am HO_7; replace BK308 := am BK308; replace HI0 := am HI0; replace HK := am HK; replace HB := am HB
                    refine nq _ ?_
                    refine two_ (i := 1) (j := 8) (Ni := some 43) (Nj := some 50) #[true, true, true, false, false, true, true, true, false, true, false, false, false, false] #[true, false, true, false, false, true, true, true, true, true, false, false, false, false] rfl rfl rfl rfl (two_of HT_.out (by kernel_rfl)) (by decide) (by decide) (fun K hK => ?_) (fun K hK => ?_)
                    ·
                     skip
                     refine Kd.R_lit_step Kd.string _ 9 ?hg (N := 43) ?hd (xs := ([(⟨#[118]⟩ : ByteArray), (⟨#[103]⟩ : ByteArray), (⟨#[104]⟩ : ByteArray), (⟨#[116]⟩ : ByteArray), (⟨#[114, 104, 111]⟩ : ByteArray), (⟨#[109, 117]⟩ : ByteArray), (⟨#[76]⟩ : ByteArray), (⟨#[70]⟩ : ByteArray)] : List ByteArray)) (inner := [.string (⟨#[118]⟩ : ByteArray), .string (⟨#[103]⟩ : ByteArray), .string (⟨#[104]⟩ : ByteArray), .string (⟨#[116]⟩ : ByteArray), .string (⟨#[114, 104, 111]⟩ : ByteArray), .string (⟨#[109, 117]⟩ : ByteArray), .string (⟨#[76]⟩ : ByteArray), .string (⟨#[70]⟩ : ByteArray)]) (ok := fun _ => True) (okp := fun _ => True) ?hr ?hp (fun _ hk => hk) trivial (Below.refl _ _) (Nat.le_refl _) (by simp) ?_; (case hd => rfl); (case hg => rfl); (case hr => first | (go_simp; done) | (go_simp; rfl)); (case hp => exact (Reps.one (show Kd.M Kd.string _ _ _ (⟨#[118]⟩ : ByteArray) [.string (⟨#[118]⟩ : ByteArray)] from rfl) (Reps.one (show Kd.M Kd.string _ _ _ (⟨#[103]⟩ : ByteArray) [.string (⟨#[103]⟩ : ByteArray)] from rfl) (Reps.one (show Kd.M Kd.string _ _ _ (⟨#[104]⟩ : ByteArray) [.string (⟨#[104]⟩ : ByteArray)] from rfl) (Reps.one (show Kd.M Kd.string _ _ _ (⟨#[116]⟩ : ByteArray) [.string (⟨#[116]⟩ : ByteArray)] from rfl) (Reps.one (show Kd.M Kd.string _ _ _ (⟨#[114, 104, 111]⟩ : ByteArray) [.string (⟨#[114, 104, 111]⟩ : ByteArray)] from rfl) (Reps.one (show Kd.M Kd.string _ _ _ (⟨#[109, 117]⟩ : ByteArray) [.string (⟨#[109, 117]⟩ : ByteArray)] from rfl) (Reps.one (show Kd.M Kd.string _ _ _ (⟨#[76]⟩ : ByteArray) [.string (⟨#[76]⟩ : ByteArray)] from rfl) (Reps.one (show Kd.M Kd.string _ _ _ (⟨#[70]⟩ : ByteArray) [.string (⟨#[70]⟩ : ByteArray)] from rfl) (Reps.none _ _))))))))))
                     intro v339 w60 ho61 hb hg_ hnew_
                     clear hg_ hnew_
                     (first | rw [← Ny338.out] at ho61 | (simp only [Int.reduceToNat] at ho61; rw [← Ny338.out] at ho61))
                     replace HO_7 := am (Kd.S_below (fS HO_7) hb); replace HO_309001 := RB HO_309001 hb; have HO340 := loK ho61 HK; replace BK308 := kB BK308 hb; replace HI0 := IB HI0 hb; replace HK := KB HK hb; replace HB := sB HB hb
                     clear hb ho61
                     obtain ⟨Ao62, co62, eo62⟩ := Kd.R_slice HO340.out
                     subst eo62
                     obtain ⟨ado62, fo62, _⟩ := Kd.at_string (Kd.R_reads' HO340.out).2.2 0 (by decide) (by rw [Ny338.out]; simp)
                     cases fo62
                     refine hK.out _ _ (hh2 BK308) (fun hHeld => ?_)
                     clear hK K
                     refine nm (some 43) ?_
                     refine pu 3 (some 45) #[true, true, true, true, false, true, true, true, false, true, false, false, false, false] HT_ ?_
                     exact norm_ pa (hJ1_6 (.slice (some ado62) y338.length co62, ado62) _ ⟨hHeld, (fR HO340), (fR HO_309001), (fS HO_7), ⟨_, rfl⟩, (fb BK308), (fI HI0), (fK HK), (fB HB)⟩)
                    ·
                     skip
                     refine ge Try.func82 #[.int .i64 (wrap64 (1 + t342))] ?_
                     with_reducible refine (spec_l03Of.calls kj11 (wrap64 (1 + t342)) t345 t346 t349 t350 _ A54.out).mono ?_
                     rintro e w60 ⟨v347, v351, rfl, ho0, ho1, hb⟩
                     refine ⟨_, rfl, ?_⟩
                     replace HO_7 := am (Kd.S_mono (Kd.S_told (Kd.S_told (Kd.S_old (fS HO_7) hb) (Kd.R_base ho0)) (Kd.R_base ho1)) (fun _ h_ => h_.1)); replace HO_309001 := RB HO_309001 hb; have HO348 := loK ho0 HK; have HO352 := loK ho1 HK; replace BK308 := kB BK308 hb; replace HI0 := IB HI0 hb; replace HK := KB HK hb; replace HB := sB HB hb
                     clear hb ho0 ho1
                     refine hK.out _ _ (hh2 BK308) (fun hHeld => ?_)
                     clear hK K
                     refine nm (some 50) ?_
                     exact norm_ pa (hJ6_8 (v347, v351) _ ⟨hHeld, (fR HO348), (fR HO352), (fR HO_309001), (by (with_reducible repeat (first | apply Kd.S_alloc | apply Kd.S_drewN | apply Kd.S_drew)); exact Kd.S_mono HO_7.out (fun _ hk => ⟨hk.1.2, ⟨hk.2, hk.1.1⟩⟩)), (fb BK308), (fI HI0), (fK HK), (fB HB)⟩)
                  ·
                   skip
                   clear HO_7 HO_309001 BK308 HI0 HK HB; rintro ⟨v339, adz_v339⟩ w61 ⟨hHeld, HO340, HO_309001, HO_7, HA_HO340, BK308, HI0, HK, HB⟩; (try dsimp only at HO340 HO_309001 HO_7 HA_HO340 BK308 HI0 HK HB); replace HO340 := am HO340; replace HO_309001 := am HO_309001; replace HO_7 := am HO_7; replace HA_HO340 := am HA_HO340; replace BK308 := am BK308; replace HI0 := am HI0; replace HK := am HK; replace HB := am HB
                   obtain ⟨co62, eo62⟩ := HA_HO340.out
                   clear HA_HO340
                   subst eo62
                   refine nq _ ?_
                   refine two_ (i := 4) (j := 6) (Ni := some 46) (Nj := some 48) #[true, true, true, true, true, true, false, false, false, true, false, false, false, false] #[true, true, true, true, false, true, true, false, false, true, false, false, false, false] rfl rfl rfl rfl (two_of HT_.out (by kernel_rfl)) (by decide) (by decide) (fun K hK => ?_) (fun K hK => ?_)
                   ·
                    skip
                    (have p341 : 0 ≤ (x9_1 : Int) := of_decide_eq_true (ha); have q341 : x9_1 < (y338.length : Int) := of_decide_eq_true (ha); obtain ⟨ad341, e341, hx341_0⟩ := Kd.at_string (Kd.R_reads' HO340.out).2.2 x9_1 p341 q341; obtain rfl : adz_v339 = ad341 := (by injection e341))
                    refine value_ (w1 := ?_) (v := ?_) (by rfl) rfl ?_ ?_
                    rotate_left 2
                    ·
                     go_simp
                     constructor
                     ·
                      rfl
                     ·
                      rfl
                    clear hx341_0
                    refine hK.out _ _ (hh2 BK308) (fun hHeld => ?_)
                    clear hK K
                    refine nm (some 46) ?_
                    exact norm_ pa (hJ1_4 (.slice (some adz_v339) y338.length co62, adz_v339) _ ⟨hHeld, (fR HO340), (fR HO_309001), (fS HO_7), ⟨_, rfl⟩, (fb BK308), (fI HI0), (fK HK), (fB HB)⟩)
                   ·
                    skip
                    refine ge Try.func56 #[.pointer (some ⟨g, 0, none⟩), .int .i64 3] ?_
                    with_reducible refine (spec_l01Below.calls g s0_0 x1001_11 x1002_11 3 t342 t343 t344 w0 _ ?side1 ?side2 A53.out).mono ?_
                    (case side1 => exact fI HI0)
                    (case side2 => exact fB HB)
                    rintro e w63 ⟨rfl, hi, hb, hk⟩
                    refine ⟨_, rfl, ?_⟩
                    replace HO_7 := am (Kd.S_mono (Kd.S_keep (IsS90.apartS (show IsS90 w0 _ g s0_0 x1001_11 x1002_11 from fI HI0) (fS HO_7) (by decide)) hk (fun _ h => h.2)) (fun _ h => h.1)); replace HO_309001 := kR HI0 HO_309001 hk; replace BK308 := kK BK308 hk NB308_0; replace HO340 := kR HI0 HO340 hk; replace HK := Kk HK hk; replace HB := am (hb); replace HI0 := am (hi)
                    clear hb hk hi
                    refine hK.out _ _ (hh2 BK308) (fun hHeld => ?_)
                    clear hK K
                    refine nm (some 48) ?_
                    refine pu 7 (some 49) #[true, true, true, true, false, true, true, true, false, true, false, false, false, false] HT_ ?_
                    exact norm_ pa (hJ1_6 (.slice (some adz_v339) y338.length co62, adz_v339) _ ⟨hHeld, (fR HO340), (fR HO_309001), (fS HO_7), ⟨_, rfl⟩, (fb BK308), (fI HI0), (fK HK), (fB HB)⟩)
                 ·
                  skip
                  clear HO_7 HO_309001 BK308 HI0 HK HB; rintro ⟨v347, v351⟩ w60 ⟨hHeld, HO348, HO352, HO_309001, HO_7, BK308, HI0, HK, HB⟩; (try dsimp only at HO348 HO352 HO_309001 HO_7 BK308 HI0 HK HB); replace HO348 := am HO348; replace HO352 := am HO352; replace HO_309001 := am HO_309001; replace HO_7 := am HO_7; replace BK308 := am BK308; replace HI0 := am HI0; replace HK := am HK; replace HB := am HB
                  refine nq _ ?_
                  refine on 1 (some 43) #[true, true, true, false, false, true, true, true, true, true, false, false, false, false] HT_ (fun K hK => ?_)
                  refine Kd.R_lit_step Kd.string _ 9 ?hg (N := 43) ?hd (xs := ([(⟨#[118]⟩ : ByteArray), (⟨#[103]⟩ : ByteArray), (⟨#[104]⟩ : ByteArray), (⟨#[116]⟩ : ByteArray), (⟨#[114, 104, 111]⟩ : ByteArray), (⟨#[109, 117]⟩ : ByteArray), (⟨#[76]⟩ : ByteArray), (⟨#[70]⟩ : ByteArray)] : List ByteArray)) (inner := [.string (⟨#[118]⟩ : ByteArray), .string (⟨#[103]⟩ : ByteArray), .string (⟨#[104]⟩ : ByteArray), .string (⟨#[116]⟩ : ByteArray), .string (⟨#[114, 104, 111]⟩ : ByteArray), .string (⟨#[109, 117]⟩ : ByteArray), .string (⟨#[76]⟩ : ByteArray), .string (⟨#[70]⟩ : ByteArray)]) (ok := fun _ => True) (okp := fun _ => True) ?hr ?hp (fun _ hk => hk) trivial (Below.refl _ _) (Nat.le_refl _) (by simp) ?_; (case hd => rfl); (case hg => rfl); (case hr => first | (go_simp; done) | (go_simp; rfl)); (case hp => exact (Reps.one (show Kd.M Kd.string _ _ _ (⟨#[118]⟩ : ByteArray) [.string (⟨#[118]⟩ : ByteArray)] from rfl) (Reps.one (show Kd.M Kd.string _ _ _ (⟨#[103]⟩ : ByteArray) [.string (⟨#[103]⟩ : ByteArray)] from rfl) (Reps.one (show Kd.M Kd.string _ _ _ (⟨#[104]⟩ : ByteArray) [.string (⟨#[104]⟩ : ByteArray)] from rfl) (Reps.one (show Kd.M Kd.string _ _ _ (⟨#[116]⟩ : ByteArray) [.string (⟨#[116]⟩ : ByteArray)] from rfl) (Reps.one (show Kd.M Kd.string _ _ _ (⟨#[114, 104, 111]⟩ : ByteArray) [.string (⟨#[114, 104, 111]⟩ : ByteArray)] from rfl) (Reps.one (show Kd.M Kd.string _ _ _ (⟨#[109, 117]⟩ : ByteArray) [.string (⟨#[109, 117]⟩ : ByteArray)] from rfl) (Reps.one (show Kd.M Kd.string _ _ _ (⟨#[76]⟩ : ByteArray) [.string (⟨#[76]⟩ : ByteArray)] from rfl) (Reps.one (show Kd.M Kd.string _ _ _ (⟨#[70]⟩ : ByteArray) [.string (⟨#[70]⟩ : ByteArray)] from rfl) (Reps.none _ _))))))))))
                  intro v339 w61 ho62 hb hg_ hnew_
                  clear hg_ hnew_
                  (first | rw [← Ny338.out] at ho62 | (simp only [Int.reduceToNat] at ho62; rw [← Ny338.out] at ho62))
                  replace HO_7 := am (Kd.S_below (fS HO_7) hb); replace HO_309001 := RB HO_309001 hb; replace HO348 := RB HO348 hb; replace HO352 := RB HO352 hb; have HO340 := loK ho62 HK; replace BK308 := kB BK308 hb; replace HI0 := IB HI0 hb; replace HK := KB HK hb; replace HB := sB HB hb
                  clear hb ho62
                  obtain ⟨Ao63, co63, eo63⟩ := Kd.R_slice HO340.out
                  subst eo63
                  obtain ⟨ado63, fo63, _⟩ := Kd.at_string (Kd.R_reads' HO340.out).2.2 0 (by decide) (by rw [Ny338.out]; simp)
                  cases fo63
                  refine hK.out _ _ (hh2 BK308) (fun hHeld => ?_)
                  clear hK K
                  refine nm (some 43) ?_
                  refine pu 3 (some 45) #[true, true, true, true, false, true, true, true, true, true, false, false, false, false] HT_ ?_
                  exact norm_ pa (hJ1_6_8 (.slice (some ado63) y338.length co63, ado63, v347, v351) _ ⟨hHeld, (fR HO340), (fR HO348), (fR HO352), (fR HO_309001), (fS HO_7), ⟨_, rfl⟩, (fb BK308), (fI HI0), (fK HK), (fB HB)⟩)
                ·
                 skip
                 clear HO_7 HO_309001 BK308 HI0 HK HB; rintro ⟨v339, adz_v339⟩ w62 ⟨hHeld, HO340, HO_309001, HO_7, HA_HO340, BK308, HI0, HK, HB⟩; (try dsimp only at HO340 HO_309001 HO_7 HA_HO340 BK308 HI0 HK HB); replace HO340 := am HO340; replace HO_309001 := am HO_309001; replace HO_7 := am HO_7; replace HA_HO340 := am HA_HO340; replace BK308 := am BK308; replace HI0 := am HI0; replace HK := am HK; replace HB := am HB
                 obtain ⟨co63, eo63⟩ := HA_HO340.out
                 clear HA_HO340
                 subst eo63
                 refine nq _ ?_
                 refine two_ (i := 4) (j := 8) (Ni := some 46) (Nj := some 50) #[true, true, true, true, true, true, true, true, false, true, false, false, false, false] #[true, true, true, true, false, true, true, true, true, true, false, false, false, false] rfl rfl rfl rfl (two_of HT_.out (by kernel_rfl)) (by decide) (by decide) (fun K hK => ?_) (fun K hK => ?_)
                 ·
                  skip
                  (have p341 : 0 ≤ (x9_1 : Int) := of_decide_eq_true (ha); have q341 : x9_1 < (y338.length : Int) := of_decide_eq_true (ha); obtain ⟨ad341, e341, hx341_0⟩ := Kd.at_string (Kd.R_reads' HO340.out).2.2 x9_1 p341 q341; obtain rfl : adz_v339 = ad341 := (by injection e341))
                  refine value_ (w1 := ?_) (v := ?_) (by rfl) rfl ?_ ?_
                  rotate_left 2
                  ·
                   go_simp
                   constructor
                   ·
                    rfl
                   ·
                    rfl
                  clear hx341_0
                  refine hK.out _ _ (hh2 BK308) (fun hHeld => ?_)
                  clear hK K
                  refine nm (some 46) ?_
                  exact norm_ pa (hJ1_4_6 (.slice (some adz_v339) y338.length co63, adz_v339) _ ⟨hHeld, (fR HO340), (fR HO_309001), (fS HO_7), ⟨_, rfl⟩, (fb BK308), (fI HI0), (fK HK), (fB HB)⟩)
                 ·
                  skip
                  refine ge Try.func82 #[.int .i64 (wrap64 (1 + t342))] ?_
                  with_reducible refine (spec_l03Of.calls kj11 (wrap64 (1 + t342)) t345 t346 t349 t350 _ A54.out).mono ?_
                  rintro e w64 ⟨v347, v351, rfl, ho0, ho1, hb⟩
                  refine ⟨_, rfl, ?_⟩
                  replace HO_7 := am (Kd.S_mono (Kd.S_told (Kd.S_told (Kd.S_old (fS HO_7) hb) (Kd.R_base ho0)) (Kd.R_base ho1)) (fun _ h_ => h_.1)); replace HO_309001 := RB HO_309001 hb; replace HO340 := RB HO340 hb; have HO348 := loK ho0 HK; have HO352 := loK ho1 HK; replace BK308 := kB BK308 hb; replace HI0 := IB HI0 hb; replace HK := KB HK hb; replace HB := sB HB hb
                  clear hb ho0 ho1
                  refine hK.out _ _ (hh2 BK308) (fun hHeld => ?_)
                  clear hK K
                  refine nm (some 50) ?_
                  exact norm_ pa (hJ1_6_8 (.slice (some adz_v339) y338.length co63, adz_v339, v347, v351) _ ⟨hHeld, (fR HO340), (fR HO348), (fR HO352), (fR HO_309001), (by (with_reducible repeat (first | apply Kd.S_alloc | apply Kd.S_drewN | apply Kd.S_drew)); exact Kd.S_mono HO_7.out (fun _ hk => ⟨hk.1.2, ⟨hk.2, hk.1.1⟩⟩)), ⟨_, rfl⟩, (fb BK308), (fI HI0), (fK HK), (fB HB)⟩)
               ·
                skip
                clear HO_7 HO_309001 BK308 HI0 HK HB; rintro ⟨v339, adz_v339⟩ w61 ⟨hHeld, HO340, HO_309001, HO_7, HA_HO340, BK308, HI0, HK, HB⟩; (try dsimp only at HO340 HO_309001 HO_7 HA_HO340 BK308 HI0 HK HB); replace HO340 := am HO340; replace HO_309001 := am HO_309001; replace HO_7 := am HO_7; replace HA_HO340 := am HA_HO340; replace BK308 := am BK308; replace HI0 := am HI0; replace HK := am HK; replace HB := am HB
                obtain ⟨co62, eo62⟩ := HA_HO340.out
                clear HA_HO340
                subst eo62
                refine nq _ ?_
                refine on 6 (some 48) #[true, true, true, true, true, true, true, false, false, true, false, false, false, false] HT_ (fun K hK => ?_)
                refine ge Try.func56 #[.pointer (some ⟨g, 0, none⟩), .int .i64 3] ?_
                with_reducible refine (spec_l01Below.calls g s0_0 x1001_11 x1002_11 3 t342 t343 t344 w0 _ ?side1 ?side2 A53.out).mono ?_
                (case side1 => exact fI HI0)
                (case side2 => exact fB HB)
                rintro e w63 ⟨rfl, hi, hb, hk⟩
                refine ⟨_, rfl, ?_⟩
                replace HO_7 := am (Kd.S_mono (Kd.S_keep (IsS90.apartS (show IsS90 w0 _ g s0_0 x1001_11 x1002_11 from fI HI0) (fS HO_7) (by decide)) hk (fun _ h => h.2)) (fun _ h => h.1)); replace HO_309001 := kR HI0 HO_309001 hk; replace BK308 := kK BK308 hk NB308_0; replace HO340 := kR HI0 HO340 hk; replace HK := Kk HK hk; replace HB := am (hb); replace HI0 := am (hi)
                clear hb hk hi
                refine hK.out _ _ (hh2 BK308) (fun hHeld => ?_)
                clear hK K
                refine nm (some 48) ?_
                refine pu 7 (some 49) #[true, true, true, true, true, true, true, true, false, true, false, false, false, false] HT_ ?_
                exact norm_ pa (hJ1_4_6 (.slice (some adz_v339) y338.length co62, adz_v339) _ ⟨hHeld, (fR HO340), (fR HO_309001), (fS HO_7), ⟨_, rfl⟩, (fb BK308), (fI HI0), (fK HK), (fB HB)⟩)
              ·
               skip
               clear HO_7 HO_309001 BK308 HI0 HK HB; rintro ⟨v339, adz_v339, v347, v351⟩ w63 ⟨hHeld, HO340, HO348, HO352, HO_309001, HO_7, HA_HO340, BK308, HI0, HK, HB⟩; (try dsimp only at HO340 HO348 HO352 HO_309001 HO_7 HA_HO340 BK308 HI0 HK HB); replace HO340 := am HO340; replace HO348 := am HO348; replace HO352 := am HO352; replace HO_309001 := am HO_309001; replace HO_7 := am HO_7; replace HA_HO340 := am HA_HO340; replace BK308 := am BK308; replace HI0 := am HI0; replace HK := am HK; replace HB := am HB
               obtain ⟨co64, eo64⟩ := HA_HO340.out
               clear HA_HO340
               subst eo64
               obtain ⟨Ao65, co65, eo65⟩ := Kd.R_slice HO352.out
               (first | subst eo65 | (injection eo65 with f1_ f2_ f3_; have f4_ := f1_.symm; have f5_ := f3_.symm; clear f1_ f2_ f3_; subst f4_; subst f5_))
               obtain ⟨Ao66, co66, eo66⟩ := Kd.R_slice HO348.out
               (first | subst eo66 | (injection eo66 with f1_ f2_ f3_; have f4_ := f1_.symm; have f5_ := f3_.symm; clear f1_ f2_ f3_; subst f4_; subst f5_))
               refine nq _ ?_
               refine on 4 (some 46) #[true, true, true, true, true, true, true, true, true, true, false, false, false, false] HT_ (fun K hK => ?_)
               (have p341 : 0 ≤ (x9_1 : Int) := of_decide_eq_true (ha); have q341 : x9_1 < (y338.length : Int) := of_decide_eq_true (ha); obtain ⟨ad341, e341, hx341_0⟩ := Kd.at_string (Kd.R_reads' HO340.out).2.2 x9_1 p341 q341; obtain rfl : adz_v339 = ad341 := (by injection e341))
               refine value_ (w1 := ?_) (v := ?_) (by rfl) rfl ?_ ?_
               rotate_left 2
               ·
                go_simp
                constructor
                ·
                 rfl
                ·
                 rfl
               clear hx341_0
               refine hK.out _ _ (hh2 BK308) (fun hHeld => ?_)
               clear hK K
               refine nm (some 46) ?_
               exact norm_ pa (hJ1_4_6_8 (.slice (some adz_v339) y338.length co64, adz_v339, .slice Ao66 t346.length co66, .slice Ao65 t350.length co65) _ ⟨hHeld, (fR HO340), (fR HO348), (fR HO352), (fR HO_309001), (fS HO_7), ⟨_, rfl⟩, (fb BK308), (fI HI0), (fK HK), (fB HB)⟩)
             ·
              skip
              clear HO_7 HO_309001 BK308 HI0 HK HB; rintro ⟨v339, adz_v339⟩ w62 ⟨hHeld, HO340, HO_309001, HO_7, HA_HO340, BK308, HI0, HK, HB⟩; (try dsimp only at HO340 HO_309001 HO_7 HA_HO340 BK308 HI0 HK HB); replace HO340 := am HO340; replace HO_309001 := am HO_309001; replace HO_7 := am HO_7; replace HA_HO340 := am HA_HO340; replace BK308 := am BK308; replace HI0 := am HI0; replace HK := am HK; replace HB := am HB
              obtain ⟨co63, eo63⟩ := HA_HO340.out
              clear HA_HO340
              subst eo63
              refine nq _ ?_
              refine on 8 (some 50) #[true, true, true, true, true, true, true, true, true, true, false, false, false, false] HT_ (fun K hK => ?_)
              refine ge Try.func82 #[.int .i64 (wrap64 (1 + t342))] ?_
              with_reducible refine (spec_l03Of.calls kj11 (wrap64 (1 + t342)) t345 t346 t349 t350 _ A54.out).mono ?_
              rintro e w64 ⟨v347, v351, rfl, ho0, ho1, hb⟩
              refine ⟨_, rfl, ?_⟩
              replace HO_7 := am (Kd.S_mono (Kd.S_told (Kd.S_told (Kd.S_old (fS HO_7) hb) (Kd.R_base ho0)) (Kd.R_base ho1)) (fun _ h_ => h_.1)); replace HO_309001 := RB HO_309001 hb; replace HO340 := RB HO340 hb; have HO348 := loK ho0 HK; have HO352 := loK ho1 HK; replace BK308 := kB BK308 hb; replace HI0 := IB HI0 hb; replace HK := KB HK hb; replace HB := sB HB hb
              clear hb ho0 ho1
              obtain ⟨Ao65, co65, eo65⟩ := Kd.R_slice HO352.out
              (first | subst eo65 | (injection eo65 with f1_ f2_ f3_; have f4_ := f1_.symm; have f5_ := f3_.symm; clear f1_ f2_ f3_; subst f4_; subst f5_))
              obtain ⟨Ao66, co66, eo66⟩ := Kd.R_slice HO348.out
              (first | subst eo66 | (injection eo66 with f1_ f2_ f3_; have f4_ := f1_.symm; have f5_ := f3_.symm; clear f1_ f2_ f3_; subst f4_; subst f5_))
              refine hK.out _ _ (hh2 BK308) (fun hHeld => ?_)
              clear hK K
              refine nm (some 50) ?_
              exact norm_ pa (hJ1_4_6_8 (.slice (some adz_v339) y338.length co63, adz_v339, .slice Ao66 t346.length co66, .slice Ao65 t350.length co65) _ ⟨hHeld, (fR HO340), (fR HO348), (fR HO352), (fR HO_309001), (by (with_reducible repeat (first | apply Kd.S_alloc | apply Kd.S_drewN | apply Kd.S_drew)); exact Kd.S_mono HO_7.out (fun _ hk => ⟨hk.1.2, ⟨hk.2, hk.1.1⟩⟩)), ⟨_, rfl⟩, (fb BK308), (fI HI0), (fK HK), (fB HB)⟩)
            clear HO_7 HO_309001 BK308 HI0 HK HB; rintro ⟨v339, adz_v339, v347, v351⟩ w65 ⟨hHeld, HO340, HO348, HO352, HO_309001, HO_7, HA_HO340, BK308, HI0, HK, HB⟩; (try dsimp only at HO340 HO348 HO352 HO_309001 HO_7 HA_HO340 BK308 HI0 HK HB); replace HO340 := am HO340; replace HO348 := am HO348; replace HO352 := am HO352; replace HO_309001 := am HO_309001; replace HO_7 := am HO_7; replace HA_HO340 := am HA_HO340; replace BK308 := am BK308; replace HI0 := am HI0; replace HK := am HK; replace HB := am HB
            obtain ⟨co66, eo66⟩ := HA_HO340.out
            clear HA_HO340
            subst eo66
            obtain ⟨Ao67, co67, eo67⟩ := Kd.R_slice HO352.out
            (first | subst eo67 | (injection eo67 with f1_ f2_ f3_; have f4_ := f1_.symm; have f5_ := f3_.symm; clear f1_ f2_ f3_; subst f4_; subst f5_))
            obtain ⟨Ao68, co68, eo68⟩ := Kd.R_slice HO348.out
            (first | subst eo68 | (injection eo68 with f1_ f2_ f3_; have f4_ := f1_.symm; have f5_ := f3_.symm; clear f1_ f2_ f3_; subst f4_; subst f5_))
            refine nq _ ?_
            refine pu 10 (some 52) #[true, true, true, true, true, true, true, true, true, true, true, false, false, false] HT_ ?_
            refine on 11 (some 53) #[true, true, true, true, true, true, true, true, true, true, true, true, false, false] HT_ (fun K hK => ?_)
            refine value_ (w1 := ?_) (v := ?_) (by rfl) rfl ?_ ?_
            rotate_left 2
            ·
             go_simp
             constructor
             ·
              rfl
             ·
              rfl
            refine hK.out _ _ ⟨(blk_cell (blk_alloc BK308.out _) 0).trans rfl, (blk_cell (blk_alloc BK308.out _) 1).trans rfl⟩ (fun hHeld => ?_)
            clear hK K
            refine nm (some 53) ?_
            refine on 12 (some 54) #[true, true, true, true, true, true, true, true, true, true, true, true, true, false] HT_ (fun K hK => ?_)
            refine Kd.S_append_step k64 w.heap.size (by rfl) (.tmp 42) (.tmp 53) 52 64 (.agg #[(.string ⟨#[]⟩), (.bool false), (.slice none 0 0), (.bool false), (.slice none 0 0), (.int .i64 0), (.slice none 0 0)]) 112 rfl Try.underlying52 info64 rfl (by decide) (by omega) (.slice Ao56 x7_1.length co56) x7_1 (⟨rdOf ByteArray.empty y338 x9_1, (⟨(⟨t345, t346⟩ : S60), (⟨t349, t350⟩ : S60)⟩ : S62), (⟨t302, t303⟩ : S27)⟩ : S64) [.string (rdOf ByteArray.empty y338 x9_1), .bool t345, .slice Ao68 t346.length co68, .bool t349, .slice Ao67 t350.length co67, .int .i64 t302, .slice Ao17 t303.length co17] (fun _ => True) (fun k_ => some k_ = (.slice Ao68 t346.length co68 : Value).ownBlock ∨ some k_ = (.slice Ao67 t350.length co67 : Value).ownBlock ∨ some k_ = (.slice Ao17 t303.length co17 : Value).ownBlock) rfl rfl ?aP (fun k_ hk_ => hk_.elim (fun h_ => ((Kd.R_mono (ok' := fun k_ => ((fun _ => True)) k_ ∧ some k_ ≠ (.slice Ao56 x7_1.length co56 : Value).ownBlock) (Kd.R_apart' (HO348.out) (Kd.S_typed HO_7.out) (by decide)) (fun k_ hk => ⟨trivial, hk.2⟩))).1 k_ h_.symm) (fun h_ => h_.elim (fun h_ => ((Kd.R_mono (ok' := fun k_ => ((fun _ => True)) k_ ∧ some k_ ≠ (.slice Ao56 x7_1.length co56 : Value).ownBlock) (Kd.R_apart' (HO352.out) (Kd.S_typed HO_7.out) (by decide)) (fun k_ hk => ⟨trivial, hk.2⟩))).1 k_ h_.symm) (fun h_ => ((Kd.R_mono (ok' := fun k_ => ((fun _ => True)) k_ ∧ some k_ ≠ (.slice Ao56 x7_1.length co56 : Value).ownBlock) (Kd.R_apart' (HO_309001.out) (Kd.S_typed HO_7.out) (by decide)) (fun k_ hk => ⟨trivial, hk.2⟩))).1 k_ h_.symm))) ?aF ?aO (Below.refl _ _) ?aS ?aL ?_
            (case aP => exact k64_mkM _ _ _ (⟨rdOf ByteArray.empty y338 x9_1, (⟨(⟨t345, t346⟩ : S60), (⟨t349, t350⟩ : S60)⟩ : S62), (⟨t302, t303⟩ : S27)⟩ : S64) (Kd.R_mono (Kd.R_tight rfl (Kd.R_mono (ok' := fun k_ => ((fun _ => True)) k_ ∧ some k_ ≠ (.slice Ao56 x7_1.length co56 : Value).ownBlock) (Kd.R_apart' (HO348.out) (Kd.S_typed HO_7.out) (by decide)) (fun k_ hk => ⟨trivial, hk.2⟩))) (fun _ h_ => Or.inl h_)) (Kd.R_mono (Kd.R_tight rfl (Kd.R_mono (ok' := fun k_ => ((fun _ => True)) k_ ∧ some k_ ≠ (.slice Ao56 x7_1.length co56 : Value).ownBlock) (Kd.R_apart' (HO352.out) (Kd.S_typed HO_7.out) (by decide)) (fun k_ hk => ⟨trivial, hk.2⟩))) (fun _ h_ => Or.inr (Or.inl h_))) (Kd.R_mono (Kd.R_tight rfl (Kd.R_mono (ok' := fun k_ => ((fun _ => True)) k_ ∧ some k_ ≠ (.slice Ao56 x7_1.length co56 : Value).ownBlock) (Kd.R_apart' (HO_309001.out) (Kd.S_typed HO_7.out) (by decide)) (fun k_ hk => ⟨trivial, hk.2⟩))) (fun _ h_ => Or.inr (Or.inr (h_)))))
            (case aF => exact (fun _ _ => trivial))
            (case aO => exact (by (with_reducible repeat (first | apply Kd.S_alloc | apply Kd.S_drewN | apply Kd.S_drew)); exact Kd.S_mono HO_7.out (fun k_ hk => ⟨trivial, fun e_ => e_.elim (fun h_ => hk.1 h_) (fun h_ => h_.elim (fun h_ => hk.2.1 h_) (fun h_ => hk.2.2 h_))⟩)))
            (case aS => exact (keep_size (w := w) (g := g) (row := none) (fK HK)))
            (case aL => have := LMc55.out; omega)
            intro v354 w69 ho hb hg hat
            rw [← Ny353.out] at ho
            replace BK308 := am (blk_grown (g := gb308) (o := .cells #[.int .i64 t302, .slice Ao17 t303.length co17] 27 (0, 0)) (fb BK308) hg (Kd.S_ne HO_7.out BK308.out (by decide))); replace HI0 := am (IsS90.grown (fI HI0) hg (IsS90.own_neS HI0.out HO_7.out (by decide))); replace HO340 := am (Kd.R_over' (fR HO340) (Kd.S_typed (fS HO_7)) (by decide) hg); replace HB := am (below_weaken (fB HB) HL.out hb); replace HK := am (KeepBut.trans (fK HK) (KeepBut.of_grown hg g) (Kd.S_base2 HO_7.out)); have HO355 := am (ho); clear HO_7 HO348 HO352 HO_309001
            clear ho hb hg hat
            refine hK.out _ _ (hh2 BK308) (fun hHeld => ?_)
            clear hK K
            refine nm (some 54) ?_
            refine pu 13 (some 7) #[true, true, true, true, true, true, true, true, true, true, true, true, true, true] HT_ ?_
            refine done_ (done_of HT_.out (by kernel_rfl)) ?_
            try go_wp2
            go_roundg kj11
            case measure => have := HK1.out; have := HJ7.out; have := HJ11.out; omega
            case rel => exact ⟨(y353), (wrap64 (x9_1 + 1)), (t343), (t344), (rs), H', ⟨by have := HK1.out; have := HJ7.out; have := HJ11.out; omega⟩, ⟨fS HO355⟩, ⟨fI HI0⟩, ⟨fK HK⟩, ⟨fB HB⟩⟩
           ·
            rw [if_neg c55] at H
            exact absurd H (by simp)
          ·
           rw [if_neg c52] at H
           exact absurd H (by simp)
         ·
          rw [if_neg c51] at H
          exact absurd H (by simp)
     ·
      replace c10 := Bool.eq_false_iff.mpr c10
      subst c10
      have H1 : (some (x7_1, x1001_1, x1002_1)) = some (r1, r2, r3) := by rw [if_neg (show ¬ (false = true) by decide)] at H; exact H
      clear H
      have H := H1
      clear H1
      simp only [Option.some.injEq, Prod.mk.injEq] at H
      obtain ⟨rfl, rfl, rfl⟩ := H
      go_wp2
      go_ret
      exact ⟨_, rz, fS HO_7, fI HI0, fB HB, fK HK⟩
end Go.Proofs.Ytjdndacollpjkaa.MFnVars
