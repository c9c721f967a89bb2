/- Contracts of the functions that the law FnVars reaches (walks in the form of the kit's print; what it does not take by hand). -/
import Derived.Test.YtjdndacollpjkaaFvL
import Derived.Test.YtjdndacollpjkaaMFnVarsx1
import Derived.Test.YtjdndacollpjkaaMFnVarsx3
import Derived.Test.YtjdndacollpjkaaMFnVarsx4
import Derived.Test.YtjdndacollpjkaaMFnVarsx5
import Derived.Test.YtjdndacollpjkaaMFnVarsx13
namespace Go.Proofs.Ytjdndacollpjkaa.MFnVars
open Go.RowKit Go.Proofs.YtjdndacollpjkaaW.PrintWords Go.Proofs.YtjdndacollpjkaaW.PrintLast Go.Proofs.YtjdndacollpjkaaW.PrintMore
attribute [local go_sem] fld60_0 fld60_1 max2_int min2_int max_two min_two max_three min_three max_four min_four   -- for this text's walks alone
set_option linter.unusedVariables false
set_option linter.unusedSimpArgs false

/-! ### spec_l09Any: function 64 -/
set_option maxHeartbeats 8000000 in
set_option maxRecDepth 100000 in
theorem spec_l09Any.calls (k : Nat) (g : Nat) (s0_0 : List Int) (s0_1 : Int) (s0_2 : Int) (a1 : Int) (r1 : List (S64)) (r2 : Int) (r3 : Int) (w0 w : World) (hI : IsS90 w0 w g s0_0 s0_1 s0_2) (hB : Below w0.heap.size w0 w) (h : spec_l09Any.f k s0_0 s0_1 s0_2 a1 = some (r1, r2, r3)) :
  Calls Try.prog 64 #[.pointer (some ⟨g, 0, none⟩), .int .i64 a1] w fun e w' => ∃ v0_ : Value, e = .returned (v0_) ∧ Kd.S k64 64 w' w.heap.size (fun _ => True) v0_ r1 ∧ IsS90 w0 w' g s0_0 r2 r3 ∧ Below w0.heap.size w0 w' ∧ KeepBut w w' g none := by
 have hu64 := Try.underlying64
 have HI0 := am hI
 have HK := am (KeepBut.refl w g none)
 have HL := am hB.size
 clear hI
 have HW0 := am hB.size
 have HB := am hB
 clear hB
 have H : ((spec_l09Vars.f k s0_0 s0_1 s0_2 6 a1).bind fun bt872 => ((spec_l01Below.f s0_0 bt872.2.1 bt872.2.2 20).bind fun bt877 => (if bt877.1 = 0 then ((spec_l01Pick.f s0_0 bt877.2.1 bt877.2.2 (([(⟨#[118]⟩ : ByteArray), (⟨#[120]⟩ : ByteArray), (⟨#[]⟩ : ByteArray)] : List ByteArray))).bind fun bt883 => ((spec_l03Any.f k s0_0 bt883.2.1 bt883.2.2).bind fun bt886 => ((spec_l04Any.f k s0_0 bt886.2.2.2.2.1 bt886.2.2.2.2.2 a1).bind fun bt896 => (if bt872.1.length < 1256584717458 then (some ((bt872.1 ++ [(⟨bt883.1, (⟨(⟨bt886.1, bt886.2.1⟩ : S60), (⟨bt886.2.2.1, bt886.2.2.2.1⟩ : S60)⟩ : S62), (⟨bt896.1, bt896.2.1⟩ : S27)⟩ : S64)]), bt896.2.2.1, bt896.2.2.2)) else (none))))) else (if bt877.1 = 1 then (spec_l09Any.l0 k a1 bt872.1 s0_0 bt877.2.1 bt877.2.2) else (some (bt872.1, bt877.2.1, bt877.2.2)))))) = some (r1, r2, r3) := h
 clear h
 obtain ⟨⟨t872, t875, t876⟩, A3, H⟩ := ub H; dsimp only at H
 obtain ⟨⟨t877, t878, t879⟩, A4, H⟩ := ub H; dsimp only at H
 by_cases c5 : t877 = 0
 ·
  rw [if_pos c5] at H
  obtain ⟨c5b0, c5b1⟩ := bqt c5
  clear c5
  obtain ⟨y880, Ny880⟩ : ∃ y_ : List ByteArray, Aside0 (y_ = (([(⟨#[118]⟩ : ByteArray), (⟨#[120]⟩ : ByteArray), (⟨#[]⟩ : ByteArray)] : List ByteArray))) := ⟨_, ⟨rfl⟩⟩; rw [← Ny880.out] at H
  obtain ⟨⟨t883, t884, t885⟩, A6, H⟩ := ub H; dsimp only at H
  obtain ⟨⟨t886, t887, t890, t891, t894, t895⟩, A7, H⟩ := ub H; dsimp only at H
  obtain ⟨⟨t896, t897, t900, t901⟩, A8, H⟩ := ub H; dsimp only at H
  by_cases c9 : t872.length < 1256584717458
  ·
   rw [if_pos c9] at H
   have LMc9 := am c9
   clear c9
   obtain ⟨y902, Ny902⟩ : ∃ y_ : List (S64), Aside0 (y_ = (t872 ++ [(⟨t883, (⟨(⟨t886, t887⟩ : S60), (⟨t890, t891⟩ : S60)⟩ : S62), (⟨t896, t897⟩ : S27)⟩ : S64)])) := ⟨_, ⟨rfl⟩⟩; rw [← Ny902.out] at H
   simp only [Option.some.injEq, Prod.mk.injEq] at H
   obtain ⟨rfl, rfl, rfl⟩ := H
   go_enter Try.func64, Try.ntmps64
   go_wp2_with (first | (refine cl 79 (some 8) Try.func79 #[.pointer (some ⟨g, 0, none⟩), .int .i64 6, .int .i64 a1] ?_; (with_reducible refine (spec_l09Vars.calls k g s0_0 s0_1 s0_2 6 a1 t872 t875 t876 w0 _ ?side1 ?side2 A3.out).mono ?_); (case side1 => exact fI HI0); (case side2 => exact fB HB); rintro e w10 ⟨v873, rfl, ho0, hi, hb, hk⟩; refine ⟨_, rfl, ?_⟩; have HO874 := am (Kd.S_lower ho0 (keep_size (w := w) (g := g) (row := none) (fK HK))); replace HK := Kk HK hk; replace HB := am (hb); replace HI0 := am (hi); clear hb hk hi ho0) | (refine cl 56 (some 10) Try.func56 #[.pointer (some ⟨g, 0, none⟩), .int .i64 20] ?_; (with_reducible refine (spec_l01Below.calls g s0_0 t875 t876 20 t877 t878 t879 w0 _ ?side1 ?side2 A4.out).mono ?_); (case side1 => exact fI HI0); (case side2 => exact fB HB); rintro e w11 ⟨rfl, hi, hb, hk⟩; refine ⟨_, rfl, ?_⟩; replace HO874 := am (Kd.S_mono (Kd.S_keep (IsS90.apartS (show IsS90 w0 _ g s0_0 t875 t876 from fI HI0) (fS HO874) (by decide)) hk (fun _ h => h.2)) (fun _ h => h.1)); replace HK := Kk HK hk; replace HB := am (hb); replace HI0 := am (hi); clear hb hk hi) | ((with_reducible refine gate_dst (N := 15) rfl ?_); refine Kd.R_lit Kd.string _ 9 ?hg (N := 15) ?hd (xs := ([(⟨#[118]⟩ : ByteArray), (⟨#[120]⟩ : ByteArray), (⟨#[]⟩ : ByteArray)] : List ByteArray)) (inner := [.string (⟨#[118]⟩ : ByteArray), .string (⟨#[120]⟩ : ByteArray), .string (⟨#[]⟩ : ByteArray)]) (ok := fun _ => True) (okp := fun _ => True) ?hr ?hp (fun _ hk => hk) trivial (Below.refl _ _) (Nat.le_refl _) (by simp) ?_; (case hd => rfl); (case hg => rfl); (case hr => first | (go_simp; done) | (go_simp; rfl)); (case hp => exact (Reps.one (show Kd.M Kd.string _ _ _ (⟨#[118]⟩ : ByteArray) [.string (⟨#[118]⟩ : ByteArray)] from rfl) (Reps.one (show Kd.M Kd.string _ _ _ (⟨#[120]⟩ : ByteArray) [.string (⟨#[120]⟩ : ByteArray)] from rfl) (Reps.one (show Kd.M Kd.string _ _ _ (⟨#[]⟩ : ByteArray) [.string (⟨#[]⟩ : ByteArray)] from rfl) (Reps.none _ _))))); intro v881 w12 ho13 hb hg_ hnew_; clear hg_ hnew_; (first | rw [← Ny880.out] at ho13 | (simp only [Int.reduceToNat] at ho13; rw [← Ny880.out] at ho13)); replace HO874 := am (Kd.S_below (fS HO874) hb); have HO882 := loK ho13 HK; replace HI0 := IB HI0 hb; replace HK := KB HK hb; replace HB := sB HB hb; clear hb ho13; obtain ⟨Ao14, co14, eo14⟩ := Kd.R_slice HO882.out; subst eo14) | (refine cl 65 (some 16) Try.func65 #[.pointer (some ⟨g, 0, none⟩), .slice Ao14 y880.length co14] ?_; (with_reducible refine (spec_l01Pick.calls g s0_0 t878 t879 _ _ y880 t883 t884 t885 w0 _ ?side1 ?side2 ?side3 ?side4 ?side5 A6.out).mono ?_); (case side1 => exact fI HI0); (case side2 => exact fB HB); (case side3 => repeat (first | exact (Kd.R_reads' HO882.out).2.2 | (with_reducible refine Kd.C_alloc ?_ _) | (with_reducible refine Kd.C_drewN ?_ _) | (with_reducible refine Kd.C_drew ?_))); (case side4 => exact (Kd.R_reads' HO882.out).2.1); (case side5 => exact far_slice (IsS90.own_ne HI0.out HO882.out (by decide))); rintro e w15 ⟨rfl, hi, hb, hk⟩; refine ⟨_, rfl, ?_⟩; replace HO874 := am (Kd.S_mono (Kd.S_keep (IsS90.apartS (show IsS90 w0 _ g s0_0 t878 t879 from fI HI0) (fS HO874) (by decide)) hk (fun _ h => h.2)) (fun _ h => h.1)); replace HO882 := kR HI0 HO882 hk; replace HK := Kk HK hk; replace HB := am (hb); replace HI0 := am (hi); clear hb hk hi) | (refine cl 80 (some 18) Try.func80 #[.pointer (some ⟨g, 0, none⟩)] ?_; (with_reducible refine (spec_l03Any.calls k g s0_0 t884 t885 t886 t887 t890 t891 t894 t895 w0 _ ?side1 ?side2 A7.out).mono ?_); (case side1 => exact fI HI0); (case side2 => exact fB HB); rintro e w16 ⟨v888, v892, rfl, ho0, ho1, hi, hb, hk⟩; refine ⟨_, rfl, ?_⟩; replace HO874 := am (Kd.S_mono (Kd.S_told (Kd.S_told (Kd.S_oldK (IsS90.apartS (show IsS90 w0 _ g s0_0 t884 t885 from fI HI0) (fS HO874) (by decide)) hk) (Kd.R_base ho0)) (Kd.R_base ho1)) (fun _ h_ => h_.1)); replace HO882 := kR HI0 HO882 hk; have HO889 := loK ho0 HK; have HO893 := loK ho1 HK; replace HK := Kk HK hk; replace HB := am (hb); replace HI0 := am (hi); clear hb hk hi ho0 ho1) | (refine cl 57 (some 21) Try.func57 #[.pointer (some ⟨g, 0, none⟩), .int .i64 a1] ?_; (with_reducible refine (spec_l04Any.calls k g s0_0 t894 t895 a1 t896 t897 t900 t901 w0 _ ?side1 ?side2 A8.out).mono ?_); (case side1 => exact fI HI0); (case side2 => exact fB HB); rintro e w17 ⟨v898, rfl, ho0, hi, hb, hk⟩; refine ⟨_, rfl, ?_⟩; replace HO874 := am (Kd.S_mono (Kd.S_told (Kd.S_oldK (IsS90.apartS (show IsS90 w0 _ g s0_0 t894 t895 from fI HI0) (fS HO874) (by decide)) hk) (Kd.R_base ho0)) (fun _ h_ => h_.1)); replace HO882 := kR HI0 HO882 hk; replace HO889 := kR HI0 HO889 hk; replace HO893 := kR HI0 HO893 hk; have HO899 := loK ho0 HK; replace HK := Kk HK hk; replace HB := am (hb); replace HI0 := am (hi); clear hb hk hi ho0; obtain ⟨Ao18, co18, eo18⟩ := Kd.R_slice HO899.out; subst eo18; obtain ⟨Ao19, co19, eo19⟩ := Kd.R_slice HO893.out; subst eo19; obtain ⟨Ao20, co20, eo20⟩ := Kd.R_slice HO889.out; subst eo20) | ((with_reducible refine gate_builtin (b := .append) (xs := #[.tmp 13, .tmp 23]) rfl ?_); at_builtin; refine Kd.S_append k64 w.heap.size rfl (.tmp 13) (.tmp 23) 52 64 (.agg #[(.string ⟨#[]⟩), (.bool false), (.slice none 0 0), (.bool false), (.slice none 0 0), (.int .i64 0), (.slice none 0 0)]) 112 rfl Try.underlying52 info64 rfl (by decide) (by omega) v873 t872 (⟨t883, (⟨(⟨t886, t887⟩ : S60), (⟨t890, t891⟩ : S60)⟩ : S62), (⟨t896, t897⟩ : S27)⟩ : S64) [.string t883, .bool t886, .slice Ao20 t887.length co20, .bool t890, .slice Ao19 t891.length co19, .int .i64 t896, .slice Ao18 t897.length co18] (fun _ => True) (fun k_ => some k_ = (.slice Ao20 t887.length co20 : Value).ownBlock ∨ some k_ = (.slice Ao19 t891.length co19 : Value).ownBlock ∨ some k_ = (.slice Ao18 t897.length co18 : Value).ownBlock) rfl rfl ?aP (fun k_ hk_ => hk_.elim (fun h_ => ((Kd.R_mono (ok' := fun k_ => ((fun _ => True)) k_ ∧ some k_ ≠ (v873 : Value).ownBlock) (Kd.R_apart' (HO889.out) (Kd.S_typed HO874.out) (by decide)) (fun k_ hk => ⟨trivial, hk.2⟩))).1 k_ h_.symm) (fun h_ => h_.elim (fun h_ => ((Kd.R_mono (ok' := fun k_ => ((fun _ => True)) k_ ∧ some k_ ≠ (v873 : Value).ownBlock) (Kd.R_apart' (HO893.out) (Kd.S_typed HO874.out) (by decide)) (fun k_ hk => ⟨trivial, hk.2⟩))).1 k_ h_.symm) (fun h_ => ((Kd.R_mono (ok' := fun k_ => ((fun _ => True)) k_ ∧ some k_ ≠ (v873 : Value).ownBlock) (Kd.R_apart' (HO899.out) (Kd.S_typed HO874.out) (by decide)) (fun k_ hk => ⟨trivial, hk.2⟩))).1 k_ h_.symm))) ?aF ?aO (Below.refl _ _) ?aS ?aL ?_; (case aP => exact k64_mkM _ _ _ (⟨t883, (⟨(⟨t886, t887⟩ : S60), (⟨t890, t891⟩ : S60)⟩ : S62), (⟨t896, t897⟩ : S27)⟩ : S64) (Kd.R_mono (Kd.R_tight rfl (Kd.R_mono (ok' := fun k_ => ((fun _ => True)) k_ ∧ some k_ ≠ (v873 : Value).ownBlock) (Kd.R_apart' (HO889.out) (Kd.S_typed HO874.out) (by decide)) (fun k_ hk => ⟨trivial, hk.2⟩))) (fun _ h_ => Or.inl h_)) (Kd.R_mono (Kd.R_tight rfl (Kd.R_mono (ok' := fun k_ => ((fun _ => True)) k_ ∧ some k_ ≠ (v873 : Value).ownBlock) (Kd.R_apart' (HO893.out) (Kd.S_typed HO874.out) (by decide)) (fun k_ hk => ⟨trivial, hk.2⟩))) (fun _ h_ => Or.inr (Or.inl h_))) (Kd.R_mono (Kd.R_tight rfl (Kd.R_mono (ok' := fun k_ => ((fun _ => True)) k_ ∧ some k_ ≠ (v873 : Value).ownBlock) (Kd.R_apart' (HO899.out) (Kd.S_typed HO874.out) (by decide)) (fun k_ hk => ⟨trivial, hk.2⟩))) (fun _ h_ => Or.inr (Or.inr (h_))))); (case aF => exact (fun _ _ => trivial)); (case aO => exact (by (with_reducible repeat (first | apply Kd.S_alloc | apply Kd.S_drewN | apply Kd.S_drew)); exact Kd.S_mono HO874.out (fun k_ hk => ⟨trivial, fun e_ => e_.elim (fun h_ => hk.1.1.2 h_) (fun h_ => h_.elim (fun h_ => hk.1.2 h_) (fun h_ => hk.2 h_))⟩))); (case aS => exact (keep_size (w := w) (g := g) (row := none) (fK HK))); (case aL => have := LMc9.out; omega); intro v903 w21 ho hb hg hat; rw [← Ny902.out] at ho; replace HI0 := am (IsS90.grown (fI HI0) hg (IsS90.own_neS HI0.out HO874.out (by decide))); replace HO882 := am (Kd.R_over' (fR HO882) (Kd.S_typed (fS HO874)) (by decide) hg); replace HB := am (below_weaken (fB HB) HL.out hb); replace HK := am (KeepBut.trans (fK HK) (KeepBut.of_grown hg g) (Kd.S_base2 HO874.out)); have HO904 := am (ho); clear HO874 HO889 HO893 HO899; clear ho hb hg hat))
   go_ret
   exact ⟨_, rz, fS HO904, fI HI0, fB HB, fK HK⟩
  ·
   rw [if_neg c9] at H
   exact absurd H (by simp)
 ·
  rw [if_neg c5] at H
  obtain ⟨c5b0, c5b1⟩ := bqf c5
  by_cases c22 : t877 = 1
  ·
   rw [if_pos c22] at H
   obtain ⟨c22b0, c22b1⟩ := bqt c22
   clear c22
   have H' := am H
   clear H
   go_enter Try.func64, Try.ntmps64
   go_wp2_with (first | (refine cl 79 (some 8) Try.func79 #[.pointer (some ⟨g, 0, none⟩), .int .i64 6, .int .i64 a1] ?_; (with_reducible refine (spec_l09Vars.calls k g s0_0 s0_1 s0_2 6 a1 t872 t875 t876 w0 _ ?side1 ?side2 A3.out).mono ?_); (case side1 => exact fI HI0); (case side2 => exact fB HB); rintro e w23 ⟨v873, rfl, ho0, hi, hb, hk⟩; refine ⟨_, rfl, ?_⟩; have HO874 := am (Kd.S_lower ho0 (keep_size (w := w) (g := g) (row := none) (fK HK))); replace HK := Kk HK hk; replace HB := am (hb); replace HI0 := am (hi); clear hb hk hi ho0) | (refine cl 56 (some 10) Try.func56 #[.pointer (some ⟨g, 0, none⟩), .int .i64 20] ?_; (with_reducible refine (spec_l01Below.calls g s0_0 t875 t876 20 t877 t878 t879 w0 _ ?side1 ?side2 A4.out).mono ?_); (case side1 => exact fI HI0); (case side2 => exact fB HB); rintro e w24 ⟨rfl, hi, hb, hk⟩; refine ⟨_, rfl, ?_⟩; replace HO874 := am (Kd.S_mono (Kd.S_keep (IsS90.apartS (show IsS90 w0 _ g s0_0 t875 t876 from fI HI0) (fS HO874) (by decide)) hk (fun _ h => h.2)) (fun _ h => h.1)); replace HK := Kk HK hk; replace HB := am (hb); replace HI0 := am (hi); clear hb hk hi))
   go_loopg [5] k (fun kq v5 w' => ∃ (x5_1 : List (S64)) (x1001_1 : Int) (x1002_1 : Int), Aside0 (spec_l09Any.l0 kq a1 x5_1 s0_0 x1001_1 x1002_1 = some (r1, r2, r3)) ∧ Aside0 (kq ≤ k) ∧ Aside0 (Kd.S k64 64 w' w.heap.size (fun _ => True) v5 x5_1) ∧ Aside0 (IsS90 w0 w' g s0_0 x1001_1 x1002_1) ∧ Aside0 (KeepBut w w' g none) ∧ Aside0 (Below w0.heap.size w0 w'))
   case atStart => exact ⟨(t872), (t878), (t879), H', ⟨Nat.le_refl _⟩, ⟨fS HO874⟩, ⟨fI HI0⟩, ⟨fK HK⟩, ⟨fB HB⟩⟩
   case round =>
    clear H'
    try clear c2
    try clear p2
    try clear c5
    try clear c5b0
    try clear c5b1
    try clear c6
    try clear c7
    try clear c8
    try clear c9
    try clear c22
    try clear c22b0
    try clear c22b1
    obtain ⟨x5_1, x1001_1, x1002_1, HA, HK1, HO_5, HI0, HK, HB⟩ := hrel
    cases gk with
    | zero => exact absurd HA.out (by simp [spec_l09Any.l0])
    | succ k1 =>
     have H := HA.out
     clear HA
     simp only [spec_l09Any.l0] at H
     obtain ⟨⟨t905, t906, t907⟩, A25, H⟩ := ub H; dsimp only at H
     by_cases c26 : (x5_1.length : Int) < (wrap64 (7 + t905))
     ·
      rw [if_pos c26] at H
      have c26b0 : decide ((x5_1.length : Int) < (wrap64 (7 + t905))) = true := decide_eq_true c26
      clear c26
      obtain ⟨t908, A27, H⟩ := ub H; try dsimp only at H
      by_cases c28 : 1 + t908.size ≤ 9223372036854775807
      ·
       rw [if_pos c28] at H
       have c28b0 := eq_true c28
       have c28b1 : decide (1 + t908.size ≤ 9223372036854775807) = true := decide_eq_true c28
       try have c28b2 : (9223372036854775807 < 1 + t908.size) = False := eq_false (Nat.not_lt.2 c28)
       obtain ⟨⟨t909, t910, t913, t914⟩, A29, H⟩ := ub H; dsimp only at H
       obtain ⟨⟨t917, t918⟩, A30, H⟩ := ub H; dsimp only at H
       by_cases c31 : x5_1.length < 1256584717458
       ·
        rw [if_pos c31] at H
        have LMc31 := am c31
        clear c31
        obtain ⟨y921, Ny921⟩ : ∃ y_ : List (S64), Aside0 (y_ = (x5_1 ++ [(⟨(⟨#[120]⟩ : ByteArray) ++ t908, (⟨(⟨t909, t910⟩ : S60), (⟨t913, t914⟩ : S60)⟩ : S62), (⟨t917, t918⟩ : S27)⟩ : S64)])) := ⟨_, ⟨rfl⟩⟩; rw [← Ny921.out] at H
        have H' := am H
        clear H
        obtain ⟨Ao32, co32, eo32⟩ := Kd.S_slice HO_5.out
        subst eo32
        go_wp2_with (first | (refine cl 56 (some 30) Try.func56 #[.pointer (some ⟨g, 0, none⟩), .int .i64 3] ?_; (with_reducible refine (spec_l01Below.calls g s0_0 x1001_1 x1002_1 3 t905 t906 t907 w0 _ ?side1 ?side2 A25.out).mono ?_); (case side1 => exact fI HI0); (case side2 => exact fB HB); rintro e w33 ⟨rfl, hi, hb, hk⟩; refine ⟨_, rfl, ?_⟩; replace HO_5 := am (Kd.S_mono (Kd.S_keep (IsS90.apartS (show IsS90 w0 _ g s0_0 x1001_1 x1002_1 from fI HI0) (fS HO_5) (by decide)) hk (fun _ h => h.2)) (fun _ h => h.1)); replace HK := Kk HK hk; replace HB := am (hb); replace HI0 := am (hi); clear hb hk hi) | (refine cl 81 (some 36) Try.func81 #[.int .i64 (x5_1.length : Int)] ?_; (with_reducible refine (spec_DecText.calls k1 (x5_1.length : Int) t908 _ A27.out).mono ?_); rintro e w' ⟨rfl, ⟨nd, rfl⟩⟩; refine ⟨_, rfl, ?_⟩) | (refine cl 82 (some 38) Try.func82 #[.int .i64 1] ?_; (with_reducible refine (spec_l03Of.calls k1 1 t909 t910 t913 t914 _ A29.out).mono ?_); rintro e w34 ⟨v911, v915, rfl, ho0, ho1, hb⟩; refine ⟨_, rfl, ?_⟩; replace HO_5 := am (Kd.S_mono (Kd.S_told (Kd.S_told (Kd.S_old (fS HO_5) hb) (Kd.R_base ho0)) (Kd.R_base ho1)) (fun _ h_ => h_.1)); have HO912 := loK ho0 HK; have HO916 := loK ho1 HK; replace HI0 := IB HI0 hb; replace HK := KB HK hb; replace HB := sB HB hb; clear hb ho0 ho1) | (refine cl 83 (some 40) Try.func83 #[.int .i64 a1] ?_; (with_reducible refine (spec_Nought.calls a1 t917 t918 _ A30.out).mono ?_); rintro e w35 ⟨v919, rfl, ho0, hb⟩; refine ⟨_, rfl, ?_⟩; replace HO_5 := am (Kd.S_elder' (fS HO_5) (Kd.R_base ho0) hb); replace HO912 := RB HO912 hb; replace HO916 := RB HO916 hb; have HO920 := loK ho0 HK; replace HI0 := IB HI0 hb; replace HK := KB HK hb; replace HB := sB HB hb; clear hb ho0; obtain ⟨Ao36, co36, eo36⟩ := Kd.R_slice HO920.out; subst eo36; obtain ⟨Ao37, co37, eo37⟩ := Kd.R_slice HO916.out; subst eo37; obtain ⟨Ao38, co38, eo38⟩ := Kd.R_slice HO912.out; subst eo38) | ((with_reducible refine gate_builtin (b := .append) (xs := #[.tmp 33, .tmp 42]) rfl ?_); at_builtin; refine Kd.S_append k64 w.heap.size rfl (.tmp 33) (.tmp 42) 52 64 (.agg #[(.string ⟨#[]⟩), (.bool false), (.slice none 0 0), (.bool false), (.slice none 0 0), (.int .i64 0), (.slice none 0 0)]) 112 rfl Try.underlying52 info64 rfl (by decide) (by omega) (.slice Ao32 x5_1.length co32) x5_1 (⟨(⟨#[120]⟩ : ByteArray) ++ t908, (⟨(⟨t909, t910⟩ : S60), (⟨t913, t914⟩ : S60)⟩ : S62), (⟨t917, t918⟩ : S27)⟩ : S64) [.string ((⟨#[120]⟩ : ByteArray) ++ t908), .bool t909, .slice Ao38 t910.length co38, .bool t913, .slice Ao37 t914.length co37, .int .i64 t917, .slice Ao36 t918.length co36] (fun _ => True) (fun k_ => some k_ = (.slice Ao38 t910.length co38 : Value).ownBlock ∨ some k_ = (.slice Ao37 t914.length co37 : Value).ownBlock ∨ some k_ = (.slice Ao36 t918.length co36 : Value).ownBlock) rfl rfl ?aP (fun k_ hk_ => hk_.elim (fun h_ => ((Kd.R_mono (ok' := fun k_ => ((fun _ => True)) k_ ∧ some k_ ≠ (.slice Ao32 x5_1.length co32 : Value).ownBlock) (Kd.R_apart' (HO912.out) (Kd.S_typed HO_5.out) (by decide)) (fun k_ hk => ⟨trivial, hk.2⟩))).1 k_ h_.symm) (fun h_ => h_.elim (fun h_ => ((Kd.R_mono (ok' := fun k_ => ((fun _ => True)) k_ ∧ some k_ ≠ (.slice Ao32 x5_1.length co32 : Value).ownBlock) (Kd.R_apart' (HO916.out) (Kd.S_typed HO_5.out) (by decide)) (fun k_ hk => ⟨trivial, hk.2⟩))).1 k_ h_.symm) (fun h_ => ((Kd.R_mono (ok' := fun k_ => ((fun _ => True)) k_ ∧ some k_ ≠ (.slice Ao32 x5_1.length co32 : Value).ownBlock) (Kd.R_apart' (HO920.out) (Kd.S_typed HO_5.out) (by decide)) (fun k_ hk => ⟨trivial, hk.2⟩))).1 k_ h_.symm))) ?aF ?aO (Below.refl _ _) ?aS ?aL ?_; (case aP => exact k64_mkM _ _ _ (⟨(⟨#[120]⟩ : ByteArray) ++ t908, (⟨(⟨t909, t910⟩ : S60), (⟨t913, t914⟩ : S60)⟩ : S62), (⟨t917, t918⟩ : S27)⟩ : S64) (Kd.R_mono (Kd.R_tight rfl (Kd.R_mono (ok' := fun k_ => ((fun _ => True)) k_ ∧ some k_ ≠ (.slice Ao32 x5_1.length co32 : Value).ownBlock) (Kd.R_apart' (HO912.out) (Kd.S_typed HO_5.out) (by decide)) (fun k_ hk => ⟨trivial, hk.2⟩))) (fun _ h_ => Or.inl h_)) (Kd.R_mono (Kd.R_tight rfl (Kd.R_mono (ok' := fun k_ => ((fun _ => True)) k_ ∧ some k_ ≠ (.slice Ao32 x5_1.length co32 : Value).ownBlock) (Kd.R_apart' (HO916.out) (Kd.S_typed HO_5.out) (by decide)) (fun k_ hk => ⟨trivial, hk.2⟩))) (fun _ h_ => Or.inr (Or.inl h_))) (Kd.R_mono (Kd.R_tight rfl (Kd.R_mono (ok' := fun k_ => ((fun _ => True)) k_ ∧ some k_ ≠ (.slice Ao32 x5_1.length co32 : Value).ownBlock) (Kd.R_apart' (HO920.out) (Kd.S_typed HO_5.out) (by decide)) (fun k_ hk => ⟨trivial, hk.2⟩))) (fun _ h_ => Or.inr (Or.inr (h_))))); (case aF => exact (fun _ _ => trivial)); (case aO => exact (by (with_reducible repeat (first | apply Kd.S_alloc | apply Kd.S_drewN | apply Kd.S_drew)); exact Kd.S_mono HO_5.out (fun k_ hk => ⟨trivial, fun e_ => e_.elim (fun h_ => hk.1.1.2 h_) (fun h_ => h_.elim (fun h_ => hk.1.2 h_) (fun h_ => hk.2 h_))⟩))); (case aS => exact (keep_size (w := w) (g := g) (row := none) (fK HK))); (case aL => have := LMc31.out; omega); intro v922 w39 ho hb hg hat; rw [← Ny921.out] at ho; replace HI0 := am (IsS90.grown (fI HI0) hg (IsS90.own_neS HI0.out HO_5.out (by decide))); replace HB := am (below_weaken (fB HB) HL.out hb); replace HK := am (KeepBut.trans (fK HK) (KeepBut.of_grown hg g) (Kd.S_base2 HO_5.out)); have HO923 := am (ho); clear HO_5 HO912 HO916 HO920; clear ho hb hg hat))
        go_roundg k1
        case measure => have := HK1.out; omega
        case rel => exact ⟨(y921), (t906), (t907), H', ⟨by have := HK1.out; omega⟩, ⟨fS HO923⟩, ⟨fI HI0⟩, ⟨fK HK⟩, ⟨fB HB⟩⟩
       ·
        rw [if_neg c31] at H
        exact absurd H (by simp)
      ·
       rw [if_neg c28] at H
       exact absurd H (by simp)
     ·
      rw [if_neg c26] at H
      have c26b0 : decide ((x5_1.length : Int) < (wrap64 (7 + t905))) = false := decide_eq_false c26
      clear c26
      simp only [Option.some.injEq, Prod.mk.injEq] at H
      obtain ⟨rfl, rfl, rfl⟩ := H
      obtain ⟨Ao40, co40, eo40⟩ := Kd.S_slice HO_5.out
      subst eo40
      go_wp2_with (first | (refine cl 56 (some 30) Try.func56 #[.pointer (some ⟨g, 0, none⟩), .int .i64 3] ?_; (with_reducible refine (spec_l01Below.calls g s0_0 x1001_1 x1002_1 3 t905 t906 t907 w0 _ ?side1 ?side2 A25.out).mono ?_); (case side1 => exact fI HI0); (case side2 => exact fB HB); rintro e w41 ⟨rfl, hi, hb, hk⟩; refine ⟨_, rfl, ?_⟩; replace HO_5 := am (Kd.S_mono (Kd.S_keep (IsS90.apartS (show IsS90 w0 _ g s0_0 x1001_1 x1002_1 from fI HI0) (fS HO_5) (by decide)) hk (fun _ h => h.2)) (fun _ h => h.1)); replace HK := Kk HK hk; replace HB := am (hb); replace HI0 := am (hi); clear hb hk hi))
      go_ret
      exact ⟨_, rz, fS HO_5, fI HI0, fB HB, fK HK⟩
  ·
   rw [if_neg c22] at H
   obtain ⟨c22b0, c22b1⟩ := bqf c22
   simp only [Option.some.injEq, Prod.mk.injEq] at H
   obtain ⟨rfl, rfl, rfl⟩ := H
   go_enter Try.func64, Try.ntmps64
   go_wp2_with (first | (refine cl 79 (some 8) Try.func79 #[.pointer (some ⟨g, 0, none⟩), .int .i64 6, .int .i64 a1] ?_; (with_reducible refine (spec_l09Vars.calls k g s0_0 s0_1 s0_2 6 a1 t872 t875 t876 w0 _ ?side1 ?side2 A3.out).mono ?_); (case side1 => exact fI HI0); (case side2 => exact fB HB); rintro e w42 ⟨v873, rfl, ho0, hi, hb, hk⟩; refine ⟨_, rfl, ?_⟩; have HO874 := am (Kd.S_lower ho0 (keep_size (w := w) (g := g) (row := none) (fK HK))); replace HK := Kk HK hk; replace HB := am (hb); replace HI0 := am (hi); clear hb hk hi ho0) | (refine cl 56 (some 10) Try.func56 #[.pointer (some ⟨g, 0, none⟩), .int .i64 20] ?_; (with_reducible refine (spec_l01Below.calls g s0_0 t875 t876 20 t877 t878 t879 w0 _ ?side1 ?side2 A4.out).mono ?_); (case side1 => exact fI HI0); (case side2 => exact fB HB); rintro e w43 ⟨rfl, hi, hb, hk⟩; refine ⟨_, rfl, ?_⟩; replace HO874 := am (Kd.S_mono (Kd.S_keep (IsS90.apartS (show IsS90 w0 _ g s0_0 t875 t876 from fI HI0) (fS HO874) (by decide)) hk (fun _ h => h.2)) (fun _ h => h.1)); replace HK := Kk HK hk; replace HB := am (hb); replace HI0 := am (hi); clear hb hk hi))
   go_ret
   exact ⟨_, rz, fS HO874, fI HI0, fB HB, fK HK⟩

/-! ### spec_DrawVarAt: function 40 -/
set_option maxHeartbeats 8000000 in
set_option maxRecDepth 100000 in
theorem spec_DrawVarAt.calls (k : Nat) (A0 : Option Addr) (c0 : Nat) (l0 : List Int) (r1 : List (S64)) (r2 : ByteArray) (w : World) (hr0 : Kd.C (Kd.int .u8) w A0 l0.length l0) (hc0 : l0.length ≤ c0) (h : spec_DrawVarAt.f k l0 = some (r1, r2)) :
  Calls Try.prog 40 #[.slice A0 l0.length c0] w fun e w' => ∃ v0_ : Value, e = .returned (.tuple #[v0_, .string r2]) ∧ Kd.S k64 64 w' w.heap.size (fun _ => True) v0_ r1 ∧ Below w.heap.size w w' := by
 have HR0 := am hr0
 have HC0 := am hc0
 clear hr0 hc0
 have HB := am (Below.refl w.heap.size w)
 have H : ((spec_l01New.f k l0).bind fun bt924 => ((spec_l09Any.f k bt924.1 bt924.2.1 bt924.2.2 2).bind fun bt928 => ((spec_l01Pick.f bt924.1 bt928.2.1 bt928.2.2 (([(⟨#[118]⟩ : ByteArray), (⟨#[103]⟩ : ByteArray), (⟨#[104]⟩ : ByteArray), (⟨#[114, 104, 111]⟩ : ByteArray), (⟨#[120]⟩ : ByteArray), (⟨#[]⟩ : ByteArray)] : List ByteArray))).bind fun bt936 => (some (bt928.1, bt936.1))))) = some (r1, r2) := h
 clear h
 obtain ⟨⟨t924, t925, t926⟩, A2, H⟩ := ub H; dsimp only at H
 obtain ⟨⟨t928, t931, t932⟩, A3, H⟩ := ub H; dsimp only at H
 obtain ⟨y933, Ny933⟩ : ∃ y_ : List ByteArray, Aside0 (y_ = (([(⟨#[118]⟩ : ByteArray), (⟨#[103]⟩ : ByteArray), (⟨#[104]⟩ : ByteArray), (⟨#[114, 104, 111]⟩ : ByteArray), (⟨#[120]⟩ : ByteArray), (⟨#[]⟩ : ByteArray)] : List ByteArray))) := ⟨_, ⟨rfl⟩⟩; rw [← Ny933.out] at H
 obtain ⟨⟨t936, t937, t938⟩, A4, H⟩ := ub H; dsimp only at H
 simp only [Option.some.injEq, Prod.mk.injEq] at H
 obtain ⟨rfl, rfl⟩ := H
 go_enter Try.func40, Try.ntmps40
 go_wp2_with (first | (refine cl 55 (some 7) Try.func55 #[.slice A0 l0.length c0] ?_; (with_reducible refine (spec_l01New.calls k _ _ l0 t924 t925 t926 w _ ?side1 ?side2 ?side3 A2.out).mono ?_); (case side1 => exact fB HB); (case side2 => exact HR0.out); (case side3 => exact HC0.out); rintro e w5 ⟨g927, rfl, hi, hb, hb2⟩; refine ⟨_, rfl, ?_⟩; replace HB := am (hb); have HI927 := am (hi); clear hb hb2 hi) | (refine cl 64 (some 9) Try.func64 #[.pointer (some ⟨g927, 0, none⟩), .int .i64 2] ?_; (with_reducible refine (spec_l09Any.calls k g927 t924 t925 t926 2 t928 t931 t932 w _ ?side1 ?side2 A3.out).mono ?_); (case side1 => exact fI HI927); (case side2 => exact fB HB); rintro e w6 ⟨v929, rfl, ho0, hi, hb, hk⟩; refine ⟨_, rfl, ?_⟩; have HO930 := am (Kd.S_lower ho0 (below_size (fB HB))); replace HB := am (hb); replace HI927 := am (hi); clear hb hk hi ho0) | ((with_reducible refine gate_dst (N := 12) rfl ?_); refine Kd.R_lit Kd.string _ 9 ?hg (N := 12) ?hd (xs := ([(⟨#[118]⟩ : ByteArray), (⟨#[103]⟩ : ByteArray), (⟨#[104]⟩ : ByteArray), (⟨#[114, 104, 111]⟩ : ByteArray), (⟨#[120]⟩ : ByteArray), (⟨#[]⟩ : ByteArray)] : List ByteArray)) (inner := [.string (⟨#[118]⟩ : ByteArray), .string (⟨#[103]⟩ : ByteArray), .string (⟨#[104]⟩ : ByteArray), .string (⟨#[114, 104, 111]⟩ : ByteArray), .string (⟨#[120]⟩ : ByteArray), .string (⟨#[]⟩ : ByteArray)]) (ok := fun _ => True) (okp := fun _ => True) ?hr ?hp (fun _ hk => hk) trivial (Below.refl _ _) (Nat.le_refl _) (by simp) ?_; (case hd => rfl); (case hg => rfl); (case hr => first | (go_simp; done) | (go_simp; rfl)); (case hp => exact (Reps.one (show Kd.M Kd.string _ _ _ (⟨#[118]⟩ : ByteArray) [.string (⟨#[118]⟩ : ByteArray)] from rfl) (Reps.one (show Kd.M Kd.string _ _ _ (⟨#[103]⟩ : ByteArray) [.string (⟨#[103]⟩ : ByteArray)] from rfl) (Reps.one (show Kd.M Kd.string _ _ _ (⟨#[104]⟩ : ByteArray) [.string (⟨#[104]⟩ : ByteArray)] from rfl) (Reps.one (show Kd.M Kd.string _ _ _ (⟨#[114, 104, 111]⟩ : ByteArray) [.string (⟨#[114, 104, 111]⟩ : ByteArray)] from rfl) (Reps.one (show Kd.M Kd.string _ _ _ (⟨#[120]⟩ : ByteArray) [.string (⟨#[120]⟩ : ByteArray)] from rfl) (Reps.one (show Kd.M Kd.string _ _ _ (⟨#[]⟩ : ByteArray) [.string (⟨#[]⟩ : ByteArray)] from rfl) (Reps.none _ _)))))))); intro v934 w7 ho8 hb hg_ hnew_; clear hg_ hnew_; (first | rw [← Ny933.out] at ho8 | (simp only [Int.reduceToNat] at ho8; rw [← Ny933.out] at ho8)); replace HO930 := am (Kd.S_below (fS HO930) hb); have HO935 := loB ho8 HB; replace HI927 := IB HI927 hb; replace HB := sB HB hb; clear hb ho8; obtain ⟨Ao9, co9, eo9⟩ := Kd.R_slice HO935.out; subst eo9) | (refine cl 65 (some 13) Try.func65 #[.pointer (some ⟨g927, 0, none⟩), .slice Ao9 y933.length co9] ?_; (with_reducible refine (spec_l01Pick.calls g927 t924 t931 t932 _ _ y933 t936 t937 t938 w _ ?side1 ?side2 ?side3 ?side4 ?side5 A4.out).mono ?_); (case side1 => exact fI HI927); (case side2 => exact fB HB); (case side3 => repeat (first | exact (Kd.R_reads' HO935.out).2.2 | (with_reducible refine Kd.C_alloc ?_ _) | (with_reducible refine Kd.C_drewN ?_ _) | (with_reducible refine Kd.C_drew ?_))); (case side4 => exact (Kd.R_reads' HO935.out).2.1); (case side5 => exact far_slice (IsS90.own_ne HI927.out HO935.out (by decide))); rintro e w10 ⟨rfl, hi, hb, hk⟩; refine ⟨_, rfl, ?_⟩; replace HO930 := am (Kd.S_mono (Kd.S_keep (IsS90.apartS (show IsS90 w _ g927 t924 t931 t932 from fI HI927) (fS HO930) (by decide)) hk (fun _ h => h.2)) (fun _ h => h.1)); replace HO935 := am (Kd.R_mono (Kd.R_keep (IsS90.apart (show IsS90 w _ g927 t924 t931 t932 from fI HI927) (fR HO935) (by decide)) hk (fun _ h => h.2)) (fun _ h => h.1)); replace HB := am (hb); replace HI927 := am (hi); clear hb hk hi))
 go_ret2
 exact ⟨_, rz, fS HO930, fB HB⟩

/-! ### laws_FnVars: function 11 -/
set_option maxHeartbeats 8000000 in
set_option maxRecDepth 100000 in
theorem laws_FnVars.calls (k : Nat) (A0 : Option Addr) (c0 : Nat) (l0 : List Int) (r : Bool) (w : World) (hr0 : Kd.C (Kd.int .u8) w A0 l0.length l0) (hc0 : l0.length ≤ c0) (h : laws_FnVars.f k l0 = some r) :
  Calls Try.prog 11 #[.slice A0 l0.length c0] w fun e w' => e = .returned (.bool r) ∧ Below w.heap.size w w' := by
 have HR0 := am hr0
 have HC0 := am hc0
 clear hr0 hc0
 have HB := am (Below.refl w.heap.size w)
 have H : ((laws_big.f l0).bind fun t939 => (if t939 = true then (some true) else ((spec_DrawVarAt.f k l0).bind fun bt940 => ((impl_VarAt.f k bt940.1 bt940.2).bind fun t944 => (if t944 < 0 then ((impl_VarAt.f k bt940.1 bt940.2).bind fun t945 => (if t945 = (-1) then (laws_FnVars.j0 k bt940.1 bt940.2 (bt940.1.length : Int)) else (some false))) else (if t944 ≥ (bt940.1.length : Int) then (some false) else (if 0 ≤ t944 then (if t944 < (bt940.1.length : Int) then (if ((rd_T64 bt940.1 t944).f0).toList = bt940.2.toList then (laws_FnVars.j0 k bt940.1 bt940.2 t944) else (some false)) else (none)) else (none)))))))) = some r := h
 clear h
 obtain ⟨t939, A2, H⟩ := ub H; try dsimp only at H
 by_cases c3 : t939 = true
 ·
  subst c3
  have H1 : (some true) = some r := by rw [if_pos rfl] at H; exact H
  clear H
  have H := H1
  clear H1
  obtain rfl := Option.some.inj H
  go_enter Try.func11, Try.ntmps11
  go_wp2_with (first | (refine cl 30 (some 8) Try.func30 #[.slice A0 l0.length c0] ?_; (with_reducible refine (laws_big.calls _ _ l0 true _ ?side1 ?side2 A2.out).mono ?_); (case side1 => repeat (first | exact HR0.out | (with_reducible refine Kd.C_alloc ?_ _) | (with_reducible refine Kd.C_drewN ?_ _) | (with_reducible refine Kd.C_drew ?_))); (case side2 => exact HC0.out); rintro e w' ⟨rfl, ⟨nd, rfl⟩⟩; refine ⟨_, rfl, ?_⟩))
  go_ret
  exact ⟨rz, fB HB⟩
 ·
  replace c3 := Bool.eq_false_iff.mpr c3
  subst c3
  have H1 : ((spec_DrawVarAt.f k l0).bind fun bt940 => ((impl_VarAt.f k bt940.1 bt940.2).bind fun t944 => (if t944 < 0 then ((impl_VarAt.f k bt940.1 bt940.2).bind fun t945 => (if t945 = (-1) then (laws_FnVars.j0 k bt940.1 bt940.2 (bt940.1.length : Int)) else (some false))) else (if t944 ≥ (bt940.1.length : Int) then (some false) else (if 0 ≤ t944 then (if t944 < (bt940.1.length : Int) then (if ((rd_T64 bt940.1 t944).f0).toList = bt940.2.toList then (laws_FnVars.j0 k bt940.1 bt940.2 t944) else (some false)) else (none)) else (none)))))) = some r := by rw [if_neg (show ¬ (false = true) by decide)] at H; exact H
  clear H
  have H := H1
  clear H1
  obtain ⟨⟨t940, t941⟩, A4, H⟩ := ub H; dsimp only at H
  obtain ⟨t944, A5, H⟩ := ub H; try dsimp only at H
  have HC6 := am H
  clear H
  go_enter Try.func11, Try.ntmps11
  go_upto_if 18 with (first | (refine cl 30 (some 8) Try.func30 #[.slice A0 l0.length c0] ?_; (with_reducible refine (laws_big.calls _ _ l0 false _ ?side1 ?side2 A2.out).mono ?_); (case side1 => repeat (first | exact HR0.out | (with_reducible refine Kd.C_alloc ?_ _) | (with_reducible refine Kd.C_drewN ?_ _) | (with_reducible refine Kd.C_drew ?_))); (case side2 => exact HC0.out); rintro e w' ⟨rfl, ⟨nd, rfl⟩⟩; refine ⟨_, rfl, ?_⟩) | (refine cl 40 (some 11) Try.func40 #[.slice A0 l0.length c0] ?_; (with_reducible refine (spec_DrawVarAt.calls k _ _ l0 t940 t941 _ ?side1 ?side2 A4.out).mono ?_); (case side1 => repeat (first | exact HR0.out | (with_reducible refine Kd.C_alloc ?_ _) | (with_reducible refine Kd.C_drewN ?_ _) | (with_reducible refine Kd.C_drew ?_))); (case side2 => exact HC0.out); rintro e w7 ⟨v942, rfl, ho0, hb⟩; refine ⟨_, rfl, ?_⟩; have HO943 := am (Kd.S_lower ho0 (below_size (fB HB))); replace HB := sB HB hb; clear hb ho0; obtain ⟨Ao8, co8, eo8⟩ := Kd.S_slice HO943.out; subst eo8) | (refine cl 38 (some 16) Try.func38 #[.slice Ao8 t940.length co8, .string t941] ?_; (with_reducible refine (impl_VarAt.calls k _ _ t940 t941 t944 _ ?side1 ?side2 A5.out).mono ?_); (case side1 => repeat (first | exact (Kd.S_reads' HO943.out).2.2 | (with_reducible refine Kd.C_alloc ?_ _) | (with_reducible refine Kd.C_drewN ?_ _) | (with_reducible refine Kd.C_drew ?_))); (case side2 => exact (Kd.S_reads' HO943.out).2.1); rintro e w9 ⟨rfl, hb⟩; refine ⟨_, rfl, ?_⟩; replace HO943 := am (Kd.S_below (fS HO943) hb); replace HB := sB HB hb; clear hb))
  (try simp only [Act.put, List.setIfInBounds_toArray, List.set_cons_zero, List.set_cons_succ])
  go_cut [5] (fun v5 wc => ∃ (kq : Nat) (x5_5 : Int), v5 = .int .i64 x5_5 ∧ Aside0 (laws_FnVars.j0 kq t940 t941 x5_5 = some r) ∧ Aside0 (kq ≤ k) ∧ Aside0 (Kd.S k64 64 wc w.heap.size (fun _ => True) (.slice Ao8 t940.length co8) t940) ∧ Aside0 (Below w.heap.size w wc))
  case first =>
   have H := HC6.out
   clear HC6
   by_cases c10 : t944 < 0
   ·
    rw [if_pos c10] at H
    have c10b0 : decide (t944 < 0) = true := decide_eq_true c10
    clear c10
    (first | rw [c10b0] | (simp only [i64_w, i32_w]; rw [c10b0]) | skip)
    obtain ⟨t945, A11, H⟩ := ub H; try dsimp only at H
    by_cases c12 : t945 = (-1)
    ·
     rw [if_pos c12] at H
     obtain ⟨c12b0, c12b1⟩ := bqt c12
     clear c12
     have H' := am H
     clear H
     go_wp2_with (first | (refine cl 38 (some 23) Try.func38 #[.slice Ao8 t940.length co8, .string t941] ?_; (with_reducible refine (impl_VarAt.calls k _ _ t940 t941 t945 _ ?side1 ?side2 A11.out).mono ?_); (case side1 => repeat (first | exact (Kd.S_reads' HO943.out).2.2 | (with_reducible refine Kd.C_alloc ?_ _) | (with_reducible refine Kd.C_drewN ?_ _) | (with_reducible refine Kd.C_drew ?_))); (case side2 => exact (Kd.S_reads' HO943.out).2.1); rintro e w13 ⟨rfl, hb⟩; refine ⟨_, rfl, ?_⟩; replace HO943 := am (Kd.S_below (fS HO943) hb); replace HB := sB HB hb; clear hb))
     go_meet
     case rel => exact ⟨_, ((t940.length : Int)), (rs), H', ⟨by first | omega | exact Nat.le_refl _⟩, ⟨fS HO943⟩, ⟨fB HB⟩⟩
    ·
     rw [if_neg c12] at H
     obtain ⟨c12b0, c12b1⟩ := bqf c12
     obtain rfl := Option.some.inj H
     go_wp2_with (first | (refine cl 38 (some 23) Try.func38 #[.slice Ao8 t940.length co8, .string t941] ?_; (with_reducible refine (impl_VarAt.calls k _ _ t940 t941 t945 _ ?side1 ?side2 A11.out).mono ?_); (case side1 => repeat (first | exact (Kd.S_reads' HO943.out).2.2 | (with_reducible refine Kd.C_alloc ?_ _) | (with_reducible refine Kd.C_drewN ?_ _) | (with_reducible refine Kd.C_drew ?_))); (case side2 => exact (Kd.S_reads' HO943.out).2.1); rintro e w14 ⟨rfl, hb⟩; refine ⟨_, rfl, ?_⟩; replace HO943 := am (Kd.S_below (fS HO943) hb); replace HB := sB HB hb; clear hb))
     go_ret
     exact ⟨rz, fB HB⟩
   ·
    rw [if_neg c10] at H
    have c10b0 : decide (t944 < 0) = false := decide_eq_false c10
    clear c10
    (first | rw [c10b0] | (simp only [i64_w, i32_w]; rw [c10b0]) | skip)
    by_cases c15 : t944 ≥ (t940.length : Int)
    ·
     rw [if_pos c15] at H
     have c15b0 : decide ((t940.length : Int) ≤ t944) = true := decide_eq_true c15
     clear c15
     obtain rfl := Option.some.inj H
     go_wp2
     go_ret
     exact ⟨rz, fB HB⟩
    ·
     rw [if_neg c15] at H
     have c15b0 : decide ((t940.length : Int) ≤ t944) = false := decide_eq_false c15
     clear c15
     by_cases c16 : 0 ≤ t944
     ·
      rw [if_pos c16] at H
      have c16b0 : decide (0 ≤ t944) = true := decide_eq_true c16
      clear c16
      by_cases c17 : t944 < (t940.length : Int)
      ·
       rw [if_pos c17] at H
       have c17b0 : decide (t944 < (t940.length : Int)) = true := decide_eq_true c17
       clear c17
       by_cases c18 : ((rd_T64 t940 t944).f0).toList = t941.toList
       ·
        rw [if_pos c18] at H
        obtain ⟨c18b0, c18b1⟩ := bqt c18
        clear c18
        have H' := am H
        clear H
        have p946 : 0 ≤ (t944 : Int) := of_decide_eq_true (ha)
        have q946 : t944 < (t940.length : Int) := of_decide_eq_true (ha)
        obtain ⟨ad946, A946_2, c946_2, A946_4, c946_4, A946_6, c946_6, e946, hx946_0, hx946_1, hx946_2, hx946_3, hx946_4, hx946_5, hx946_6, hl946_2, hi946_2, hl946_4, hi946_4, hl946_6, hi946_6⟩ := at_T64 (Kd.S_reads' HO943.out).2.2 t944 p946 q946
        cases e946
        obtain ⟨ce946, hce946, hMe946, hcc946⟩ := Kd.S_get HO943.out z64 t944 p946 (by first | exact q946 | exact of_decide_eq_true (ha) | (have e_ := (Kd.S_reads' HO943.out).1; omega))
        obtain ⟨ve946_2, ve946_4, ve946_6, rfl, ge946_2, ge946_4, ge946_6⟩ := k64_openM hMe946
        have hv946_2 := hcc946 2 _ rfl
        rw [add_field _ _ 2 (by omega)] at hv946_2
        replace hv946_2 := Option.some.inj (hv946_2.symm.trans hx946_2)
        rw [hv946_2] at ge946_2
        have HL946_2 := am (show Kd.R (Kd.int .u32) 119 _ _ _ _ ((rd_T64 t940 t944).f1.f0.f1) from ge946_2)
        clear hv946_2 ge946_2
        have hv946_4 := hcc946 4 _ rfl
        rw [add_field _ _ 4 (by omega)] at hv946_4
        replace hv946_4 := Option.some.inj (hv946_4.symm.trans hx946_4)
        rw [hv946_4] at ge946_4
        have HL946_4 := am (show Kd.R (Kd.int .u32) 119 _ _ _ _ ((rd_T64 t940 t944).f1.f1.f1) from ge946_4)
        clear hv946_4 ge946_4
        have hv946_6 := hcc946 6 _ rfl
        rw [add_field _ _ 6 (by omega)] at hv946_6
        replace hv946_6 := Option.some.inj (hv946_6.symm.trans hx946_6)
        rw [hv946_6] at ge946_6
        have HL946_6 := am (show Kd.R (Kd.int .i64) 3 _ _ _ _ ((rd_T64 t940 t944).f2.f1) from ge946_6)
        clear hv946_6 ge946_6
        clear hcc946 hce946
        have HR946_2 := am hi946_2
        have HC946_2 := am hl946_2
        clear hi946_2 hl946_2
        have HR946_4 := am hi946_4
        have HC946_4 := am hl946_4
        clear hi946_4 hl946_4
        have HR946_6 := am hi946_6
        have HC946_6 := am hl946_6
        clear hi946_6 hl946_6
        replace p946 := eq_true p946
        replace q946 := eq_true q946
        go_wp2
        go_meet
        case rel => exact ⟨_, (t944), (rs), H', ⟨by first | omega | exact Nat.le_refl _⟩, ⟨fS HO943⟩, ⟨fB HB⟩⟩
       ·
        rw [if_neg c18] at H
        obtain ⟨c18b0, c18b1⟩ := bqf c18
        obtain rfl := Option.some.inj H
        have p946 : 0 ≤ (t944 : Int) := of_decide_eq_true (ha)
        have q946 : t944 < (t940.length : Int) := of_decide_eq_true (ha)
        obtain ⟨ad946, A946_2, c946_2, A946_4, c946_4, A946_6, c946_6, e946, hx946_0, hx946_1, hx946_2, hx946_3, hx946_4, hx946_5, hx946_6, hl946_2, hi946_2, hl946_4, hi946_4, hl946_6, hi946_6⟩ := at_T64 (Kd.S_reads' HO943.out).2.2 t944 p946 q946
        cases e946
        obtain ⟨ce946, hce946, hMe946, hcc946⟩ := Kd.S_get HO943.out z64 t944 p946 (by first | exact q946 | exact of_decide_eq_true (ha) | (have e_ := (Kd.S_reads' HO943.out).1; omega))
        obtain ⟨ve946_2, ve946_4, ve946_6, rfl, ge946_2, ge946_4, ge946_6⟩ := k64_openM hMe946
        have hv946_2 := hcc946 2 _ rfl
        rw [add_field _ _ 2 (by omega)] at hv946_2
        replace hv946_2 := Option.some.inj (hv946_2.symm.trans hx946_2)
        rw [hv946_2] at ge946_2
        have HL946_2 := am (show Kd.R (Kd.int .u32) 119 _ _ _ _ ((rd_T64 t940 t944).f1.f0.f1) from ge946_2)
        clear hv946_2 ge946_2
        have hv946_4 := hcc946 4 _ rfl
        rw [add_field _ _ 4 (by omega)] at hv946_4
        replace hv946_4 := Option.some.inj (hv946_4.symm.trans hx946_4)
        rw [hv946_4] at ge946_4
        have HL946_4 := am (show Kd.R (Kd.int .u32) 119 _ _ _ _ ((rd_T64 t940 t944).f1.f1.f1) from ge946_4)
        clear hv946_4 ge946_4
        have hv946_6 := hcc946 6 _ rfl
        rw [add_field _ _ 6 (by omega)] at hv946_6
        replace hv946_6 := Option.some.inj (hv946_6.symm.trans hx946_6)
        rw [hv946_6] at ge946_6
        have HL946_6 := am (show Kd.R (Kd.int .i64) 3 _ _ _ _ ((rd_T64 t940 t944).f2.f1) from ge946_6)
        clear hv946_6 ge946_6
        clear hcc946 hce946
        have HR946_2 := am hi946_2
        have HC946_2 := am hl946_2
        clear hi946_2 hl946_2
        have HR946_4 := am hi946_4
        have HC946_4 := am hl946_4
        clear hi946_4 hl946_4
        have HR946_6 := am hi946_6
        have HC946_6 := am hl946_6
        clear hi946_6 hl946_6
        replace p946 := eq_true p946
        replace q946 := eq_true q946
        go_wp2
        go_ret
        exact ⟨rz, fB HB⟩
      ·
       rw [if_neg c17] at H
       exact absurd H (by simp)
     ·
      rw [if_neg c16] at H
      exact absurd H (by simp)
  case rest =>
   clear HC6
   try clear c1
   try clear p2
   try clear c3
   try clear c4
   try clear c9
   try clear p9
   try clear q9
   try clear hx9
   try clear c10
   try clear c10b0
   try clear c11
   try clear c12
   try clear c12b0
   try clear c12b1
   try clear c15
   try clear c15b0
   try clear c16
   try clear c16b0
   try clear c17
   try clear c17b0
   try clear c18
   try clear c18b0
   try clear c18b1
   try clear hx946_0
   try clear hx946_1
   try clear hx946_2
   try clear hx946_3
   try clear hx946_4
   try clear hx946_5
   try clear hx946_6
   try clear p946
   try clear q946
   obtain ⟨kq, x5_5, rfl, HA, HJ5, HO_3, HB⟩ := hcut
   cases kq with
   | zero => exact absurd HA.out (by simp [laws_FnVars.j0])
   | succ kj5 =>
    have H := HA.out
    clear HA
    simp only [laws_FnVars.j0] at H
    have H' := am H
    clear H
    go_wp2
    go_loopg [6] kj5 (fun kq v6 w' => ∃ (x6_2 : Int), v6 = .int .i64 x6_2 ∧ Aside0 (laws_FnVars.l0 kq t940 t941 x5_5 x6_2 = some r) ∧ Aside0 (kq ≤ kj5) ∧ Aside0 (Kd.S k64 64 w' w.heap.size (fun _ => True) (.slice Ao8 t940.length co8) t940) ∧ Aside0 (Below w.heap.size w w'))
    case atStart => exact ⟨(0), (rs), H', ⟨Nat.le_refl _⟩, ⟨fS HO_3⟩, ⟨fB HB⟩⟩
    case round =>
     clear H'
     try clear c1
     try clear p2
     try clear c3
     try clear c4
     try clear c9
     try clear p9
     try clear q9
     try clear hx9
     try clear c10
     try clear c10b0
     try clear c11
     try clear c12
     try clear c12b0
     try clear c12b1
     try clear c15
     try clear c15b0
     try clear c16
     try clear c16b0
     try clear c17
     try clear c17b0
     try clear c18
     try clear c18b0
     try clear c18b1
     try clear hx946_0
     try clear hx946_1
     try clear hx946_2
     try clear hx946_3
     try clear hx946_4
     try clear hx946_5
     try clear hx946_6
     try clear p2
     try clear p9
     try clear p946
     try clear q9
     try clear q946
     obtain ⟨x6_2, rfl, HA, HK2, HO_3, HB⟩ := hrel
     cases gk with
     | zero => exact absurd HA.out (by simp [laws_FnVars.l0])
     | succ k2 =>
      have H := HA.out
      clear HA
      simp only [laws_FnVars.l0] at H
      by_cases c19 : x6_2 < x5_5
      ·
       rw [if_pos c19] at H
       have c19b0 : decide (x6_2 < x5_5) = true := decide_eq_true c19
       clear c19
       by_cases c20 : 0 ≤ x6_2
       ·
        rw [if_pos c20] at H
        have c20b0 : decide (0 ≤ x6_2) = true := decide_eq_true c20
        clear c20
        by_cases c21 : x6_2 < (t940.length : Int)
        ·
         rw [if_pos c21] at H
         have c21b0 : decide (x6_2 < (t940.length : Int)) = true := decide_eq_true c21
         clear c21
         by_cases c22 : ((rd_T64 t940 x6_2).f0).toList = t941.toList
         ·
          rw [if_pos c22] at H
          obtain ⟨c22b0, c22b1⟩ := bqt c22
          clear c22
          obtain rfl := Option.some.inj H
          have p947 : 0 ≤ (x6_2 : Int) := of_decide_eq_true (ha)
          have q947 : x6_2 < (t940.length : Int) := of_decide_eq_true (ha)
          obtain ⟨ad947, A947_2, c947_2, A947_4, c947_4, A947_6, c947_6, e947, hx947_0, hx947_1, hx947_2, hx947_3, hx947_4, hx947_5, hx947_6, hl947_2, hi947_2, hl947_4, hi947_4, hl947_6, hi947_6⟩ := at_T64 (Kd.S_reads' HO_3.out).2.2 x6_2 p947 q947
          cases e947
          obtain ⟨ce947, hce947, hMe947, hcc947⟩ := Kd.S_get HO_3.out z64 x6_2 p947 (by first | exact q947 | exact of_decide_eq_true (ha) | (have e_ := (Kd.S_reads' HO_3.out).1; omega))
          obtain ⟨ve947_2, ve947_4, ve947_6, rfl, ge947_2, ge947_4, ge947_6⟩ := k64_openM hMe947
          have hv947_2 := hcc947 2 _ rfl
          rw [add_field _ _ 2 (by omega)] at hv947_2
          replace hv947_2 := Option.some.inj (hv947_2.symm.trans hx947_2)
          rw [hv947_2] at ge947_2
          have HL947_2 := am (show Kd.R (Kd.int .u32) 119 _ _ _ _ ((rd_T64 t940 x6_2).f1.f0.f1) from ge947_2)
          clear hv947_2 ge947_2
          have hv947_4 := hcc947 4 _ rfl
          rw [add_field _ _ 4 (by omega)] at hv947_4
          replace hv947_4 := Option.some.inj (hv947_4.symm.trans hx947_4)
          rw [hv947_4] at ge947_4
          have HL947_4 := am (show Kd.R (Kd.int .u32) 119 _ _ _ _ ((rd_T64 t940 x6_2).f1.f1.f1) from ge947_4)
          clear hv947_4 ge947_4
          have hv947_6 := hcc947 6 _ rfl
          rw [add_field _ _ 6 (by omega)] at hv947_6
          replace hv947_6 := Option.some.inj (hv947_6.symm.trans hx947_6)
          rw [hv947_6] at ge947_6
          have HL947_6 := am (show Kd.R (Kd.int .i64) 3 _ _ _ _ ((rd_T64 t940 x6_2).f2.f1) from ge947_6)
          clear hv947_6 ge947_6
          clear hcc947 hce947
          have HR947_2 := am hi947_2
          have HC947_2 := am hl947_2
          clear hi947_2 hl947_2
          have HR947_4 := am hi947_4
          have HC947_4 := am hl947_4
          clear hi947_4 hl947_4
          have HR947_6 := am hi947_6
          have HC947_6 := am hl947_6
          clear hi947_6 hl947_6
          replace p947 := eq_true p947
          replace q947 := eq_true q947
          go_wp2
          go_ret
          exact ⟨rz, fB HB⟩
         ·
          rw [if_neg c22] at H
          obtain ⟨c22b0, c22b1⟩ := bqf c22
          have H' := am H
          clear H
          have p947 : 0 ≤ (x6_2 : Int) := of_decide_eq_true (ha)
          have q947 : x6_2 < (t940.length : Int) := of_decide_eq_true (ha)
          obtain ⟨ad947, A947_2, c947_2, A947_4, c947_4, A947_6, c947_6, e947, hx947_0, hx947_1, hx947_2, hx947_3, hx947_4, hx947_5, hx947_6, hl947_2, hi947_2, hl947_4, hi947_4, hl947_6, hi947_6⟩ := at_T64 (Kd.S_reads' HO_3.out).2.2 x6_2 p947 q947
          cases e947
          obtain ⟨ce947, hce947, hMe947, hcc947⟩ := Kd.S_get HO_3.out z64 x6_2 p947 (by first | exact q947 | exact of_decide_eq_true (ha) | (have e_ := (Kd.S_reads' HO_3.out).1; omega))
          obtain ⟨ve947_2, ve947_4, ve947_6, rfl, ge947_2, ge947_4, ge947_6⟩ := k64_openM hMe947
          have hv947_2 := hcc947 2 _ rfl
          rw [add_field _ _ 2 (by omega)] at hv947_2
          replace hv947_2 := Option.some.inj (hv947_2.symm.trans hx947_2)
          rw [hv947_2] at ge947_2
          have HL947_2 := am (show Kd.R (Kd.int .u32) 119 _ _ _ _ ((rd_T64 t940 x6_2).f1.f0.f1) from ge947_2)
          clear hv947_2 ge947_2
          have hv947_4 := hcc947 4 _ rfl
          rw [add_field _ _ 4 (by omega)] at hv947_4
          replace hv947_4 := Option.some.inj (hv947_4.symm.trans hx947_4)
          rw [hv947_4] at ge947_4
          have HL947_4 := am (show Kd.R (Kd.int .u32) 119 _ _ _ _ ((rd_T64 t940 x6_2).f1.f1.f1) from ge947_4)
          clear hv947_4 ge947_4
          have hv947_6 := hcc947 6 _ rfl
          rw [add_field _ _ 6 (by omega)] at hv947_6
          replace hv947_6 := Option.some.inj (hv947_6.symm.trans hx947_6)
          rw [hv947_6] at ge947_6
          have HL947_6 := am (show Kd.R (Kd.int .i64) 3 _ _ _ _ ((rd_T64 t940 x6_2).f2.f1) from ge947_6)
          clear hv947_6 ge947_6
          clear hcc947 hce947
          have HR947_2 := am hi947_2
          have HC947_2 := am hl947_2
          clear hi947_2 hl947_2
          have HR947_4 := am hi947_4
          have HC947_4 := am hl947_4
          clear hi947_4 hl947_4
          have HR947_6 := am hi947_6
          have HC947_6 := am hl947_6
          clear hi947_6 hl947_6
          replace p947 := eq_true p947
          replace q947 := eq_true q947
          go_wp2
          go_roundg k2
          case measure => have := HJ5.out; have := HK2.out; omega
          case rel => exact ⟨(wrap64 (x6_2 + 1)), (rs), H', ⟨by have := HJ5.out; have := HK2.out; omega⟩, ⟨fS HO_3⟩, ⟨fB HB⟩⟩
        ·
         rw [if_neg c21] at H
         exact absurd H (by simp)
       ·
        rw [if_neg c20] at H
        exact absurd H (by simp)
      ·
       rw [if_neg c19] at H
       have c19b0 : decide (x6_2 < x5_5) = false := decide_eq_false c19
       clear c19
       obtain rfl := Option.some.inj H
       go_wp2
       go_ret
       exact ⟨rz, fB HB⟩

/-- THE ONE PURE STATEMENT of laws_FnVars: yours. -/
theorem laws_FnVars.walk (P : laws_FnVars.Pure) (a0 : Option Addr) (len0 cap0 : Nat) (z0 : List Int) (w : World) (w0 : (a0 = none ∧ len0 = 0 ∧ cap0 = 0 ∧ z0 = []) ∨ ∃ x, a0 = some x ∧ len0 ≤ cap0 ∧ cap0 ≤ maxLen ∧ z0.length = cap0 ∧ (∀ i, i < z0.length → w.cell? (x.add i) = some (.int .u8 (z0.getD i 0))) ∧ ∀ n ∈ z0, (Lit.int .u8 n).wf = true) (y0 : len0 * 1 ≤ 140737488351232) :
  Calls Try.prog 11 #[.slice a0 len0 cap0] w fun e w' => e = .returned (.bool true) ∧ Below w.heap.size w w' := by
 obtain ⟨l0, rfl, hr0, hm0, hw0, hc0⟩ := ReadsInt.ofRowC w0
 obtain ⟨k, h⟩ := P l0 hm0 y0 hw0
 refine (laws_FnVars.calls k _ _ l0 true w (Kd.C_of_reads (d := (0 : Int)) (h1 := fun _ => rfl) hr0) hc0 h).mono ?_
 rintro e w' ⟨rfl, hd⟩
 exact ⟨rfl, hd⟩
end Go.Proofs.Ytjdndacollpjkaa.MFnVars
