/- A float that is drawn. -/
import Derived.Test.YtebkbodkkehmfaaFlI
namespace Go.Proofs.Ytebkbodkkehmfaa.Fl
open Go.RowKit Go.Proofs.YtebkbodkkehmfaaW.PrintWords Go.Proofs.YtebkbodkkehmfaaW.PrintLast Go.Proofs.YtebkbodkkehmfaaW.PrintMore Go.Proofs.Ytebkbodkkehmfaa.PFnNext Go.Proofs.Ytebkbodkkehmfaa.F64
set_option linter.unusedVariables false
set_option linter.unusedSimpArgs false

set_option maxHeartbeats 16000000 in
theorem any_calls (g : Nat) (s0 : List Int) (s1 s2 : Int) (w0 w : World) (hI : IsS55 w0 w g s0 s1 s2) (hB : Below w0.heap.size w0 w) (hn : s0.length ≤ 9223372036854775806) (hp : 0 ≤ s1) :
    Calls Try.prog 36 #[.pointer (some ⟨g, 0, none⟩)] w fun e w' => ∃ x : Nat, e = .returned (.float .f64 x) ∧ x < 2 * S ∧ Below w0.heap.size w0 w' := by
  obtain ⟨r, p1, h1, e1, r0, r1, _, hp1⟩ := below_some s0 s1 s2 12 hp hn
  have r1 := r1 (by omega)
  have HI := Aside0.mk hI
  have HB := Aside0.mk hB
  have E1 := Aside0.mk e1
  clear hI hB e1
  have hr : r = 0 ∨ r = 1 ∨ r = 2 ∨ r = 3 ∨ r = 4 ∨ r = 5 ∨ r = 6 ∨ r = 7 ∨ (r ≠ 0 ∧ r ≠ 1 ∧ r ≠ 2 ∧ r ≠ 3 ∧ r ≠ 4 ∧ r ≠ 5 ∧ r ≠ 6 ∧ r ≠ 7) := by omega
  rcases hr with rfl | rfl | rfl | rfl | rfl | rfl | rfl | rfl | hr
  ·
    obtain ⟨o, q, j, eo, _⟩ := once_some s0 hn p1 h1 2 hp1
    have EO := Aside0.mk eo
    clear eo
    have HX := Aside0.mk (show 0 < 2 * S from by decide)
    have HXN := Aside0.mk (negF 0 HX.out).2.2
    have NL := neg_law 0
    clear r0 r1
    cases o
    · go_enter Try.func36, Try.ntmps36
      go_wp2_with (first | ((with_reducible refine gate_callee (f := 39) rfl ?_); refine goesL_ (some 6) rfl rfl Try.func39 (by kernel_rfl) rfl #[.pointer (some ⟨g, 0, none⟩), .int .i64 12] rfl (by (try simp only [List.map_toArray, List.map_cons, List.map_nil]); first | done | rfl) ?_; (with_reducible refine (spec_l01Below.calls g s0 s1 s2 12 _ p1 h1 w0 _ HI.out HB.out E1.out).mono ?_); rintro e w' ⟨rfl, hi_, hb_, hk_⟩; refine ⟨_, rfl, ?_⟩; have HI1 := Aside0.mk hi_; have HB1 := Aside0.mk hb_; clear hi_ hb_ hk_) | ((with_reducible refine gate_callee (f := 41) rfl ?_); refine goesL_ (some 60) rfl rfl Try.func41 (by kernel_rfl) rfl #[.pointer (some ⟨g, 0, none⟩), .int .i64 2] rfl (by (try simp only [List.map_toArray, List.map_cons, List.map_nil]); first | done | rfl) ?_; (with_reducible refine (spec_l01Once.calls g s0 p1 h1 2 _ _ _ w0 _ HI1.out HB1.out EO.out).mono ?_); rintro e w' ⟨rfl, hi_, hb_, hk_⟩; refine ⟨_, rfl, ?_⟩; have HZ := Aside0.mk hb_; clear hi_ hb_ hk_) | simp only [NL])
      go_ret
      exact ⟨_, rfl, HX.out, by repeat (first | exact HZ.out | apply pw_below_drewN)⟩
    · go_enter Try.func36, Try.ntmps36
      go_wp2_with (first | ((with_reducible refine gate_callee (f := 39) rfl ?_); refine goesL_ (some 6) rfl rfl Try.func39 (by kernel_rfl) rfl #[.pointer (some ⟨g, 0, none⟩), .int .i64 12] rfl (by (try simp only [List.map_toArray, List.map_cons, List.map_nil]); first | done | rfl) ?_; (with_reducible refine (spec_l01Below.calls g s0 s1 s2 12 _ p1 h1 w0 _ HI.out HB.out E1.out).mono ?_); rintro e w' ⟨rfl, hi_, hb_, hk_⟩; refine ⟨_, rfl, ?_⟩; have HI1 := Aside0.mk hi_; have HB1 := Aside0.mk hb_; clear hi_ hb_ hk_) | ((with_reducible refine gate_callee (f := 41) rfl ?_); refine goesL_ (some 60) rfl rfl Try.func41 (by kernel_rfl) rfl #[.pointer (some ⟨g, 0, none⟩), .int .i64 2] rfl (by (try simp only [List.map_toArray, List.map_cons, List.map_nil]); first | done | rfl) ?_; (with_reducible refine (spec_l01Once.calls g s0 p1 h1 2 _ _ _ w0 _ HI1.out HB1.out EO.out).mono ?_); rintro e w' ⟨rfl, hi_, hb_, hk_⟩; refine ⟨_, rfl, ?_⟩; have HZ := Aside0.mk hb_; clear hi_ hb_ hk_) | simp only [NL])
      go_ret
      exact ⟨_, rfl, HXN.out, by repeat (first | exact HZ.out | apply pw_below_drewN)⟩

  ·
    obtain ⟨o, q, j, eo, _⟩ := once_some s0 hn p1 h1 2 hp1
    have EO := Aside0.mk eo
    clear eo
    have HX := Aside0.mk (show I < 2 * S from by decide)
    have HXN := Aside0.mk (negF I HX.out).2.2
    have NL := neg_law I
    have q := quo_law 4607182418800017408 0 I (by decide)
    generalize I = x at *
    clear r0 r1
    cases o
    · go_enter Try.func36, Try.ntmps36
      go_wp2_with (first | ((with_reducible refine gate_callee (f := 39) rfl ?_); refine goesL_ (some 6) rfl rfl Try.func39 (by kernel_rfl) rfl #[.pointer (some ⟨g, 0, none⟩), .int .i64 12] rfl (by (try simp only [List.map_toArray, List.map_cons, List.map_nil]); first | done | rfl) ?_; (with_reducible refine (spec_l01Below.calls g s0 s1 s2 12 _ p1 h1 w0 _ HI.out HB.out E1.out).mono ?_); rintro e w' ⟨rfl, hi_, hb_, hk_⟩; refine ⟨_, rfl, ?_⟩; have HI1 := Aside0.mk hi_; have HB1 := Aside0.mk hb_; clear hi_ hb_ hk_) | ((with_reducible refine gate_callee (f := 41) rfl ?_); refine goesL_ (some 60) rfl rfl Try.func41 (by kernel_rfl) rfl #[.pointer (some ⟨g, 0, none⟩), .int .i64 2] rfl (by (try simp only [List.map_toArray, List.map_cons, List.map_nil]); first | done | rfl) ?_; (with_reducible refine (spec_l01Once.calls g s0 p1 h1 2 _ _ _ w0 _ HI1.out HB1.out EO.out).mono ?_); rintro e w' ⟨rfl, hi_, hb_, hk_⟩; refine ⟨_, rfl, ?_⟩; have HZ := Aside0.mk hb_; clear hi_ hb_ hk_) | simp only [q, NL])
      go_ret
      exact ⟨_, rfl, HX.out, by repeat (first | exact HZ.out | apply pw_below_drewN)⟩
    · go_enter Try.func36, Try.ntmps36
      go_wp2_with (first | ((with_reducible refine gate_callee (f := 39) rfl ?_); refine goesL_ (some 6) rfl rfl Try.func39 (by kernel_rfl) rfl #[.pointer (some ⟨g, 0, none⟩), .int .i64 12] rfl (by (try simp only [List.map_toArray, List.map_cons, List.map_nil]); first | done | rfl) ?_; (with_reducible refine (spec_l01Below.calls g s0 s1 s2 12 _ p1 h1 w0 _ HI.out HB.out E1.out).mono ?_); rintro e w' ⟨rfl, hi_, hb_, hk_⟩; refine ⟨_, rfl, ?_⟩; have HI1 := Aside0.mk hi_; have HB1 := Aside0.mk hb_; clear hi_ hb_ hk_) | ((with_reducible refine gate_callee (f := 41) rfl ?_); refine goesL_ (some 60) rfl rfl Try.func41 (by kernel_rfl) rfl #[.pointer (some ⟨g, 0, none⟩), .int .i64 2] rfl (by (try simp only [List.map_toArray, List.map_cons, List.map_nil]); first | done | rfl) ?_; (with_reducible refine (spec_l01Once.calls g s0 p1 h1 2 _ _ _ w0 _ HI1.out HB1.out EO.out).mono ?_); rintro e w' ⟨rfl, hi_, hb_, hk_⟩; refine ⟨_, rfl, ?_⟩; have HZ := Aside0.mk hb_; clear hi_ hb_ hk_) | simp only [q, NL])
      go_ret
      exact ⟨_, rfl, HXN.out, by repeat (first | exact HZ.out | apply pw_below_drewN)⟩

  · have q := quo_none 0 0 (by decide)
    have hx := fun w => nanW_lt 0 0 w
    have HX := Aside0.mk hx
    clear r0 r1 hx
    go_enter Try.func36, Try.ntmps36
    go_wp2_with (first | ((with_reducible refine gate_callee (f := 39) rfl ?_); refine goesL_ (some 6) rfl rfl Try.func39 (by kernel_rfl) rfl #[.pointer (some ⟨g, 0, none⟩), .int .i64 12] rfl (by (try simp only [List.map_toArray, List.map_cons, List.map_nil]); first | done | rfl) ?_; (with_reducible refine (spec_l01Below.calls g s0 s1 s2 12 _ p1 h1 w0 _ HI.out HB.out E1.out).mono ?_); rintro e w' ⟨rfl, hi_, hb_, hk_⟩; refine ⟨_, rfl, ?_⟩; have HI1 := Aside0.mk hi_; have HB1 := Aside0.mk hb_; clear hi_ hb_ hk_) | simp only [q])
    go_ret
    exact ⟨_, rfl, HX.out _, below_drew1 HB1.out⟩
  · obtain ⟨m, p2, h2, e2, hm, hp2⟩ := pickInt_some s0 p1 h1 ([1, 2, 4503599627370495, 4503599627370496, 4503599627370497] : List Int) hp1 hn (by decide)
    have hm2 : 0 ≤ m ∧ m ≤ 4503599627370497 := by
      simp only [List.mem_cons, List.not_mem_nil, or_false] at hm; omega
    obtain ⟨y, hy⟩ : ∃ y : List Int, y = [1, 2, 4503599627370495, 4503599627370496, 4503599627370497] := ⟨_, rfl⟩
    rw [← hy] at e2 hm
    have NY := Aside0.mk hy
    clear hy
    obtain ⟨m, rfl⟩ := Int.eq_ofNat_of_zero_le hm2.1
    obtain ⟨x, hx, HF⟩ := float_ex m (-1074) (by unfold F64.B; omega) (by omega) (by omega)
    have E2 := Aside0.mk e2
    obtain ⟨o, q, j, eo, _⟩ := once_some s0 hn p2 h2 2 hp2
    have EO := Aside0.mk eo
    clear eo
    have HX := Aside0.mk (show x < 2 * S from hx)
    have HXN := Aside0.mk (negF x HX.out).2.2
    have NL := neg_law x
    generalize (m : Int) = z at *
    clear r0 r1 hm hm2 e2 hx
    cases o
    · go_enter Try.func36, Try.ntmps36
      go_wp2_with (first | ((with_reducible refine gate_callee (f := 39) rfl ?_); refine goesL_ (some 6) rfl rfl Try.func39 (by kernel_rfl) rfl #[.pointer (some ⟨g, 0, none⟩), .int .i64 12] rfl (by (try simp only [List.map_toArray, List.map_cons, List.map_nil]); first | done | rfl) ?_; (with_reducible refine (spec_l01Below.calls g s0 s1 s2 12 _ p1 h1 w0 _ HI.out HB.out E1.out).mono ?_); rintro e w' ⟨rfl, hi_, hb_, hk_⟩; refine ⟨_, rfl, ?_⟩; have HI1 := Aside0.mk hi_; have HB1 := Aside0.mk hb_; clear hi_ hb_ hk_) | ((with_reducible refine gate_dst (N := 25) rfl ?_); refine Kd.R_lit (Kd.int .i64) _ 3 ?hg (N := 25) ?hd (xs := ([1, 2, 4503599627370495, 4503599627370496, 4503599627370497] : List Int)) (inner := [.int .i64 1, .int .i64 2, .int .i64 4503599627370495, .int .i64 4503599627370496, .int .i64 4503599627370497]) (ok := fun _ => True) (okp := fun _ => True) ?hr ?hp (fun _ hk => hk) trivial (Below.refl _ _) (Nat.le_refl _) (by simp) ?_; (case hd => rfl); (case hg => rfl); (case hr => first | (go_simp; done) | (go_simp; rfl)); (case hp => exact (Reps.one (show Kd.M (Kd.int .i64) _ _ _ 1 [.int .i64 1] from rfl) (Reps.one (show Kd.M (Kd.int .i64) _ _ _ 2 [.int .i64 2] from rfl) (Reps.one (show Kd.M (Kd.int .i64) _ _ _ 4503599627370495 [.int .i64 4503599627370495] from rfl) (Reps.one (show Kd.M (Kd.int .i64) _ _ _ 4503599627370496 [.int .i64 4503599627370496] from rfl) (Reps.one (show Kd.M (Kd.int .i64) _ _ _ 4503599627370497 [.int .i64 4503599627370497] from rfl) (Reps.none _ _))))))); intro v_ w_ ho hb hg_ hnew_; clear hg_ hnew_; rw [← NY.out] at ho; have LI := Aside0.mk (IsS55.below HI1.out hb); have LB := Aside0.mk (below_step HB1.out hb); obtain ⟨LA, Lc, e_⟩ := Kd.R_slice ho; subst e_; have LC := Aside0.mk (Kd.R_reads' ho).2.2; have Lc2 := Aside0.mk (Kd.R_reads' ho).2.1; have LF := Aside0.mk (far_slice (IsS55.own_ne LI.out ho (by decide))); clear ho hb) | ((with_reducible refine gate_callee (f := 40) rfl ?_); refine goesL_ (some 26) rfl rfl Try.func40 (by kernel_rfl) rfl #[.pointer (some ⟨g, 0, none⟩), .slice LA y.length Lc] rfl (by (try simp only [List.map_toArray, List.map_cons, List.map_nil]); first | done | rfl) ?_; (with_reducible refine (spec_l01PickInt.calls g s0 p1 h1 _ _ y z p2 h2 w0 _ LI.out LB.out LC.out Lc2.out LF.out E2.out).mono ?_); rintro e w' ⟨rfl, hi_, hb_, hk_⟩; refine ⟨_, rfl, ?_⟩; have HI2 := Aside0.mk hi_; have HB2 := Aside0.mk hb_; clear hi_ hb_ hk_) | ((with_reducible refine gate_callee (f := 31) rfl ?_); refine goesL_ (some 27) rfl rfl Try.func31 (by kernel_rfl) rfl #[.int .i64 z, .int .i64 (-1074)] rfl (by (try simp only [List.map_toArray, List.map_cons, List.map_nil]); first | done | rfl) ?_; (with_reducible refine (HF _).mono ?_); rintro e w' ⟨rfl, rfl⟩; refine ⟨_, rfl, ?_⟩) | ((with_reducible refine gate_callee (f := 41) rfl ?_); refine goesL_ (some 60) rfl rfl Try.func41 (by kernel_rfl) rfl #[.pointer (some ⟨g, 0, none⟩), .int .i64 2] rfl (by (try simp only [List.map_toArray, List.map_cons, List.map_nil]); first | done | rfl) ?_; (with_reducible refine (spec_l01Once.calls g s0 p2 h2 2 _ _ _ w0 _ HI2.out HB2.out EO.out).mono ?_); rintro e w' ⟨rfl, hi_, hb_, hk_⟩; refine ⟨_, rfl, ?_⟩; have HZ := Aside0.mk hb_; clear hi_ hb_ hk_) | simp only [NL])
      go_ret
      exact ⟨_, rfl, HX.out, by repeat (first | exact HZ.out | apply pw_below_drewN)⟩
    · go_enter Try.func36, Try.ntmps36
      go_wp2_with (first | ((with_reducible refine gate_callee (f := 39) rfl ?_); refine goesL_ (some 6) rfl rfl Try.func39 (by kernel_rfl) rfl #[.pointer (some ⟨g, 0, none⟩), .int .i64 12] rfl (by (try simp only [List.map_toArray, List.map_cons, List.map_nil]); first | done | rfl) ?_; (with_reducible refine (spec_l01Below.calls g s0 s1 s2 12 _ p1 h1 w0 _ HI.out HB.out E1.out).mono ?_); rintro e w' ⟨rfl, hi_, hb_, hk_⟩; refine ⟨_, rfl, ?_⟩; have HI1 := Aside0.mk hi_; have HB1 := Aside0.mk hb_; clear hi_ hb_ hk_) | ((with_reducible refine gate_dst (N := 25) rfl ?_); refine Kd.R_lit (Kd.int .i64) _ 3 ?hg (N := 25) ?hd (xs := ([1, 2, 4503599627370495, 4503599627370496, 4503599627370497] : List Int)) (inner := [.int .i64 1, .int .i64 2, .int .i64 4503599627370495, .int .i64 4503599627370496, .int .i64 4503599627370497]) (ok := fun _ => True) (okp := fun _ => True) ?hr ?hp (fun _ hk => hk) trivial (Below.refl _ _) (Nat.le_refl _) (by simp) ?_; (case hd => rfl); (case hg => rfl); (case hr => first | (go_simp; done) | (go_simp; rfl)); (case hp => exact (Reps.one (show Kd.M (Kd.int .i64) _ _ _ 1 [.int .i64 1] from rfl) (Reps.one (show Kd.M (Kd.int .i64) _ _ _ 2 [.int .i64 2] from rfl) (Reps.one (show Kd.M (Kd.int .i64) _ _ _ 4503599627370495 [.int .i64 4503599627370495] from rfl) (Reps.one (show Kd.M (Kd.int .i64) _ _ _ 4503599627370496 [.int .i64 4503599627370496] from rfl) (Reps.one (show Kd.M (Kd.int .i64) _ _ _ 4503599627370497 [.int .i64 4503599627370497] from rfl) (Reps.none _ _))))))); intro v_ w_ ho hb hg_ hnew_; clear hg_ hnew_; rw [← NY.out] at ho; have LI := Aside0.mk (IsS55.below HI1.out hb); have LB := Aside0.mk (below_step HB1.out hb); obtain ⟨LA, Lc, e_⟩ := Kd.R_slice ho; subst e_; have LC := Aside0.mk (Kd.R_reads' ho).2.2; have Lc2 := Aside0.mk (Kd.R_reads' ho).2.1; have LF := Aside0.mk (far_slice (IsS55.own_ne LI.out ho (by decide))); clear ho hb) | ((with_reducible refine gate_callee (f := 40) rfl ?_); refine goesL_ (some 26) rfl rfl Try.func40 (by kernel_rfl) rfl #[.pointer (some ⟨g, 0, none⟩), .slice LA y.length Lc] rfl (by (try simp only [List.map_toArray, List.map_cons, List.map_nil]); first | done | rfl) ?_; (with_reducible refine (spec_l01PickInt.calls g s0 p1 h1 _ _ y z p2 h2 w0 _ LI.out LB.out LC.out Lc2.out LF.out E2.out).mono ?_); rintro e w' ⟨rfl, hi_, hb_, hk_⟩; refine ⟨_, rfl, ?_⟩; have HI2 := Aside0.mk hi_; have HB2 := Aside0.mk hb_; clear hi_ hb_ hk_) | ((with_reducible refine gate_callee (f := 31) rfl ?_); refine goesL_ (some 27) rfl rfl Try.func31 (by kernel_rfl) rfl #[.int .i64 z, .int .i64 (-1074)] rfl (by (try simp only [List.map_toArray, List.map_cons, List.map_nil]); first | done | rfl) ?_; (with_reducible refine (HF _).mono ?_); rintro e w' ⟨rfl, rfl⟩; refine ⟨_, rfl, ?_⟩) | ((with_reducible refine gate_callee (f := 41) rfl ?_); refine goesL_ (some 60) rfl rfl Try.func41 (by kernel_rfl) rfl #[.pointer (some ⟨g, 0, none⟩), .int .i64 2] rfl (by (try simp only [List.map_toArray, List.map_cons, List.map_nil]); first | done | rfl) ?_; (with_reducible refine (spec_l01Once.calls g s0 p2 h2 2 _ _ _ w0 _ HI2.out HB2.out EO.out).mono ?_); rintro e w' ⟨rfl, hi_, hb_, hk_⟩; refine ⟨_, rfl, ?_⟩; have HZ := Aside0.mk hb_; clear hi_ hb_ hk_) | simp only [NL])
      go_ret
      exact ⟨_, rfl, HXN.out, by repeat (first | exact HZ.out | apply pw_below_drewN)⟩

  · obtain ⟨m, p2, h2, e2, hm, hp2⟩ := pickInt_some s0 p1 h1 ([9007199254740991, 4503599627370496, 9007199254740990] : List Int) hp1 hn (by decide)
    have hm2 : 0 ≤ m ∧ m ≤ 9007199254740991 := by
      simp only [List.mem_cons, List.not_mem_nil, or_false] at hm; omega
    obtain ⟨y, hy⟩ : ∃ y : List Int, y = [9007199254740991, 4503599627370496, 9007199254740990] := ⟨_, rfl⟩
    rw [← hy] at e2 hm
    have NY := Aside0.mk hy
    clear hy
    obtain ⟨m, rfl⟩ := Int.eq_ofNat_of_zero_le hm2.1
    obtain ⟨x, hx, HF⟩ := float_ex m 971 (by unfold F64.B; omega) (by omega) (by omega)
    have E2 := Aside0.mk e2
    obtain ⟨o, q, j, eo, _⟩ := once_some s0 hn p2 h2 2 hp2
    have EO := Aside0.mk eo
    clear eo
    have HX := Aside0.mk (show x < 2 * S from hx)
    have HXN := Aside0.mk (negF x HX.out).2.2
    have NL := neg_law x
    generalize (m : Int) = z at *
    clear r0 r1 hm hm2 e2 hx
    cases o
    · go_enter Try.func36, Try.ntmps36
      go_wp2_with (first | ((with_reducible refine gate_callee (f := 39) rfl ?_); refine goesL_ (some 6) rfl rfl Try.func39 (by kernel_rfl) rfl #[.pointer (some ⟨g, 0, none⟩), .int .i64 12] rfl (by (try simp only [List.map_toArray, List.map_cons, List.map_nil]); first | done | rfl) ?_; (with_reducible refine (spec_l01Below.calls g s0 s1 s2 12 _ p1 h1 w0 _ HI.out HB.out E1.out).mono ?_); rintro e w' ⟨rfl, hi_, hb_, hk_⟩; refine ⟨_, rfl, ?_⟩; have HI1 := Aside0.mk hi_; have HB1 := Aside0.mk hb_; clear hi_ hb_ hk_) | ((with_reducible refine gate_dst (N := 31) rfl ?_); refine Kd.R_lit (Kd.int .i64) _ 3 ?hg (N := 31) ?hd (xs := ([9007199254740991, 4503599627370496, 9007199254740990] : List Int)) (inner := [.int .i64 9007199254740991, .int .i64 4503599627370496, .int .i64 9007199254740990]) (ok := fun _ => True) (okp := fun _ => True) ?hr ?hp (fun _ hk => hk) trivial (Below.refl _ _) (Nat.le_refl _) (by simp) ?_; (case hd => rfl); (case hg => rfl); (case hr => first | (go_simp; done) | (go_simp; rfl)); (case hp => exact (Reps.one (show Kd.M (Kd.int .i64) _ _ _ 9007199254740991 [.int .i64 9007199254740991] from rfl) (Reps.one (show Kd.M (Kd.int .i64) _ _ _ 4503599627370496 [.int .i64 4503599627370496] from rfl) (Reps.one (show Kd.M (Kd.int .i64) _ _ _ 9007199254740990 [.int .i64 9007199254740990] from rfl) (Reps.none _ _))))); intro v_ w_ ho hb hg_ hnew_; clear hg_ hnew_; rw [← NY.out] at ho; have LI := Aside0.mk (IsS55.below HI1.out hb); have LB := Aside0.mk (below_step HB1.out hb); obtain ⟨LA, Lc, e_⟩ := Kd.R_slice ho; subst e_; have LC := Aside0.mk (Kd.R_reads' ho).2.2; have Lc2 := Aside0.mk (Kd.R_reads' ho).2.1; have LF := Aside0.mk (far_slice (IsS55.own_ne LI.out ho (by decide))); clear ho hb) | ((with_reducible refine gate_callee (f := 40) rfl ?_); refine goesL_ (some 32) rfl rfl Try.func40 (by kernel_rfl) rfl #[.pointer (some ⟨g, 0, none⟩), .slice LA y.length Lc] rfl (by (try simp only [List.map_toArray, List.map_cons, List.map_nil]); first | done | rfl) ?_; (with_reducible refine (spec_l01PickInt.calls g s0 p1 h1 _ _ y z p2 h2 w0 _ LI.out LB.out LC.out Lc2.out LF.out E2.out).mono ?_); rintro e w' ⟨rfl, hi_, hb_, hk_⟩; refine ⟨_, rfl, ?_⟩; have HI2 := Aside0.mk hi_; have HB2 := Aside0.mk hb_; clear hi_ hb_ hk_) | ((with_reducible refine gate_callee (f := 31) rfl ?_); refine goesL_ (some 33) rfl rfl Try.func31 (by kernel_rfl) rfl #[.int .i64 z, .int .i64 971] rfl (by (try simp only [List.map_toArray, List.map_cons, List.map_nil]); first | done | rfl) ?_; (with_reducible refine (HF _).mono ?_); rintro e w' ⟨rfl, rfl⟩; refine ⟨_, rfl, ?_⟩) | ((with_reducible refine gate_callee (f := 41) rfl ?_); refine goesL_ (some 60) rfl rfl Try.func41 (by kernel_rfl) rfl #[.pointer (some ⟨g, 0, none⟩), .int .i64 2] rfl (by (try simp only [List.map_toArray, List.map_cons, List.map_nil]); first | done | rfl) ?_; (with_reducible refine (spec_l01Once.calls g s0 p2 h2 2 _ _ _ w0 _ HI2.out HB2.out EO.out).mono ?_); rintro e w' ⟨rfl, hi_, hb_, hk_⟩; refine ⟨_, rfl, ?_⟩; have HZ := Aside0.mk hb_; clear hi_ hb_ hk_) | simp only [NL])
      go_ret
      exact ⟨_, rfl, HX.out, by repeat (first | exact HZ.out | apply pw_below_drewN)⟩
    · go_enter Try.func36, Try.ntmps36
      go_wp2_with (first | ((with_reducible refine gate_callee (f := 39) rfl ?_); refine goesL_ (some 6) rfl rfl Try.func39 (by kernel_rfl) rfl #[.pointer (some ⟨g, 0, none⟩), .int .i64 12] rfl (by (try simp only [List.map_toArray, List.map_cons, List.map_nil]); first | done | rfl) ?_; (with_reducible refine (spec_l01Below.calls g s0 s1 s2 12 _ p1 h1 w0 _ HI.out HB.out E1.out).mono ?_); rintro e w' ⟨rfl, hi_, hb_, hk_⟩; refine ⟨_, rfl, ?_⟩; have HI1 := Aside0.mk hi_; have HB1 := Aside0.mk hb_; clear hi_ hb_ hk_) | ((with_reducible refine gate_dst (N := 31) rfl ?_); refine Kd.R_lit (Kd.int .i64) _ 3 ?hg (N := 31) ?hd (xs := ([9007199254740991, 4503599627370496, 9007199254740990] : List Int)) (inner := [.int .i64 9007199254740991, .int .i64 4503599627370496, .int .i64 9007199254740990]) (ok := fun _ => True) (okp := fun _ => True) ?hr ?hp (fun _ hk => hk) trivial (Below.refl _ _) (Nat.le_refl _) (by simp) ?_; (case hd => rfl); (case hg => rfl); (case hr => first | (go_simp; done) | (go_simp; rfl)); (case hp => exact (Reps.one (show Kd.M (Kd.int .i64) _ _ _ 9007199254740991 [.int .i64 9007199254740991] from rfl) (Reps.one (show Kd.M (Kd.int .i64) _ _ _ 4503599627370496 [.int .i64 4503599627370496] from rfl) (Reps.one (show Kd.M (Kd.int .i64) _ _ _ 9007199254740990 [.int .i64 9007199254740990] from rfl) (Reps.none _ _))))); intro v_ w_ ho hb hg_ hnew_; clear hg_ hnew_; rw [← NY.out] at ho; have LI := Aside0.mk (IsS55.below HI1.out hb); have LB := Aside0.mk (below_step HB1.out hb); obtain ⟨LA, Lc, e_⟩ := Kd.R_slice ho; subst e_; have LC := Aside0.mk (Kd.R_reads' ho).2.2; have Lc2 := Aside0.mk (Kd.R_reads' ho).2.1; have LF := Aside0.mk (far_slice (IsS55.own_ne LI.out ho (by decide))); clear ho hb) | ((with_reducible refine gate_callee (f := 40) rfl ?_); refine goesL_ (some 32) rfl rfl Try.func40 (by kernel_rfl) rfl #[.pointer (some ⟨g, 0, none⟩), .slice LA y.length Lc] rfl (by (try simp only [List.map_toArray, List.map_cons, List.map_nil]); first | done | rfl) ?_; (with_reducible refine (spec_l01PickInt.calls g s0 p1 h1 _ _ y z p2 h2 w0 _ LI.out LB.out LC.out Lc2.out LF.out E2.out).mono ?_); rintro e w' ⟨rfl, hi_, hb_, hk_⟩; refine ⟨_, rfl, ?_⟩; have HI2 := Aside0.mk hi_; have HB2 := Aside0.mk hb_; clear hi_ hb_ hk_) | ((with_reducible refine gate_callee (f := 31) rfl ?_); refine goesL_ (some 33) rfl rfl Try.func31 (by kernel_rfl) rfl #[.int .i64 z, .int .i64 971] rfl (by (try simp only [List.map_toArray, List.map_cons, List.map_nil]); first | done | rfl) ?_; (with_reducible refine (HF _).mono ?_); rintro e w' ⟨rfl, rfl⟩; refine ⟨_, rfl, ?_⟩) | ((with_reducible refine gate_callee (f := 41) rfl ?_); refine goesL_ (some 60) rfl rfl Try.func41 (by kernel_rfl) rfl #[.pointer (some ⟨g, 0, none⟩), .int .i64 2] rfl (by (try simp only [List.map_toArray, List.map_cons, List.map_nil]); first | done | rfl) ?_; (with_reducible refine (spec_l01Once.calls g s0 p2 h2 2 _ _ _ w0 _ HI2.out HB2.out EO.out).mono ?_); rintro e w' ⟨rfl, hi_, hb_, hk_⟩; refine ⟨_, rfl, ?_⟩; have HZ := Aside0.mk hb_; clear hi_ hb_ hk_) | simp only [NL])
      go_ret
      exact ⟨_, rfl, HXN.out, by repeat (first | exact HZ.out | apply pw_below_drewN)⟩

  · obtain ⟨m, p2, h2, e2, m0, m1, _, hp2⟩ := below_some s0 p1 h1 2099 hp1 hn
    have m1 := m1 (by omega)
    obtain ⟨x, hx, HF⟩ := two_ex (m - 1074) (by omega) (by omega)
    rw [← wr_ (x := m - 1074) (by omega) (by omega)] at HF
    have E2 := Aside0.mk e2
    obtain ⟨o, q, j, eo, _⟩ := once_some s0 hn p2 h2 2 hp2
    have EO := Aside0.mk eo
    clear eo
    have HX := Aside0.mk (show x < 2 * S from hx)
    have HXN := Aside0.mk (negF x HX.out).2.2
    have NL := neg_law x
    clear r0 r1 e2 hx m0 m1
    cases o
    · go_enter Try.func36, Try.ntmps36
      go_wp2_with (first | ((with_reducible refine gate_callee (f := 39) rfl ?_); refine goesL_ (some 6) rfl rfl Try.func39 (by kernel_rfl) rfl #[.pointer (some ⟨g, 0, none⟩), .int .i64 12] rfl (by (try simp only [List.map_toArray, List.map_cons, List.map_nil]); first | done | rfl) ?_; (with_reducible refine (spec_l01Below.calls g s0 s1 s2 12 _ p1 h1 w0 _ HI.out HB.out E1.out).mono ?_); rintro e w' ⟨rfl, hi_, hb_, hk_⟩; refine ⟨_, rfl, ?_⟩; have HI1 := Aside0.mk hi_; have HB1 := Aside0.mk hb_; clear hi_ hb_ hk_) | ((with_reducible refine gate_callee (f := 39) rfl ?_); refine goesL_ (some 37) rfl rfl Try.func39 (by kernel_rfl) rfl #[.pointer (some ⟨g, 0, none⟩), .int .i64 2099] rfl (by (try simp only [List.map_toArray, List.map_cons, List.map_nil]); first | done | rfl) ?_; (with_reducible refine (spec_l01Below.calls g s0 p1 h1 2099 m p2 h2 w0 _ HI1.out HB1.out E2.out).mono ?_); rintro e w' ⟨rfl, hi_, hb_, hk_⟩; refine ⟨_, rfl, ?_⟩; have HI2 := Aside0.mk hi_; have HB2 := Aside0.mk hb_; clear hi_ hb_ hk_) | ((with_reducible refine gate_callee (f := 22) rfl ?_); refine goesL_ (some 39) rfl rfl Try.func22 (by kernel_rfl) rfl #[.int .i64 (wrap64 (m - 1074))] rfl (by (try simp only [List.map_toArray, List.map_cons, List.map_nil]); first | done | rfl) ?_; (with_reducible refine (HF _).mono ?_); rintro e w' ⟨rfl, rfl⟩; refine ⟨_, rfl, ?_⟩) | ((with_reducible refine gate_callee (f := 41) rfl ?_); refine goesL_ (some 60) rfl rfl Try.func41 (by kernel_rfl) rfl #[.pointer (some ⟨g, 0, none⟩), .int .i64 2] rfl (by (try simp only [List.map_toArray, List.map_cons, List.map_nil]); first | done | rfl) ?_; (with_reducible refine (spec_l01Once.calls g s0 p2 h2 2 _ _ _ w0 _ HI2.out HB2.out EO.out).mono ?_); rintro e w' ⟨rfl, hi_, hb_, hk_⟩; refine ⟨_, rfl, ?_⟩; have HZ := Aside0.mk hb_; clear hi_ hb_ hk_) | simp only [NL])
      go_ret
      exact ⟨_, rfl, HX.out, by repeat (first | exact HZ.out | apply pw_below_drewN)⟩
    · go_enter Try.func36, Try.ntmps36
      go_wp2_with (first | ((with_reducible refine gate_callee (f := 39) rfl ?_); refine goesL_ (some 6) rfl rfl Try.func39 (by kernel_rfl) rfl #[.pointer (some ⟨g, 0, none⟩), .int .i64 12] rfl (by (try simp only [List.map_toArray, List.map_cons, List.map_nil]); first | done | rfl) ?_; (with_reducible refine (spec_l01Below.calls g s0 s1 s2 12 _ p1 h1 w0 _ HI.out HB.out E1.out).mono ?_); rintro e w' ⟨rfl, hi_, hb_, hk_⟩; refine ⟨_, rfl, ?_⟩; have HI1 := Aside0.mk hi_; have HB1 := Aside0.mk hb_; clear hi_ hb_ hk_) | ((with_reducible refine gate_callee (f := 39) rfl ?_); refine goesL_ (some 37) rfl rfl Try.func39 (by kernel_rfl) rfl #[.pointer (some ⟨g, 0, none⟩), .int .i64 2099] rfl (by (try simp only [List.map_toArray, List.map_cons, List.map_nil]); first | done | rfl) ?_; (with_reducible refine (spec_l01Below.calls g s0 p1 h1 2099 m p2 h2 w0 _ HI1.out HB1.out E2.out).mono ?_); rintro e w' ⟨rfl, hi_, hb_, hk_⟩; refine ⟨_, rfl, ?_⟩; have HI2 := Aside0.mk hi_; have HB2 := Aside0.mk hb_; clear hi_ hb_ hk_) | ((with_reducible refine gate_callee (f := 22) rfl ?_); refine goesL_ (some 39) rfl rfl Try.func22 (by kernel_rfl) rfl #[.int .i64 (wrap64 (m - 1074))] rfl (by (try simp only [List.map_toArray, List.map_cons, List.map_nil]); first | done | rfl) ?_; (with_reducible refine (HF _).mono ?_); rintro e w' ⟨rfl, rfl⟩; refine ⟨_, rfl, ?_⟩) | ((with_reducible refine gate_callee (f := 41) rfl ?_); refine goesL_ (some 60) rfl rfl Try.func41 (by kernel_rfl) rfl #[.pointer (some ⟨g, 0, none⟩), .int .i64 2] rfl (by (try simp only [List.map_toArray, List.map_cons, List.map_nil]); first | done | rfl) ?_; (with_reducible refine (spec_l01Once.calls g s0 p2 h2 2 _ _ _ w0 _ HI2.out HB2.out EO.out).mono ?_); rintro e w' ⟨rfl, hi_, hb_, hk_⟩; refine ⟨_, rfl, ?_⟩; have HZ := Aside0.mk hb_; clear hi_ hb_ hk_) | simp only [NL])
      go_ret
      exact ⟨_, rfl, HXN.out, by repeat (first | exact HZ.out | apply pw_below_drewN)⟩

  · obtain ⟨m, p2, h2, e2, m0, m1, _, hp2⟩ := below_some s0 p1 h1 1000 hp1 hn
    have m1 := m1 (by omega)
    obtain ⟨n, p3, h3, e3, n0, n1, _, hp3⟩ := below_some s0 p2 h2 50 hp2 hn
    have n1 := n1 (by omega)
    obtain ⟨m, rfl⟩ := Int.eq_ofNat_of_zero_le m0
    obtain ⟨n, rfl⟩ := Int.eq_ofNat_of_zero_le n0
    obtain ⟨u, hu, fu, _⟩ := ofInt_ex m (by unfold F64.B; omega)
    obtain ⟨v, hv, fv, hv0⟩ := ofInt_ex (n + 1) (by unfold F64.B; omega)
    obtain ⟨x, hd, hx⟩ := div_some hu hv (hv0 (by omega))
    have q := quo_law u v x hd
    have fv' : floatOfInt .f64 (wrap64 (1 + (n : Int))) = v := by
      rw [← fv, wr_ (by omega) (by omega)]; congr 1; omega
    have E2 := Aside0.mk e2
    have E3 := Aside0.mk e3
    obtain ⟨o, q, j, eo, _⟩ := once_some s0 hn p3 h3 2 hp3
    have EO := Aside0.mk eo
    clear eo
    have HX := Aside0.mk (show x < 2 * S from hx)
    have HXN := Aside0.mk (negF x HX.out).2.2
    have NL := neg_law x
    generalize (m : Int) = z at *
    generalize (n : Int) = y at *
    clear r0 r1 e2 e3 hx m0 m1 n0 n1 hd hu hv hv0 fv
    cases o
    · go_enter Try.func36, Try.ntmps36
      go_wp2_with (first | ((with_reducible refine gate_callee (f := 39) rfl ?_); refine goesL_ (some 6) rfl rfl Try.func39 (by kernel_rfl) rfl #[.pointer (some ⟨g, 0, none⟩), .int .i64 12] rfl (by (try simp only [List.map_toArray, List.map_cons, List.map_nil]); first | done | rfl) ?_; (with_reducible refine (spec_l01Below.calls g s0 s1 s2 12 _ p1 h1 w0 _ HI.out HB.out E1.out).mono ?_); rintro e w' ⟨rfl, hi_, hb_, hk_⟩; refine ⟨_, rfl, ?_⟩; have HI1 := Aside0.mk hi_; have HB1 := Aside0.mk hb_; clear hi_ hb_ hk_) | ((with_reducible refine gate_callee (f := 39) rfl ?_); refine goesL_ (some 43) rfl rfl Try.func39 (by kernel_rfl) rfl #[.pointer (some ⟨g, 0, none⟩), .int .i64 1000] rfl (by (try simp only [List.map_toArray, List.map_cons, List.map_nil]); first | done | rfl) ?_; (with_reducible refine (spec_l01Below.calls g s0 p1 h1 1000 z p2 h2 w0 _ HI1.out HB1.out E2.out).mono ?_); rintro e w' ⟨rfl, hi_, hb_, hk_⟩; refine ⟨_, rfl, ?_⟩; have HI2 := Aside0.mk hi_; have HB2 := Aside0.mk hb_; clear hi_ hb_ hk_) | ((with_reducible refine gate_callee (f := 39) rfl ?_); refine goesL_ (some 46) rfl rfl Try.func39 (by kernel_rfl) rfl #[.pointer (some ⟨g, 0, none⟩), .int .i64 50] rfl (by (try simp only [List.map_toArray, List.map_cons, List.map_nil]); first | done | rfl) ?_; (with_reducible refine (spec_l01Below.calls g s0 p2 h2 50 y p3 h3 w0 _ HI2.out HB2.out E3.out).mono ?_); rintro e w' ⟨rfl, hi_, hb_, hk_⟩; refine ⟨_, rfl, ?_⟩; have HI3 := Aside0.mk hi_; have HB3 := Aside0.mk hb_; clear hi_ hb_ hk_) | ((with_reducible refine gate_callee (f := 41) rfl ?_); refine goesL_ (some 60) rfl rfl Try.func41 (by kernel_rfl) rfl #[.pointer (some ⟨g, 0, none⟩), .int .i64 2] rfl (by (try simp only [List.map_toArray, List.map_cons, List.map_nil]); first | done | rfl) ?_; (with_reducible refine (spec_l01Once.calls g s0 p3 h3 2 _ _ _ w0 _ HI3.out HB3.out EO.out).mono ?_); rintro e w' ⟨rfl, hi_, hb_, hk_⟩; refine ⟨_, rfl, ?_⟩; have HZ := Aside0.mk hb_; clear hi_ hb_ hk_) | simp only [fu, fv', q, NL])
      go_ret
      exact ⟨_, rfl, HX.out, by repeat (first | exact HZ.out | apply pw_below_drewN)⟩
    · go_enter Try.func36, Try.ntmps36
      go_wp2_with (first | ((with_reducible refine gate_callee (f := 39) rfl ?_); refine goesL_ (some 6) rfl rfl Try.func39 (by kernel_rfl) rfl #[.pointer (some ⟨g, 0, none⟩), .int .i64 12] rfl (by (try simp only [List.map_toArray, List.map_cons, List.map_nil]); first | done | rfl) ?_; (with_reducible refine (spec_l01Below.calls g s0 s1 s2 12 _ p1 h1 w0 _ HI.out HB.out E1.out).mono ?_); rintro e w' ⟨rfl, hi_, hb_, hk_⟩; refine ⟨_, rfl, ?_⟩; have HI1 := Aside0.mk hi_; have HB1 := Aside0.mk hb_; clear hi_ hb_ hk_) | ((with_reducible refine gate_callee (f := 39) rfl ?_); refine goesL_ (some 43) rfl rfl Try.func39 (by kernel_rfl) rfl #[.pointer (some ⟨g, 0, none⟩), .int .i64 1000] rfl (by (try simp only [List.map_toArray, List.map_cons, List.map_nil]); first | done | rfl) ?_; (with_reducible refine (spec_l01Below.calls g s0 p1 h1 1000 z p2 h2 w0 _ HI1.out HB1.out E2.out).mono ?_); rintro e w' ⟨rfl, hi_, hb_, hk_⟩; refine ⟨_, rfl, ?_⟩; have HI2 := Aside0.mk hi_; have HB2 := Aside0.mk hb_; clear hi_ hb_ hk_) | ((with_reducible refine gate_callee (f := 39) rfl ?_); refine goesL_ (some 46) rfl rfl Try.func39 (by kernel_rfl) rfl #[.pointer (some ⟨g, 0, none⟩), .int .i64 50] rfl (by (try simp only [List.map_toArray, List.map_cons, List.map_nil]); first | done | rfl) ?_; (with_reducible refine (spec_l01Below.calls g s0 p2 h2 50 y p3 h3 w0 _ HI2.out HB2.out E3.out).mono ?_); rintro e w' ⟨rfl, hi_, hb_, hk_⟩; refine ⟨_, rfl, ?_⟩; have HI3 := Aside0.mk hi_; have HB3 := Aside0.mk hb_; clear hi_ hb_ hk_) | ((with_reducible refine gate_callee (f := 41) rfl ?_); refine goesL_ (some 60) rfl rfl Try.func41 (by kernel_rfl) rfl #[.pointer (some ⟨g, 0, none⟩), .int .i64 2] rfl (by (try simp only [List.map_toArray, List.map_cons, List.map_nil]); first | done | rfl) ?_; (with_reducible refine (spec_l01Once.calls g s0 p3 h3 2 _ _ _ w0 _ HI3.out HB3.out EO.out).mono ?_); rintro e w' ⟨rfl, hi_, hb_, hk_⟩; refine ⟨_, rfl, ?_⟩; have HZ := Aside0.mk hb_; clear hi_ hb_ hk_) | simp only [fu, fv', q, NL])
      go_ret
      exact ⟨_, rfl, HXN.out, by repeat (first | exact HZ.out | apply pw_below_drewN)⟩

  · obtain ⟨m, p2, h2, e2, m0, m1, _, hp2⟩ := below_some s0 p1 h1 1000000 hp1 hn
    have m1 := m1 (by omega)
    obtain ⟨n, p3, h3, e3, n0, n1, _, hp3⟩ := below_some s0 p2 h2 2045 hp2 hn
    have n1 := n1 (by omega)
    obtain ⟨m, rfl⟩ := Int.eq_ofNat_of_zero_le m0
    obtain ⟨x, hx, HF⟩ := float_ex (4503599627370496 + m) (n - 1074) (by unfold F64.B; omega) (by omega) (by omega)
    have e5 : ((4503599627370496 + m : Nat) : Int) = wrap64 (4503599627370496 + (m : Int)) := by rw [wr_ (by omega) (by omega)]; omega
    rw [e5, ← wr_ (x := n - 1074) (by omega) (by omega)] at HF
    have E2 := Aside0.mk e2
    have E3 := Aside0.mk e3
    obtain ⟨o, q, j, eo, _⟩ := once_some s0 hn p3 h3 2 hp3
    have EO := Aside0.mk eo
    clear eo
    have HX := Aside0.mk (show x < 2 * S from hx)
    have HXN := Aside0.mk (negF x HX.out).2.2
    have NL := neg_law x
    clear e5
    generalize (m : Int) = z at *
    clear r0 r1 e2 e3 hx m0 m1 n0 n1
    cases o
    · go_enter Try.func36, Try.ntmps36
      go_wp2_with (first | ((with_reducible refine gate_callee (f := 39) rfl ?_); refine goesL_ (some 6) rfl rfl Try.func39 (by kernel_rfl) rfl #[.pointer (some ⟨g, 0, none⟩), .int .i64 12] rfl (by (try simp only [List.map_toArray, List.map_cons, List.map_nil]); first | done | rfl) ?_; (with_reducible refine (spec_l01Below.calls g s0 s1 s2 12 _ p1 h1 w0 _ HI.out HB.out E1.out).mono ?_); rintro e w' ⟨rfl, hi_, hb_, hk_⟩; refine ⟨_, rfl, ?_⟩; have HI1 := Aside0.mk hi_; have HB1 := Aside0.mk hb_; clear hi_ hb_ hk_) | ((with_reducible refine gate_callee (f := 39) rfl ?_); refine goesL_ (some 53) rfl rfl Try.func39 (by kernel_rfl) rfl #[.pointer (some ⟨g, 0, none⟩), .int .i64 1000000] rfl (by (try simp only [List.map_toArray, List.map_cons, List.map_nil]); first | done | rfl) ?_; (with_reducible refine (spec_l01Below.calls g s0 p1 h1 1000000 z p2 h2 w0 _ HI1.out HB1.out E2.out).mono ?_); rintro e w' ⟨rfl, hi_, hb_, hk_⟩; refine ⟨_, rfl, ?_⟩; have HI2 := Aside0.mk hi_; have HB2 := Aside0.mk hb_; clear hi_ hb_ hk_) | ((with_reducible refine gate_callee (f := 39) rfl ?_); refine goesL_ (some 56) rfl rfl Try.func39 (by kernel_rfl) rfl #[.pointer (some ⟨g, 0, none⟩), .int .i64 2045] rfl (by (try simp only [List.map_toArray, List.map_cons, List.map_nil]); first | done | rfl) ?_; (with_reducible refine (spec_l01Below.calls g s0 p2 h2 2045 n p3 h3 w0 _ HI2.out HB2.out E3.out).mono ?_); rintro e w' ⟨rfl, hi_, hb_, hk_⟩; refine ⟨_, rfl, ?_⟩; have HI3 := Aside0.mk hi_; have HB3 := Aside0.mk hb_; clear hi_ hb_ hk_) | ((with_reducible refine gate_callee (f := 31) rfl ?_); refine goesL_ (some 58) rfl rfl Try.func31 (by kernel_rfl) rfl #[.int .i64 (wrap64 (4503599627370496 + z)), .int .i64 (wrap64 (n - 1074))] rfl (by (try simp only [List.map_toArray, List.map_cons, List.map_nil]); first | done | rfl) ?_; (with_reducible refine (HF _).mono ?_); rintro e w' ⟨rfl, rfl⟩; refine ⟨_, rfl, ?_⟩) | ((with_reducible refine gate_callee (f := 41) rfl ?_); refine goesL_ (some 60) rfl rfl Try.func41 (by kernel_rfl) rfl #[.pointer (some ⟨g, 0, none⟩), .int .i64 2] rfl (by (try simp only [List.map_toArray, List.map_cons, List.map_nil]); first | done | rfl) ?_; (with_reducible refine (spec_l01Once.calls g s0 p3 h3 2 _ _ _ w0 _ HI3.out HB3.out EO.out).mono ?_); rintro e w' ⟨rfl, hi_, hb_, hk_⟩; refine ⟨_, rfl, ?_⟩; have HZ := Aside0.mk hb_; clear hi_ hb_ hk_) | simp only [NL])
      go_ret
      exact ⟨_, rfl, HX.out, by repeat (first | exact HZ.out | apply pw_below_drewN)⟩
    · go_enter Try.func36, Try.ntmps36
      go_wp2_with (first | ((with_reducible refine gate_callee (f := 39) rfl ?_); refine goesL_ (some 6) rfl rfl Try.func39 (by kernel_rfl) rfl #[.pointer (some ⟨g, 0, none⟩), .int .i64 12] rfl (by (try simp only [List.map_toArray, List.map_cons, List.map_nil]); first | done | rfl) ?_; (with_reducible refine (spec_l01Below.calls g s0 s1 s2 12 _ p1 h1 w0 _ HI.out HB.out E1.out).mono ?_); rintro e w' ⟨rfl, hi_, hb_, hk_⟩; refine ⟨_, rfl, ?_⟩; have HI1 := Aside0.mk hi_; have HB1 := Aside0.mk hb_; clear hi_ hb_ hk_) | ((with_reducible refine gate_callee (f := 39) rfl ?_); refine goesL_ (some 53) rfl rfl Try.func39 (by kernel_rfl) rfl #[.pointer (some ⟨g, 0, none⟩), .int .i64 1000000] rfl (by (try simp only [List.map_toArray, List.map_cons, List.map_nil]); first | done | rfl) ?_; (with_reducible refine (spec_l01Below.calls g s0 p1 h1 1000000 z p2 h2 w0 _ HI1.out HB1.out E2.out).mono ?_); rintro e w' ⟨rfl, hi_, hb_, hk_⟩; refine ⟨_, rfl, ?_⟩; have HI2 := Aside0.mk hi_; have HB2 := Aside0.mk hb_; clear hi_ hb_ hk_) | ((with_reducible refine gate_callee (f := 39) rfl ?_); refine goesL_ (some 56) rfl rfl Try.func39 (by kernel_rfl) rfl #[.pointer (some ⟨g, 0, none⟩), .int .i64 2045] rfl (by (try simp only [List.map_toArray, List.map_cons, List.map_nil]); first | done | rfl) ?_; (with_reducible refine (spec_l01Below.calls g s0 p2 h2 2045 n p3 h3 w0 _ HI2.out HB2.out E3.out).mono ?_); rintro e w' ⟨rfl, hi_, hb_, hk_⟩; refine ⟨_, rfl, ?_⟩; have HI3 := Aside0.mk hi_; have HB3 := Aside0.mk hb_; clear hi_ hb_ hk_) | ((with_reducible refine gate_callee (f := 31) rfl ?_); refine goesL_ (some 58) rfl rfl Try.func31 (by kernel_rfl) rfl #[.int .i64 (wrap64 (4503599627370496 + z)), .int .i64 (wrap64 (n - 1074))] rfl (by (try simp only [List.map_toArray, List.map_cons, List.map_nil]); first | done | rfl) ?_; (with_reducible refine (HF _).mono ?_); rintro e w' ⟨rfl, rfl⟩; refine ⟨_, rfl, ?_⟩) | ((with_reducible refine gate_callee (f := 41) rfl ?_); refine goesL_ (some 60) rfl rfl Try.func41 (by kernel_rfl) rfl #[.pointer (some ⟨g, 0, none⟩), .int .i64 2] rfl (by (try simp only [List.map_toArray, List.map_cons, List.map_nil]); first | done | rfl) ?_; (with_reducible refine (spec_l01Once.calls g s0 p3 h3 2 _ _ _ w0 _ HI3.out HB3.out EO.out).mono ?_); rintro e w' ⟨rfl, hi_, hb_, hk_⟩; refine ⟨_, rfl, ?_⟩; have HZ := Aside0.mk hb_; clear hi_ hb_ hk_) | simp only [NL])
      go_ret
      exact ⟨_, rfl, HXN.out, by repeat (first | exact HZ.out | apply pw_below_drewN)⟩

  · obtain ⟨m, p2, h2, e2, m0, m1, _, hp2⟩ := below_some s0 p1 h1 100 hp1 hn
    have m1 := m1 (by omega)
    obtain ⟨m, rfl⟩ := Int.eq_ofNat_of_zero_le m0
    obtain ⟨x, hx, fu, _⟩ := ofInt_ex m (by unfold F64.B; omega)
    have E2 := Aside0.mk e2
    obtain ⟨o, q, j, eo, _⟩ := once_some s0 hn p2 h2 2 hp2
    have EO := Aside0.mk eo
    clear eo
    have HX := Aside0.mk (show x < 2 * S from le_lt (by omega))
    have HXN := Aside0.mk (negF x HX.out).2.2
    have NL := neg_law x
    obtain ⟨n0, n1, n2, n3, n4, n5, n6, n7⟩ := hr
    generalize (m : Int) = z at *
    clear r0 r1 e2 hx m0 m1
    cases o
    · go_enter Try.func36, Try.ntmps36
      go_wp2_with (first | ((with_reducible refine gate_callee (f := 39) rfl ?_); refine goesL_ (some 6) rfl rfl Try.func39 (by kernel_rfl) rfl #[.pointer (some ⟨g, 0, none⟩), .int .i64 12] rfl (by (try simp only [List.map_toArray, List.map_cons, List.map_nil]); first | done | rfl) ?_; (with_reducible refine (spec_l01Below.calls g s0 s1 s2 12 _ p1 h1 w0 _ HI.out HB.out E1.out).mono ?_); rintro e w' ⟨rfl, hi_, hb_, hk_⟩; refine ⟨_, rfl, ?_⟩; have HI1 := Aside0.mk hi_; have HB1 := Aside0.mk hb_; clear hi_ hb_ hk_) | ((with_reducible refine gate_callee (f := 39) rfl ?_); refine goesL_ (some 8) rfl rfl Try.func39 (by kernel_rfl) rfl #[.pointer (some ⟨g, 0, none⟩), .int .i64 100] rfl (by (try simp only [List.map_toArray, List.map_cons, List.map_nil]); first | done | rfl) ?_; (with_reducible refine (spec_l01Below.calls g s0 p1 h1 100 z p2 h2 w0 _ HI1.out HB1.out E2.out).mono ?_); rintro e w' ⟨rfl, hi_, hb_, hk_⟩; refine ⟨_, rfl, ?_⟩; have HI2 := Aside0.mk hi_; have HB2 := Aside0.mk hb_; clear hi_ hb_ hk_) | ((with_reducible refine gate_callee (f := 41) rfl ?_); refine goesL_ (some 60) rfl rfl Try.func41 (by kernel_rfl) rfl #[.pointer (some ⟨g, 0, none⟩), .int .i64 2] rfl (by (try simp only [List.map_toArray, List.map_cons, List.map_nil]); first | done | rfl) ?_; (with_reducible refine (spec_l01Once.calls g s0 p2 h2 2 _ _ _ w0 _ HI2.out HB2.out EO.out).mono ?_); rintro e w' ⟨rfl, hi_, hb_, hk_⟩; refine ⟨_, rfl, ?_⟩; have HZ := Aside0.mk hb_; clear hi_ hb_ hk_) | simp only [fu, NL])
      go_ret
      exact ⟨_, rfl, HX.out, by repeat (first | exact HZ.out | apply pw_below_drewN)⟩
    · go_enter Try.func36, Try.ntmps36
      go_wp2_with (first | ((with_reducible refine gate_callee (f := 39) rfl ?_); refine goesL_ (some 6) rfl rfl Try.func39 (by kernel_rfl) rfl #[.pointer (some ⟨g, 0, none⟩), .int .i64 12] rfl (by (try simp only [List.map_toArray, List.map_cons, List.map_nil]); first | done | rfl) ?_; (with_reducible refine (spec_l01Below.calls g s0 s1 s2 12 _ p1 h1 w0 _ HI.out HB.out E1.out).mono ?_); rintro e w' ⟨rfl, hi_, hb_, hk_⟩; refine ⟨_, rfl, ?_⟩; have HI1 := Aside0.mk hi_; have HB1 := Aside0.mk hb_; clear hi_ hb_ hk_) | ((with_reducible refine gate_callee (f := 39) rfl ?_); refine goesL_ (some 8) rfl rfl Try.func39 (by kernel_rfl) rfl #[.pointer (some ⟨g, 0, none⟩), .int .i64 100] rfl (by (try simp only [List.map_toArray, List.map_cons, List.map_nil]); first | done | rfl) ?_; (with_reducible refine (spec_l01Below.calls g s0 p1 h1 100 z p2 h2 w0 _ HI1.out HB1.out E2.out).mono ?_); rintro e w' ⟨rfl, hi_, hb_, hk_⟩; refine ⟨_, rfl, ?_⟩; have HI2 := Aside0.mk hi_; have HB2 := Aside0.mk hb_; clear hi_ hb_ hk_) | ((with_reducible refine gate_callee (f := 41) rfl ?_); refine goesL_ (some 60) rfl rfl Try.func41 (by kernel_rfl) rfl #[.pointer (some ⟨g, 0, none⟩), .int .i64 2] rfl (by (try simp only [List.map_toArray, List.map_cons, List.map_nil]); first | done | rfl) ?_; (with_reducible refine (spec_l01Once.calls g s0 p2 h2 2 _ _ _ w0 _ HI2.out HB2.out EO.out).mono ?_); rintro e w' ⟨rfl, hi_, hb_, hk_⟩; refine ⟨_, rfl, ?_⟩; have HZ := Aside0.mk hb_; clear hi_ hb_ hk_) | simp only [fu, NL])
      go_ret
      exact ⟨_, rfl, HXN.out, by repeat (first | exact HZ.out | apply pw_below_drewN)⟩
end Go.Proofs.Ytebkbodkkehmfaa.Fl
