/- Contracts of the functions that the law FnDivisors reaches (walks after the kit's print; spec.l01New's by hand). -/
import Derived.Test.YtgjnjimlaipjcaaPFnDivisorsx0
import Derived.Test.YtgjnjimlaipjcaaPFnDivisorsx1
import Derived.Test.YtgjnjimlaipjcaaMFnDivisorsx2
namespace Go.Proofs.Ytgjnjimlaipjcaa.PFnDivisors
open Go.RowKit Go.Proofs.YtgjnjimlaipjcaaW.PrintWords Go.Proofs.YtgjnjimlaipjcaaW.PrintLast Go.Proofs.YtgjnjimlaipjcaaW.PrintMore
attribute [local go_sem] max2_int min2_int max_two min_two max_three min_three max_four min_four   -- for this text's walks alone
set_option linter.unusedVariables false
set_option linter.unusedSimpArgs false

/-! ### laws_FnDivisors: function 8 -/
def laws_FnDivisors.j0 : Nat → Int → Int → Int → Int → Bool → Option (Bool)
  | 0, _, _, _, _, _ => none
  | k + 1, x3, x4, x5, x6, x31 => if x31 = true then (some false) else (if x6 = 0 then (some true) else (if x3 < 0 then (if x4 < 0 then (if x5 = 0 then (none) else (if (Int.tmod (wrap64 (-x3)) x5) = 0 then (if (Int.tmod (wrap64 (-x4)) x5) = 0 then (if (wrap64 (-x3)) = 0 then (none) else (if (Int.tmod x6 (wrap64 (-x3))) = 0 then (if (wrap64 (-x4)) = 0 then (none) else (if (Int.tmod x6 (wrap64 (-x4))) = 0 then (some ((wrap64 ((wrap64 (Int.tdiv (wrap64 (-x3)) x5)) * (wrap64 (-x4)))) == x6)) else (some false))) else (some false))) else (some false)) else (some false))) else (if x5 = 0 then (none) else (if (Int.tmod (wrap64 (-x3)) x5) = 0 then (if (Int.tmod x4 x5) = 0 then (if (wrap64 (-x3)) = 0 then (none) else (if (Int.tmod x6 (wrap64 (-x3))) = 0 then (if x4 = 0 then (none) else (if (Int.tmod x6 x4) = 0 then (some ((wrap64 ((wrap64 (Int.tdiv (wrap64 (-x3)) x5)) * x4)) == x6)) else (some false))) else (some false))) else (some false)) else (some false)))) else (if x4 < 0 then (if x5 = 0 then (none) else (if (Int.tmod x3 x5) = 0 then (if (Int.tmod (wrap64 (-x4)) x5) = 0 then (if x3 = 0 then (none) else (if (Int.tmod x6 x3) = 0 then (if (wrap64 (-x4)) = 0 then (none) else (if (Int.tmod x6 (wrap64 (-x4))) = 0 then (some ((wrap64 ((wrap64 (Int.tdiv x3 x5)) * (wrap64 (-x4)))) == x6)) else (some false))) else (some false))) else (some false)) else (some false))) else (if x5 = 0 then (none) else (if (Int.tmod x3 x5) = 0 then (if (Int.tmod x4 x5) = 0 then (if x3 = 0 then (none) else (if (Int.tmod x6 x3) = 0 then (if x4 = 0 then (none) else (if (Int.tmod x6 x4) = 0 then (some ((wrap64 ((wrap64 (Int.tdiv x3 x5)) * x4)) == x6)) else (some false))) else (some false))) else (some false)) else (some false))))))
def laws_FnDivisors.f (k : Nat) (l0 : List Int) : Option (Bool) := (laws_big.f l0).bind fun t165 => (if t165 = true then (some true) else ((spec_DrawGcd.f k l0).bind fun bt166 => ((impl_Gcd.f k bt166.1 bt166.2).bind fun t168 => ((impl_Lcm.f k bt166.1 bt166.2).bind fun t169 => ((spec_Gcd.f k bt166.1 bt166.2).bind fun t170 => (if t168 = t170 then ((spec_Lcm.f k bt166.1 bt166.2).bind fun t171 => (laws_FnDivisors.j0 k bt166.1 bt166.2 t168 t169 (t169 != t171))) else (laws_FnDivisors.j0 k bt166.1 bt166.2 t168 t169 true)))))))
theorem laws_FnDivisors.mono_l : ∀ k, (∀ y0 y1 y2 y3 y4, LeO (laws_FnDivisors.j0 k y0 y1 y2 y3 y4) (laws_FnDivisors.j0 (k + 1) y0 y1 y2 y3 y4))
  | 0 => fun _ _ _ _ _ r h => by simp [laws_FnDivisors.j0] at h
  | k + 1 => by
    have ih0 := laws_FnDivisors.mono_l k
    · intro y0 y1 y2 y3 y4
      unfold laws_FnDivisors.j0
      repeat' first
      | (with_reducible exact ih0 _ _ _ _ _)
      | (with_reducible exact impl_Gcd.mono _ _ _)
      | (with_reducible exact impl_Lcm.mono _ _ _)
      | (with_reducible exact spec_DrawGcd.mono _ _)
      | (with_reducible exact spec_Gcd.mono _ _ _)
      | (with_reducible exact spec_Lcm.mono _ _ _)
      | (with_reducible exact LeO.refl _)
      | (with_reducible exact LeO.none _)
      | (with_reducible refine LeO.ite ?_ ?_)
      | (with_reducible refine LeO.bind ?_ (fun _ => ?_))
      | exact ih0 _ _ _ _ _
      | exact impl_Gcd.mono _ _ _
      | exact impl_Lcm.mono _ _ _
      | exact spec_DrawGcd.mono _ _
      | exact spec_Gcd.mono _ _ _
      | exact spec_Lcm.mono _ _ _
      | exact LeO.none _
      | refine LeO.ite ?_ ?_
      | refine LeO.bind ?_ (fun _ => ?_)
theorem laws_FnDivisors.mono : ∀ a0 k, LeO (laws_FnDivisors.f k a0) (laws_FnDivisors.f (k + 1) a0) := by
  intro a0 k
  have ih0 := laws_FnDivisors.mono_l k
  unfold laws_FnDivisors.f
  repeat' first
      | (with_reducible exact ih0 _ _ _ _ _)
      | (with_reducible exact impl_Gcd.mono _ _ _)
      | (with_reducible exact impl_Lcm.mono _ _ _)
      | (with_reducible exact spec_DrawGcd.mono _ _)
      | (with_reducible exact spec_Gcd.mono _ _ _)
      | (with_reducible exact spec_Lcm.mono _ _ _)
      | (with_reducible exact LeO.refl _)
      | (with_reducible exact LeO.none _)
      | (with_reducible refine LeO.ite ?_ ?_)
      | (with_reducible refine LeO.bind ?_ (fun _ => ?_))
      | exact ih0 _ _ _ _ _
      | exact impl_Gcd.mono _ _ _
      | exact impl_Lcm.mono _ _ _
      | exact spec_DrawGcd.mono _ _
      | exact spec_Gcd.mono _ _ _
      | exact spec_Lcm.mono _ _ _
      | exact LeO.none _
      | refine LeO.ite ?_ ?_
      | refine LeO.bind ?_ (fun _ => ?_)
set_option maxHeartbeats 8000000 in
set_option maxRecDepth 100000 in
theorem laws_FnDivisors.calls (k : Nat) (A0 : Option Addr) (c0 : Nat) (l0 : List Int) (r : Bool) (w : World) (hr0 : Kd.C (Kd.int .u8) w A0 l0.length l0) (hc0 : l0.length ≤ c0) (h : laws_FnDivisors.f k l0 = some r) :
    Calls Try.prog 8 #[.slice A0 l0.length c0] w fun e w' => e = .returned (.bool r) ∧ Below w.heap.size w w' := by
  have HR0 := Aside0.mk hr0
  have HC0 := Aside0.mk hc0
  clear hr0 hc0
  have HB := Aside0.mk (Below.refl w.heap.size w)
  have H : ((laws_big.f l0).bind fun t165 => (if t165 = true then (some true) else ((spec_DrawGcd.f k l0).bind fun bt166 => ((impl_Gcd.f k bt166.1 bt166.2).bind fun t168 => ((impl_Lcm.f k bt166.1 bt166.2).bind fun t169 => ((spec_Gcd.f k bt166.1 bt166.2).bind fun t170 => (if t168 = t170 then ((spec_Lcm.f k bt166.1 bt166.2).bind fun t171 => (laws_FnDivisors.j0 k bt166.1 bt166.2 t168 t169 (t169 != t171))) else (laws_FnDivisors.j0 k bt166.1 bt166.2 t168 t169 true)))))))) = some r := h
  clear h
  replace H := Option.bind_eq_some_iff.mp H
  obtain ⟨t165, A20, H⟩ := H
  replace H : (if t165 = true then (some true) else ((spec_DrawGcd.f k l0).bind fun bt166 => ((impl_Gcd.f k bt166.1 bt166.2).bind fun t168 => ((impl_Lcm.f k bt166.1 bt166.2).bind fun t169 => ((spec_Gcd.f k bt166.1 bt166.2).bind fun t170 => (if t168 = t170 then ((spec_Lcm.f k bt166.1 bt166.2).bind fun t171 => (laws_FnDivisors.j0 k bt166.1 bt166.2 t168 t169 (t169 != t171))) else (laws_FnDivisors.j0 k bt166.1 bt166.2 t168 t169 true))))))) = some r := H
  have A2 := Aside0.mk A20
  clear A20
  by_cases c3 : t165 = true
  · subst c3
    have H1 : (some true) = some r := by rw [if_pos rfl] at H; exact H
    clear H
    have H := H1
    clear H1
    obtain rfl := Option.some.inj H
    go_enter Try.func8, Try.ntmps8
    go_wp2_with (first | ((with_reducible refine gate_callee (f := 22) rfl ?_); refine goesL_ (some 8) rfl rfl Try.func22 (by kernel_rfl) rfl #[.slice A0 l0.length c0] rfl (by (try simp only [List.map_toArray, List.map_cons, List.map_nil]); first | done | rfl | (simp only [List.length_drop, List.length_take]; rfl)) ?_; (with_reducible refine (laws_big.calls _ _ l0 true _ ?side1 ?side2 A2.out).mono ?_); (case side1 => repeat (first | exact HR0.out | (with_reducible refine Kd.C_alloc ?_ _) | (with_reducible refine Kd.C_drewN ?_ _) | (with_reducible refine Kd.C_drew ?_))); (case side2 => exact HC0.out); rintro e w' ⟨rfl, ⟨nd, rfl⟩⟩; refine ⟨_, rfl, ?_⟩))
    go_ret
    exact ⟨by first | rfl | (simp [errW_none, errW_some] <;> rfl) | (simp [*, errW_none, errW_some] <;> rfl), by repeat (first | (with_reducible first | exact HB.out | apply below_alloc | apply pw_below_drewN | apply below_drew1) | exact HB.out)⟩
  · replace c3 := Bool.eq_false_iff.mpr c3
    subst c3
    have H1 : ((spec_DrawGcd.f k l0).bind fun bt166 => ((impl_Gcd.f k bt166.1 bt166.2).bind fun t168 => ((impl_Lcm.f k bt166.1 bt166.2).bind fun t169 => ((spec_Gcd.f k bt166.1 bt166.2).bind fun t170 => (if t168 = t170 then ((spec_Lcm.f k bt166.1 bt166.2).bind fun t171 => (laws_FnDivisors.j0 k bt166.1 bt166.2 t168 t169 (t169 != t171))) else (laws_FnDivisors.j0 k bt166.1 bt166.2 t168 t169 true)))))) = some r := by rw [if_neg (show ¬ (false = true) by decide)] at H; exact H
    clear H
    have H := H1
    clear H1
    replace H := Option.bind_eq_some_iff.mp H
    obtain ⟨⟨t166, t167⟩, A40, H⟩ := H
    replace H : ((impl_Gcd.f k t166 t167).bind fun t168 => ((impl_Lcm.f k t166 t167).bind fun t169 => ((spec_Gcd.f k t166 t167).bind fun t170 => (if t168 = t170 then ((spec_Lcm.f k t166 t167).bind fun t171 => (laws_FnDivisors.j0 k t166 t167 t168 t169 (t169 != t171))) else (laws_FnDivisors.j0 k t166 t167 t168 t169 true))))) = some r := H
    have A4 := Aside0.mk A40
    clear A40
    replace H := Option.bind_eq_some_iff.mp H
    obtain ⟨t168, A50, H⟩ := H
    replace H : ((impl_Lcm.f k t166 t167).bind fun t169 => ((spec_Gcd.f k t166 t167).bind fun t170 => (if t168 = t170 then ((spec_Lcm.f k t166 t167).bind fun t171 => (laws_FnDivisors.j0 k t166 t167 t168 t169 (t169 != t171))) else (laws_FnDivisors.j0 k t166 t167 t168 t169 true)))) = some r := H
    have A5 := Aside0.mk A50
    clear A50
    replace H := Option.bind_eq_some_iff.mp H
    obtain ⟨t169, A60, H⟩ := H
    replace H : ((spec_Gcd.f k t166 t167).bind fun t170 => (if t168 = t170 then ((spec_Lcm.f k t166 t167).bind fun t171 => (laws_FnDivisors.j0 k t166 t167 t168 t169 (t169 != t171))) else (laws_FnDivisors.j0 k t166 t167 t168 t169 true))) = some r := H
    have A6 := Aside0.mk A60
    clear A60
    have HC7 := Aside0.mk H
    clear H
    go_enter Try.func8, Try.ntmps8
    go_upto_region 5 with (first | ((with_reducible refine gate_callee (f := 22) rfl ?_); refine goesL_ (some 8) rfl rfl Try.func22 (by kernel_rfl) rfl #[.slice A0 l0.length c0] rfl (by (try simp only [List.map_toArray, List.map_cons, List.map_nil]); first | done | rfl | (simp only [List.length_drop, List.length_take]; rfl)) ?_; (with_reducible refine (laws_big.calls _ _ l0 false _ ?side1 ?side2 A2.out).mono ?_); (case side1 => repeat (first | exact HR0.out | (with_reducible refine Kd.C_alloc ?_ _) | (with_reducible refine Kd.C_drewN ?_ _) | (with_reducible refine Kd.C_drew ?_))); (case side2 => exact HC0.out); rintro e w' ⟨rfl, ⟨nd, rfl⟩⟩; refine ⟨_, rfl, ?_⟩) | ((with_reducible refine gate_callee (f := 23) rfl ?_); refine goesL_ (some 11) rfl rfl Try.func23 (by kernel_rfl) rfl #[.slice A0 l0.length c0] rfl (by (try simp only [List.map_toArray, List.map_cons, List.map_nil]); first | done | rfl | (simp only [List.length_drop, List.length_take]; rfl)) ?_; (with_reducible refine (spec_DrawGcd.calls k _ _ l0 t166 t167 _ ?side1 ?side2 A4.out).mono ?_); (case side1 => repeat (first | exact HR0.out | (with_reducible refine Kd.C_alloc ?_ _) | (with_reducible refine Kd.C_drewN ?_ _) | (with_reducible refine Kd.C_drew ?_))); (case side2 => exact HC0.out); rintro e w8 ⟨rfl, hb⟩; refine ⟨_, rfl, ?_⟩; have n0_ := Aside0.mk (below_step (by repeat (first | (with_reducible first | exact HB.out | apply below_alloc | apply pw_below_drewN | apply below_drew1) | exact HB.out)) hb); clear HB; have HB := n0_; clear n0_; (try clear hb); (try clear hb2); (try clear hk); (try clear hi)) | ((with_reducible refine gate_callee (f := 19) rfl ?_); refine goesL_ (some 16) rfl rfl Try.func19 (by kernel_rfl) rfl #[.int .i64 t166, .int .i64 t167] rfl (by (try simp only [List.map_toArray, List.map_cons, List.map_nil]); first | done | rfl | (simp only [List.length_drop, List.length_take]; rfl)) ?_; (with_reducible refine (impl_Gcd.calls k t166 t167 t168 _ A5.out).mono ?_); rintro e w9 ⟨rfl, hb⟩; refine ⟨_, rfl, ?_⟩; have n0_ := Aside0.mk (below_step (by repeat (first | (with_reducible first | exact HB.out | apply below_alloc | apply pw_below_drewN | apply below_drew1) | exact HB.out)) hb); clear HB; have HB := n0_; clear n0_; (try clear hb); (try clear hb2); (try clear hk); (try clear hi)) | ((with_reducible refine gate_callee (f := 21) rfl ?_); refine goesL_ (some 19) rfl rfl Try.func21 (by kernel_rfl) rfl #[.int .i64 t166, .int .i64 t167] rfl (by (try simp only [List.map_toArray, List.map_cons, List.map_nil]); first | done | rfl | (simp only [List.length_drop, List.length_take]; rfl)) ?_; (with_reducible refine (impl_Lcm.calls k t166 t167 t169 _ A6.out).mono ?_); rintro e w10 ⟨rfl, hb⟩; refine ⟨_, rfl, ?_⟩; have n0_ := Aside0.mk (below_step (by repeat (first | (with_reducible first | exact HB.out | apply below_alloc | apply pw_below_drewN | apply below_drew1) | exact HB.out)) hb); clear HB; have HB := n0_; clear n0_; (try clear hb); (try clear hb2); (try clear hk); (try clear hi)))
    (try simp only [Act.put, List.setIfInBounds_toArray, List.set_cons_zero, List.set_cons_succ])
    go_cut [31] (fun v31 wc => ∃ (kq : Nat) (x31_6 : Bool), v31 = .bool x31_6 ∧ Aside0 (laws_FnDivisors.j0 kq t166 t167 t168 t169 x31_6 = some r) ∧ Aside0 (kq ≤ k) ∧ Aside0 (Below w.heap.size w wc))
    case first =>
      have H := HC7.out
      clear HC7
      replace H := Option.bind_eq_some_iff.mp H
      obtain ⟨t170, A110, H⟩ := H
      replace H : (if t168 = t170 then ((spec_Lcm.f k t166 t167).bind fun t171 => (laws_FnDivisors.j0 k t166 t167 t168 t169 (t169 != t171))) else (laws_FnDivisors.j0 k t166 t167 t168 t169 true)) = some r := H
      have A11 := Aside0.mk A110
      clear A110
      by_cases c12 : t168 = t170
      · rw [if_pos c12] at H
        have c12b0 : (t168 == t170) = true := beq_iff_eq.mpr c12
        have c12b1 : (t168 != t170) = false := bne_eq_false_iff_eq.mpr c12
        clear c12
        (first | rw [c12b0] | (simp only [i64_w, i32_w]; rw [c12b0]) | skip)
        replace H := Option.bind_eq_some_iff.mp H
        obtain ⟨t171, A130, H⟩ := H
        replace H : (laws_FnDivisors.j0 k t166 t167 t168 t169 (t169 != t171)) = some r := H
        have A13 := Aside0.mk A130
        clear A130
        have H' := Aside0.mk H
        clear H
        go_wp2_with (first | ((with_reducible refine gate_callee (f := 18) rfl ?_); refine goesL_ (some 23) rfl rfl Try.func18 (by kernel_rfl) rfl #[.int .i64 t166, .int .i64 t167] rfl (by (try simp only [List.map_toArray, List.map_cons, List.map_nil]); first | done | rfl | (simp only [List.length_drop, List.length_take]; rfl)) ?_; (with_reducible refine (spec_Gcd.calls k t166 t167 t170 _ A11.out).mono ?_); rintro e w' ⟨rfl, ⟨nd, rfl⟩⟩; refine ⟨_, rfl, ?_⟩) | (go_at_call 20; (with_reducible refine (spec_Lcm.calls k t166 t167 t171 _ A13.out).mono ?_); rintro e w' ⟨rfl, ⟨nd, rfl⟩⟩))
        go_meet
        case rel => exact ⟨_, ((t169 != t171)), (by first | rfl | (simp; done) | (simp [*]; done)), H', ⟨by first | omega | exact Nat.le_refl _⟩, ⟨by repeat (first | (with_reducible first | exact HB.out | apply below_alloc | apply pw_below_drewN | apply below_drew1) | exact HB.out)⟩⟩
      · rw [if_neg c12] at H
        have c12b0 : (t168 == t170) = false := beq_eq_false_iff_ne.mpr c12
        have c12b1 : (t168 != t170) = true := bne_iff_ne.mpr c12
        (first | rw [c12b0] | (simp only [i64_w, i32_w]; rw [c12b0]) | skip)
        have H' := Aside0.mk H
        clear H
        go_wp2_with (first | ((with_reducible refine gate_callee (f := 18) rfl ?_); refine goesL_ (some 23) rfl rfl Try.func18 (by kernel_rfl) rfl #[.int .i64 t166, .int .i64 t167] rfl (by (try simp only [List.map_toArray, List.map_cons, List.map_nil]); first | done | rfl | (simp only [List.length_drop, List.length_take]; rfl)) ?_; (with_reducible refine (spec_Gcd.calls k t166 t167 t170 _ A11.out).mono ?_); rintro e w' ⟨rfl, ⟨nd, rfl⟩⟩; refine ⟨_, rfl, ?_⟩))
        go_meet
        case rel => exact ⟨_, (true), (by first | rfl | (simp; done) | (simp [*]; done)), H', ⟨by first | omega | exact Nat.le_refl _⟩, ⟨by repeat (first | (with_reducible first | exact HB.out | apply below_alloc | apply pw_below_drewN | apply below_drew1) | exact HB.out)⟩⟩
    case rest =>
      clear HC7
      try clear c1
      try clear c2
      try clear p2
      try clear c3
      try clear c8
      try clear c12
      try clear c12b0
      try clear c12b1
      obtain ⟨kq, x31_6, rfl, HA, HJ6, HB⟩ := hcut
      cases kq with
      | zero => exact absurd HA.out (by simp [laws_FnDivisors.j0])
      | succ kj6 =>
        have H := HA.out
        clear HA
        simp only [laws_FnDivisors.j0] at H
        by_cases c14 : x31_6 = true
        · subst c14
          have H1 : (some false) = some r := by rw [if_pos rfl] at H; exact H
          clear H
          have H := H1
          clear H1
          obtain rfl := Option.some.inj H
          go_wp2
          go_ret
          exact ⟨by first | rfl | (simp [errW_none, errW_some] <;> rfl) | (simp [*, errW_none, errW_some] <;> rfl), by repeat (first | (with_reducible first | exact HB.out | apply below_alloc | apply pw_below_drewN | apply below_drew1) | exact HB.out)⟩
        · replace c14 := Bool.eq_false_iff.mpr c14
          subst c14
          have H1 : (if t169 = 0 then (some true) else (if t166 < 0 then (if t167 < 0 then (if t168 = 0 then (none) else (if (Int.tmod (wrap64 (-t166)) t168) = 0 then (if (Int.tmod (wrap64 (-t167)) t168) = 0 then (if (wrap64 (-t166)) = 0 then (none) else (if (Int.tmod t169 (wrap64 (-t166))) = 0 then (if (wrap64 (-t167)) = 0 then (none) else (if (Int.tmod t169 (wrap64 (-t167))) = 0 then (some ((wrap64 ((wrap64 (Int.tdiv (wrap64 (-t166)) t168)) * (wrap64 (-t167)))) == t169)) else (some false))) else (some false))) else (some false)) else (some false))) else (if t168 = 0 then (none) else (if (Int.tmod (wrap64 (-t166)) t168) = 0 then (if (Int.tmod t167 t168) = 0 then (if (wrap64 (-t166)) = 0 then (none) else (if (Int.tmod t169 (wrap64 (-t166))) = 0 then (if t167 = 0 then (none) else (if (Int.tmod t169 t167) = 0 then (some ((wrap64 ((wrap64 (Int.tdiv (wrap64 (-t166)) t168)) * t167)) == t169)) else (some false))) else (some false))) else (some false)) else (some false)))) else (if t167 < 0 then (if t168 = 0 then (none) else (if (Int.tmod t166 t168) = 0 then (if (Int.tmod (wrap64 (-t167)) t168) = 0 then (if t166 = 0 then (none) else (if (Int.tmod t169 t166) = 0 then (if (wrap64 (-t167)) = 0 then (none) else (if (Int.tmod t169 (wrap64 (-t167))) = 0 then (some ((wrap64 ((wrap64 (Int.tdiv t166 t168)) * (wrap64 (-t167)))) == t169)) else (some false))) else (some false))) else (some false)) else (some false))) else (if t168 = 0 then (none) else (if (Int.tmod t166 t168) = 0 then (if (Int.tmod t167 t168) = 0 then (if t166 = 0 then (none) else (if (Int.tmod t169 t166) = 0 then (if t167 = 0 then (none) else (if (Int.tmod t169 t167) = 0 then (some ((wrap64 ((wrap64 (Int.tdiv t166 t168)) * t167)) == t169)) else (some false))) else (some false))) else (some false)) else (some false)))))) = some r := by rw [if_neg (show ¬ (false = true) by decide)] at H; exact H
          clear H
          have H := H1
          clear H1
          by_cases c15 : t169 = 0
          · rw [if_pos c15] at H
            have c15b0 : (t169 == 0) = true := beq_iff_eq.mpr c15
            have c15b1 : (t169 != 0) = false := bne_eq_false_iff_eq.mpr c15
            clear c15
            obtain rfl := Option.some.inj H
            go_wp2
            go_ret
            exact ⟨by first | rfl | (simp [errW_none, errW_some] <;> rfl) | (simp [*, errW_none, errW_some] <;> rfl), by repeat (first | (with_reducible first | exact HB.out | apply below_alloc | apply pw_below_drewN | apply below_drew1) | exact HB.out)⟩
          · rw [if_neg c15] at H
            have c15b0 : (t169 == 0) = false := beq_eq_false_iff_ne.mpr c15
            have c15b1 : (t169 != 0) = true := bne_iff_ne.mpr c15
            by_cases c16 : t166 < 0
            · rw [if_pos c16] at H
              have c16b0 : decide (t166 < 0) = true := decide_eq_true c16
              clear c16
              by_cases c17 : t167 < 0
              · rw [if_pos c17] at H
                have c17b0 : decide (t167 < 0) = true := decide_eq_true c17
                clear c17
                by_cases c18 : t168 = 0
                · rw [if_pos c18] at H
                  exact absurd H (by simp)
                · rw [if_neg c18] at H
                  have c18b0 : (t168 == 0) = false := beq_eq_false_iff_ne.mpr c18
                  have c18b1 : (t168 != 0) = true := bne_iff_ne.mpr c18
                  by_cases c19 : (Int.tmod (wrap64 (-t166)) t168) = 0
                  · rw [if_pos c19] at H
                    have c19b0 : ((Int.tmod (wrap64 (-t166)) t168) == 0) = true := beq_iff_eq.mpr c19
                    have c19b1 : ((Int.tmod (wrap64 (-t166)) t168) != 0) = false := bne_eq_false_iff_eq.mpr c19
                    clear c19
                    by_cases c20 : (Int.tmod (wrap64 (-t167)) t168) = 0
                    · rw [if_pos c20] at H
                      have c20b0 : ((Int.tmod (wrap64 (-t167)) t168) == 0) = true := beq_iff_eq.mpr c20
                      have c20b1 : ((Int.tmod (wrap64 (-t167)) t168) != 0) = false := bne_eq_false_iff_eq.mpr c20
                      clear c20
                      by_cases c21 : (wrap64 (-t166)) = 0
                      · rw [if_pos c21] at H
                        exact absurd H (by simp)
                      · rw [if_neg c21] at H
                        have c21b0 : ((wrap64 (-t166)) == 0) = false := beq_eq_false_iff_ne.mpr c21
                        have c21b1 : ((wrap64 (-t166)) != 0) = true := bne_iff_ne.mpr c21
                        by_cases c22 : (Int.tmod t169 (wrap64 (-t166))) = 0
                        · rw [if_pos c22] at H
                          have c22b0 : ((Int.tmod t169 (wrap64 (-t166))) == 0) = true := beq_iff_eq.mpr c22
                          have c22b1 : ((Int.tmod t169 (wrap64 (-t166))) != 0) = false := bne_eq_false_iff_eq.mpr c22
                          clear c22
                          by_cases c23 : (wrap64 (-t167)) = 0
                          · rw [if_pos c23] at H
                            exact absurd H (by simp)
                          · rw [if_neg c23] at H
                            have c23b0 : ((wrap64 (-t167)) == 0) = false := beq_eq_false_iff_ne.mpr c23
                            have c23b1 : ((wrap64 (-t167)) != 0) = true := bne_iff_ne.mpr c23
                            by_cases c24 : (Int.tmod t169 (wrap64 (-t167))) = 0
                            · rw [if_pos c24] at H
                              have c24b0 : ((Int.tmod t169 (wrap64 (-t167))) == 0) = true := beq_iff_eq.mpr c24
                              have c24b1 : ((Int.tmod t169 (wrap64 (-t167))) != 0) = false := bne_eq_false_iff_eq.mpr c24
                              clear c24
                              obtain rfl := Option.some.inj H
                              go_wp2
                              go_ret
                              exact ⟨by first | rfl | (simp [errW_none, errW_some] <;> rfl) | (simp [*, errW_none, errW_some] <;> rfl), by repeat (first | (with_reducible first | exact HB.out | apply below_alloc | apply pw_below_drewN | apply below_drew1) | exact HB.out)⟩
                            · rw [if_neg c24] at H
                              have c24b0 : ((Int.tmod t169 (wrap64 (-t167))) == 0) = false := beq_eq_false_iff_ne.mpr c24
                              have c24b1 : ((Int.tmod t169 (wrap64 (-t167))) != 0) = true := bne_iff_ne.mpr c24
                              obtain rfl := Option.some.inj H
                              go_wp2
                              go_ret
                              exact ⟨by first | rfl | (simp [errW_none, errW_some] <;> rfl) | (simp [*, errW_none, errW_some] <;> rfl), by repeat (first | (with_reducible first | exact HB.out | apply below_alloc | apply pw_below_drewN | apply below_drew1) | exact HB.out)⟩
                        · rw [if_neg c22] at H
                          have c22b0 : ((Int.tmod t169 (wrap64 (-t166))) == 0) = false := beq_eq_false_iff_ne.mpr c22
                          have c22b1 : ((Int.tmod t169 (wrap64 (-t166))) != 0) = true := bne_iff_ne.mpr c22
                          obtain rfl := Option.some.inj H
                          go_wp2
                          go_ret
                          exact ⟨by first | rfl | (simp [errW_none, errW_some] <;> rfl) | (simp [*, errW_none, errW_some] <;> rfl), by repeat (first | (with_reducible first | exact HB.out | apply below_alloc | apply pw_below_drewN | apply below_drew1) | exact HB.out)⟩
                    · rw [if_neg c20] at H
                      have c20b0 : ((Int.tmod (wrap64 (-t167)) t168) == 0) = false := beq_eq_false_iff_ne.mpr c20
                      have c20b1 : ((Int.tmod (wrap64 (-t167)) t168) != 0) = true := bne_iff_ne.mpr c20
                      obtain rfl := Option.some.inj H
                      go_wp2
                      go_ret
                      exact ⟨by first | rfl | (simp [errW_none, errW_some] <;> rfl) | (simp [*, errW_none, errW_some] <;> rfl), by repeat (first | (with_reducible first | exact HB.out | apply below_alloc | apply pw_below_drewN | apply below_drew1) | exact HB.out)⟩
                  · rw [if_neg c19] at H
                    have c19b0 : ((Int.tmod (wrap64 (-t166)) t168) == 0) = false := beq_eq_false_iff_ne.mpr c19
                    have c19b1 : ((Int.tmod (wrap64 (-t166)) t168) != 0) = true := bne_iff_ne.mpr c19
                    obtain rfl := Option.some.inj H
                    go_wp2
                    go_ret
                    exact ⟨by first | rfl | (simp [errW_none, errW_some] <;> rfl) | (simp [*, errW_none, errW_some] <;> rfl), by repeat (first | (with_reducible first | exact HB.out | apply below_alloc | apply pw_below_drewN | apply below_drew1) | exact HB.out)⟩
              · rw [if_neg c17] at H
                have c17b0 : decide (t167 < 0) = false := decide_eq_false c17
                clear c17
                by_cases c25 : t168 = 0
                · rw [if_pos c25] at H
                  exact absurd H (by simp)
                · rw [if_neg c25] at H
                  have c25b0 : (t168 == 0) = false := beq_eq_false_iff_ne.mpr c25
                  have c25b1 : (t168 != 0) = true := bne_iff_ne.mpr c25
                  by_cases c26 : (Int.tmod (wrap64 (-t166)) t168) = 0
                  · rw [if_pos c26] at H
                    have c26b0 : ((Int.tmod (wrap64 (-t166)) t168) == 0) = true := beq_iff_eq.mpr c26
                    have c26b1 : ((Int.tmod (wrap64 (-t166)) t168) != 0) = false := bne_eq_false_iff_eq.mpr c26
                    clear c26
                    by_cases c27 : (Int.tmod t167 t168) = 0
                    · rw [if_pos c27] at H
                      have c27b0 : ((Int.tmod t167 t168) == 0) = true := beq_iff_eq.mpr c27
                      have c27b1 : ((Int.tmod t167 t168) != 0) = false := bne_eq_false_iff_eq.mpr c27
                      clear c27
                      by_cases c28 : (wrap64 (-t166)) = 0
                      · rw [if_pos c28] at H
                        exact absurd H (by simp)
                      · rw [if_neg c28] at H
                        have c28b0 : ((wrap64 (-t166)) == 0) = false := beq_eq_false_iff_ne.mpr c28
                        have c28b1 : ((wrap64 (-t166)) != 0) = true := bne_iff_ne.mpr c28
                        by_cases c29 : (Int.tmod t169 (wrap64 (-t166))) = 0
                        · rw [if_pos c29] at H
                          have c29b0 : ((Int.tmod t169 (wrap64 (-t166))) == 0) = true := beq_iff_eq.mpr c29
                          have c29b1 : ((Int.tmod t169 (wrap64 (-t166))) != 0) = false := bne_eq_false_iff_eq.mpr c29
                          clear c29
                          by_cases c30 : t167 = 0
                          · rw [if_pos c30] at H
                            exact absurd H (by simp)
                          · rw [if_neg c30] at H
                            have c30b0 : (t167 == 0) = false := beq_eq_false_iff_ne.mpr c30
                            have c30b1 : (t167 != 0) = true := bne_iff_ne.mpr c30
                            by_cases c31 : (Int.tmod t169 t167) = 0
                            · rw [if_pos c31] at H
                              have c31b0 : ((Int.tmod t169 t167) == 0) = true := beq_iff_eq.mpr c31
                              have c31b1 : ((Int.tmod t169 t167) != 0) = false := bne_eq_false_iff_eq.mpr c31
                              clear c31
                              obtain rfl := Option.some.inj H
                              go_wp2
                              go_ret
                              exact ⟨by first | rfl | (simp [errW_none, errW_some] <;> rfl) | (simp [*, errW_none, errW_some] <;> rfl), by repeat (first | (with_reducible first | exact HB.out | apply below_alloc | apply pw_below_drewN | apply below_drew1) | exact HB.out)⟩
                            · rw [if_neg c31] at H
                              have c31b0 : ((Int.tmod t169 t167) == 0) = false := beq_eq_false_iff_ne.mpr c31
                              have c31b1 : ((Int.tmod t169 t167) != 0) = true := bne_iff_ne.mpr c31
                              obtain rfl := Option.some.inj H
                              go_wp2
                              go_ret
                              exact ⟨by first | rfl | (simp [errW_none, errW_some] <;> rfl) | (simp [*, errW_none, errW_some] <;> rfl), by repeat (first | (with_reducible first | exact HB.out | apply below_alloc | apply pw_below_drewN | apply below_drew1) | exact HB.out)⟩
                        · rw [if_neg c29] at H
                          have c29b0 : ((Int.tmod t169 (wrap64 (-t166))) == 0) = false := beq_eq_false_iff_ne.mpr c29
                          have c29b1 : ((Int.tmod t169 (wrap64 (-t166))) != 0) = true := bne_iff_ne.mpr c29
                          obtain rfl := Option.some.inj H
                          go_wp2
                          go_ret
                          exact ⟨by first | rfl | (simp [errW_none, errW_some] <;> rfl) | (simp [*, errW_none, errW_some] <;> rfl), by repeat (first | (with_reducible first | exact HB.out | apply below_alloc | apply pw_below_drewN | apply below_drew1) | exact HB.out)⟩
                    · rw [if_neg c27] at H
                      have c27b0 : ((Int.tmod t167 t168) == 0) = false := beq_eq_false_iff_ne.mpr c27
                      have c27b1 : ((Int.tmod t167 t168) != 0) = true := bne_iff_ne.mpr c27
                      obtain rfl := Option.some.inj H
                      go_wp2
                      go_ret
                      exact ⟨by first | rfl | (simp [errW_none, errW_some] <;> rfl) | (simp [*, errW_none, errW_some] <;> rfl), by repeat (first | (with_reducible first | exact HB.out | apply below_alloc | apply pw_below_drewN | apply below_drew1) | exact HB.out)⟩
                  · rw [if_neg c26] at H
                    have c26b0 : ((Int.tmod (wrap64 (-t166)) t168) == 0) = false := beq_eq_false_iff_ne.mpr c26
                    have c26b1 : ((Int.tmod (wrap64 (-t166)) t168) != 0) = true := bne_iff_ne.mpr c26
                    obtain rfl := Option.some.inj H
                    go_wp2
                    go_ret
                    exact ⟨by first | rfl | (simp [errW_none, errW_some] <;> rfl) | (simp [*, errW_none, errW_some] <;> rfl), by repeat (first | (with_reducible first | exact HB.out | apply below_alloc | apply pw_below_drewN | apply below_drew1) | exact HB.out)⟩
            · rw [if_neg c16] at H
              have c16b0 : decide (t166 < 0) = false := decide_eq_false c16
              clear c16
              by_cases c32 : t167 < 0
              · rw [if_pos c32] at H
                have c32b0 : decide (t167 < 0) = true := decide_eq_true c32
                clear c32
                by_cases c33 : t168 = 0
                · rw [if_pos c33] at H
                  exact absurd H (by simp)
                · rw [if_neg c33] at H
                  have c33b0 : (t168 == 0) = false := beq_eq_false_iff_ne.mpr c33
                  have c33b1 : (t168 != 0) = true := bne_iff_ne.mpr c33
                  by_cases c34 : (Int.tmod t166 t168) = 0
                  · rw [if_pos c34] at H
                    have c34b0 : ((Int.tmod t166 t168) == 0) = true := beq_iff_eq.mpr c34
                    have c34b1 : ((Int.tmod t166 t168) != 0) = false := bne_eq_false_iff_eq.mpr c34
                    clear c34
                    by_cases c35 : (Int.tmod (wrap64 (-t167)) t168) = 0
                    · rw [if_pos c35] at H
                      have c35b0 : ((Int.tmod (wrap64 (-t167)) t168) == 0) = true := beq_iff_eq.mpr c35
                      have c35b1 : ((Int.tmod (wrap64 (-t167)) t168) != 0) = false := bne_eq_false_iff_eq.mpr c35
                      clear c35
                      by_cases c36 : t166 = 0
                      · rw [if_pos c36] at H
                        exact absurd H (by simp)
                      · rw [if_neg c36] at H
                        have c36b0 : (t166 == 0) = false := beq_eq_false_iff_ne.mpr c36
                        have c36b1 : (t166 != 0) = true := bne_iff_ne.mpr c36
                        by_cases c37 : (Int.tmod t169 t166) = 0
                        · rw [if_pos c37] at H
                          have c37b0 : ((Int.tmod t169 t166) == 0) = true := beq_iff_eq.mpr c37
                          have c37b1 : ((Int.tmod t169 t166) != 0) = false := bne_eq_false_iff_eq.mpr c37
                          clear c37
                          by_cases c38 : (wrap64 (-t167)) = 0
                          · rw [if_pos c38] at H
                            exact absurd H (by simp)
                          · rw [if_neg c38] at H
                            have c38b0 : ((wrap64 (-t167)) == 0) = false := beq_eq_false_iff_ne.mpr c38
                            have c38b1 : ((wrap64 (-t167)) != 0) = true := bne_iff_ne.mpr c38
                            by_cases c39 : (Int.tmod t169 (wrap64 (-t167))) = 0
                            · rw [if_pos c39] at H
                              have c39b0 : ((Int.tmod t169 (wrap64 (-t167))) == 0) = true := beq_iff_eq.mpr c39
                              have c39b1 : ((Int.tmod t169 (wrap64 (-t167))) != 0) = false := bne_eq_false_iff_eq.mpr c39
                              clear c39
                              obtain rfl := Option.some.inj H
                              go_wp2
                              go_ret
                              exact ⟨by first | rfl | (simp [errW_none, errW_some] <;> rfl) | (simp [*, errW_none, errW_some] <;> rfl), by repeat (first | (with_reducible first | exact HB.out | apply below_alloc | apply pw_below_drewN | apply below_drew1) | exact HB.out)⟩
                            · rw [if_neg c39] at H
                              have c39b0 : ((Int.tmod t169 (wrap64 (-t167))) == 0) = false := beq_eq_false_iff_ne.mpr c39
                              have c39b1 : ((Int.tmod t169 (wrap64 (-t167))) != 0) = true := bne_iff_ne.mpr c39
                              obtain rfl := Option.some.inj H
                              go_wp2
                              go_ret
                              exact ⟨by first | rfl | (simp [errW_none, errW_some] <;> rfl) | (simp [*, errW_none, errW_some] <;> rfl), by repeat (first | (with_reducible first | exact HB.out | apply below_alloc | apply pw_below_drewN | apply below_drew1) | exact HB.out)⟩
                        · rw [if_neg c37] at H
                          have c37b0 : ((Int.tmod t169 t166) == 0) = false := beq_eq_false_iff_ne.mpr c37
                          have c37b1 : ((Int.tmod t169 t166) != 0) = true := bne_iff_ne.mpr c37
                          obtain rfl := Option.some.inj H
                          go_wp2
                          go_ret
                          exact ⟨by first | rfl | (simp [errW_none, errW_some] <;> rfl) | (simp [*, errW_none, errW_some] <;> rfl), by repeat (first | (with_reducible first | exact HB.out | apply below_alloc | apply pw_below_drewN | apply below_drew1) | exact HB.out)⟩
                    · rw [if_neg c35] at H
                      have c35b0 : ((Int.tmod (wrap64 (-t167)) t168) == 0) = false := beq_eq_false_iff_ne.mpr c35
                      have c35b1 : ((Int.tmod (wrap64 (-t167)) t168) != 0) = true := bne_iff_ne.mpr c35
                      obtain rfl := Option.some.inj H
                      go_wp2
                      go_ret
                      exact ⟨by first | rfl | (simp [errW_none, errW_some] <;> rfl) | (simp [*, errW_none, errW_some] <;> rfl), by repeat (first | (with_reducible first | exact HB.out | apply below_alloc | apply pw_below_drewN | apply below_drew1) | exact HB.out)⟩
                  · rw [if_neg c34] at H
                    have c34b0 : ((Int.tmod t166 t168) == 0) = false := beq_eq_false_iff_ne.mpr c34
                    have c34b1 : ((Int.tmod t166 t168) != 0) = true := bne_iff_ne.mpr c34
                    obtain rfl := Option.some.inj H
                    go_wp2
                    go_ret
                    exact ⟨by first | rfl | (simp [errW_none, errW_some] <;> rfl) | (simp [*, errW_none, errW_some] <;> rfl), by repeat (first | (with_reducible first | exact HB.out | apply below_alloc | apply pw_below_drewN | apply below_drew1) | exact HB.out)⟩
              · rw [if_neg c32] at H
                have c32b0 : decide (t167 < 0) = false := decide_eq_false c32
                clear c32
                by_cases c40 : t168 = 0
                · rw [if_pos c40] at H
                  exact absurd H (by simp)
                · rw [if_neg c40] at H
                  have c40b0 : (t168 == 0) = false := beq_eq_false_iff_ne.mpr c40
                  have c40b1 : (t168 != 0) = true := bne_iff_ne.mpr c40
                  by_cases c41 : (Int.tmod t166 t168) = 0
                  · rw [if_pos c41] at H
                    have c41b0 : ((Int.tmod t166 t168) == 0) = true := beq_iff_eq.mpr c41
                    have c41b1 : ((Int.tmod t166 t168) != 0) = false := bne_eq_false_iff_eq.mpr c41
                    clear c41
                    by_cases c42 : (Int.tmod t167 t168) = 0
                    · rw [if_pos c42] at H
                      have c42b0 : ((Int.tmod t167 t168) == 0) = true := beq_iff_eq.mpr c42
                      have c42b1 : ((Int.tmod t167 t168) != 0) = false := bne_eq_false_iff_eq.mpr c42
                      clear c42
                      by_cases c43 : t166 = 0
                      · rw [if_pos c43] at H
                        exact absurd H (by simp)
                      · rw [if_neg c43] at H
                        have c43b0 : (t166 == 0) = false := beq_eq_false_iff_ne.mpr c43
                        have c43b1 : (t166 != 0) = true := bne_iff_ne.mpr c43
                        by_cases c44 : (Int.tmod t169 t166) = 0
                        · rw [if_pos c44] at H
                          have c44b0 : ((Int.tmod t169 t166) == 0) = true := beq_iff_eq.mpr c44
                          have c44b1 : ((Int.tmod t169 t166) != 0) = false := bne_eq_false_iff_eq.mpr c44
                          clear c44
                          by_cases c45 : t167 = 0
                          · rw [if_pos c45] at H
                            exact absurd H (by simp)
                          · rw [if_neg c45] at H
                            have c45b0 : (t167 == 0) = false := beq_eq_false_iff_ne.mpr c45
                            have c45b1 : (t167 != 0) = true := bne_iff_ne.mpr c45
                            by_cases c46 : (Int.tmod t169 t167) = 0
                            · rw [if_pos c46] at H
                              have c46b0 : ((Int.tmod t169 t167) == 0) = true := beq_iff_eq.mpr c46
                              have c46b1 : ((Int.tmod t169 t167) != 0) = false := bne_eq_false_iff_eq.mpr c46
                              clear c46
                              obtain rfl := Option.some.inj H
                              go_wp2
                              go_ret
                              exact ⟨by first | rfl | (simp [errW_none, errW_some] <;> rfl) | (simp [*, errW_none, errW_some] <;> rfl), by repeat (first | (with_reducible first | exact HB.out | apply below_alloc | apply pw_below_drewN | apply below_drew1) | exact HB.out)⟩
                            · rw [if_neg c46] at H
                              have c46b0 : ((Int.tmod t169 t167) == 0) = false := beq_eq_false_iff_ne.mpr c46
                              have c46b1 : ((Int.tmod t169 t167) != 0) = true := bne_iff_ne.mpr c46
                              obtain rfl := Option.some.inj H
                              go_wp2
                              go_ret
                              exact ⟨by first | rfl | (simp [errW_none, errW_some] <;> rfl) | (simp [*, errW_none, errW_some] <;> rfl), by repeat (first | (with_reducible first | exact HB.out | apply below_alloc | apply pw_below_drewN | apply below_drew1) | exact HB.out)⟩
                        · rw [if_neg c44] at H
                          have c44b0 : ((Int.tmod t169 t166) == 0) = false := beq_eq_false_iff_ne.mpr c44
                          have c44b1 : ((Int.tmod t169 t166) != 0) = true := bne_iff_ne.mpr c44
                          obtain rfl := Option.some.inj H
                          go_wp2
                          go_ret
                          exact ⟨by first | rfl | (simp [errW_none, errW_some] <;> rfl) | (simp [*, errW_none, errW_some] <;> rfl), by repeat (first | (with_reducible first | exact HB.out | apply below_alloc | apply pw_below_drewN | apply below_drew1) | exact HB.out)⟩
                    · rw [if_neg c42] at H
                      have c42b0 : ((Int.tmod t167 t168) == 0) = false := beq_eq_false_iff_ne.mpr c42
                      have c42b1 : ((Int.tmod t167 t168) != 0) = true := bne_iff_ne.mpr c42
                      obtain rfl := Option.some.inj H
                      go_wp2
                      go_ret
                      exact ⟨by first | rfl | (simp [errW_none, errW_some] <;> rfl) | (simp [*, errW_none, errW_some] <;> rfl), by repeat (first | (with_reducible first | exact HB.out | apply below_alloc | apply pw_below_drewN | apply below_drew1) | exact HB.out)⟩
                  · rw [if_neg c41] at H
                    have c41b0 : ((Int.tmod t166 t168) == 0) = false := beq_eq_false_iff_ne.mpr c41
                    have c41b1 : ((Int.tmod t166 t168) != 0) = true := bne_iff_ne.mpr c41
                    obtain rfl := Option.some.inj H
                    go_wp2
                    go_ret
                    exact ⟨by first | rfl | (simp [errW_none, errW_some] <;> rfl) | (simp [*, errW_none, errW_some] <;> rfl), by repeat (first | (with_reducible first | exact HB.out | apply below_alloc | apply pw_below_drewN | apply below_drew1) | exact HB.out)⟩

/-- THE ONE PURE STATEMENT of laws_FnDivisors: yours. -/
def laws_FnDivisors.Pure : Prop := ∀ (l0 : List Int), l0.length ≤ maxLen → l0.length * 1 ≤ 140737488351232 → (∀ x ∈ l0, (Lit.int .u8 x).wf = true) → ∃ k, laws_FnDivisors.f k l0 = some true
theorem laws_FnDivisors.walk (P : laws_FnDivisors.Pure) (a0 : Option Addr) (len0 cap0 : Nat) (z0 : List Int) (w : World) (w0 : (a0 = none ∧ len0 = 0 ∧ cap0 = 0 ∧ z0 = []) ∨ ∃ x, a0 = some x ∧ len0 ≤ cap0 ∧ cap0 ≤ maxLen ∧ z0.length = cap0 ∧ (∀ i, i < z0.length → w.cell? (x.add i) = some (.int .u8 (z0.getD i 0))) ∧ ∀ n ∈ z0, (Lit.int .u8 n).wf = true) (y0 : len0 * 1 ≤ 140737488351232) :
    Calls Try.prog 8 #[.slice a0 len0 cap0] w fun e w' => e = .returned (.bool true) ∧ Below w.heap.size w w' := by
  obtain ⟨l0, rfl, hr0, hm0, hw0, hc0⟩ := ReadsInt.ofRowC w0
  obtain ⟨k, h⟩ := P l0 hm0 y0 hw0
  refine (laws_FnDivisors.calls k _ _ l0 true w (Kd.C_of_reads (d := (0 : Int)) (h1 := fun _ => rfl) hr0) hc0 h).mono ?_
  rintro e w' ⟨rfl, hd⟩
  exact ⟨rfl, hd⟩

end Go.Proofs.Ytgjnjimlaipjcaa.PFnDivisors
