/- FloatSum answers as the reference at every list of floats, and leaves it. -/
import Derived.Test.YtebkbodkkehmfaaFlH
import Derived.Deep.Slices
namespace Go.Proofs.Ytebkbodkkehmfaa.Fl
open Go.RowKit Go.Proofs.YtebkbodkkehmfaaW.PrintWords Go.Proofs.YtebkbodkkehmfaaW.PrintLast Go.Proofs.YtebkbodkkehmfaaW.PrintMore Go.Proofs.Ytebkbodkkehmfaa.F64
set_option linter.unusedVariables false
set_option linter.unusedSimpArgs false

theorem pw_below_drewN' {B : Nat} {w W : World} (h : Below B w W) (n : Nat) : Below B w (W.drewN n) := ⟨h.os, h.tape, h.output, h.size, h.block⟩

set_option maxHeartbeats 8000000 in
theorem eq_calls (A B : Option Addr) (c d : Nat) (l : List Nat) (w : World) (hA : Kd.C FK w A l.length l) (hB : Kd.C FK w B l.length l) (hl : l.length ≤ 1048576) (hb : ∀ x ∈ l, x < 2 * S) : Calls Try.prog 12 #[.slice A l.length c, .slice B l.length d] w fun e w' => e = .returned (.bool true) ∧ Drawn0 w w' := by
  have HA := Aside0.mk hA
  have HB := Aside0.mk hB
  have HS := Aside0.mk hb
  clear hA hB hb
  go_enter Try.func12, Try.ntmps12
  go_wp2_with fail
  go_loopg [5] (l.length + 1) (fun kq v5 w' => ∃ j : Nat, v5 = .int .i64 (j : Int) ∧ j + kq = l.length + 1 ∧ j ≤ l.length ∧ Drawn0 w w')
  case atStart => exact ⟨0, rfl, by omega, by omega, Drawn0.refl _⟩
  case round =>
    obtain ⟨j, rfl, hj, hj2, ⟨m1, rfl⟩⟩ := hrel
    have HD := Aside0.mk (show Drawn0 w (w.drewN m1) from ⟨⟨m1, rfl⟩⟩)
    cases gk with
    | zero => exact absurd hj2 (by omega)
    | succ k1 =>
      by_cases hlt : j < l.length
      · obtain ⟨a1, e1, h1⟩ := at_float (Kd.C_drewN HA.out m1) (j : Int) (by omega) (by omega)
        obtain ⟨a2, e2, h2⟩ := at_float (Kd.C_drewN HB.out m1) (j : Int) (by omega) (by omega)
        cases e1
        cases e2
        rw [rdOf_at hlt, Int.toNat_natCast] at h1 h2
        have HQ := fun w => same_calls l[j] l[j] (HS.out _ (List.getElem_mem hlt)) (.inl rfl) w
        generalize l[j] = y at *
        generalize w.drewN m1 = W at *
        have p1 : (0 ≤ (j : Int)) = True := eq_true (by omega)
        have p2 : ((j : Int) < (l.length : Int)) = True := eq_true (by omega)
        go_wp2
        go_quiet (exact Calls.quiet_of_same (HQ _))
        go_wp2
        go_roundg k1
        case measure => omega
        case rel => exact ⟨j + 1, by go_num, by omega, by omega, Drawn0.step HD.out _⟩
      · go_wp2
        go_ret
        exact ⟨rfl, ⟨⟨m1, rfl⟩⟩⟩
set_option maxHeartbeats 8000000 in
theorem sum_walk (A : Option Addr) (c : Nat) (l : List Nat) (w : World) (hC : Kd.C FK w A l.length l) (hc : l.length ≤ c) (hb : ∀ x ∈ l, x < 2 * S) : Calls Try.prog 3 #[.slice A l.length c] w fun e w' => e = .returned (.bool true) ∧ Below w.heap.size w w' := by
  have HC := Aside0.mk hC
  have HH := Aside0.mk hc
  have HS := Aside0.mk hb
  clear hC hc hb
  by_cases hl : l.length ≤ 1048576
  · have HT := Aside0.mk (copy_eq (l.length + 1) l hl (by omega))
    have hgt : ¬ (l.length : Int) > 1048576 := by omega
    go_enter Try.func3, Try.ntmps3
    go_wp2_with (first | ((with_reducible refine gate_callee (f := 9) rfl ?_); refine goesL_ (some 10) rfl rfl Try.func9 (by kernel_rfl) rfl #[.slice A l.length c] rfl (by (try simp only [List.map_toArray, List.map_cons, List.map_nil]); first | done | rfl) ?_; (with_reducible refine (toFloat64S.calls _ _ _ l l _ HC.out HH.out HT.out).mono ?_); rintro e w' ⟨v1, rfl, ho1, hb1⟩; refine ⟨_, rfl, ?_⟩; obtain ⟨A1, c1, e1⟩ := Kd.R_slice ho1; subst e1; have C1 := Aside0.mk (Kd.R_reads' ho1).2.2; have B1 := Aside0.mk hb1; clear ho1 hb1) | ((with_reducible refine gate_callee (f := 8) rfl ?_); refine goesL_ (some 11) rfl rfl Try.func8 (by kernel_rfl) rfl #[.slice A1 l.length c1] rfl (by (try simp only [List.map_toArray, List.map_cons, List.map_nil]); first | done | rfl) ?_; (with_reducible refine (sum8_calls _ _ l _ C1.out hl).mono ?_); rintro e w' ⟨s1, rfl, hs1, ⟨m1, rfl⟩⟩; refine ⟨_, rfl, ?_⟩; have S1 := Aside0.mk hs1; have B2 := Aside0.mk (pw_below_drewN' B1.out m1); clear hs1) | ((with_reducible refine gate_callee (f := 9) rfl ?_); refine goesL_ (some 13) rfl rfl Try.func9 (by kernel_rfl) rfl #[.slice A l.length c] rfl (by (try simp only [List.map_toArray, List.map_cons, List.map_nil]); first | done | rfl) ?_; (with_reducible refine (toFloat64S.calls _ _ _ l l _ (Kd.C_below HC.out B2.out) HH.out HT.out).mono ?_); rintro e w' ⟨v2, rfl, ho2, hb2⟩; refine ⟨_, rfl, ?_⟩; obtain ⟨A2, c2, e2⟩ := Kd.R_slice ho2; subst e2; have C2 := Aside0.mk (Kd.R_reads' ho2).2.2; have B3 := Aside0.mk (below_step B2.out hb2); clear ho2 hb2) | ((with_reducible refine gate_callee (f := 10) rfl ?_); refine goesL_ (some 15) rfl rfl Try.func10 (by kernel_rfl) rfl #[.slice A2 l.length c2] rfl (by (try simp only [List.map_toArray, List.map_cons, List.map_nil]); first | done | rfl) ?_; (with_reducible refine (sum10_calls _ _ l _ C2.out hl).mono ?_); rintro e w' ⟨s2, rfl, hs2, ⟨m2, rfl⟩⟩; refine ⟨_, rfl, ?_⟩; have Q := Aside0.mk (fun w => same_calls s2 s1 hs2.2 (sum_alike hs2 S1.out) w); have C3 := Aside0.mk (Kd.C_drewN C2.out m2); have B4 := Aside0.mk (pw_below_drewN' B3.out m2); clear hs2) | ((with_reducible refine gate_callee (f := 11) rfl ?_); refine goesL_ (some 18) rfl rfl Try.func11 (by kernel_rfl) rfl #[.float .f64 s2, .float .f64 s1] rfl (by (try simp only [List.map_toArray, List.map_cons, List.map_nil]); first | done | rfl) ?_; (with_reducible refine (Q.out _).mono ?_); rintro e w' ⟨rfl, rfl⟩; refine ⟨_, rfl, ?_⟩) | ((with_reducible refine gate_callee (f := 9) rfl ?_); refine goesL_ (some 22) rfl rfl Try.func9 (by kernel_rfl) rfl #[.slice A l.length c] rfl (by (try simp only [List.map_toArray, List.map_cons, List.map_nil]); first | done | rfl) ?_; (with_reducible refine (toFloat64S.calls _ _ _ l l _ (Kd.C_below HC.out B4.out) HH.out HT.out).mono ?_); rintro e w' ⟨v3, rfl, ho3, hb3⟩; refine ⟨_, rfl, ?_⟩; obtain ⟨A3, c3, e3⟩ := Kd.R_slice ho3; subst e3; have C4 := Aside0.mk (Kd.R_reads' ho3).2.2; have C5 := Aside0.mk (Kd.C_below C3.out hb3); have B5 := Aside0.mk (below_step B4.out hb3); clear ho3 hb3) | ((with_reducible refine gate_callee (f := 12) rfl ?_); refine goesL_ (some 23) rfl rfl Try.func12 (by kernel_rfl) rfl #[.slice A2 l.length c2, .slice A3 l.length c3] rfl (by (try simp only [List.map_toArray, List.map_cons, List.map_nil]); first | done | rfl) ?_; (with_reducible refine (eq_calls _ _ _ _ l _ C5.out C4.out hl HS.out).mono ?_); rintro e w' ⟨rfl, ⟨m3, rfl⟩⟩; refine ⟨_, rfl, ?_⟩))
    go_ret
    exact ⟨rfl, pw_below_drewN' B5.out m3⟩
  · have hgt : (l.length : Int) > 1048576 := by omega
    go_enter Try.func3, Try.ntmps3
    go_wp2
    go_ret
    exact ⟨rfl, Below.refl _ _⟩
section
variable {H : Type} {enc : TypeId × Value → H} {P : Program} {w : World} {base : Nat} {held : Bool}
theorem trod_float {spare : Nat → Bool} {fuel : Nat} {t : TypeId} {cs : List Value} {y : DataW H × List MemPlace} {k : FloatKind} (ht : P.underlying t = some (.float k)) (h : DataW.trod enc P w base spare held fuel t cs = some y) : ∃ b, cs = [.float k b] ∧ (Lit.float k b).wf = true := by
  cases fuel with
  | zero => simp [DataW.trod] at h
  | succ m =>
    unfold DataW.trod at h
    rw [ht] at h
    split at h <;> simp_all
/-- A row of floats, as it is read. -/
def FRow (w : World) (a : Option Addr) (len cap : Nat) (l : List Nat) : Prop := l.length = len ∧ len ≤ cap ∧ Kd.C FK w a len l ∧ ∀ x ∈ l, x < 2 * S
theorem open_floats {t e : TypeId} {fuel : Nat} {b : Option Addr} {len cap : Nat} {x : DataW H × List MemPlace} (ht : P.underlying t = some (.slice e)) (he : P.underlying e = some (.float .f64)) (hc : P.cellsOf e = 1)
    (h : DataW.trod enc P w base (fun _ => true) held fuel t [.slice b len cap] = some x) : ∃ l, FRow w b len cap l := by
  rcases Deep.open_slice1 ht hc h with ⟨h0, _⟩ | ⟨a, len', cap', m, n, V, D, Pl, h0, hb, hl, hm, hmm, _, hx⟩
  · simp only [List.cons.injEq, Value.slice.injEq, and_true] at h0
    obtain ⟨rfl, rfl, rfl⟩ := h0
    refine ⟨[], rfl, Nat.le_refl _, Kd.C_of_reads (d := (0 : Nat)) (h1 := fun _ => rfl) ⟨rfl, by omega, fun h => by omega⟩, fun x hx => by cases hx⟩
  · simp only [List.cons.injEq, Value.slice.injEq, and_true] at h0
    obtain ⟨rfl, rfl, rfl⟩ := h0
    simp only [if_true] at hmm
    subst hmm
    obtain ⟨B, hB⟩ := Deep.choose_lt (α := Nat) (p := fun i b => V i = .float .f64 b ∧ (Lit.float .f64 b).wf = true) (fun i hi => by
      obtain ⟨b, h1, h2⟩ := trod_float he (hx i hi).2
      exact ⟨b, by simpa using h1, h2⟩)
    unfold maxLen at hm
    refine ⟨(List.range len).map B, by simp, hl, Kd.C_of_reads (d := (0 : Nat)) (h1 := fun _ => rfl) ⟨by simp, by omega, fun hp => ⟨a, rfl, fun j hj => ?_⟩⟩, fun x hx => ?_⟩
    · rw [(hx j (by omega)).1, (hB j (by omega)).1]
      simp [List.getD, hj]
    · obtain ⟨i, hi, rfl⟩ := List.mem_map.1 hx
      exact wf_lt (hB i (by have := List.mem_range.1 hi; omega)).2
end
theorem sum_row (a : Option Addr) (len cap : Nat) (l : List Nat) (w : World) (h : FRow w a len cap l) : Calls Try.prog 3 #[.slice a len cap] w fun e w' => e = .returned (.bool true) ∧ Below w.heap.size w w' := by
  obtain ⟨rfl, h1, h2, h3⟩ := h
  exact sum_walk a cap l w h2 h1 h3
end Go.Proofs.Ytebkbodkkehmfaa.Fl
