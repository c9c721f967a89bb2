/- The sums of a list of floats. -/
import Derived.Test.YtebkbodkkehmfaaFlG
namespace Go.Proofs.Ytebkbodkkehmfaa.Fl
open Go.RowKit Go.Proofs.YtebkbodkkehmfaaW.PrintWords Go.Proofs.YtebkbodkkehmfaaW.PrintLast Go.Proofs.YtebkbodkkehmfaaW.PrintMore Go.Proofs.Ytebkbodkkehmfaa.F64
set_option linter.unusedVariables false
set_option linter.unusedSimpArgs false

theorem add_law (x y r : Nat) (h : Ieee.double.add x y = some r) (t : TypeId) (w : World) : (binOp .add t (.float .f64 x) (.float .f64 y)).run Try.prog w = .ok (.float .f64 r) w := run_float_arith w .add t .f64 x y r h
theorem add_none (x y : Nat) (h : Ieee.double.add x y = none) (t : TypeId) (w : World) : (binOp .add t (.float .f64 x) (.float .f64 y)).run Try.prog w = .ok (.float .f64 (nanW x y w)) w.drew := by
  have h' : FloatKind.f64.format.add x y = none := h
  have hq : (Question.nanBits .f64 x y).forced = false := rfl
  simp [binOp, Op.floatArith, h', hq, nanW]
/-- the sum so far, none where it is a NaN -/
def sumC (l : List Nat) : Option Nat := l.foldl (fun c y => c.bind fun x => Ieee.double.add x y) (some 0)
def SumIs (l : List Nat) (s : Nat) : Prop := (sumC l = some s ∨ (sumC l = none ∧ isNaN s = true)) ∧ s < 2 * S
def AddIs (x y r : Nat) : Prop := Ieee.double.add x y = some r ∨ (Ieee.double.add x y = none ∧ isNaN r = true ∧ r < 2 * S)
theorem sum_nil : SumIs ([] : List Nat) 0 := ⟨.inl rfl, by decide⟩
theorem add_nan {x : Nat} (h : isNaN x = true) (y : Nat) : Ieee.double.add x y = none := by
  unfold Ieee.Format.add
  have hr : I < rung x := by unfold isNaN at h; simpa using h
  rw [read_eq, if_neg (by omega), if_neg (by omega)]
  rfl
theorem sum_step {l : List Nat} {i s r : Nat} (hi : i < l.length) (h : SumIs (l.take i) s) (ha : AddIs s l[i] r) : SumIs (l.take (i + 1)) r := by
  refine ⟨?_, by
    rcases ha with h3 | h3
    · exact Ieee.double.add_lt h3
    · exact h3.2.2⟩
  have e : sumC (l.take (i + 1)) = (sumC (l.take i)).bind fun x => Ieee.double.add x l[i] := by
    unfold sumC
    rw [List.take_succ_eq_append_getElem hi, List.foldl_append]; rfl
  rw [e]
  rcases h.1 with h1 | ⟨h1, h2⟩
  · rw [h1]
    rcases ha with h3 | h3
    · exact .inl h3
    · exact .inr ⟨h3.1, h3.2.1⟩
  · rw [h1]
    refine .inr ⟨rfl, ?_⟩
    rcases ha with h3 | h3
    · rw [add_nan h2] at h3; cases h3
    · exact h3.2.1
theorem sum_alike {l : List Nat} {s r : Nat} (h1 : SumIs l s) (h2 : SumIs l r) : s = r ∨ (isNaN s = true ∧ isNaN r = true) := by
  rcases h1.1 with a | ⟨a, b⟩ <;> rcases h2.1 with c | ⟨c, d⟩
  · rw [a] at c; exact .inl (Option.some.inj c)
  · rw [a] at c; cases c
  · rw [a] at c; cases c
  · exact .inr ⟨b, d⟩

set_option maxHeartbeats 8000000 in
theorem sum8_calls (A : Option Addr) (c : Nat) (l : List Nat) (w : World) (hC : Kd.C FK w A l.length l) (hl : l.length ≤ 1048576) : Calls Try.prog 8 #[.slice A l.length c] w fun e w' => ∃ s : Nat, e = .returned (.float .f64 s) ∧ SumIs l s ∧ Drawn0 w w' := by
  have HC := Aside0.mk hC
  clear hC
  go_enter Try.func8, Try.ntmps8
  go_wp2_with fail
  go_loopg [3, 4] (l.length + 1) (fun kq v3 v4 w' => ∃ (i s : Nat), v3 = .float .f64 s ∧ v4 = .int .i64 (i : Int) ∧ i + kq = l.length + 1 ∧ i ≤ l.length ∧ Aside0 (SumIs (l.take i) s) ∧ Drawn0 w w')
  case atStart => exact ⟨0, 0, rfl, rfl, by omega, by omega, ⟨sum_nil⟩, Drawn0.refl _⟩
  case round =>
    obtain ⟨i, s, rfl, rfl, hi, hi2, HS, ⟨m1, rfl⟩⟩ := hrel
    cases gk with
    | zero => exact absurd hi2 (by omega)
    | succ k1 =>
      by_cases hlt : i < l.length
      · obtain ⟨ad, ea, hc⟩ := at_float (Kd.C_drewN HC.out m1) (i : Int) (by omega) (by omega)
        cases ea
        rw [rdOf_at hlt, Int.toNat_natCast] at hc
        have HN : ∀ s', AddIs s l[i] s' → SumIs (l.take (i + 1)) s' := fun s' h => sum_step hlt HS.out h
        generalize l[i] = y at *
        cases hadd : Ieee.double.add s y
        · have q := add_none s y hadd
          have HN2 := fun W => HN _ (.inr ⟨hadd, nanW_nan s y W, nanW_lt s y W⟩)
          have HN3 := Aside0.mk HN2
          clear HN HN2 HS
          go_wp2_with (simp only [q])
          go_roundg k1
          case measure => omega
          case rel => exact ⟨i + 1, _, rfl, by go_num, by omega, by omega, ⟨HN3.out _⟩, Drawn0.step ⟨⟨m1, rfl⟩⟩ 1⟩
        · rename_i r
          have q := add_law s y r hadd
          have HN2 := HN _ (.inl hadd)
          have HN3 := Aside0.mk HN2
          clear HN HN2 HS
          go_wp2_with (simp only [q])
          go_roundg k1
          case measure => omega
          case rel => exact ⟨i + 1, _, rfl, by go_num, by omega, by omega, HN3, ⟨⟨m1, rfl⟩⟩⟩
      · have hS := HS.out
        rw [List.take_of_length_le (by omega)] at hS
        have HS2 := Aside0.mk hS
        clear hS HS
        go_wp2
        go_ret
        exact ⟨_, rfl, HS2.out, ⟨⟨m1, rfl⟩⟩⟩

set_option maxHeartbeats 8000000 in
theorem sum10_calls (A : Option Addr) (c : Nat) (l : List Nat) (w : World) (hC : Kd.C FK w A l.length l) (hl : l.length ≤ 1048576) : Calls Try.prog 10 #[.slice A l.length c] w fun e w' => ∃ s : Nat, e = .returned (.float .f64 s) ∧ SumIs l s ∧ Drawn0 w w' := by
  have HC := Aside0.mk hC
  clear hC
  go_enter Try.func10, Try.ntmps10
  go_wp2_with fail
  go_loopg [3, 8] (l.length + 1) (fun kq v3 v4 w' => ∃ (i s : Nat), v3 = .float .f64 s ∧ v4 = .int .i64 (i : Int) ∧ i + kq = l.length + 1 ∧ i ≤ l.length ∧ Aside0 (SumIs (l.take i) s) ∧ Drawn0 w w')
  case atStart => exact ⟨0, 0, rfl, rfl, by omega, by omega, ⟨sum_nil⟩, Drawn0.refl _⟩
  case round =>
    obtain ⟨i, s, rfl, rfl, hi, hi2, HS, ⟨m1, rfl⟩⟩ := hrel
    cases gk with
    | zero => exact absurd hi2 (by omega)
    | succ k1 =>
      by_cases hlt : i < l.length
      · obtain ⟨ad, ea, hc⟩ := at_float (Kd.C_drewN HC.out m1) (i : Int) (by omega) (by omega)
        cases ea
        rw [rdOf_at hlt, Int.toNat_natCast] at hc
        have HN : ∀ s', AddIs s l[i] s' → SumIs (l.take (i + 1)) s' := fun s' h => sum_step hlt HS.out h
        generalize l[i] = y at *
        cases hadd : Ieee.double.add s y
        · have q := add_none s y hadd
          have HN2 := fun W => HN _ (.inr ⟨hadd, nanW_nan s y W, nanW_lt s y W⟩)
          have HN3 := Aside0.mk HN2
          clear HN HN2 HS
          go_wp2_with (simp only [q])
          go_roundg k1
          case measure => omega
          case rel => exact ⟨i + 1, _, rfl, by go_num, by omega, by omega, ⟨HN3.out _⟩, Drawn0.step ⟨⟨m1, rfl⟩⟩ 1⟩
        · rename_i r
          have q := add_law s y r hadd
          have HN2 := HN _ (.inl hadd)
          have HN3 := Aside0.mk HN2
          clear HN HN2 HS
          go_wp2_with (simp only [q])
          go_roundg k1
          case measure => omega
          case rel => exact ⟨i + 1, _, rfl, by go_num, by omega, by omega, HN3, ⟨⟨m1, rfl⟩⟩⟩
      · have hS := HS.out
        rw [List.take_of_length_le (by omega)] at hS
        have HS2 := Aside0.mk hS
        clear hS HS
        go_wp2
        go_ret
        exact ⟨_, rfl, HS2.out, ⟨⟨m1, rfl⟩⟩⟩
end Go.Proofs.Ytebkbodkkehmfaa.Fl
