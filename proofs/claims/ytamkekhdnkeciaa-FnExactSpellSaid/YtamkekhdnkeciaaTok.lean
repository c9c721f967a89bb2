/- A list of tokens, as it is read. -/
import Derived.Test.YtamkekhdnkeciaaPureFnExactSpell
import Derived.Deep.Slices
import Derived.ChangeArms
namespace Go.Proofs.Ytamkekhdnkeciaa.Tok
open Go.RowKit Go.Proofs.Ytamkekhdnkeciaa.MFnExactSpell Go.Proofs.YtamkekhdnkeciaaW.PrintWords Go.Proofs.YtamkekhdnkeciaaW.PrintLast
instance : Inhabited S38 := ⟨z38⟩
theorem add_add (a : Addr) (x y : Nat) : (a.add x).add y = a.add (x + y) := by
  unfold Addr.add
  by_cases hx : x = 0
  · subst hx; simp
  · by_cases hy : y = 0
    · subst hy; simp
    · have : x + y ≠ 0 := by omega
      simp [hx, hy, Nat.add_assoc]
section
variable {H : Type} {enc : TypeId × Value → H} {w : World} {base : Nat} {held : Bool}
theorem open_token {spare : Nat → Bool} {fuel : Nat} {cs : List Value} {y : DataW H × List MemPlace} (h : DataW.trod enc Try.prog w base spare held fuel 38 cs = some y) : ∃ t : S38, cs = [.int .i64 t.f0, .string t.f1, .int .i64 t.f2] ∧ t.f1.size ≤ maxLen := by
  obtain ⟨xs, m, _, _, hlen, hx, hf⟩ := DataW.trod_struct Try.underlying38 h
  have hc : Try.prog.cellsOf 38 = 3 := by kernel_rfl
  have c3 : Try.prog.cellsOf 3 = 1 := by kernel_rfl
  have c9 : Try.prog.cellsOf 9 = 1 := by kernel_rfl
  rw [hc] at hlen
  have hx : xs.length = 3 := hx
  match cs, hlen with
  | [u0, u1, u2], _ =>
    have h0 := hf 0 _ rfl
    have h1 := hf 1 _ rfl
    have h2 := hf 2 _ rfl
    change DataW.trod enc Try.prog w base spare held m 3 (([u0, u1, u2].drop 0).take (Try.prog.cellsOf 3)) = xs[0]? at h0
    change DataW.trod enc Try.prog w base spare held m 9 (([u0, u1, u2].drop 1).take (Try.prog.cellsOf 9)) = xs[1]? at h1
    change DataW.trod enc Try.prog w base spare held m 3 (([u0, u1, u2].drop 2).take (Try.prog.cellsOf 3)) = xs[2]? at h2
    rw [c3, List.getElem?_eq_getElem (by omega)] at h0 h2
    rw [c9, List.getElem?_eq_getElem (by omega)] at h1
    obtain ⟨n0, e0, _, _⟩ := DataW.trod_int Try.underlying3 h0
    obtain ⟨s1, e1, _, hs⟩ := DataW.trod_string Try.underlying9 h1
    obtain ⟨n2, e2, _, _⟩ := DataW.trod_int Try.underlying3 h2
    obtain rfl := List.singleton_inj.1 e0
    obtain rfl := List.singleton_inj.1 e1
    obtain rfl := List.singleton_inj.1 e2
    exact ⟨⟨n0, s1, n2⟩, rfl, hs⟩
def TRow (w : World) (a : Option Addr) (len cap : Nat) (l : List S38) : Prop := l.length = len ∧ len ≤ cap ∧ cap ≤ maxLen ∧ Kd.C k38 w a len l ∧ ∀ t ∈ l, t.f1.size ≤ maxLen
theorem open_tokens {fuel : Nat} {b : Option Addr} {len cap : Nat} {x : DataW H × List MemPlace}
    (h : DataW.trod enc Try.prog w base (fun _ => true) held fuel 27 [.slice b len cap] = some x) : ∃ l, TRow w b len cap l := by
  rcases Deep.open_slice Try.underlying27 h with ⟨h0, _⟩ | ⟨a, len', cap', m, n, D, Pl, h0, hb, hl, hm, hmm, _, hx⟩
  · simp only [List.cons.injEq, Value.slice.injEq, and_true] at h0
    obtain ⟨rfl, rfl, rfl⟩ := h0
    exact ⟨[], rfl, Nat.le_refl _, by unfold maxLen; omega, ⟨rfl, by omega, fun h => absurd h (by omega)⟩, fun x hx => by cases hx⟩
  · simp only [List.cons.injEq, Value.slice.injEq, and_true] at h0
    obtain ⟨rfl, rfl, rfl⟩ := h0
    simp only [if_true] at hmm
    subst hmm
    have hc : Try.prog.cellsOf 38 = 3 := by kernel_rfl
    rw [hc] at hx
    obtain ⟨F, hF⟩ := Deep.choose_lt (α := S38) (p := fun i t => (∀ j u, [Value.int .i64 t.f0, .string t.f1, .int .i64 t.f2][j]? = some u → w.cell? (a.add (i * 3 + j)) = some u) ∧ t.f1.size ≤ maxLen) (fun i hi => by
      obtain ⟨cs, h1, h2⟩ := hx i hi
      obtain ⟨t, rfl, hs⟩ := open_token h2
      obtain ⟨_, _, hcell⟩ := World.cells?_some h1
      refine ⟨t, fun j u hj => ?_, hs⟩
      have hj3 : j < 3 := by
        obtain ⟨hlt, _⟩ := List.getElem?_eq_some_iff.1 hj
        exact hlt
      rw [← add_add, hcell j hj3]
      exact hj)
    have hm' := hm
    unfold maxLen at hm'
    refine ⟨(List.range len).map F, by simp, hl, hm, ⟨by simp, by omega, fun hp => ⟨a, rfl, fun j p hj => ?_⟩⟩, fun t ht => ?_⟩
    · obtain ⟨hlt, rfl⟩ := List.getElem?_eq_some_iff.1 hj
      simp only [List.length_map, List.length_range] at hlt
      have e : ((List.range len).map F)[j] = F j := by simp
      rw [e]
      exact ⟨[.int .i64 (F j).f0, .string (F j).f1, .int .i64 (F j).f2], rfl, ⟨[.int .i64 (F j).f0], [.string (F j).f1, .int .i64 (F j).f2], rfl, rfl, ⟨[.string (F j).f1], [.int .i64 (F j).f2], rfl, rfl, rfl⟩⟩, (hF j (by omega)).1⟩
    · obtain ⟨i, hi, rfl⟩ := List.mem_map.1 ht
      exact (hF i (by have := List.mem_range.1 hi; omega)).2
end
theorem spell_row (a : Option Addr) (len cap : Nat) (l : List S38) (w : World) (h : TRow w a len cap l) : Calls Try.prog 4 #[.slice a len cap] w fun e w' => e = .returned (.bool true) ∧ Below w.heap.size w w' := by
  obtain ⟨rfl, h1, h2, h3, h4⟩ := h
  unfold maxLen at h2 h4
  obtain ⟨k, hk⟩ := Pure.FnExactSpell l (by omega) h4
  exact laws_FnExactSpell.calls k a cap l true w h3 h1 hk
end Go.Proofs.Ytamkekhdnkeciaa.Tok
