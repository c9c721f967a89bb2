/- A list of variables, as it is read: their names, numbers and powers. -/
import Derived.Test.YtjdndacollpjkaaMFnExactVarAtx3
import Derived.Deep.Slices
import Derived.ChangeArms
import Derived.ProofKit
namespace Go.Proofs.Ytjdndacollpjkaa.Vr
open Go.ChangeShapes Go.WideShapes Go.ChangeAt Go.RowKit Go.Proofs.Ytjdndacollpjkaa.MFnExactVarAt Go.Proofs.YtjdndacollpjkaaW.PrintWords Go.Proofs.YtjdndacollpjkaaW.PrintLast
instance : Inhabited S80 := ⟨z80⟩
theorem add_add (a : Addr) (x y : Nat) : (a.add x).add y = a.add (x + y) := by
  unfold Addr.add
  by_cases hx : x = 0
  · subst hx; simp
  · by_cases hy : y = 0
    · subst hy; simp
    · have : x + y ≠ 0 := by omega
      simp [hx, hy, Nat.add_assoc]
section
variable {H : Type} {enc : TypeId × Value → H} {w : World} {base : Nat} {held : Bool}
theorem open_row {t e : TypeId} {k : IntKind} {fuel : Nat} {v : Value} {y : DataW H × List MemPlace} (ht : Try.prog.underlying t = some (.slice e)) (he : Try.prog.underlying e = some (.int k)) (hc : Try.prog.cellsOf e = 1)
    (h : DataW.trod enc Try.prog w base (fun _ => true) held fuel t [v] = some y) : ∃ (A : Option Addr) (c : Nat) (l : List Int), v = .slice A l.length c ∧ l.length ≤ c ∧ l.length ≤ maxLen ∧ (Kd.int k).C w A l.length l := by
  rcases open_ints ht he hc h with ⟨hcs, _⟩ | ⟨x, len, cap, zs, hcs, _, hl, hm, hz, _, hcell, hwz⟩
  · obtain rfl := List.singleton_inj.1 hcs
    exact ⟨none, 0, [], rfl, Nat.le_refl _, by unfold maxLen; decide, ⟨rfl, by decide, fun h => absurd h (by decide)⟩⟩
  · obtain rfl := List.singleton_inj.1 hcs
    obtain ⟨l0, hl0, hr0, hm0, _, hc0⟩ := ReadsInt.ofRowC (w := w) (k := k) (a := some x) (len := len) (cap := cap) (zs := zs) (.inr ⟨x, rfl, hl, hm, by simpa using hz, hcell, hwz⟩)
    subst hl0
    exact ⟨some x, cap, l0, rfl, hc0, hm0, Kd.C_of_reads (d := (0 : Int)) (h1 := fun _ => rfl) hr0⟩
theorem of2 {cs : List Value} (h : cs.length = 2) : ∃ a b, cs = [a, b] := by
  match cs, h with
  | [a, b], _ => exact ⟨a, b, rfl⟩
theorem of4 {cs : List Value} (h : cs.length = 4) : ∃ a b c d, cs = [a, b, c, d] := by
  match cs, h with
  | [a, b, c, d], _ => exact ⟨a, b, c, d, rfl⟩
theorem of7 {cs : List Value} (h : cs.length = 7) : ∃ a b c d e f g, cs = [a, b, c, d, e, f, g] := by
  match cs, h with
  | [a, b, c, d, e, f, g], _ => exact ⟨a, b, c, d, e, f, g, rfl⟩
theorem c3 : Try.prog.cellsOf 3 = 1 := by kernel_rfl
theorem c4 : Try.prog.cellsOf 4 = 1 := by kernel_rfl
theorem c9 : Try.prog.cellsOf 9 = 1 := by kernel_rfl
theorem c22 : Try.prog.cellsOf 22 = 1 := by kernel_rfl
theorem c24 : Try.prog.cellsOf 24 = 2 := by kernel_rfl
theorem c58 : Try.prog.cellsOf 58 = 1 := by kernel_rfl
theorem c76 : Try.prog.cellsOf 76 = 2 := by kernel_rfl
theorem c78 : Try.prog.cellsOf 78 = 4 := by kernel_rfl
theorem c80 : Try.prog.cellsOf 80 = 7 := by kernel_rfl
theorem c119 : Try.prog.cellsOf 119 = 1 := by kernel_rfl
theorem open_big {fuel : Nat} {cs : List Value} {y : DataW H × List MemPlace} (h : DataW.trod enc Try.prog w base (fun _ => true) held fuel 76 cs = some y) :
    ∃ (b : Bool) (A : Option Addr) (c : Nat) (l : List Int), cs = [.bool b, .slice A l.length c] ∧ l.length ≤ c ∧ l.length ≤ maxLen ∧ (Kd.int .u32).C w A l.length l := by
  obtain ⟨xs, m, _, _, hlen, hx, hf⟩ := DataW.trod_struct Try.underlying76 h
  rw [c76] at hlen
  have hx : xs.length = 2 := hx
  obtain ⟨u0, u1, rfl⟩ := of2 hlen
  · skip
    have h0 := hf 0 _ rfl
    have h1 := hf 1 _ rfl
    change DataW.trod enc Try.prog w base (fun _ => true) held m 4 (([u0, u1].drop 0).take (Try.prog.cellsOf 4)) = xs[0]? at h0
    change DataW.trod enc Try.prog w base (fun _ => true) held m 58 (([u0, u1].drop 1).take (Try.prog.cellsOf 58)) = xs[1]? at h1
    rw [c4, List.getElem?_eq_getElem (by omega)] at h0
    rw [c58, List.getElem?_eq_getElem (by omega)] at h1
    obtain ⟨b0, e0, _⟩ := DataW.trod_bool Try.underlying4 h0
    obtain rfl := List.singleton_inj.1 e0
    obtain ⟨A, c, l, rfl, g⟩ := open_row Try.underlying58 Try.underlying119 c119 h1
    exact ⟨b0, A, c, l, rfl, g⟩
theorem open_vec {fuel : Nat} {cs : List Value} {y : DataW H × List MemPlace} (h : DataW.trod enc Try.prog w base (fun _ => true) held fuel 24 cs = some y) :
    ∃ (n : Int) (A : Option Addr) (c : Nat) (l : List Int), cs = [.int .i64 n, .slice A l.length c] ∧ l.length ≤ c ∧ l.length ≤ maxLen ∧ (Kd.int .i64).C w A l.length l := by
  obtain ⟨xs, m, _, _, hlen, hx, hf⟩ := DataW.trod_struct Try.underlying24 h
  rw [c24] at hlen
  have hx : xs.length = 2 := hx
  obtain ⟨u0, u1, rfl⟩ := of2 hlen
  · skip
    have h0 := hf 0 _ rfl
    have h1 := hf 1 _ rfl
    change DataW.trod enc Try.prog w base (fun _ => true) held m 3 (([u0, u1].drop 0).take (Try.prog.cellsOf 3)) = xs[0]? at h0
    change DataW.trod enc Try.prog w base (fun _ => true) held m 22 (([u0, u1].drop 1).take (Try.prog.cellsOf 22)) = xs[1]? at h1
    rw [c3, List.getElem?_eq_getElem (by omega)] at h0
    rw [c22, List.getElem?_eq_getElem (by omega)] at h1
    obtain ⟨n0, e0, _, _⟩ := DataW.trod_int Try.underlying3 h0
    obtain rfl := List.singleton_inj.1 e0
    obtain ⟨A, c, l, rfl, g⟩ := open_row Try.underlying22 Try.underlying3 c3 h1
    exact ⟨n0, A, c, l, rfl, g⟩
theorem open_rat {fuel : Nat} {cs : List Value} {y : DataW H × List MemPlace} (h : DataW.trod enc Try.prog w base (fun _ => true) held fuel 78 cs = some y) :
    ∃ a b c d, cs = [a, b, c, d] ∧ (∃ m y, DataW.trod enc Try.prog w base (fun _ => true) held m 76 [a, b] = some y) ∧ (∃ m y, DataW.trod enc Try.prog w base (fun _ => true) held m 76 [c, d] = some y) := by
  obtain ⟨xs, m, _, _, hlen, hx, hf⟩ := DataW.trod_struct Try.underlying78 h
  rw [c78] at hlen
  have hx : xs.length = 2 := hx
  obtain ⟨u0, u1, u2, u3, rfl⟩ := of4 hlen
  · skip
    have h0 := hf 0 _ rfl
    have h1 := hf 1 _ rfl
    change DataW.trod enc Try.prog w base (fun _ => true) held m 76 (([u0, u1, u2, u3].drop 0).take (Try.prog.cellsOf 76)) = xs[0]? at h0
    change DataW.trod enc Try.prog w base (fun _ => true) held m 76 (([u0, u1, u2, u3].drop 2).take (Try.prog.cellsOf 76)) = xs[1]? at h1
    rw [c76, List.getElem?_eq_getElem (by omega)] at h0 h1
    exact ⟨u0, u1, u2, u3, rfl, ⟨m, _, h0⟩, ⟨m, _, h1⟩⟩
/-- the sizes of a variable's parts -/
def Fits (t : S80) : Prop := t.f0.size ≤ maxLen ∧ t.f1.f0.f1.length ≤ maxLen ∧ t.f1.f1.f1.length ≤ maxLen ∧ t.f2.f1.length ≤ maxLen
theorem open_var {fuel : Nat} {cs : List Value} {y : DataW H × List MemPlace} (h : DataW.trod enc Try.prog w base (fun _ => true) held fuel 80 cs = some y) : ∃ t : S80, k80.K w t cs ∧ Fits t := by
  obtain ⟨xs, m, _, _, hlen, hx, hf⟩ := DataW.trod_struct Try.underlying80 h
  rw [c80] at hlen
  have hx : xs.length = 3 := hx
  obtain ⟨u0, u1, u2, u3, u4, u5, u6, rfl⟩ := of7 hlen
  · skip
    have h0 := hf 0 _ rfl
    have h1 := hf 1 _ rfl
    have h2 := hf 2 _ rfl
    change DataW.trod enc Try.prog w base (fun _ => true) held m 9 (([u0, u1, u2, u3, u4, u5, u6].drop 0).take (Try.prog.cellsOf 9)) = xs[0]? at h0
    change DataW.trod enc Try.prog w base (fun _ => true) held m 78 (([u0, u1, u2, u3, u4, u5, u6].drop 1).take (Try.prog.cellsOf 78)) = xs[1]? at h1
    change DataW.trod enc Try.prog w base (fun _ => true) held m 24 (([u0, u1, u2, u3, u4, u5, u6].drop 5).take (Try.prog.cellsOf 24)) = xs[2]? at h2
    rw [c9, List.getElem?_eq_getElem (by omega)] at h0
    rw [c78, List.getElem?_eq_getElem (by omega)] at h1
    rw [c24, List.getElem?_eq_getElem (by omega)] at h2
    obtain ⟨s0, e0, _, hs⟩ := DataW.trod_string Try.underlying9 h0
    obtain rfl := List.singleton_inj.1 e0
    obtain ⟨a, b, c, d, e1, ⟨_, _, ha⟩, ⟨_, _, hb⟩⟩ := open_rat h1
    obtain ⟨rfl, rfl, rfl, rfl⟩ : u1 = a ∧ u2 = b ∧ u3 = c ∧ u4 = d := by simpa using e1
    obtain ⟨b1, A1, c1, l1, ea, l1c, l1m, g1⟩ := open_big ha
    obtain ⟨b2, A2, c2, l2, eb, l2c, l2m, g2⟩ := open_big hb
    obtain ⟨n3, A3, c3, l3, ec, l3c, l3m, g3⟩ := open_vec h2
    obtain ⟨rfl, rfl⟩ : u1 = .bool b1 ∧ u2 = .slice A1 l1.length c1 := by simpa using ea
    obtain ⟨rfl, rfl⟩ : u3 = .bool b2 ∧ u4 = .slice A2 l2.length c2 := by simpa using eb
    obtain ⟨rfl, rfl⟩ : u5 = .int .i64 n3 ∧ u6 = .slice A3 l3.length c3 := by simpa using ec
    exact ⟨⟨s0, ⟨⟨b1, l1⟩, ⟨b2, l2⟩⟩, ⟨n3, l3⟩⟩, k80_mk w ⟨s0, ⟨⟨b1, l1⟩, ⟨b2, l2⟩⟩, ⟨n3, l3⟩⟩ l1c g1 l2c g2 l3c g3, hs, l1m, l2m, l3m⟩
def VRow (w : World) (a : Option Addr) (len cap : Nat) (l : List S80) : Prop := l.length = len ∧ len ≤ cap ∧ cap ≤ maxLen ∧ Kd.C k80 w a len l ∧ ∀ t ∈ l, Fits t
theorem open_vars {fuel : Nat} {b : Option Addr} {len cap : Nat} {x : DataW H × List MemPlace}
    (h : DataW.trod enc Try.prog w base (fun _ => true) held fuel 49 [.slice b len cap] = some x) : ∃ l, VRow w b len cap l := by
  rcases Deep.open_slice Try.underlying49 h with ⟨h0, _⟩ | ⟨a, len', cap', m, n, D, Pl, h0, hb, hl, hm, hmm, _, hx⟩
  · simp only [List.cons.injEq, Value.slice.injEq, and_true] at h0
    obtain ⟨rfl, rfl, rfl⟩ := h0
    exact ⟨[], rfl, Nat.le_refl _, by unfold maxLen; omega, ⟨rfl, by omega, fun h => absurd h (by omega)⟩, fun x hx => by cases hx⟩
  · simp only [List.cons.injEq, Value.slice.injEq, and_true] at h0
    obtain ⟨rfl, rfl, rfl⟩ := h0
    simp only [if_true] at hmm
    subst hmm
    rw [c80] at hx
    obtain ⟨F, hF⟩ := Deep.choose_lt (α := S80) (p := fun i t => (∃ cs, k80.K w t cs ∧ ∀ j u, cs[j]? = some u → w.cell? (a.add (i * 7 + j)) = some u) ∧ Fits t) (fun i hi => by
      obtain ⟨cs, h1, h2⟩ := hx i hi
      obtain ⟨t, hk, hs⟩ := open_var h2
      obtain ⟨_, hcl, hcell⟩ := World.cells?_some h1
      refine ⟨t, ⟨cs, hk, fun j u hj => ?_⟩, hs⟩
      have hj7 : j < 7 := by
        obtain ⟨hlt, _⟩ := List.getElem?_eq_some_iff.1 hj
        have := k80.K_len hk
        have e : k80.sz = 7 := rfl
        omega
      rw [← add_add, hcell j hj7]
      exact hj)
    have hm' := hm
    unfold maxLen at hm'
    refine ⟨(List.range len).map F, by simp, hl, hm, ⟨by simp, by omega, fun hp => ⟨a, rfl, fun j p hj => ?_⟩⟩, fun t ht => ?_⟩
    · obtain ⟨hlt, rfl⟩ := List.getElem?_eq_some_iff.1 hj
      simp only [List.length_map, List.length_range] at hlt
      have e : ((List.range len).map F)[j] = F j := by simp
      rw [e]
      obtain ⟨⟨cs, hk, hc⟩, _⟩ := hF j (by omega)
      exact ⟨cs, k80.K_len hk, hk, hc⟩
    · obtain ⟨i, hi, rfl⟩ := List.mem_map.1 ht
      exact (hF i (by have := List.mem_range.1 hi; omega)).2
end
end Go.Proofs.Ytjdndacollpjkaa.Vr
