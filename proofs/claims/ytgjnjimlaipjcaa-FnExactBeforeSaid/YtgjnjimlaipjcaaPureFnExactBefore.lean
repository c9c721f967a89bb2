/- Before answers as the reference at any two texts (of whatever length within the form's reach). -/
import Derived.Test.YtgjnjimlaipjcaaPFnExactBeforex1
namespace Go.Proofs.Ytgjnjimlaipjcaa.Pure
open Go.RowKit Go.Proofs.Ytgjnjimlaipjcaa.PFnExactBefore Go.Proofs.YtgjnjimlaipjcaaW.PrintWords Go.Proofs.YtgjnjimlaipjcaaW.PrintLast
namespace AFnExactBefore

theorem wr {x : Int} (h1 : -9223372036854775808 ≤ x) (h2 : x ≤ 9223372036854775807) : wrap64 x = x := by
  unfold wrap64; omega

theorem before_loop (a b : ByteArray) (hb : b.size ≤ 140737488351232) (d : Nat) : ∀ (k i : Nat), i ≤ a.size → i + d = b.size → d < k →
    spec_Before.l0 k a b (i : Int) = some (Op.bytesLess (a.data.toList.drop i) (b.data.toList.drop i)) := by
  induction d with
  | zero =>
    intro k i ha hi hk
    obtain ⟨k, rfl⟩ : ∃ m, k = m + 1 := ⟨k - 1, by omega⟩
    simp only [spec_Before.l0]
    rw [if_neg (by omega)]
    have e : b.data.toList.drop i = [] := List.drop_eq_nil_of_le (by simp; omega)
    rw [e]
    cases a.data.toList.drop i <;> rfl
  | succ d ih =>
    intro k i ha hi hk
    obtain ⟨k, rfl⟩ : ∃ m, k = m + 1 := ⟨k - 1, by omega⟩
    simp only [spec_Before.l0]
    rw [if_pos (by omega)]
    have hbl : i < b.data.toList.length := by simp; omega
    rw [List.drop_eq_getElem_cons hbl]
    by_cases hge : a.size ≤ i
    · rw [if_pos (by omega)]
      have e : a.data.toList.drop i = [] := List.drop_eq_nil_of_le (by simp; omega)
      rw [e]; rfl
    · rw [if_neg (by omega), if_pos (by omega), if_pos (by omega), wr (by omega) (by omega)]
      have hal : i < a.data.toList.length := by simp; omega
      rw [List.drop_eq_getElem_cons hal]
      have ea : bt a (i : Int) = ((a.data.toList[i]).toNat : Int) := by
        unfold bt; rw [dif_pos (by simp; omega)]; rfl
      have eb : bt b (i : Int) = ((b.data.toList[i]).toNat : Int) := by
        unfold bt; rw [dif_pos (by simp; omega)]; rfl
      rw [ea, eb]
      have ih' := ih k (i + 1) (by omega) (by omega) (by omega)
      rw [Int.natCast_add] at ih'
      have ih'' : spec_Before.l0 k a b ((i : Int) + 1) = _ := ih'
      rw [ih'']
      generalize a.data.toList[i] = x
      generalize b.data.toList[i] = y
      simp only [Op.bytesLess]
      by_cases hxy : x = y
      · subst hxy
        rw [if_pos rfl]
        simp
      · have hn : ¬ ((x.toNat : Int) = (y.toNat : Int)) := fun h => hxy (UInt8.toNat_inj.1 (by omega))
        rw [if_neg hn]
        have : (x == y) = false := by simp [hxy]
        rw [this]
        simp [UInt8.lt_iff_toNat_lt]
end AFnExactBefore
open AFnExactBefore

theorem FnExactBefore : laws_FnExactBefore.Pure := by
  intro a b ha hb
  refine ⟨b.size + 1, ?_⟩
  unfold laws_FnExactBefore.f impl_Before.f spec_Before.f
  have e := before_loop a b hb b.size (b.size + 1) 0 (by omega) (by omega) (by omega)
  have e' : spec_Before.l0 (b.size + 1) a b 0 = _ := e
  rw [e', Go.ByteArray.toList_eq, Go.ByteArray.toList_eq]
  simp

end Go.Proofs.Ytgjnjimlaipjcaa.Pure
