/- Numbers told by their limbs to the base 2^32: values, order, sums, differences, products with one limb; plain lists, no program. -/
namespace Go.Proofs.Ytjdndacollpjkaa.Bn
def val : List Int → Int
  | [] => 0
  | x :: l => x + 4294967296 * val l
def Ok (l : List Int) : Prop := ∀ x ∈ l, 0 ≤ x ∧ x < 4294967296
def Nrm (l : List Int) : Prop := l.getLast? ≠ some 0
def pw : Nat → Int
  | 0 => 1
  | n + 1 => 4294967296 * pw n
theorem pw_pos (n : Nat) : 1 ≤ pw n := by
  induction n with
  | zero => exact Int.le_refl _
  | succ n ih => show 1 ≤ 4294967296 * pw n; omega
theorem pw_succ (n : Nat) : pw (n + 1) = 4294967296 * pw n := rfl
theorem pw_mono {m n : Nat} (h : m ≤ n) : pw m ≤ pw n := by
  induction n with
  | zero => rw [show m = 0 by omega]; exact Int.le_refl _
  | succ n ih =>
    by_cases e : m = n + 1
    · rw [e]; exact Int.le_refl _
    · have h1 := ih (by omega)
      have h2 := pw_pos n
      rw [pw_succ]; omega
theorem val_append (a b : List Int) : val (a ++ b) = val a + pw a.length * val b := by
  induction a with
  | nil => show val b = 0 + 1 * val b; omega
  | cons x a ih =>
    show x + 4294967296 * val (a ++ b) = x + 4294967296 * val a + (4294967296 * pw a.length) * val b
    rw [ih, Int.mul_add, Int.mul_assoc]
    omega
theorem val_snoc (a : List Int) (x : Int) : val (a ++ [x]) = val a + pw a.length * x := by
  rw [val_append]
  show val a + pw a.length * (x + 4294967296 * 0) = _
  rw [Int.mul_zero, Int.add_zero]
theorem Ok.tail {x : Int} {l : List Int} (h : Ok (x :: l)) : Ok l := fun y hy => h y (by simp [hy])
theorem Ok.append {a b : List Int} (ha : Ok a) (hb : Ok b) : Ok (a ++ b) := fun x hx => by
  rcases List.mem_append.1 hx with h | h
  · exact ha x h
  · exact hb x h
theorem Ok.take {l : List Int} (h : Ok l) (n : Nat) : Ok (l.take n) := fun x hx => h x (List.mem_of_mem_take hx)
theorem Ok.one {x : Int} (h0 : 0 ≤ x) (h1 : x < 4294967296) : Ok [x] := fun y hy => by
  rw [List.mem_singleton] at hy; subst hy; exact ⟨h0, h1⟩
theorem Ok.nil : Ok [] := fun x hx => by cases hx
theorem val_bound : ∀ (l : List Int), Ok l → 0 ≤ val l ∧ val l < pw l.length
  | [], _ => ⟨Int.le_refl _, by show (0 : Int) < 1; omega⟩
  | x :: l, h => by
    have h1 := val_bound l h.tail
    have h2 := h x (by simp)
    show 0 ≤ x + 4294967296 * val l ∧ x + 4294967296 * val l < 4294967296 * pw l.length
    omega
theorem val_ge {l : List Int} (h : Ok l) (hn : Nrm l) (hne : l ≠ []) : pw (l.length - 1) ≤ val l := by
  have e := List.dropLast_concat_getLast hne
  have hx : l.getLast hne ≠ 0 := by
    intro h0
    apply hn
    rw [List.getLast?_eq_some_getLast hne, h0]
  have hm := h _ (List.getLast_mem hne)
  have hd : Ok l.dropLast := fun x hx => h x (List.dropLast_subset l hx)
  have hb := val_bound _ hd
  rw [← e, val_snoc, List.length_append, List.length_singleton, Nat.add_sub_cancel]
  have := Int.mul_le_mul_of_nonneg_left (show 1 ≤ l.getLast hne by omega) (show 0 ≤ pw l.dropLast.length by have := pw_pos l.dropLast.length; omega)
  rw [Int.mul_one] at this
  omega
theorem val_zero {l : List Int} (h : Ok l) (hn : Nrm l) : val l = 0 ↔ l = [] := by
  constructor
  · intro e
    by_cases hne : l = []
    · exact hne
    · have := val_ge h hn hne
      have := pw_pos (l.length - 1)
      omega
  · intro e; rw [e]; rfl
theorem len_lt {a b : List Int} (ha : Ok a) (hb : Ok b) (hnb : Nrm b) (h : a.length < b.length) : val a < val b := by
  have h1 := (val_bound a ha).2
  have h2 := val_ge hb hnb (by intro e; rw [e] at h; simp at h)
  have h3 := pw_mono (show a.length ≤ b.length - 1 by omega)
  omega
theorem len_le {a b : List Int} (ha : Ok a) (hb : Ok b) (hna : Nrm a) (h : val a ≤ val b) : a.length ≤ b.length := by
  by_cases hl : a.length ≤ b.length
  · exact hl
  · have := len_lt hb ha hna (by omega)
    omega
/-- the limb at place i, 0 behind the end -/
def lim (l : List Int) (i : Nat) : Int := l.getD i 0
theorem lim_at {l : List Int} {i : Nat} (h : i < l.length) : lim l i = l[i] := by simp [lim, List.getD, List.getElem?_eq_getElem h]
theorem lim_out {l : List Int} {i : Nat} (h : l.length ≤ i) : lim l i = 0 := by simp [lim, List.getD, List.getElem?_eq_none h]
theorem lim_ok {l : List Int} (h : Ok l) (i : Nat) : 0 ≤ lim l i ∧ lim l i < 4294967296 := by
  by_cases hl : i < l.length
  · rw [lim_at hl]; exact h _ (List.getElem_mem hl)
  · rw [lim_out (by omega)]; omega
theorem val_take (l : List Int) (i : Nat) : val (l.take (i + 1)) = val (l.take i) + pw i * lim l i := by
  by_cases hl : i < l.length
  · rw [List.take_succ_eq_append_getElem hl, val_snoc, lim_at hl, List.length_take, Nat.min_eq_left (by omega)]
  · rw [List.take_of_length_le (by omega), List.take_of_length_le (by omega), lim_out (by omega), Int.mul_zero, Int.add_zero]
def sgn (x y : Int) : Int := if x = y then 0 else if x < y then -1 else 1
theorem sgn_step {a b : List Int} (ha : Ok a) (hb : Ok b) (n : Nat) (h1 : n < a.length) (h2 : n < b.length) :
    sgn (val (a.take (n + 1))) (val (b.take (n + 1))) = if lim a n = lim b n then sgn (val (a.take n)) (val (b.take n)) else if lim a n < lim b n then -1 else 1 := by
  have e1 := val_take a n
  have e2 := val_take b n
  have b1 := val_bound _ (ha.take n)
  have b2 := val_bound _ (hb.take n)
  rw [List.length_take, Nat.min_eq_left (by omega)] at b1 b2
  have hp := pw_pos n
  rw [e1, e2]
  split
  · rename_i h
    rw [h]
    unfold sgn
    by_cases e : val (a.take n) = val (b.take n)
    · rw [if_pos (by rw [e]), if_pos e]
    · rw [if_neg (by omega), if_neg e]
      by_cases e' : val (a.take n) < val (b.take n)
      · rw [if_pos (by omega), if_pos e']
      · rw [if_neg (by omega), if_neg e']
  · rename_i h
    by_cases hlt : lim a n < lim b n
    · have := Int.mul_le_mul_of_nonneg_left (show lim a n + 1 ≤ lim b n by omega) (show 0 ≤ pw n by omega)
      rw [Int.mul_add, Int.mul_one] at this
      rw [if_pos hlt]
      unfold sgn
      rw [if_neg (by omega), if_pos (by omega)]
    · have := Int.mul_le_mul_of_nonneg_left (show lim b n + 1 ≤ lim a n by omega) (show 0 ≤ pw n by omega)
      rw [Int.mul_add, Int.mul_one] at this
      rw [if_neg hlt]
      unfold sgn
      rw [if_neg (by omega), if_neg (by omega)]
/-- the limbs without the noughts at the end -/
def trimN (l : List Int) : Nat → List Int
  | 0 => []
  | n + 1 => if lim l n = 0 then trimN l n else l.take (n + 1)
def trim (l : List Int) : List Int := trimN l l.length
theorem trimN_val (l : List Int) : ∀ n, val (trimN l n) = val (l.take n)
  | 0 => rfl
  | n + 1 => by
    rw [trimN]
    split
    · rename_i h
      rw [trimN_val l n, val_take, h, Int.mul_zero, Int.add_zero]
    · rfl
theorem trim_val (l : List Int) : val (trim l) = val l := by
  unfold trim
  rw [trimN_val, List.take_length]
theorem trimN_ok {l : List Int} (h : Ok l) : ∀ n, Ok (trimN l n)
  | 0 => Ok.nil
  | n + 1 => by
    rw [trimN]
    split
    · exact trimN_ok h n
    · exact h.take _
theorem trim_ok {l : List Int} (h : Ok l) : Ok (trim l) := trimN_ok h _
theorem trimN_nrm (l : List Int) : ∀ n, n ≤ l.length → Nrm (trimN l n)
  | 0, _ => by simp [trimN, Nrm]
  | n + 1, hn => by
    rw [trimN]
    split
    · exact trimN_nrm l n (by omega)
    · rename_i h
      have hl : n < l.length := by omega
      unfold Nrm
      rw [List.take_succ_eq_append_getElem hl, List.getLast?_concat]
      rw [lim_at hl] at h
      simpa using h
theorem trim_nrm (l : List Int) : Nrm (trim l) := trimN_nrm l _ (Nat.le_refl _)
theorem trimN_length (l : List Int) : ∀ n, (trimN l n).length ≤ n
  | 0 => Nat.le_refl _
  | n + 1 => by
    rw [trimN]
    split
    · have := trimN_length l n; omega
    · rw [List.length_take]; omega
theorem trim_length (l : List Int) : (trim l).length ≤ l.length := trimN_length l _
end Go.Proofs.Ytjdndacollpjkaa.Bn
