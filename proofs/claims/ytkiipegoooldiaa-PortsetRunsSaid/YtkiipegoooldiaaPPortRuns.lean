/- The runs of a set's ports: looking at every port, and going from group to group, give the same rows. -/
import Derived.Test.YtkiipegoooldiaaPPortNext
namespace Go.Pl

abbrev Rows2 := List (Nat × Nat)
/-- The last run goes on to t. -/
def lastTo : Rows2 → Nat → Rows2
  | [], _ => []
  | [r], t => [(r.1, t)]
  | r :: s :: l, t => r :: lastTo (s :: l) t
theorem lastTo_snoc (r : Nat × Nat) (t : Nat) : ∀ l : Rows2, lastTo (l ++ [r]) t = l ++ [(r.1, t)]
  | [] => rfl
  | [s] => rfl
  | s :: q :: l => by
    show s :: lastTo (q :: l ++ [r]) t = _
    rw [lastTo_snoc r t (q :: l)]; rfl
theorem lastTo_twice (t u : Nat) : ∀ l : Rows2, lastTo (lastTo l t) u = lastTo l u
  | [] => rfl
  | [s] => rfl
  | s :: q :: l => by
    have ih := lastTo_twice t u (q :: l)
    cases h : lastTo (q :: l) t with
    | nil => cases l <;> simp [lastTo] at h
    | cons c cs =>
      show lastTo (s :: lastTo (q :: l) t) u = s :: lastTo (q :: l) u
      rw [h] at ih ⊢
      show s :: lastTo (c :: cs) u = _
      rw [ih]
/-- A look at one more port. -/
def lookR (m : Nat → Bool) (x : Nat) (s : Rows2 × Bool) : Rows2 × Bool := bif m x then (bif s.2 then (lastTo s.1 x, true) else (s.1 ++ [(x, x)], true)) else (s.1, false)
theorem look_off {m : Nat → Bool} : ∀ {d x : Nat} (s : Rows2 × Bool), (∀ y, x ≤ y → y < x + d → m y = false) → foldF (lookR m) d x s = (if d = 0 then s else (s.1, false))
  | 0, x, s, _ => rfl
  | d + 1, x, s, h => by
    show foldF (lookR m) d (x + 1) (lookR m x s) = _
    have e : lookR m x s = (s.1, false) := by unfold lookR; rw [h x (Nat.le_refl _) (by omega)]; rfl
    rw [e, look_off _ fun y h1 h2 => h y (by omega) (by omega), if_neg (show ¬ d + 1 = 0 by omega)]
    split <;> rfl
theorem look_on {m : Nat → Bool} : ∀ {d x : Nat} (l : Rows2), (∀ y, x ≤ y → y < x + d → m y = true) → foldF (lookR m) d x (l, true) = (if d = 0 then l else lastTo l (x + d - 1), true)
  | 0, x, l, _ => rfl
  | d + 1, x, l, h => by
    show foldF (lookR m) d (x + 1) (lookR m x (l, true)) = _
    have : lookR m x (l, true) = (lastTo l x, true) := by unfold lookR; rw [h x (Nat.le_refl _) (by omega)]; rfl
    rw [this, look_on _ fun y h1 h2 => h y (by omega) (by omega), if_neg (show ¬ d + 1 = 0 by omega)]
    by_cases hd : d = 0
    · subst hd; rfl
    · rw [if_neg hd, lastTo_twice, show x + 1 + d - 1 = x + (d + 1) - 1 by omega]
theorem look_new {m : Nat → Bool} {d x : Nat} (l : Rows2) (hd : 0 < d) (h : ∀ y, x ≤ y → y < x + d → m y = true) : foldF (lookR m) d x (l, false) = (l ++ [(x, x + d - 1)], true) := by
  obtain ⟨d, rfl⟩ : ∃ e, d = e + 1 := ⟨d - 1, by omega⟩
  show foldF (lookR m) d (x + 1) (lookR m x (l, false)) = _
  have : lookR m x (l, false) = (l ++ [(x, x)], true) := by unfold lookR; rw [h x (Nat.le_refl _) (by omega)]; rfl
  rw [this, look_on _ fun y h1 h2 => h y (by omega) (by omega)]
  by_cases hd : d = 0
  · subst hd; rfl
  · rw [if_neg hd, lastTo_snoc, show x + 1 + d - 1 = x + (d + 1) - 1 by omega]
theorem foldF_split {δ : Type} (f : Nat → δ → δ) : ∀ a b x (s : δ), foldF f (a + b) x s = foldF f b (x + a) (foldF f a x s)
  | 0, b, x, s => by rw [Nat.zero_add, Nat.add_zero]; rfl
  | a + 1, b, x, s => by
    rw [show a + 1 + b = (a + b) + 1 by omega]
    show foldF f (a + b) (x + 1) (f x s) = _
    rw [foldF_split f a b (x + 1), show x + 1 + a = x + (a + 1) by omega]; rfl

section
variable {a b p : Nat}
/-- The rows behind so many groups, as the program makes them. -/
def rowsG (a b p : Nat) : Nat → Rows2
  | 0 => []
  | k + 1 => bif decide (k > 0) && (b == 0) then lastTo (rowsG a b p k) (frm a b p (gZ a + k) + mP a b - 1) else rowsG a b p k ++ [(frm a b p (gZ a + k), frm a b p (gZ a + k) + mP a b - 1)]
theorem frm_succ (g : Nat) : frm a b p (g + 1) = frm a b p g + AP a := by unfold frm; rw [Nat.add_mul, Nat.one_mul]; omega
theorem mP_le (h : a + b ≤ 16) : mP a b ≤ AP a := by
  rw [AP_eq h]
  exact Nat.le_mul_of_pos_right _ (Nat.two_pow_pos b)
theorem mP_eq (h : b = 0) : mP a b = AP a := by subst h; unfold mP AP; rw [Nat.sub_zero]
theorem mP_lt (h : a + b ≤ 16) (hb : b ≠ 0) : mP a b < AP a := by
  rw [AP_eq h]
  have h1 := Nat.one_lt_two_pow hb
  have h2 := mP_pos a b
  exact (Nat.lt_mul_iff_one_lt_right h2).2 h1
theorem off_gap (h : a + b ≤ 16) {g y : Nat} (h1 : frm a b p g + mP a b ≤ y) (h2 : y < frm a b p (g + 1)) : memP a b p y = false := by
  cases hm : memP a b p y with
  | false => rfl
  | true =>
    obtain ⟨e, _⟩ := of_mem h hm
    have hy : y % mP a b < mP a b := Nat.mod_lt _ (mP_pos a b)
    rcases Nat.lt_or_ge g (y / AP a) with q | q
    · have : frm a b p (g + 1) ≤ frm a b p (y / AP a) := by unfold frm; exact Nat.add_le_add_right (Nat.mul_le_mul_right _ q) _
      omega
    · have : frm a b p (y / AP a) ≤ frm a b p g := by unfold frm; exact Nat.add_le_add_right (Nat.mul_le_mul_right _ q) _
      omega
theorem off_low (h : a + b ≤ 16) {y : Nat} (h2 : y < frm a b p (gZ a)) : memP a b p y = false := by
  cases hm : memP a b p y with
  | false => rfl
  | true =>
    obtain ⟨e, q⟩ := of_mem h hm
    have : frm a b p (gZ a) ≤ frm a b p (y / AP a) := by unfold frm; exact Nat.add_le_add_right (Nat.mul_le_mul_right _ q) _
    omega
/-- Behind a group's end both have the same rows. -/
theorem rows_upto (h : a + b ≤ 16) (hp : p < 2 ^ b) : ∀ k, foldF (lookR (memP a b p)) (frm a b p (gZ a + k) + mP a b) 0 ([], false) = (rowsG a b p (k + 1), true)
  | 0 => by
    have hpos := mP_pos a b
    rw [foldF_split, Nat.zero_add]
    have e : foldF (lookR (memP a b p)) (frm a b p (gZ a + 0)) 0 ([], false) = ([], false) := by
      have := look_off (m := memP a b p) (d := frm a b p (gZ a + 0)) (x := 0) ([], false) fun y _ h2 => off_low h (by rw [Nat.zero_add] at h2; exact h2)
      rw [this]; split <;> rfl
    rw [e, look_new _ hpos fun y h1 h2 => by
      rw [show y = frm a b p (gZ a + 0) + (y - frm a b p (gZ a + 0)) by omega]
      exact mem_frm h hp (Nat.le_add_right _ _) (by omega)]
    rfl
  | k + 1 => by
    have hpos := mP_pos a b
    have hle := mP_le h
    have hs : frm a b p (gZ a + (k + 1)) = frm a b p (gZ a + k) + AP a := frm_succ _
    have hmem : ∀ y, frm a b p (gZ a + (k + 1)) ≤ y → y < frm a b p (gZ a + (k + 1)) + mP a b → memP a b p y = true := fun y h1 h2 => by
      rw [show y = frm a b p (gZ a + (k + 1)) + (y - frm a b p (gZ a + (k + 1))) by omega]
      exact mem_frm h hp (Nat.le_add_right _ _) (by omega)
    have e1 : frm a b p (gZ a + (k + 1)) + mP a b = (frm a b p (gZ a + k) + mP a b) + (AP a - mP a b) + mP a b := by omega
    rw [e1, foldF_split, foldF_split, rows_upto h hp k, Nat.zero_add, Nat.zero_add]
    have e2 : frm a b p (gZ a + k) + mP a b + (AP a - mP a b) = frm a b p (gZ a + (k + 1)) := by omega
    rw [e2]
    by_cases hb : b = 0
    · have em : AP a - mP a b = 0 := by rw [mP_eq hb]; omega
      rw [em]
      show foldF _ (mP a b) _ (rowsG a b p (k + 1), true) = _
      rw [look_on _ hmem, if_neg (by omega)]
      show _ = (bif decide (k + 1 > 0) && (b == 0) then _ else _, true)
      rw [decide_eq_true (by omega), hb]; rfl
    · have em : 0 < AP a - mP a b := by have := mP_lt h hb; omega
      have := look_off (m := memP a b p) (d := AP a - mP a b) (x := frm a b p (gZ a + k) + mP a b) (rowsG a b p (k + 1), true) fun y h1 h2 => off_gap h h1 (by show y < frm a b p (gZ a + (k + 1)); omega)
      rw [if_neg (by omega)] at this
      rw [this, look_new _ hpos hmem]
      show _ = (bif decide (k + 1 > 0) && (b == 0) then _ else _, true)
      rw [show (b == 0) = false from beq_eq_false_iff_ne.2 hb, Bool.and_false]; rfl
/-- Every port looked at: the rows of all groups. -/
theorem rows_all (h : a + b ≤ 16) (hp : p < 2 ^ b) : (foldF (lookR (memP a b p)) 65536 0 ([], false)).1 = rowsG a b p (2 ^ a - gZ a) := by
  have hz := gZ_lt a
  obtain ⟨k, hk⟩ : ∃ k, 2 ^ a - gZ a = k + 1 := by
    generalize 2 ^ a = t at *
    exact ⟨t - gZ a - 1, by omega⟩
  have hg : gZ a + k + 1 = 2 ^ a := by
    generalize 2 ^ a = t at *
    omega
  have hall := all_eq (a := a) (by omega)
  have hl := frm_lt (g := 0) (r := mP a b - 1) h hp (by have := mP_pos a b; omega)
  have hpos := mP_pos a b
  have hend : frm a b p (gZ a + k) + mP a b ≤ 65536 := by
    have : frm a b p (gZ a + k) + mP a b ≤ (gZ a + k + 1) * AP a := by
      unfold frm
      rw [Nat.add_mul (gZ a + k) 1, Nat.one_mul]; omega
    rw [hg, hall] at this; exact this
  have e : 65536 = (frm a b p (gZ a + k) + mP a b) + (65536 - (frm a b p (gZ a + k) + mP a b)) := by omega
  rw [hk, e, foldF_split, rows_upto h hp k, Nat.zero_add]
  have hnext : frm a b p (gZ a + k + 1) = 65536 + p * mP a b := by
    unfold frm
    rw [hg, hall]
  have := look_off (m := memP a b p) (d := 65536 - (frm a b p (gZ a + k) + mP a b)) (x := frm a b p (gZ a + k) + mP a b) (rowsG a b p (k + 1), true) fun y h1 h2 => off_gap h h1 (by rw [hnext]; omega)
  rw [this]
  split <;> rfl
end

end Go.Pl
