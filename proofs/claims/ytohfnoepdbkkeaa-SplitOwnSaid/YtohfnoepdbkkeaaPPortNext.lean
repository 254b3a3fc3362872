/- The ports of a set in their order, in plain words (whole numbers from 0 on). -/
import Derived.Test.YtohfnoepdbkkeaaPIter
namespace Go.Pl

/-- The first of so many from a place on where something holds; else the place behind them. -/
def firstN (b : Nat → Bool) : Nat → Nat → Nat
  | 0, i => i
  | d + 1, i => bif b i then i else firstN b d (i + 1)
theorem firstN_is {b : Nat → Bool} : ∀ {d i v : Nat}, i ≤ v → v < i + d → b v = true → (∀ j, i ≤ j → j < v → b j = false) → firstN b d i = v
  | 0, i, v, h1, h2, _, _ => by omega
  | d + 1, i, v, h1, h2, h3, h4 => by
    simp only [firstN]
    by_cases h : i = v
    · subst h; rw [h3]; rfl
    · rw [h4 i (Nat.le_refl _) (by omega), cond_false]
      exact firstN_is (by omega) (by omega) h3 fun j h5 h6 => h4 j (by omega) h6
theorem firstN_none {b : Nat → Bool} : ∀ {d i : Nat}, (∀ j, i ≤ j → j < i + d → b j = false) → firstN b d i = i + d
  | 0, i, _ => rfl
  | d + 1, i, h => by
    simp only [firstN]
    rw [h i (Nat.le_refl _) (by omega), cond_false, firstN_none fun j h1 h2 => h j (by omega) (by omega)]
    omega
theorem firstN_spec (b : Nat → Bool) : ∀ d i, (firstN b d i < i + d ∧ i ≤ firstN b d i ∧ b (firstN b d i) = true ∧ ∀ j, i ≤ j → j < firstN b d i → b j = false) ∨ (firstN b d i = i + d ∧ ∀ j, i ≤ j → j < i + d → b j = false)
  | 0, i => .inr ⟨rfl, fun j h1 h2 => by omega⟩
  | d + 1, i => by
    simp only [firstN]
    cases h : b i
    · rw [cond_false]
      rcases firstN_spec b d (i + 1) with ⟨h1, h2, h3, h4⟩ | ⟨h1, h2⟩
      · refine .inl ⟨by omega, by omega, h3, fun j h5 h6 => ?_⟩
        by_cases hj : j = i
        · subst hj; exact h
        · exact h4 j (by omega) h6
      · refine .inr ⟨by omega, fun j h5 h6 => ?_⟩
        by_cases hj : j = i
        · subst hj; exact h
        · exact h2 j (by omega) (by omega)
    · rw [cond_true]
      exact .inl ⟨by omega, Nat.le_refl _, h, fun j h5 h6 => by omega⟩

section
variable {a b p : Nat}
def gZ (a : Nat) : Nat := if a = 0 then 0 else 1
def AP (a : Nat) : Nat := 2 ^ (16 - a)
def mP (a b : Nat) : Nat := 2 ^ (16 - a - b)
def frm (a b p g : Nat) : Nat := g * AP a + p * mP a b
def memP (a b p x : Nat) : Bool := decide (gZ a ≤ x / AP a) && (x / mP a b % 2 ^ b == p)
def nP (a b : Nat) : Nat := (2 ^ a - gZ a) * mP a b
def atP (a b p i : Nat) : Nat := frm a b p (gZ a + i / mP a b) + i % mP a b
def idxP (a b x : Nat) : Nat := (x / AP a - gZ a) * mP a b + x % mP a b

theorem mP_pos (a b : Nat) : 0 < mP a b := Nat.two_pow_pos _
theorem AP_eq (h : a + b ≤ 16) : AP a = mP a b * 2 ^ b := by unfold AP mP; rw [← Nat.pow_add]; congr 1; omega
theorem AP_pos (a : Nat) : 0 < AP a := Nat.two_pow_pos _
theorem all_eq (h : a ≤ 16) : 2 ^ a * AP a = 65536 := by unfold AP; rw [← Nat.pow_add, show a + (16 - a) = 16 by omega]
theorem gZ_lt (a : Nat) : gZ a < 2 ^ a := by
  unfold gZ
  split
  · exact Nat.two_pow_pos _
  · exact Nat.one_lt_two_pow (by assumption)
theorem memP_iff {x : Nat} : memP a b p x = true ↔ gZ a ≤ x / AP a ∧ x / mP a b % 2 ^ b = p := by
  simp only [memP, Bool.and_eq_true, decide_eq_true_eq, beq_iff_eq]
/-- The part of a port behind its group. -/
theorem low_div (h : a + b ≤ 16) (x : Nat) : x / mP a b % 2 ^ b = x % AP a / mP a b := by
  rw [AP_eq h, Nat.mod_mul_right_div_self]
theorem frm_lt (h : a + b ≤ 16) (hp : p < 2 ^ b) {g r : Nat} (hr : r < mP a b) : p * mP a b + r < AP a := by
  have : (p + 1) * mP a b ≤ 2 ^ b * mP a b := Nat.mul_le_mul_right _ hp
  rw [Nat.add_mul, Nat.one_mul] at this
  rw [AP_eq h, Nat.mul_comm (mP a b)]; omega
theorem frm_div (h : a + b ≤ 16) (hp : p < 2 ^ b) {g r : Nat} (hr : r < mP a b) : (frm a b p g + r) / AP a = g ∧ (frm a b p g + r) % AP a = p * mP a b + r := by
  have hl := frm_lt (g := g) h hp hr
  have e : frm a b p g + r = (p * mP a b + r) + AP a * g := by unfold frm; rw [Nat.mul_comm g]; omega
  rw [e, Nat.add_mul_div_left _ _ (AP_pos a), Nat.div_eq_of_lt hl, Nat.zero_add, Nat.add_mul_mod_self_left, Nat.mod_eq_of_lt hl]
  exact ⟨rfl, rfl⟩
theorem mem_frm (h : a + b ≤ 16) (hp : p < 2 ^ b) {g r : Nat} (hg : gZ a ≤ g) (hr : r < mP a b) : memP a b p (frm a b p g + r) = true := by
  obtain ⟨h1, h2⟩ := frm_div (g := g) h hp hr
  refine memP_iff.2 ⟨by rw [h1]; exact hg, ?_⟩
  rw [low_div h, h2, Nat.mul_comm p, Nat.mul_add_div (mP_pos a b), Nat.div_eq_of_lt hr, Nat.add_zero]
theorem of_mem (h : a + b ≤ 16) {x : Nat} (hx : memP a b p x = true) : x = frm a b p (x / AP a) + x % mP a b ∧ gZ a ≤ x / AP a := by
  obtain ⟨h1, h2⟩ := memP_iff.1 hx
  refine ⟨?_, h1⟩
  rw [low_div h] at h2
  have e1 := Nat.div_add_mod x (AP a)
  have e2 := Nat.div_add_mod (x % AP a) (mP a b)
  have e3 : x % AP a % mP a b = x % mP a b := by rw [AP_eq h, Nat.mod_mul_right_mod]
  rw [h2, e3] at e2
  unfold frm
  rw [Nat.mul_comm (x / AP a), Nat.mul_comm p]
  omega
theorem at_idx (h : a + b ≤ 16) {x : Nat} (hx : memP a b p x = true) : atP a b p (idxP a b x) = x := by
  obtain ⟨h1, h2⟩ := of_mem h hx
  have hm : x % mP a b < mP a b := Nat.mod_lt _ (mP_pos a b)
  unfold atP idxP
  rw [Nat.mul_comm, Nat.mul_add_div (mP_pos a b), Nat.div_eq_of_lt hm, Nat.add_zero, Nat.mul_add_mod, Nat.mod_eq_of_lt hm, show gZ a + (x / AP a - gZ a) = x / AP a by omega]
  exact h1.symm
theorem idx_at (h : a + b ≤ 16) (hp : p < 2 ^ b) (i : Nat) : idxP a b (atP a b p i) = i ∧ memP a b p (atP a b p i) = true := by
  have hm : i % mP a b < mP a b := Nat.mod_lt _ (mP_pos a b)
  obtain ⟨h1, h2⟩ := frm_div (g := gZ a + i / mP a b) h hp hm
  refine ⟨?_, mem_frm h hp (Nat.le_add_right _ _) hm⟩
  unfold idxP atP
  have e3 : (frm a b p (gZ a + i / mP a b) + i % mP a b) % mP a b = i % mP a b := by
    have := Nat.mod_mul_right_mod (frm a b p (gZ a + i / mP a b) + i % mP a b) (mP a b) (2 ^ b)
    rw [← AP_eq h, h2] at this
    rw [← this, Nat.mul_comm p, Nat.mul_add_mod, Nat.mod_eq_of_lt hm]
  rw [h1, e3, Nat.add_sub_cancel_left, Nat.mul_comm]
  exact Nat.div_add_mod i (mP a b)
theorem at_lt (h : a + b ≤ 16) (hp : p < 2 ^ b) {i : Nat} (hi : i < nP a b) : atP a b p i < 65536 := by
  have hm : i % mP a b < mP a b := Nat.mod_lt _ (mP_pos a b)
  have hg : i / mP a b < 2 ^ a - gZ a := by
    rw [Nat.div_lt_iff_lt_mul (mP_pos a b)]; exact hi
  have hl := frm_lt (g := 0) h hp hm
  have hg' : gZ a + i / mP a b + 1 ≤ 2 ^ a := by
    generalize 2 ^ a = t at *
    generalize i / mP a b = d at *
    omega
  have : (gZ a + i / mP a b + 1) * AP a ≤ 2 ^ a * AP a := Nat.mul_le_mul_right _ hg'
  rw [all_eq (by omega), Nat.add_mul, Nat.one_mul] at this
  unfold atP frm
  generalize (gZ a + i / mP a b) * AP a = u at *
  omega
theorem idx_lt (h : a + b ≤ 16) {x : Nat} (hx : x < 65536) (hm : memP a b p x = true) : idxP a b x < nP a b := by
  obtain ⟨_, h2⟩ := of_mem h hm
  have hr : x % mP a b < mP a b := Nat.mod_lt _ (mP_pos a b)
  have hg : x / AP a < 2 ^ a := by
    rw [Nat.div_lt_iff_lt_mul (AP_pos a), all_eq (by omega)]; exact hx
  have hg' : x / AP a - gZ a + 1 ≤ 2 ^ a - gZ a := by
    generalize 2 ^ a = t at *
    generalize x / AP a = d at *
    omega
  have : (x / AP a - gZ a + 1) * mP a b ≤ (2 ^ a - gZ a) * mP a b := Nat.mul_le_mul_right _ hg'
  rw [Nat.add_mul, Nat.one_mul] at this
  unfold idxP nP
  omega
theorem at_mono (h : a + b ≤ 16) (hp : p < 2 ^ b) {i j : Nat} (hij : i < j) : atP a b p i < atP a b p j := by
  have hi : i % mP a b < mP a b := Nat.mod_lt _ (mP_pos a b)
  have hd : i / mP a b ≤ j / mP a b := Nat.div_le_div_right (by omega)
  unfold atP
  by_cases he : i / mP a b = j / mP a b
  · have e1 := Nat.div_add_mod i (mP a b)
    have e2 := Nat.div_add_mod j (mP a b)
    rw [he] at e1 ⊢
    omega
  · have hl := frm_lt (g := 0) h hp hi
    have : (gZ a + i / mP a b + 1) * AP a ≤ (gZ a + j / mP a b) * AP a := Nat.mul_le_mul_right _ (by omega)
    rw [Nat.add_mul _ 1, Nat.one_mul] at this
    unfold frm
    omega
theorem at_inj (h : a + b ≤ 16) (hp : p < 2 ^ b) {i j : Nat} (hij : atP a b p i ≤ atP a b p j) : i ≤ j := by
  rcases Nat.lt_or_ge j i with hlt | hge
  · have := at_mono (p := p) h hp hlt; omega
  · exact hge
/-- The least port of a set behind one; else the first. -/
def nextP (a b p x : Nat) : Nat := bif firstN (memP a b p) (65535 - x) (x + 1) == 65536 then atP a b p 0 else firstN (memP a b p) (65535 - x) (x + 1)
theorem next_least (h : a + b ≤ 16) (hp : p < 2 ^ b) {x v : Nat} (hv : v < 65536) (h1 : x < v) (h2 : memP a b p v = true) (h3 : ∀ y, x < y → y < v → memP a b p y = false) : nextP a b p x = v := by
  unfold nextP
  rw [firstN_is (v := v) (by omega) (by omega) h2 fun j h4 h5 => h3 j (by omega) h5, show (v == 65536) = false from beq_eq_false_iff_ne.2 (by omega)]
  rfl
theorem next_none (h : a + b ≤ 16) {x : Nat} (hx : x < 65536) (h3 : ∀ y, x < y → y < 65536 → memP a b p y = false) : nextP a b p x = atP a b p 0 := by
  unfold nextP
  rw [firstN_none fun j h4 h5 => h3 j (by omega) (by omega), show x + 1 + (65535 - x) = 65536 by omega]
  rfl
/-- From place to place. -/
theorem next_at (h : a + b ≤ 16) (hp : p < 2 ^ b) {i : Nat} (hi : i < nP a b) : nextP a b p (atP a b p i) = atP a b p ((i + 1) % nP a b) := by
  by_cases hl : i + 1 < nP a b
  · rw [Nat.mod_eq_of_lt hl]
    refine next_least h hp (at_lt h hp hl) (at_mono h hp (by omega)) (idx_at h hp _).2 fun y h1 h2 => ?_
    cases hm : memP a b p y with
    | false => rfl
    | true =>
      rw [← at_idx h hm] at h1 h2
      have g1 : i < idxP a b y := by
        rcases Nat.lt_or_ge i (idxP a b y) with g | g
        · exact g
        · rcases Nat.lt_or_ge (idxP a b y) i with g' | g'
          · have := at_mono (p := p) h hp g'; omega
          · rw [show idxP a b y = i by omega] at h1; omega
      have g2 : idxP a b y < i + 1 := by
        rcases Nat.lt_or_ge (idxP a b y) (i + 1) with g | g
        · exact g
        · rcases Nat.lt_or_ge (i + 1) (idxP a b y) with g' | g'
          · have := at_mono (p := p) h hp g'; omega
          · rw [show idxP a b y = i + 1 by omega] at h2; omega
      omega
  · rw [show i + 1 = nP a b by omega, Nat.mod_self]
    refine next_none h (at_lt h hp hi) fun y h1 h2 => ?_
    cases hm : memP a b p y with
    | false => rfl
    | true =>
      have g := idx_lt h h2 hm
      rw [← at_idx h hm] at h1
      have := at_inj (p := p) h hp (Nat.le_of_lt h1)
      have g' : idxP a b y = i := by omega
      rw [g'] at h1; omega
/-- The next port, as the runs tell it. -/
theorem next_runs (h : a + b ≤ 16) (hp : p < 2 ^ b) {x g : Nat} (hx : x < 65536) (hg0 : gZ a ≤ g) (hg : g < 2 ^ a) (h1 : x < frm a b p g + (mP a b - 1)) (h2 : ∀ k, gZ a ≤ k → k < g → ¬ x < frm a b p k + (mP a b - 1)) : nextP a b p x = max (frm a b p g) (x + 1) := by
  have hpos := mP_pos a b
  have hr : ∀ r, r < mP a b → frm a b p g + r < 65536 := fun r hr => by
    have hl := frm_lt (g := 0) h hp hr
    have : (g + 1) * AP a ≤ 2 ^ a * AP a := Nat.mul_le_mul_right _ hg
    rw [all_eq (by omega), Nat.add_mul, Nat.one_mul] at this
    unfold frm; omega
  have hbelow : ∀ y, x < y → y < frm a b p g → memP a b p y = false := fun y hy1 hy2 => by
    cases hm : memP a b p y with
    | false => rfl
    | true =>
      obtain ⟨e, hge⟩ := of_mem h hm
      have hy : y % mP a b < mP a b := Nat.mod_lt _ hpos
      have hlt : y / AP a < g := by
        rcases Nat.lt_or_ge (y / AP a) g with q | q
        · exact q
        · exfalso
          have : frm a b p g ≤ frm a b p (y / AP a) := by unfold frm; exact Nat.add_le_add_right (Nat.mul_le_mul_right _ q) _
          omega
      have := h2 _ hge hlt
      omega
  by_cases hc : frm a b p g ≤ x + 1
  · rw [Nat.max_eq_right hc]
    have e : x + 1 = frm a b p g + (x + 1 - frm a b p g) := by omega
    refine next_least h hp (by rw [e]; exact hr _ (by omega)) (by omega) ?_ fun y h3 h4 => by omega
    rw [e]; exact mem_frm h hp hg0 (by omega)
  · rw [Nat.max_eq_left (by omega)]
    refine next_least h hp (hr 0 hpos) (by omega) ?_ hbelow
    exact mem_frm (r := 0) h hp hg0 hpos
theorem next_no_runs (h : a + b ≤ 16) (hp : p < 2 ^ b) {x : Nat} (hx : x < 65536) (h2 : ∀ k, gZ a ≤ k → k < 2 ^ a → ¬ x < frm a b p k + (mP a b - 1)) : nextP a b p x = atP a b p 0 := by
  refine next_none h hx fun y h1 h3 => ?_
  cases hm : memP a b p y with
  | false => rfl
  | true =>
    obtain ⟨e, hge⟩ := of_mem h hm
    have hy : y % mP a b < mP a b := Nat.mod_lt _ (mP_pos a b)
    have hlt : y / AP a < 2 ^ a := by
      rw [Nat.div_lt_iff_lt_mul (AP_pos a), all_eq (by omega)]; exact h3
    have := h2 _ hge hlt
    omega
end

end Go.Pl
