/- Port sets: what the evaluator's functions say, in whole numbers from 0 on. -/
import Derived.Test.YtkiipegoooldiaaPPort
import Derived.Test.YtkiipegoooldiaaPPortRuns
namespace Go.Pl
open Go.Abs

theorem psid_nat (a b x : Nat) : psid (a : Int) (b : Int) (x : Int) = ((x / mP a b % 2 ^ b : Nat) : Int) := by
  unfold psid mP
  rw [show (16 - (a : Int) - (b : Int)).toNat = 16 - a - b by omega, Int.toNat_natCast]
  simp
theorem mine_nat (a x : Nat) (h : a ≤ 16) : mine (a : Int) (x : Int) = decide (gZ a ≤ x / AP a) := by
  unfold mine gZ AP
  rw [show (16 - (a : Int)).toNat = 16 - a by omega]
  have e : ((x : Int) / 2 ^ (16 - a)) = ((x / 2 ^ (16 - a) : Nat) : Int) := by simp
  rw [e]
  generalize x / 2 ^ (16 - a) = t
  by_cases h0 : a = 0
  · subst h0; rfl
  · rw [if_neg h0, decide_eq_true (show (0 : Int) < (a : Int) by omega), Bool.true_and]
    by_cases ht : t = 0
    · subst ht; rfl
    · rw [decide_eq_false (show ¬ (t : Int) = 0 by omega), decide_eq_true (show 1 ≤ t by omega)]; rfl
theorem has_nat {a b p x : Nat} (hr : right (a : Int) (b : Int) (p : Int) = true) : hasB (a : Int) (b : Int) (p : Int) (x : Int) = memP a b p x := by
  have h := right_iff.1 hr
  unfold hasB memP
  rw [hr, Bool.true_and, mine_nat a x (by omega), psid_nat]
  congr 1
  rw [Bool.eq_iff_iff, beq_iff_eq, beq_iff_eq]
  omega
theorem right_nats {a b p : Int} (hp : psetB a b p = true) (hr : right a b p = true) : ∃ a' b' p' : Nat, a = a' ∧ b = b' ∧ p = p' ∧ a' ≤ 15 ∧ a' + b' ≤ 16 ∧ p' < 2 ^ b' := by
  obtain ⟨h1, h2, h3, h4, h5⟩ := right_iff.1 hr
  obtain ⟨_, _, _, _, h6, _⟩ := psetB_iff.1 hp
  obtain ⟨a, rfl⟩ := Int.eq_ofNat_of_zero_le h1
  obtain ⟨b, rfl⟩ := Int.eq_ofNat_of_zero_le h3
  obtain ⟨p, rfl⟩ := Int.eq_ofNat_of_zero_le h6
  refine ⟨a, b, p, rfl, rfl, rfl, by omega, by omega, ?_⟩
  rw [Int.toNat_natCast] at h5
  have e : ((2 : Int) ^ b) = ((2 ^ b : Nat) : Int) := by simp
  rw [e] at h5
  exact_mod_cast h5
theorem count_nat {a b : Nat} (h : a ≤ 15) (h2 : a + b ≤ 16) : count (a : Int) (b : Int) = (nP a b : Int) := by
  unfold count nP gZ mP
  rw [show (16 - (a : Int) - (b : Int)).toNat = 16 - a - b by omega, Int.toNat_natCast]
  by_cases h0 : a = 0
  · subst h0
    simp
  · rw [if_neg (by omega), if_neg h0]
    have := Nat.two_pow_pos a
    have e : ((2 : Int) ^ a) = ((2 ^ a : Nat) : Int) := by simp
    rw [e, Int.natCast_mul, Int.natCast_sub (by omega)]
    simp
/-- How many ports a set has at most. -/
theorem nP_le {a b : Nat} (h : a + b ≤ 16) : nP a b ≤ 65536 := by
  have h1 : nP a b ≤ 2 ^ a * AP a := by
    unfold nP
    exact Nat.mul_le_mul (Nat.sub_le _ _) (mP_le h)
  rw [all_eq (by omega)] at h1
  exact h1

end Go.Pl
