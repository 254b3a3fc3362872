/- What is put is what is got; letters are read as the bits that they are of. -/
import Derived.Test.YteaceebonkpipaaPLetters
namespace Go.Pl
open Go.Abs

theorem getN_div (xs : List AV) (a : Nat) : ∀ d j, getN xs a (j + d) / 2 ^ d = getN xs a j := by
  intro d
  induction d with
  | zero => intro j; rw [Nat.add_zero, Int.pow_zero, Int.ediv_one]
  | succ d ih =>
    intro j
    have hb := bitV_01 xs (a + j)
    rw [Int.pow_succ, ← Int.ediv_ediv_of_nonneg (Int.le_of_lt (Int.pow_pos (by decide))), show j + (d + 1) = (j + 1) + d by omega, ih (j + 1)]
    simp only [getN]
    omega
theorem vbit_getN {xs : List AV} {a n i : Nat} (h : i < n) : vbit (getN xs a n) n i = bitV xs (a + i) := by
  have hb := bitV_01 xs (a + i)
  unfold vbit
  have := getN_div xs a (n - 1 - i) (i + 1)
  rw [show i + 1 + (n - 1 - i) = n by omega] at this
  rw [this]
  simp only [getN]
  omega
theorem back_put {b : List AV} {a n v : Int} (hu : intsB .u8 b = true) (hv0 : 0 ≤ v) (hv1 : v < 18446744073709551616) (he : putE b.length a n v = 0) :
    (putX b a n v).length = b.length ∧ getE b.length a n = 0 ∧ getX (putX b a n v) a n = v ∧ putE b.length a n (getX b a n) = 0 ∧ putX (putX b a n v) a n (getX b a n) = b ∧
    ∀ o : Nat, ((o : Int) < a ∨ (o : Int) - a ≥ n) → bitV (putX b a n v) o = bitV b o := by
  unfold putE at he
  cases c1 : decide (n > 64) || !thereB b.length a n
  case true => rw [c1, cond_true] at he; exact absurd he (by decide)
  rw [c1, cond_false] at he
  cases c2 : fitB v n
  case false => rw [c2, cond_false] at he; exact absurd he (by decide)
  have c1' := c1
  rw [Bool.or_eq_false_iff, decide_eq_false_iff_not, Bool.not_eq_false'] at c1'
  obtain ⟨h1, h2⟩ := c1'
  obtain ⟨a0, n0, n1, a1⟩ := there_of h2
  have hlt := fit_lt n0 hv1 (by omega) c2
  obtain ⟨a, rfl⟩ := Int.eq_ofNat_of_zero_le a0
  obtain ⟨n, rfl⟩ := Int.eq_ofNat_of_zero_le n0
  have hP : putX b (a : Int) (n : Int) v = putL b a (vbit v n) n := by unfold putX; rw [c1, c2]; rfl
  have hl : (putL b a (vbit v n) n).length = b.length := putL_length _ _ _ _
  have hf : ∀ i, i < n → vbit v n i = 0 ∨ vbit v n i = 1 := fun i _ => vbit_01 v n i
  have hY : getX b (a : Int) (n : Int) = getN b a n := by unfold getX; rw [c1]; rfl
  obtain ⟨y0, y1⟩ := getN_range b a n
  have hfy : ∀ i, i < n → vbit (getN b a n) n i = 0 ∨ vbit (getN b a n) n i = 1 := fun i _ => vbit_01 _ n i
  have cy : fitB (getN b a n) (n : Int) = true := by
    unfold fitB
    rw [Int.toNat_natCast, Int.ediv_eq_zero_of_lt y0 y1, decide_eq_true (rfl : (0 : Int) = 0), Bool.or_true]
  have hpu := putL_u8 (a := a) hu n hf
  rw [hP, hY]
  refine ⟨hl, by unfold getE; rw [c1]; rfl, ?_, by unfold putE; rw [c1, cy]; rfl, ?_, fun o ho => ?_⟩
  · unfold getX
    rw [hl, c1, cond_false, Int.toNat_natCast, Int.toNat_natCast]
    refine getN_vbit hv0 (by simpa using hlt) fun i hi => ?_
    rw [putL_bit hu n hf (by omega), if_pos (by omega), Nat.add_sub_cancel_left]
  · have hQ : putX (putL b a (vbit v n) n) (a : Int) (n : Int) (getN b a n) = putL (putL b a (vbit v n) n) a (vbit (getN b a n) n) n := by unfold putX; rw [hl, c1, cy]; rfl
    rw [hQ]
    refine bits_ext (putL_u8 hpu n hfy) hu (by rw [putL_length, hl]) fun i hi => ?_
    rw [putL_bit hpu n hfy (by rw [hl]; omega)]
    by_cases hin : a ≤ i ∧ i < a + n
    · rw [if_pos hin, vbit_getN (by omega), show a + (i - a) = i by omega]
    · rw [if_neg hin, putL_bit hu n hf (by omega), if_neg hin]
  · rw [putL_bit hu n hf (by omega), if_neg (by omega)]

theorem setT_get {ys xs : List AV} {a : Nat} : ∀ {k j : Nat}, j < k → k ≤ ys.length → (setT ys xs a k)[j]? = some (.int .u8 (48 + bitV xs (a + j)))
  | k + 1, j, h, hk => by
    have hl := setT_length ys xs a k
    simp only [setT]
    by_cases hj : j = k
    · subst hj
      rw [List.getElem?_set_self (by omega)]
    · rw [List.getElem?_set_ne (Ne.symm hj)]
      exact setT_get (by omega) (by omega)
theorem bitC_at {s : ByteArray} {j : Nat} : ∀ {k : Nat}, j < k → bitAt (bitC s k) j = (byteN s j : Int) - 48
  | k + 1, h => by
    have hl := bitC_length s k
    unfold bitAt
    simp only [bitC]
    by_cases hj : j = k
    · subst hj
      rw [getD_append_right (by omega), hl, Nat.sub_self]; rfl
    · rw [getD_append_left (by omega)]
      exact bitC_at (by omega)
theorem firstX_all {s : ByteArray} (h : ∀ j, j < s.size → letB s j = true) : ∀ d p, p + d = s.size → firstX s d p = s.size
  | 0, p, hp => by simp only [firstX]; omega
  | d + 1, p, hp => by
    simp only [firstX, h p (by omega), cond_true]
    exact firstX_all h d (p + 1) (by omega)
theorem back_text {b : List AV} (hu : intsB .u8 b = true) (hL : b.length ≤ 1000) :
    (textV b 0 ((8 * b.length : Nat) : Int)).size = 8 * b.length ∧ okB (textV b 0 ((8 * b.length : Nat) : Int)) = true ∧ allB (textV b 0 ((8 * b.length : Nat) : Int)) = true ∧ packL (bitC (textV b 0 ((8 * b.length : Nat) : Int)) (8 * b.length)) = b ∧
      thereB b.length 0 ((8 * b.length : Nat) : Int) = true := by
  have ht : thereB b.length 0 ((8 * b.length : Nat) : Int) = true := by
    simp only [thereB, Bool.and_eq_true, decide_eq_true_eq]
    omega
  have hs : textV b 0 ((8 * b.length : Nat) : Int) = ByteArray.mk (Array.mk ((setT (zeros (8 * b.length)) b 0 (8 * b.length)).map fun v => UInt8.ofNat v.toInt.toNat)) := by
    unfold textV
    rw [ht, cond_true, Int.toNat_natCast]; rfl
  generalize textV b 0 ((8 * b.length : Nat) : Int) = s at hs ⊢
  have hsz : s.size = 8 * b.length := by
    rw [hs]
    show (Array.mk _).size = _
    simp [setT_length, zeros]
  have hby : ∀ j, j < 8 * b.length → (byteN s j : Int) = 48 + bitV b j := by
    intro j hj
    have h01 := bitV_01 b j
    unfold byteN
    rw [hs, Array.getD_eq_getD_getElem?]
    show ((((Array.mk ((setT (zeros (8 * b.length)) b 0 (8 * b.length)).map fun v => UInt8.ofNat v.toInt.toNat))[j]?).getD 0).toNat : Int) = _
    rw [List.getElem?_toArray, List.getElem?_map, setT_get hj (by simp [zeros]), Nat.zero_add]
    show ((UInt8.ofNat (48 + bitV b j).toNat).toNat : Int) = _
    have e : (UInt8.ofNat (48 + bitV b j).toNat).toNat = (48 + bitV b j).toNat % 256 := by simp
    rw [e]
    omega
  have hlet : ∀ j, j < s.size → letB s j = true := by
    intro j hj
    have h1 := hby j (by omega)
    have h01 := bitV_01 b j
    simp only [letB, Bool.or_eq_true, beq_iff_eq]
    omega
  have hall := firstX_all hlet s.size 0 (Nat.zero_add _)
  have hr := runesN_all (Nat.zero_add s.size) hall
  have hbin : binB (bitC s (8 * b.length)) = true := by
    rw [← runZ_bits (s := s) (n := 8 * b.length) (fun i hi => hlet i (by omega)) (8 * b.length) (Nat.le_refl _)]
    exact catB_bin _ _
  refine ⟨hsz, by unfold okB; rw [hr, hsz]; exact Nat.ble_eq_true_of_le (by omega), by unfold allB; rw [hall]; exact beq_self_eq_true _, ?_, ht⟩
  have hlen : (packL (bitC s (8 * b.length))).length = b.length := by rw [packL_length, bitC_length]; omega
  refine bits_ext (packL_u8 hbin) hu hlen fun i hi => ?_
  rw [packL_bit hbin, bitC_length, if_pos (by omega), bitC_at (by omega), hby i (by omega)]
  omega

end Go.Pl
