/- Port sets, in plain arithmetic. -/
import Derived.Test.YteaceebonkpipaaA15
namespace Go.Pl
open Go.Abs

/-- May a port set be? -/
def right (a b x : Int) : Bool := decide (0 ≤ a) && decide (a ≤ 15) && decide (0 ≤ b) && decide (b ≤ 16 - a) && decide (x < 2 ^ b.toNat)
/-- A port set's numbers. -/
def psetB (a b x : Int) : Bool := decide (-9223372036854775808 ≤ a) && decide (a ≤ 9223372036854775807) && decide (-9223372036854775808 ≤ b) && decide (b ≤ 9223372036854775807) && decide (0 ≤ x) && decide (x ≤ 65535)

theorem wrap_i64 (n : Int) : IntKind.i64.wrap n = if n % 18446744073709551616 ≥ 9223372036854775808 then n % 18446744073709551616 - 18446744073709551616 else n % 18446744073709551616 := by
  simp [IntKind.wrap, IntKind.signed, IntKind.bits]
theorem wrap_u64 (n : Int) : IntKind.u64.wrap n = n % 18446744073709551616 := by
  simp [IntKind.wrap, IntKind.signed, IntKind.bits]
theorem wrap_u32 (n : Int) : IntKind.u32.wrap n = n % 4294967296 := by
  simp [IntKind.wrap, IntKind.signed, IntKind.bits]
theorem wrap_u16 (n : Int) : IntKind.u16.wrap n = n % 65536 := by
  simp [IntKind.wrap, IntKind.signed, IntKind.bits]
theorem i64_of {n : Int} (h1 : -9223372036854775808 ≤ n) (h2 : n ≤ 9223372036854775807) : IntKind.i64.wrap n = n := by
  rw [wrap_i64]; omega
theorem u64_of {n : Int} (h1 : 0 ≤ n) (h2 : n < 18446744073709551616) : IntKind.u64.wrap n = n := by rw [wrap_u64]; omega
theorem u32_of {n : Int} (h1 : 0 ≤ n) (h2 : n < 4294967296) : IntKind.u32.wrap n = n := by rw [wrap_u32]; omega
theorem u16_of {n : Int} (h1 : 0 ≤ n) (h2 : n < 65536) : IntKind.u16.wrap n = n := by rw [wrap_u16]; omega

theorem fdiv_lt {x d : Int} (hx : 0 ≤ x) (hd : 0 < d) : x.fdiv d ≠ 0 ↔ d ≤ x := by
  rw [Int.fdiv_eq_ediv_of_nonneg _ (Int.le_of_lt hd)]
  constructor
  · intro h
    rcases Int.lt_or_le x d with hlt | hle
    · exact absurd (Int.ediv_eq_zero_of_lt hx hlt) h
    · exact hle
  · intro h h0
    have h1 : x < d := by
      have := Int.lt_ediv_add_one_mul_self x hd
      rw [h0] at this
      simpa using this
    omega

theorem check_law {a b x : Int} (hp : psetB a b x = true) (X Y : Res) : aIf (right a b x) Y X =
    aIf (decide (a < 0)) X (aIf (decide (a > 15)) X (aIf (decide (b < 0)) X (aIf (decide (b > IntKind.i64.wrap (16 - a))) X
      (aIf (decide (IntKind.u64.wrap b < 0)) none (aIf ((IntKind.u32.wrap x).fdiv (2 ^ min (IntKind.u64.wrap b).toNat 32) != 0) X Y))))) := by
  simp only [psetB, Bool.and_eq_true, decide_eq_true_eq] at hp
  obtain ⟨⟨⟨⟨⟨p1, p2⟩, p3⟩, p4⟩, p5⟩, p6⟩ := hp
  have hneg : right a b x = false → True := fun _ => trivial
  by_cases h1 : a < 0
  · rw [aIf_pos (b := decide (a < 0)) (by simpa using h1), aIf_neg]
    simp [right]; omega
  rw [aIf_neg (b := decide (a < 0)) (by simpa using h1)]
  by_cases h2 : a > 15
  · rw [aIf_pos (b := decide (a > 15)) (by simpa using h2), aIf_neg]
    simp [right]; omega
  rw [aIf_neg (b := decide (a > 15)) (by simpa using h2)]
  by_cases h3 : b < 0
  · rw [aIf_pos (b := decide (b < 0)) (by simpa using h3), aIf_neg]
    simp [right]; omega
  rw [aIf_neg (b := decide (b < 0)) (by simpa using h3), i64_of (n := 16 - a) (by omega) (by omega)]
  by_cases h4 : b > 16 - a
  · rw [aIf_pos (b := decide (b > 16 - a)) (by simpa using h4), aIf_neg]
    simp [right]; omega
  rw [aIf_neg (b := decide (b > 16 - a)) (by simpa using h4), u64_of (n := b) (by omega) (by omega), aIf_neg (b := decide (b < 0)) (by simpa using h3), u32_of (n := x) (by omega) (by omega)]
  have hm : min b.toNat 32 = b.toNat := by omega
  rw [hm]
  have hpos : (0 : Int) < 2 ^ b.toNat := Int.pow_pos (by decide)
  by_cases h5 : x < 2 ^ b.toNat
  · rw [aIf_pos (b := right a b x), aIf_neg]
    · have h6 : x.fdiv (2 ^ b.toNat) = 0 := Decidable.byContradiction fun hc => by have := (fdiv_lt p5 hpos).1 hc; omega
      simp [h6]
    · simp [right]; omega
  · rw [aIf_neg (b := right a b x), aIf_pos]
    · have := (fdiv_lt p5 hpos).2 (by omega)
      simpa using this
    · simp [right]; omega

def count (a b : Int) : Int := (if a = 0 then 1 else 2 ^ a.toNat - 1) * 2 ^ (16 - a - b).toNat

theorem pow_le16 {n : Nat} (h : n ≤ 16) : (2 : Int) ^ n ≤ 65536 ∧ (1 : Int) ≤ 2 ^ n := by
  have : n = 0 ∨ n = 1 ∨ n = 2 ∨ n = 3 ∨ n = 4 ∨ n = 5 ∨ n = 6 ∨ n = 7 ∨ n = 8 ∨ n = 9 ∨ n = 10 ∨ n = 11 ∨ n = 12 ∨ n = 13 ∨ n = 14 ∨ n = 15 ∨ n = 16 := by omega
  rcases this with rfl | rfl | rfl | rfl | rfl | rfl | rfl | rfl | rfl | rfl | rfl | rfl | rfl | rfl | rfl | rfl | rfl <;> decide

theorem right_iff {a b x : Int} : right a b x = true ↔ 0 ≤ a ∧ a ≤ 15 ∧ 0 ≤ b ∧ b ≤ 16 - a ∧ x < 2 ^ b.toNat := by
  simp [right, and_assoc]

theorem count_pos {a b x : Int} (h : right a b x = true) : 1 ≤ count a b ∧ count a b ≤ 65536 * 65536 := by
  obtain ⟨h1, h2, h3, h4, _⟩ := right_iff.1 h
  obtain ⟨p1, p2⟩ := pow_le16 (n := a.toNat) (by omega)
  obtain ⟨p3, p4⟩ := pow_le16 (n := (16 - a - b).toNat) (by omega)
  unfold count
  split
  · omega
  · rename_i ha
    have h5 : (2 : Int) ≤ 2 ^ a.toNat := by
      have : a.toNat = (a.toNat - 1) + 1 := by omega
      rw [this, Int.pow_succ]
      have := (pow_le16 (n := a.toNat - 1) (by omega)).2
      omega
    constructor
    · have := Int.mul_le_mul_of_nonneg_right (a := 1) (b := 2 ^ a.toNat - 1) (c := 2 ^ (16 - a - b).toNat) (by omega) (by omega)
      omega
    · exact Int.mul_le_mul (by omega) p3 (by omega) (by omega)

theorem count_law {a b x : Int} (hp : psetB a b x = true) (k : KE) :
    aIf (right a b x) (k (.ret (.tup [.int .i64 (count a b), .int .i64 0])) []) (k (.ret (.tup [.int .i64 0, .int .i64 90])) []) =
    aIf (psetB a b x) (aIf (right a b x)
      (aIf (decide (a > 0))
        (aIf (decide (a < 0)) none
          (aIf (decide (IntKind.i64.wrap (IntKind.i64.wrap (16 - a) - b) < 0)) none
            (k (AEnd.ret (AV.tup [AV.int IntKind.i64
                      (IntKind.i64.wrap
                        (IntKind.i64.wrap (IntKind.i64.wrap (1 * 2 ^ min a.toNat 64) - 1) *
                          IntKind.i64.wrap (1 * 2 ^ min (IntKind.i64.wrap (IntKind.i64.wrap (16 - a) - b)).toNat 64))),
                    AV.int IntKind.i64 0])) [])))
        (aIf (decide (IntKind.i64.wrap (IntKind.i64.wrap (16 - a) - b) < 0)) none
          (k (AEnd.ret (AV.tup [AV.int IntKind.i64
                    (IntKind.i64.wrap
                      (1 * IntKind.i64.wrap (1 * 2 ^ min (IntKind.i64.wrap (IntKind.i64.wrap (16 - a) - b)).toNat 64))),
                  AV.int IntKind.i64 0])) [])))
      (k (AEnd.ret (AV.tup [AV.int IntKind.i64 0, AV.int IntKind.i64 90])) [])) none := by
  rw [aIf_pos (b := psetB a b x) hp]
  cases hr : right a b x with
  | false => rfl
  | true =>
    obtain ⟨h1, h2, h3, h4, _⟩ := right_iff.1 hr
    obtain ⟨p1, p2⟩ := pow_le16 (n := a.toNat) (by omega)
    obtain ⟨p3, p4⟩ := pow_le16 (n := (16 - a - b).toNat) (by omega)
    obtain ⟨c1, c2⟩ := count_pos hr
    rw [aIf_pos rfl, aIf_pos rfl, i64_of (n := 16 - a) (by omega) (by omega), i64_of (n := 16 - a - b) (by omega) (by omega)]
    have e1 : min a.toNat 64 = a.toNat := by omega
    have e2 : min (16 - a - b).toNat 64 = (16 - a - b).toNat := by omega
    rw [e1, e2, Int.one_mul, Int.one_mul, i64_of (n := 2 ^ a.toNat) (by omega) (by omega), i64_of (n := 2 ^ (16 - a - b).toNat) (by omega) (by omega), i64_of (n := 2 ^ a.toNat - 1) (by omega) (by omega)]
    have hn : decide (16 - a - b < 0) = false := by simp; omega
    rw [aIf_neg hn, aIf_neg hn]
    by_cases ha : a > 0
    · have hd : decide (a > 0) = true := by simpa using ha
      have hd2 : decide (a < 0) = false := by simp; omega
      rw [aIf_pos hd, aIf_neg hd2]
      have : count a b = (2 ^ a.toNat - 1) * 2 ^ (16 - a - b).toNat := by unfold count; rw [if_neg (by omega)]
      rw [this] at c1 c2 ⊢
      rw [i64_of (by omega) (by omega)]
    · have hd : decide (a > 0) = false := by simpa using ha
      rw [aIf_neg hd]
      have : count a b = 2 ^ (16 - a - b).toNat := by unfold count; rw [if_pos (by omega), Int.one_mul]
      rw [this] at c1 c2 ⊢
      rw [Int.one_mul, i64_of (by omega) (by omega)]

theorem psetB_iff {a b x : Int} : psetB a b x = true ↔ -9223372036854775808 ≤ a ∧ a ≤ 9223372036854775807 ∧ -9223372036854775808 ≤ b ∧ b ≤ 9223372036854775807 ∧ 0 ≤ x ∧ x ≤ 65535 := by
  simp [psetB, and_assoc]
theorem psetB_zero {a b x : Int} (h : psetB a b x = true) : psetB a b 0 = true := by
  rw [psetB_iff] at h ⊢; omega
theorem right_zero {a b x : Int} (h : right a b x = true) : right a b 0 = true := by
  rw [right_iff] at h ⊢
  have : (0 : Int) < 2 ^ b.toNat := Int.pow_pos (by decide)
  exact ⟨h.1, h.2.1, h.2.2.1, h.2.2.2.1, this⟩

/-- A port's PSID; is a port somebody's? -/
def psid (a b x : Int) : Int := (x / 2 ^ (16 - a - b).toNat) % 2 ^ b.toNat
def mine (a x : Int) : Bool := !(decide (0 < a) && decide (x / 2 ^ (16 - a).toNat = 0))

theorem and_mask {u : Int} {n : Nat} (h0 : 0 ≤ u) (h1 : u < 4294967296) (hn : n ≤ 16) : ((BitVec.ofInt 32 u &&& BitVec.ofInt 32 (2 ^ n - 1)).toNat : Int) = u % 2 ^ n := by
  have hp := pow_le16 hn
  obtain ⟨m, rfl⟩ := Int.eq_ofNat_of_zero_le h0
  have e1 : (BitVec.ofInt 32 (m : Int)).toNat = m := by
    rw [BitVec.toNat_ofInt]; omega
  have e2 : (BitVec.ofInt 32 ((2 : Int) ^ n - 1)).toNat = 2 ^ n - 1 := by
    rw [BitVec.toNat_ofInt]
    have : ((2 : Int) ^ n) = ((2 ^ n : Nat) : Int) := by simp
    rw [this] at hp ⊢
    omega
  rw [BitVec.toNat_and, e1, e2, Nat.and_two_pow_sub_one_eq_mod]
  simp

theorem shr_eq {x : Int} {n : Nat} : x.fdiv (2 ^ n) = x / 2 ^ n := Int.fdiv_eq_ediv_of_nonneg _ (Int.le_of_lt (Int.pow_pos (by decide)))

theorem neg_no {n : Int} (h : 0 ≤ n) : decide (n < 0) = false := by simp; omega

theorem psid_val {a b x : Int} (hp : psetB a b x = true) (hr : right a b 0 = true) : IntKind.u16.wrap (IntKind.u32.wrap
      ((BitVec.ofInt 32 ((IntKind.u32.wrap x).fdiv (2 ^ min (IntKind.u64.wrap (IntKind.i64.wrap (IntKind.i64.wrap (16 - a) - b))).toNat 32)) &&&
        BitVec.ofInt 32 (IntKind.u32.wrap (IntKind.u32.wrap (1 * 2 ^ min (IntKind.u64.wrap b).toNat 32) - 1))).toNat : Int)) = psid a b x := by
  obtain ⟨h1, h2, h3, h4, _⟩ := right_iff.1 hr
  obtain ⟨_, _, _, _, h5, h6⟩ := psetB_iff.1 hp
  have hb := pow_le16 (n := b.toNat) (by omega)
  rw [i64_of (n := 16 - a) (by omega) (by omega), i64_of (n := 16 - a - b) (by omega) (by omega), u64_of (n := 16 - a - b) (by omega) (by omega), u64_of (n := b) (by omega) (by omega), u32_of (n := x) (by omega) (by omega), Int.one_mul]
  have e1 : min (16 - a - b).toNat 32 = (16 - a - b).toNat := by omega
  have e2 : min b.toNat 32 = b.toNat := by omega
  rw [e1, e2, u32_of (n := 2 ^ b.toNat) (by omega) (by omega), u32_of (n := 2 ^ b.toNat - 1) (by omega) (by omega), shr_eq]
  have hd : (0 : Int) < 2 ^ (16 - a - b).toNat := Int.pow_pos (by decide)
  have hx0 : 0 ≤ x / 2 ^ (16 - a - b).toNat := Int.ediv_nonneg h5 (Int.le_of_lt hd)
  have hx1 : x / 2 ^ (16 - a - b).toNat ≤ x := Int.ediv_le_self _ h5
  rw [and_mask hx0 (by omega) (by omega)]
  have hm0 : 0 ≤ (x / 2 ^ (16 - a - b).toNat) % 2 ^ b.toNat := Int.emod_nonneg _ (by omega)
  have hm1 : (x / 2 ^ (16 - a - b).toNat) % 2 ^ b.toNat < 2 ^ b.toNat := Int.emod_lt_of_pos _ (by omega)
  have hm2 : (x / 2 ^ (16 - a - b).toNat) % 2 ^ b.toNat ≤ x / 2 ^ (16 - a - b).toNat := by
    have := Int.emod_add_mul_ediv (x / 2 ^ (16 - a - b).toNat) (2 ^ b.toNat)
    have h0 : 0 ≤ 2 ^ b.toNat * (x / 2 ^ (16 - a - b).toNat / 2 ^ b.toNat) := Int.mul_nonneg (by omega) (Int.ediv_nonneg hx0 (by omega))
    omega
  rw [u32_of hm0 (by omega), u16_of hm0 (by omega)]
  rfl

theorem group_val {a x : Int} (ha : 0 ≤ a) (ha2 : a ≤ 15) (h5 : 0 ≤ x) (h6 : x ≤ 65535) :
    ((IntKind.u32.wrap x).fdiv (2 ^ min (IntKind.u64.wrap (IntKind.i64.wrap (16 - a))).toNat 32) == 0) = decide (x / 2 ^ (16 - a).toNat = 0) := by
  rw [i64_of (n := 16 - a) (by omega) (by omega), u64_of (n := 16 - a) (by omega) (by omega), u32_of (n := x) (by omega) (by omega)]
  have e1 : min (16 - a).toNat 32 = (16 - a).toNat := by omega
  rw [e1, shr_eq]
  rfl

theorem of_law {a b x : Int} (hp : psetB a b x = true) (k : KE) :
    aIf (right a b 0) (aIf (mine a x) (k (.ret (.tup [.int .u16 (psid a b x), .bool true, .int .i64 0])) []) (k (.ret (.tup [.int .u16 0, .bool false, .int .i64 0])) [])) (k (.ret (.tup [.int .u16 0, .bool false, .int .i64 90])) []) =
  aIf (psetB a b 0)
  (aIf (right a b 0)
    (aIf (decide (a > 0))
      (aIf (decide (IntKind.u64.wrap (IntKind.i64.wrap (16 - a)) < 0)) none
        (aIf ((IntKind.u32.wrap x).fdiv (2 ^ min (IntKind.u64.wrap (IntKind.i64.wrap (16 - a))).toNat 32) == 0)
          (k (AEnd.ret (AV.tup [AV.int IntKind.u16 0, AV.bool false, AV.int IntKind.i64 0])) [])
          (aIf (decide (IntKind.u64.wrap (IntKind.i64.wrap (IntKind.i64.wrap (16 - a) - b)) < 0)) none
            (aIf (decide (IntKind.u64.wrap b < 0)) none
              (k (AEnd.ret (AV.tup [AV.int IntKind.u16 (IntKind.u16.wrap (IntKind.u32.wrap
      ((BitVec.ofInt 32 ((IntKind.u32.wrap x).fdiv (2 ^ min (IntKind.u64.wrap (IntKind.i64.wrap (IntKind.i64.wrap (16 - a) - b))).toNat 32)) &&&
        BitVec.ofInt 32 (IntKind.u32.wrap (IntKind.u32.wrap (1 * 2 ^ min (IntKind.u64.wrap b).toNat 32) - 1))).toNat : Int))), AV.bool true, AV.int IntKind.i64 0])) [])))))
      (aIf (decide (IntKind.u64.wrap (IntKind.i64.wrap (IntKind.i64.wrap (16 - a) - b)) < 0)) none
        (aIf (decide (IntKind.u64.wrap b < 0)) none
          (k (AEnd.ret (AV.tup [AV.int IntKind.u16 (IntKind.u16.wrap (IntKind.u32.wrap
      ((BitVec.ofInt 32 ((IntKind.u32.wrap x).fdiv (2 ^ min (IntKind.u64.wrap (IntKind.i64.wrap (IntKind.i64.wrap (16 - a) - b))).toNat 32)) &&&
        BitVec.ofInt 32 (IntKind.u32.wrap (IntKind.u32.wrap (1 * 2 ^ min (IntKind.u64.wrap b).toNat 32) - 1))).toNat : Int))), AV.bool true, AV.int IntKind.i64 0])) []))))
    (k (AEnd.ret (AV.tup [AV.int IntKind.u16 0, AV.bool false, AV.int IntKind.i64 90])) [])) none := by
  rw [aIf_pos (psetB_zero hp)]
  rcases Bool.eq_false_or_eq_true (right a b 0) with hr | hr
  · obtain ⟨h1, h2, h3, h4, _⟩ := right_iff.1 hr
    obtain ⟨_, _, _, _, h5, h6⟩ := psetB_iff.1 hp
    rw [aIf_pos hr, aIf_pos hr, group_val h1 h2 h5 h6, psid_val hp hr]
    rw [i64_of (n := 16 - a) (by omega) (by omega), i64_of (n := 16 - a - b) (by omega) (by omega), u64_of (n := 16 - a - b) (by omega) (by omega), u64_of (n := 16 - a) (by omega) (by omega), u64_of (n := b) (by omega) (by omega)]
    rw [aIf_neg (neg_no (n := 16 - a) (by omega)), aIf_neg (neg_no (n := 16 - a - b) (by omega)), aIf_neg (neg_no (n := b) (by omega))]
    by_cases ha : a > 0
    · rw [aIf_pos (b := decide (a > 0)) (by simpa using ha)]
      have hm : mine a x = !decide (x / 2 ^ (16 - a).toNat = 0) := by
        have : decide (0 < a) = true := by simpa using ha
        simp only [mine, this, Bool.true_and]
      rw [hm]
      cases decide (x / 2 ^ (16 - a).toNat = 0) <;> rfl
    · rw [aIf_neg (b := decide (a > 0)) (by simpa using ha)]
      have hm : mine a x = true := by
        have : decide (0 < a) = false := by simpa using ha
        simp only [mine, this, Bool.false_and, Bool.not_false]
      rw [hm]
      rfl
  · rw [aIf_neg hr, aIf_neg hr]

theorem has_law {a b x p : Int} (h : (psetB a b p && psetB a b x) = true) (k : KE) :
    aIf (right a b p) (k (.ret (.tup [.bool (mine a x && (psid a b x == p)), .int .i64 0])) []) (k (.ret (.tup [.bool false, .int .i64 90])) []) =
  aIf (psetB a b p)
  (aIf (right a b p)
    (aIf (psetB a b x)
      (aIf (right a b 0)
        (aIf (mine a x) (k (AEnd.ret (AV.tup [AV.bool (psid a b x == p), AV.int IntKind.i64 0])) [])
          (k (AEnd.ret (AV.tup [AV.bool false, AV.int IntKind.i64 0])) []))
        (k (AEnd.ret (AV.tup [AV.bool false, AV.int IntKind.i64 90])) []))
      none)
    (k (AEnd.ret (AV.tup [AV.bool false, AV.int IntKind.i64 90])) [])) none := by
  rw [Bool.and_eq_true] at h
  rw [aIf_pos h.1, aIf_pos h.2]
  rcases Bool.eq_false_or_eq_true (right a b p) with hr | hr
  · rw [aIf_pos hr, aIf_pos hr, aIf_pos (right_zero hr)]
    cases mine a x <;> rfl
  · rw [aIf_neg hr, aIf_neg hr]

theorem right_law {a b x : Int} (hp : psetB a b x = true) (k : KE) : k (.ret (.bool (right a b x))) [] =
  aIf (decide (a ≥ 0))
  (aIf (decide (a ≤ 15))
    (aIf (decide (b ≥ 0))
      (aIf (decide (b ≤ IntKind.i64.wrap (16 - a)))
        (aIf (decide (b < 0)) none
          (k (AEnd.ret (AV.bool (decide (IntKind.i64.wrap x < IntKind.i64.wrap (1 * 2 ^ min b.toNat 64))))) []))
        (k (AEnd.ret (AV.bool false)) []))
      (k (AEnd.ret (AV.bool false)) []))
    (k (AEnd.ret (AV.bool false)) []))
  (k (AEnd.ret (AV.bool false)) []) := by
  obtain ⟨p1, p2, p3, p4, p5, p6⟩ := psetB_iff.1 hp
  have no : ¬ (0 ≤ a ∧ a ≤ 15 ∧ 0 ≤ b ∧ b ≤ 16 - a) → right a b x = false := by
    intro h
    cases hr : right a b x with
    | false => rfl
    | true =>
      have := right_iff.1 hr
      exact absurd ⟨this.1, this.2.1, this.2.2.1, this.2.2.2.1⟩ h
  by_cases h1 : a ≥ 0
  · rw [aIf_pos (b := decide (a ≥ 0)) (by simpa using h1)]
    by_cases h2 : a ≤ 15
    · rw [aIf_pos (b := decide (a ≤ 15)) (by simpa using h2)]
      by_cases h3 : b ≥ 0
      · rw [aIf_pos (b := decide (b ≥ 0)) (by simpa using h3), i64_of (n := 16 - a) (by omega) (by omega)]
        by_cases h4 : b ≤ 16 - a
        · have hb := pow_le16 (n := b.toNat) (by omega)
          have e : min b.toNat 64 = b.toNat := by omega
          rw [aIf_pos (b := decide (b ≤ 16 - a)) (by simpa using h4), aIf_neg (neg_no h3), e, Int.one_mul, i64_of (n := x) (by omega) (by omega), i64_of (n := 2 ^ b.toNat) (by omega) (by omega)]
          have : right a b x = decide (x < 2 ^ b.toNat) := by
            have q1 : decide (0 ≤ a) = true := by simpa using h1
            have q2 : decide (a ≤ 15) = true := by simpa using h2
            have q3 : decide (0 ≤ b) = true := by simpa using h3
            have q4 : decide (b ≤ 16 - a) = true := by simpa using h4
            simp only [right, q1, q2, q3, q4, Bool.true_and]
          rw [this]
        · rw [aIf_neg (b := decide (b ≤ 16 - a)) (by simpa using h4), no (by omega)]
      · rw [aIf_neg (b := decide (b ≥ 0)) (by simpa using h3), no (by omega)]
    · rw [aIf_neg (b := decide (a ≤ 15)) (by simpa using h2), no (by omega)]
  · rw [aIf_neg (b := decide (a ≥ 0)) (by simpa using h1), no (by omega)]

def offB (a x : Int) : Bool := decide (0 ≤ a) && decide (a ≤ 15) && decide (0 ≤ x) && decide (x ≤ 65535)

theorem a_law {a x : Int} (h : offB a x = true) (k : KE) : k (.ret (.int .i64 (x / 2 ^ (16 - a).toNat))) [] =
  aIf (decide (IntKind.i64.wrap (16 - a) < 0)) none
  (k (AEnd.ret (AV.int IntKind.i64 ((IntKind.i64.wrap x).fdiv (2 ^ min (IntKind.i64.wrap (16 - a)).toNat 64)))) []) := by
  simp only [offB, Bool.and_eq_true, decide_eq_true_eq] at h
  rw [i64_of (n := 16 - a) (by omega) (by omega), i64_of (n := x) (by omega) (by omega), aIf_neg (neg_no (n := 16 - a) (by omega)), shr_eq]
  have e : min (16 - a).toNat 64 = (16 - a).toNat := by omega
  rw [e]

theorem psid_bounds {a b x : Int} (hp : psetB a b x = true) (hr : right a b 0 = true) : 0 ≤ psid a b x ∧ psid a b x ≤ 65535 ∧ psid a b x < 2 ^ b.toNat := by
  obtain ⟨h1, h2, h3, h4, _⟩ := right_iff.1 hr
  obtain ⟨_, _, _, _, h5, h6⟩ := psetB_iff.1 hp
  have hb := pow_le16 (n := b.toNat) (by omega)
  have h0 : 0 ≤ psid a b x := Int.emod_nonneg _ (by omega)
  have h1 : psid a b x < 2 ^ b.toNat := Int.emod_lt_of_pos _ (by omega)
  exact ⟨h0, by omega, h1⟩

theorem psid_ref {a b x : Int} (hp : psetB a b x = true) (hr : right a b 0 = true) :
    IntKind.u16.wrap (((IntKind.i64.wrap x).fdiv (2 ^ min (IntKind.i64.wrap (IntKind.i64.wrap (16 - a) - b)).toNat 64)).tmod (IntKind.i64.wrap (1 * 2 ^ min b.toNat 64))) = psid a b x := by
  obtain ⟨h1, h2, h3, h4, _⟩ := right_iff.1 hr
  obtain ⟨_, _, _, _, h5, h6⟩ := psetB_iff.1 hp
  have hb := pow_le16 (n := b.toNat) (by omega)
  have e1 : min (16 - a - b).toNat 64 = (16 - a - b).toNat := by omega
  have e2 : min b.toNat 64 = b.toNat := by omega
  rw [i64_of (n := 16 - a) (by omega) (by omega), i64_of (n := 16 - a - b) (by omega) (by omega), i64_of (n := x) (by omega) (by omega), Int.one_mul, e1, e2, i64_of (n := 2 ^ b.toNat) (by omega) (by omega), shr_eq]
  have hx0 : 0 ≤ x / 2 ^ (16 - a - b).toNat := Int.ediv_nonneg h5 (Int.le_of_lt (Int.pow_pos (by decide)))
  rw [Int.tmod_eq_emod_of_nonneg hx0]
  obtain ⟨b1, b2, _⟩ := psid_bounds hp hr
  exact u16_of b1 (by omega)

theorem of_ref {a b x : Int} (hp : psetB a b x = true) (k : KE) :
    aIf (right a b 0) (aIf (mine a x) (k (.ret (.tup [.int .u16 (psid a b x), .bool true, .int .i64 0])) []) (k (.ret (.tup [.int .u16 0, .bool false, .int .i64 0])) [])) (k (.ret (.tup [.int .u16 0, .bool false, .int .i64 90])) []) =
  aIf (psetB a b 0)
  (aIf (!right a b 0) (k (AEnd.ret (AV.tup [AV.int IntKind.u16 0, AV.bool false, AV.int IntKind.i64 90])) [])
    (aIf (decide (a > 0))
      (aIf (offB a x)
        (aIf (x / 2 ^ (16 - a).toNat == 0)
          (k (AEnd.ret (AV.tup [AV.int IntKind.u16 0, AV.bool false, AV.int IntKind.i64 0])) [])
          (aIf (decide (IntKind.i64.wrap (IntKind.i64.wrap (16 - a) - b) < 0)) none
            (aIf (decide (b < 0)) none
              (aIf (IntKind.i64.wrap (1 * 2 ^ min b.toNat 64) == 0) none
                (k (AEnd.ret (AV.tup [AV.int IntKind.u16 (IntKind.u16.wrap (((IntKind.i64.wrap x).fdiv (2 ^ min (IntKind.i64.wrap (IntKind.i64.wrap (16 - a) - b)).toNat 64)).tmod (IntKind.i64.wrap (1 * 2 ^ min b.toNat 64)))), AV.bool true, AV.int IntKind.i64 0])) [])))))
        none)
      (aIf (decide (IntKind.i64.wrap (IntKind.i64.wrap (16 - a) - b) < 0)) none
        (aIf (decide (b < 0)) none
          (aIf (IntKind.i64.wrap (1 * 2 ^ min b.toNat 64) == 0) none
            (k (AEnd.ret (AV.tup [AV.int IntKind.u16 (IntKind.u16.wrap (((IntKind.i64.wrap x).fdiv (2 ^ min (IntKind.i64.wrap (IntKind.i64.wrap (16 - a) - b)).toNat 64)).tmod (IntKind.i64.wrap (1 * 2 ^ min b.toNat 64)))), AV.bool true, AV.int IntKind.i64 0])) [])))))) none := by
  rw [aIf_pos (psetB_zero hp)]
  rcases Bool.eq_false_or_eq_true (right a b 0) with hr | hr
  · obtain ⟨h1, h2, h3, h4, _⟩ := right_iff.1 hr
    obtain ⟨_, _, _, _, h5, h6⟩ := psetB_iff.1 hp
    have hb := pow_le16 (n := b.toNat) (by omega)
    have e2 : min b.toNat 64 = b.toNat := by omega
    have ho : offB a x = true := by simp only [offB, Bool.and_eq_true, decide_eq_true_eq]; omega
    have hz : (IntKind.i64.wrap (1 * 2 ^ min b.toNat 64) == 0) = false := by
      rw [Int.one_mul, e2, i64_of (n := 2 ^ b.toNat) (by omega) (by omega)]
      simp; omega
    have hs : decide (IntKind.i64.wrap (IntKind.i64.wrap (16 - a) - b) < 0) = false := by
      rw [i64_of (n := 16 - a) (by omega) (by omega), i64_of (n := 16 - a - b) (by omega) (by omega)]
      exact neg_no (by omega)
    rw [aIf_pos hr, hr, psid_ref hp hr, aIf_pos ho, aIf_neg hs, aIf_neg (neg_no (n := b) (by omega)), aIf_neg hz]
    by_cases ha : a > 0
    · rw [aIf_pos (b := decide (a > 0)) (by simpa using ha)]
      have hm : mine a x = !decide (x / 2 ^ (16 - a).toNat = 0) := by
        have : decide (0 < a) = true := by simpa using ha
        simp only [mine, this, Bool.true_and]
      rw [hm, show (x / 2 ^ (16 - a).toNat == 0) = decide (x / 2 ^ (16 - a).toNat = 0) from rfl]
      cases decide (x / 2 ^ (16 - a).toNat = 0) <;> rfl
    · rw [aIf_neg (b := decide (a > 0)) (by simpa using ha)]
      have hm : mine a x = true := by
        have : decide (0 < a) = false := by simpa using ha
        simp only [mine, this, Bool.false_and, Bool.not_false]
      rw [hm]
      rfl
  · rw [aIf_neg hr, hr]
    rfl

theorem check_ref {a b x : Int} (hp : psetB a b x = true) (k : KE) : aIf (right a b x) (k (.ret (.int .i64 0)) []) (k (.ret (.int .i64 90)) []) =
    aIf (psetB a b x) (aIf (!right a b x) (k (AEnd.ret (AV.int IntKind.i64 90)) []) (k (AEnd.ret (AV.int IntKind.i64 0)) [])) none := by
  rw [aIf_pos hp]
  cases right a b x <;> rfl

theorem has_ref {a b x p : Int} (h : (psetB a b p && psetB a b x) = true) (k : KE) :
    aIf (right a b p) (k (.ret (.tup [.bool (mine a x && (psid a b x == p)), .int .i64 0])) []) (k (.ret (.tup [.bool false, .int .i64 90])) []) =
  aIf (psetB a b p)
  (aIf (!right a b p) (k (AEnd.ret (AV.tup [AV.bool false, AV.int IntKind.i64 90])) [])
    (aIf (psetB a b x)
      (aIf (right a b 0)
        (aIf (mine a x) (k (AEnd.ret (AV.tup [AV.bool (psid a b x == p), AV.int IntKind.i64 0])) [])
          (k (AEnd.ret (AV.tup [AV.bool false, AV.int IntKind.i64 0])) []))
        (k (AEnd.ret (AV.tup [AV.bool false, AV.int IntKind.i64 0])) []))
      none)) none := by
  rw [Bool.and_eq_true] at h
  rw [aIf_pos h.1, aIf_pos h.2]
  rcases Bool.eq_false_or_eq_true (right a b p) with hr | hr
  · rw [aIf_pos hr, hr, aIf_pos (right_zero hr)]
    cases mine a x <;> rfl
  · rw [aIf_neg hr, hr]
    rfl

def ofN (a b x : Int) : Int := bif right a b 0 && mine a x then psid a b x else 0
def ofB (a b x : Int) : Bool := right a b 0 && mine a x
def ofE (a b x : Int) : Int := bif right a b x then 0 else 90
def hasB (a b p x : Int) : Bool := right a b p && (mine a x && (psid a b x == p))
theorem aIf_true (x y : Res) : aIf true x y = x := rfl

end Go.Pl
