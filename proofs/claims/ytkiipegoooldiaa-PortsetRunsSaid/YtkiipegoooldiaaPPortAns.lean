/- What the functions of port sets answer, in plain words. -/
import Derived.Test.YtkiipegoooldiaaPPortLink
namespace Go.Pl
open Go.Abs

def i64B (i : Int) : Bool := decide (-9223372036854775808 ≤ i) && decide (i ≤ 9223372036854775807)
def inN (a b i : Int) : Bool := decide (0 ≤ i) && decide (i < count a b)
def cntN (a b p : Int) : Int := bif right a b p then count a b else 0
def atN (a b p i : Int) : Int := bif right a b p && inN a b i then (atP a.toNat b.toNat p.toNat i.toNat : Int) else 0
def atE (a b p i : Int) : Int := bif right a b p then (bif inN a b i then 0 else 5) else 90
def idxN (a b p x : Int) : Int := bif hasB a b p x then (idxP a.toNat b.toNat x.toNat : Int) else 0
def idxE (a b p x : Int) : Int := bif right a b p then (bif hasB a b p x then 0 else 91) else 90
def nxtN (a b p x : Int) : Int := bif right a b p then (nextP a.toNat b.toNat p.toNat x.toNat : Int) else 0
def mI (a b : Int) : Int := (mP a.toNat b.toNat : Int)

theorem u32_nat {x : Nat} (h : x < 4294967296) : (BitVec.ofInt 32 (x : Int)).toNat = x := by
  rw [BitVec.toNat_ofInt]; omega
theorem u64_nat {x : Nat} (h : x < 9223372036854775808) : (BitVec.ofInt 64 (x : Int)).toNat = x := by
  rw [BitVec.toNat_ofInt]; omega
theorem or32 {x y n : Nat} (hy : y < 2 ^ n) (hd : 2 ^ n ∣ x) (hx : x + y < 4294967296) : ((BitVec.ofInt 32 (x : Int) ||| BitVec.ofInt 32 (y : Int)).toNat : Int) = ((x + y : Nat) : Int) := by
  rw [BitVec.toNat_or, u32_nat (by omega), u32_nat (by omega)]
  obtain ⟨q, rfl⟩ := hd
  rw [← Nat.two_pow_add_eq_or_of_lt hy]
theorem and64 {x n : Nat} (hx : x < 9223372036854775808) (hn : 2 ^ n ≤ 9223372036854775808) : ((BitVec.ofInt 64 (x : Int) &&& BitVec.ofInt 64 ((2 ^ n : Nat) - 1 : Int)).toNat : Int) = ((x % 2 ^ n : Nat) : Int) := by
  have := Nat.two_pow_pos n
  rw [show (((2 ^ n : Nat) : Int) - 1) = ((2 ^ n - 1 : Nat) : Int) by omega, BitVec.toNat_and, u64_nat hx, u64_nat (by omega), Nat.and_two_pow_sub_one_eq_mod]

theorem psetB_nat {a b x : Nat} (ha : a ≤ 15) (hb : a + b ≤ 16) (hx : x ≤ 65535) : psetB (a : Int) (b : Int) (x : Int) = true := by rw [psetB_iff]; omega
theorem i64B_iff {i : Int} : i64B i = true ↔ -9223372036854775808 ≤ i ∧ i ≤ 9223372036854775807 := by simp [i64B]
theorem mI_nat (a b : Nat) : mI (a : Int) (b : Int) = (mP a b : Int) := rfl
theorem mP_le16 (a b : Nat) : mP a b ≤ 65536 := by
  unfold mP
  calc 2 ^ (16 - a - b) ≤ 2 ^ 16 := Nat.pow_le_pow_right (by omega) (by omega)
    _ = 65536 := by decide
theorem AP_le16 (a : Nat) : AP a ≤ 65536 := by
  unfold AP
  calc 2 ^ (16 - a) ≤ 2 ^ 16 := Nat.pow_le_pow_right (by omega) (by omega)
    _ = 65536 := by decide
theorem cast_pow (n : Nat) : (2 : Int) ^ n = ((2 ^ n : Nat) : Int) := by simp

theorem w16a {a b : Nat} (ha : a ≤ 15) (hb : a + b ≤ 16) : IntKind.u64.wrap (IntKind.i64.wrap (16 - (a : Int))) = ((16 - a : Nat) : Int) := by
  rw [i64_of (by omega) (by omega), u64_of (by omega) (by omega)]; omega
theorem w16b {a b : Nat} (ha : a ≤ 15) (hb : a + b ≤ 16) : IntKind.u64.wrap (16 - (a : Int) - (b : Int)) = ((16 - a - b : Nat) : Int) := by
  rw [u64_of (by omega) (by omega)]; omega
theorem frm_le {a b p : Nat} (ha : a ≤ 15) (hb : a + b ≤ 16) {g : Nat} (hp : p < 2 ^ b) (hg : g < 2 ^ a) : frm a b p g + mP a b ≤ 65536 := by
  have hl := frm_lt (g := 0) (r := mP a b - 1) hb hp (by have := mP_pos a b; omega)
  have hpos := mP_pos a b
  have : frm a b p g + mP a b ≤ (g + 1) * AP a := by unfold frm; rw [Nat.add_mul, Nat.one_mul]; omega
  have h2 : (g + 1) * AP a ≤ 2 ^ a * AP a := Nat.mul_le_mul_right _ hg
  rw [all_eq (by omega)] at h2
  omega
theorem frm_dvd {a b p : Nat} (ha : a ≤ 15) (hb : a + b ≤ 16) (g : Nat) : mP a b ∣ frm a b p g := by
  unfold frm
  rw [AP_eq hb]
  exact Nat.dvd_add (Nat.dvd_trans (Nat.dvd_mul_right _ _) (Nat.dvd_mul_left _ _)) (Nat.dvd_mul_left _ _)
/-- Where a group's run begins, as the program reckons it. -/
theorem from_val {a b p : Nat} (ha : a ≤ 15) (hb : a + b ≤ 16) {G : Int} {g : Nat} (hp : p < 2 ^ b) (hg : g < 2 ^ a) (hG : IntKind.u32.wrap G = (g : Int)) :
    IntKind.u32.wrap ((BitVec.ofInt 32 (IntKind.u32.wrap (IntKind.u32.wrap G * 2 ^ min (IntKind.u64.wrap (IntKind.i64.wrap (16 - (a : Int)))).toNat 32)) |||
      BitVec.ofInt 32 (IntKind.u32.wrap (IntKind.u32.wrap (p : Int) * 2 ^ min (IntKind.u64.wrap (16 - (a : Int) - (b : Int))).toNat 32))).toNat : Int) = (frm a b p g : Int) := by
  have h1 := frm_le ha hb hp hg
  have hpos := mP_pos a b
  have e : frm a b p g = g * AP a + p * mP a b := rfl
  have hp16 : p < 65536 := Nat.lt_of_lt_of_le hp (by
    calc 2 ^ b ≤ 2 ^ 16 := Nat.pow_le_pow_right (by omega) (by omega)
      _ = 65536 := by decide)
  have hl := frm_lt (g := 0) (r := 0) hb hp hpos
  rw [hG, w16a ha hb, w16b ha hb, Int.toNat_natCast, Int.toNat_natCast, show min (16 - a) 32 = 16 - a by omega, show min (16 - a - b) 32 = 16 - a - b by omega, cast_pow, cast_pow, u32_of (n := (p : Int)) (by omega) (by omega)]
  change IntKind.u32.wrap ((BitVec.ofInt 32 (IntKind.u32.wrap ((g : Int) * (AP a : Int))) ||| BitVec.ofInt 32 (IntKind.u32.wrap ((p : Int) * (mP a b : Int)))).toNat : Int) = _
  rw [← Int.natCast_mul, ← Int.natCast_mul, u32_of (n := ((g * AP a : Nat) : Int)) (by omega) (by omega), u32_of (n := ((p * mP a b : Nat) : Int)) (by omega) (by omega)]
  rw [or32 (x := g * AP a) (n := 16 - a) (by show p * mP a b < AP a; omega) (Nat.dvd_mul_left _ _) (by omega), ← e, u32_of (by omega) (by omega)]
/-- A port of a run. -/
theorem port_val {a b p : Nat} (ha : a ≤ 15) (hb : a + b ≤ 16) {g r : Nat} (hp : p < 2 ^ b) (hg : g < 2 ^ a) (hr : r < mP a b) :
    IntKind.u16.wrap (IntKind.u32.wrap ((BitVec.ofInt 32 (frm a b p g : Int) ||| BitVec.ofInt 32 (r : Int)).toNat : Int)) = ((frm a b p g + r : Nat) : Int) := by
  have h1 := frm_le ha hb hp hg
  rw [or32 (n := 16 - a - b) hr (frm_dvd ha hb g) (by omega), u32_of (by omega) (by omega), u16_of (by omega) (by omega)]

theorem low_law {a b p : Int} (hp : (psetB a b p && right a b p) = true) (k : KE) : k (.ret (.int .i64 (16 - a - b))) [] = k (AEnd.ret (AV.int IntKind.i64 (IntKind.i64.wrap (IntKind.i64.wrap (16 - a) - b)))) [] := by
  simp only [Bool.and_eq_true, right_iff] at hp
  rw [i64_of (n := 16 - a) (by omega) (by omega), i64_of (by omega) (by omega)]
theorem size_law {a b p : Int} (hp : (psetB a b p && right a b p) = true) (k : KE) : k (.ret (.int .i64 (mI a b))) [] = aIf (decide (IntKind.i64.wrap (IntKind.i64.wrap (16 - a) - b) < 0)) none
    (k (AEnd.ret (AV.int IntKind.i64 (IntKind.i64.wrap (1 * 2 ^ min (IntKind.i64.wrap (IntKind.i64.wrap (16 - a) - b)).toNat 64)))) []) := by
  simp only [Bool.and_eq_true] at hp
  obtain ⟨a, b, p, rfl, rfl, rfl, ha, hb, hp⟩ := right_nats hp.1 hp.2
  have := mP_le16 a b
  rw [i64_of (n := 16 - (a : Int)) (by omega) (by omega), i64_of (n := 16 - (a : Int) - (b : Int)) (by omega) (by omega), show (16 - (a : Int) - (b : Int)).toNat = 16 - a - b by omega, show min (16 - a - b) 64 = 16 - a - b by omega, Int.one_mul, cast_pow]
  change _ = aIf _ none (k (AEnd.ret (AV.int IntKind.i64 (IntKind.i64.wrap (mP a b : Int)))) [])
  rw [i64_of (n := (mP a b : Int)) (by omega) (by omega), aIf_neg (by simp; omega), mI_nat]

theorem tdiv_nat (x y : Nat) : (x : Int).tdiv (y : Int) = ((x / y : Nat) : Int) := by
  rw [Int.tdiv_eq_ediv_of_nonneg (by omega)]; simp
theorem tmod_nat (x y : Nat) : (x : Int).tmod (y : Int) = ((x % y : Nat) : Int) := by
  rw [Int.tmod_eq_emod_of_nonneg (by omega)]; simp
theorem group_lt {a b : Nat} (ha : a ≤ 15) (hb : a + b ≤ 16) {i : Nat} (hi : i < nP a b) : gZ a + i / mP a b < 2 ^ a := by
  have := gZ_lt a
  have h2 : i / mP a b < 2 ^ a - gZ a := by rw [Nat.div_lt_iff_lt_mul (mP_pos a b)]; exact hi
  omega
theorem two_le {a b : Nat} (ha : a ≤ 15) (hb : a + b ≤ 16) : 2 ^ a ≤ 32768 := by
  calc 2 ^ a ≤ 2 ^ 15 := Nat.pow_le_pow_right (by omega) (by omega)
    _ = 32768 := by decide
theorem mI_ne {a b : Nat} (ha : a ≤ 15) (hb : a + b ≤ 16) : (mI (a : Int) (b : Int) == 0) = false := by
  have := mP_pos a b
  rw [mI_nat]; exact beq_eq_false_iff_ne.2 (by omega)
theorem inN_nat {a b : Nat} (ha : a ≤ 15) (hb : a + b ≤ 16) (i : Nat) : inN (a : Int) (b : Int) (i : Int) = decide (i < nP a b) := by
  unfold inN
  rw [count_nat ha hb, decide_eq_true (show (0 : Int) ≤ (i : Int) by omega), Bool.true_and]
  exact decide_eq_decide.2 (by omega)
theorem i16a {a b : Nat} (ha : a ≤ 15) (hb : a + b ≤ 16) : IntKind.i64.wrap (16 - (a : Int)) = ((16 - a : Nat) : Int) := by
  rw [i64_of (by omega) (by omega)]; omega
/-- A port, as the document reckons it. -/
theorem port_ref {a b p : Nat} (ha : a ≤ 15) (hb : a + b ≤ 16) {G r : Int} {g r' : Nat} (hp : p < 2 ^ b) (hg : g < 2 ^ a) (hG : G = (g : Int)) (hr : r = (r' : Int)) (hr2 : r' < mP a b) :
    IntKind.u16.wrap (IntKind.i64.wrap (IntKind.i64.wrap (IntKind.i64.wrap (G * 2 ^ min (IntKind.i64.wrap (16 - (a : Int))).toNat 64) + IntKind.i64.wrap (IntKind.i64.wrap (p : Int) * mI (a : Int) (b : Int))) + r)) = ((frm a b p g + r' : Nat) : Int) := by
  have h1 := frm_le ha hb hp hg
  have e : frm a b p g = g * AP a + p * mP a b := rfl
  have hp16 : p < 65536 := Nat.lt_of_lt_of_le hp (by
    calc 2 ^ b ≤ 2 ^ 16 := Nat.pow_le_pow_right (by omega) (by omega)
      _ = 65536 := by decide)
  rw [hG, hr, i16a ha hb, Int.toNat_natCast, show min (16 - a) 64 = 16 - a by omega, cast_pow, mI_nat, i64_of (n := (p : Int)) (by omega) (by omega)]
  change IntKind.u16.wrap (IntKind.i64.wrap (IntKind.i64.wrap (IntKind.i64.wrap ((g : Int) * (AP a : Int)) + IntKind.i64.wrap ((p : Int) * (mP a b : Int))) + (r' : Int))) = _
  rw [← Int.natCast_mul, ← Int.natCast_mul, i64_of (n := ((g * AP a : Nat) : Int)) (by omega) (by omega), i64_of (n := ((p * mP a b : Nat) : Int)) (by omega) (by omega), ← Int.natCast_add, ← e, i64_of (n := (frm a b p g : Int)) (by omega) (by omega), ← Int.natCast_add, i64_of (by omega) (by omega), u16_of (by omega) (by omega)]
theorem quo_le {a b : Nat} (ha : a ≤ 15) (hb : a + b ≤ 16) {x : Nat} (hx : x < 65536) : x / AP a < 2 ^ a := by
  rw [Nat.div_lt_iff_lt_mul (AP_pos a), all_eq (by omega)]; exact hx
theorem idx_le {a b : Nat} (ha : a ≤ 15) (hb : a + b ≤ 16) {q r : Nat} (hq : q ≤ 65536) (hr : r < mP a b) : q * mP a b + r < 4294967296 + 65536 := by
  have h1 := mP_le16 a b
  have := Nat.mul_le_mul hq h1
  omega
/-- A place, as the program reckons it. -/
theorem idx_val {a b : Nat} (ha : a ≤ 15) (hb : a + b ≤ 16) {Q : Int} {q x : Nat} (hQ : Q = (q : Int)) (hq : q ≤ 65536) (hx : x < 65536) :
    IntKind.i64.wrap (IntKind.i64.wrap (Q * mI (a : Int) (b : Int)) + IntKind.i64.wrap ((BitVec.ofInt 64 (IntKind.i64.wrap (x : Int)) &&& BitVec.ofInt 64 (IntKind.i64.wrap (mI (a : Int) (b : Int) - 1))).toNat : Int)) = ((q * mP a b + x % mP a b : Nat) : Int) := by
  have hpos := mP_pos a b
  have h1 := mP_le16 a b
  have hm : x % mP a b < mP a b := Nat.mod_lt _ hpos
  have := idx_le ha hb hq hm
  rw [hQ, mI_nat, i64_of (n := (x : Int)) (by omega) (by omega), i64_of (n := (mP a b : Int) - 1) (by omega) (by omega)]
  have e := and64 (x := x) (n := 16 - a - b) (by omega) (by show mP a b ≤ _; omega)
  change ((BitVec.ofInt 64 (x : Int) &&& BitVec.ofInt 64 ((mP a b : Int) - 1)).toNat : Int) = ((x % mP a b : Nat) : Int) at e
  rw [e, ← Int.natCast_mul, i64_of (n := ((q * mP a b : Nat) : Int)) (by omega) (by omega), i64_of (n := ((x % mP a b : Nat) : Int)) (by omega) (by omega), ← Int.natCast_add, i64_of (by omega) (by omega)]
/-- A place, as the document reckons it. -/
theorem idx_val2 {a b : Nat} (ha : a ≤ 15) (hb : a + b ≤ 16) {Q : Int} {q x : Nat} (hQ : Q = (q : Int)) (hq : q ≤ 65536) (hx : x < 65536) :
    IntKind.i64.wrap (IntKind.i64.wrap (Q * mI (a : Int) (b : Int)) + (IntKind.i64.wrap (x : Int)).tmod (mI (a : Int) (b : Int))) = ((q * mP a b + x % mP a b : Nat) : Int) := by
  have hpos := mP_pos a b
  have h1 := mP_le16 a b
  have hm : x % mP a b < mP a b := Nat.mod_lt _ hpos
  have := idx_le ha hb hq hm
  rw [hQ, mI_nat, i64_of (n := (x : Int)) (by omega) (by omega), tmod_nat, ← Int.natCast_mul, i64_of (n := ((q * mP a b : Nat) : Int)) (by omega) (by omega), ← Int.natCast_add, i64_of (by omega) (by omega)]
theorem quo_nat {a b : Nat} (ha : a ≤ 15) (hb : a + b ≤ 16) {x : Nat} (hx : x < 65536) : (IntKind.i64.wrap (x : Int)).fdiv (2 ^ min (IntKind.i64.wrap (16 - (a : Int))).toNat 64) = ((x / AP a : Nat) : Int) := by
  rw [i64_of (n := (x : Int)) (by omega) (by omega), i16a ha hb, Int.toNat_natCast, show min (16 - a) 64 = 16 - a by omega, cast_pow, Int.fdiv_eq_ediv_of_nonneg _ (Int.natCast_nonneg _)]
  simp [AP]
theorem cnt_ref {a b p : Int} (hp : psetB a b p = true) (k : KE) : k (.ret (.tup [.int .i64 (cntN a b p), .int .i64 (ofE a b p)])) [] =
    aIf (psetB a b p) (aIf (!right a b p) (k (AEnd.ret (AV.tup [AV.int IntKind.i64 0, AV.int IntKind.i64 90])) []) (aIf (a == 0) (aIf (psetB a b p && right a b p) (k (AEnd.ret (AV.tup [AV.int IntKind.i64 (mI a b), AV.int IntKind.i64 0])) []) none) (aIf (decide (a < 0)) none (aIf (psetB a b p && right a b p) (k (AEnd.ret (AV.tup [AV.int IntKind.i64 (IntKind.i64.wrap (IntKind.i64.wrap (IntKind.i64.wrap (1 * 2 ^ min a.toNat 64) - 1) * mI a b)), AV.int IntKind.i64 0])) []) none)))) none := by
  rw [aIf_pos hp]
  unfold cntN ofE
  cases hr : right a b p with
  | false => rfl
  | true =>
    obtain ⟨a, b, p, rfl, rfl, rfl, ha, hb, hpb⟩ := right_nats hp hr
    rw [aIf_neg (by rfl), cond_true, cond_true, Bool.and_true, hp, aIf_pos rfl, aIf_pos rfl, count_nat ha hb]
    have h1 := mP_le16 a b
    have h15 := two_le ha hb
    by_cases h0 : a = 0
    · subst h0
      rw [aIf_pos (by rfl), mI_nat]
      rw [show nP 0 b = mP 0 b by unfold nP; simp [gZ]]
    · have hz : gZ a = 1 := if_neg h0
      have h2 := Nat.one_lt_two_pow h0
      have h3 : nP a b = (2 ^ a - 1) * mP a b := by unfold nP; rw [hz]
      have h4 := nP_le hb
      rw [aIf_neg (beq_eq_false_iff_ne.2 (by omega)), aIf_neg (decide_eq_false (by omega)), mI_nat, Int.toNat_natCast, show min a 64 = a by omega, cast_pow, Int.one_mul, i64_of (n := ((2 ^ a : Nat) : Int)) (by omega) (by omega),
        show ((2 ^ a : Nat) : Int) - 1 = ((2 ^ a - 1 : Nat) : Int) by omega, i64_of (n := ((2 ^ a - 1 : Nat) : Int)) (by omega) (by omega), ← Int.natCast_mul, ← h3, i64_of (by omega) (by omega)]
theorem inN_neg {a b i : Int} (h : i < 0) : inN a b i = false := by
  unfold inN; rw [decide_eq_false (by omega)]; rfl

/-- Does a port of this group stand behind x? -/
def nxC (a b p x g : Nat) : Bool := decide (gZ a ≤ g) && decide (x < frm a b p g + (mP a b - 1))
def nxF (a b p x : Nat) : Nat := firstN (nxC a b p x) (2 ^ a) 0
def nxB (a b p x : Int) : Bool := decide (nxF a.toNat b.toNat p.toNat x.toNat < 2 ^ a.toNat)
def nxG (a b p x : Int) : Int := (nxF a.toNat b.toNat p.toNat x.toNat : Int)
theorem runX_first {f : Nat → Unit → Nx Unit} {e : Unit → AExit × ATs × AH} {b : Nat → Bool} {v : Nat → AExit × ATs × AH} (hf : ∀ j, f j () = bif b j then .stop (v j).1 (v j).2.1 (v j).2.2 else .go ()) :
    ∀ n j, runX f e n j () = bif decide (firstN b n j < j + n) then v (firstN b n j) else e ()
  | 0, j => by
    rw [decide_eq_false (show ¬ firstN b 0 j < j + 0 by show ¬ j < j + 0; omega)]
    rfl
  | n + 1, j => by
    cases hb : b j
    · have e1 : firstN b (n + 1) j = firstN b n (j + 1) := by simp only [firstN]; rw [hb]; rfl
      have e2 : runX f e (n + 1) j () = runX f e n (j + 1) () := by simp only [runX]; rw [hf, hb]; rfl
      rw [e1, e2, runX_first hf n (j + 1), show j + 1 + n = j + (n + 1) by omega]
    · have e1 : firstN b (n + 1) j = j := by simp only [firstN]; rw [hb]; rfl
      have e2 : runX f e (n + 1) j () = v j := by simp only [runX]; rw [hf, hb]; rfl
      rw [e1, e2, decide_eq_true (by omega)]; rfl
theorem pow_val {a : Nat} (ha : a ≤ 15) : IntKind.i64.wrap (1 * 2 ^ min (a : Int).toNat 64) = ((2 ^ a : Nat) : Int) := by
  have h15 : 2 ^ a ≤ 32768 := by
    calc 2 ^ a ≤ 2 ^ 15 := Nat.pow_le_pow_right (by omega) (by omega)
      _ = 32768 := by decide
  rw [Int.toNat_natCast, show min a 64 = a by omega, cast_pow, Int.one_mul, i64_of (n := ((2 ^ a : Nat) : Int)) (by have := Int.natCast_nonneg (2 ^ a); omega) (by omega)]
theorem nxF_stop {a b p x : Nat} (ha : a ≤ 15) (hb : a + b ≤ 16) (hp : p < 2 ^ b) (hx : x < 65536) (h : nxF a b p x < 2 ^ a) : nextP a b p x = max (frm a b p (nxF a b p x)) (x + 1) := by
  rcases firstN_spec (nxC a b p x) (2 ^ a) 0 with ⟨h1, h2, h3, h4⟩ | ⟨h1, h2⟩
  · have h3' := by simpa only [nxC, Bool.and_eq_true, decide_eq_true_eq] using h3
    refine next_runs hb hp hx h3'.1 h h3'.2 fun k hk1 hk2 => ?_
    have := h4 k (Nat.zero_le _) hk2
    simp only [nxC, decide_eq_true hk1, Bool.true_and, decide_eq_false_iff_not] at this
    exact this
  · unfold nxF at h; omega
theorem nxF_none {a b p x : Nat} (ha : a ≤ 15) (hb : a + b ≤ 16) (hp : p < 2 ^ b) (hx : x < 65536) (h : ¬ nxF a b p x < 2 ^ a) : nextP a b p x = atP a b p 0 := by
  rcases firstN_spec (nxC a b p x) (2 ^ a) 0 with ⟨h1, h2, h3, h4⟩ | ⟨h1, h2⟩
  · unfold nxF at h; omega
  · refine next_no_runs hb hp hx fun k hk1 hk2 => ?_
    have := h2 k (Nat.zero_le _) (by omega)
    simp only [nxC, decide_eq_true hk1, Bool.true_and, decide_eq_false_iff_not] at this
    exact this
/-- A run's last port, as the program reckons it. -/
theorem to_val {a b p : Nat} (ha : a ≤ 15) (hb : a + b ≤ 16) (hp : p < 2 ^ b) {g : Nat} (hg : g < 2 ^ a) : IntKind.u16.wrap (IntKind.u32.wrap ((BitVec.ofInt 32 (frm a b p g : Int) ||| BitVec.ofInt 32 (IntKind.u32.wrap (IntKind.u32.wrap (1 * 2 ^ min (IntKind.u64.wrap (16 - (a : Int) - (b : Int))).toNat 32) - 1))).toNat : Int)) = ((frm a b p g + (mP a b - 1) : Nat) : Int) := by
  have hpos := mP_pos a b
  have h1 := mP_le16 a b
  have e : IntKind.u32.wrap (IntKind.u32.wrap (1 * 2 ^ min (IntKind.u64.wrap (16 - (a : Int) - (b : Int))).toNat 32) - 1) = ((mP a b - 1 : Nat) : Int) := by
    rw [w16b ha hb, Int.toNat_natCast, show min (16 - a - b) 32 = 16 - a - b by omega, Int.one_mul, cast_pow]
    change IntKind.u32.wrap (IntKind.u32.wrap (mP a b : Int) - 1) = _
    rw [u32_of (n := (mP a b : Int)) (by omega) (by omega), u32_of (by omega) (by omega)]; omega
  rw [e, port_val ha hb hp hg (by omega)]
theorem frm16 {a b p : Nat} (ha : a ≤ 15) (hb : a + b ≤ 16) (hp : p < 2 ^ b) {g : Nat} (hg : g < 2 ^ a) : IntKind.u16.wrap (frm a b p g : Int) = (frm a b p g : Int) := by
  have := frm_le ha hb hp hg
  have hpos := mP_pos a b
  exact u16_of (by omega) (by omega)
theorem next_lt {a b p x : Nat} (ha : a ≤ 15) (hb : a + b ≤ 16) (hp : p < 2 ^ b) (hx : x < 65536) : nextP a b p x < 65536 := by
  by_cases h : nxF a b p x < 2 ^ a
  · rw [nxF_stop ha hb hp hx h]
    rcases firstN_spec (nxC a b p x) (2 ^ a) 0 with ⟨h1, h2, h3, h4⟩ | ⟨h1, h2⟩
    · have h3' := by simpa only [nxC, Bool.and_eq_true, decide_eq_true_eq] using h3
      have := frm_le ha hb hp h
      have hpos := mP_pos a b
      have h5 : x < frm a b p (nxF a b p x) + (mP a b - 1) := h3'.2
      omega
    · unfold nxF at h; omega
  · rw [nxF_none ha hb hp hx h]
    refine at_lt hb hp ?_
    unfold nP
    have := gZ_lt a
    exact Nat.mul_pos (by omega) (mP_pos a b)

/-- The document's look from a port on. -/
def nfF (a b p i : Nat) : Nat := firstN (memP a b p) (65536 - i) i
def nfB (a b p i : Int) : Bool := decide (nfF a.toNat b.toNat p.toNat i.toNat < 65536)
def nfN (a b p i : Int) : Int := (nfF a.toNat b.toNat p.toNat i.toNat : Int)
theorem nextP_nf {a b p x : Nat} (hx : x < 65536) : nextP a b p x = bif decide (nfF a b p (x + 1) < 65536) then nfF a b p (x + 1) else atP a b p 0 := by
  unfold nextP nfF
  rw [show 65536 - (x + 1) = 65535 - x by omega]
  rcases firstN_spec (memP a b p) (65535 - x) (x + 1) with ⟨h1, h2, h3, h4⟩ | ⟨h1, h2⟩
  · rw [show (firstN (memP a b p) (65535 - x) (x + 1) == 65536) = false from beq_eq_false_iff_ne.2 (by omega), decide_eq_true (by omega)]; rfl
  · rw [h1, show x + 1 + (65535 - x) = 65536 by omega]; rfl

/-- Rows of runs as cells, as elements. -/
def rowsA (l : List (Nat × Nat)) : List AV := l.flatMap fun r => [.int .u16 (r.1 : Int), .int .u16 (r.2 : Int)]
def rowsE (l : List (Nat × Nat)) : List AV := l.map fun r => .agg [.int .u16 (r.1 : Int), .int .u16 (r.2 : Int)]
def runsR (a b p : Int) : List (Nat × Nat) := rowsG a.toNat b.toNat p.toNat (2 ^ a.toNat - gZ a.toNat)
theorem rowsA_snoc (l : Rows2) (q : Nat × Nat) : rowsA (l ++ [q]) = rowsA l ++ [.int .u16 (q.1 : Int), .int .u16 (q.2 : Int)] := by simp [rowsA]
theorem rowsA_length : ∀ l : Rows2, (rowsA l).length = 2 * l.length
  | [] => rfl
  | q :: l => by
    show (_ :: _ :: rowsA l).length = _
    simp only [List.length_cons]
    rw [rowsA_length l]; omega
theorem rowsA_last (l : Rows2) (q : Nat × Nat) : (rowsA (l ++ [q])).getD (2 * l.length + 1) .junk = .int .u16 (q.2 : Int) := by
  rw [rowsA_snoc, List.getD_eq_getElem?_getD, List.getElem?_append_right (by rw [rowsA_length]; omega), rowsA_length, show 2 * l.length + 1 - 2 * l.length = 1 by omega]; rfl
theorem rowsA_set (l : Rows2) (q : Nat × Nat) (t : Nat) : (rowsA (l ++ [q])).set (2 * l.length + 1) (.int .u16 (t : Int)) = rowsA (lastTo (l ++ [q]) t) := by
  rw [lastTo_snoc, rowsA_snoc, rowsA_snoc, List.set_append_right _ _ (by rw [rowsA_length]; omega), rowsA_length, show 2 * l.length + 1 - 2 * l.length = 1 by omega]; rfl
theorem rowsA_put (l : Rows2) (x y : Nat) : (rowsA l).take (l.length * 2) ++ [.int .u16 (x : Int), .int .u16 (y : Int)] ++ (rowsA l).drop (l.length * 2 + 2) = rowsA (l ++ [(x, y)]) := by
  rw [List.take_of_length_le (by rw [rowsA_length]; omega), List.drop_eq_nil_of_le (by rw [rowsA_length]; omega), List.append_nil, rowsA_snoc]
theorem rowsA_upto (n : Nat) : ∀ l : Rows2, AV.uptoL n (rowsA l) = true
  | [] => rfl
  | q :: l => by
    show (true && (true && AV.uptoL n (rowsA l))) = true
    rw [rowsA_upto n l]; rfl
theorem rowsA_flat : ∀ l : Rows2, flatL (rowsA l) = true
  | [] => rfl
  | q :: l => by
    show (true && (true && flatL (rowsA l))) = true
    rw [rowsA_flat l]; rfl
theorem lastTo_length (t : Nat) : ∀ l : Rows2, (lastTo l t).length = l.length
  | [] => rfl
  | [_] => rfl
  | _ :: s :: l => by
    show (_ :: lastTo (s :: l) t).length = _
    rw [List.length_cons, lastTo_length t (s :: l)]; rfl
theorem rowsG_last {a b p : Nat} (k : Nat) : ∃ l x, rowsG a b p (k + 1) = l ++ [(x, frm a b p (gZ a + k) + mP a b - 1)] := by
  induction k with
  | zero => exact ⟨[], frm a b p (gZ a + 0), rfl⟩
  | succ k ih =>
    obtain ⟨l, x, h⟩ := ih
    show ∃ l' x', (bif decide (k + 1 > 0) && (b == 0) then lastTo (rowsG a b p (k + 1)) (frm a b p (gZ a + (k + 1)) + mP a b - 1) else rowsG a b p (k + 1) ++ [(frm a b p (gZ a + (k + 1)), frm a b p (gZ a + (k + 1)) + mP a b - 1)]) = l' ++ [(x', _)]
    cases decide (k + 1 > 0) && (b == 0) with
    | true => rw [cond_true, h, lastTo_snoc]; exact ⟨_, _, rfl⟩
    | false => rw [cond_false]; exact ⟨_, _, rfl⟩
theorem rowsG_len {a b p : Nat} : ∀ k, (rowsG a b p k).length ≤ k
  | 0 => Nat.le_refl _
  | k + 1 => by
    have ih := rowsG_len (a := a) (b := b) (p := p) k
    show (bif decide (k > 0) && (b == 0) then _ else _ : Rows2).length ≤ _
    cases decide (k > 0) && (b == 0)
    · rw [cond_false, List.length_append]; simp; omega
    · rw [cond_true, lastTo_length]; omega
theorem chunk_rows : ∀ l : Rows2, chunkF 2 0 l.length (rowsA l) = rowsE l := by
  intro l
  show (List.range l.length).map (fun i => AV.agg (((rowsA l).drop (0 + i * 2)).take 2)) = _
  induction l with
  | nil => rfl
  | cons q l ih =>
    rw [List.length_cons, List.range_succ_eq_map, List.map_cons, List.map_map]
    show _ :: List.map ((fun i => AV.agg ((List.drop (0 + i * 2) (AV.int .u16 (q.1 : Int) :: .int .u16 (q.2 : Int) :: rowsA l)).take 2)) ∘ Nat.succ) (List.range l.length) = .agg [.int .u16 (q.1 : Int), .int .u16 (q.2 : Int)] :: rowsE l
    rw [← ih]
    congr 1
    refine List.map_congr_left fun i _ => ?_
    show AV.agg ((List.drop (0 + (i + 1) * 2) (_ :: _ :: rowsA l)).take 2) = _
    rw [show 0 + (i + 1) * 2 = (0 + i * 2) + 1 + 1 by omega, List.drop_succ_cons, List.drop_succ_cons]

def runsW (a b p : Int) : Bool := (foldF (lookR (memP a.toNat b.toNat p.toNat)) 65536 0 ([], false)).2
def runsV (a b p : Int) : List AV := bif right a b p then rowsE (runsR a b p) else []
def runsS (a b p : Int) : SF := bif right a b p then .any else .nil
def slD (l : List (Nat × Nat)) : AV := match l with
  | [] => .fs 0 [] .nil
  | _ :: _ => .sl 1 (2 * l.length) 0 l.length 2
def hpD (v : AO) (l : List (Nat × Nat)) : AH := match l with
  | [] => [v]
  | _ :: _ => [v, .cells (2 * l.length) (rowsA l)]
theorem slD_snoc (l : Rows2) (q : Nat × Nat) : slD (l ++ [q]) = .sl 1 (2 * (l.length + 1)) 0 (l.length + 1) 2 := by
  cases l with
  | nil => rfl
  | cons x l => show AV.sl 1 (2 * (x :: (l ++ [q])).length) 0 (x :: (l ++ [q])).length 2 = _; simp
theorem hpD_snoc (v : AO) (l : Rows2) (q : Nat × Nat) : hpD v (l ++ [q]) = [v, .cells (2 * (l.length + 1)) (rowsA (l ++ [q]))] := by
  cases l with
  | nil => rfl
  | cons x l => show [v, AO.cells (2 * (x :: (l ++ [q])).length) _] = _; simp
theorem runsR_ne {a b p : Nat} : ∃ l q, runsR (a : Int) (b : Int) (p : Int) = l ++ [q] := by
  have := gZ_lt a
  obtain ⟨k, hk⟩ : ∃ k, 2 ^ a - gZ a = k + 1 := ⟨2 ^ a - gZ a - 1, by omega⟩
  obtain ⟨l, x, h⟩ := rowsG_last (a := a) (b := b) (p := p) k
  exact ⟨l, _, (show rowsG a b p (2 ^ a - gZ a) = _ by rw [hk]; exact h)⟩
theorem rowsE_length (l : Rows2) : (rowsE l).length = l.length := by simp [rowsE]

/-- Are elements a pair of ports each? -/
def portsB : List AV → Bool
  | [] => true
  | .agg [.int .u16 _, .int .u16 _] :: r => portsB r
  | _ => false
theorem portsB_rows : ∀ l : Rows2, portsB (rowsE l) = true
  | [] => rfl
  | _ :: l => portsB_rows l
theorem portsB_get : ∀ {xs : List AV} {j : Nat}, portsB xs = true → j < xs.length → ∃ u v, xs.getD j .junk = .agg [.int .u16 u, .int .u16 v]
  | [], j, _, h => by simp at h
  | .agg [.int .u16 u, .int .u16 v] :: r, 0, _, _ => ⟨u, v, rfl⟩
  | .agg [.int .u16 u, .int .u16 v] :: r, j + 1, h, hl => by
    obtain ⟨u', v', e⟩ := portsB_get (xs := r) (j := j) h (by simpa using hl)
    exact ⟨u', v', by simpa using e⟩
def pairNe (xs ys : List AV) (j : Nat) : Bool := !(((xs.getD j .junk).cell 0).toInt == ((ys.getD j .junk).cell 0).toInt && ((xs.getD j .junk).cell 1).toInt == ((ys.getD j .junk).cell 1).toInt)
theorem pairNe_self (xs : List AV) (n : Nat) : noneB (pairNe xs xs) n 0 = true := (noneB_iff _ _ _).2 fun j _ _ => by unfold pairNe; simp

theorem runsV_ok {a b p : Int} (hp : psetB a b p = true) : portsB (runsV a b p) = true ∧ (runsV a b p).length ≤ 1000000 := by
  unfold runsV
  cases hr : right a b p with
  | false => exact ⟨rfl, by simp⟩
  | true =>
    obtain ⟨a, b, p, rfl, rfl, rfl, ha, hb, hpb⟩ := right_nats hp hr
    refine ⟨portsB_rows _, ?_⟩
    have h1 : (runsR (a : Int) (b : Int) (p : Int)).length ≤ 2 ^ a - gZ a := rowsG_len _
    have h2 := two_le ha hb
    show (rowsE _).length ≤ _
    rw [rowsE_length]; omega

end Go.Pl
