/- Bits of bytes, in plain arithmetic. -/
import Derived.Test.YteaceebonkpipaaA20
import Derived.Test.YteaceebonkpipaaPPort
namespace Go.Pl
open Go.Abs

theorem i64n {j : Nat} (h : j < 9223372036854775808) : IntKind.i64.wrap (j : Int) = j := i64_of (by omega) (by omega)
theorem tdiv8 (j : Nat) : (j : Int).tdiv 8 = ((j / 8 : Nat) : Int) := rfl
theorem tmod8 (j : Nat) : (j : Int).tmod 8 = ((j % 8 : Nat) : Int) := rfl
theorem div8 {j : Nat} (h : j < 9223372036854775808) : IntKind.i64.wrap ((j : Int).tdiv 8) = ((j / 8 : Nat) : Int) := by
  rw [tdiv8]; exact i64n (by omega)
theorem sh7 (j : Nat) : IntKind.i64.wrap (7 - (j : Int).tmod 8) = ((7 - j % 8 : Nat) : Int) := by
  rw [tmod8]
  have : (7 : Int) - ((j % 8 : Nat) : Int) = ((7 - j % 8 : Nat) : Int) := by omega
  rw [this]; exact i64n (by omega)

theorem intsB_get {k : IntKind} : ∀ {xs : List AV}, intsB k xs = true → ∀ i, i < xs.length → ∃ n : Int, k.min ≤ n ∧ n ≤ k.max ∧ xs.getD i .junk = .int k n
  | [], _, i, hi => by simp at hi
  | v :: r, h, i, hi => by
    simp only [intsB, inK, Bool.and_eq_true, decide_eq_true_eq] at h
    cases i with
    | zero => exact ⟨v.toInt, h.1.2.1, h.1.2.2, isInt_eq h.1.1⟩
    | succ i => exact intsB_get h.2 i (by simpa using hi)
theorem u8_get {xs : List AV} (h : intsB .u8 xs = true) (i : Nat) (hi : i < xs.length) : ∃ b : Nat, b < 256 ∧ xs.getD i .junk = .int .u8 (b : Int) := by
  obtain ⟨n, h1, h2, h3⟩ := intsB_get h i hi
  have h1 : 0 ≤ n := h1
  have h2 : n ≤ 255 := h2
  exact ⟨n.toNat, by omega, by rw [h3]; congr 1; omega⟩

/-- A bit of bytes. -/
def bitV (xs : List AV) (i : Nat) : Int := (xs.getD (i / 8) .junk).toInt / 2 ^ (7 - i % 8) % 2
theorem bitV_01 (xs : List AV) (i : Nat) : 0 ≤ bitV xs i ∧ bitV xs i ≤ 1 := by
  unfold bitV; omega

/-- Bits as a number. -/
def getN (xs : List AV) (a : Nat) : Nat → Int
  | 0 => 0
  | n + 1 => 2 * getN xs a n + bitV xs (a + n)
theorem getN_range (xs : List AV) (a n : Nat) : 0 ≤ getN xs a n ∧ getN xs a n < 2 ^ n := by
  induction n with
  | zero => exact ⟨Int.le_refl _, by show (0 : Int) < 2 ^ 0; decide⟩
  | succ n ih =>
    have := bitV_01 xs (a + n)
    have h2 : (2 : Int) ^ (n + 1) = 2 * 2 ^ n := by rw [Int.pow_succ]; omega
    simp only [getN, h2]
    omega
theorem pow2_le {m n : Nat} (h : m ≤ n) : (2 : Int) ^ m ≤ 2 ^ n := by
  have : (2 : Nat) ^ m ≤ 2 ^ n := Nat.pow_le_pow_right (by decide) h
  exact_mod_cast this

theorem and1 {u : Int} (h0 : 0 ≤ u) (h1 : u < 18446744073709551616) : ((BitVec.ofInt 64 u &&& BitVec.ofInt 64 1).toNat : Int) = u % 2 := by
  obtain ⟨m, rfl⟩ := Int.eq_ofNat_of_zero_le h0
  have e1 : (BitVec.ofInt 64 (m : Int)).toNat = m := by
    rw [BitVec.toNat_ofInt]; omega
  have e2 : (BitVec.ofInt 64 (1 : Int)).toNat = 1 := by decide
  rw [BitVec.toNat_and, e1, e2, Nat.and_one_is_mod]
  omega
theorem or1 {v b : Int} (h0 : 0 ≤ v) (h1 : 2 * v + 1 < 18446744073709551616) (hb0 : 0 ≤ b) (hb1 : b ≤ 1) : ((BitVec.ofInt 64 (2 * v) ||| BitVec.ofInt 64 b).toNat : Int) = 2 * v + b := by
  obtain ⟨m, rfl⟩ := Int.eq_ofNat_of_zero_le h0
  obtain ⟨c, rfl⟩ := Int.eq_ofNat_of_zero_le hb0
  have e1 : (BitVec.ofInt 64 (2 * (m : Int))).toNat = 2 * m := by
    rw [BitVec.toNat_ofInt]; omega
  have e2 : (BitVec.ofInt 64 (c : Int)).toNat = c := by
    rw [BitVec.toNat_ofInt]; omega
  rw [BitVec.toNat_or, e1, e2]
  have h := Nat.shiftLeft_add_eq_or_of_lt (i := 1) (b := c) (by omega) m
  rw [Nat.shiftLeft_eq, Nat.pow_one, Nat.mul_comm m 2] at h
  rw [← h]
  omega

theorem shr_byte {b : Nat} (hb : b < 256) (n : Nat) : 0 ≤ (b : Int) / 2 ^ n ∧ (b : Int) / 2 ^ n ≤ 255 := by
  have hp : (0 : Int) < 2 ^ n := Int.pow_pos (by decide)
  have h1 : 0 ≤ (b : Int) / 2 ^ n := Int.ediv_nonneg (by omega) (Int.le_of_lt hp)
  have h2 : (b : Int) / 2 ^ n ≤ b := Int.ediv_le_self _ (by omega)
  omega

theorem u64n {x : Int} (h0 : 0 ≤ x) (h1 : x < 18446744073709551616) : IntKind.u64.wrap x = x := u64_of h0 h1

/-- Are there so many bits? -/
def thereB (L : Nat) (a n : Int) : Bool := decide (0 ≤ a) && decide (0 ≤ n) && decide (n ≤ 8 * (L : Int)) && decide (a ≤ 8 * (L : Int) - n)

theorem there_law {L : Nat} (hL : L ≤ 1000000) {a n : Int} (X : Bool → Res) : aIf (decide (a ≥ 0)) (aIf (decide (n ≥ 0)) (aIf (decide (n ≤ IntKind.i64.wrap (8 * (L : Int))))
      (X (decide (a ≤ IntKind.i64.wrap (IntKind.i64.wrap (8 * (L : Int)) - n)))) (X false)) (X false)) (X false) = X (thereB L a n) := by
  have e1 : IntKind.i64.wrap (8 * (L : Int)) = 8 * (L : Int) := i64_of (by omega) (by omega)
  rw [e1]
  unfold thereB
  by_cases h1 : 0 ≤ a
  · by_cases h2 : 0 ≤ n
    · by_cases h3 : n ≤ 8 * (L : Int)
      · rw [i64_of (n := 8 * (L : Int) - n) (by omega) (by omega)]
        simp [h1, h2, h3, aIf_true, ge_iff_le]
      · simp [h1, h2, h3, aIf_true, aIf_false, ge_iff_le]
    · simp [h1, h2, aIf_true, aIf_false, ge_iff_le]
  · simp [h1, aIf_false, ge_iff_le]

/-- A byte with another bit. -/
def setByte (x : Int) (s : Nat) (b : Int) : Int := x - (x / 2 ^ s % 2) * 2 ^ s + b * 2 ^ s
/-- Bytes with another bit. -/
def setV (ys : List AV) (i : Nat) (b : Int) : List AV := ys.set (i / 8) (.int .u8 (setByte (ys.getD (i / 8) .junk).toInt (7 - i % 8) b))

theorem byte_facts : ∀ (x : Fin 256) (s : Fin 8), ((BitVec.ofInt 8 (x.val : Int) &&& ~~~ BitVec.ofInt 8 ((2 : Int) ^ s.val)).toNat : Int) = setByte x.val s.val 0 ∧
    ((BitVec.ofInt 8 (setByte x.val s.val 0) ||| BitVec.ofInt 8 ((2 : Int) ^ s.val)).toNat : Int) = setByte x.val s.val 1 ∧ 0 ≤ setByte x.val s.val 0 ∧ setByte x.val s.val 0 ≤ 255 ∧ 0 ≤ setByte x.val s.val 1 ∧ setByte x.val s.val 1 ≤ 255 ∧
    (∀ t : Fin 8, setByte x.val s.val 0 / 2 ^ t.val % 2 = (if t = s then 0 else (x.val : Int) / 2 ^ t.val % 2) ∧ setByte x.val s.val 1 / 2 ^ t.val % 2 = (if t = s then 1 else (x.val : Int) / 2 ^ t.val % 2)) := by
  decide +kernel

theorem byte_and {x s : Nat} (hx : x < 256) (hs : s < 8) : ((BitVec.ofInt 8 (x : Int) &&& ~~~ BitVec.ofInt 8 ((2 : Int) ^ s)).toNat : Int) = setByte x s 0 := (byte_facts ⟨x, hx⟩ ⟨s, hs⟩).1
theorem byte_or {x s : Nat} (hx : x < 256) (hs : s < 8) : ((BitVec.ofInt 8 (setByte x s 0) ||| BitVec.ofInt 8 ((2 : Int) ^ s)).toNat : Int) = setByte x s 1 := (byte_facts ⟨x, hx⟩ ⟨s, hs⟩).2.1
theorem setByte_range {x s : Nat} {b : Int} (hx : x < 256) (hs : s < 8) (hb : b = 0 ∨ b = 1) : 0 ≤ setByte x s b ∧ setByte x s b ≤ 255 := by
  obtain ⟨_, _, h1, h2, h3, h4, _⟩ := byte_facts ⟨x, hx⟩ ⟨s, hs⟩
  rcases hb with rfl | rfl
  · exact ⟨h1, h2⟩
  · exact ⟨h3, h4⟩
theorem setByte_bit {x s t : Nat} {b : Int} (hx : x < 256) (hs : s < 8) (ht : t < 8) (hb : b = 0 ∨ b = 1) : setByte x s b / 2 ^ t % 2 = if t = s then b else (x : Int) / 2 ^ t % 2 := by
  have h := (byte_facts ⟨x, hx⟩ ⟨s, hs⟩).2.2.2.2.2.2 ⟨t, ht⟩
  simp only [Fin.mk.injEq] at h
  rcases hb with rfl | rfl
  · exact h.1
  · exact h.2

theorem setV_length (ys : List AV) (i : Nat) (b : Int) : (setV ys i b).length = ys.length := by simp [setV]

theorem intsB_iff {k : IntKind} : ∀ {xs : List AV}, intsB k xs = true ↔ ∀ x ∈ xs, x.isInt k = true ∧ inK k x.toInt = true
  | [] => by simp [intsB]
  | v :: r => by simp only [intsB, Bool.and_eq_true, intsB_iff (xs := r), List.mem_cons, forall_eq_or_imp]

theorem intsB_set {k : IntKind} {xs : List AV} {i : Nat} {n : Int} (h : intsB k xs = true) (hn : inK k n = true) : intsB k (xs.set i (.int k n)) = true := by
  rw [intsB_iff] at h ⊢
  intro x hx
  rcases List.mem_or_eq_of_mem_set hx with hx | rfl
  · exact h x hx
  · exact ⟨by simp [AV.isInt], hn⟩

theorem setV_u8 {ys : List AV} {i : Nat} {b : Int} (h : intsB .u8 ys = true) (hb : b = 0 ∨ b = 1) : intsB .u8 (setV ys i b) = true := by
  rcases Nat.lt_or_ge (i / 8) ys.length with hi | hi
  · obtain ⟨x, hx, he⟩ := u8_get h (i / 8) hi
    unfold setV
    rw [he]
    have := setByte_range (b := b) hx (show 7 - i % 8 < 8 by omega) hb
    exact intsB_set h (inK_of (k := .u8) this)
  · unfold setV
    rw [List.set_eq_of_length_le hi]; exact h

theorem setV_bit {ys : List AV} {i j : Nat} {b : Int} (h : intsB .u8 ys = true) (hb : b = 0 ∨ b = 1) (hi : i / 8 < ys.length) : bitV (setV ys i b) j = if j = i then b else bitV ys j := by
  obtain ⟨x, hx, he⟩ := u8_get h (i / 8) hi
  unfold bitV setV
  rw [he]
  by_cases hj : j / 8 = i / 8
  · rw [hj]
    have e1 : (ys.set (i / 8) (AV.int IntKind.u8 (setByte (AV.int IntKind.u8 (x : Int)).toInt (7 - i % 8) b))).getD (i / 8) .junk = .int .u8 (setByte x (7 - i % 8) b) := by
      rw [List.getD_eq_getElem?_getD, List.getElem?_set_self hi]; rfl
    rw [e1, he]
    simp only [AV.toInt]
    rw [setByte_bit hx (by omega) (by omega) hb]
    by_cases h2 : j = i
    · subst h2; simp
    · rw [if_neg (by omega), if_neg h2]
  · rw [if_neg (by rintro rfl; exact hj rfl)]
    rw [List.getD_eq_getElem?_getD, List.getElem?_set_ne (by omega), ← List.getD_eq_getElem?_getD]

/-- Bytes of which all bits are alike. -/
theorem bits_ext {xs ys : List AV} (hx : intsB .u8 xs = true) (hy : intsB .u8 ys = true) (hl : xs.length = ys.length) (h : ∀ i, i < 8 * xs.length → bitV xs i = bitV ys i) : xs = ys := by
  apply List.ext_getElem hl
  intro i h1 h2
  obtain ⟨a, ha, ea⟩ := u8_get hx i h1
  obtain ⟨b, hb, eb⟩ := u8_get hy i h2
  have ga : xs[i] = .int .u8 (a : Int) := by rw [← ea, List.getD_eq_getElem?_getD, List.getElem?_eq_getElem h1]; rfl
  have gb : ys[i] = .int .u8 (b : Int) := by rw [← eb, List.getD_eq_getElem?_getD, List.getElem?_eq_getElem h2]; rfl
  have key : ∀ t, t < 8 → (a : Int) / 2 ^ (7 - t) % 2 = (b : Int) / 2 ^ (7 - t) % 2 := by
    intro t ht
    have := h (8 * i + t) (by omega)
    unfold bitV at this
    rw [show (8 * i + t) / 8 = i by omega, show (8 * i + t) % 8 = t by omega, ea, eb] at this
    exact this
  have k0 := key 0 (by omega)
  have k1 := key 1 (by omega)
  have k2 := key 2 (by omega)
  have k3 := key 3 (by omega)
  have k4 := key 4 (by omega)
  have k5 := key 5 (by omega)
  have k6 := key 6 (by omega)
  have k7 := key 7 (by omega)
  simp only [Nat.sub_zero, Nat.reduceSub, Nat.sub_self] at k0 k1 k2 k3 k4 k5 k6 k7
  simp only [show (2 : Int) ^ 7 = 128 from rfl, show (2 : Int) ^ 6 = 64 from rfl, show (2 : Int) ^ 5 = 32 from rfl, show (2 : Int) ^ 4 = 16 from rfl, show (2 : Int) ^ 3 = 8 from rfl, show (2 : Int) ^ 2 = 4 from rfl, show (2 : Int) ^ 1 = 2 from rfl, show (2 : Int) ^ 0 = 1 from rfl] at k0 k1 k2 k3 k4 k5 k6 k7
  rw [ga, gb]
  congr 1
  omega

/-- Bits put in, one by one. -/
def putL (out : List AV) (a : Nat) (f : Nat → Int) : Nat → List AV
  | 0 => out
  | n + 1 => setV (putL out a f n) (a + n) (f n)
theorem putL_length (out : List AV) (a : Nat) (f : Nat → Int) (n : Nat) : (putL out a f n).length = out.length := by
  induction n with
  | zero => rfl
  | succ n ih => simp only [putL, setV_length, ih]
theorem putL_u8 {out : List AV} {a : Nat} {f : Nat → Int} (h : intsB .u8 out = true) (n : Nat) (hf : ∀ i, i < n → f i = 0 ∨ f i = 1) : intsB .u8 (putL out a f n) = true := by
  induction n with
  | zero => exact h
  | succ n ih => exact setV_u8 (ih fun i hi => hf i (by omega)) (hf n (by omega))
theorem putL_bit {out : List AV} {a : Nat} {f : Nat → Int} (h : intsB .u8 out = true) (n : Nat) (hf : ∀ i, i < n → f i = 0 ∨ f i = 1) (hn : a + n ≤ 8 * out.length) (j : Nat) :
    bitV (putL out a f n) j = if a ≤ j ∧ j < a + n then f (j - a) else bitV out j := by
  induction n with
  | zero => rw [if_neg (by omega)]; rfl
  | succ n ih =>
    have ih := ih (fun i hi => hf i (by omega)) (by omega)
    simp only [putL]
    rw [setV_bit (putL_u8 h n fun i hi => hf i (by omega)) (hf n (by omega)) (by rw [putL_length]; omega), ih]
    by_cases h1 : j = a + n
    · subst h1
      rw [if_pos rfl, if_pos (by omega), Nat.add_sub_cancel_left]
    · rw [if_neg h1]
      by_cases h2 : a ≤ j ∧ j < a + n
      · rw [if_pos h2, if_pos (by omega)]
      · rw [if_neg h2, if_neg (by omega)]

def setG (w ver len : Nat) (ys : List AV) (i v : Int) : Bool := w == ver && ys.length == len && decide (len ≤ 1000000) && intsB .u8 ys && decide (0 ≤ i) && decide (i < 8 * (len : Int)) && decide (0 ≤ v) && decide (v < 18446744073709551616)
def getG (xs : List AV) (a v x y : Int) : Bool := intsB .u8 xs && decide (xs.length ≤ 1000000) && decide (0 ≤ a) && y == 0 && v == 0 && decide (0 ≤ x) && decide (x ≤ 64) && decide (a + x ≤ 8 * (xs.length : Int))

theorem setG_of {w ver len : Nat} {ys : List AV} {i v : Int} (h : setG w ver len ys i v = true) : w = ver ∧ ys.length = len ∧ len ≤ 1000000 ∧ intsB .u8 ys = true ∧ 0 ≤ i ∧ i < 8 * (len : Int) ∧ 0 ≤ v ∧ v < 18446744073709551616 := by
  simp only [setG, Bool.and_eq_true, beq_iff_eq, decide_eq_true_eq] at h
  obtain ⟨⟨⟨⟨⟨⟨⟨h1, h2⟩, h3⟩, h4⟩, h5⟩, h6⟩, h7⟩, h8⟩ := h
  exact ⟨h1, h2, h3, h4, h5, h6, h7, h8⟩
theorem getG_of {xs : List AV} {a v x y : Int} (h : getG xs a v x y = true) : intsB .u8 xs = true ∧ xs.length ≤ 1000000 ∧ 0 ≤ a ∧ y = 0 ∧ v = 0 ∧ 0 ≤ x ∧ x ≤ 64 ∧ a + x ≤ 8 * (xs.length : Int) := by
  simp only [getG, Bool.and_eq_true, beq_iff_eq, decide_eq_true_eq] at h
  obtain ⟨⟨⟨⟨⟨⟨⟨h1, h2⟩, h3⟩, h4⟩, h5⟩, h6⟩, h7⟩, h8⟩ := h
  exact ⟨h1, h2, h3, h4, h5, h6, h7, h8⟩
theorem u8n {x : Int} (h0 : 0 ≤ x) (h1 : x ≤ 255) : IntKind.u8.wrap x = x := by
  have : IntKind.u8.wrap x = x % 256 := by simp [IntKind.wrap, IntKind.signed, IntKind.bits]
  rw [this]; omega
theorem u8pow {s : Nat} (h : s < 8) : IntKind.u8.wrap ((2 : Int) ^ s) = 2 ^ s := by
  have h1 := pow2_le (show s ≤ 7 by omega)
  have h2 : (0 : Int) < 2 ^ s := Int.pow_pos (by decide)
  exact u8n (by omega) (by have : (2 : Int) ^ 7 = 128 := rfl; omega)
theorem getD_set_self {l : List AV} {i : Nat} {v : AV} (h : i < l.length) : (l.set i v).getD i .junk = v := by
  rw [List.getD_eq_getElem?_getD, List.getElem?_set_self h]; rfl
theorem dnn (j : Nat) : decide (((j : Nat) : Int) < 0) = false := by simp
theorem dnn' (j : Nat) : decide (0 ≤ ((j : Nat) : Int)) = true := by simp
theorem isInt_self (k : IntKind) (n : Int) : (AV.int k n).isInt k = true := by simp [AV.isInt]

/-- So many bits of a number, the first one first. -/
def vbit (v : Int) (n i : Nat) : Int := v / 2 ^ (n - 1 - i) % 2
theorem vbit_01 (v : Int) (n i : Nat) : vbit v n i = 0 ∨ vbit v n i = 1 := by unfold vbit; omega
/-- Has a number at most so many bits? -/
def fitB (v n : Int) : Bool := decide (64 ≤ n) || decide (v / 2 ^ n.toNat = 0)
def putG (w ver len : Nat) (ys : List AV) (a n v x y : Int) : Bool := w == ver && ys.length == len && decide (len ≤ 1000000) && intsB .u8 ys && decide (0 ≤ a) && n == x && y == 0 && decide (0 ≤ n) && decide (n ≤ 64) && decide (a + n ≤ 8 * (len : Int)) && decide (0 ≤ v) && decide (v < 18446744073709551616)
theorem putG_of {w ver len : Nat} {ys : List AV} {a n v x y : Int} (h : putG w ver len ys a n v x y = true) : w = ver ∧ ys.length = len ∧ len ≤ 1000000 ∧ intsB .u8 ys = true ∧ 0 ≤ a ∧ n = x ∧ y = 0 ∧ 0 ≤ n ∧ n ≤ 64 ∧ a + n ≤ 8 * (len : Int) ∧ 0 ≤ v ∧ v < 18446744073709551616 := by
  simp only [putG, Bool.and_eq_true, beq_iff_eq, decide_eq_true_eq] at h
  obtain ⟨⟨⟨⟨⟨⟨⟨⟨⟨⟨⟨h1, h2⟩, h3⟩, h4⟩, h5⟩, h6⟩, h7⟩, h8⟩, h9⟩, h10⟩, h11⟩, h12⟩ := h
  exact ⟨h1, h2, h3, h4, h5, h6, h7, h8, h9, h10, h11, h12⟩
def setG_mk (w ver len : Nat) (ys : List AV) (i v : Int) : Prop := setG w ver len ys i v = true
theorem setG_ok {ver len : Nat} {ys : List AV} {i v : Int} (h2 : ys.length = len) (h3 : len ≤ 1000000) (h4 : intsB .u8 ys = true) (h5 : 0 ≤ i) (h6 : i < 8 * (len : Int)) (h7 : 0 ≤ v) (h8 : v < 18446744073709551616) : setG ver ver len ys i v = true := by
  simp only [setG, Bool.and_eq_true, beq_iff_eq, decide_eq_true_eq]
  exact ⟨⟨⟨⟨⟨⟨⟨trivial, h2⟩, h3⟩, h4⟩, h5⟩, h6⟩, h7⟩, h8⟩

theorem shr_range {v : Int} (h0 : 0 ≤ v) (h1 : v < 18446744073709551616) (n : Nat) : 0 ≤ v / 2 ^ n ∧ v / 2 ^ n < 18446744073709551616 := by
  have hp : (0 : Int) < 2 ^ n := Int.pow_pos (by decide)
  have h2 : 0 ≤ v / 2 ^ n := Int.ediv_nonneg h0 (Int.le_of_lt hp)
  have h3 : v / 2 ^ n ≤ v := Int.ediv_le_self _ h0
  omega

/-- Bits of bytes, one a number. -/
def bitsF (xs : List AV) (i n : Nat) : List AV := (List.range n).map fun j => .int .u64 (bitV xs (i + j))
theorem bitsF_length (xs : List AV) (i n : Nat) : (bitsF xs i n).length = n := by simp [bitsF]
theorem bitsF_succ (xs : List AV) (i n : Nat) : bitsF xs i (n + 1) = .int .u64 (bitV xs i) :: bitsF xs (i + 1) n := by
  apply List.ext_getElem
  · simp [bitsF]
  · intro j h1 h2
    cases j with
    | zero => simp [bitsF]
    | succ j => simp [bitsF]; congr 1; omega
theorem bitsF_get {xs : List AV} {i n j : Nat} (h : j < n) : (bitsF xs i n).getD j .junk = .int .u64 (bitV xs (i + j)) := by
  rw [List.getD_eq_getElem?_getD]; simp [bitsF, h]
def bitsG (w ver len : Nat) (ys xs : List AV) (i : Int) : Bool := w == ver && ver == len && ys.length == len && decide (1 ≤ len) && decide (xs.length ≤ 1000000) && intsB .u8 xs && decide (i ≤ 8 * (xs.length : Int)) && (len : Int) == i
theorem bitsG_of {w ver len : Nat} {ys xs : List AV} {i : Int} (h : bitsG w ver len ys xs i = true) : w = ver ∧ ver = len ∧ ys.length = len ∧ 1 ≤ len ∧ xs.length ≤ 1000000 ∧ intsB .u8 xs = true ∧ i ≤ 8 * (xs.length : Int) ∧ (len : Int) = i := by
  simp only [bitsG, Bool.and_eq_true, beq_iff_eq, decide_eq_true_eq] at h
  obtain ⟨⟨⟨⟨⟨⟨⟨h1, h2⟩, h3⟩, h4⟩, h5⟩, h6⟩, h7⟩, h8⟩ := h
  exact ⟨h1, h2, h3, h4, h5, h6, h7, h8⟩
theorem wrap8 {L : Nat} (h : L ≤ 1000000) : IntKind.i64.wrap (8 * (L : Int)) = ((8 * L : Nat) : Int) := by
  rw [show 8 * (L : Int) = ((8 * L : Nat) : Int) by omega]; exact i64n (by omega)
theorem i64a {a j : Nat} (h : a + j < 9223372036854775808) : IntKind.i64.wrap ((a : Int) + (j : Int)) = ((a + j : Nat) : Int) := by rw [← Int.natCast_add]; exact i64n h
theorem i64s {j : Nat} (h : j + 1 < 9223372036854775808) : IntKind.i64.wrap ((j : Int) + 1) = ((j + 1 : Nat) : Int) := by rw [← Int.natCast_succ]; exact i64n h
theorem sh_n1 {n j : Nat} (h : j < n) (hn : n < 9223372036854775808) : IntKind.i64.wrap (IntKind.i64.wrap ((n : Int) - 1) - (j : Int)) = ((n - 1 - j : Nat) : Int) := by
  rw [show (n : Int) - 1 = ((n - 1 : Nat) : Int) by omega, i64n (by omega), show ((n - 1 : Nat) : Int) - (j : Int) = ((n - 1 - j : Nat) : Int) by omega]
  exact i64n (by omega)
theorem u64nn {j : Nat} (h : j < 18446744073709551616) : IntKind.u64.wrap (j : Int) = j := u64n (by omega) (by omega)
theorem dlt {a b : Nat} (h : a < b) : decide ((a : Int) < (b : Int)) = true := decide_eq_true (by omega)
theorem dltf (a : Nat) : decide ((a : Int) < (a : Int)) = false := decide_eq_false (by omega)

/-- Numbers 0 and 1. -/
def binB (ys : List AV) : Bool := ys.all fun v => v.isInt .u64 && (v.toInt == 0 || v.toInt == 1)
theorem binB_get {ys : List AV} (h : binB ys = true) (i : Nat) (hi : i < ys.length) : ∃ b : Int, (b = 0 ∨ b = 1) ∧ ys.getD i .junk = .int .u64 b := by
  have := List.all_eq_true.1 h ys[i] (List.getElem_mem hi)
  simp only [Bool.and_eq_true, Bool.or_eq_true, beq_iff_eq] at this
  refine ⟨_, this.2, ?_⟩
  rw [List.getD_eq_getElem?_getD, List.getElem?_eq_getElem hi]
  exact isInt_eq this.1
theorem binB_bitsF (xs : List AV) (i n : Nat) : binB (bitsF xs i n) = true := by
  refine List.all_eq_true.2 fun x hx => ?_
  simp only [bitsF, List.mem_map] at hx
  obtain ⟨j, _, rfl⟩ := hx
  have := bitV_01 xs (i + j)
  simp only [isInt_self, AV.toInt, Bool.true_and, Bool.or_eq_true, beq_iff_eq]
  omega
theorem binB_set {ys : List AV} {i : Nat} {b : Int} (h : binB ys = true) (hb : b = 0 ∨ b = 1) : binB (ys.set i (.int .u64 b)) = true := by
  refine List.all_eq_true.2 fun x hx => ?_
  rcases List.mem_or_eq_of_mem_set hx with hx | rfl
  · exact List.all_eq_true.1 h x hx
  · simp only [isInt_self, AV.toInt, Bool.true_and, Bool.or_eq_true, beq_iff_eq]
    exact hb

theorem setV_same {zs : List AV} {j : Nat} (h : intsB .u8 zs = true) (hj : j / 8 < zs.length) (hb : bitV zs j = 0) : setV zs j 0 = zs := by
  obtain ⟨x, hx, he⟩ := u8_get h (j / 8) hj
  unfold setV
  rw [he]
  have : setByte (AV.int IntKind.u8 (x : Int)).toInt (7 - j % 8) 0 = x := by
    unfold bitV at hb
    rw [he] at hb
    unfold setByte
    rw [hb]
    simp [AV.toInt]
  rw [this, ← he]
  apply List.ext_getElem (by simp)
  intro i h1 h2
  by_cases hi : i = j / 8
  · subst hi
    rw [List.getElem_set_self, List.getD_eq_getElem?_getD, List.getElem?_eq_getElem h2]; rfl
  · rw [List.getElem_set_ne (Ne.symm hi)]
def zeros (m : Nat) : List AV := List.replicate m (.int .u8 0)
theorem zeros_u8 (m : Nat) : intsB .u8 (zeros m) = true := by
  rw [intsB_iff]
  intro x hx
  rw [zeros, List.mem_replicate] at hx
  rw [hx.2]
  exact ⟨rfl, rfl⟩
theorem bitV_zeros (m j : Nat) : bitV (zeros m) j = 0 := by
  unfold bitV zeros
  rcases Nat.lt_or_ge (j / 8) m with h | h
  · rw [List.getD_eq_getElem?_getD, List.getElem?_replicate, if_pos h]; simp [AV.toInt]
  · rw [List.getD_eq_getElem?_getD, List.getElem?_replicate, if_neg (by omega)]; simp [AV.toInt]
/-- Bits as bytes. -/
def bitAt (ys : List AV) (i : Nat) : Int := (ys.getD i .junk).toInt
def packL (ys : List AV) : List AV := putL (zeros ((ys.length + 7) / 8)) 0 (bitAt ys) ys.length
theorem bitAt_01 {ys : List AV} (h : binB ys = true) (i : Nat) (hi : i < ys.length) : bitAt ys i = 0 ∨ bitAt ys i = 1 := by
  obtain ⟨b, hb, he⟩ := binB_get h i hi
  unfold bitAt; rw [he]; exact hb
theorem packL_length (ys : List AV) : (packL ys).length = (ys.length + 7) / 8 := by simp [packL, putL_length, zeros]
theorem packL_u8 {ys : List AV} (h : binB ys = true) : intsB .u8 (packL ys) = true := putL_u8 (zeros_u8 _) _ fun i hi => bitAt_01 h i hi
theorem packL_bit {ys : List AV} (h : binB ys = true) (j : Nat) : bitV (packL ys) j = if j < ys.length then bitAt ys j else 0 := by
  unfold packL
  rw [putL_bit (zeros_u8 _) _ (fun i hi => bitAt_01 h i hi) (by simp [zeros]; omega), bitV_zeros]
  simp
theorem flatten_rep (n : Nat) (x : AV) : (List.replicate n [x]).flatten = List.replicate n x := by
  induction n with
  | zero => rfl
  | succ n ih => rw [List.replicate_succ, List.flatten_cons, ih, List.replicate_succ]; rfl
def zeroB (zs : List AV) : Bool := zs.all fun v => v.isInt .u8 && v.toInt == 0
theorem zeroB_is {zs : List AV} (h : zeroB zs = true) : zs = zeros zs.length := by
  refine List.eq_replicate_of_mem fun x hx => ?_
  have := List.all_eq_true.1 h x hx
  simp only [Bool.and_eq_true, beq_iff_eq] at this
  rw [isInt_eq this.1, this.2]
theorem zeroB_zeros (m : Nat) : zeroB (zeros m) = true := by
  refine List.all_eq_true.2 fun x hx => ?_
  rw [zeros, List.mem_replicate] at hx
  rw [hx.2]; rfl
def packG (w ver len w2 v2 m : Nat) (ys zs : List AV) (i : Int) : Bool := w == ver && ys.length == len && w2 == v2 && m == (len + 7) / 8 && decide (len ≤ 8000000) && binB ys && i == 0 && zs.length == m && zeroB zs
theorem packG_of {w ver len w2 v2 m : Nat} {ys zs : List AV} {i : Int} (h : packG w ver len w2 v2 m ys zs i = true) : w = ver ∧ ys.length = len ∧ w2 = v2 ∧ m = (len + 7) / 8 ∧ len ≤ 8000000 ∧ binB ys = true ∧ i = 0 ∧ zs.length = m ∧ zs = zeros m := by
  simp only [packG, Bool.and_eq_true, beq_iff_eq, decide_eq_true_eq] at h
  obtain ⟨⟨⟨⟨⟨⟨⟨⟨h1, h2⟩, h3⟩, h4⟩, h5⟩, h6⟩, h7⟩, h8⟩, h9⟩ := h
  exact ⟨h1, h2, h3, h4, h5, h6, h7, h8, by rw [← h8]; exact zeroB_is h9⟩

/-- Numbers put over others. -/
def overL (ys : List AV) (a : Nat) (f : Nat → Int) : Nat → List AV
  | 0 => ys
  | n + 1 => (overL ys a f n).set (a + n) (.int .u64 (f n))
theorem overL_length (ys : List AV) (a : Nat) (f : Nat → Int) (n : Nat) : (overL ys a f n).length = ys.length := by
  induction n with
  | zero => rfl
  | succ n ih => simp only [overL, List.length_set, ih]
theorem overL_bin {ys : List AV} {a : Nat} {f : Nat → Int} (h : binB ys = true) (n : Nat) (hf : ∀ i, i < n → f i = 0 ∨ f i = 1) : binB (overL ys a f n) = true := by
  induction n with
  | zero => exact h
  | succ n ih => exact binB_set (ih fun i hi => hf i (by omega)) (hf n (by omega))
theorem overL_at {ys : List AV} {a : Nat} {f : Nat → Int} (n : Nat) (hn : a + n ≤ ys.length) (j : Nat) : bitAt (overL ys a f n) j = if a ≤ j ∧ j < a + n then f (j - a) else bitAt ys j := by
  induction n with
  | zero => rw [if_neg (by omega)]; rfl
  | succ n ih =>
    have ih := ih (by omega)
    simp only [overL]
    unfold bitAt at ih ⊢
    by_cases h1 : j = a + n
    · subst h1
      rw [getD_set_self (by rw [overL_length]; omega), if_pos (by omega), Nat.add_sub_cancel_left]; rfl
    · rw [List.getD_eq_getElem?_getD, List.getElem?_set_ne (Ne.symm h1), ← List.getD_eq_getElem?_getD, ih]
      by_cases h2 : a ≤ j ∧ j < a + n
      · rw [if_pos h2, if_pos (by omega)]
      · rw [if_neg h2, if_neg (by omega)]
def overG (w ver len : Nat) (ys : List AV) (a n v i : Int) : Bool := w == ver && ys.length == len && decide (len ≤ 8000000) && decide (0 ≤ a) && i == 0 && decide (0 ≤ n) && decide (n ≤ 64) && decide (a + n ≤ (len : Int)) && decide (0 ≤ v)
theorem overG_of {w ver len : Nat} {ys : List AV} {a n v i : Int} (h : overG w ver len ys a n v i = true) : w = ver ∧ ys.length = len ∧ len ≤ 8000000 ∧ 0 ≤ a ∧ i = 0 ∧ 0 ≤ n ∧ n ≤ 64 ∧ a + n ≤ (len : Int) ∧ 0 ≤ v := by
  simp only [overG, Bool.and_eq_true, beq_iff_eq, decide_eq_true_eq] at h
  obtain ⟨⟨⟨⟨⟨⟨⟨⟨h1, h2⟩, h3⟩, h4⟩, h5⟩, h6⟩, h7⟩, h8⟩, h9⟩ := h
  exact ⟨h1, h2, h3, h4, h5, h6, h7, h8, h9⟩

/-- The two ways of putting bits in come to the same. -/
theorem put_same {xs : List AV} {a n : Nat} {f : Nat → Int} (hu : intsB .u8 xs = true) (hn : a + n ≤ 8 * xs.length) (hf : ∀ i, i < n → f i = 0 ∨ f i = 1) :
    packL (overL (bitsF xs 0 (8 * xs.length)) a f n) = putL xs a f n := by
  have hb := overL_bin (a := a) (binB_bitsF xs 0 (8 * xs.length)) n hf
  have hl : (packL (overL (bitsF xs 0 (8 * xs.length)) a f n)).length = xs.length := by rw [packL_length, overL_length, bitsF_length]; omega
  refine bits_ext (packL_u8 hb) (putL_u8 hu n hf) (by rw [hl, putL_length]) fun i hi => ?_
  rw [hl] at hi
  rw [packL_bit hb, putL_bit hu n hf hn, overL_length, bitsF_length, if_pos hi, overL_at n (by rw [bitsF_length]; exact hn)]
  have : bitAt (bitsF xs 0 (8 * xs.length)) i = bitV xs i := by
    unfold bitAt; rw [bitsF_get hi, Nat.zero_add]; rfl
  rw [this]

theorem ints_flat {k : IntKind} : ∀ {xs : List AV}, intsB k xs = true → flatL xs = true
  | [], _ => rfl
  | v :: r, h => by
    simp only [intsB, Bool.and_eq_true] at h
    rw [isInt_eq h.1.1]
    simp only [flatL, flatB, ints_flat h.2, AV.closed, AV.one, Bool.and_self]
theorem ints_cells {k : IntKind} : ∀ {xs : List AV}, intsB k xs = true → List.flatMap AV.cells xs = xs
  | [], _ => rfl
  | v :: r, h => by
    simp only [intsB, Bool.and_eq_true] at h
    rw [List.flatMap_cons, ints_cells h.2, isInt_eq h.1.1]; rfl
theorem take_all {xs : List AV} {n : Nat} (h : xs.length = n) : List.take n (List.drop 0 xs) = xs := by
  rw [List.drop_zero, List.take_of_length_le (by omega)]
theorem allU8_of : ∀ {xs : List AV}, intsB .u8 xs = true → allU8 xs = true
  | [], _ => rfl
  | v :: r, h => by
    simp only [intsB, Bool.and_eq_true] at h
    simp only [allU8, h.1.1, allU8_of h.2, Bool.and_self]

def putE (L : Nat) (a n v : Int) : Int := bif decide (n > 64) || !thereB L a n then 30 else bif fitB v n then 0 else 1
def putX (xs : List AV) (a n v : Int) : List AV := bif decide (n > 64) || !thereB xs.length a n then [] else bif fitB v n then putL xs a.toNat (vbit v n.toNat) n.toNat else []
def getE (L : Nat) (a n : Int) : Int := bif decide (n > 64) || !thereB L a n then 30 else 0
def getX (xs : List AV) (a n : Int) : Int := bif decide (n > 64) || !thereB xs.length a n then 0 else getN xs a.toNat n.toNat
theorem putX_u8 {xs : List AV} {a n v : Int} (hu : intsB .u8 xs = true) : intsB .u8 (putX xs a n v) = true := by
  unfold putX
  cases decide (n > 64) || !thereB xs.length a n
  · cases fitB v n
    · rfl
    · exact putL_u8 hu _ fun i _ => vbit_01 _ _ _
  · rfl
theorem there_of {L : Nat} {a n : Int} (h : thereB L a n = true) : 0 ≤ a ∧ 0 ≤ n ∧ n ≤ 8 * (L : Int) ∧ a ≤ 8 * (L : Int) - n := by
  simp only [thereB, Bool.and_eq_true, decide_eq_true_eq] at h
  exact ⟨h.1.1.1, h.1.1.2, h.1.2, h.2⟩
theorem getX_range (xs : List AV) (a n : Int) : 0 ≤ getX xs a n ∧ getX xs a n ≤ 18446744073709551615 := by
  unfold getX
  cases h : decide (n > 64) || !thereB xs.length a n
  · simp only [Bool.or_eq_false_iff, decide_eq_false_iff_not] at h
    have h1 := getN_range xs a.toNat n.toNat
    have h2 := pow2_le (show n.toNat ≤ 64 by omega)
    have h3 : (2 : Int) ^ 64 = 18446744073709551616 := rfl
    simp only [cond_false]
    omega
  · simp
theorem getG_ok {xs : List AV} {a n : Int} (hu : intsB .u8 xs = true) (hL : xs.length ≤ 1000000) (h1 : ¬ n > 64) (h2 : thereB xs.length a n = true) : getG xs a 0 n 0 = true := by
  have := there_of h2
  simp only [getG, Bool.and_eq_true, beq_iff_eq, decide_eq_true_eq]
  exact ⟨⟨⟨⟨⟨⟨⟨hu, hL⟩, this.1⟩, trivial⟩, trivial⟩, this.2.1⟩, by omega⟩, by omega⟩
theorem putG_ok {ys : List AV} {w : Nat} {a n v : Int} (hu : intsB .u8 ys = true) (hL : ys.length ≤ 1000000) (h1 : ¬ n > 64) (h2 : thereB ys.length a n = true) (hv : 0 ≤ v) (hv1 : v < 18446744073709551616) : putG w w ys.length ys a n v n 0 = true := by
  have := there_of h2
  simp only [putG, Bool.and_eq_true, beq_iff_eq, decide_eq_true_eq]
  exact ⟨⟨⟨⟨⟨⟨⟨⟨⟨⟨⟨trivial, trivial⟩, hL⟩, hu⟩, this.1⟩, trivial⟩, trivial⟩, this.2.1⟩, by omega⟩, by omega⟩, hv⟩, hv1⟩
theorem wide_law {v n : Int} (hn : 0 ≤ n) (X : Bool → Res) : aIf (decide (n < 64)) (aIf (decide (IntKind.u64.wrap n < 0)) none (X (v.fdiv (2 ^ min (IntKind.u64.wrap n).toNat 64) != 0))) (X false) = X (!fitB v n) := by
  by_cases h : n < 64
  · rw [aIf_pos (decide_eq_true h), u64n hn (by omega), aIf_neg (decide_eq_false (by omega)), show min n.toNat 64 = n.toNat by omega, shr_eq]
    congr 1
    unfold fitB
    rw [decide_eq_false (show ¬ 64 ≤ n by omega), Bool.false_or]
    rfl
  · rw [aIf_neg (decide_eq_false h)]
    congr 1
    unfold fitB
    rw [decide_eq_true (show 64 ≤ n by omega)]; rfl
theorem fits_law {v n : Int} (hn : 0 ≤ n) (X : Bool → Res) : aIf (decide (n ≥ 64)) (X true) (aIf (decide (n < 0)) none (X (v.fdiv (2 ^ min n.toNat 64) == 0))) = X (fitB v n) := by
  by_cases h : n < 64
  · rw [aIf_neg (decide_eq_false (by omega)), aIf_neg (decide_eq_false (by omega)), show min n.toNat 64 = n.toNat by omega, shr_eq]
    congr 1
    unfold fitB
    rw [decide_eq_false (show ¬ 64 ≤ n by omega), Bool.false_or]
    rfl
  · rw [aIf_pos (decide_eq_true (by omega))]
    congr 1
    unfold fitB
    rw [decide_eq_true (show 64 ≤ n by omega)]; rfl
theorem bytes_len {L : Nat} (h : L ≤ 8000000) : IntKind.i64.wrap ((IntKind.i64.wrap ((L : Nat) + 7 : Int)).tdiv 8) = (((L + 7) / 8 : Nat) : Int) := by
  rw [show ((L : Nat) : Int) + 7 = ((L + 7 : Nat) : Int) by omega, i64n (by omega)]
  exact div8 (by omega)
theorem overG_ok {xs : List AV} {w : Nat} {a n v : Int} (hL : xs.length ≤ 1000000) (h1 : ¬ n > 64) (h2 : thereB xs.length a n = true) (hv : 0 ≤ v) : overG w w (8 * xs.length) (bitsF xs 0 (8 * xs.length)) a n v 0 = true := by
  have := there_of h2
  simp only [overG, Bool.and_eq_true, beq_iff_eq, decide_eq_true_eq]
  exact ⟨⟨⟨⟨⟨⟨⟨⟨trivial, bitsF_length _ _ _⟩, by omega⟩, this.1⟩, trivial⟩, this.2.1⟩, by omega⟩, by omega⟩, hv⟩
theorem packG_ok {ys : List AV} {w w2 m : Nat} (hl : ys.length ≤ 8000000) (hb : binB ys = true) (hm : m = (ys.length + 7) / 8) : packG w w ys.length w2 w2 m ys (zeros m) 0 = true := by
  simp only [packG, Bool.and_eq_true, beq_iff_eq, decide_eq_true_eq]
  exact ⟨⟨⟨⟨⟨⟨⟨⟨trivial, trivial⟩, trivial⟩, hm⟩, hl⟩, hb⟩, trivial⟩, by simp [zeros]⟩, zeroB_zeros m⟩

/-- From a bit on, the first one at which two are not alike; at most so many further on. -/
def leadF (xs ys : List AV) : Nat → Nat → Nat
  | 0, j => j
  | d + 1, j => if bitV xs j = bitV ys j then leadF xs ys d (j + 1) else j
theorem leadF_range (xs ys : List AV) (d j : Nat) : j ≤ leadF xs ys d j ∧ leadF xs ys d j ≤ j + d := by
  induction d generalizing j with
  | zero => exact ⟨Nat.le_refl _, Nat.le_refl _⟩
  | succ d ih =>
    simp only [leadF]
    split
    · have := ih (j + 1); omega
    · omega
theorem leadF_skip {xs ys : List AV} (m : Nat) : ∀ {d j : Nat}, m ≤ d → (∀ i, j ≤ i → i < j + m → bitV xs i = bitV ys i) → leadF xs ys d j = leadF xs ys (d - m) (j + m) := by
  induction m with
  | zero => intro d j _ _; rfl
  | succ m ih =>
    intro d j hd h
    obtain ⟨d, rfl⟩ : ∃ e, d = e + 1 := ⟨d - 1, by omega⟩
    simp only [leadF]
    rw [if_pos (h j (by omega) (by omega)), ih (by omega) (fun i h1 h2 => h i (by omega) (by omega))]
    congr 1 <;> omega
theorem leadF_lt {xs ys : List AV} : ∀ {d j i : Nat}, j ≤ i → i < j + d → bitV xs i ≠ bitV ys i → leadF xs ys d j ≤ i := by
  intro d
  induction d with
  | zero => intro j i h1 h2; omega
  | succ d ih =>
    intro j i h1 h2 h3
    simp only [leadF]
    split
    · rename_i he
      by_cases hij : i = j
      · subst hij; exact absurd he h3
      · exact ih (by omega) (by omega) h3
    · exact h1
def leadG (xs ys : List AV) (j : Int) : Bool := intsB .u8 xs && intsB .u8 ys && decide (xs.length ≤ 1000000) && decide (ys.length ≤ 1000000) && decide (0 ≤ j) && decide (leadF xs ys (8 * min xs.length ys.length - j.toNat) j.toNat < 8 * min xs.length ys.length)
theorem leadG_of {xs ys : List AV} {j : Int} (h : leadG xs ys j = true) : intsB .u8 xs = true ∧ intsB .u8 ys = true ∧ xs.length ≤ 1000000 ∧ ys.length ≤ 1000000 ∧ 0 ≤ j ∧ leadF xs ys (8 * min xs.length ys.length - j.toNat) j.toNat < 8 * min xs.length ys.length := by
  simp only [leadG, Bool.and_eq_true, decide_eq_true_eq] at h
  obtain ⟨⟨⟨⟨⟨h1, h2⟩, h3⟩, h4⟩, h5⟩, h6⟩ := h
  exact ⟨h1, h2, h3, h4, h5, h6⟩
def leadV (xs ys : List AV) : Nat := leadF xs ys (8 * min xs.length ys.length) 0
/-- Bytes that are not alike have a bit that is not. -/
theorem byte_differs {xs ys : List AV} (hx : intsB .u8 xs = true) (hy : intsB .u8 ys = true) {i : Nat} (h1 : i < xs.length) (h2 : i < ys.length) (h : xs.getD i .junk ≠ ys.getD i .junk) : ∃ t, t < 8 ∧ bitV xs (8 * i + t) ≠ bitV ys (8 * i + t) := by
  obtain ⟨a, ha, ea⟩ := u8_get hx i h1
  obtain ⟨b, hb, eb⟩ := u8_get hy i h2
  refine Decidable.byContradiction fun hn => h ?_
  have key : ∀ t, t < 8 → (a : Int) / 2 ^ (7 - t) % 2 = (b : Int) / 2 ^ (7 - t) % 2 := by
    intro t ht
    refine Decidable.byContradiction fun hne => hn ⟨t, ht, ?_⟩
    unfold bitV
    rw [show (8 * i + t) / 8 = i by omega, show (8 * i + t) % 8 = t by omega, ea, eb]
    exact hne
  have k0 := key 0 (by omega)
  have k1 := key 1 (by omega)
  have k2 := key 2 (by omega)
  have k3 := key 3 (by omega)
  have k4 := key 4 (by omega)
  have k5 := key 5 (by omega)
  have k6 := key 6 (by omega)
  have k7 := key 7 (by omega)
  simp only [Nat.sub_zero, Nat.reduceSub, Nat.sub_self] at k0 k1 k2 k3 k4 k5 k6 k7
  simp only [show (2 : Int) ^ 7 = 128 from rfl, show (2 : Int) ^ 6 = 64 from rfl, show (2 : Int) ^ 5 = 32 from rfl, show (2 : Int) ^ 4 = 16 from rfl, show (2 : Int) ^ 3 = 8 from rfl, show (2 : Int) ^ 2 = 4 from rfl, show (2 : Int) ^ 1 = 2 from rfl, show (2 : Int) ^ 0 = 1 from rfl] at k0 k1 k2 k3 k4 k5 k6 k7
  rw [ea, eb]
  congr 1
  omega
theorem byte_alike {xs ys : List AV} {i : Nat} (h : xs.getD i .junk = ys.getD i .junk) (t : Nat) (ht : t < 8) : bitV xs (8 * i + t) = bitV ys (8 * i + t) := by
  unfold bitV
  rw [show (8 * i + t) / 8 = i by omega, h]

def leadsG (xs ys : List AV) (n i j : Int) : Bool := intsB .u8 xs && intsB .u8 ys && decide (xs.length ≤ 1000000) && decide (ys.length ≤ 1000000) && n == ((min xs.length ys.length : Nat) : Int) && i == n && j == 0
theorem leadsG_of {xs ys : List AV} {n i j : Int} (h : leadsG xs ys n i j = true) : intsB .u8 xs = true ∧ intsB .u8 ys = true ∧ xs.length ≤ 1000000 ∧ ys.length ≤ 1000000 ∧ n = ((min xs.length ys.length : Nat) : Int) ∧ i = n ∧ j = 0 := by
  simp only [leadsG, Bool.and_eq_true, decide_eq_true_eq, beq_iff_eq] at h
  obtain ⟨⟨⟨⟨⟨⟨h1, h2⟩, h3⟩, h4⟩, h5⟩, h6⟩, h7⟩ := h
  exact ⟨h1, h2, h3, h4, h5, h6, h7⟩
theorem leadG_ok {xs ys : List AV} {j : Nat} (h1 : intsB .u8 xs = true) (h2 : intsB .u8 ys = true) (h3 : xs.length ≤ 1000000) (h4 : ys.length ≤ 1000000) (h5 : leadF xs ys (8 * min xs.length ys.length - j) j < 8 * min xs.length ys.length) : leadG xs ys (j : Int) = true := by
  simp only [leadG, Bool.and_eq_true, decide_eq_true_eq, Int.toNat_natCast]
  exact ⟨⟨⟨⟨⟨h1, h2⟩, h3⟩, h4⟩, by omega⟩, h5⟩
theorem lead_lt {xs ys : List AV} (hx : intsB .u8 xs = true) (hy : intsB .u8 ys = true) {i : Nat} (h1 : i < min xs.length ys.length) (h : xs.getD i .junk ≠ ys.getD i .junk) : leadF xs ys (8 * min xs.length ys.length - 8 * i) (8 * i) < 8 * min xs.length ys.length := by
  obtain ⟨t, ht, hne⟩ := byte_differs hx hy (by omega) (by omega) h
  have := leadF_lt (d := 8 * min xs.length ys.length - 8 * i) (show 8 * i ≤ 8 * i + t by omega) (by omega) hne
  omega
theorem lead_go {xs ys : List AV} {i m : Nat} (h1 : i < m) (h : xs.getD i .junk = ys.getD i .junk) : leadF xs ys (8 * m - 8 * i) (8 * i) = leadF xs ys (8 * m - 8 * (i + 1)) (8 * (i + 1)) := by
  rw [leadF_skip 8 (by omega) (fun k hk1 hk2 => by
    have := byte_alike h (k - 8 * i) (by omega)
    rwa [show 8 * i + (k - 8 * i) = k by omega] at this)]
  congr 1
theorem leadV_le (xs ys : List AV) : leadV xs ys ≤ 8 * min xs.length ys.length := by
  have := leadF_range xs ys (8 * min xs.length ys.length) 0
  unfold leadV; omega
/-- No bits. -/
def noB (_ : Nat) : Int := 0
theorem noB_01 (i : Nat) : noB i = 0 ∨ noB i = 1 := .inl rfl
def clearG (w ver len L : Nat) (ys : List AV) (i : Int) : Bool := w == ver && ys.length == len && len == L && decide (len ≤ 1000000) && intsB .u8 ys && decide (0 ≤ i) && decide (i ≤ 8 * (len : Int))
theorem clearG_of {w ver len L : Nat} {ys : List AV} {i : Int} (h : clearG w ver len L ys i = true) : w = ver ∧ ys.length = len ∧ len = L ∧ len ≤ 1000000 ∧ intsB .u8 ys = true ∧ 0 ≤ i ∧ i ≤ 8 * (len : Int) := by
  simp only [clearG, Bool.and_eq_true, decide_eq_true_eq, beq_iff_eq] at h
  obtain ⟨⟨⟨⟨⟨⟨h1, h2⟩, h3⟩, h4⟩, h5⟩, h6⟩, h7⟩ := h
  exact ⟨h1, h2, h3, h4, h5, h6, h7⟩
theorem clearG_ok {w : Nat} {ys : List AV} {i : Int} (h4 : ys.length ≤ 1000000) (h5 : intsB .u8 ys = true) (h6 : 0 ≤ i) (h7 : i ≤ 8 * (ys.length : Int)) : clearG w w ys.length ys.length ys i = true := by
  simp only [clearG, Bool.and_eq_true, decide_eq_true_eq, beq_iff_eq]
  exact ⟨⟨⟨⟨⟨⟨trivial, trivial⟩, trivial⟩, h4⟩, h5⟩, h6⟩, h7⟩
def wipeG (w ver len : Nat) (ys : List AV) (i : Int) : Bool := w == ver && ys.length == len && decide (len ≤ 8000000) && decide (0 ≤ i) && decide (i ≤ (len : Int))
theorem wipeG_of {w ver len : Nat} {ys : List AV} {i : Int} (h : wipeG w ver len ys i = true) : w = ver ∧ ys.length = len ∧ len ≤ 8000000 ∧ 0 ≤ i ∧ i ≤ (len : Int) := by
  simp only [wipeG, Bool.and_eq_true, decide_eq_true_eq, beq_iff_eq] at h
  obtain ⟨⟨⟨⟨h1, h2⟩, h3⟩, h4⟩, h5⟩ := h
  exact ⟨h1, h2, h3, h4, h5⟩
theorem wipeG_ok {w : Nat} {ys : List AV} {i : Int} {len : Nat} (h2 : ys.length = len) (h4 : len ≤ 8000000) (h6 : 0 ≤ i) (h7 : i ≤ (len : Int)) : wipeG w w len ys i = true := by
  simp only [wipeG, Bool.and_eq_true, decide_eq_true_eq, beq_iff_eq]
  exact ⟨⟨⟨⟨trivial, h2⟩, h4⟩, h6⟩, h7⟩
/-- Bytes with bits 0 from a place on. -/
def clearX (xs : List AV) (f : Int) : List AV := bif decide (f < 0) || decide (f > 8 * (xs.length : Int)) then [] else putL xs f.toNat noB (8 * xs.length - f.toNat)
def clearE (L : Nat) (f : Int) : Int := bif decide (f < 0) || decide (f > 8 * (L : Int)) then 30 else 0
theorem clearX_u8 {xs : List AV} {f : Int} (hu : intsB .u8 xs = true) : intsB .u8 (clearX xs f) = true := by
  unfold clearX
  cases decide (f < 0) || decide (f > 8 * (xs.length : Int))
  · exact putL_u8 hu _ fun i _ => noB_01 i
  · rfl
def sameX (xs ys : List AV) (n : Int) : Bool := thereB xs.length 0 n && thereB ys.length 0 n && decide ((leadV xs ys : Int) ≥ n)
def sameE (L M : Nat) (n : Int) : Int := bif thereB L 0 n && thereB M 0 n then 0 else 30

end Go.Pl
