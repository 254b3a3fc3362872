/- Addresses as bits. -/
import Derived.Test.YteaceebonkpipaaPIter
namespace Go.Pl
open Go.Abs

theorem bit8_facts : ∀ (x : Fin 256) (s : Fin 8), IntKind.u8.wrap ((BitVec.ofInt 8 ((x.val : Int) / 2 ^ s.val) &&& BitVec.ofInt 8 1).toNat : Int) = (x.val : Int) / 2 ^ s.val % 2 ∧
    IntKind.u8.wrap ((BitVec.ofInt 8 (x.val : Int) ||| BitVec.ofInt 8 ((2 : Int) ^ s.val)).toNat : Int) = setByte x.val s.val 1 ∧ IntKind.u8.wrap ((BitVec.ofInt 8 (x.val : Int) &&& ~~~ BitVec.ofInt 8 ((2 : Int) ^ s.val)).toNat : Int) = setByte x.val s.val 0 := by
  decide +kernel
theorem bit8 {x s : Nat} (hx : x < 256) (hs : s < 8) : IntKind.u8.wrap ((BitVec.ofInt 8 ((x : Int) / 2 ^ s) &&& BitVec.ofInt 8 1).toNat : Int) = (x : Int) / 2 ^ s % 2 := (bit8_facts ⟨x, hx⟩ ⟨s, hs⟩).1
theorem or8 {x s : Nat} (hx : x < 256) (hs : s < 8) : IntKind.u8.wrap ((BitVec.ofInt 8 (x : Int) ||| BitVec.ofInt 8 ((2 : Int) ^ s)).toNat : Int) = setByte x s 1 := (bit8_facts ⟨x, hx⟩ ⟨s, hs⟩).2.1
theorem clr8 {x s : Nat} (hx : x < 256) (hs : s < 8) : IntKind.u8.wrap ((BitVec.ofInt 8 (x : Int) &&& ~~~ BitVec.ofInt 8 ((2 : Int) ^ s)).toNat : Int) = setByte x s 0 := (bit8_facts ⟨x, hx⟩ ⟨s, hs⟩).2.2
theorem xor8 {x y : Nat} (hx : x < 256) (hy : y < 256) : IntKind.u8.wrap ((BitVec.ofInt 8 (x : Int) ^^^ BitVec.ofInt 8 (y : Int)).toNat : Int) = ((x ^^^ y : Nat) : Int) := by
  have e1 : (BitVec.ofInt 8 (x : Int)).toNat = x := by rw [BitVec.toNat_ofInt]; omega
  have e2 : (BitVec.ofInt 8 (y : Int)).toNat = y := by rw [BitVec.toNat_ofInt]; omega
  have e3 : x ^^^ y < 2 ^ 8 := Nat.xor_lt_two_pow hx hy
  rw [BitVec.toNat_xor, e1, e2]
  exact u8n (by omega) (by omega)
theorem xor_lt {x y : Nat} (hx : x < 256) (hy : y < 256) : x ^^^ y < 256 := Nat.xor_lt_two_pow (n := 8) hx hy
theorem xor_bit (x y s : Nat) : ((x ^^^ y : Nat) : Int) / 2 ^ s % 2 = ((x : Int) / 2 ^ s % 2 + (y : Int) / 2 ^ s % 2) % 2 := by
  have h := Nat.testBit_xor x y s
  have e : ∀ z : Nat, z.testBit s = decide (z / 2 ^ s % 2 = 1) := fun z => Nat.testBit_eq_decide_div_mod_eq
  rw [e, e, e] at h
  have c : ∀ z : Nat, ((z : Int) / 2 ^ s % 2) = ((z / 2 ^ s % 2 : Nat) : Int) := fun z => by simp
  rw [c, c, c]
  have ha := Nat.mod_two_eq_zero_or_one ((x ^^^ y) / 2 ^ s)
  have hb := Nat.mod_two_eq_zero_or_one (x / 2 ^ s)
  have hc := Nat.mod_two_eq_zero_or_one (y / 2 ^ s)
  rcases ha with ha | ha <;> rcases hb with hb | hb <;> rcases hc with hc | hc <;> rw [ha, hb, hc] at h ⊢ <;> first | rfl | (exact absurd h (by decide))

theorem bitNe {xs : List AV} {j x : Nat} (he : xs.getD (j / 8) .junk = .int .u8 (x : Int)) : ((x : Int) / 2 ^ (7 - j % 8) % 2 != 0) = (bitV xs j == 1) := by
  unfold bitV
  rw [he]
  simp only [AV.toInt]
  generalize (x : Int) / 2 ^ (7 - j % 8) = u
  rcases (by omega : u % 2 = 0 ∨ u % 2 = 1) with h | h <;> rw [h] <;> rfl
theorem bitEq {xs : List AV} {j x : Nat} (he : xs.getD (j / 8) .junk = .int .u8 (x : Int)) : ((x : Int) / 2 ^ (7 - j % 8) % 2 == 1) = (bitV xs j == 1) := by
  unfold bitV
  rw [he]
  rfl
theorem bitXor {xs ys : List AV} {j x y : Nat} (he : xs.getD (j / 8) .junk = .int .u8 (x : Int)) (hf : ys.getD (j / 8) .junk = .int .u8 (y : Int)) : (((x ^^^ y : Nat) : Int) / 2 ^ (7 - j % 8) % 2 != 0) = (bitV xs j != bitV ys j) := by
  unfold bitV
  rw [he, hf, xor_bit]
  simp only [AV.toInt]
  generalize (x : Int) / 2 ^ (7 - j % 8) = u
  generalize (y : Int) / 2 ^ (7 - j % 8) = v
  rcases (by omega : u % 2 = 0 ∨ u % 2 = 1) with h | h <;> rcases (by omega : v % 2 = 0 ∨ v % 2 = 1) with h' | h' <;> rw [h, h'] <;> rfl

/-- Are all bits from a place on 0? -/
def lowB (xs : List AV) (i : Nat) : Bool := noneB (fun j => bitV xs j == 1) (8 * xs.length - i) i
theorem lowB_iff {xs : List AV} {i : Nat} : lowB xs i = true ↔ ∀ j, i ≤ j → j < 8 * xs.length → bitV xs j = 0 := by
  unfold lowB
  rw [noneB_iff]
  have h01 := fun j => bitV_01 xs j
  constructor
  · intro h j h1 h2
    have := h j h1 (by omega)
    have h3 := h01 j
    simp only [beq_eq_false_iff_ne, ne_eq] at this
    omega
  · intro h j h1 h2
    rw [h j h1 (by omega)]; rfl
/-- Are the first bits of two alike? -/
def sameB (xs ys : List AV) (n : Nat) : Bool := noneB (fun j => bitV xs j != bitV ys j) n 0
theorem sameB_iff {xs ys : List AV} {n : Nat} : sameB xs ys n = true ↔ ∀ j, j < n → bitV xs j = bitV ys j := by
  unfold sameB
  rw [noneB_iff]
  constructor
  · intro h j h1
    have := h j (Nat.zero_le _) (by omega)
    simpa using this
  · intro h j _ h2
    rw [h j (by omega)]; simp
/-- Bytes whose bits from a place on are cleared. -/
def cutX (xs : List AV) (n : Nat) : List AV := foldF (fun j ys => setV ys j 0) (8 * xs.length - n) n xs

theorem foldV_length (g : Nat → Nat) (b : Nat → Int) : ∀ n j xs, (foldF (fun j ys => setV ys (g j) (b j)) n j xs).length = xs.length
  | 0, _, _ => rfl
  | n + 1, j, xs => by rw [foldF, foldV_length g b n (j + 1), setV_length]
theorem foldV_u8 {g : Nat → Nat} {b : Nat → Int} (hb : ∀ j, b j = 0 ∨ b j = 1) : ∀ n j xs, intsB .u8 xs = true → intsB .u8 (foldF (fun j ys => setV ys (g j) (b j)) n j xs) = true
  | 0, _, _, h => h
  | n + 1, j, xs, h => foldV_u8 hb n (j + 1) _ (setV_u8 h (hb j))
theorem cutX_length (xs : List AV) (n : Nat) : (cutX xs n).length = xs.length := foldV_length _ _ _ _ _
theorem cutX_u8 {xs : List AV} (h : intsB .u8 xs = true) (n : Nat) : intsB .u8 (cutX xs n) = true := foldV_u8 (fun _ => .inl rfl) _ _ _ h
theorem foldC_bit : ∀ (d n : Nat) {xs : List AV} (_ : intsB .u8 xs = true), n + d = 8 * xs.length → ∀ j, bitV (foldF (fun j ys => setV ys j 0) d n xs) j = if n ≤ j ∧ j < n + d then 0 else bitV xs j
  | 0, n, xs, h, hl, j => by rw [if_neg (by omega)]; rfl
  | d + 1, n, xs, h, hl, j => by
    rw [foldF, foldC_bit d (n + 1) (setV_u8 h (.inl rfl)) (by rw [setV_length]; omega), setV_bit h (.inl rfl) (by omega)]
    by_cases h1 : n + 1 ≤ j ∧ j < n + 1 + d
    · rw [if_pos h1, if_pos (by omega)]
    · rw [if_neg h1]
      by_cases h2 : j = n
      · rw [if_pos h2, if_pos (by omega)]
      · rw [if_neg h2, if_neg (by omega)]
theorem cutX_bit {xs : List AV} (h : intsB .u8 xs = true) {n : Nat} (hn : n ≤ 8 * xs.length) (j : Nat) (hj : j < 8 * xs.length) : bitV (cutX xs n) j = if n ≤ j then 0 else bitV xs j := by
  unfold cutX
  rw [foldC_bit _ _ h (by omega)]
  by_cases h1 : n ≤ j
  · rw [if_pos (by omega), if_pos h1]
  · rw [if_neg (by omega), if_neg h1]
/-- What lies in a prefix, by bits. -/
theorem cut_same {xs ys : List AV} (hx : intsB .u8 xs = true) (hy : intsB .u8 ys = true) (hl : xs.length = ys.length) {n : Nat} (hn : n ≤ 8 * xs.length) (hlow : lowB xs n = true) : cutX ys n = xs ↔ sameB xs ys n = true := by
  rw [sameB_iff]
  rw [lowB_iff] at hlow
  constructor
  · intro h j hj
    have := cutX_bit hy (n := n) (by omega) j (by omega)
    rw [h, if_neg (by omega)] at this
    exact this
  · intro h
    refine bits_ext (cutX_u8 hy n) hx (by rw [cutX_length, hl]) fun j hj => ?_
    rw [cutX_length] at hj
    rw [cutX_bit hy (by omega) j hj]
    by_cases h1 : n ≤ j
    · rw [if_pos h1, hlow j h1 (by omega)]
    · rw [if_neg h1, h j (by omega)]

def byteAt (xs : List AV) (k : Nat) : Int := (xs.getD k .junk).toInt
theorem byteAt_eq {xs : List AV} (hu : intsB .u8 xs = true) {k : Nat} (hk : k < xs.length) : xs[k] = .int .u8 (byteAt xs k) := by
  obtain ⟨b, hb, e⟩ := u8_get hu k hk
  unfold byteAt
  rw [e]
  rw [List.getD_eq_getElem?_getD, List.getElem?_eq_getElem hk] at e
  exact e
theorem bytes4 {xs : List AV} (hu : intsB .u8 xs = true) (hl : xs.length = 4) : xs = [.int .u8 (byteAt xs 0), .int .u8 (byteAt xs 1), .int .u8 (byteAt xs 2), .int .u8 (byteAt xs 3)] := by
  match xs, hl with
  | [a, b, c, d], _ =>
    simp only [intsB, Bool.and_eq_true] at hu
    obtain ⟨⟨h0, _⟩, ⟨h1, _⟩, ⟨h2, _⟩, ⟨h3, _⟩, _⟩ := hu
    rw [isInt_eq h0, isInt_eq h1, isInt_eq h2, isInt_eq h3]
    rfl
theorem bytes16 {xs : List AV} (hu : intsB .u8 xs = true) (hl : xs.length = 16) : xs = [.int .u8 (byteAt xs 0), .int .u8 (byteAt xs 1), .int .u8 (byteAt xs 2), .int .u8 (byteAt xs 3), .int .u8 (byteAt xs 4), .int .u8 (byteAt xs 5), .int .u8 (byteAt xs 6), .int .u8 (byteAt xs 7), .int .u8 (byteAt xs 8), .int .u8 (byteAt xs 9), .int .u8 (byteAt xs 10), .int .u8 (byteAt xs 11), .int .u8 (byteAt xs 12), .int .u8 (byteAt xs 13), .int .u8 (byteAt xs 14), .int .u8 (byteAt xs 15)] := by
  match xs, hl with
  | [a0, a1, a2, a3, a4, a5, a6, a7, a8, a9, a10, a11, a12, a13, a14, a15], _ =>
    simp only [intsB, Bool.and_eq_true] at hu
    obtain ⟨⟨h0, _⟩, ⟨h1, _⟩, ⟨h2, _⟩, ⟨h3, _⟩, ⟨h4, _⟩, ⟨h5, _⟩, ⟨h6, _⟩, ⟨h7, _⟩, ⟨h8, _⟩, ⟨h9, _⟩, ⟨h10, _⟩, ⟨h11, _⟩, ⟨h12, _⟩, ⟨h13, _⟩, ⟨h14, _⟩, ⟨h15, _⟩, _⟩ := hu
    rw [isInt_eq h0, isInt_eq h1, isInt_eq h2, isInt_eq h3, isInt_eq h4, isInt_eq h5, isInt_eq h6, isInt_eq h7, isInt_eq h8, isInt_eq h9, isInt_eq h10, isInt_eq h11, isInt_eq h12, isInt_eq h13, isInt_eq h14, isInt_eq h15]
    rfl
/-- The bytes of an address are bytes. -/
def b8 (x : Nat → Int) : Prop := ∀ i, 0 ≤ x i ∧ x i ≤ 255
theorem b8_4 {x : Nat → Int} (h : b8 x) : intsB .u8 [.int .u8 (x 0), .int .u8 (x 1), .int .u8 (x 2), .int .u8 (x 3)] = true := by
  simp only [intsB, isInt_self, AV.toInt, inK_u8, Bool.true_and, Bool.and_true, Bool.and_eq_true, decide_eq_true_eq]
  exact ⟨h 0, h 1, h 2, h 3⟩
theorem b8_16 {x : Nat → Int} (h : b8 x) : intsB .u8 [.int .u8 (x 0), .int .u8 (x 1), .int .u8 (x 2), .int .u8 (x 3), .int .u8 (x 4), .int .u8 (x 5), .int .u8 (x 6), .int .u8 (x 7), .int .u8 (x 8), .int .u8 (x 9), .int .u8 (x 10), .int .u8 (x 11), .int .u8 (x 12), .int .u8 (x 13), .int .u8 (x 14), .int .u8 (x 15)] = true := by
  simp only [intsB, isInt_self, AV.toInt, inK_u8, Bool.true_and, Bool.and_true, Bool.and_eq_true, decide_eq_true_eq]
  exact ⟨h 0, h 1, h 2, h 3, h 4, h 5, h 6, h 7, h 8, h 9, h 10, h 11, h 12, h 13, h 14, h 15⟩
/-- Why a prefix is none: N: how many bits there are. -/
def chkE (N : Int) (xs : List AV) (n : Int) : Int := bif decide (n < 0) then 22 else bif decide (n > N) then 22 else bif lowB xs n.toNat then 0 else 22
theorem chkE_or (N : Int) (xs : List AV) (n : Int) : (chkE N xs n = 0 ∧ 0 ≤ n ∧ n ≤ N ∧ lowB xs n.toNat = true) ∨ chkE N xs n = 22 := by
  unfold chkE
  cases h1 : decide (n < 0)
  · cases h2 : decide (n > N)
    · cases h3 : lowB xs n.toNat
      · exact .inr rfl
      · have := of_decide_eq_false h1
        have := of_decide_eq_false h2
        exact .inl ⟨rfl, by omega, by omega, rfl⟩
    · exact .inr rfl
  · exact .inr rfl
theorem chkE_in (N : Int) (xs : List AV) (n : Int) : inK .i64 (chkE N xs n) = true := by
  rcases chkE_or N xs n with h | h
  · rw [h.1]; rfl
  · rw [h]; rfl
/-- Does a prefix hold an address? -/
def inB (N : Int) (xs ys : List AV) (n : Int) : Bool := bif chkE N xs n == 0 then sameB xs ys n.toNat else false

theorem byteAt_in {xs : List AV} (hu : intsB .u8 xs = true) (k : Nat) : inK .u8 (byteAt xs k) = true := by
  unfold byteAt
  by_cases hk : k < xs.length
  · obtain ⟨b, hb, e⟩ := u8_get hu k hk
    rw [e, inK_u8]
    have h1 : decide ((0 : Int) ≤ (b : Int)) = true := decide_eq_true (by omega)
    have h2 : decide ((b : Int) ≤ 255) = true := decide_eq_true (by omega)
    show (decide ((0 : Int) ≤ (b : Int)) && decide ((b : Int) ≤ 255)) = true
    rw [h1, h2]; rfl
  · rw [List.getD_eq_getElem?_getD, List.getElem?_eq_none (by omega)]; rfl

/-- Why nothing stands in a prefix. -/
def embL (n : Int) : Bool := n == 32 || n == 40 || n == 48 || n == 56 || n == 64 || n == 96
def embE (xs : List AV) (n : Int) : Int := bif chkE 128 xs n != 0 then 22 else bif embL n then (bif byteAt xs 8 != 0 then 81 else 0) else 80
theorem embE_or (xs : List AV) (n : Int) : (embE xs n = 0 ∧ (n = 32 ∨ n = 40 ∨ n = 48 ∨ n = 56 ∨ n = 64 ∨ n = 96) ∧ lowB xs n.toNat = true ∧ byteAt xs 8 = 0) ∨ embE xs n = 22 ∨ embE xs n = 80 ∨ embE xs n = 81 := by
  unfold embE
  rcases chkE_or 128 xs n with ⟨h1, h2, h3, h4⟩ | h
  · rw [h1]
    cases hl : embL n
    · exact .inr (.inr (.inl rfl))
    · cases hb : (byteAt xs 8 != 0)
      · refine .inl ⟨rfl, ?_, h4, by simpa using hb⟩
        simpa [embL, or_assoc] using hl
      · exact .inr (.inr (.inr rfl))
  · rw [h]; exact .inr (.inl rfl)
theorem embE_in (xs : List AV) (n : Int) : inK .i64 (embE xs n) = true := by
  rcases embE_or xs n with h | h | h | h
  · rw [h.1]; rfl
  · rw [h]; rfl
  · rw [h]; rfl
  · rw [h]; rfl
/-- Where a bit of an IPv4 address stands in an IPv6 one. -/
def placeF (n i : Int) : Int := bif decide (n ≤ 64) && decide (n + i ≥ 64) then n + i + 8 else n + i

theorem foldF_snoc {δ : Type} (f : Nat → δ → δ) : ∀ n j d, foldF f (n + 1) j d = f (j + n) (foldF f n j d)
  | 0, _, _ => rfl
  | n + 1, j, d => by
    rw [foldF, foldF_snoc f n (j + 1)]
    rw [show j + 1 + n = j + (n + 1) by omega]
    rfl
theorem foldF_add {δ : Type} (f : Nat → δ → δ) : ∀ a b j d, foldF f (a + b) j d = foldF f b (j + a) (foldF f a j d)
  | 0, b, j, d => by rw [Nat.zero_add]; rfl
  | a + 1, b, j, d => by
    rw [show a + 1 + b = (a + b) + 1 by omega, foldF, foldF_add f a b (j + 1)]
    rw [show j + 1 + a = j + (a + 1) by omega]
    rfl
/-- Bits that are set where others are set. -/
def orF (xs : List AV) (S T : Nat → Nat) (j : Nat) (ys : List AV) : List AV := bif bitV xs (S j) == 1 then setV ys (T j) 1 else ys
theorem orF_at {xs ys : List AV} {S T : Nat → Nat} {j a b : Nat} (h1 : S j = a) (h2 : T j = b) : orF xs S T j ys = bif bitV xs a == 1 then setV ys b 1 else ys := by unfold orF; rw [h1, h2]
theorem orF_length (xs : List AV) (S T : Nat → Nat) (j : Nat) (ys : List AV) : (orF xs S T j ys).length = ys.length := by
  unfold orF
  cases bitV xs (S j) == 1
  · rfl
  · exact setV_length _ _ _
theorem orF_u8 (xs : List AV) (S T : Nat → Nat) (j : Nat) {ys : List AV} (h : intsB .u8 ys = true) : intsB .u8 (orF xs S T j ys) = true := by
  unfold orF
  cases bitV xs (S j) == 1
  · exact h
  · exact setV_u8 h (.inr rfl)
theorem orFs (xs : List AV) (S T : Nat → Nat) : ∀ n j (ys : List AV), intsB .u8 ys = true → intsB .u8 (foldF (orF xs S T) n j ys) = true ∧ (foldF (orF xs S T) n j ys).length = ys.length
  | 0, _, ys, h => ⟨h, rfl⟩
  | n + 1, j, ys, h => by
    obtain ⟨h1, h2⟩ := orFs xs S T n (j + 1) _ (orF_u8 xs S T j h)
    exact ⟨h1, by rw [foldF, h2, orF_length]⟩
theorem group8 {xs ys : List AV} {S T : Nat → Nat} {s p j : Nat} (hx : intsB .u8 xs = true) (hy : intsB .u8 ys = true) (hs : s < xs.length) (hp : p < ys.length) (h0 : ys.getD p .junk = .int .u8 0) (h : ∀ r, r < 8 → S (j + r) = 8 * s + r ∧ T (j + r) = 8 * p + r) :
    foldF (orF xs S T) 8 j ys = ys.set p (xs.getD s .junk) := by
  have z : ∀ r, r < 8 → bitV ys (8 * p + r) = 0 := by
    intro r hr
    unfold bitV
    rw [show (8 * p + r) / 8 = p by omega, h0]
    simp [AV.toInt]
  have key : ∀ d, d ≤ 8 → ∀ q, bitV (foldF (orF xs S T) d j ys) q = if 8 * p ≤ q ∧ q < 8 * p + d then bitV xs (8 * s + (q - 8 * p)) else bitV ys q := by
    intro d
    induction d with
    | zero => intro _ q; rw [if_neg (by omega)]; rfl
    | succ d ih =>
      intro hd q
      obtain ⟨g1, g2⟩ := orFs xs S T d j ys hy
      obtain ⟨e1, e2⟩ := h d (by omega)
      rw [foldF_snoc, orF_at e1 e2]
      have hb := bitV_01 xs (8 * s + d)
      cases c : bitV xs (8 * s + d) == 1
      · rw [cond_false, ih (by omega)]
        have c0 : bitV xs (8 * s + d) = 0 := by
          simp only [beq_eq_false_iff_ne, ne_eq] at c
          omega
        by_cases hq : q = 8 * p + d
        · subst hq
          rw [if_neg (by omega), if_pos (by omega), z d (by omega), show 8 * p + d - 8 * p = d by omega, c0]
        · by_cases h3 : 8 * p ≤ q ∧ q < 8 * p + d
          · rw [if_pos h3, if_pos (by omega)]
          · rw [if_neg h3, if_neg (by omega)]
      · rw [cond_true, setV_bit g1 (.inr rfl) (by omega), ih (by omega)]
        have c1 : bitV xs (8 * s + d) = 1 := by simpa using c
        by_cases hq : q = 8 * p + d
        · subst hq
          rw [if_pos rfl, if_pos (by omega), show 8 * p + d - 8 * p = d by omega, c1]
        · rw [if_neg hq]
          by_cases h3 : 8 * p ≤ q ∧ q < 8 * p + d
          · rw [if_pos h3, if_pos (by omega)]
          · rw [if_neg h3, if_neg (by omega)]
  obtain ⟨g1, g2⟩ := orFs xs S T 8 j ys hy
  obtain ⟨b, hb, he⟩ := u8_get hx s hs
  have hset : intsB .u8 (ys.set p (xs.getD s .junk)) = true := by
    rw [he]
    refine intsB_set hy ?_
    rw [inK_u8, decide_eq_true (show (0 : Int) ≤ (b : Int) by omega), decide_eq_true (show (b : Int) ≤ 255 by omega)]; rfl
  refine bits_ext g1 hset (by rw [g2, List.length_set]) fun q hq => ?_
  rw [g2] at hq
  rw [key 8 (Nat.le_refl _)]
  by_cases h3 : 8 * p ≤ q ∧ q < 8 * p + 8
  · rw [if_pos h3]
    unfold bitV
    rw [show q / 8 = p by omega, getD_set_self hp, show (8 * s + (q - 8 * p)) / 8 = s by omega, show (8 * s + (q - 8 * p)) % 8 = q % 8 by omega]
  · rw [if_neg h3]
    unfold bitV
    rw [List.getD_eq_getElem?_getD, List.getD_eq_getElem?_getD, List.getElem?_set_ne (by omega)]

def placeN (n : Int) (j : Nat) : Nat := (placeF n (j : Int)).toNat
def sameN (j : Nat) : Nat := j
def layX (n : Int) (xs ys : List AV) : List AV := foldF (orF xs sameN (placeN n)) 32 0 ys
def takX (n : Int) (xs ys : List AV) : List AV := foldF (orF xs (placeN n) sameN) 32 0 ys
theorem embL_or {n : Int} (h : embL n = true) : n = 32 ∨ n = 40 ∨ n = 48 ∨ n = 56 ∨ n = 64 ∨ n = 96 := by
  simpa [embL, or_assoc] using h
theorem place_is {n : Int} (h : embL n = true) {j : Nat} (hj : j < 32) : placeF n (j : Int) = (placeN n j : Int) ∧ placeN n j < 128 := by
  unfold placeN
  have : 0 ≤ placeF n (j : Int) ∧ placeF n (j : Int) < 128 := by
    unfold placeF
    have hl := embL_or h
    cases h1 : decide (n ≤ 64) && decide (n + (j : Int) ≥ 64)
    · rw [cond_false]; omega
    · rw [cond_true]
      simp only [Bool.and_eq_true, decide_eq_true_eq] at h1
      omega
  omega

theorem byte_zero {b : Nat} (hb : b < 256) (h : ∀ t, t < 8 → (b : Int) / 2 ^ (7 - t) % 2 = 0) : b = 0 := by
  have k0 := h 0 (by omega)
  have k1 := h 1 (by omega)
  have k2 := h 2 (by omega)
  have k3 := h 3 (by omega)
  have k4 := h 4 (by omega)
  have k5 := h 5 (by omega)
  have k6 := h 6 (by omega)
  have k7 := h 7 (by omega)
  simp only [Nat.sub_zero, Nat.reduceSub, Nat.sub_self] at k0 k1 k2 k3 k4 k5 k6 k7
  simp only [show (2 : Int) ^ 7 = 128 from rfl, show (2 : Int) ^ 6 = 64 from rfl, show (2 : Int) ^ 5 = 32 from rfl, show (2 : Int) ^ 4 = 16 from rfl, show (2 : Int) ^ 3 = 8 from rfl, show (2 : Int) ^ 2 = 4 from rfl, show (2 : Int) ^ 1 = 2 from rfl, show (2 : Int) ^ 0 = 1 from rfl] at k0 k1 k2 k3 k4 k5 k6 k7
  omega
theorem low_byte {xs : List AV} (hu : intsB .u8 xs = true) {m k : Nat} (h : lowB xs m = true) (hm : m ≤ 8 * k) (hk : k < xs.length) : xs.getD k .junk = .int .u8 0 := by
  obtain ⟨b, hb, he⟩ := u8_get hu k hk
  rw [he]
  have : b = 0 := byte_zero hb fun t ht => by
    have := lowB_iff.1 h (8 * k + t) (by omega) (by omega)
    unfold bitV at this
    rw [show (8 * k + t) / 8 = k by omega, show (8 * k + t) % 8 = t by omega, he] at this
    exact this
  rw [this]; rfl
theorem lowB_byte {xs : List AV} (hu : intsB .u8 xs = true) {k : Nat} (hk : k < xs.length) : lowB xs (8 * k) = (byteAt xs k == 0 && lowB xs (8 * (k + 1))) := by
  obtain ⟨b, hb, he⟩ := u8_get hu k hk
  have hby : byteAt xs k = (b : Int) := by unfold byteAt; rw [he]; rfl
  rw [hby, Bool.eq_iff_iff, Bool.and_eq_true, lowB_iff, lowB_iff, beq_iff_eq]
  constructor
  · intro h
    refine ⟨?_, fun j h1 h2 => h j (by omega) h2⟩
    have := low_byte hu (lowB_iff.2 h) (Nat.le_refl _) hk
    rw [he] at this
    simpa using this
  · rintro ⟨h1, h2⟩ j h3 h4
    by_cases h5 : 8 * (k + 1) ≤ j
    · exact h2 j h5 h4
    · unfold bitV
      rw [show j / 8 = k by omega, he, h1]
      simp [AV.toInt]
theorem lowB_end {xs : List AV} {m : Nat} (h : 8 * xs.length ≤ m) : lowB xs m = true := lowB_iff.2 fun j h1 h2 => by omega
theorem getD_set_ne {l : List AV} {i j : Nat} {v : AV} (h : i ≠ j) : (l.set i v).getD j .junk = l.getD j .junk := by
  rw [List.getD_eq_getElem?_getD, List.getElem?_set_ne h, ← List.getD_eq_getElem?_getD]
theorem four {xs ys : List AV} {S T : Nat → Nat} {s0 s1 s2 s3 p0 p1 p2 p3 : Nat} (hx : intsB .u8 xs = true) (hy : intsB .u8 ys = true) (hs : s0 < xs.length ∧ s1 < xs.length ∧ s2 < xs.length ∧ s3 < xs.length) (hp : p0 < ys.length ∧ p1 < ys.length ∧ p2 < ys.length ∧ p3 < ys.length)
    (h0 : ys.getD p0 .junk = .int .u8 0 ∧ ys.getD p1 .junk = .int .u8 0 ∧ ys.getD p2 .junk = .int .u8 0 ∧ ys.getD p3 .junk = .int .u8 0) (hd : p0 < p1 ∧ p1 < p2 ∧ p2 < p3)
    (h : ∀ r, r < 8 → (S r = 8 * s0 + r ∧ T r = 8 * p0 + r) ∧ (S (8 + r) = 8 * s1 + r ∧ T (8 + r) = 8 * p1 + r) ∧ (S (16 + r) = 8 * s2 + r ∧ T (16 + r) = 8 * p2 + r) ∧ (S (24 + r) = 8 * s3 + r ∧ T (24 + r) = 8 * p3 + r)) :
    foldF (orF xs S T) 32 0 ys = (((ys.set p0 (xs.getD s0 .junk)).set p1 (xs.getD s1 .junk)).set p2 (xs.getD s2 .junk)).set p3 (xs.getD s3 .junk) := by
  have u : ∀ {zs : List AV} {p s : Nat}, intsB .u8 zs = true → s < xs.length → intsB .u8 (zs.set p (xs.getD s .junk)) = true := by
    intro zs p s hz hs
    obtain ⟨b, hb, he⟩ := u8_get hx s hs
    rw [he]
    refine intsB_set hz ?_
    rw [inK_u8, decide_eq_true (show (0 : Int) ≤ (b : Int) by omega), decide_eq_true (show (b : Int) ≤ 255 by omega)]; rfl
  obtain ⟨hs0, hs1, hs2, hs3⟩ := hs
  obtain ⟨hp0, hp1, hp2, hp3⟩ := hp
  obtain ⟨z0, z1, z2, z3⟩ := h0
  have hz0 := u (p := p0) hy hs0
  have hz1 := u (p := p1) hz0 hs1
  have hz2 := u (p := p2) hz1 hs2
  rw [show (32 : Nat) = 8 + 24 from rfl, foldF_add, group8 hx hy hs0 hp0 z0 (fun r hr => by rw [Nat.zero_add]; exact (h r hr).1)]
  rw [show (24 : Nat) = 8 + 16 from rfl, foldF_add, group8 hx hz0 hs1 (by rw [List.length_set]; exact hp1) (by rw [getD_set_ne (by omega)]; exact z1) (fun r hr => (h r hr).2.1)]
  rw [show (16 : Nat) = 8 + 8 from rfl, foldF_add, group8 hx hz1 hs2 (by rw [List.length_set, List.length_set]; exact hp2) (by rw [getD_set_ne (by omega), getD_set_ne (by omega)]; exact z2) (fun r hr => (h r hr).2.2.1)]
  rw [group8 hx hz2 hs3 (by rw [List.length_set, List.length_set, List.length_set]; exact hp3) (by rw [getD_set_ne (by omega), getD_set_ne (by omega), getD_set_ne (by omega)]; exact z3) (fun r hr => (h r hr).2.2.2)]
theorem placeN_is {n : Int} {j m : Nat} (h : placeF n (j : Int) = (m : Int)) : placeN n j = m := by unfold placeN; rw [h]; rfl
theorem lay_32 {x z : Nat → Int} (hx : b8 x) (hz : b8 z) (h : lowB [.int .u8 (x 0), .int .u8 (x 1), .int .u8 (x 2), .int .u8 (x 3), .int .u8 (x 4), .int .u8 (x 5), .int .u8 (x 6), .int .u8 (x 7), .int .u8 (x 8), .int .u8 (x 9), .int .u8 (x 10), .int .u8 (x 11), .int .u8 (x 12), .int .u8 (x 13), .int .u8 (x 14), .int .u8 (x 15)] 32 = true) : layX 32 [.int .u8 (z 0), .int .u8 (z 1), .int .u8 (z 2), .int .u8 (z 3)] [.int .u8 (x 0), .int .u8 (x 1), .int .u8 (x 2), .int .u8 (x 3), .int .u8 (x 4), .int .u8 (x 5), .int .u8 (x 6), .int .u8 (x 7), .int .u8 (x 8), .int .u8 (x 9), .int .u8 (x 10), .int .u8 (x 11), .int .u8 (x 12), .int .u8 (x 13), .int .u8 (x 14), .int .u8 (x 15)] = [.int .u8 (x 0), .int .u8 (x 1), .int .u8 (x 2), .int .u8 (x 3), .int .u8 (z 0), .int .u8 (z 1), .int .u8 (z 2), .int .u8 (z 3), .int .u8 (x 8), .int .u8 (x 9), .int .u8 (x 10), .int .u8 (x 11), .int .u8 (x 12), .int .u8 (x 13), .int .u8 (x 14), .int .u8 (x 15)] := by
  unfold layX
  have hl : ∀ k, 32 ≤ 8 * k → k < 16 → ([.int .u8 (x 0), .int .u8 (x 1), .int .u8 (x 2), .int .u8 (x 3), .int .u8 (x 4), .int .u8 (x 5), .int .u8 (x 6), .int .u8 (x 7), .int .u8 (x 8), .int .u8 (x 9), .int .u8 (x 10), .int .u8 (x 11), .int .u8 (x 12), .int .u8 (x 13), .int .u8 (x 14), .int .u8 (x 15)] : List AV).getD k .junk = .int .u8 0 := fun k h1 h2 => low_byte (b8_16 hx) h h1 h2
  refine four (s0 := 0) (s1 := 1) (s2 := 2) (s3 := 3) (p0 := 4) (p1 := 5) (p2 := 6) (p3 := 7) (b8_4 hz) (b8_16 hx) (show 0 < 4 ∧ 1 < 4 ∧ 2 < 4 ∧ 3 < 4 by decide) (show 4 < 16 ∧ 5 < 16 ∧ 6 < 16 ∧ 7 < 16 by decide) ⟨hl 4 (by decide) (by decide), hl 5 (by decide) (by decide), hl 6 (by decide) (by decide), hl 7 (by decide) (by decide)⟩ (by decide) fun r hr => ?_
  · rw [← Nat.zero_add r]
    have g0 : placeN 32 (0 + r) = 8 * 4 + r := placeN_is (by unfold placeF; simp only [Int.reduceLE, decide_true, decide_false, Bool.true_and, Bool.false_and]; rw [decide_eq_false (by omega), cond_false]; omega)
    have g1 : placeN 32 (8 + r) = 8 * 5 + r := placeN_is (by unfold placeF; simp only [Int.reduceLE, decide_true, decide_false, Bool.true_and, Bool.false_and]; rw [decide_eq_false (by omega), cond_false]; omega)
    have g2 : placeN 32 (16 + r) = 8 * 6 + r := placeN_is (by unfold placeF; simp only [Int.reduceLE, decide_true, decide_false, Bool.true_and, Bool.false_and]; rw [decide_eq_false (by omega), cond_false]; omega)
    have g3 : placeN 32 (24 + r) = 8 * 7 + r := placeN_is (by unfold placeF; simp only [Int.reduceLE, decide_true, decide_false, Bool.true_and, Bool.false_and]; rw [decide_eq_false (by omega), cond_false]; omega)
    rw [Nat.zero_add] at *
    exact ⟨⟨by unfold sameN; omega, by simpa using g0⟩, ⟨by unfold sameN; omega, g1⟩, ⟨by unfold sameN; omega, g2⟩, ⟨by unfold sameN; omega, g3⟩⟩
theorem tak_32 {x : Nat → Int} (hx : b8 x) : takX 32 [.int .u8 (x 0), .int .u8 (x 1), .int .u8 (x 2), .int .u8 (x 3), .int .u8 (x 4), .int .u8 (x 5), .int .u8 (x 6), .int .u8 (x 7), .int .u8 (x 8), .int .u8 (x 9), .int .u8 (x 10), .int .u8 (x 11), .int .u8 (x 12), .int .u8 (x 13), .int .u8 (x 14), .int .u8 (x 15)] [.int .u8 0, .int .u8 0, .int .u8 0, .int .u8 0] = [.int .u8 (x 4), .int .u8 (x 5), .int .u8 (x 6), .int .u8 (x 7)] := by
  unfold takX
  refine four (s0 := 4) (s1 := 5) (s2 := 6) (s3 := 7) (p0 := 0) (p1 := 1) (p2 := 2) (p3 := 3) (b8_16 hx) rfl (show 4 < 16 ∧ 5 < 16 ∧ 6 < 16 ∧ 7 < 16 by decide) (show 0 < 4 ∧ 1 < 4 ∧ 2 < 4 ∧ 3 < 4 by decide) ⟨rfl, rfl, rfl, rfl⟩ (by decide) fun r hr => ?_
  · rw [← Nat.zero_add r]
    have g0 : placeN 32 (0 + r) = 8 * 4 + r := placeN_is (by unfold placeF; simp only [Int.reduceLE, decide_true, decide_false, Bool.true_and, Bool.false_and]; rw [decide_eq_false (by omega), cond_false]; omega)
    have g1 : placeN 32 (8 + r) = 8 * 5 + r := placeN_is (by unfold placeF; simp only [Int.reduceLE, decide_true, decide_false, Bool.true_and, Bool.false_and]; rw [decide_eq_false (by omega), cond_false]; omega)
    have g2 : placeN 32 (16 + r) = 8 * 6 + r := placeN_is (by unfold placeF; simp only [Int.reduceLE, decide_true, decide_false, Bool.true_and, Bool.false_and]; rw [decide_eq_false (by omega), cond_false]; omega)
    have g3 : placeN 32 (24 + r) = 8 * 7 + r := placeN_is (by unfold placeF; simp only [Int.reduceLE, decide_true, decide_false, Bool.true_and, Bool.false_and]; rw [decide_eq_false (by omega), cond_false]; omega)
    rw [Nat.zero_add] at *
    exact ⟨⟨by simpa using g0, by unfold sameN; omega⟩, ⟨g1, by unfold sameN; omega⟩, ⟨g2, by unfold sameN; omega⟩, ⟨g3, by unfold sameN; omega⟩⟩
theorem lay_40 {x z : Nat → Int} (hx : b8 x) (hz : b8 z) (h : lowB [.int .u8 (x 0), .int .u8 (x 1), .int .u8 (x 2), .int .u8 (x 3), .int .u8 (x 4), .int .u8 (x 5), .int .u8 (x 6), .int .u8 (x 7), .int .u8 (x 8), .int .u8 (x 9), .int .u8 (x 10), .int .u8 (x 11), .int .u8 (x 12), .int .u8 (x 13), .int .u8 (x 14), .int .u8 (x 15)] 40 = true) : layX 40 [.int .u8 (z 0), .int .u8 (z 1), .int .u8 (z 2), .int .u8 (z 3)] [.int .u8 (x 0), .int .u8 (x 1), .int .u8 (x 2), .int .u8 (x 3), .int .u8 (x 4), .int .u8 (x 5), .int .u8 (x 6), .int .u8 (x 7), .int .u8 (x 8), .int .u8 (x 9), .int .u8 (x 10), .int .u8 (x 11), .int .u8 (x 12), .int .u8 (x 13), .int .u8 (x 14), .int .u8 (x 15)] = [.int .u8 (x 0), .int .u8 (x 1), .int .u8 (x 2), .int .u8 (x 3), .int .u8 (x 4), .int .u8 (z 0), .int .u8 (z 1), .int .u8 (z 2), .int .u8 (x 8), .int .u8 (z 3), .int .u8 (x 10), .int .u8 (x 11), .int .u8 (x 12), .int .u8 (x 13), .int .u8 (x 14), .int .u8 (x 15)] := by
  unfold layX
  have hl : ∀ k, 40 ≤ 8 * k → k < 16 → ([.int .u8 (x 0), .int .u8 (x 1), .int .u8 (x 2), .int .u8 (x 3), .int .u8 (x 4), .int .u8 (x 5), .int .u8 (x 6), .int .u8 (x 7), .int .u8 (x 8), .int .u8 (x 9), .int .u8 (x 10), .int .u8 (x 11), .int .u8 (x 12), .int .u8 (x 13), .int .u8 (x 14), .int .u8 (x 15)] : List AV).getD k .junk = .int .u8 0 := fun k h1 h2 => low_byte (b8_16 hx) h h1 h2
  refine four (s0 := 0) (s1 := 1) (s2 := 2) (s3 := 3) (p0 := 5) (p1 := 6) (p2 := 7) (p3 := 9) (b8_4 hz) (b8_16 hx) (show 0 < 4 ∧ 1 < 4 ∧ 2 < 4 ∧ 3 < 4 by decide) (show 5 < 16 ∧ 6 < 16 ∧ 7 < 16 ∧ 9 < 16 by decide) ⟨hl 5 (by decide) (by decide), hl 6 (by decide) (by decide), hl 7 (by decide) (by decide), hl 9 (by decide) (by decide)⟩ (by decide) fun r hr => ?_
  · rw [← Nat.zero_add r]
    have g0 : placeN 40 (0 + r) = 8 * 5 + r := placeN_is (by unfold placeF; simp only [Int.reduceLE, decide_true, decide_false, Bool.true_and, Bool.false_and]; rw [decide_eq_false (by omega), cond_false]; omega)
    have g1 : placeN 40 (8 + r) = 8 * 6 + r := placeN_is (by unfold placeF; simp only [Int.reduceLE, decide_true, decide_false, Bool.true_and, Bool.false_and]; rw [decide_eq_false (by omega), cond_false]; omega)
    have g2 : placeN 40 (16 + r) = 8 * 7 + r := placeN_is (by unfold placeF; simp only [Int.reduceLE, decide_true, decide_false, Bool.true_and, Bool.false_and]; rw [decide_eq_false (by omega), cond_false]; omega)
    have g3 : placeN 40 (24 + r) = 8 * 9 + r := placeN_is (by unfold placeF; simp only [Int.reduceLE, decide_true, decide_false, Bool.true_and, Bool.false_and]; rw [decide_eq_true (by omega), cond_true]; omega)
    rw [Nat.zero_add] at *
    exact ⟨⟨by unfold sameN; omega, by simpa using g0⟩, ⟨by unfold sameN; omega, g1⟩, ⟨by unfold sameN; omega, g2⟩, ⟨by unfold sameN; omega, g3⟩⟩
theorem tak_40 {x : Nat → Int} (hx : b8 x) : takX 40 [.int .u8 (x 0), .int .u8 (x 1), .int .u8 (x 2), .int .u8 (x 3), .int .u8 (x 4), .int .u8 (x 5), .int .u8 (x 6), .int .u8 (x 7), .int .u8 (x 8), .int .u8 (x 9), .int .u8 (x 10), .int .u8 (x 11), .int .u8 (x 12), .int .u8 (x 13), .int .u8 (x 14), .int .u8 (x 15)] [.int .u8 0, .int .u8 0, .int .u8 0, .int .u8 0] = [.int .u8 (x 5), .int .u8 (x 6), .int .u8 (x 7), .int .u8 (x 9)] := by
  unfold takX
  refine four (s0 := 5) (s1 := 6) (s2 := 7) (s3 := 9) (p0 := 0) (p1 := 1) (p2 := 2) (p3 := 3) (b8_16 hx) rfl (show 5 < 16 ∧ 6 < 16 ∧ 7 < 16 ∧ 9 < 16 by decide) (show 0 < 4 ∧ 1 < 4 ∧ 2 < 4 ∧ 3 < 4 by decide) ⟨rfl, rfl, rfl, rfl⟩ (by decide) fun r hr => ?_
  · rw [← Nat.zero_add r]
    have g0 : placeN 40 (0 + r) = 8 * 5 + r := placeN_is (by unfold placeF; simp only [Int.reduceLE, decide_true, decide_false, Bool.true_and, Bool.false_and]; rw [decide_eq_false (by omega), cond_false]; omega)
    have g1 : placeN 40 (8 + r) = 8 * 6 + r := placeN_is (by unfold placeF; simp only [Int.reduceLE, decide_true, decide_false, Bool.true_and, Bool.false_and]; rw [decide_eq_false (by omega), cond_false]; omega)
    have g2 : placeN 40 (16 + r) = 8 * 7 + r := placeN_is (by unfold placeF; simp only [Int.reduceLE, decide_true, decide_false, Bool.true_and, Bool.false_and]; rw [decide_eq_false (by omega), cond_false]; omega)
    have g3 : placeN 40 (24 + r) = 8 * 9 + r := placeN_is (by unfold placeF; simp only [Int.reduceLE, decide_true, decide_false, Bool.true_and, Bool.false_and]; rw [decide_eq_true (by omega), cond_true]; omega)
    rw [Nat.zero_add] at *
    exact ⟨⟨by simpa using g0, by unfold sameN; omega⟩, ⟨g1, by unfold sameN; omega⟩, ⟨g2, by unfold sameN; omega⟩, ⟨g3, by unfold sameN; omega⟩⟩
theorem lay_48 {x z : Nat → Int} (hx : b8 x) (hz : b8 z) (h : lowB [.int .u8 (x 0), .int .u8 (x 1), .int .u8 (x 2), .int .u8 (x 3), .int .u8 (x 4), .int .u8 (x 5), .int .u8 (x 6), .int .u8 (x 7), .int .u8 (x 8), .int .u8 (x 9), .int .u8 (x 10), .int .u8 (x 11), .int .u8 (x 12), .int .u8 (x 13), .int .u8 (x 14), .int .u8 (x 15)] 48 = true) : layX 48 [.int .u8 (z 0), .int .u8 (z 1), .int .u8 (z 2), .int .u8 (z 3)] [.int .u8 (x 0), .int .u8 (x 1), .int .u8 (x 2), .int .u8 (x 3), .int .u8 (x 4), .int .u8 (x 5), .int .u8 (x 6), .int .u8 (x 7), .int .u8 (x 8), .int .u8 (x 9), .int .u8 (x 10), .int .u8 (x 11), .int .u8 (x 12), .int .u8 (x 13), .int .u8 (x 14), .int .u8 (x 15)] = [.int .u8 (x 0), .int .u8 (x 1), .int .u8 (x 2), .int .u8 (x 3), .int .u8 (x 4), .int .u8 (x 5), .int .u8 (z 0), .int .u8 (z 1), .int .u8 (x 8), .int .u8 (z 2), .int .u8 (z 3), .int .u8 (x 11), .int .u8 (x 12), .int .u8 (x 13), .int .u8 (x 14), .int .u8 (x 15)] := by
  unfold layX
  have hl : ∀ k, 48 ≤ 8 * k → k < 16 → ([.int .u8 (x 0), .int .u8 (x 1), .int .u8 (x 2), .int .u8 (x 3), .int .u8 (x 4), .int .u8 (x 5), .int .u8 (x 6), .int .u8 (x 7), .int .u8 (x 8), .int .u8 (x 9), .int .u8 (x 10), .int .u8 (x 11), .int .u8 (x 12), .int .u8 (x 13), .int .u8 (x 14), .int .u8 (x 15)] : List AV).getD k .junk = .int .u8 0 := fun k h1 h2 => low_byte (b8_16 hx) h h1 h2
  refine four (s0 := 0) (s1 := 1) (s2 := 2) (s3 := 3) (p0 := 6) (p1 := 7) (p2 := 9) (p3 := 10) (b8_4 hz) (b8_16 hx) (show 0 < 4 ∧ 1 < 4 ∧ 2 < 4 ∧ 3 < 4 by decide) (show 6 < 16 ∧ 7 < 16 ∧ 9 < 16 ∧ 10 < 16 by decide) ⟨hl 6 (by decide) (by decide), hl 7 (by decide) (by decide), hl 9 (by decide) (by decide), hl 10 (by decide) (by decide)⟩ (by decide) fun r hr => ?_
  · rw [← Nat.zero_add r]
    have g0 : placeN 48 (0 + r) = 8 * 6 + r := placeN_is (by unfold placeF; simp only [Int.reduceLE, decide_true, decide_false, Bool.true_and, Bool.false_and]; rw [decide_eq_false (by omega), cond_false]; omega)
    have g1 : placeN 48 (8 + r) = 8 * 7 + r := placeN_is (by unfold placeF; simp only [Int.reduceLE, decide_true, decide_false, Bool.true_and, Bool.false_and]; rw [decide_eq_false (by omega), cond_false]; omega)
    have g2 : placeN 48 (16 + r) = 8 * 9 + r := placeN_is (by unfold placeF; simp only [Int.reduceLE, decide_true, decide_false, Bool.true_and, Bool.false_and]; rw [decide_eq_true (by omega), cond_true]; omega)
    have g3 : placeN 48 (24 + r) = 8 * 10 + r := placeN_is (by unfold placeF; simp only [Int.reduceLE, decide_true, decide_false, Bool.true_and, Bool.false_and]; rw [decide_eq_true (by omega), cond_true]; omega)
    rw [Nat.zero_add] at *
    exact ⟨⟨by unfold sameN; omega, by simpa using g0⟩, ⟨by unfold sameN; omega, g1⟩, ⟨by unfold sameN; omega, g2⟩, ⟨by unfold sameN; omega, g3⟩⟩
theorem tak_48 {x : Nat → Int} (hx : b8 x) : takX 48 [.int .u8 (x 0), .int .u8 (x 1), .int .u8 (x 2), .int .u8 (x 3), .int .u8 (x 4), .int .u8 (x 5), .int .u8 (x 6), .int .u8 (x 7), .int .u8 (x 8), .int .u8 (x 9), .int .u8 (x 10), .int .u8 (x 11), .int .u8 (x 12), .int .u8 (x 13), .int .u8 (x 14), .int .u8 (x 15)] [.int .u8 0, .int .u8 0, .int .u8 0, .int .u8 0] = [.int .u8 (x 6), .int .u8 (x 7), .int .u8 (x 9), .int .u8 (x 10)] := by
  unfold takX
  refine four (s0 := 6) (s1 := 7) (s2 := 9) (s3 := 10) (p0 := 0) (p1 := 1) (p2 := 2) (p3 := 3) (b8_16 hx) rfl (show 6 < 16 ∧ 7 < 16 ∧ 9 < 16 ∧ 10 < 16 by decide) (show 0 < 4 ∧ 1 < 4 ∧ 2 < 4 ∧ 3 < 4 by decide) ⟨rfl, rfl, rfl, rfl⟩ (by decide) fun r hr => ?_
  · rw [← Nat.zero_add r]
    have g0 : placeN 48 (0 + r) = 8 * 6 + r := placeN_is (by unfold placeF; simp only [Int.reduceLE, decide_true, decide_false, Bool.true_and, Bool.false_and]; rw [decide_eq_false (by omega), cond_false]; omega)
    have g1 : placeN 48 (8 + r) = 8 * 7 + r := placeN_is (by unfold placeF; simp only [Int.reduceLE, decide_true, decide_false, Bool.true_and, Bool.false_and]; rw [decide_eq_false (by omega), cond_false]; omega)
    have g2 : placeN 48 (16 + r) = 8 * 9 + r := placeN_is (by unfold placeF; simp only [Int.reduceLE, decide_true, decide_false, Bool.true_and, Bool.false_and]; rw [decide_eq_true (by omega), cond_true]; omega)
    have g3 : placeN 48 (24 + r) = 8 * 10 + r := placeN_is (by unfold placeF; simp only [Int.reduceLE, decide_true, decide_false, Bool.true_and, Bool.false_and]; rw [decide_eq_true (by omega), cond_true]; omega)
    rw [Nat.zero_add] at *
    exact ⟨⟨by simpa using g0, by unfold sameN; omega⟩, ⟨g1, by unfold sameN; omega⟩, ⟨g2, by unfold sameN; omega⟩, ⟨g3, by unfold sameN; omega⟩⟩
theorem lay_56 {x z : Nat → Int} (hx : b8 x) (hz : b8 z) (h : lowB [.int .u8 (x 0), .int .u8 (x 1), .int .u8 (x 2), .int .u8 (x 3), .int .u8 (x 4), .int .u8 (x 5), .int .u8 (x 6), .int .u8 (x 7), .int .u8 (x 8), .int .u8 (x 9), .int .u8 (x 10), .int .u8 (x 11), .int .u8 (x 12), .int .u8 (x 13), .int .u8 (x 14), .int .u8 (x 15)] 56 = true) : layX 56 [.int .u8 (z 0), .int .u8 (z 1), .int .u8 (z 2), .int .u8 (z 3)] [.int .u8 (x 0), .int .u8 (x 1), .int .u8 (x 2), .int .u8 (x 3), .int .u8 (x 4), .int .u8 (x 5), .int .u8 (x 6), .int .u8 (x 7), .int .u8 (x 8), .int .u8 (x 9), .int .u8 (x 10), .int .u8 (x 11), .int .u8 (x 12), .int .u8 (x 13), .int .u8 (x 14), .int .u8 (x 15)] = [.int .u8 (x 0), .int .u8 (x 1), .int .u8 (x 2), .int .u8 (x 3), .int .u8 (x 4), .int .u8 (x 5), .int .u8 (x 6), .int .u8 (z 0), .int .u8 (x 8), .int .u8 (z 1), .int .u8 (z 2), .int .u8 (z 3), .int .u8 (x 12), .int .u8 (x 13), .int .u8 (x 14), .int .u8 (x 15)] := by
  unfold layX
  have hl : ∀ k, 56 ≤ 8 * k → k < 16 → ([.int .u8 (x 0), .int .u8 (x 1), .int .u8 (x 2), .int .u8 (x 3), .int .u8 (x 4), .int .u8 (x 5), .int .u8 (x 6), .int .u8 (x 7), .int .u8 (x 8), .int .u8 (x 9), .int .u8 (x 10), .int .u8 (x 11), .int .u8 (x 12), .int .u8 (x 13), .int .u8 (x 14), .int .u8 (x 15)] : List AV).getD k .junk = .int .u8 0 := fun k h1 h2 => low_byte (b8_16 hx) h h1 h2
  refine four (s0 := 0) (s1 := 1) (s2 := 2) (s3 := 3) (p0 := 7) (p1 := 9) (p2 := 10) (p3 := 11) (b8_4 hz) (b8_16 hx) (show 0 < 4 ∧ 1 < 4 ∧ 2 < 4 ∧ 3 < 4 by decide) (show 7 < 16 ∧ 9 < 16 ∧ 10 < 16 ∧ 11 < 16 by decide) ⟨hl 7 (by decide) (by decide), hl 9 (by decide) (by decide), hl 10 (by decide) (by decide), hl 11 (by decide) (by decide)⟩ (by decide) fun r hr => ?_
  · rw [← Nat.zero_add r]
    have g0 : placeN 56 (0 + r) = 8 * 7 + r := placeN_is (by unfold placeF; simp only [Int.reduceLE, decide_true, decide_false, Bool.true_and, Bool.false_and]; rw [decide_eq_false (by omega), cond_false]; omega)
    have g1 : placeN 56 (8 + r) = 8 * 9 + r := placeN_is (by unfold placeF; simp only [Int.reduceLE, decide_true, decide_false, Bool.true_and, Bool.false_and]; rw [decide_eq_true (by omega), cond_true]; omega)
    have g2 : placeN 56 (16 + r) = 8 * 10 + r := placeN_is (by unfold placeF; simp only [Int.reduceLE, decide_true, decide_false, Bool.true_and, Bool.false_and]; rw [decide_eq_true (by omega), cond_true]; omega)
    have g3 : placeN 56 (24 + r) = 8 * 11 + r := placeN_is (by unfold placeF; simp only [Int.reduceLE, decide_true, decide_false, Bool.true_and, Bool.false_and]; rw [decide_eq_true (by omega), cond_true]; omega)
    rw [Nat.zero_add] at *
    exact ⟨⟨by unfold sameN; omega, by simpa using g0⟩, ⟨by unfold sameN; omega, g1⟩, ⟨by unfold sameN; omega, g2⟩, ⟨by unfold sameN; omega, g3⟩⟩
theorem tak_56 {x : Nat → Int} (hx : b8 x) : takX 56 [.int .u8 (x 0), .int .u8 (x 1), .int .u8 (x 2), .int .u8 (x 3), .int .u8 (x 4), .int .u8 (x 5), .int .u8 (x 6), .int .u8 (x 7), .int .u8 (x 8), .int .u8 (x 9), .int .u8 (x 10), .int .u8 (x 11), .int .u8 (x 12), .int .u8 (x 13), .int .u8 (x 14), .int .u8 (x 15)] [.int .u8 0, .int .u8 0, .int .u8 0, .int .u8 0] = [.int .u8 (x 7), .int .u8 (x 9), .int .u8 (x 10), .int .u8 (x 11)] := by
  unfold takX
  refine four (s0 := 7) (s1 := 9) (s2 := 10) (s3 := 11) (p0 := 0) (p1 := 1) (p2 := 2) (p3 := 3) (b8_16 hx) rfl (show 7 < 16 ∧ 9 < 16 ∧ 10 < 16 ∧ 11 < 16 by decide) (show 0 < 4 ∧ 1 < 4 ∧ 2 < 4 ∧ 3 < 4 by decide) ⟨rfl, rfl, rfl, rfl⟩ (by decide) fun r hr => ?_
  · rw [← Nat.zero_add r]
    have g0 : placeN 56 (0 + r) = 8 * 7 + r := placeN_is (by unfold placeF; simp only [Int.reduceLE, decide_true, decide_false, Bool.true_and, Bool.false_and]; rw [decide_eq_false (by omega), cond_false]; omega)
    have g1 : placeN 56 (8 + r) = 8 * 9 + r := placeN_is (by unfold placeF; simp only [Int.reduceLE, decide_true, decide_false, Bool.true_and, Bool.false_and]; rw [decide_eq_true (by omega), cond_true]; omega)
    have g2 : placeN 56 (16 + r) = 8 * 10 + r := placeN_is (by unfold placeF; simp only [Int.reduceLE, decide_true, decide_false, Bool.true_and, Bool.false_and]; rw [decide_eq_true (by omega), cond_true]; omega)
    have g3 : placeN 56 (24 + r) = 8 * 11 + r := placeN_is (by unfold placeF; simp only [Int.reduceLE, decide_true, decide_false, Bool.true_and, Bool.false_and]; rw [decide_eq_true (by omega), cond_true]; omega)
    rw [Nat.zero_add] at *
    exact ⟨⟨by simpa using g0, by unfold sameN; omega⟩, ⟨g1, by unfold sameN; omega⟩, ⟨g2, by unfold sameN; omega⟩, ⟨g3, by unfold sameN; omega⟩⟩
theorem lay_64 {x z : Nat → Int} (hx : b8 x) (hz : b8 z) (h : lowB [.int .u8 (x 0), .int .u8 (x 1), .int .u8 (x 2), .int .u8 (x 3), .int .u8 (x 4), .int .u8 (x 5), .int .u8 (x 6), .int .u8 (x 7), .int .u8 (x 8), .int .u8 (x 9), .int .u8 (x 10), .int .u8 (x 11), .int .u8 (x 12), .int .u8 (x 13), .int .u8 (x 14), .int .u8 (x 15)] 64 = true) : layX 64 [.int .u8 (z 0), .int .u8 (z 1), .int .u8 (z 2), .int .u8 (z 3)] [.int .u8 (x 0), .int .u8 (x 1), .int .u8 (x 2), .int .u8 (x 3), .int .u8 (x 4), .int .u8 (x 5), .int .u8 (x 6), .int .u8 (x 7), .int .u8 (x 8), .int .u8 (x 9), .int .u8 (x 10), .int .u8 (x 11), .int .u8 (x 12), .int .u8 (x 13), .int .u8 (x 14), .int .u8 (x 15)] = [.int .u8 (x 0), .int .u8 (x 1), .int .u8 (x 2), .int .u8 (x 3), .int .u8 (x 4), .int .u8 (x 5), .int .u8 (x 6), .int .u8 (x 7), .int .u8 (x 8), .int .u8 (z 0), .int .u8 (z 1), .int .u8 (z 2), .int .u8 (z 3), .int .u8 (x 13), .int .u8 (x 14), .int .u8 (x 15)] := by
  unfold layX
  have hl : ∀ k, 64 ≤ 8 * k → k < 16 → ([.int .u8 (x 0), .int .u8 (x 1), .int .u8 (x 2), .int .u8 (x 3), .int .u8 (x 4), .int .u8 (x 5), .int .u8 (x 6), .int .u8 (x 7), .int .u8 (x 8), .int .u8 (x 9), .int .u8 (x 10), .int .u8 (x 11), .int .u8 (x 12), .int .u8 (x 13), .int .u8 (x 14), .int .u8 (x 15)] : List AV).getD k .junk = .int .u8 0 := fun k h1 h2 => low_byte (b8_16 hx) h h1 h2
  refine four (s0 := 0) (s1 := 1) (s2 := 2) (s3 := 3) (p0 := 9) (p1 := 10) (p2 := 11) (p3 := 12) (b8_4 hz) (b8_16 hx) (show 0 < 4 ∧ 1 < 4 ∧ 2 < 4 ∧ 3 < 4 by decide) (show 9 < 16 ∧ 10 < 16 ∧ 11 < 16 ∧ 12 < 16 by decide) ⟨hl 9 (by decide) (by decide), hl 10 (by decide) (by decide), hl 11 (by decide) (by decide), hl 12 (by decide) (by decide)⟩ (by decide) fun r hr => ?_
  · rw [← Nat.zero_add r]
    have g0 : placeN 64 (0 + r) = 8 * 9 + r := placeN_is (by unfold placeF; simp only [Int.reduceLE, decide_true, decide_false, Bool.true_and, Bool.false_and]; rw [decide_eq_true (by omega), cond_true]; omega)
    have g1 : placeN 64 (8 + r) = 8 * 10 + r := placeN_is (by unfold placeF; simp only [Int.reduceLE, decide_true, decide_false, Bool.true_and, Bool.false_and]; rw [decide_eq_true (by omega), cond_true]; omega)
    have g2 : placeN 64 (16 + r) = 8 * 11 + r := placeN_is (by unfold placeF; simp only [Int.reduceLE, decide_true, decide_false, Bool.true_and, Bool.false_and]; rw [decide_eq_true (by omega), cond_true]; omega)
    have g3 : placeN 64 (24 + r) = 8 * 12 + r := placeN_is (by unfold placeF; simp only [Int.reduceLE, decide_true, decide_false, Bool.true_and, Bool.false_and]; rw [decide_eq_true (by omega), cond_true]; omega)
    rw [Nat.zero_add] at *
    exact ⟨⟨by unfold sameN; omega, by simpa using g0⟩, ⟨by unfold sameN; omega, g1⟩, ⟨by unfold sameN; omega, g2⟩, ⟨by unfold sameN; omega, g3⟩⟩
theorem tak_64 {x : Nat → Int} (hx : b8 x) : takX 64 [.int .u8 (x 0), .int .u8 (x 1), .int .u8 (x 2), .int .u8 (x 3), .int .u8 (x 4), .int .u8 (x 5), .int .u8 (x 6), .int .u8 (x 7), .int .u8 (x 8), .int .u8 (x 9), .int .u8 (x 10), .int .u8 (x 11), .int .u8 (x 12), .int .u8 (x 13), .int .u8 (x 14), .int .u8 (x 15)] [.int .u8 0, .int .u8 0, .int .u8 0, .int .u8 0] = [.int .u8 (x 9), .int .u8 (x 10), .int .u8 (x 11), .int .u8 (x 12)] := by
  unfold takX
  refine four (s0 := 9) (s1 := 10) (s2 := 11) (s3 := 12) (p0 := 0) (p1 := 1) (p2 := 2) (p3 := 3) (b8_16 hx) rfl (show 9 < 16 ∧ 10 < 16 ∧ 11 < 16 ∧ 12 < 16 by decide) (show 0 < 4 ∧ 1 < 4 ∧ 2 < 4 ∧ 3 < 4 by decide) ⟨rfl, rfl, rfl, rfl⟩ (by decide) fun r hr => ?_
  · rw [← Nat.zero_add r]
    have g0 : placeN 64 (0 + r) = 8 * 9 + r := placeN_is (by unfold placeF; simp only [Int.reduceLE, decide_true, decide_false, Bool.true_and, Bool.false_and]; rw [decide_eq_true (by omega), cond_true]; omega)
    have g1 : placeN 64 (8 + r) = 8 * 10 + r := placeN_is (by unfold placeF; simp only [Int.reduceLE, decide_true, decide_false, Bool.true_and, Bool.false_and]; rw [decide_eq_true (by omega), cond_true]; omega)
    have g2 : placeN 64 (16 + r) = 8 * 11 + r := placeN_is (by unfold placeF; simp only [Int.reduceLE, decide_true, decide_false, Bool.true_and, Bool.false_and]; rw [decide_eq_true (by omega), cond_true]; omega)
    have g3 : placeN 64 (24 + r) = 8 * 12 + r := placeN_is (by unfold placeF; simp only [Int.reduceLE, decide_true, decide_false, Bool.true_and, Bool.false_and]; rw [decide_eq_true (by omega), cond_true]; omega)
    rw [Nat.zero_add] at *
    exact ⟨⟨by simpa using g0, by unfold sameN; omega⟩, ⟨g1, by unfold sameN; omega⟩, ⟨g2, by unfold sameN; omega⟩, ⟨g3, by unfold sameN; omega⟩⟩
theorem lay_96 {x z : Nat → Int} (hx : b8 x) (hz : b8 z) (h : lowB [.int .u8 (x 0), .int .u8 (x 1), .int .u8 (x 2), .int .u8 (x 3), .int .u8 (x 4), .int .u8 (x 5), .int .u8 (x 6), .int .u8 (x 7), .int .u8 (x 8), .int .u8 (x 9), .int .u8 (x 10), .int .u8 (x 11), .int .u8 (x 12), .int .u8 (x 13), .int .u8 (x 14), .int .u8 (x 15)] 96 = true) : layX 96 [.int .u8 (z 0), .int .u8 (z 1), .int .u8 (z 2), .int .u8 (z 3)] [.int .u8 (x 0), .int .u8 (x 1), .int .u8 (x 2), .int .u8 (x 3), .int .u8 (x 4), .int .u8 (x 5), .int .u8 (x 6), .int .u8 (x 7), .int .u8 (x 8), .int .u8 (x 9), .int .u8 (x 10), .int .u8 (x 11), .int .u8 (x 12), .int .u8 (x 13), .int .u8 (x 14), .int .u8 (x 15)] = [.int .u8 (x 0), .int .u8 (x 1), .int .u8 (x 2), .int .u8 (x 3), .int .u8 (x 4), .int .u8 (x 5), .int .u8 (x 6), .int .u8 (x 7), .int .u8 (x 8), .int .u8 (x 9), .int .u8 (x 10), .int .u8 (x 11), .int .u8 (z 0), .int .u8 (z 1), .int .u8 (z 2), .int .u8 (z 3)] := by
  unfold layX
  have hl : ∀ k, 96 ≤ 8 * k → k < 16 → ([.int .u8 (x 0), .int .u8 (x 1), .int .u8 (x 2), .int .u8 (x 3), .int .u8 (x 4), .int .u8 (x 5), .int .u8 (x 6), .int .u8 (x 7), .int .u8 (x 8), .int .u8 (x 9), .int .u8 (x 10), .int .u8 (x 11), .int .u8 (x 12), .int .u8 (x 13), .int .u8 (x 14), .int .u8 (x 15)] : List AV).getD k .junk = .int .u8 0 := fun k h1 h2 => low_byte (b8_16 hx) h h1 h2
  refine four (s0 := 0) (s1 := 1) (s2 := 2) (s3 := 3) (p0 := 12) (p1 := 13) (p2 := 14) (p3 := 15) (b8_4 hz) (b8_16 hx) (show 0 < 4 ∧ 1 < 4 ∧ 2 < 4 ∧ 3 < 4 by decide) (show 12 < 16 ∧ 13 < 16 ∧ 14 < 16 ∧ 15 < 16 by decide) ⟨hl 12 (by decide) (by decide), hl 13 (by decide) (by decide), hl 14 (by decide) (by decide), hl 15 (by decide) (by decide)⟩ (by decide) fun r hr => ?_
  · rw [← Nat.zero_add r]
    have g0 : placeN 96 (0 + r) = 8 * 12 + r := placeN_is (by unfold placeF; simp only [Int.reduceLE, decide_true, decide_false, Bool.true_and, Bool.false_and]; rw [cond_false]; omega)
    have g1 : placeN 96 (8 + r) = 8 * 13 + r := placeN_is (by unfold placeF; simp only [Int.reduceLE, decide_true, decide_false, Bool.true_and, Bool.false_and]; rw [cond_false]; omega)
    have g2 : placeN 96 (16 + r) = 8 * 14 + r := placeN_is (by unfold placeF; simp only [Int.reduceLE, decide_true, decide_false, Bool.true_and, Bool.false_and]; rw [cond_false]; omega)
    have g3 : placeN 96 (24 + r) = 8 * 15 + r := placeN_is (by unfold placeF; simp only [Int.reduceLE, decide_true, decide_false, Bool.true_and, Bool.false_and]; rw [cond_false]; omega)
    rw [Nat.zero_add] at *
    exact ⟨⟨by unfold sameN; omega, by simpa using g0⟩, ⟨by unfold sameN; omega, g1⟩, ⟨by unfold sameN; omega, g2⟩, ⟨by unfold sameN; omega, g3⟩⟩
theorem tak_96 {x : Nat → Int} (hx : b8 x) : takX 96 [.int .u8 (x 0), .int .u8 (x 1), .int .u8 (x 2), .int .u8 (x 3), .int .u8 (x 4), .int .u8 (x 5), .int .u8 (x 6), .int .u8 (x 7), .int .u8 (x 8), .int .u8 (x 9), .int .u8 (x 10), .int .u8 (x 11), .int .u8 (x 12), .int .u8 (x 13), .int .u8 (x 14), .int .u8 (x 15)] [.int .u8 0, .int .u8 0, .int .u8 0, .int .u8 0] = [.int .u8 (x 12), .int .u8 (x 13), .int .u8 (x 14), .int .u8 (x 15)] := by
  unfold takX
  refine four (s0 := 12) (s1 := 13) (s2 := 14) (s3 := 15) (p0 := 0) (p1 := 1) (p2 := 2) (p3 := 3) (b8_16 hx) rfl (show 12 < 16 ∧ 13 < 16 ∧ 14 < 16 ∧ 15 < 16 by decide) (show 0 < 4 ∧ 1 < 4 ∧ 2 < 4 ∧ 3 < 4 by decide) ⟨rfl, rfl, rfl, rfl⟩ (by decide) fun r hr => ?_
  · rw [← Nat.zero_add r]
    have g0 : placeN 96 (0 + r) = 8 * 12 + r := placeN_is (by unfold placeF; simp only [Int.reduceLE, decide_true, decide_false, Bool.true_and, Bool.false_and]; rw [cond_false]; omega)
    have g1 : placeN 96 (8 + r) = 8 * 13 + r := placeN_is (by unfold placeF; simp only [Int.reduceLE, decide_true, decide_false, Bool.true_and, Bool.false_and]; rw [cond_false]; omega)
    have g2 : placeN 96 (16 + r) = 8 * 14 + r := placeN_is (by unfold placeF; simp only [Int.reduceLE, decide_true, decide_false, Bool.true_and, Bool.false_and]; rw [cond_false]; omega)
    have g3 : placeN 96 (24 + r) = 8 * 15 + r := placeN_is (by unfold placeF; simp only [Int.reduceLE, decide_true, decide_false, Bool.true_and, Bool.false_and]; rw [cond_false]; omega)
    rw [Nat.zero_add] at *
    exact ⟨⟨by simpa using g0, by unfold sameN; omega⟩, ⟨g1, by unfold sameN; omega⟩, ⟨g2, by unfold sameN; omega⟩, ⟨g3, by unfold sameN; omega⟩⟩

def z4 : List AV := [.int .u8 0, .int .u8 0, .int .u8 0, .int .u8 0]
def z16 : List AV := [.int .u8 0, .int .u8 0, .int .u8 0, .int .u8 0, .int .u8 0, .int .u8 0, .int .u8 0, .int .u8 0, .int .u8 0, .int .u8 0, .int .u8 0, .int .u8 0, .int .u8 0, .int .u8 0, .int .u8 0, .int .u8 0]
def putW (n : Int) (xs zs : List AV) : List AV := bif embE xs n == 0 then layX n zs xs else z16
def getEr (n : Int) (xs ys : List AV) : Int := bif embE xs n == 0 then (bif inB 128 xs ys n then (bif byteAt ys 8 != 0 then 81 else 0) else 82) else embE xs n
def getW (n : Int) (xs ys : List AV) : List AV := bif getEr n xs ys == 0 then takX n ys z4 else z4
def strE (n : Int) (xs ys : List AV) : Int := bif getEr n xs ys == 0 then (bif lowB ys (placeN n 31 + 1) then 0 else 21) else getEr n xs ys
def strW (n : Int) (xs ys : List AV) : List AV := bif strE n xs ys == 0 then takX n ys z4 else z4
theorem hasU4 {xs : List AV} (hu : intsB .u8 xs = true) (hl : xs.length = 4) : (Sh.agg [.int .u8, .int .u8, .int .u8, .int .u8]).has (.agg xs) = true := by
  rw [bytes4 hu hl]
  have hin := fun k => byteAt_in hu k
  simp only [has_agg, hasL_cons, hasL_nil, has_int, List.getD_cons_zero, List.getD_cons_succ, List.length_cons, List.length_nil, beq_self_eq_true, hin, Bool.and_self]
theorem hasU16 {xs : List AV} (hu : intsB .u8 xs = true) (hl : xs.length = 16) : (Sh.agg [.int .u8, .int .u8, .int .u8, .int .u8, .int .u8, .int .u8, .int .u8, .int .u8, .int .u8, .int .u8, .int .u8, .int .u8, .int .u8, .int .u8, .int .u8, .int .u8]).has (.agg xs) = true := by
  rw [bytes16 hu hl]
  have hin := fun k => byteAt_in hu k
  simp only [has_agg, hasL_cons, hasL_nil, has_int, List.getD_cons_zero, List.getD_cons_succ, List.length_cons, List.length_nil, beq_self_eq_true, hin, Bool.and_self]
theorem layX_ok {n : Int} {zs xs : List AV} (h : intsB .u8 xs = true) (hl : xs.length = 16) : intsB .u8 (layX n zs xs) = true ∧ (layX n zs xs).length = 16 := by
  obtain ⟨h1, h2⟩ := orFs zs sameN (placeN n) 32 0 xs h
  exact ⟨h1, by unfold layX; rw [h2, hl]⟩
theorem takX_ok (n : Int) (ys : List AV) : intsB .u8 (takX n ys z4) = true ∧ (takX n ys z4).length = 4 := by
  obtain ⟨h1, h2⟩ := orFs ys (placeN n) sameN 32 0 z4 rfl
  exact ⟨h1, h2⟩
theorem putW_ok {n : Int} {zs xs : List AV} (h : intsB .u8 xs = true) (hl : xs.length = 16) : intsB .u8 (putW n xs zs) = true ∧ (putW n xs zs).length = 16 := by
  unfold putW
  cases embE xs n == 0
  · exact ⟨rfl, rfl⟩
  · exact layX_ok h hl
theorem getEr_or (n : Int) (xs ys : List AV) : (getEr n xs ys = 0 ∧ embE xs n = 0 ∧ inB 128 xs ys n = true ∧ byteAt ys 8 = 0) ∨ getEr n xs ys = 22 ∨ getEr n xs ys = 80 ∨ getEr n xs ys = 81 ∨ getEr n xs ys = 82 := by
  unfold getEr
  rcases embE_or xs n with ⟨h, _⟩ | h | h | h
  · rw [h]
    cases inB 128 xs ys n
    · exact .inr (.inr (.inr (.inr rfl)))
    · cases hb : (byteAt ys 8 != 0)
      · exact .inl ⟨rfl, rfl, rfl, by simpa using hb⟩
      · exact .inr (.inr (.inr (.inl rfl)))
  · rw [h]; exact .inr (.inl rfl)
  · rw [h]; exact .inr (.inr (.inl rfl))
  · rw [h]; exact .inr (.inr (.inr (.inl rfl)))
theorem getEr_in (n : Int) (xs ys : List AV) : inK .i64 (getEr n xs ys) = true := by
  rcases getEr_or n xs ys with ⟨h, _⟩ | h | h | h | h <;> rw [h] <;> rfl
theorem getW_ok (n : Int) (xs ys : List AV) : intsB .u8 (getW n xs ys) = true ∧ (getW n xs ys).length = 4 := by
  unfold getW
  cases getEr n xs ys == 0
  · exact ⟨rfl, rfl⟩
  · exact takX_ok n ys
theorem strE_or (n : Int) (xs ys : List AV) : (strE n xs ys = 0 ∧ getEr n xs ys = 0 ∧ lowB ys (placeN n 31 + 1) = true) ∨ strE n xs ys = 21 ∨ (strE n xs ys = getEr n xs ys ∧ getEr n xs ys ≠ 0) := by
  unfold strE
  cases h : getEr n xs ys == 0
  · exact .inr (.inr ⟨rfl, by simpa using h⟩)
  · cases hb : lowB ys (placeN n 31 + 1)
    · exact .inr (.inl rfl)
    · exact .inl ⟨rfl, by simpa using h, rfl⟩
theorem strE_in (n : Int) (xs ys : List AV) : inK .i64 (strE n xs ys) = true := by
  rcases strE_or n xs ys with ⟨h, _⟩ | h | ⟨h, _⟩
  · rw [h]; rfl
  · rw [h]; rfl
  · rw [h]; exact getEr_in _ _ _
theorem strW_ok (n : Int) (xs ys : List AV) : intsB .u8 (strW n xs ys) = true ∧ (strW n xs ys).length = 4 := by
  unfold strW
  cases strE n xs ys == 0
  · exact ⟨rfl, rfl⟩
  · exact takX_ok n ys

def a6T (xs : List AV) : Prop := seqP [intT .u8, intT .u8, intT .u8, intT .u8, intT .u8, intT .u8, intT .u8, intT .u8, intT .u8, intT .u8, intT .u8, intT .u8, intT .u8, intT .u8, intT .u8, intT .u8] xs
def p6T (xs : List AV) : Prop := seqP [a6T, intT .i64] xs
theorem p6Arg {E : Env} {f t : Nat} {x : AV} (h : argV E f t x) (hT : ∀ xs, argT E f t xs = p6T xs) (ha : aggT E t = true) : ∃ (b : Nat → Int) (n : Int), b8 b ∧ inK .i64 n = true ∧ x = .agg [.int .u8 (b 0), .int .u8 (b 1), .int .u8 (b 2), .int .u8 (b 3), .int .u8 (b 4), .int .u8 (b 5), .int .u8 (b 6), .int .u8 (b 7), .int .u8 (b 8), .int .u8 (b 9), .int .u8 (b 10), .int .u8 (b 11), .int .u8 (b 12), .int .u8 (b 13), .int .u8 (b 14), .int .u8 (b 15), .int .i64 n] := by
  obtain ⟨zs, rfl, hq⟩ := aggArg h hT ha
  obtain ⟨_, _, rfl, hq, _, _, rfl, ⟨n, rfl, qn⟩, rfl⟩ := hq
  obtain ⟨_, z0, rfl, ⟨c0, rfl, q0⟩, hq⟩ := hq
  obtain ⟨_, z1, rfl, ⟨c1, rfl, q1⟩, hq⟩ := hq
  obtain ⟨_, z2, rfl, ⟨c2, rfl, q2⟩, hq⟩ := hq
  obtain ⟨_, z3, rfl, ⟨c3, rfl, q3⟩, hq⟩ := hq
  obtain ⟨_, z4, rfl, ⟨c4, rfl, q4⟩, hq⟩ := hq
  obtain ⟨_, z5, rfl, ⟨c5, rfl, q5⟩, hq⟩ := hq
  obtain ⟨_, z6, rfl, ⟨c6, rfl, q6⟩, hq⟩ := hq
  obtain ⟨_, z7, rfl, ⟨c7, rfl, q7⟩, hq⟩ := hq
  obtain ⟨_, z8, rfl, ⟨c8, rfl, q8⟩, hq⟩ := hq
  obtain ⟨_, z9, rfl, ⟨c9, rfl, q9⟩, hq⟩ := hq
  obtain ⟨_, z10, rfl, ⟨c10, rfl, q10⟩, hq⟩ := hq
  obtain ⟨_, z11, rfl, ⟨c11, rfl, q11⟩, hq⟩ := hq
  obtain ⟨_, z12, rfl, ⟨c12, rfl, q12⟩, hq⟩ := hq
  obtain ⟨_, z13, rfl, ⟨c13, rfl, q13⟩, hq⟩ := hq
  obtain ⟨_, z14, rfl, ⟨c14, rfl, q14⟩, hq⟩ := hq
  obtain ⟨_, z15, rfl, ⟨c15, rfl, q15⟩, rfl⟩ := hq
  refine ⟨fun k => [c0, c1, c2, c3, c4, c5, c6, c7, c8, c9, c10, c11, c12, c13, c14, c15].getD k 0, n, ?_, inK_of qn, rfl⟩
  intro i
  have r0 := rng_u8 q0
  have r1 := rng_u8 q1
  have r2 := rng_u8 q2
  have r3 := rng_u8 q3
  have r4 := rng_u8 q4
  have r5 := rng_u8 q5
  have r6 := rng_u8 q6
  have r7 := rng_u8 q7
  have r8 := rng_u8 q8
  have r9 := rng_u8 q9
  have r10 := rng_u8 q10
  have r11 := rng_u8 q11
  have r12 := rng_u8 q12
  have r13 := rng_u8 q13
  have r14 := rng_u8 q14
  have r15 := rng_u8 q15
  match i with
  | 0 => exact r0
  | 1 => exact r1
  | 2 => exact r2
  | 3 => exact r3
  | 4 => exact r4
  | 5 => exact r5
  | 6 => exact r6
  | 7 => exact r7
  | 8 => exact r8
  | 9 => exact r9
  | 10 => exact r10
  | 11 => exact r11
  | 12 => exact r12
  | 13 => exact r13
  | 14 => exact r14
  | 15 => exact r15
  | i + 16 => exact ⟨by show (0 : Int) ≤ 0; omega, by show (0 : Int) ≤ 255; omega⟩

theorem a6Arg {E : Env} {f t : Nat} {x : AV} (h : argV E f t x) (hT : ∀ xs, argT E f t xs = a6T xs) (ha : aggT E t = true) : ∃ (b : Nat → Int), b8 b ∧ x = .agg [.int .u8 (b 0), .int .u8 (b 1), .int .u8 (b 2), .int .u8 (b 3), .int .u8 (b 4), .int .u8 (b 5), .int .u8 (b 6), .int .u8 (b 7), .int .u8 (b 8), .int .u8 (b 9), .int .u8 (b 10), .int .u8 (b 11), .int .u8 (b 12), .int .u8 (b 13), .int .u8 (b 14), .int .u8 (b 15)] := by
  obtain ⟨zs, rfl, hq⟩ := aggArg h hT ha
  obtain ⟨_, z0, rfl, ⟨c0, rfl, q0⟩, hq⟩ := hq
  obtain ⟨_, z1, rfl, ⟨c1, rfl, q1⟩, hq⟩ := hq
  obtain ⟨_, z2, rfl, ⟨c2, rfl, q2⟩, hq⟩ := hq
  obtain ⟨_, z3, rfl, ⟨c3, rfl, q3⟩, hq⟩ := hq
  obtain ⟨_, z4, rfl, ⟨c4, rfl, q4⟩, hq⟩ := hq
  obtain ⟨_, z5, rfl, ⟨c5, rfl, q5⟩, hq⟩ := hq
  obtain ⟨_, z6, rfl, ⟨c6, rfl, q6⟩, hq⟩ := hq
  obtain ⟨_, z7, rfl, ⟨c7, rfl, q7⟩, hq⟩ := hq
  obtain ⟨_, z8, rfl, ⟨c8, rfl, q8⟩, hq⟩ := hq
  obtain ⟨_, z9, rfl, ⟨c9, rfl, q9⟩, hq⟩ := hq
  obtain ⟨_, z10, rfl, ⟨c10, rfl, q10⟩, hq⟩ := hq
  obtain ⟨_, z11, rfl, ⟨c11, rfl, q11⟩, hq⟩ := hq
  obtain ⟨_, z12, rfl, ⟨c12, rfl, q12⟩, hq⟩ := hq
  obtain ⟨_, z13, rfl, ⟨c13, rfl, q13⟩, hq⟩ := hq
  obtain ⟨_, z14, rfl, ⟨c14, rfl, q14⟩, hq⟩ := hq
  obtain ⟨_, z15, rfl, ⟨c15, rfl, q15⟩, rfl⟩ := hq
  refine ⟨fun k => [c0, c1, c2, c3, c4, c5, c6, c7, c8, c9, c10, c11, c12, c13, c14, c15].getD k 0, ?_, rfl⟩
  intro i
  have r0 := rng_u8 q0
  have r1 := rng_u8 q1
  have r2 := rng_u8 q2
  have r3 := rng_u8 q3
  have r4 := rng_u8 q4
  have r5 := rng_u8 q5
  have r6 := rng_u8 q6
  have r7 := rng_u8 q7
  have r8 := rng_u8 q8
  have r9 := rng_u8 q9
  have r10 := rng_u8 q10
  have r11 := rng_u8 q11
  have r12 := rng_u8 q12
  have r13 := rng_u8 q13
  have r14 := rng_u8 q14
  have r15 := rng_u8 q15
  match i with
  | 0 => exact r0
  | 1 => exact r1
  | 2 => exact r2
  | 3 => exact r3
  | 4 => exact r4
  | 5 => exact r5
  | 6 => exact r6
  | 7 => exact r7
  | 8 => exact r8
  | 9 => exact r9
  | 10 => exact r10
  | 11 => exact r11
  | 12 => exact r12
  | 13 => exact r13
  | 14 => exact r14
  | 15 => exact r15
  | i + 16 => exact ⟨by show (0 : Int) ≤ 0; omega, by show (0 : Int) ≤ 255; omega⟩

def a4T (xs : List AV) : Prop := seqP [intT .u8, intT .u8, intT .u8, intT .u8] xs
def p4T (xs : List AV) : Prop := seqP [a4T, intT .i64] xs
theorem p4Arg {E : Env} {f t : Nat} {x : AV} (h : argV E f t x) (hT : ∀ xs, argT E f t xs = p4T xs) (ha : aggT E t = true) : ∃ (b : Nat → Int) (n : Int), b8 b ∧ inK .i64 n = true ∧ x = .agg [.int .u8 (b 0), .int .u8 (b 1), .int .u8 (b 2), .int .u8 (b 3), .int .i64 n] := by
  obtain ⟨zs, rfl, hq⟩ := aggArg h hT ha
  obtain ⟨_, _, rfl, hq, _, _, rfl, ⟨n, rfl, qn⟩, rfl⟩ := hq
  obtain ⟨_, z0, rfl, ⟨c0, rfl, q0⟩, hq⟩ := hq
  obtain ⟨_, z1, rfl, ⟨c1, rfl, q1⟩, hq⟩ := hq
  obtain ⟨_, z2, rfl, ⟨c2, rfl, q2⟩, hq⟩ := hq
  obtain ⟨_, z3, rfl, ⟨c3, rfl, q3⟩, rfl⟩ := hq
  refine ⟨fun k => [c0, c1, c2, c3].getD k 0, n, ?_, inK_of qn, rfl⟩
  intro i
  have r0 := rng_u8 q0
  have r1 := rng_u8 q1
  have r2 := rng_u8 q2
  have r3 := rng_u8 q3
  match i with
  | 0 => exact r0
  | 1 => exact r1
  | 2 => exact r2
  | 3 => exact r3
  | i + 4 => exact ⟨by show (0 : Int) ≤ 0; omega, by show (0 : Int) ≤ 255; omega⟩

theorem a4Arg {E : Env} {f t : Nat} {x : AV} (h : argV E f t x) (hT : ∀ xs, argT E f t xs = a4T xs) (ha : aggT E t = true) : ∃ (b : Nat → Int), b8 b ∧ x = .agg [.int .u8 (b 0), .int .u8 (b 1), .int .u8 (b 2), .int .u8 (b 3)] := by
  obtain ⟨zs, rfl, hq⟩ := aggArg h hT ha
  obtain ⟨_, z0, rfl, ⟨c0, rfl, q0⟩, hq⟩ := hq
  obtain ⟨_, z1, rfl, ⟨c1, rfl, q1⟩, hq⟩ := hq
  obtain ⟨_, z2, rfl, ⟨c2, rfl, q2⟩, hq⟩ := hq
  obtain ⟨_, z3, rfl, ⟨c3, rfl, q3⟩, rfl⟩ := hq
  refine ⟨fun k => [c0, c1, c2, c3].getD k 0, ?_, rfl⟩
  intro i
  have r0 := rng_u8 q0
  have r1 := rng_u8 q1
  have r2 := rng_u8 q2
  have r3 := rng_u8 q3
  match i with
  | 0 => exact r0
  | 1 => exact r1
  | 2 => exact r2
  | 3 => exact r3
  | i + 4 => exact ⟨by show (0 : Int) ≤ 0; omega, by show (0 : Int) ≤ 255; omega⟩

theorem inKw (n : Int) : inK .i64 (IntKind.i64.wrap n) = true := by
  rw [inK_i64, wrap_i64, decide_eq_true (by omega), decide_eq_true (by omega)]; rfl

def strB (s : ByteArray) (l : List UInt8) : Bool := s.data.toList == l
theorem strB_eq {s : ByteArray} {l : List UInt8} (h : strB s l = true) : s = ⟨⟨l⟩⟩ := by
  have h1 : s.data.toList = l := by simpa [strB] using h
  obtain ⟨⟨d⟩⟩ := s
  simp at h1
  rw [h1]

theorem b8_lit {a b c d : Int} (h : (0 ≤ a ∧ a ≤ 255) ∧ (0 ≤ b ∧ b ≤ 255) ∧ (0 ≤ c ∧ c ≤ 255) ∧ (0 ≤ d ∧ d ≤ 255)) : b8 (fun k => [a, b, c, d].getD k 0) := by
  intro i
  match i with
  | 0 => exact h.1
  | 1 => exact h.2.1
  | 2 => exact h.2.2.1
  | 3 => exact h.2.2.2
  | i + 4 => exact ⟨by show (0 : Int) ≤ 0; omega, by show (0 : Int) ≤ 255; omega⟩

end Go.Pl
