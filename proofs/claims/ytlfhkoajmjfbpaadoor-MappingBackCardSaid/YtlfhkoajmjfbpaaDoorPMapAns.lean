/- What mapping's other functions answer, in plain words. -/
import Derived.Test.YtlfhkoajmjfbpaaDoorPMap
namespace Go.Pl
open Go.Abs

def portsA (c m e o : Int) : AV := bif c != 0 then .tup [.agg [.int .i64 0, .int .i64 0, .int .u16 0], .bool false, .int .i64 c] else
  bif decide (qR m e > 0) then .tup [.agg [.int .i64 o, .int .i64 (qR m e), .int .u16 0], .bool true, .int .i64 0] else .tup [.agg [.int .i64 0, .int .i64 0, .int .u16 0], .bool false, .int .i64 0]
def cntA (c e : Int) : AV := bif c != 0 then .tup [.int .u64 0, .int .i64 c] else .tup [.int .u64 (2 ^ e.toNat), .int .i64 0]
/-- The EA bits of an address. -/
def bitE (X Z Y : List AV) (n m e o : Int) : Int := bif chkR X Z n m e o != 0 then chkR X Z n m e o else bif inB 128 X Y n then 0 else 82
def bitN (X Z Y : List AV) (n m e o : Int) : Int := bif bitE X Z Y n m e o == 0 then getX Y n e else 0
/-- The EA bits of an IPv4 address and a port. -/
def ofR (X Z W : List AV) (n m e o p : Int) : Int := bif chkR X Z n m e o != 0 then chkR X Z n m e o else bif inB 32 Z W m then (bif qR m e == 0 then 0 else bif ofB o (qR m e) p then 0 else 91) else 82
def ofV (X Z W : List AV) (n m e o p : Int) : Int := bif ofR X Z W n m e o p == 0 then getX W m (e - qR m e) * 2 ^ (qR m e).toNat + (bif qR m e == 0 then 0 else ofN o (qR m e) p) else 0
/-- The MAP address. -/
def mapW (X Z W : List AV) (n m e o p : Int) : List AV := bif ofR X Z W n m e o p == 0 then ownB X Z n m e (ofV X Z W n m e o p) else z16
def ownsE (Z : List AV) (m a b p : Int) : Int := bif chkE 32 Z m != 0 then chkE 32 Z m else ofE a b p
def ownsB (Z W : List AV) (m a b p x : Int) : Bool := bif ownsE Z m a b p == 0 then inB 32 Z W m && (b == 0 || hasB a b p x) else false

theorem portsA_has {X Z : List AV} {n m e o : Int} (ho : inK .i64 o = true) : (Sh.tup [.agg [.int .i64, .int .i64, .int .u16], .bool, .int .i64]).has (portsA (chkR X Z n m e o) m e o) = true := by
  unfold portsA
  rcases chkR_or X Z n m e o with ⟨hc, ⟨a1, a2, a3⟩, ⟨b1, b2, b3⟩, c1, c2, c3, c4, c5⟩ | hc | hc
  · rw [hc]
    have hq : inK .i64 (qR m e) = true := by
      unfold qR
      rw [inK_i64, decide_eq_true (by split <;> omega), decide_eq_true (by split <;> omega)]; rfl
    cases decide (qR m e > 0)
    · rfl
    · simp only [bne_self_eq_false, cond_false, cond_true, has_tup, has_agg, has_bool, has_int, hasL_cons, hasL_nil, List.getD_cons_zero, List.getD_cons_succ, List.length_cons, List.length_nil, ho, hq, beq_self_eq_true, Bool.and_self]
      rfl
  · rw [hc]; rfl
  · rw [hc]; rfl
theorem cntA_has {X Z : List AV} {n m e o : Int} : (Sh.tup [.int .u64, .int .i64]).has (cntA (chkR X Z n m e o) e) = true := by
  unfold cntA
  rcases chkR_or X Z n m e o with ⟨hc, ⟨a1, a2, a3⟩, ⟨b1, b2, b3⟩, c1, c2, c3, c4, c5⟩ | hc | hc
  · rw [hc]
    have h1 : (0 : Int) < 2 ^ e.toNat := Int.pow_pos (by decide)
    have h2 := pow2_le (show e.toNat ≤ 63 by omega)
    have h3 : (2 : Int) ^ 63 = 9223372036854775808 := rfl
    have hk : inK .u64 (2 ^ e.toNat) = true := by rw [inK_u64, decide_eq_true (by omega), decide_eq_true (by omega)]; rfl
    simp only [bne_self_eq_false, cond_false, has_tup, has_int, hasL_cons, hasL_nil, List.getD_cons_zero, List.getD_cons_succ, List.length_cons, List.length_nil, hk, beq_self_eq_true, Bool.and_self]
    rfl
  · rw [hc]; rfl
  · rw [hc]; rfl
theorem bitE_in (X Z Y : List AV) (n m e o : Int) : inK .i64 (bitE X Z Y n m e o) = true := by
  unfold bitE
  cases chkR X Z n m e o != 0
  · cases inB 128 X Y n <;> rfl
  · exact chkR_in _ _ _ _ _ _
theorem getX_inK (xs : List AV) (a n : Int) : inK .u64 (getX xs a n) = true := by
  have := getX_range xs a n
  rw [inK_u64, decide_eq_true this.1, decide_eq_true this.2]; rfl
theorem getE_inK (L : Nat) (a n : Int) : inK .i64 (getE L a n) = true := by unfold getE; cases (decide (n > 64) || !thereB L a n) <;> rfl
theorem bitN_in (X Z Y : List AV) (n m e o : Int) : inK .u64 (bitN X Z Y n m e o) = true := by
  unfold bitN
  cases bitE X Z Y n m e o == 0
  · rfl
  · exact getX_inK _ _ _
theorem ofR_in (X Z W : List AV) (n m e o p : Int) : inK .i64 (ofR X Z W n m e o p) = true := by
  unfold ofR
  cases chkR X Z n m e o != 0
  · cases inB 32 Z W m
    · rfl
    · cases qR m e == 0
      · cases ofB o (qR m e) p <;> rfl
      · rfl
  · exact chkR_in _ _ _ _ _ _
theorem inB_chk {N : Int} {X Y : List AV} {n : Int} (h : inB N X Y n = true) : sameB X Y n.toNat = true := by
  unfold inB at h
  cases hc : chkE N X n == 0
  · rw [hc] at h; cases h
  · rw [hc] at h; exact h
/-- Where it is somebody's. -/
theorem ofR_zero {X Z W : List AV} {n m e o p : Int} (h : ofR X Z W n m e o p = 0) : chkR X Z n m e o = 0 ∧ inB 32 Z W m = true ∧ (qR m e = 0 ∨ ofB o (qR m e) p = true) := by
  unfold ofR at h
  cases hc : chkR X Z n m e o != 0
  · rw [hc, cond_false] at h
    refine ⟨by simpa using hc, ?_⟩
    cases hi : inB 32 Z W m
    · rw [hi] at h; cases h
    · rw [hi, cond_true] at h
      refine ⟨rfl, ?_⟩
      cases hq : qR m e == 0
      · rw [hq, cond_false] at h
        cases hb : ofB o (qR m e) p
        · rw [hb] at h; cases h
        · exact .inr rfl
      · exact .inl (by simpa using hq)
  · rw [hc, cond_true] at h
    rw [h] at hc; cases hc
theorem psetB_q {n m e o p : Int} {X Z : List AV} (hc : chkR X Z n m e o = 0) (hp : 0 ≤ p ∧ p ≤ 65535) : psetB o (qR m e) p = true ∧ right o (qR m e) 0 = true := by
  rcases chkR_or X Z n m e o with ⟨_, ⟨a1, a2, a3⟩, ⟨b1, b2, b3⟩, c1, c2, c3, c4, c5⟩ | h | h
  · have hq : 0 ≤ qR m e ∧ qR m e ≤ 16 - o := by unfold qR; split <;> omega
    refine ⟨psetB_iff.2 ⟨by omega, by omega, by omega, by omega, hp.1, hp.2⟩, right_iff.2 ⟨c3, c4, hq.1, hq.2, Int.pow_pos (by decide)⟩⟩
  · rw [hc] at h; cases h
  · rw [hc] at h; cases h
theorem ofV_ok {X Z W : List AV} (hW : W.length = 4) {n m e o p : Int} (hp : 0 ≤ p ∧ p ≤ 65535) (h : ofR X Z W n m e o p = 0) : 0 ≤ ofV X Z W n m e o p ∧ ofV X Z W n m e o p < 2 ^ e.toNat ∧ okE n m e o (ofV X Z W n m e o p) ∧ edgE X Z n m e o (ofV X Z W n m e o p) = 0 := by
  obtain ⟨hc, hi, hq⟩ := ofR_zero h
  have hps := psetB_q hc hp
  rcases chkR_or X Z n m e o with ⟨_, ⟨a1, a2, a3⟩, ⟨b1, b2, b3⟩, c1, c2, c3, c4, c5⟩ | hh | hh
  rotate_left
  · rw [hc] at hh; cases hh
  · rw [hc] at hh; cases hh
  have hq0 : 0 ≤ qR m e ∧ qR m e ≤ e ∧ e - qR m e ≤ 32 - m := by unfold qR; split <;> omega
  have hg := getX_range W m (e - qR m e)
  have key : 0 ≤ ofV X Z W n m e o p ∧ ofV X Z W n m e o p < 2 ^ e.toNat := by
    unfold ofV
    rw [h]
    have gs : 0 ≤ getX W m (e - qR m e) ∧ getX W m (e - qR m e) < 2 ^ (e - qR m e).toNat := by
      have e1 : getX W m (e - qR m e) = getN W m.toNat (e - qR m e).toNat := by
        unfold getX
        rw [decide_eq_false (show ¬ e - qR m e > 64 by omega), show thereB W.length m (e - qR m e) = true from by simp only [thereB, Bool.and_eq_true, decide_eq_true_eq]; omega]
        rfl
      rw [e1]; exact getN_range _ _ _
    have hP : (0 : Int) < 2 ^ (qR m e).toNat := Int.pow_pos (by decide)
    have hsum : (2 : Int) ^ e.toNat = 2 ^ (e - qR m e).toNat * 2 ^ (qR m e).toNat := by rw [← Int.pow_add]; congr 1; omega
    have hid : 0 ≤ (bif qR m e == 0 then 0 else ofN o (qR m e) p) ∧ (bif qR m e == 0 then 0 else ofN o (qR m e) p) < 2 ^ (qR m e).toNat := by
      cases hz : qR m e == 0
      · show 0 ≤ ofN o (qR m e) p ∧ ofN o (qR m e) p < _
        unfold ofN
        cases hm : right o (qR m e) 0 && mine o p
        · exact ⟨Int.le_refl _, hP⟩
        · have := psid_bounds hps.1 hps.2
          exact ⟨this.1, this.2.2⟩
      · exact ⟨Int.le_refl _, hP⟩
    show 0 ≤ getX W m (e - qR m e) * 2 ^ (qR m e).toNat + _ ∧ getX W m (e - qR m e) * 2 ^ (qR m e).toNat + _ < 2 ^ e.toNat
    have h1 : 0 ≤ getX W m (e - qR m e) * 2 ^ (qR m e).toNat := Int.mul_nonneg gs.1 (Int.le_of_lt hP)
    have h2 : (getX W m (e - qR m e) + 1) * 2 ^ (qR m e).toNat ≤ 2 ^ (e - qR m e).toNat * 2 ^ (qR m e).toNat := Int.mul_le_mul_of_nonneg_right (by omega) (Int.le_of_lt hP)
    rw [Int.add_mul, Int.one_mul] at h2
    rw [hsum]
    exact ⟨by omega, by omega⟩
  have h64 := pow2_le (show e.toNat ≤ 63 by omega)
  have h63 : (2 : Int) ^ 63 = 9223372036854775808 := rfl
  have hdiv : ofV X Z W n m e o p / 2 ^ e.toNat = 0 := Int.ediv_eq_zero_of_lt key.1 key.2
  refine ⟨key.1, key.2, ⟨a1, a2, b1, b2, c1, c2, c3, c4, c5, key.1, by omega, hdiv⟩, ?_⟩
  unfold edgE
  rw [hc, hdiv]; rfl
theorem ofV_in {X Z W : List AV} (hW : W.length = 4) {n m e o p : Int} (hp : 0 ≤ p ∧ p ≤ 65535) : inK .u64 (ofV X Z W n m e o p) = true := by
  by_cases h : ofR X Z W n m e o p = 0
  · obtain ⟨h1, _, ⟨_, _, _, _, _, _, _, _, _, _, h2, _⟩, _⟩ := ofV_ok hW hp h
    rw [inK_u64, decide_eq_true h1, decide_eq_true (by omega)]; rfl
  · unfold ofV
    rw [show (ofR X Z W n m e o p == 0) = false from beq_eq_false_iff_ne.2 h]; rfl
theorem nat64 (t : Nat) (h : (t : Int) < 18446744073709551616) : (BitVec.ofInt 64 (t : Int)).toNat = t := by
  rw [BitVec.toNat_ofInt]; omega
/-- A number with another behind it. -/
theorem or_shift {g b : Int} {q : Nat} (h0 : 0 ≤ g) (b0 : 0 ≤ b) (b1 : b < 2 ^ q) (h1 : g * 2 ^ q + b < 18446744073709551616) : IntKind.u64.wrap ((BitVec.ofInt 64 (IntKind.u64.wrap (g * 2 ^ q)) ||| BitVec.ofInt 64 (IntKind.u64.wrap b)).toNat : Int) = g * 2 ^ q + b := by
  have hP : (0 : Int) < 2 ^ q := Int.pow_pos (by decide)
  have hg : 0 ≤ g * 2 ^ q := Int.mul_nonneg h0 (Int.le_of_lt hP)
  rw [u64_of (n := g * 2 ^ q) hg (by omega), u64_of (n := b) b0 (by omega)]
  obtain ⟨m, rfl⟩ := Int.eq_ofNat_of_zero_le h0
  obtain ⟨c, rfl⟩ := Int.eq_ofNat_of_zero_le b0
  have hp : ((2 : Int) ^ q) = ((2 ^ q : Nat) : Int) := by simp
  rw [hp] at h1 b1 hg ⊢
  have hmul : (m : Int) * ((2 ^ q : Nat) : Int) = ((m * 2 ^ q : Nat) : Int) := by rw [Int.natCast_mul]
  rw [hmul] at h1 hg ⊢
  have e1 : (BitVec.ofInt 64 ((m * 2 ^ q : Nat) : Int)).toNat = m * 2 ^ q := nat64 _ (by omega)
  have e2 : (BitVec.ofInt 64 (c : Int)).toNat = c := nat64 _ (by omega)
  have e3 : m * 2 ^ q ||| c = m * 2 ^ q + c := by
    have := Nat.shiftLeft_add_eq_or_of_lt (i := q) (b := c) (by omega) m
    rw [Nat.shiftLeft_eq] at this
    exact this.symm
  rw [BitVec.toNat_or, e1, e2, e3]
  rw [Int.natCast_add]
  exact u64_of (by omega) (by omega)
theorem mapW_ok (X Z W : List AV) (n m e o p : Int) : intsB .u8 (mapW X Z W n m e o p) = true ∧ (mapW X Z W n m e o p).length = 16 := by
  unfold mapW
  cases ofR X Z W n m e o p == 0
  · simp only [cond_false]; exact ⟨rfl, rfl⟩
  · simp only [cond_true]; exact ownB_ok
theorem ownsE_in (Z : List AV) (m a b p : Int) : inK .i64 (ownsE Z m a b p) = true := by
  unfold ownsE
  cases chkE 32 Z m != 0
  · show inK .i64 (ofE a b p) = true
    unfold ofE
    cases right a b p <;> rfl
  · exact chkE_in _ _ _

def eq16 (f g : Nat → Int) : Bool := (f 0 == g 0 && (f 1 == g 1 && (f 2 == g 2 && (f 3 == g 3 && (f 4 == g 4 && (f 5 == g 5 && (f 6 == g 6 && (f 7 == g 7 && (f 8 == g 8 && (f 9 == g 9 && (f 10 == g 10 && (f 11 == g 11 && (f 12 == g 12 && (f 13 == g 13 && (f 14 == g 14 && (f 15 == g 15 && true))))))))))))))))
theorem eq16_comm (f g : Nat → Int) : eq16 f g = eq16 g f := by
  have h : ∀ k, (f k == g k) = (g k == f k) := fun k => by rw [Bool.eq_iff_iff, beq_iff_eq, beq_iff_eq]; exact eq_comm
  unfold eq16
  simp only [h]
/-- Is an address that of who has an IPv4 address and port? -/
def comE (r : Int) : Int := bif r == 82 || r == 91 then 0 else r
def comB (X Z W : List AV) (n m e o p : Int) (y : Nat → Int) : Bool := bif ofR X Z W n m e o p == 0 then eq16 (byteAt (mapW X Z W n m e o p)) y else false
theorem comE_in (X Z W : List AV) (n m e o p : Int) : inK .i64 (comE (ofR X Z W n m e o p)) = true := by
  unfold comE
  cases ofR X Z W n m e o p == 82 || ofR X Z W n m e o p == 91
  · exact ofR_in _ _ _ _ _ _ _ _
  · rfl
theorem ofR_cases (X Z W : List AV) (n m e o p : Int) : ofR X Z W n m e o p = 0 ∨ ofR X Z W n m e o p = 82 ∨ ofR X Z W n m e o p = 91 ∨ ofR X Z W n m e o p = 22 ∨ ofR X Z W n m e o p = 100 := by
  unfold ofR
  rcases chkR_or X Z n m e o with h | h | h
  · rw [h.1]
    cases inB 32 Z W m
    · exact .inr (.inl rfl)
    · cases qR m e == 0
      · cases ofB o (qR m e) p
        · exact .inr (.inr (.inl rfl))
        · exact .inl rfl
      · exact .inl rfl
  · rw [h]; exact .inr (.inr (.inr (.inl rfl)))
  · rw [h]; exact .inr (.inr (.inr (.inr rfl)))

end Go.Pl
