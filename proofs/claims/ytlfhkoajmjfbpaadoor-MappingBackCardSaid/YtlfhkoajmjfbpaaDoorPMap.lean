/- MAP's rules, in plain words: bytes by their bits, runs one behind the other, bits put in by an or. -/
import Derived.Test.YtlfhkoajmjfbpaaDoorPAddr
import Derived.Test.YtlfhkoajmjfbpaaDoorPRuns
import Derived.Test.YtlfhkoajmjfbpaaDoorPBack
namespace Go.Pl
open Go.Abs

def b01 (f : Nat → Int) : Prop := ∀ i, f i = 0 ∨ f i = 1
/-- Bytes by their bits. -/
def mkB (L : Nat) (f : Nat → Int) : List AV := putL (zeros L) 0 f (8 * L)
theorem mkB_length (L : Nat) (f : Nat → Int) : (mkB L f).length = L := by simp [mkB, putL_length, zeros]
theorem mkB_u8 {L : Nat} {f : Nat → Int} (hf : b01 f) : intsB .u8 (mkB L f) = true := putL_u8 (zeros_u8 _) _ fun i _ => hf i
theorem mkB_bit {L : Nat} {f : Nat → Int} (hf : b01 f) {j : Nat} (hj : j < 8 * L) : bitV (mkB L f) j = f j := by
  unfold mkB
  rw [putL_bit (zeros_u8 _) _ (fun i _ => hf i) (by simp [zeros]) j, if_pos (by omega), Nat.sub_zero]
theorem mkB_eq {xs : List AV} {L : Nat} {f : Nat → Int} (hu : intsB .u8 xs = true) (hl : xs.length = L) (hf : b01 f) (h : ∀ j, j < 8 * L → bitV xs j = f j) : xs = mkB L f :=
  bits_ext hu (mkB_u8 hf) (by rw [hl, mkB_length]) fun i hi => by rw [mkB_bit hf (by omega)]; exact h i (by omega)
theorem mkB_congr {L : Nat} {f g : Nat → Int} (h : ∀ j, j < 8 * L → f j = g j) : mkB L f = mkB L g := by
  unfold mkB
  exact putL_congr _ h
theorem bitV_b01 (xs : List AV) : b01 (bitV xs) := fun i => by have := bitV_01 xs i; omega

/-- Runs that are written out. -/
def runL (l : List (Int × Int)) : List AV := l.map fun p => .agg [.int .i64 p.1, .int .u64 p.2]
def catF : List (Int × Int) → Nat → Int
  | [], _ => 0
  | (n, v) :: r, j => bif decide (j < n.toNat) then vbit v n.toNat j else catF r (j - n.toNat)
def okR : List (Int × Int) → Prop
  | [] => True
  | (n, v) :: r => (0 ≤ n ∧ n ≤ 64 ∧ 0 ≤ v ∧ v < 18446744073709551616 ∧ fitB v n = true) ∧ okR r
def totL : List (Int × Int) → Nat
  | [] => 0
  | (n, _) :: r => n.toNat + totL r
theorem catF_01 : ∀ l, b01 (catF l)
  | [], _ => .inl rfl
  | (n, v) :: r, j => by
    simp only [catF]
    cases decide (j < n.toNat)
    · exact catF_01 r _
    · exact vbit_01 _ _ _
theorem rN_cons (x : AV) (xs : List AV) (k : Nat) : rN (x :: xs) (k + 1) = rN xs k := rfl
theorem rV_cons (x : AV) (xs : List AV) (k : Nat) : rV (x :: xs) (k + 1) = rV xs k := rfl
theorem badE_cons (x : AV) (xs : List AV) : ∀ d i, badE (x :: xs) d (i + 1) = badE xs d i
  | 0, _ => rfl
  | d + 1, i => by simp only [badE, badE_cons x xs d (i + 1)]; rfl
theorem sumR_cons (x : AV) (xs : List AV) (k : Nat) : sumR (x :: xs) (k + 1) = (rN (x :: xs) 0).toNat + sumR xs k := by
  induction k with
  | zero => simp [sumR]
  | succ k ih => rw [sumR, ih]; simp only [sumR, rN_cons]; omega
theorem catB_cons (x : AV) (xs : List AV) (k : Nat) : catB (x :: xs) (k + 1) = vbL (rV (x :: xs) 0) (rN (x :: xs) 0).toNat ++ catB xs k := by
  induction k with
  | zero => simp [catB]
  | succ k ih => rw [catB, ih]; simp only [catB, rN_cons, rV_cons, List.append_assoc]
theorem runL_facts : ∀ {l : List (Int × Int)}, okR l → badE (runL l) l.length 0 = 0 ∧ sumR (runL l) l.length = totL l ∧ runsB (runL l) = true ∧ ∀ j, bitAt (catB (runL l) l.length) j = catF l j
  | [], _ => ⟨rfl, rfl, rfl, fun j => by simp [bitAt, catB, catF]; rfl⟩
  | (n, v) :: r, h => by
    obtain ⟨⟨h0, h1, h2, h3, h4⟩, hr⟩ := h
    obtain ⟨g1, g2, g3, g4⟩ := runL_facts hr
    have e0 : rN (runL ((n, v) :: r)) 0 = n := rfl
    have e1 : rV (runL ((n, v) :: r)) 0 = v := rfl
    refine ⟨?_, ?_, ?_, fun j => ?_⟩
    · simp only [List.length_cons, badE, e0, e1, h4, decide_eq_false (show ¬ n < 0 by omega), decide_eq_false (show ¬ n > 64 by omega), Bool.or_self, cond_false, cond_true]
      exact (badE_cons _ (runL r) _ 0).trans g1
    · rw [List.length_cons]
      refine (sumR_cons _ (runL r) _).trans ?_
      rw [g2]; rfl
    · show (runB _ && runsB (runL r)) = true
      rw [g3, Bool.and_true]
      simp only [runB, Bool.and_eq_true]
      refine ⟨⟨⟨⟨rfl, rfl⟩, ?_⟩, rfl⟩, ?_⟩
      · show inK .i64 n = true
        rw [inK_i64, decide_eq_true (show -9223372036854775808 ≤ n by omega), decide_eq_true (show n ≤ 9223372036854775807 by omega)]; rfl
      · show inK .u64 v = true
        rw [inK_u64, decide_eq_true h2, decide_eq_true (show v ≤ 18446744073709551615 by omega)]; rfl
    · rw [List.length_cons]
      have hc : catB (runL ((n, v) :: r)) (r.length + 1) = vbL v n.toNat ++ catB (runL r) r.length := catB_cons _ (runL r) _
      rw [hc]
      simp only [catF]
      unfold bitAt
      by_cases hj : j < n.toNat
      · rw [decide_eq_true hj, getD_append_left (by rw [vbL_length]; exact hj), vbL_get hj]; rfl
      · rw [decide_eq_false hj, getD_append_right (by rw [vbL_length]; omega), vbL_length]
        exact g4 _
theorem runL_length (l : List (Int × Int)) : (runL l).length = l.length := by simp [runL]
theorem catE_runL {l : List (Int × Int)} (h : okR l) (ht : totL l ≤ 65536) : catE (runL l) = 0 := by
  obtain ⟨g1, g2, _, _⟩ := runL_facts h
  unfold catE
  rw [runL_length, g1, g2, Nat.ble_eq_true_of_le ht]; rfl
theorem catX_runL {l : List (Int × Int)} (h : okR l) (ht : totL l ≤ 65536) : intsB .u8 (catX (runL l)) = true ∧ (catX (runL l)).length = (totL l + 7) / 8 ∧ ∀ j, bitV (catX (runL l)) j = if j < totL l then catF l j else 0 := by
  obtain ⟨g1, g2, _, g4⟩ := runL_facts h
  unfold catX
  rw [runL_length, g1, g2, Nat.ble_eq_true_of_le ht]
  refine ⟨catP_u8 (Nat.le_refl _), by rw [← g2]; exact catP_length _ _ _, fun j => ?_⟩
  show bitV (catP (runL l) l.length l.length) j = _
  rw [catP_bit, g2, g4]
/-- Bytes with zero bytes behind. -/
def padC (L : Nat) (bs : List AV) : List AV := bs.take (min bs.length L) ++ (zeros L).drop (min bs.length L)
theorem padC_length (L : Nat) (bs : List AV) : (padC L bs).length = L := by
  simp only [padC, List.length_append, List.length_take, List.length_drop, zeros, List.length_replicate]; omega
theorem padC_u8 {L : Nat} {bs : List AV} (h : intsB .u8 bs = true) : intsB .u8 (padC L bs) = true := by
  rw [intsB_iff] at h ⊢
  intro x hx
  unfold padC at hx
  rcases List.mem_append.1 hx with hx | hx
  · exact h x (List.mem_of_mem_take hx)
  · exact intsB_iff.1 (zeros_u8 L) x (List.mem_of_mem_drop hx)
theorem padC_bit {L : Nat} {bs : List AV} (hl : bs.length ≤ L) (j : Nat) : bitV (padC L bs) j = if j < 8 * bs.length then bitV bs j else 0 := by
  unfold padC
  rw [Nat.min_eq_left hl, List.take_of_length_le (Nat.le_refl _)]
  by_cases h : j < 8 * bs.length
  · rw [if_pos h]
    unfold bitV
    rw [getD_append_left (by omega)]
  · rw [if_neg h]
    unfold bitV
    rw [getD_append_right (by omega), List.getD_eq_getElem?_getD, List.getElem?_drop, ← List.getD_eq_getElem?_getD]
    have := bitV_zeros L (8 * (bs.length + (j / 8 - bs.length)) + j % 8)
    unfold bitV at this
    rw [show (8 * (bs.length + (j / 8 - bs.length)) + j % 8) / 8 = bs.length + (j / 8 - bs.length) by omega, show (8 * (bs.length + (j / 8 - bs.length)) + j % 8) % 8 = j % 8 by omega] at this
    exact this
theorem catF_out : ∀ {l : List (Int × Int)} {j : Nat}, totL l ≤ j → catF l j = 0
  | [], _, _ => rfl
  | (n, v) :: r, j, h => by
    simp only [totL] at h
    simp only [catF]
    rw [decide_eq_false (by omega)]
    exact catF_out (by omega)
theorem pad_runL {l : List (Int × Int)} {L : Nat} (h : okR l) (ht : totL l ≤ 8 * L) (hL : L ≤ 1000) : padC L (catX (runL l)) = mkB L (catF l) := by
  obtain ⟨g1, g2, g3⟩ := catX_runL h (by omega)
  refine mkB_eq (padC_u8 g1) (padC_length _ _) (catF_01 l) fun j hj => ?_
  rw [padC_bit (by rw [g2]; omega), g3, g2]
  by_cases hj2 : j < totL l
  · rw [if_pos (by omega), if_pos hj2]
  · rw [catF_out (by omega), if_neg hj2]; split <;> rfl
theorem cat_whole {l : List (Int × Int)} {L : Nat} (h : okR l) (ht : totL l = 8 * L) (hL : L ≤ 1000) : catX (runL l) = mkB L (catF l) := by
  obtain ⟨g1, g2, g3⟩ := catX_runL h (by omega)
  refine mkB_eq g1 (by rw [g2, ht]; omega) (catF_01 l) fun j hj => ?_
  rw [g3, if_pos (by omega)]

theorem catX_u8 (xs : List AV) : intsB .u8 (catX xs) = true := by
  unfold catX
  cases badE xs xs.length 0 == 0
  · rfl
  · cases Nat.ble (sumR xs xs.length) 65536
    · rfl
    · exact catP_u8 (Nat.le_refl _)
theorem catX_four {xs : List AV} (h3 : sumR xs xs.length = 32) (h4 : catE xs = 0) : (catX xs).length = 4 := by
  unfold catE at h4
  unfold catX
  rw [h3] at h4 ⊢
  cases hb : badE xs xs.length 0 == 0
  · rw [hb, cond_false] at h4
    rw [h4] at hb; cases hb
  · show (catP xs xs.length xs.length).length = 4
    rw [catP_length, h3]
theorem u8_isInt {xs : List AV} (h : intsB .u8 xs = true) {k : Nat} (hk : k < xs.length) : (xs.getD k .junk).isInt .u8 = true := by
  obtain ⟨b, _, e⟩ := u8_get h k hk
  rw [e]; rfl

/-- Bits of a number, put in by an or. -/
def orV (v : Int) (n a j : Nat) (ys : List AV) : List AV := bif vbit v n j == 1 then setV ys (a + j) 1 else ys
theorem orV_ok (v : Int) (n a j : Nat) {ys : List AV} (h : intsB .u8 ys = true) : intsB .u8 (orV v n a j ys) = true ∧ (orV v n a j ys).length = ys.length := by
  unfold orV
  cases vbit v n j == 1
  · exact ⟨h, rfl⟩
  · exact ⟨setV_u8 h (.inr rfl), setV_length _ _ _⟩
def orX (v : Int) (n a : Nat) (xs : List AV) : List AV := foldF (orV v n a) n 0 xs
theorem orF_bit (v : Int) (n a : Nat) : ∀ d j (ys : List AV), intsB .u8 ys = true → a + (j + d) ≤ 8 * ys.length → intsB .u8 (foldF (orV v n a) d j ys) = true ∧ (foldF (orV v n a) d j ys).length = ys.length ∧
    ∀ i, bitV (foldF (orV v n a) d j ys) i = if a + j ≤ i ∧ i < a + (j + d) ∧ vbit v n (i - a) = 1 then 1 else bitV ys i
  | 0, j, ys, h, _ => ⟨h, rfl, fun i => by rw [if_neg (by omega)]; rfl⟩
  | d + 1, j, ys, h, hl => by
    obtain ⟨o1, o2⟩ := orV_ok v n a j h
    obtain ⟨g1, g2, g3⟩ := orF_bit v n a d (j + 1) _ o1 (by rw [o2]; omega)
    refine ⟨g1, g2.trans o2, fun i => ?_⟩
    rw [foldF, g3]
    have hb : bitV (orV v n a j ys) i = if i = a + j ∧ vbit v n j = 1 then 1 else bitV ys i := by
      unfold orV
      by_cases hv : vbit v n j = 1
      · rw [show (vbit v n j == 1) = true from by rw [hv]; rfl, cond_true, setV_bit h (.inr rfl) (by omega)]
        by_cases hi : i = a + j
        · rw [if_pos hi, if_pos ⟨hi, hv⟩]
        · rw [if_neg hi, if_neg (fun q => hi q.1)]
      · rw [show (vbit v n j == 1) = false from beq_eq_false_iff_ne.2 hv, cond_false, if_neg (fun q => hv q.2)]
    rw [hb]
    by_cases hi : i = a + j
    · subst hi
      rw [if_neg (by omega), show a + j - a = j by omega]
      by_cases hv : vbit v n j = 1
      · rw [if_pos ⟨rfl, hv⟩, if_pos ⟨by omega, by omega, hv⟩]
      · rw [if_neg (fun q => hv q.2), if_neg (fun q => hv q.2.2)]
    · by_cases hc : a + (j + 1) ≤ i ∧ i < a + (j + 1 + d) ∧ vbit v n (i - a) = 1
      · rw [if_pos hc, if_pos ⟨by omega, by omega, hc.2.2⟩]
      · rw [if_neg hc, if_neg (show ¬ (i = a + j ∧ _) from fun q => hi q.1), if_neg (fun q => hc ⟨by omega, by omega, q.2.2⟩)]
/-- An or into bits that are 0. -/
theorem orX_is {v : Int} {n a L : Nat} {xs : List AV} {f : Nat → Int} (h : intsB .u8 xs = true) (hl : xs.length = L) (hn : a + n ≤ 8 * L) (hf : b01 f)
    (hb : ∀ j, j < 8 * L → f j = if a ≤ j ∧ j < a + n then vbit v n (j - a) else bitV xs j) (hz : ∀ j, a ≤ j → j < a + n → bitV xs j = 0) : orX v n a xs = mkB L f := by
  obtain ⟨g1, g2, g3⟩ := orF_bit v n a n 0 xs h (by omega)
  refine mkB_eq g1 (g2.trans hl) hf fun j hj => ?_
  show bitV (foldF _ _ _ _) j = _
  rw [g3, hb j hj]
  by_cases hc : a ≤ j ∧ j < a + n
  · rw [if_pos hc]
    by_cases hv : vbit v n (j - a) = 1
    · rw [if_pos ⟨by omega, by omega, hv⟩, hv]
    · rw [if_neg (fun q => hv q.2.2), hz j hc.1 hc.2]
      rcases vbit_01 v n (j - a) with q | q
      · exact q.symm
      · exact absurd q hv
  · rw [if_neg (by omega), if_neg hc]

/-- May a rule be, its prefixes being right? -/
def ruleB (n m e o : Int) : Bool := decide (0 ≤ e ∧ e ≤ 48 ∧ n ≤ 64 - e ∧ 0 ≤ o ∧ o ≤ 15 ∧ e - (32 - m) ≤ 16 - o)
def chkR (X Z : List AV) (n m e o : Int) : Int := bif chkE 128 X n != 0 then 22 else bif chkE 32 Z m != 0 then 22 else bif ruleB n m e o then 0 else 100
theorem chk_tail {n m e o : Int} (hn : 0 ≤ n ∧ n ≤ 128) (hm : 0 ≤ m ∧ m ≤ 32) (A B : Res) :
    aIf (decide (e < 0)) A (aIf (decide (e > 48)) A (aIf (decide (n > IntKind.i64.wrap (64 - e))) A (aIf (decide (o < 0)) A (aIf (decide (o > 15)) A
      (aIf (decide ((if IntKind.i64.wrap (e - IntKind.i64.wrap (32 - m)) > 0 then IntKind.i64.wrap (e - IntKind.i64.wrap (32 - m)) else 0) > IntKind.i64.wrap (16 - o))) A B))))) = aIf (ruleB n m e o) B A := by
  unfold ruleB
  by_cases h1 : e < 0
  · rw [decide_eq_true h1, decide_eq_false (p := _ ∧ _) (by omega)]; rfl
  by_cases h2 : e > 48
  · rw [decide_eq_false h1, decide_eq_true h2, decide_eq_false (p := _ ∧ _) (by omega)]; rfl
  rw [i64_of (n := 64 - e) (by omega) (by omega), i64_of (n := 32 - m) (by omega) (by omega), i64_of (n := e - (32 - m)) (by omega) (by omega)]
  by_cases h3 : n > 64 - e
  · rw [decide_eq_false h1, decide_eq_false h2, decide_eq_true h3, decide_eq_false (p := _ ∧ _) (by omega)]; rfl
  by_cases h4 : o < 0
  · rw [decide_eq_false h1, decide_eq_false h2, decide_eq_false h3, decide_eq_true h4, decide_eq_false (p := _ ∧ _) (by omega)]; rfl
  by_cases h5 : o > 15
  · rw [decide_eq_false h1, decide_eq_false h2, decide_eq_false h3, decide_eq_false h4, decide_eq_true h5, decide_eq_false (p := _ ∧ _) (by omega)]; rfl
  rw [i64_of (n := 16 - o) (by omega) (by omega), decide_eq_false h1, decide_eq_false h2, decide_eq_false h3, decide_eq_false h4, decide_eq_false h5]
  simp only [aIf_false]
  by_cases h6 : e - (32 - m) > 16 - o
  · rw [if_pos (by omega), decide_eq_true h6, decide_eq_false (p := _ ∧ _) (by omega)]; rfl
  · rw [decide_eq_true (p := _ ∧ _) (by omega), decide_eq_false (by split <;> omega)]; rfl
theorem chk_tail' {n m e o : Int} (hn : 0 ≤ n ∧ n ≤ 128) (hm : 0 ≤ m ∧ m ≤ 32) (A B : Res) :
    aIf (decide (e < 0)) A (aIf (decide (e > 48)) A (aIf (decide (n > IntKind.i64.wrap (64 - e))) A (aIf (decide (o < 0)) A (aIf (decide (o > 15)) A
      (aIf (decide (e > IntKind.i64.wrap (32 - m))) (aIf (decide (IntKind.i64.wrap (e - IntKind.i64.wrap (32 - m)) > IntKind.i64.wrap (16 - o))) A B) B))))) = aIf (ruleB n m e o) B A := by
  rw [← chk_tail hn hm]
  by_cases h1 : e < 0
  · rw [decide_eq_true h1]; rfl
  by_cases h2 : e > 48
  · rw [decide_eq_true h2, decide_eq_false h1]; rfl
  by_cases h4 : o < 0
  · rw [decide_eq_true h4]; cases decide (n > IntKind.i64.wrap (64 - e)) <;> rfl
  by_cases h5 : o > 15
  · rw [decide_eq_true h5]; cases decide (n > IntKind.i64.wrap (64 - e)) <;> rfl
  rw [i64_of (n := 32 - m) (by omega) (by omega), i64_of (n := e - (32 - m)) (by omega) (by omega), i64_of (n := 16 - o) (by omega) (by omega)]
  by_cases h6 : e > 32 - m
  · rw [decide_eq_true h6, if_pos (by omega)]; rfl
  · rw [decide_eq_false h6, if_neg (by omega), decide_eq_false (show ¬ (0 : Int) > 16 - o by omega)]; rfl
theorem chkR_or (X Z : List AV) (n m e o : Int) : (chkR X Z n m e o = 0 ∧ (0 ≤ n ∧ n ≤ 64 - e ∧ lowB X n.toNat = true) ∧ (0 ≤ m ∧ m ≤ 32 ∧ lowB Z m.toNat = true) ∧ 0 ≤ e ∧ e ≤ 48 ∧ 0 ≤ o ∧ o ≤ 15 ∧ e - (32 - m) ≤ 16 - o) ∨ chkR X Z n m e o = 22 ∨ chkR X Z n m e o = 100 := by
  unfold chkR
  rcases chkE_or 128 X n with ⟨h1, a1, a2, a3⟩ | h1
  · rcases chkE_or 32 Z m with ⟨h2, b1, b2, b3⟩ | h2
    · rw [h1, h2]
      cases h3 : ruleB n m e o
      · exact .inr (.inr rfl)
      · unfold ruleB at h3
        have := of_decide_eq_true h3
        exact .inl ⟨rfl, ⟨a1, by omega, a3⟩, ⟨b1, b2, b3⟩, by omega, by omega, by omega, by omega, by omega⟩
    · rw [h1, h2]; exact .inr (.inl rfl)
  · rw [h1]; exact .inr (.inl rfl)
theorem chkR_in (X Z : List AV) (n m e o : Int) : inK .i64 (chkR X Z n m e o) = true := by
  rcases chkR_or X Z n m e o with h | h | h
  · rw [h.1]; rfl
  · rw [h]; rfl
  · rw [h]; rfl

/-- How many EA bits are a PSID. -/
def qR (m e : Int) : Int := if e - (32 - m) > 0 then e - (32 - m) else 0
def edgE (X Z : List AV) (n m e o a : Int) : Int := bif chkR X Z n m e o != 0 then chkR X Z n m e o else bif a / 2 ^ e.toNat != 0 then 101 else 0
def okE (n m e o a : Int) : Prop := 0 ≤ n ∧ n ≤ 64 - e ∧ 0 ≤ m ∧ m ≤ 32 ∧ 0 ≤ e ∧ e ≤ 48 ∧ 0 ≤ o ∧ o ≤ 15 ∧ e - (32 - m) ≤ 16 - o ∧ 0 ≤ a ∧ a < 18446744073709551616 ∧ a / 2 ^ e.toNat = 0
def endL (X : List AV) (n e a : Int) : List (Int × Int) := [(n, getX X 0 n), (e, a)]
def v4L (Z : List AV) (m e a : Int) : List (Int × Int) := [(m, getX Z 0 m), (e - qR m e, a / 2 ^ (qR m e).toNat), (32 - m - (e - qR m e), 0)]
/-- An edge's IPv6 prefix, IPv4 address, PSID and MAP address. -/
def endB (X : List AV) (n e a : Int) : List AV := mkB 16 (catF (endL X n e a))
def v4B (Z : List AV) (m e a : Int) : List AV := mkB 4 (catF (v4L Z m e a))
def pidR (m e a : Int) : Int := if qR m e > 0 then a % 2 ^ (qR m e).toNat else 0
def ownL (X Z : List AV) (n m e a : Int) : List (Int × Int) := [(n, getX X 0 n), (e, a), (64 - (n + e), 0), (16, 0), (32, getX (v4B Z m e a) 0 32), (16, pidR m e a)]
def ownB (X Z : List AV) (n m e a : Int) : List AV := mkB 16 (catF (ownL X Z n m e a))
def offR (m e o : Int) : Int := if qR m e > 0 then o else 0
def edgV (X Z : List AV) (n m e o a : Int) : AV := .agg [.int .u8 (byteAt (v4B Z m e a) 0), .int .u8 (byteAt (v4B Z m e a) 1), .int .u8 (byteAt (v4B Z m e a) 2), .int .u8 (byteAt (v4B Z m e a) 3), .int .i64 (m + (e - qR m e)), .int .i64 (offR m e o), .int .i64 (qR m e), .int .u16 (pidR m e a), .int .u8 (byteAt (endB X n e a) 0), .int .u8 (byteAt (endB X n e a) 1), .int .u8 (byteAt (endB X n e a) 2), .int .u8 (byteAt (endB X n e a) 3), .int .u8 (byteAt (endB X n e a) 4), .int .u8 (byteAt (endB X n e a) 5), .int .u8 (byteAt (endB X n e a) 6), .int .u8 (byteAt (endB X n e a) 7), .int .u8 (byteAt (endB X n e a) 8), .int .u8 (byteAt (endB X n e a) 9), .int .u8 (byteAt (endB X n e a) 10), .int .u8 (byteAt (endB X n e a) 11), .int .u8 (byteAt (endB X n e a) 12), .int .u8 (byteAt (endB X n e a) 13), .int .u8 (byteAt (endB X n e a) 14), .int .u8 (byteAt (endB X n e a) 15), .int .i64 (n + e), .int .u8 (byteAt (ownB X Z n m e a) 0), .int .u8 (byteAt (ownB X Z n m e a) 1), .int .u8 (byteAt (ownB X Z n m e a) 2), .int .u8 (byteAt (ownB X Z n m e a) 3), .int .u8 (byteAt (ownB X Z n m e a) 4), .int .u8 (byteAt (ownB X Z n m e a) 5), .int .u8 (byteAt (ownB X Z n m e a) 6), .int .u8 (byteAt (ownB X Z n m e a) 7), .int .u8 (byteAt (ownB X Z n m e a) 8), .int .u8 (byteAt (ownB X Z n m e a) 9), .int .u8 (byteAt (ownB X Z n m e a) 10), .int .u8 (byteAt (ownB X Z n m e a) 11), .int .u8 (byteAt (ownB X Z n m e a) 12), .int .u8 (byteAt (ownB X Z n m e a) 13), .int .u8 (byteAt (ownB X Z n m e a) 14), .int .u8 (byteAt (ownB X Z n m e a) 15)]
def edg0 : AV := .agg [.int .u8 0, .int .u8 0, .int .u8 0, .int .u8 0, .int .i64 0, .int .i64 0, .int .i64 0, .int .u16 0, .int .u8 0, .int .u8 0, .int .u8 0, .int .u8 0, .int .u8 0, .int .u8 0, .int .u8 0, .int .u8 0, .int .u8 0, .int .u8 0, .int .u8 0, .int .u8 0, .int .u8 0, .int .u8 0, .int .u8 0, .int .u8 0, .int .i64 0, .int .u8 0, .int .u8 0, .int .u8 0, .int .u8 0, .int .u8 0, .int .u8 0, .int .u8 0, .int .u8 0, .int .u8 0, .int .u8 0, .int .u8 0, .int .u8 0, .int .u8 0, .int .u8 0, .int .u8 0, .int .u8 0]
def edgW (X Z : List AV) (n m e o a : Int) : AV := bif edgE X Z n m e o a == 0 then edgV X Z n m e o a else edg0
theorem edgE_or (X Z : List AV) (n m e o a : Int) (h0 : 0 ≤ a) (h1 : a < 18446744073709551616) : (edgE X Z n m e o a = 0 ∧ chkR X Z n m e o = 0 ∧ okE n m e o a ∧ lowB X n.toNat = true ∧ lowB Z m.toNat = true) ∨ edgE X Z n m e o a ≠ 0 ∧ inK .i64 (edgE X Z n m e o a) = true := by
  unfold edgE
  rcases chkR_or X Z n m e o with ⟨h, ⟨a1, a2, a3⟩, ⟨b1, b2, b3⟩, c1, c2, c3, c4, c5⟩ | h | h
  · rw [h]
    by_cases he : a / 2 ^ e.toNat = 0
    · rw [he]
      exact .inl ⟨rfl, rfl, ⟨a1, a2, b1, b2, c1, c2, c3, c4, c5, h0, h1, he⟩, a3, b3⟩
    · rw [show (a / 2 ^ e.toNat != 0) = true from by simpa using he]
      exact .inr ⟨by decide, rfl⟩
  · rw [h]; exact .inr ⟨show (22 : Int) ≠ 0 by decide, rfl⟩
  · rw [h]; exact .inr ⟨show (100 : Int) ≠ 0 by decide, rfl⟩
theorem getX_small {xs : List AV} {n : Int} (h0 : 0 ≤ n) (h1 : n ≤ 64) (h2 : n ≤ 8 * (xs.length : Int)) : getX xs 0 n = getN xs 0 n.toNat ∧ 0 ≤ getX xs 0 n ∧ getX xs 0 n < 2 ^ n.toNat := by
  have e : getX xs 0 n = getN xs 0 n.toNat := by
    unfold getX
    rw [decide_eq_false (show ¬ n > 64 by omega), show thereB xs.length 0 n = true from by simp only [thereB, Bool.and_eq_true, decide_eq_true_eq]; omega]
    rfl
  rw [e]
  exact ⟨rfl, getN_range _ _ _⟩
theorem fit_of {v n : Int} (h : v / 2 ^ n.toNat = 0) : fitB v n = true := by
  unfold fitB
  rw [decide_eq_true h, Bool.or_true]
theorem fit_getX {xs : List AV} {n : Int} (h0 : 0 ≤ n) (h1 : n ≤ 64) (h2 : n ≤ 8 * (xs.length : Int)) : fitB (getX xs 0 n) n = true := by
  obtain ⟨_, a, b⟩ := getX_small h0 h1 h2
  exact fit_of (Int.ediv_eq_zero_of_lt a b)
theorem div_div2 (a : Int) (p q : Nat) : a / 2 ^ p / 2 ^ q = a / 2 ^ (p + q) := by
  rw [Int.ediv_ediv_of_nonneg (Int.le_of_lt (Int.pow_pos (by decide))), Int.pow_add]
theorem endL_ok {X : List AV} (hX : X.length = 16) {n m e o a : Int} (h : okE n m e o a) : okR (endL X n e a) ∧ totL (endL X n e a) = (n + e).toNat := by
  obtain ⟨a1, a2, b1, b2, c1, c2, c3, c4, c5, d0, d1, d2⟩ := h
  have g := getX_range X 0 n
  refine ⟨⟨⟨a1, by omega, g.1, by omega, fit_getX a1 (by omega) (by rw [hX]; omega)⟩, ⟨c1, by omega, d0, d1, fit_of d2⟩, trivial⟩, ?_⟩
  show n.toNat + (e.toNat + 0) = _
  omega
theorem qR_ok {n m e o a : Int} (h : okE n m e o a) : 0 ≤ qR m e ∧ qR m e ≤ 16 ∧ qR m e ≤ e ∧ e - qR m e ≤ 32 - m ∧ qR m e ≤ 16 - offR m e o ∧ 0 ≤ offR m e o ∧ offR m e o ≤ 15 ∧ (qR m e > 0 → e - qR m e = 32 - m) := by
  obtain ⟨a1, a2, b1, b2, c1, c2, c3, c4, c5, d0, d1, d2⟩ := h
  unfold offR qR
  by_cases hq : e - (32 - m) > 0
  · simp only [if_pos hq]
    exact ⟨by omega, by omega, by omega, by omega, by omega, by omega, by omega, by omega⟩
  · simp only [if_neg hq, if_neg (show ¬ (0 : Int) > 0 by omega)]
    exact ⟨by omega, by omega, by omega, by omega, by omega, by omega, by omega, by omega⟩
theorem v4L_ok {Z : List AV} (hZ : Z.length = 4) {n m e o a : Int} (h : okE n m e o a) : okR (v4L Z m e a) ∧ totL (v4L Z m e a) = 32 := by
  obtain ⟨q0, q1, q2, q3, _⟩ := qR_ok h
  obtain ⟨a1, a2, b1, b2, c1, c2, c3, c4, c5, d0, d1, d2⟩ := h
  have g := getX_range Z 0 m
  have s := shr_range d0 d1 (qR m e).toNat
  refine ⟨⟨⟨b1, by omega, g.1, by omega, fit_getX b1 (by omega) (by rw [hZ]; omega)⟩, ⟨by omega, by omega, s.1, s.2, fit_of ?_⟩, ⟨by omega, by omega, by omega, by omega, fit_of (Int.zero_ediv _)⟩, trivial⟩, ?_⟩
  · rw [div_div2, show (qR m e).toNat + (e - qR m e).toNat = e.toNat by omega]; exact d2
  · show m.toNat + ((e - qR m e).toNat + ((32 - m - (e - qR m e)).toNat + 0)) = 32
    omega
theorem pidR_ok {n m e o a : Int} (h : okE n m e o a) : 0 ≤ pidR m e a ∧ pidR m e a < 2 ^ (qR m e).toNat ∧ pidR m e a < 65536 := by
  obtain ⟨q0, q1, _⟩ := qR_ok h
  have hp : (2 : Int) ^ (qR m e).toNat ≤ 65536 ∧ (1 : Int) ≤ 2 ^ (qR m e).toNat := pow_le16 (by omega)
  unfold pidR
  split
  · have h1 := Int.emod_nonneg a (show (2 : Int) ^ (qR m e).toNat ≠ 0 by omega)
    have h2 := Int.emod_lt_of_pos a (show (0 : Int) < 2 ^ (qR m e).toNat by omega)
    exact ⟨h1, h2, by omega⟩
  · exact ⟨by omega, by omega, by omega⟩
theorem ownL_ok {X Z : List AV} (hX : X.length = 16) {n m e o a : Int} (h : okE n m e o a) : okR (ownL X Z n m e a) ∧ totL (ownL X Z n m e a) = 128 := by
  have hp := pidR_ok h
  obtain ⟨⟨g1, g2, _⟩, _⟩ := endL_ok hX h
  obtain ⟨a1, a2, b1, b2, c1, c2, c3, c4, c5, d0, d1, d2⟩ := h
  have hl : (v4B Z m e a).length = 4 := mkB_length _ _
  have g := getX_range (v4B Z m e a) 0 32
  refine ⟨⟨g1, g2, ⟨by omega, by omega, by omega, by omega, fit_of (Int.zero_ediv _)⟩, ⟨by omega, by omega, by omega, by omega, fit_of (Int.zero_ediv _)⟩, ⟨by omega, by omega, g.1, by omega, fit_getX (by omega) (by omega) (by rw [hl]; omega)⟩, ⟨by omega, by omega, hp.1, by omega, fit_of ?_⟩, trivial⟩, ?_⟩
  · exact Int.ediv_eq_zero_of_lt hp.1 (by show _ < (2 : Int) ^ 16; omega)
  · show n.toNat + (e.toNat + ((64 - (n + e)).toNat + (16 + (32 + (16 + 0))))) = 128
    omega
theorem and_mask64 {u : Int} {n : Nat} (h0 : 0 ≤ u) (h1 : u < 18446744073709551616) (hn : n ≤ 16) : ((BitVec.ofInt 64 u &&& BitVec.ofInt 64 (2 ^ n - 1)).toNat : Int) = u % 2 ^ n := by
  have hp := pow_le16 hn
  obtain ⟨m, rfl⟩ := Int.eq_ofNat_of_zero_le h0
  have e1 : (BitVec.ofInt 64 (m : Int)).toNat = m := by
    rw [BitVec.toNat_ofInt]; omega
  have e2 : (BitVec.ofInt 64 ((2 : Int) ^ n - 1)).toNat = 2 ^ n - 1 := by
    rw [BitVec.toNat_ofInt]
    have : ((2 : Int) ^ n) = ((2 ^ n : Nat) : Int) := by simp
    rw [this] at hp ⊢
    omega
  rw [BitVec.toNat_and, e1, e2, Nat.and_two_pow_sub_one_eq_mod]
  simp
theorem endB_ok {X : List AV} {n e a : Int} : intsB .u8 (endB X n e a) = true ∧ (endB X n e a).length = 16 := ⟨mkB_u8 (catF_01 _), mkB_length _ _⟩
theorem v4B_ok {Z : List AV} {m e a : Int} : intsB .u8 (v4B Z m e a) = true ∧ (v4B Z m e a).length = 4 := ⟨mkB_u8 (catF_01 _), mkB_length _ _⟩
theorem ownB_ok {X Z : List AV} {n m e a : Int} : intsB .u8 (ownB X Z n m e a) = true ∧ (ownB X Z n m e a).length = 16 := ⟨mkB_u8 (catF_01 _), mkB_length _ _⟩

theorem vbit_zero (n j : Nat) : vbit 0 n j = 0 := by unfold vbit; rw [Int.zero_ediv]; rfl
theorem catF_end {X : List AV} (hX : X.length = 16) {n m e o a : Int} (h : okE n m e o a) (j : Nat) :
    catF (endL X n e a) j = if j < n.toNat then bitV X j else if j < n.toNat + e.toNat then vbit a e.toNat (j - n.toNat) else 0 := by
  obtain ⟨a1, a2, b1, b2, c1, c2, c3, c4, c5, d0, d1, d2⟩ := h
  unfold endL
  simp only [catF]
  by_cases h1 : j < n.toNat
  · rw [decide_eq_true h1, if_pos h1, (getX_small a1 (by omega) (by rw [hX]; omega)).1]
    show vbit (getN X 0 n.toNat) n.toNat j = _
    rw [vbit_getN h1, Nat.zero_add]
  · rw [decide_eq_false h1, if_neg h1]
    by_cases h2 : j < n.toNat + e.toNat
    · rw [decide_eq_true (show j - n.toNat < e.toNat by omega), if_pos h2]; rfl
    · rw [decide_eq_false (show ¬ j - n.toNat < e.toNat by omega), if_neg h2]; rfl
theorem catF_v4 {Z : List AV} (hZ : Z.length = 4) {n m e o a : Int} (h : okE n m e o a) (j : Nat) :
    catF (v4L Z m e a) j = if j < m.toNat then bitV Z j else if j < m.toNat + (e - qR m e).toNat then vbit (a / 2 ^ (qR m e).toNat) (e - qR m e).toNat (j - m.toNat) else 0 := by
  obtain ⟨q0, q1, q2, q3, _⟩ := qR_ok h
  obtain ⟨a1, a2, b1, b2, c1, c2, c3, c4, c5, d0, d1, d2⟩ := h
  unfold v4L
  simp only [catF]
  by_cases h1 : j < m.toNat
  · rw [decide_eq_true h1, if_pos h1, (getX_small b1 (by omega) (by rw [hZ]; omega)).1]
    show vbit (getN Z 0 m.toNat) m.toNat j = _
    rw [vbit_getN h1, Nat.zero_add]
  · rw [decide_eq_false h1, if_neg h1]
    by_cases h2 : j < m.toNat + (e - qR m e).toNat
    · rw [decide_eq_true (show j - m.toNat < (e - qR m e).toNat by omega), if_pos h2]; rfl
    · rw [decide_eq_false (show ¬ j - m.toNat < (e - qR m e).toNat by omega), if_neg h2]
      simp only [cond_false, vbit_zero]
      cases decide (j - m.toNat - (e - qR m e).toNat < (32 - m - (e - qR m e)).toNat) <;> rfl
theorem catF_own {X Z : List AV} (hX : X.length = 16) {n m e o a : Int} (h : okE n m e o a) (j : Nat) :
    catF (ownL X Z n m e a) j = if j < n.toNat then bitV X j else if j < n.toNat + e.toNat then vbit a e.toNat (j - n.toNat) else if j < 80 then 0 else if j < 112 then bitV (v4B Z m e a) (j - 80) else if j < 128 then vbit (pidR m e a) 16 (j - 112) else 0 := by
  obtain ⟨a1, a2, b1, b2, c1, c2, c3, c4, c5, d0, d1, d2⟩ := h
  have hl : (v4B Z m e a).length = 4 := mkB_length _ _
  unfold ownL
  simp only [catF]
  by_cases h1 : j < n.toNat
  · rw [decide_eq_true h1, if_pos h1, (getX_small a1 (by omega) (by rw [hX]; omega)).1]
    show vbit (getN X 0 n.toNat) n.toNat j = _
    rw [vbit_getN h1, Nat.zero_add]
  rw [decide_eq_false h1, if_neg h1, cond_false]
  by_cases h2 : j < n.toNat + e.toNat
  · rw [decide_eq_true (show j - n.toNat < e.toNat by omega), if_pos h2]; rfl
  rw [decide_eq_false (show ¬ j - n.toNat < e.toNat by omega), if_neg h2, cond_false]
  by_cases h3 : j - n.toNat - e.toNat < (64 - (n + e)).toNat
  · rw [decide_eq_true h3, if_pos (by omega), cond_true, vbit_zero]
  rw [decide_eq_false h3, cond_false]
  have e16 : (16 : Int).toNat = 16 := rfl
  have e32 : (32 : Int).toNat = 32 := rfl
  rw [e16, e32]
  by_cases h4 : j < 80
  · rw [decide_eq_true (by omega), if_pos h4, cond_true, vbit_zero]
  rw [decide_eq_false (show ¬ j - n.toNat - e.toNat - (64 - (n + e)).toNat < 16 by omega), if_neg h4, cond_false]
  have ej : j - n.toNat - e.toNat - (64 - (n + e)).toNat - 16 = j - 80 := by omega
  rw [ej]
  by_cases h5 : j < 112
  · rw [decide_eq_true (show j - 80 < 32 by omega), if_pos h5, cond_true, (getX_small (show (0 : Int) ≤ 32 by omega) (by omega) (by rw [hl]; omega)).1, e32, vbit_getN (by omega), Nat.zero_add]
  rw [decide_eq_false (show ¬ j - 80 < 32 by omega), if_neg h5, cond_false, show j - 80 - 32 = j - 112 by omega]
  by_cases h6 : j < 128
  · rw [decide_eq_true (show j - 112 < 16 by omega), if_pos h6]; rfl
  · rw [decide_eq_false (show ¬ j - 112 < 16 by omega), if_neg h6]; rfl
theorem endB_or {X : List AV} (hu : intsB .u8 X = true) (hX : X.length = 16) {n m e o a : Int} (h : okE n m e o a) (hlow : lowB X n.toNat = true) : orX a e.toNat n.toNat X = endB X n e a := by
  have hc := catF_end hX h
  obtain ⟨a1, a2, b1, b2, c1, c2, c3, c4, c5, d0, d1, d2⟩ := h
  rw [lowB_iff] at hlow
  refine orX_is hu hX (by omega) (catF_01 _) (fun j hj => ?_) (fun j h1 h2 => hlow j h1 (by omega))
  rw [hc j]
  by_cases h1 : j < n.toNat
  · rw [if_pos h1, if_neg (by omega)]
  · rw [if_neg h1]
    by_cases h2 : j < n.toNat + e.toNat
    · rw [if_pos h2, if_pos ⟨by omega, h2⟩]
    · rw [if_neg h2, if_neg (by omega), hlow j (by omega) (by omega)]
theorem v4B_or {Z : List AV} (hu : intsB .u8 Z = true) (hZ : Z.length = 4) {n m e o a : Int} (h : okE n m e o a) (hlow : lowB Z m.toNat = true) {k : Nat} {b : Int} (hk : k = (e - qR m e).toNat) (hb : b = a / 2 ^ (qR m e).toNat) : orX b k m.toNat Z = v4B Z m e a := by
  subst hk; subst hb
  have hc := catF_v4 hZ h
  obtain ⟨q0, q1, q2, q3, _⟩ := qR_ok h
  obtain ⟨a1, a2, b1, b2, c1, c2, c3, c4, c5, d0, d1, d2⟩ := h
  rw [lowB_iff] at hlow
  refine orX_is hu hZ (by omega) (catF_01 _) (fun j hj => ?_) (fun j h1 h2 => hlow j h1 (by omega))
  rw [hc j]
  by_cases h1 : j < m.toNat
  · rw [if_pos h1, if_neg (by omega)]
  · rw [if_neg h1]
    by_cases h2 : j < m.toNat + (e - qR m e).toNat
    · rw [if_pos h2, if_pos ⟨by omega, h2⟩]
    · rw [if_neg h2, if_neg (by omega), hlow j (by omega) (by omega)]
theorem mid_01 (f : Nat → Int) (g : Nat → Int) (hf : b01 f) (hg : b01 g) (a b : Nat) : b01 (fun j => if a ≤ j ∧ j < b then g j else f j) := fun j => by
  show (if a ≤ j ∧ j < b then g j else f j) = 0 ∨ (if a ≤ j ∧ j < b then g j else f j) = 1
  split
  · exact hg j
  · exact hf j
theorem own_or {X Z : List AV} (hX : X.length = 16) {n m e o a : Int} (h : okE n m e o a) :
    orX (pidR m e a) 16 112 (orX (getX (v4B Z m e a) 0 32) 32 80 (endB X n e a)) = ownB X Z n m e a := by
  have hc := catF_end hX h
  have ho := catF_own (Z := Z) hX h
  obtain ⟨a1, a2, b1, b2, c1, c2, c3, c4, c5, d0, d1, d2⟩ := h
  have hl : (v4B Z m e a).length = 4 := mkB_length _ _
  have hE := endB_ok (X := X) (n := n) (e := e) (a := a)
  have eb : ∀ j, j < 128 → bitV (endB X n e a) j = catF (endL X n e a) j := fun j hj => mkB_bit (catF_01 _) (by omega)
  have ev : ∀ j, j < 32 → vbit (getX (v4B Z m e a) 0 32) 32 j = bitV (v4B Z m e a) j := fun j hj => by
    rw [(getX_small (show (0 : Int) ≤ 32 by omega) (by omega) (by rw [hl]; omega)).1]
    show vbit (getN (v4B Z m e a) 0 32) 32 j = _
    rw [vbit_getN hj, Nat.zero_add]
  have m1 := mid_01 (bitV (endB X n e a)) (fun j => vbit (getX (v4B Z m e a) 0 32) 32 (j - 80)) (bitV_b01 _) (fun j => vbit_01 _ _ _) 80 112
  have inner := orX_is (v := getX (v4B Z m e a) 0 32) (n := 32) (a := 80) hE.1 hE.2 (by decide) m1 (fun j hj => rfl) (fun j h1 h2 => by
    rw [eb j (by omega), hc j, if_neg (by omega), if_neg (by omega)])
  rw [inner]
  refine orX_is (mkB_u8 m1) (mkB_length _ _) (by decide) (catF_01 _) (fun j hj => ?_) (fun j h1 h2 => ?_)
  · rw [ho j]
    by_cases h6 : 112 ≤ j ∧ j < 112 + 16
    · rw [if_pos h6, if_neg (by omega), if_neg (by omega), if_neg (by omega), if_neg (by omega), if_pos (by omega)]
    · rw [if_neg h6, mkB_bit m1 hj]
      by_cases h5 : 80 ≤ j ∧ j < 112
      · rw [if_pos h5, if_neg (by omega), if_neg (by omega), if_neg (by omega), if_pos (by omega), ev _ (by omega)]
      · rw [if_neg h5, eb j (by omega), hc j]
        by_cases h1 : j < n.toNat
        · rw [if_pos h1, if_pos h1]
        · rw [if_neg h1, if_neg h1]
          by_cases h2 : j < n.toNat + e.toNat
          · rw [if_pos h2, if_pos h2]
          · rw [if_neg h2, if_neg h2, if_pos (by omega)]
  · rw [mkB_bit m1 (by omega), if_neg (by omega), eb j (by omega), hc j, if_neg (by omega), if_neg (by omega)]
theorem byteAt_b8 {xs : List AV} (hu : intsB .u8 xs = true) : b8 (byteAt xs) := fun k => by
  have := byteAt_in hu k
  rw [inK_u8, Bool.and_eq_true, decide_eq_true_eq, decide_eq_true_eq] at this
  exact this
/-- A number's next byte. -/
theorem or256 {v b : Int} (h0 : 0 ≤ v) (h1 : v < 72057594037927936) (b0 : 0 ≤ b) (b1 : b ≤ 255) : IntKind.u64.wrap ((BitVec.ofInt 64 (IntKind.u64.wrap (v * 256)) ||| BitVec.ofInt 64 (IntKind.u64.wrap b)).toNat : Int) = v * 256 + b := by
  rw [u64_of (n := v * 256) (by omega) (by omega), u64_of (n := b) (by omega) (by omega)]
  obtain ⟨m, rfl⟩ := Int.eq_ofNat_of_zero_le h0
  obtain ⟨c, rfl⟩ := Int.eq_ofNat_of_zero_le b0
  have e1 : (BitVec.ofInt 64 ((m : Int) * 256)).toNat = m * 256 := by
    rw [BitVec.toNat_ofInt]; omega
  have e2 : (BitVec.ofInt 64 (c : Int)).toNat = c := by
    rw [BitVec.toNat_ofInt]; omega
  have e3 : m * 256 ||| c = m * 256 + c := by
    have := Nat.shiftLeft_add_eq_or_of_lt (i := 8) (b := c) (by omega) m
    rw [Nat.shiftLeft_eq] at this
    exact this.symm
  rw [BitVec.toNat_or, e1, e2, e3]
  exact u64_of (by omega) (by omega)
theorem byte_sum {b : Nat} (hb : b < 256) : 2 * (2 * (2 * (2 * (2 * (2 * (2 * ((b : Int) / 128 % 2) + (b : Int) / 64 % 2) + (b : Int) / 32 % 2) + (b : Int) / 16 % 2) + (b : Int) / 8 % 2) + (b : Int) / 4 % 2) + (b : Int) / 2 % 2) + (b : Int) / 1 % 2 = b := by omega
theorem getN_byte {xs : List AV} (hu : intsB .u8 xs = true) {k : Nat} (hk : k < xs.length) : getN xs 0 (8 * k + 8) = getN xs 0 (8 * k) * 256 + byteAt xs k := by
  obtain ⟨b, hb, e⟩ := u8_get hu k hk
  have hbit : ∀ t, t < 8 → bitV xs (0 + (8 * k + t)) = (b : Int) / 2 ^ (7 - t) % 2 := by
    intro t ht
    unfold bitV
    rw [show (0 + (8 * k + t)) / 8 = k by omega, show (0 + (8 * k + t)) % 8 = t by omega, e]; rfl
  have g : getN xs 0 (8 * k + 8) = 2 * (2 * (2 * (2 * (2 * (2 * (2 * (2 * getN xs 0 (8 * k) + bitV xs (0 + (8 * k + 0))) + bitV xs (0 + (8 * k + 1))) + bitV xs (0 + (8 * k + 2))) + bitV xs (0 + (8 * k + 3))) + bitV xs (0 + (8 * k + 4))) + bitV xs (0 + (8 * k + 5))) + bitV xs (0 + (8 * k + 6))) + bitV xs (0 + (8 * k + 7)) := rfl
  have hs := byte_sum hb
  have eb : byteAt xs k = b := by unfold byteAt; rw [e]; rfl
  rw [g, hbit 0 (by omega), hbit 1 (by omega), hbit 2 (by omega), hbit 3 (by omega), hbit 4 (by omega), hbit 5 (by omega), hbit 6 (by omega), hbit 7 (by omega), eb]
  simp only [Nat.sub_zero, Nat.reduceSub, Nat.sub_self, show (2 : Int) ^ 7 = 128 from rfl, show (2 : Int) ^ 6 = 64 from rfl, show (2 : Int) ^ 5 = 32 from rfl, show (2 : Int) ^ 4 = 16 from rfl, show (2 : Int) ^ 3 = 8 from rfl, show (2 : Int) ^ 2 = 4 from rfl, show (2 : Int) ^ 1 = 2 from rfl, show (2 : Int) ^ 0 = 1 from rfl]
  omega
/-- Four bytes as a number. -/
theorem four_num {xs : List AV} (hu : intsB .u8 xs = true) (hl : xs.length = 4) {c0 c1 c2 c3 : Int} (h0 : c0 = byteAt xs 0) (h1 : c1 = byteAt xs 1) (h2 : c2 = byteAt xs 2) (h3 : c3 = byteAt xs 3) :
    IntKind.u64.wrap ((BitVec.ofInt 64 (IntKind.u64.wrap (IntKind.u64.wrap ((BitVec.ofInt 64 (IntKind.u64.wrap (IntKind.u64.wrap ((BitVec.ofInt 64 (IntKind.u64.wrap (IntKind.u64.wrap ((BitVec.ofInt 64 0 ||| BitVec.ofInt 64 (IntKind.u64.wrap c0)).toNat : Int) * 256)) ||| BitVec.ofInt 64 (IntKind.u64.wrap c1)).toNat : Int) * 256)) ||| BitVec.ofInt 64 (IntKind.u64.wrap c2)).toNat : Int) * 256)) ||| BitVec.ofInt 64 (IntKind.u64.wrap c3)).toNat : Int) = getX xs 0 32 := by
  subst h0; subst h1; subst h2; subst h3
  have hb : ∀ k, 0 ≤ byteAt xs k ∧ byteAt xs k ≤ 255 := fun k => by
    have := byteAt_in hu k
    rw [inK_u8, Bool.and_eq_true, decide_eq_true_eq, decide_eq_true_eq] at this
    exact this
  have b0 := hb 0
  have b1 := hb 1
  have b2 := hb 2
  have b3 := hb 3
  have f0 := or256 (v := 0) (b := byteAt xs 0) (by omega) (by omega) b0.1 b0.2
  rw [show IntKind.u64.wrap (0 * 256) = 0 from rfl] at f0
  rw [f0, or256 (by omega) (by omega) b1.1 b1.2, or256 (by omega) (by omega) b2.1 b2.2, or256 (by omega) (by omega) b3.1 b3.2]
  rw [(getX_small (show (0 : Int) ≤ 32 by omega) (by omega) (by rw [hl]; omega)).1]
  have g0 := getN_byte hu (k := 0) (by omega)
  have g1 := getN_byte hu (k := 1) (by omega)
  have g2 := getN_byte hu (k := 2) (by omega)
  have g3 := getN_byte hu (k := 3) (by omega)
  have z : getN xs 0 (8 * 0) = 0 := rfl
  show _ = getN xs 0 32
  rw [z] at g0
  rw [show 8 * 0 + 8 = 8 from rfl] at g0
  rw [show 8 * 1 + 8 = 16 from rfl, show 8 * 1 = 8 from rfl] at g1
  rw [show 8 * 2 + 8 = 24 from rfl, show 8 * 2 = 16 from rfl] at g2
  rw [show 8 * 3 + 8 = 32 from rfl, show 8 * 3 = 24 from rfl] at g3
  rw [g3, g2, g1, g0]

theorem re_of {sh : Sh} {v : AV} (h : sh.has v = true) : sh.re (some (.ret v, [])) [] = v := by
  have := (shOK_some (sh := sh) (r := some (.ret v, [])) (by rw [shOK_ret]; exact h)).1
  simp only [Option.some.injEq, Prod.mk.injEq, AEnd.ret.injEq, and_true] at this
  exact this.symm
def edgS : Sh := .agg [.int .u8, .int .u8, .int .u8, .int .u8, .int .i64, .int .i64, .int .i64, .int .u16, .int .u8, .int .u8, .int .u8, .int .u8, .int .u8, .int .u8, .int .u8, .int .u8, .int .u8, .int .u8, .int .u8, .int .u8, .int .u8, .int .u8, .int .u8, .int .u8, .int .i64, .int .u8, .int .u8, .int .u8, .int .u8, .int .u8, .int .u8, .int .u8, .int .u8, .int .u8, .int .u8, .int .u8, .int .u8, .int .u8, .int .u8, .int .u8, .int .u8]
theorem edgV_has {X Z : List AV} {n m e o a : Int} (h : okE n m e o a) : edgS.has (edgV X Z n m e o a) = true := by
  obtain ⟨q0, q1, q2, q3, q4, q5, q6, q7⟩ := qR_ok h
  have hp := pidR_ok h
  obtain ⟨a1, a2, b1, b2, c1, c2, c3, c4, c5, d0, d1, d2⟩ := h
  have k4 := fun k => byteAt_in (v4B_ok (Z := Z) (m := m) (e := e) (a := a)).1 k
  have kE := fun k => byteAt_in (endB_ok (X := X) (n := n) (e := e) (a := a)).1 k
  have kO := fun k => byteAt_in (ownB_ok (X := X) (Z := Z) (n := n) (m := m) (e := e) (a := a)).1 k
  have i1 : ∀ t : Int, -1000 ≤ t → t ≤ 1000 → inK .i64 t = true := fun t h1 h2 => by
    rw [inK_i64, decide_eq_true (show -9223372036854775808 ≤ t by omega), decide_eq_true (show t ≤ 9223372036854775807 by omega)]; rfl
  have i2 : inK .u16 (pidR m e a) = true := by
    rw [inK_u16, decide_eq_true hp.1, decide_eq_true (show pidR m e a ≤ 65535 by omega)]; rfl
  unfold edgS edgV
  simp only [has_agg, hasL_cons, hasL_nil, has_int, k4, kE, kO, i2, i1 (m + (e - qR m e)) (by omega) (by omega), i1 (offR m e o) (by omega) (by omega), i1 (qR m e) (by omega) (by omega), i1 (n + e) (by omega) (by omega),
    List.getD_cons_zero, List.getD_cons_succ, List.length_cons, List.length_nil, beq_self_eq_true, Bool.and_self]
theorem edgW_has {X Z : List AV} {n m e o a : Int} (h0 : 0 ≤ a) (h1 : a < 18446744073709551616) : edgS.has (edgW X Z n m e o a) = true ∧ inK .i64 (edgE X Z n m e o a) = true := by
  unfold edgW
  rcases edgE_or X Z n m e o a h0 h1 with ⟨h, _, hk, _⟩ | ⟨h, hi⟩
  · rw [h]; exact ⟨edgV_has hk, rfl⟩
  · rw [show (edgE X Z n m e o a == 0) = false from beq_eq_false_iff_ne.2 h]; exact ⟨rfl, hi⟩

end Go.Pl
