/- Runs of bits. -/
import Derived.Test.YteaceebonkpipaaPBits
namespace Go.Pl
open Go.Abs

def runB (v : AV) : Bool := v.isAgg 2 && (v.cell 0).isInt .i64 && inK .i64 (v.cell 0).toInt && (v.cell 1).isInt .u64 && inK .u64 (v.cell 1).toInt
def runsB (xs : List AV) : Bool := xs.all runB
def rN (xs : List AV) (i : Nat) : Int := ((xs.getD i .junk).cell 0).toInt
def rV (xs : List AV) (i : Nat) : Int := ((xs.getD i .junk).cell 1).toInt
theorem isAgg_eq {v : AV} {n : Nat} (h : v.isAgg n = true) : ∃ cs, v = .agg cs ∧ cs.length = n := by
  cases v <;> simp [AV.isAgg] at h
  exact ⟨_, rfl, h⟩
theorem runs_get {xs : List AV} (h : runsB xs = true) (i : Nat) (hi : i < xs.length) : xs.getD i .junk = .agg [.int .i64 (rN xs i), .int .u64 (rV xs i)] ∧ (-9223372036854775808 ≤ rN xs i ∧ rN xs i ≤ 9223372036854775807) ∧ 0 ≤ rV xs i ∧ rV xs i ≤ 18446744073709551615 := by
  have h1 := List.all_eq_true.1 h xs[i] (List.getElem_mem hi)
  have e : xs.getD i .junk = xs[i] := by rw [List.getD_eq_getElem?_getD, List.getElem?_eq_getElem hi]; rfl
  unfold rN rV
  rw [e]
  simp only [runB, Bool.and_eq_true] at h1
  obtain ⟨⟨⟨⟨g1, g2⟩, g3⟩, g4⟩, g5⟩ := h1
  obtain ⟨cs, hc, hl⟩ := isAgg_eq g1
  rw [hc] at g2 g3 g4 g5 ⊢
  match cs, hl with
  | [a, b], _ =>
    simp only [AV.cell, AV.cells, List.getD_cons_zero, List.getD_cons_succ] at g2 g3 g4 g5 ⊢
    rw [← isInt_eq g2, ← isInt_eq g4]
    rw [inK_i64, Bool.and_eq_true, decide_eq_true_eq, decide_eq_true_eq] at g3
    rw [inK_u64, Bool.and_eq_true, decide_eq_true_eq, decide_eq_true_eq] at g5
    exact ⟨rfl, g3, g5⟩
theorem runsB_take {xs : List AV} (h : runsB xs = true) (n : Nat) : runsB (xs.take n) = true :=
  List.all_eq_true.2 fun x hx => List.all_eq_true.1 h x (List.mem_of_mem_take hx)

/-- The first wrong run's error. -/
def badE (xs : List AV) : Nat → Nat → Int
  | 0, _ => 0
  | d + 1, i => bif decide (rN xs i < 0) || decide (rN xs i > 64) then 30 else bif fitB (rV xs i) (rN xs i) then badE xs d (i + 1) else 1
theorem badE_ok {xs : List AV} : ∀ {d i : Nat}, badE xs d i = 0 → ∀ j, i ≤ j → j < i + d → 0 ≤ rN xs j ∧ rN xs j ≤ 64 ∧ fitB (rV xs j) (rN xs j) = true
  | 0, i, _, j, h1, h2 => by omega
  | d + 1, i, h, j, h1, h2 => by
    simp only [badE] at h
    cases c1 : decide (rN xs i < 0) || decide (rN xs i > 64) with
    | true => rw [c1] at h; simp at h
    | false =>
      rw [c1] at h
      cases c2 : fitB (rV xs i) (rN xs i) with
      | false => rw [c2] at h; simp at h
      | true =>
        rw [c2] at h
        simp only [Bool.or_eq_false_iff, decide_eq_false_iff_not] at c1
        by_cases hj : j = i
        · subst hj; exact ⟨by omega, by omega, c2⟩
        · exact badE_ok h j (by omega) (by omega)
theorem badE_cases (xs : List AV) : ∀ (d i : Nat), badE xs d i = 0 ∨ badE xs d i = 1 ∨ badE xs d i = 30
  | 0, i => .inl rfl
  | d + 1, i => by
    simp only [badE]
    cases decide (rN xs i < 0) || decide (rN xs i > 64)
    · cases fitB (rV xs i) (rN xs i)
      · exact .inr (.inl rfl)
      · exact badE_cases xs d (i + 1)
    · exact .inr (.inr rfl)

def sumR (xs : List AV) : Nat → Nat
  | 0 => 0
  | k + 1 => sumR xs k + (rN xs k).toNat
theorem sumR_mono {xs : List AV} {i j : Nat} (h : i ≤ j) : sumR xs i ≤ sumR xs j := by
  induction j with
  | zero => rw [show i = 0 by omega]; exact Nat.le_refl _
  | succ j ih =>
    by_cases hi : i = j + 1
    · subst hi; exact Nat.le_refl _
    · have := ih (by omega)
      simp only [sumR]; omega

/-- A run's bits. -/
def vbL (v : Int) (n : Nat) : List AV := (List.range n).map fun i => .int .u64 (vbit v n i)
def catB (xs : List AV) : Nat → List AV
  | 0 => []
  | k + 1 => catB xs k ++ vbL (rV xs k) (rN xs k).toNat
theorem vbL_length (v : Int) (n : Nat) : (vbL v n).length = n := by simp [vbL]
theorem catB_length (xs : List AV) (k : Nat) : (catB xs k).length = sumR xs k := by
  induction k with
  | zero => rfl
  | succ k ih => simp only [catB, List.length_append, ih, vbL_length, sumR]
theorem vbL_get {v : Int} {n i : Nat} (h : i < n) : (vbL v n).getD i .junk = .int .u64 (vbit v n i) := by
  rw [List.getD_eq_getElem?_getD]; simp [vbL, h]
theorem getD_append_left {l r : List AV} {i : Nat} (h : i < l.length) : (l ++ r).getD i .junk = l.getD i .junk := by
  rw [List.getD_eq_getElem?_getD, List.getElem?_append_left h, ← List.getD_eq_getElem?_getD]
theorem getD_append_right {l r : List AV} {i : Nat} (h : l.length ≤ i) : (l ++ r).getD i .junk = r.getD (i - l.length) .junk := by
  rw [List.getD_eq_getElem?_getD, List.getElem?_append_right h, ← List.getD_eq_getElem?_getD]
theorem catB_at {xs : List AV} {k i : Nat} : ∀ {K : Nat}, k < K → i < (rN xs k).toNat → bitAt (catB xs K) (sumR xs k + i) = vbit (rV xs k) (rN xs k).toNat i
  | K + 1, h, hi => by
    unfold bitAt
    simp only [catB]
    by_cases hk : k = K
    · subst hk
      rw [getD_append_right (by rw [catB_length]; omega), catB_length, Nat.add_sub_cancel_left, vbL_get hi]; rfl
    · have h1 : sumR xs (k + 1) ≤ sumR xs K := sumR_mono (by omega)
      simp only [sumR] at h1
      rw [getD_append_left (by rw [catB_length]; omega)]
      exact catB_at (K := K) (by omega) hi
theorem catB_bin (xs : List AV) (k : Nat) : binB (catB xs k) = true := by
  induction k with
  | zero => rfl
  | succ k ih =>
    simp only [catB, binB, List.all_append, Bool.and_eq_true]
    refine ⟨ih, List.all_eq_true.2 fun x hx => ?_⟩
    simp only [vbL, List.mem_map] at hx
    obtain ⟨j, _, rfl⟩ := hx
    rcases vbit_01 (rV xs k) (rN xs k).toNat j with h | h <;> simp [isInt_self, AV.toInt, h]
theorem putL_add (out : List AV) (f : Nat → Int) (a n : Nat) : putL out 0 f (a + n) = putL (putL out 0 f a) a (fun i => f (a + i)) n := by
  induction n with
  | zero => rfl
  | succ n ih =>
    rw [show a + (n + 1) = (a + n) + 1 by omega]
    simp only [putL, ih, Nat.zero_add]
theorem putL_congr {out : List AV} {a : Nat} {f g : Nat → Int} (n : Nat) (h : ∀ i, i < n → f i = g i) : putL out a f n = putL out a g n := by
  induction n with
  | zero => rfl
  | succ n ih => simp only [putL, ih (fun i hi => h i (by omega)), h n (by omega)]
/-- The bytes behind so many runs. -/
def catP (xs : List AV) (K k : Nat) : List AV := putL (zeros ((sumR xs K + 7) / 8)) 0 (bitAt (catB xs K)) (sumR xs k)
theorem catP_succ {xs : List AV} {K k : Nat} (h : k < K) : catP xs K (k + 1) = putL (catP xs K k) (sumR xs k) (vbit (rV xs k) (rN xs k).toNat) (rN xs k).toNat := by
  unfold catP
  simp only [sumR]
  rw [putL_add]
  exact putL_congr _ fun i hi => catB_at h hi
theorem catP_length (xs : List AV) (K k : Nat) : (catP xs K k).length = (sumR xs K + 7) / 8 := by simp [catP, putL_length, zeros]
theorem catP_u8 {xs : List AV} {K k : Nat} (h : k ≤ K) : intsB .u8 (catP xs K k) = true := by
  refine putL_u8 (zeros_u8 _) _ fun i hi => bitAt_01 (catB_bin xs K) i ?_
  rw [catB_length]
  exact Nat.lt_of_lt_of_le hi (sumR_mono h)
theorem catP_pack (xs : List AV) (K : Nat) : catP xs K K = packL (catB xs K) := by
  unfold catP packL
  rw [catB_length]
theorem catP_bit {xs : List AV} {K : Nat} (j : Nat) : bitV (catP xs K K) j = if j < sumR xs K then bitAt (catB xs K) j else 0 := by
  rw [catP_pack, packL_bit (catB_bin xs K), catB_length]

def catG (xs : List AV) (a n i : Int) : Bool := runsB xs && decide (xs.length ≤ 65536) && n == (xs.length : Int) && a == 0 && i == 0
theorem catG_of {xs : List AV} {a n i : Int} (h : catG xs a n i = true) : runsB xs = true ∧ xs.length ≤ 65536 ∧ n = (xs.length : Int) ∧ a = 0 ∧ i = 0 := by
  simp only [catG, Bool.and_eq_true, decide_eq_true_eq, beq_iff_eq] at h
  obtain ⟨⟨⟨⟨h1, h2⟩, h3⟩, h4⟩, h5⟩ := h
  exact ⟨h1, h2, h3, h4, h5⟩
theorem catG_ok {xs : List AV} (h1 : runsB xs = true) (h2 : xs.length ≤ 65536) : catG xs 0 (xs.length : Int) 0 = true := by
  simp only [catG, Bool.and_eq_true, decide_eq_true_eq, beq_iff_eq]
  exact ⟨⟨⟨⟨h1, h2⟩, trivial⟩, trivial⟩, trivial⟩

/-- Bits that are a number's are that number. -/
theorem getN_vbit {xs : List AV} {a n : Nat} {v : Int} (hv : 0 ≤ v) (hf : v < 2 ^ n) (h : ∀ i, i < n → bitV xs (a + i) = vbit v n i) : getN xs a n = v := by
  have key : ∀ j, j ≤ n → getN xs a j = v / 2 ^ (n - j) := by
    intro j
    induction j with
    | zero => intro _; simp only [getN]; exact (Int.ediv_eq_zero_of_lt hv hf).symm
    | succ j ih =>
      intro hj
      simp only [getN]
      rw [ih (by omega), h j (by omega)]
      unfold vbit
      have e : n - j = (n - 1 - j) + 1 := by omega
      have e2 : n - (j + 1) = n - 1 - j := by omega
      rw [e, e2, Int.pow_succ, ← Int.ediv_ediv_of_nonneg (Int.le_of_lt (Int.pow_pos (by decide)))]
      omega
  have := key n (Nat.le_refl _)
  rwa [Nat.sub_self, Int.pow_zero, Int.ediv_one] at this
theorem fit_lt {v n : Int} (hn : 0 ≤ n) (h1 : v < 18446744073709551616) (h64 : n ≤ 64) (h : fitB v n = true) : v < 2 ^ n.toNat := by
  simp only [fitB, Bool.or_eq_true, decide_eq_true_eq] at h
  rcases h with h | h
  · have : n.toNat = 64 := by omega
    rw [this]; exact h1
  · have hp : (0 : Int) < 2 ^ n.toNat := Int.pow_pos (by decide)
    rcases Int.lt_or_le v (2 ^ n.toNat) with hlt | hge
    · exact hlt
    · exfalso
      have := Int.ediv_le_ediv hp hge
      rw [Int.ediv_self (by omega), h] at this
      omega

theorem ints_upto {k : IntKind} {h : Nat} : ∀ {xs : List AV}, intsB k xs = true → AV.uptoL h xs = true
  | [], _ => rfl
  | v :: r, hx => by
    simp only [intsB, Bool.and_eq_true] at hx
    rw [isInt_eq hx.1.1]
    simp only [AV.uptoL, AV.upto, ints_upto hx.2, Bool.and_self]
def catG2 (w ver len : Nat) (xs ys : List AV) : Bool := w == ver && len == (sumR xs xs.length + 7) / 8 && Nat.ble (sumR xs xs.length) 65536 && badE xs xs.length 0 == 0 && ys.length == len && zeroB ys
theorem catG2_of {w ver len : Nat} {xs ys : List AV} (h : catG2 w ver len xs ys = true) : w = ver ∧ len = (sumR xs xs.length + 7) / 8 ∧ sumR xs xs.length ≤ 65536 ∧ badE xs xs.length 0 = 0 ∧ ys = catP xs xs.length 0 := by
  simp only [catG2, Bool.and_eq_true, beq_iff_eq] at h
  obtain ⟨⟨⟨⟨⟨h1, h2⟩, h3⟩, h4⟩, h5⟩, h6⟩ := h
  refine ⟨h1, h2, Nat.le_of_ble_eq_true h3, h4, ?_⟩
  have := zeroB_is h6
  rw [h5, h2] at this
  exact this
theorem catG2_ok {w : Nat} {xs : List AV} {m : Nat} (hm : m = (sumR xs xs.length + 7) / 8) (h3 : sumR xs xs.length ≤ 65536) (h4 : badE xs xs.length 0 = 0) : catG2 w w m xs (zeros m) = true := by
  simp only [catG2, Bool.and_eq_true, beq_iff_eq]
  exact ⟨⟨⟨⟨⟨trivial, hm⟩, Nat.ble_eq_true_of_le h3⟩, h4⟩, by simp [zeros]⟩, zeroB_zeros m⟩
/-- Runs as bytes. -/
def catE (xs : List AV) : Int := bif badE xs xs.length 0 == 0 then (bif Nat.ble (sumR xs xs.length) 65536 then 0 else 3) else badE xs xs.length 0
def catX (xs : List AV) : List AV := bif badE xs xs.length 0 == 0 then (bif Nat.ble (sumR xs xs.length) 65536 then catP xs xs.length xs.length else []) else []

/-- Are the runs found at their places? -/
def runsIn (bs xs : List AV) : Bool := intsB .u8 bs && decide (bs.length ≤ 1000000) && (List.range xs.length).all fun j => getX bs (sumR xs j : Int) (rN xs j) == rV xs j && getE bs.length (sumR xs j : Int) (rN xs j) == 0
theorem runsIn_of {bs xs : List AV} (h : runsIn bs xs = true) : intsB .u8 bs = true ∧ bs.length ≤ 1000000 ∧ ∀ j, j < xs.length → getX bs (sumR xs j : Int) (rN xs j) = rV xs j ∧ getE bs.length (sumR xs j : Int) (rN xs j) = 0 := by
  simp only [runsIn, Bool.and_eq_true, decide_eq_true_eq, List.all_eq_true, beq_iff_eq] at h
  exact ⟨h.1.1, h.1.2, fun j hj => h.2 j (List.mem_range.2 hj)⟩
theorem runsIn_cat {xs : List AV} (hr : runsB xs = true) (hb : badE xs xs.length 0 = 0) (hs : sumR xs xs.length ≤ 65536) : runsIn (catP xs xs.length xs.length) xs = true := by
  simp only [runsIn, Bool.and_eq_true, decide_eq_true_eq, List.all_eq_true, beq_iff_eq]
  refine ⟨⟨catP_u8 (Nat.le_refl _), by rw [catP_length]; omega⟩, fun j hj => ?_⟩
  have hj := List.mem_range.1 hj
  obtain ⟨b0, b1, b2⟩ := badE_ok hb j (by omega) (by omega)
  obtain ⟨_, _, v0, v1⟩ := runs_get hr j hj
  have hm1 := sumR_mono (xs := xs) (show j + 1 ≤ xs.length by omega)
  simp only [sumR] at hm1
  have ht : thereB (catP xs xs.length xs.length).length (sumR xs j : Int) (rN xs j) = true := by
    simp only [thereB, Bool.and_eq_true, decide_eq_true_eq, catP_length]
    exact ⟨⟨⟨by omega, b0⟩, by omega⟩, by omega⟩
  unfold getX getE
  rw [ht, decide_eq_false (show ¬ rN xs j > 64 by omega)]
  refine ⟨?_, rfl⟩
  show getN _ _ _ = _
  rw [Int.toNat_natCast]
  exact getN_vbit v0 (fit_lt b0 (by omega) b1 b2) fun i hi => by rw [catP_bit, if_pos (by omega), catB_at hj hi]

/-- Runs that a law is handed. -/
def runsT (xs : List AV) : Prop := ∃ ys fl, xs = [.fs 2 ys fl] ∧ ys.length ≤ maxLen ∧ (fl ≠ .any → ys = []) ∧ ∀ y ∈ ys, seqP [intT .i64, intT .u64] y.cells ∧ ((true : Bool) = true → ∃ zs, y = .agg zs) ∧ ((true : Bool) = false → y.cells = [y])
theorem runsArg {E : Env} {f t : Nat} {x : AV} (h : argV E f t x) (hT : ∀ xs, argT E f t xs = runsT xs) (ha : aggT E t = false) : ∃ ys fl, x = .fs 2 ys fl ∧ ys.length ≤ maxLen ∧ (fl ≠ .any → ys = []) ∧ runsB ys = true := by
  obtain ⟨ys, fl, e, h1, h2, h3⟩ := oneArg h hT ha
  refine ⟨ys, fl, by simpa using e, h1, h2, List.all_eq_true.2 fun y hy => ?_⟩
  obtain ⟨q1, q2, _⟩ := h3 y hy
  obtain ⟨zs, rfl⟩ := q2 rfl
  obtain ⟨a, b, e, ha, hb⟩ := ints2 q1
  simp only [AV.cells] at e
  subst e
  simp only [runB, Bool.and_eq_true]
  exact ⟨⟨⟨⟨rfl, rfl⟩, inK_of ha⟩, rfl⟩, inK_of hb⟩

/-- The reference's bits, a run at a time. -/
def catI (xs : List AV) (i n j : Int) : Bool := runsB xs && decide (xs.length ≤ 65536) && decide (0 ≤ i) && decide (i < (xs.length : Int)) && decide (0 ≤ n) && decide (n ≤ 64) && j == 0
theorem catI_of {xs : List AV} {i n j : Int} (h : catI xs i n j = true) : runsB xs = true ∧ xs.length ≤ 65536 ∧ 0 ≤ i ∧ i < (xs.length : Int) ∧ 0 ≤ n ∧ n ≤ 64 ∧ j = 0 := by
  simp only [catI, Bool.and_eq_true, decide_eq_true_eq, beq_iff_eq] at h
  obtain ⟨⟨⟨⟨⟨⟨h1, h2⟩, h3⟩, h4⟩, h5⟩, h6⟩, h7⟩ := h
  exact ⟨h1, h2, h3, h4, h5, h6, h7⟩
theorem catI_ok {xs : List AV} {i n : Int} (h1 : runsB xs = true) (h2 : xs.length ≤ 65536) (h3 : 0 ≤ i) (h4 : i < (xs.length : Int)) (h5 : 0 ≤ n) (h6 : n ≤ 64) : catI xs i n 0 = true := by
  simp only [catI, Bool.and_eq_true, decide_eq_true_eq, beq_iff_eq]
  exact ⟨⟨⟨⟨⟨⟨h1, h2⟩, h3⟩, h4⟩, h5⟩, h6⟩, trivial⟩
def rowG (w ver len : Nat) (ys : List AV) : Bool := w == ver && ver == len && len == ys.length && Nat.ble 1 len && Nat.ble len 65536
theorem rowG_of {w ver len : Nat} {ys : List AV} (h : rowG w ver len ys = true) : w = ver ∧ ver = len ∧ len = ys.length ∧ 1 ≤ len ∧ len ≤ 65536 := by
  simp only [rowG, Bool.and_eq_true, beq_iff_eq] at h
  obtain ⟨⟨⟨⟨h1, h2⟩, h3⟩, h4⟩, h5⟩ := h
  exact ⟨h1, h2, h3, Nat.le_of_ble_eq_true h4, Nat.le_of_ble_eq_true h5⟩
theorem rowG_ok {ys : List AV} (h1 : 1 ≤ ys.length) (h2 : ys.length ≤ 65536) : rowG ys.length ys.length ys.length ys = true := by
  simp only [rowG, Bool.and_eq_true, beq_iff_eq]
  exact ⟨⟨⟨⟨trivial, trivial⟩, trivial⟩, Nat.ble_eq_true_of_le h1⟩, Nat.ble_eq_true_of_le h2⟩
def vbM (v : Int) (n j d : Nat) : List AV := (List.range d).map fun i => .int .u64 (vbit v n (j + i))
theorem vbM_zero (v : Int) (n : Nat) : vbM v n 0 n = vbL v n := by
  unfold vbM vbL
  simp only [Nat.zero_add]
theorem vbM_succ (v : Int) (n j d : Nat) : vbM v n j (d + 1) = .int .u64 (vbit v n j) :: vbM v n (j + 1) d := by
  unfold vbM
  rw [List.range_succ_eq_map, List.map_cons, List.map_map, Nat.add_zero]
  congr 1
  refine List.map_congr_left fun x _ => ?_
  show AV.int .u64 (vbit v n (j + (x + 1))) = _
  rw [show j + (x + 1) = j + 1 + x by omega]
/-- What the reference holds behind so many runs: nothing more once it were too many. -/
def outF (xs : List AV) : Nat → List AV
  | 0 => []
  | k + 1 => bif Nat.ble (sumR xs (k + 1)) 65536 then outF xs k ++ vbL (rV xs k) (rN xs k).toNat else outF xs k
theorem outF_cat {xs : List AV} : ∀ {k : Nat}, sumR xs k ≤ 65536 → outF xs k = catB xs k
  | 0, _ => rfl
  | k + 1, h => by
    have h1 := sumR_mono (xs := xs) (show k ≤ k + 1 by omega)
    simp only [outF, catB]
    rw [Nat.ble_eq_true_of_le h, cond_true, outF_cat (by omega)]
theorem outF_le (xs : List AV) (k : Nat) : (outF xs k).length ≤ 65536 := by
  induction k with
  | zero => simp [outF]
  | succ k ih =>
    cases h : Nat.ble (sumR xs (k + 1)) 65536
    · simp only [outF, h, cond_false]; exact ih
    · have h1 := Nat.le_of_ble_eq_true h
      rw [outF_cat h1, catB_length]; exact h1

theorem badE_one (xs : List AV) (d i : Nat) : badE xs (d + 1) i = bif badE xs 1 i == 0 then badE xs d (i + 1) else badE xs 1 i := by
  simp only [badE]
  cases decide (rN xs i < 0) || decide (rN xs i > 64)
  · cases fitB (rV xs i) (rN xs i) <;> rfl
  · rfl
/-- The first wrong run's place. -/
def stopI (xs : List AV) : Nat → Nat → Nat
  | 0, i => i
  | d + 1, i => bif badE xs 1 i == 0 then stopI xs d (i + 1) else i
theorem stopI_all {xs : List AV} : ∀ {d i : Nat}, badE xs d i = 0 → stopI xs d i = i + d
  | 0, i, _ => rfl
  | d + 1, i, h => by
    rw [badE_one] at h
    simp only [stopI]
    cases hb : badE xs 1 i == 0
    · rw [hb, cond_false] at h
      rw [h] at hb
      exact absurd hb (by decide)
    · rw [hb, cond_true] at h
      rw [cond_true, stopI_all h]
      omega
def manyB (xs : List AV) (k : Nat) : Bool := !(Nat.ble (sumR xs k) 65536)

/-- Bits as letters. -/
def setT (ys xs : List AV) (a : Nat) : Nat → List AV
  | 0 => ys
  | j + 1 => (setT ys xs a j).set j (.int .u8 (48 + bitV xs (a + j)))
theorem setT_length (ys xs : List AV) (a j : Nat) : (setT ys xs a j).length = ys.length := by
  induction j with
  | zero => rfl
  | succ j ih => simp only [setT, List.length_set, ih]
theorem setT_u8 {ys xs : List AV} {a : Nat} (h : intsB .u8 ys = true) (j : Nat) : intsB .u8 (setT ys xs a j) = true := by
  induction j with
  | zero => exact h
  | succ j ih =>
    have := bitV_01 xs (a + j)
    exact intsB_set ih (by rw [show inK .u8 (48 + bitV xs (a + j)) = (decide (0 ≤ 48 + bitV xs (a + j)) && decide (48 + bitV xs (a + j) ≤ 255)) from rfl, Bool.and_eq_true, decide_eq_true_eq, decide_eq_true_eq]; omega)
def textG (w ver len : Nat) (ys xs : List AV) (a x i : Int) : Bool := w == ver && ys.length == len && decide (xs.length ≤ 1000000) && intsB .u8 xs && decide (0 ≤ a) && i == 0 && x == (len : Int) && decide (a + (len : Int) ≤ 8 * (xs.length : Int))
theorem textG_of {w ver len : Nat} {ys xs : List AV} {a x i : Int} (h : textG w ver len ys xs a x i = true) : w = ver ∧ ys.length = len ∧ xs.length ≤ 1000000 ∧ intsB .u8 xs = true ∧ 0 ≤ a ∧ i = 0 ∧ x = (len : Int) ∧ a + (len : Int) ≤ 8 * (xs.length : Int) := by
  simp only [textG, Bool.and_eq_true, decide_eq_true_eq, beq_iff_eq] at h
  obtain ⟨⟨⟨⟨⟨⟨⟨h1, h2⟩, h3⟩, h4⟩, h5⟩, h6⟩, h7⟩, h8⟩ := h
  exact ⟨h1, h2, h3, h4, h5, h6, h7, h8⟩
theorem textG_ok {w len : Nat} {ys xs : List AV} {a : Int} (h2 : ys.length = len) (h3 : xs.length ≤ 1000000) (h4 : intsB .u8 xs = true) (h5 : 0 ≤ a) (h8 : a + (len : Int) ≤ 8 * (xs.length : Int)) : textG w w len ys xs a (len : Int) 0 = true := by
  simp only [textG, Bool.and_eq_true, decide_eq_true_eq, beq_iff_eq]
  exact ⟨⟨⟨⟨⟨⟨⟨trivial, h2⟩, h3⟩, h4⟩, h5⟩, trivial⟩, trivial⟩, h8⟩

def textV (xs : List AV) (a n : Int) : ByteArray := bif thereB xs.length a n then ByteArray.mk (Array.mk ((setT (zeros n.toNat) xs a.toNat n.toNat).map fun v => UInt8.ofNat v.toInt.toNat)) else ByteArray.mk (Array.mk [])

end Go.Pl
