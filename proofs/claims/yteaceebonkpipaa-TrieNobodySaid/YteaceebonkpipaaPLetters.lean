/- Letters of texts. -/
import Derived.Test.YteaceebonkpipaaPRuns
import Derived.Test.YteaceebonkpipaaA21
import Derived.Laws.RangeAny
namespace Go.Pl
open Go.Abs

def byteN (s : ByteArray) (p : Nat) : Nat := (s.data.getD p 0).toNat
theorem byte_get (s : ByteArray) (p : Nat) (h : p < s.size) : (s[p]'h).toNat = byteN s p := by
  have h' : p < s.data.size := h
  unfold byteN
  rw [Array.getD_eq_getD_getElem?, Array.getElem?_eq_getElem h']
  rfl
theorem byteN_lt (s : ByteArray) (p : Nat) : byteN s p < 256 := UInt8.toNat_lt _
def letB (s : ByteArray) (p : Nat) : Bool := byteN s p == 48 || byteN s p == 49
theorem let_dec {s : ByteArray} {p : Nat} (h : p < s.size) (hl : letB s p = true) : Utf8.decode s p = (byteN s p, 1) := by
  have hb : byteN s p < 128 := by
    simp only [letB, Bool.or_eq_true, beq_iff_eq] at hl
    omega
  rw [← byte_get s p h] at hb ⊢
  exact decode_ascii s p h hb
theorem let_not {s : ByteArray} {p : Nat} (h : p < s.size) (hl : letB s p = false) : (Utf8.decode s p).1 ≠ 48 ∧ (Utf8.decode s p).1 ≠ 49 := by
  simp only [letB, Bool.or_eq_false_iff, beq_eq_false_iff_ne] at hl
  by_cases hb : byteN s p < 128
  · have e := decode_ascii s p h (by rw [byte_get s p h]; exact hb)
    rw [e, byte_get s p h]
    exact hl
  · have := (decode_high s p h (by rw [byte_get s p h]; omega)).1
    omega
theorem dec_pos {s : ByteArray} {p : Nat} (h : p < s.size) : 1 ≤ (Utf8.decode s p).2 := by
  by_cases hb : byteN s p < 128
  · have e := decode_ascii s p h (by rw [byte_get s p h]; exact hb)
    rw [e]; exact Nat.le_refl 1
  · exact (decode_high s p h (by rw [byte_get s p h]; omega)).2

/-- So many letters from a place on, and where they end. -/
def runesN (s : ByteArray) : Nat → Nat → Nat
  | 0, _ => 0
  | d + 1, p => bif decide (p < s.size) then runesN s d (p + (Utf8.decode s p).2) + 1 else 0
def endP (s : ByteArray) : Nat → Nat → Nat
  | 0, p => p
  | d + 1, p => bif decide (p < s.size) then endP s d (p + (Utf8.decode s p).2) else p
theorem runesN_le (s : ByteArray) : ∀ d p, runesN s d p ≤ d
  | 0, _ => Nat.le_refl 0
  | d + 1, p => by
    simp only [runesN]
    cases decide (p < s.size)
    · exact Nat.zero_le _
    · exact Nat.succ_le_succ (runesN_le s d _)
/-- The first place that holds no letter of a bit. -/
def firstX (s : ByteArray) : Nat → Nat → Nat
  | 0, p => p
  | d + 1, p => bif letB s p then firstX s d (p + 1) else p
theorem firstX_le (s : ByteArray) : ∀ d p, p ≤ firstX s d p ∧ firstX s d p ≤ p + d
  | 0, p => ⟨Nat.le_refl _, Nat.le_refl _⟩
  | d + 1, p => by
    simp only [firstX]
    have := firstX_le s d (p + 1)
    cases letB s p
    · simp only [cond_false]; omega
    · simp only [cond_true]; omega
theorem firstX_let (s : ByteArray) : ∀ d p j, p ≤ j → j < firstX s d p → letB s j = true
  | 0, p, j, h1, h2 => by simp only [firstX] at h2; omega
  | d + 1, p, j, h1, h2 => by
    simp only [firstX] at h2
    cases hl : letB s p
    · rw [hl, cond_false] at h2; omega
    · rw [hl, cond_true] at h2
      by_cases hj : j = p
      · subst hj; exact hl
      · exact firstX_let s d (p + 1) j (by omega) h2
theorem runesN_all {s : ByteArray} : ∀ {d p : Nat}, p + d = s.size → firstX s d p = s.size → runesN s d p = d
  | 0, p, _, _ => rfl
  | d + 1, p, h, hf => by
    have hp : p < s.size := by omega
    simp only [firstX] at hf
    cases hl : letB s p
    · rw [hl, cond_false] at hf; omega
    · rw [hl, cond_true] at hf
      simp only [runesN, decide_eq_true hp, cond_true, let_dec hp hl]
      rw [runesN_all (by omega) hf]
/-- Runs of one bit each, cell by cell, and the bits. -/
def runC (s : ByteArray) : Nat → List AV
  | 0 => []
  | j + 1 => runC s j ++ [.int .i64 1, .int .u64 ((byteN s j : Int) - 48)]
theorem runC_length (s : ByteArray) (j : Nat) : (runC s j).length = 2 * j := by
  induction j with
  | zero => rfl
  | succ j ih => simp only [runC, List.length_append, ih, List.length_cons, List.length_nil]; omega
def bitC (s : ByteArray) : Nat → List AV
  | 0 => []
  | j + 1 => bitC s j ++ [.int .u64 ((byteN s j : Int) - 48)]
theorem bitC_length (s : ByteArray) (j : Nat) : (bitC s j).length = j := by
  induction j with
  | zero => rfl
  | succ j ih => simp only [bitC, List.length_append, ih, List.length_cons, List.length_nil]

theorem flatL_app (a b : List AV) : flatL (a ++ b) = (flatL a && flatL b) := by
  induction a with
  | nil => rfl
  | cons x a ih => simp only [List.cons_append, flatL, ih, Bool.and_assoc]
theorem runC_flat (s : ByteArray) (j : Nat) : flatL (runC s j) = true := by
  induction j with
  | zero => rfl
  | succ j ih => simp only [runC, flatL_app, ih, Bool.true_and]; rfl
theorem runC_at {s : ByteArray} {i : Nat} : ∀ {j : Nat}, i < j → List.take 2 (List.drop (i * 2) (runC s j)) = [.int .i64 1, .int .u64 ((byteN s i : Int) - 48)]
  | j + 1, h => by
    have hl := runC_length s j
    simp only [runC]
    by_cases hi : i = j
    · subst hi
      rw [List.drop_append_of_le_length (by omega), List.drop_of_length_le (by omega), List.nil_append]
      rfl
    · rw [List.drop_append_of_le_length (by omega), List.take_append_of_le_length (by rw [List.length_drop]; omega)]
      exact runC_at (by omega)
def runZ (s : ByteArray) (n : Nat) : List AV := (List.range n).map fun i => .agg [.int .i64 1, .int .u64 ((byteN s i : Int) - 48)]
theorem runZ_eq (s : ByteArray) (n : Nat) : ((List.range n).map fun i => AV.agg (List.take 2 (List.drop (0 + i * 2) (runC s n)))) = runZ s n := by
  unfold runZ
  refine List.map_congr_left fun i hi => ?_
  rw [Nat.zero_add, runC_at (List.mem_range.1 hi)]
theorem runZ_length (s : ByteArray) (n : Nat) : (runZ s n).length = n := by simp [runZ]
theorem runZ_get {s : ByteArray} {n i : Nat} (h : i < n) : (runZ s n).getD i .junk = .agg [.int .i64 1, .int .u64 ((byteN s i : Int) - 48)] := by
  rw [List.getD_eq_getElem?_getD]
  simp [runZ, h]
theorem runZ_N {s : ByteArray} {n i : Nat} (h : i < n) : rN (runZ s n) i = 1 := by unfold rN; rw [runZ_get h]; rfl
theorem runZ_V {s : ByteArray} {n i : Nat} (h : i < n) : rV (runZ s n) i = (byteN s i : Int) - 48 := by unfold rV; rw [runZ_get h]; rfl
theorem let01 {s : ByteArray} {i : Nat} (h : letB s i = true) : (byteN s i : Int) - 48 = 0 ∨ (byteN s i : Int) - 48 = 1 := by
  simp only [letB, Bool.or_eq_true, beq_iff_eq] at h
  omega
theorem runZ_runs {s : ByteArray} {n : Nat} (h : ∀ i, i < n → letB s i = true) : runsB (runZ s n) = true := by
  refine List.all_eq_true.2 fun x hx => ?_
  simp only [runZ, List.mem_map, List.mem_range] at hx
  obtain ⟨i, hi, rfl⟩ := hx
  rcases let01 (h i hi) with e | e <;> rw [e] <;> rfl
theorem runZ_bad {s : ByteArray} {n : Nat} (h : ∀ i, i < n → letB s i = true) : ∀ d i, i + d ≤ n → badE (runZ s n) d i = 0
  | 0, _, _ => rfl
  | d + 1, i, hi => by
    simp only [badE, runZ_N (show i < n by omega), runZ_V (show i < n by omega)]
    rw [runZ_bad h d (i + 1) (by omega)]
    rcases let01 (h i (by omega)) with e | e <;> rw [e] <;> rfl
theorem runZ_sum {s : ByteArray} {n : Nat} : ∀ k, k ≤ n → sumR (runZ s n) k = k
  | 0, _ => rfl
  | k + 1, h => by
    rw [sumR, runZ_N (show k < n by omega), runZ_sum (s := s) (n := n) k (by omega)]
    rfl
theorem runZ_bits {s : ByteArray} {n : Nat} (h : ∀ i, i < n → letB s i = true) : ∀ k, k ≤ n → catB (runZ s n) k = bitC s k
  | 0, _ => rfl
  | k + 1, hk => by
    simp only [catB, bitC, runZ_N (show k < n by omega), runZ_V (show k < n by omega), runZ_bits h k (by omega)]
    rcases let01 (h k (by omega)) with e | e <;> rw [e] <;> rfl

def okB (s : ByteArray) : Bool := Nat.ble (runesN s s.size 0) 65536
def allB (s : ByteArray) : Bool := firstX s s.size 0 == s.size
def readX (s : ByteArray) : List AV := bif okB s && allB s then packL (bitC s s.size) else []
def readN (s : ByteArray) : Int := bif okB s && allB s then (s.size : Int) else 0
def readI (s : ByteArray) : Int := bif okB s && !(allB s) then (firstX s s.size 0 : Int) else 0
def readE (s : ByteArray) : Int := bif okB s then (bif allB s then 0 else 31) else 2
theorem allB_let {s : ByteArray} (h : allB s = true) : ∀ i, i < s.size → letB s i = true := fun i hi =>
  firstX_let s s.size 0 i (Nat.zero_le _) (by rw [show firstX s s.size 0 = s.size by simpa [allB] using h]; exact hi)
theorem readX_cat {s : ByteArray} (ho : okB s = true) (h : allB s = true) : catX (runZ s s.size) = packL (bitC s s.size) ∧ catE (runZ s s.size) = 0 ∧ s.size ≤ 65536 := by
  have hl := allB_let h
  have hn : runesN s s.size 0 = s.size := runesN_all (Nat.zero_add _) (by simpa [allB] using h)
  have h6 : s.size ≤ 65536 := by
    have := Nat.le_of_ble_eq_true ho
    omega
  have hb := runZ_bad hl s.size 0 (by omega)
  have hs := runZ_sum (s := s) (n := s.size) s.size (Nat.le_refl _)
  unfold catX catE
  rw [catP_pack, runZ_length, hb, hs, runZ_bits hl s.size (Nat.le_refl _), Nat.ble_eq_true_of_le h6]
  exact ⟨rfl, rfl, h6⟩

end Go.Pl
