/- Loops that go on by a test; what later fragments have of IPv4's options, in plain words. -/
import Derived.Test.YtohfnoepdbkkeaaPIter
import Derived.Test.YtohfnoepdbkkeaaPPort
namespace Go.Pl
open Go.Abs

/-- A loop that goes on by a test. -/
def whileF {σ : Type} (c : σ → Bool) (f : σ → σ) : Nat → σ → σ
  | 0, s => s
  | n + 1, s => bif c s then whileF c f n (f s) else s
theorem iter_while {σ : Type} {F : ATs → AH → KC → Res} {ts : σ → ATs} {H : σ → AH} {c : σ → Bool} {f : σ → σ} {I : σ → Prop} {μ : σ → Nat} {ee : σ → AExit} {te : σ → ATs} {He : σ → AH}
    (h1 : ∀ s, I s → c s = true → I (f s) ∧ μ (f s) < μ s ∧ ∀ k, F (ts s) (H s) k = k .normal (ts (f s)) (H (f s)))
    (h2 : ∀ s, I s → c s = false → ee s ≠ .normal ∧ ∀ k, F (ts s) (H s) k = k (ee s) (te s) (He s)) :
    ∀ n s, μ s ≤ n → I s → ∃ m, ∀ k, aIterK m F (ts s) (H s) k = k (ee (whileF c f n s)) (te (whileF c f n s)) (He (whileF c f n s))
  | 0, s, hm, hI => by
    cases hc : c s with
    | true => have := (h1 s hI hc).2.1; omega
    | false => exact ⟨1, fun k => iter_exit (h2 s hI hc).1 (h2 s hI hc).2 0 k⟩
  | n + 1, s, hm, hI => by
    cases hc : c s with
    | true =>
      obtain ⟨g1, g2, g3⟩ := h1 s hI hc
      obtain ⟨m, hm'⟩ := iter_while h1 h2 n (f s) (by omega) g1
      refine ⟨m + 1, fun k => ?_⟩
      have e : whileF c f (n + 1) s = whileF c f n (f s) := by simp only [whileF]; rw [hc]; rfl
      rw [iter_next g3, hm' k, e]
    | false =>
      have e : whileF c f (n + 1) s = s := by simp only [whileF]; rw [hc]; rfl
      rw [e]
      exact ⟨1, fun k => iter_exit (h2 s hI hc).1 (h2 s hI hc).2 0 k⟩
theorem whileF_off {σ : Type} {c : σ → Bool} {f : σ → σ} {s : σ} (h : c s = false) : ∀ n, whileF c f n s = s
  | 0 => rfl
  | n + 1 => by simp only [whileF]; rw [h]; rfl
theorem whileF_on {σ : Type} {c : σ → Bool} {f : σ → σ} {s : σ} (h : c s = true) (n : Nat) : whileF c f (n + 1) s = whileF c f n (f s) := by simp only [whileF]; rw [h]; rfl

/-- A slice's elements, of more cells than one. -/
def chunkG (sz off len : Nat) (cs : List AV) : List AV := (List.range len).map fun i => .agg ((cs.drop (off + i * sz)).take sz) -- Nx
def bAt (xs : List AV) (i : Nat) : Int := (xs.getD i .junk).toInt
/-- Is there no option at a place? -/
def copStop (xs : List AV) (i : Nat) : Bool := bAt xs i == 0 || (!(bAt xs i == 1) && (decide (xs.length ≤ i + 1) || (decide (bAt xs (i + 1) < 2) || decide (bAt xs (i + 1) > ((xs.length - i : Nat) : Int)))))
def copF (xs : List AV) (s : Nat × List AV) : Nat × List AV := bif copStop xs s.1 then (xs.length, s.2) else bif bAt xs s.1 == 1 then (s.1 + 1, s.2) else (s.1 + (bAt xs (s.1 + 1)).toNat, bif decide (128 ≤ bAt xs s.1) then s.2 ++ (xs.take (s.1 + (bAt xs (s.1 + 1)).toNat)).drop s.1 else s.2)
def copC (xs : List AV) (s : Nat × List AV) : Bool := decide (s.1 < xs.length)
def copD (xs : List AV) (s : Nat × List AV) : Bool := decide (s.1 < xs.length) && !copStop xs s.1
def copL (xs : List AV) : List AV := (whileF (copC xs) (copF xs) xs.length (0, [])).2
def padC (l : List AV) : Bool := !(l.length % 4 == 0)
def padF (l : List AV) : List AV := l ++ [.int .u8 0]
def padL (l : List AV) : List AV := whileF padC padF 4 l
/-- What later fragments have. -/
def copiedL (xs : List AV) : List AV := padL (copL xs)
def isNil (l : List AV) : Bool := l.isEmpty
def copFl (xs : List AV) : SF := bif isNil (copL xs) then .nil else .any
def slB (l : List AV) : AV := match l with
  | [] => .fs 0 [] .nil
  | _ :: _ => .sl 0 l.length 0 l.length 1
def hpB (l : List AV) : AH := match l with
  | [] => []
  | _ :: _ => [.cells l.length l]
theorem slB_ne {l : List AV} (h : isNil l = false) : slB l = .sl 0 l.length 0 l.length 1 := by
  cases l with
  | nil => cases h
  | cons => rfl
theorem hpB_ne {l : List AV} (h : isNil l = false) : hpB l = [.cells l.length l] := by
  cases l with
  | nil => cases h
  | cons => rfl
theorem isNil_app {l m : List AV} (h : m ≠ []) : isNil (l ++ m) = false := by
  cases l with
  | nil => cases m with
    | nil => exact absurd rfl h
    | cons => rfl
  | cons => rfl
theorem isNil_eq {l : List AV} (h : isNil l = true) : l = [] := by
  cases l with
  | nil => rfl
  | cons => cases h

theorem copD_C {xs : List AV} : ∀ (n : Nat) (s : Nat × List AV), xs.length - s.1 ≤ n → (whileF (copD xs) (copF xs) n s).2 = (whileF (copC xs) (copF xs) n s).2
  | 0, s, _ => rfl
  | n + 1, s, h => by
    cases hc : copC xs s with
    | false => rw [whileF_off hc, whileF_off (show copD xs s = false by unfold copD; unfold copC at hc; rw [hc]; rfl)]
    | true =>
      rw [whileF_on hc]
      cases hs : copStop xs s.1 with
      | true =>
        have e : copF xs s = (xs.length, s.2) := by unfold copF; rw [hs]; rfl
        rw [whileF_off (show copD xs s = false by unfold copD; rw [hs]; simp), e, whileF_off (show copC xs (xs.length, s.2) = false by unfold copC; simp)]
      | false =>
        rw [whileF_on (show copD xs s = true by unfold copD; unfold copC at hc; rw [hc, hs]; rfl)]
        refine copD_C n _ ?_
        have hlt : s.1 < xs.length := by unfold copC at hc; simpa using hc
        unfold copF
        rw [hs]
        unfold copStop at hs
        simp only [Bool.or_eq_false_iff] at hs
        cases h1 : bAt xs s.1 == 1 with
        | true => simp only [cond_false, cond_true]; omega
        | false =>
          rw [h1] at hs
          simp only [Bool.not_false, Bool.true_and, Bool.or_eq_false_iff, decide_eq_false_iff_not] at hs
          simp only [cond_false]; omega
/-- A step goes on. -/
theorem copF_lt {xs : List AV} {s : Nat × List AV} (h : s.1 < xs.length) : s.1 < (copF xs s).1 ∧ (copF xs s).1 ≤ xs.length := by
  unfold copF
  cases hs : copStop xs s.1 with
  | true => simp only [cond_true]; omega
  | false =>
    unfold copStop at hs
    simp only [Bool.or_eq_false_iff] at hs
    cases h1 : bAt xs s.1 == 1 with
    | true => simp only [cond_false, cond_true]; omega
    | false =>
      rw [h1] at hs
      simp only [Bool.not_false, Bool.true_and, Bool.or_eq_false_iff, decide_eq_false_iff_not] at hs
      simp only [cond_false]; omega
theorem seg_len {xs : List AV} {i n : Nat} (h : i + n ≤ xs.length) : ((xs.take (i + n)).drop i).length = n := by rw [List.length_drop, List.length_take]; omega
theorem copF_len {xs : List AV} {s : Nat × List AV} (h : s.1 < xs.length) (hl : s.2.length ≤ s.1) : (copF xs s).2.length ≤ (copF xs s).1 := by
  unfold copF
  cases hs : copStop xs s.1 with
  | true => simp only [cond_true]; omega
  | false =>
    unfold copStop at hs
    simp only [Bool.or_eq_false_iff] at hs
    cases h1 : bAt xs s.1 == 1 with
    | true => simp only [cond_false, cond_true]; omega
    | false =>
      rw [h1] at hs
      simp only [Bool.not_false, Bool.true_and, Bool.or_eq_false_iff, decide_eq_false_iff_not] at hs
      simp only [cond_false]
      cases decide (128 ≤ bAt xs s.1) with
      | true => simp only [cond_true]; rw [List.length_append, seg_len (by omega)]; omega
      | false => simp only [cond_false]; omega
theorem intsB_append {k : IntKind} : ∀ {xs ys : List AV}, intsB k xs = true → intsB k ys = true → intsB k (xs ++ ys) = true
  | [], ys, _, h => h
  | x :: xs, ys, h, g => by
    simp only [intsB, Bool.and_eq_true] at h
    show ((x.isInt k && inK k x.toInt) && intsB k (xs ++ ys)) = true
    rw [h.1.1, h.1.2, intsB_append h.2 g]; rfl
theorem intsB_drop {k : IntKind} : ∀ {xs : List AV} (n : Nat), intsB k xs = true → intsB k (xs.drop n) = true
  | xs, 0, h => h
  | [], n + 1, h => h
  | x :: xs, n + 1, h => by
    simp only [intsB, Bool.and_eq_true] at h
    exact intsB_drop n h.2
theorem copF_ints {xs : List AV} {s : Nat × List AV} (hx : intsB .u8 xs = true) (h : intsB .u8 s.2 = true) : intsB .u8 (copF xs s).2 = true := by
  unfold copF
  cases copStop xs s.1
  · cases bAt xs s.1 == 1
    · cases decide (128 ≤ bAt xs s.1)
      · exact h
      · exact intsB_append h (intsB_drop _ (intsB_take hx _))
    · exact h
  · exact h
theorem copL_inv {xs : List AV} (hx : intsB .u8 xs = true) : ∀ n (s : Nat × List AV), s.1 ≤ xs.length → s.2.length ≤ s.1 → intsB .u8 s.2 = true →
    intsB .u8 (whileF (copC xs) (copF xs) n s).2 = true ∧ (whileF (copC xs) (copF xs) n s).2.length ≤ xs.length
  | 0, s, h1, h2, h3 => ⟨h3, by show s.2.length ≤ _; omega⟩
  | n + 1, s, h1, h2, h3 => by
    cases hc : copC xs s with
    | false => rw [whileF_off hc]; exact ⟨h3, by omega⟩
    | true =>
      rw [whileF_on hc]
      have hlt : s.1 < xs.length := by unfold copC at hc; simpa using hc
      exact copL_inv hx n _ (copF_lt hlt).2 (copF_len hlt h2) (copF_ints hx h3)
theorem copL_ok {xs : List AV} (hx : intsB .u8 xs = true) : intsB .u8 (copL xs) = true ∧ (copL xs).length ≤ xs.length := copL_inv hx _ _ (Nat.zero_le _) (Nat.le_refl _) rfl
theorem padF_ints : ∀ n (l : List AV), intsB .u8 l = true → intsB .u8 (whileF padC padF n l) = true ∧ (whileF padC padF n l).length ≤ l.length + n ∧ (isNil l = false → isNil (whileF padC padF n l) = false)
  | 0, l, h => ⟨h, Nat.le_refl _, fun h => h⟩
  | n + 1, l, h => by
    cases hc : padC l with
    | false => rw [whileF_off hc]; exact ⟨h, by omega, fun h => h⟩
    | true =>
      rw [whileF_on hc]
      obtain ⟨g1, g2, g3⟩ := padF_ints n (padF l) (intsB_append h (by rfl))
      refine ⟨g1, ?_, fun _ => g3 (isNil_app (by simp))⟩
      have : (padF l).length = l.length + 1 := by unfold padF; rw [List.length_append]; rfl
      omega
theorem padL_nil : padL [] = [] := rfl
theorem copiedL_ok {xs : List AV} (hx : intsB .u8 xs = true) : intsB .u8 (copiedL xs) = true ∧ (copiedL xs).length ≤ xs.length + 4 := by
  obtain ⟨h1, h2⟩ := copL_ok hx
  obtain ⟨g1, g2, _⟩ := padF_ints 4 _ h1
  exact ⟨g1, by show (whileF padC padF 4 (copL xs)).length ≤ _; omega⟩

theorem copF_stop {xs out : List AV} {j : Nat} (h : copStop xs j = true) : copF xs (j, out) = (xs.length, out) := by unfold copF; rw [h]; rfl
theorem copStop_0 {xs : List AV} {j : Nat} (h : bAt xs j = 0) : copStop xs j = true := by unfold copStop; rw [h]; rfl
theorem copStop_1 {xs : List AV} {j : Nat} (h : bAt xs j = 1) : copStop xs j = false := by unfold copStop; rw [h]; rfl
theorem copStop_n {xs : List AV} {j : Nat} (h0 : bAt xs j ≠ 0) (h1 : bAt xs j ≠ 1) : copStop xs j = (decide (xs.length ≤ j + 1) || (decide (bAt xs (j + 1) < 2) || decide (bAt xs (j + 1) > ((xs.length - j : Nat) : Int)))) := by
  unfold copStop
  rw [beq_eq_false_iff_ne.2 h0, beq_eq_false_iff_ne.2 h1]; rfl
theorem copF_1 {xs out : List AV} {j : Nat} (h : bAt xs j = 1) : copF xs (j, out) = (j + 1, out) := by
  unfold copF
  show (bif copStop xs j then _ else _) = _
  rw [copStop_1 h, h]; rfl
theorem copF_n {xs out : List AV} {j c : Nat} (h : copStop xs j = false) (h1 : bAt xs j ≠ 1) (hc : bAt xs (j + 1) = (c : Int)) : copF xs (j, out) = (j + c, bif decide (128 ≤ bAt xs j) then out ++ (xs.take (j + c)).drop j else out) := by
  unfold copF
  show (bif copStop xs j then _ else _) = _
  rw [h, hc, beq_eq_false_iff_ne.2 h1, Int.toNat_natCast]; rfl
theorem cells_int (k : IntKind) (n : Int) : (AV.int k n).cells = [AV.int k n] := rfl
theorem toInt_int (k : IntKind) (n : Int) : (AV.int k n).toInt = n := rfl
theorem isInt_u8 (n : Int) : (AV.int .u8 n).isInt .u8 = true := rfl
theorem len_beq1 (x : AV) : ([x].length == 1) = true := rfl
theorem getD_one (x d : AV) : [x].getD 0 d = x := rfl
theorem take_put {out seg : List AV} (n : Nat) : out.take (out.length * 1) ++ seg ++ out.drop (out.length * 1 + n) = out ++ seg := by
  rw [Nat.mul_one, List.take_length, List.drop_eq_nil_of_le (by omega), List.append_nil]

theorem copC_end (xs : List AV) : ∀ (n : Nat) (s : Nat × List AV), xs.length - s.1 ≤ n → s.1 ≤ xs.length → (whileF (copC xs) (copF xs) n s).1 = xs.length
  | 0, s, h, h2 => by show s.1 = _; omega
  | n + 1, s, h, h2 => by
    cases hc : copC xs s with
    | false => rw [whileF_off hc]; unfold copC at hc; simp at hc; omega
    | true =>
      rw [whileF_on hc]
      have hlt : s.1 < xs.length := by unfold copC at hc; simpa using hc
      have := copF_lt hlt
      exact copC_end xs n _ (by omega) this.2

def docT (xs : List AV) (i : Nat) : Nat × AV := bif decide (i < xs.length) && !(bAt xs i == 0) then (49, .bool true) else (16, .bool false)
def copI (xs : List AV) : Nat := (whileF (copD xs) (copF xs) xs.length (0, [])).1

/-- How a copy of a slice's bytes is made. -/
def cloF (xs : List AV) (fl : SF) : SF := bif isNil xs then zeroCap fl else .any

/-- A nil slice is empty. -/
def okF (xs : List AV) (f : SF) : Bool := match f with
  | .nil => isNil xs
  | _ => true
theorem okF_clo (xs : List AV) (f : SF) : okF xs (cloF xs f) = true := by
  unfold cloF
  cases h : isNil xs with
  | false => rfl
  | true => cases f <;> first | exact h | rfl
theorem okF_cop (xs : List AV) : okF (copiedL xs) (copFl xs) = true := by
  unfold copFl
  cases h : isNil (copL xs) with
  | false => rfl
  | true =>
    show isNil (copiedL xs) = true
    unfold copiedL
    rw [isNil_eq h]; rfl
theorem okF_take {xs : List AV} {f : SF} (h : okF xs f = true) (n : Nat) : okF (xs.take n) f = true := by
  cases f with
  | nil => rw [isNil_eq (show isNil xs = true from h), List.take_nil]; rfl
  | _ => rfl
theorem okF_drop {xs : List AV} {f : SF} (h : okF xs f = true) (n : Nat) : okF (xs.drop n) f = true := by
  cases f with
  | nil => rw [isNil_eq (show isNil xs = true from h), List.drop_nil]; rfl
  | _ => rfl
theorem clone_law {xs : List AV} (hu : intsB .u8 xs = true) (hL : xs.length ≤ 1000000) (k : KE) : k (.ret (.fs 1 xs (bif isNil xs then .zc else .any))) [] =
    aIf (xs.length == 0) (k (.ret (AV.fs 1 [] SF.zc)) []) (aIf ((xs.length * 1).ble 140737488355328) (aIf ((List.flatMap AV.cells xs).length == xs.length * 1) (aIf (xs.length * 1 == xs.length * 1) (aIf (decide (0 + xs.length * 1 ≤ (List.flatMap AV.cells xs).length)) (aIf (flatL (List.take (xs.length * 1) (List.drop 0 (List.flatMap AV.cells xs)))) (k (.ret (AV.fs 1 (List.take xs.length (List.drop 0 (List.flatMap AV.cells xs))) SF.any)) []) none) none) none) none) none) := by
  cases hn : isNil xs with
  | true => rw [isNil_eq hn]; rfl
  | false =>
    have h0 : (xs.length == 0) = false := beq_eq_false_iff_ne.2 (fun h => by cases xs with | nil => cases hn | cons => simp at h)
    have h1 : (xs.length * 1).ble 140737488355328 = true := by rw [Nat.ble_eq]; omega
    rw [h0, h1, ints_cells hu, List.drop_zero, Nat.mul_one, List.take_length, ints_flat hu, decide_eq_true (show 0 + xs.length ≤ xs.length by omega), beq_self_eq_true]
    rfl

end Go.Pl
