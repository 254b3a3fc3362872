/- A datagram's fragments, in plain words. -/
import Derived.Test.YtohfnoepdbkkeaaPOpt
namespace Go.Pl
open Go.Abs

theorem padL_len (l : List AV) : (padL l).length = (l.length + 3) / 4 * 4 := by
  have hc : ∀ m : List AV, padC m = !(m.length % 4 == 0) := fun _ => rfl
  have hl : ∀ m : List AV, (padF m).length = m.length + 1 := fun m => by unfold padF; rw [List.length_append]; rfl
  have main : ∀ n (m : List AV), (4 - m.length % 4) % 4 ≤ n → (whileF padC padF n m).length = (m.length + 3) / 4 * 4 := by
    intro n
    induction n with
    | zero => intro m h; show m.length = _; omega
    | succ n ih =>
      intro m h
      by_cases h4 : m.length % 4 = 0
      · rw [whileF_off (show padC m = false by rw [hc, h4]; rfl)]; omega
      · rw [whileF_on (show padC m = true by rw [hc, beq_eq_false_iff_ne.2 h4]; rfl), ih _ (by rw [hl]; omega), hl]; omega
  exact main 4 l (by omega)
theorem copiedL_len {xs : List AV} (hx : intsB .u8 xs = true) (h : xs.length % 4 = 0) : (copiedL xs).length ≤ xs.length := by
  have := (copL_ok hx).2
  unfold copiedL
  rw [padL_len]; omega
theorem cloF_twice (xs : List AV) (f : SF) : cloF xs (cloF xs f) = cloF xs f := by
  unfold cloF
  cases isNil xs
  · rfl
  · cases f <;> rfl

/-- A datagram's cells: what all fragments have, the flag, the place, options and body. -/
def v4C (h : List AV) (mf : Bool) (off : Int) (os : List AV) (f : SF) (bs : List AV) (g : SF) : List AV := h.take 3 ++ ([.bool mf, .int .i64 off] ++ (h.drop 3 ++ [.fs 1 os f, .fs 1 bs g]))
def frC (h : List AV) (r : Bool × Int × (List AV × SF) × (List AV × SF)) : List AV := v4C h r.1 r.2.1 r.2.2.1.1 r.2.2.1.2 r.2.2.2.1 r.2.2.2.2
def frsC (h : List AV) (l : List (Bool × Int × (List AV × SF) × (List AV × SF))) : List AV := l.flatMap (frC h)
def frsE (h : List AV) (l : List (Bool × Int × (List AV × SF) × (List AV × SF))) : List AV := l.map fun r => .agg (frC h r)
/-- How many bytes fit behind a header. -/
def mostN (m : Nat) (ps : List AV) : Nat := m - 20 - ps.length
def roomN (m : Nat) (ps : List AV) : Nat := mostN m ps / 8 * 8
/-- A step: one fragment more. s: where the next one begins, its options, the fragments so far. -/
def frS (m : Nat) (off : Int) (co : List AV) (cf : SF) (bs : List AV) (g : SF) (s : Nat × (List AV × SF) × List (Bool × Int × (List AV × SF) × (List AV × SF))) : Nat × (List AV × SF) × List (Bool × Int × (List AV × SF) × (List AV × SF)) :=
  (s.1 + roomN m s.2.1.1, (co, cf), s.2.2 ++ [(true, off + (s.1 / 8 : Nat), (s.2.1.1, cloF s.2.1.1 s.2.1.2), ((bs.drop s.1).take (roomN m s.2.1.1), cloF ((bs.drop s.1).take (roomN m s.2.1.1)) g))])
/-- Is there one more behind it, and is its place one that may be? -/
def frG (m : Nat) (off : Int) (bs : List AV) (s : Nat × (List AV × SF) × List (Bool × Int × (List AV × SF) × (List AV × SF))) : Bool := decide (mostN m s.2.1.1 < bs.length - s.1) && decide (off + (s.1 / 8 : Nat) ≤ 8191)

abbrev Fr := Bool × Int × (List AV × SF) × (List AV × SF)
theorem uptoL_append (n : Nat) : ∀ {a b : List AV}, AV.uptoL n a = true → AV.uptoL n b = true → AV.uptoL n (a ++ b) = true
  | [], b, _, h => h
  | x :: a, b, h, g => by
    simp only [AV.uptoL, Bool.and_eq_true] at h
    show (x.upto n && AV.uptoL n (a ++ b)) = true
    rw [h.1, uptoL_append n h.2 g]; rfl
theorem uptoL_take (n : Nat) : ∀ {a : List AV} (j : Nat), AV.uptoL n a = true → AV.uptoL n (a.take j) = true
  | _, 0, _ => rfl
  | [], j + 1, _ => rfl
  | x :: a, j + 1, h => by
    simp only [AV.uptoL, Bool.and_eq_true] at h
    show (x.upto n && AV.uptoL n (a.take j)) = true
    rw [h.1, uptoL_take n j h.2]; rfl
theorem uptoL_drop (n : Nat) : ∀ {a : List AV} (j : Nat), AV.uptoL n a = true → AV.uptoL n (a.drop j) = true
  | _, 0, h => h
  | [], j + 1, h => h
  | x :: a, j + 1, h => by
    simp only [AV.uptoL, Bool.and_eq_true] at h
    exact uptoL_drop n j h.2
theorem frC_upto {h : List AV} {n : Nat} (hh : AV.uptoL n h = true) (r : Fr) : AV.uptoL n (frC h r) = true :=
  uptoL_append n (uptoL_take n 3 hh) (uptoL_append n (by rfl) (uptoL_append n (uptoL_drop n 3 hh) (by rfl)))
theorem frsC_upto {h : List AV} {n : Nat} (hh : AV.uptoL n h = true) : ∀ l : List Fr, AV.uptoL n (frsC h l) = true
  | [] => rfl
  | r :: l => uptoL_append n (frC_upto hh r) (frsC_upto hh l)
theorem flatL_append : ∀ {a b : List AV}, flatL a = true → flatL b = true → flatL (a ++ b) = true
  | [], b, _, h => h
  | x :: a, b, h, g => by
    simp only [flatL, Bool.and_eq_true] at h
    show (flatB x && flatL (a ++ b)) = true
    rw [h.1, flatL_append h.2 g]; rfl
theorem flatL_take : ∀ {a : List AV} (j : Nat), flatL a = true → flatL (a.take j) = true
  | _, 0, _ => rfl
  | [], j + 1, _ => rfl
  | x :: a, j + 1, h => by
    simp only [flatL, Bool.and_eq_true] at h
    show (flatB x && flatL (a.take j)) = true
    rw [h.1, flatL_take j h.2]; rfl
theorem flatL_drop : ∀ {a : List AV} (j : Nat), flatL a = true → flatL (a.drop j) = true
  | _, 0, h => h
  | [], j + 1, h => h
  | x :: a, j + 1, h => by
    simp only [flatL, Bool.and_eq_true] at h
    exact flatL_drop j h.2
theorem frC_flat {h : List AV} (hh : flatL h = true) (r : Fr) : flatL (frC h r) = true :=
  flatL_append (flatL_take 3 hh) (flatL_append (by rfl) (flatL_append (flatL_drop 3 hh) (by rfl)))
theorem frsC_flat {h : List AV} (hh : flatL h = true) : ∀ l : List Fr, flatL (frsC h l) = true
  | [] => rfl
  | r :: l => flatL_append (frC_flat hh r) (frsC_flat hh l)
theorem frC_len {h : List AV} (hh : h.length = 13) (r : Fr) : (frC h r).length = 17 := by
  unfold frC v4C
  simp only [List.length_append, List.length_take, List.length_drop, List.length_cons, List.length_nil, hh]
  omega
theorem frsC_len {h : List AV} (hh : h.length = 13) : ∀ l : List Fr, (frsC h l).length = 17 * l.length
  | [] => rfl
  | r :: l => by
    show (frC h r ++ frsC h l).length = _
    rw [List.length_append, frC_len hh, frsC_len hh l, List.length_cons]; omega
theorem frsC_snoc (h : List AV) (l : List Fr) (r : Fr) : frsC h (l ++ [r]) = frsC h l ++ frC h r := by simp [frsC]
theorem frsC_put {h : List AV} (hh : h.length = 13) (l : List Fr) (r : Fr) : (frsC h l).take (l.length * 17) ++ frC h r ++ (frsC h l).drop (l.length * 17 + 17) = frsC h (l ++ [r]) := by
  rw [List.take_of_length_le (by rw [frsC_len hh]; omega), List.drop_eq_nil_of_le (by rw [frsC_len hh]; omega), List.append_nil, frsC_snoc]
theorem chunk_frs {h : List AV} (hh : h.length = 13) : ∀ l : List Fr, chunkF 17 0 l.length (frsC h l) = frsE h l := by
  intro l
  show (List.range l.length).map (fun i => AV.agg (((frsC h l).drop (0 + i * 17)).take 17)) = _
  induction l with
  | nil => rfl
  | cons q l ih =>
    rw [List.length_cons, List.range_succ_eq_map, List.map_cons, List.map_map]
    show AV.agg (List.take 17 (List.drop (0 + 0 * 17) (frC h q ++ frsC h l))) :: List.map ((fun i => AV.agg ((List.drop (0 + i * 17) (frC h q ++ frsC h l)).take 17)) ∘ Nat.succ) (List.range l.length) = .agg (frC h q) :: frsE h l
    rw [← ih]
    congr 1
    · rw [show 0 + 0 * 17 = 0 by omega, List.drop_zero, List.take_left' (frC_len hh q)]
    · refine List.map_congr_left fun i _ => ?_
      show AV.agg ((List.drop (0 + (i + 1) * 17) (frC h q ++ frsC h l)).take 17) = _
      rw [show 0 + (i + 1) * 17 = 17 + (0 + i * 17) by omega, ← List.drop_drop, List.drop_left' (frC_len hh q)]
def outD (l : List (Bool × Int × (List AV × SF) × (List AV × SF))) : AV := match l with
  | [] => .fs 17 [] .nil
  | _ :: _ => .sl 7 (17 * l.length) 0 l.length 17
def tailD (h : List AV) (l : List (Bool × Int × (List AV × SF) × (List AV × SF))) : AH := match l with
  | [] => []
  | r :: _ => [.cells 0 (frC h r), .cells 0 (frC h r), .cells (17 * l.length) (frsC h l)]
/-- Where the cutting ends, and what has been cut. -/
def frZ (m off : Int) (os ps : List AV) (pf : SF) (bs : List AV) (g : SF) : Nat × (List AV × SF) × List (Bool × Int × (List AV × SF) × (List AV × SF)) := whileF (frG m.toNat off bs) (frS m.toNat off (copiedL os) (copFl os) bs g) bs.length (0, (ps, pf), [])
def frX (z : Nat × (List AV × SF) × List (Bool × Int × (List AV × SF) × (List AV × SF))) (off : Int) : Bool := decide (8191 < off + (z.1 / 8 : Nat))
/-- The fragments, the last one with them. -/
def frA (z : Nat × (List AV × SF) × List (Bool × Int × (List AV × SF) × (List AV × SF))) (mf : Bool) (off : Int) (bs : List AV) (g : SF) : List (Bool × Int × (List AV × SF) × (List AV × SF)) := z.2.2 ++ [(mf, off + (z.1 / 8 : Nat), (z.2.1.1, cloF z.2.1.1 z.2.1.2), (bs.drop z.1, cloF (bs.drop z.1) g))]
def frH (z : Nat × (List AV × SF) × List (Bool × Int × (List AV × SF) × (List AV × SF))) : Bool × Int × (List AV × SF) × (List AV × SF) := z.2.2.headD (false, 0, ([], .nil), ([], .nil))
def frR (z : Nat × (List AV × SF) × List (Bool × Int × (List AV × SF) × (List AV × SF))) (m : Nat) (bs : List AV) : List AV := bif decide (mostN m z.2.1.1 < bs.length - z.1) then (bs.drop z.1).take (roomN m z.2.1.1) else bs.drop z.1

mutual
theorem closed_upto (n : Nat) : ∀ {v : AV}, v.closed = true → v.upto n = true
  | .junk, _ => rfl
  | .bool _, _ => rfl
  | .int _ _, _ => rfl
  | .str _, _ => rfl
  | .nilp, _ => rfl
  | .ptr _ _ _, h => by simp [AV.closed] at h
  | .fp _, _ => rfl
  | .sl _ _ _ _ _, h => by simp [AV.closed] at h
  | .fs _ _ _, _ => rfl
  | .fn _ a b, h => by
    simp only [AV.closed, Bool.and_eq_true] at h
    simp only [AV.upto, closedL_upto n h.1, closedL_upto n h.2, Bool.and_self]
  | .yld _, h => by simp [AV.closed] at h
  | .nilf, _ => rfl
  | .iface _ v, h => by
    simp only [AV.closed] at h
    simp only [AV.upto, closed_upto n h]
  | .nili, _ => rfl
  | .agg cs, h => by
    simp only [AV.closed] at h
    simp only [AV.upto, closedL_upto n h]
  | .tup cs, h => by
    simp only [AV.closed] at h
    simp only [AV.upto, closedL_upto n h]
theorem closedL_upto (n : Nat) : ∀ {l : List AV}, AV.closedL l = true → AV.uptoL n l = true
  | [], _ => rfl
  | v :: r, h => by
    simp only [AV.closedL, Bool.and_eq_true] at h
    simp only [AV.uptoL, closed_upto n h.1, closedL_upto n h.2, Bool.and_self]
end

/-- May a datagram be? -/
def chk4E (off : Int) (os bs : List AV) : Int := bif decide (0 ≤ off) && decide (off ≤ 8191) && decide (os.length ≤ 40) && decide (os.length % 4 = 0) then (bif decide (bs.length + os.length ≤ 65515) then 0 else 2) else 45
/-- Why it is not cut, and does it fit? -/
def ask4E (off : Int) (os bs : List AV) (m : Int) : Int := bif chk4E off os bs == 0 then (bif decide (68 ≤ m) && decide (m ≤ 65535) then 0 else 131) else chk4E off os bs
def fit4B (off : Int) (os bs : List AV) (m : Int) : Bool := ask4E off os bs m == 0 && decide (((20 + os.length + bs.length : Nat) : Int) ≤ m)

theorem chk4_law {off : Int} {os bs : List AV} (hp : (intsB .u8 os && decide (os.length ≤ 100) && decide (bs.length ≤ 70000) && decide (-9223372036854775808 ≤ off) && decide (off ≤ 9223372036854775807)) = true) (k : KE) : k (.ret (.int .i64 (chk4E off os bs))) [] =
    aIf (decide (off < 0)) (k (.ret (AV.int .i64 45)) []) (aIf (decide (off > 8191)) (k (.ret (AV.int .i64 45)) []) (aIf (decide ((os.length : Int) > 40)) (k (.ret (AV.int .i64 45)) []) (aIf ((os.length : Int).tmod 4 != 0) (k (.ret (AV.int .i64 45)) []) (aIf (decide ((bs.length : Int) > IntKind.i64.wrap (65515 - (os.length : Int)))) (k (.ret (AV.int .i64 2)) []) (k (.ret (AV.int .i64 0)) []))))) := by
  simp only [Bool.and_eq_true, decide_eq_true_eq] at hp
  have e4 : ((os.length : Int).tmod 4 != 0) = !decide (os.length % 4 = 0) := by
    have e : (os.length : Int).tmod 4 = ((os.length % 4 : Nat) : Int) := by rw [Int.tmod_eq_emod_of_nonneg (by omega)]; simp
    rw [e, bne, Bool.not_eq_eq_eq_not, Bool.not_not, Bool.eq_iff_iff, beq_iff_eq, decide_eq_true_eq]; omega
  rw [i64_of (n := 65515 - (os.length : Int)) (by omega) (by omega), e4]
  unfold chk4E
  by_cases h1 : off < 0
  · rw [decide_eq_true h1, decide_eq_false (show ¬ 0 ≤ off by omega)]; rfl
  · rw [decide_eq_false h1, decide_eq_true (show 0 ≤ off by omega)]
    by_cases h2 : off > 8191
    · rw [decide_eq_true h2, decide_eq_false (show ¬ off ≤ 8191 by omega)]; rfl
    · rw [decide_eq_false h2, decide_eq_true (show off ≤ 8191 by omega)]
      by_cases h3 : os.length ≤ 40
      · rw [decide_eq_false (show ¬ (os.length : Int) > 40 by omega), decide_eq_true h3]
        by_cases h4 : os.length % 4 = 0
        · rw [decide_eq_true h4]
          by_cases h5 : bs.length + os.length ≤ 65515
          · rw [decide_eq_true h5, decide_eq_false (show ¬ (bs.length : Int) > 65515 - (os.length : Int) by omega)]; rfl
          · rw [decide_eq_false h5, decide_eq_true (show (bs.length : Int) > 65515 - (os.length : Int) by omega)]; rfl
        · rw [decide_eq_false h4]; rfl
      · rw [decide_eq_true (show (os.length : Int) > 40 by omega), decide_eq_false h3]; rfl
theorem ask4_law {off m : Int} {os bs : List AV} (hp : (intsB .u8 os && decide (os.length ≤ 100) && decide (bs.length ≤ 70000) && decide (-9223372036854775808 ≤ off) && decide (off ≤ 9223372036854775807) && decide (-9223372036854775808 ≤ m) && decide (m ≤ 9223372036854775807)) = true) (k : KE) : k (.ret (.tup [.bool (fit4B off os bs m), .int .i64 (ask4E off os bs m)])) [] =
    aIf (intsB .u8 os && decide (os.length ≤ 100) && decide (bs.length ≤ 70000) && decide (-9223372036854775808 ≤ off) && decide (off ≤ 9223372036854775807)) (aIf (chk4E off os bs != 0) (aIf (chk4E off os bs != 0) (k (.ret (AV.tup [AV.bool false, AV.int .i64 (chk4E off os bs)])) []) (aIf (decide (m < 68)) (k (.ret (AV.tup [AV.bool false, AV.int .i64 131])) []) (aIf (decide (m > 65535)) (k (.ret (AV.tup [AV.bool false, AV.int .i64 131])) []) (k (.ret (AV.tup [AV.bool (decide (0 ≤ m)), AV.int .i64 0])) [])))) (aIf (decide (m < 68)) (k (.ret (AV.tup [AV.bool false, AV.int .i64 131])) []) (aIf (decide (m > 65535)) (k (.ret (AV.tup [AV.bool false, AV.int .i64 131])) []) (k (.ret (AV.tup [AV.bool (decide (IntKind.i64.wrap (IntKind.i64.wrap (20 + (os.length : Int)) + (bs.length : Int)) ≤ m)), AV.int .i64 0])) [])))) none := by
  simp only [Bool.and_eq_true, decide_eq_true_eq] at hp
  obtain ⟨⟨⟨⟨⟨⟨h1, h2⟩, h3⟩, h4⟩, h5⟩, h6⟩, h7⟩ := hp
  rw [h1, decide_eq_true h2, decide_eq_true h3, decide_eq_true h4, decide_eq_true h5, i64_of (n := 20 + (os.length : Int)) (by omega) (by omega), i64_of (n := 20 + (os.length : Int) + (bs.length : Int)) (by omega) (by omega),
    show 20 + (os.length : Int) + (bs.length : Int) = ((20 + os.length + bs.length : Nat) : Int) by omega]
  unfold fit4B ask4E
  generalize chk4E off os bs = c
  by_cases hc : c = 0
  · subst hc
    by_cases hm0 : m < 68
    · rw [decide_eq_true hm0, decide_eq_false (show ¬ 68 ≤ m by omega)]; rfl
    · rw [decide_eq_false hm0, decide_eq_true (show 68 ≤ m by omega)]
      by_cases hm1 : m > 65535
      · rw [decide_eq_true hm1, decide_eq_false (show ¬ m ≤ 65535 by omega)]; rfl
      · rw [decide_eq_false hm1, decide_eq_true (show m ≤ 65535 by omega)]; rfl
  · rw [bne, beq_eq_false_iff_ne.2 hc, cond_false, beq_eq_false_iff_ne.2 hc]; rfl

theorem ask4_ok {off m : Int} {os bs : List AV} (h : ask4E off os bs m = 0) : 0 ≤ off ∧ off ≤ 8191 ∧ os.length ≤ 40 ∧ os.length % 4 = 0 ∧ bs.length + os.length ≤ 65515 ∧ 68 ≤ m ∧ m ≤ 65535 := by
  unfold ask4E at h
  cases hc : chk4E off os bs == 0 with
  | false => rw [hc, cond_false] at h; rw [h] at hc; cases hc
  | true =>
    rw [hc, cond_true] at h
    have hm : (decide (68 ≤ m) && decide (m ≤ 65535)) = true := by
      cases hb : decide (68 ≤ m) && decide (m ≤ 65535) with
      | true => rfl
      | false => rw [hb] at h; cases h
    have hc' := beq_iff_eq.1 hc
    unfold chk4E at hc'
    have h1 : (decide (0 ≤ off) && decide (off ≤ 8191) && decide (os.length ≤ 40) && decide (os.length % 4 = 0)) = true := by
      cases hb : decide (0 ≤ off) && decide (off ≤ 8191) && decide (os.length ≤ 40) && decide (os.length % 4 = 0) with
      | true => rfl
      | false => rw [hb] at hc'; cases hc'
    have h2 : decide (bs.length + os.length ≤ 65515) = true := by
      cases hb : decide (bs.length + os.length ≤ 65515) with
      | true => rfl
      | false => rw [h1, hb] at hc'; cases hc'
    simp only [Bool.and_eq_true, decide_eq_true_eq] at hm h1 h2
    exact ⟨h1.1.1.1, h1.1.1.2, h1.1.2, h1.2, h2, hm.1, hm.2⟩
/-- Split's error, and its fragments. -/
def splE (df mf : Bool) (off : Int) (os : List AV) (f : SF) (bs : List AV) (g : SF) (m : Int) : Int := bif ask4E off os bs m == 0 then (bif fit4B off os bs m then 0 else bif df then 130 else bif mf && !(bs.length % 8 == 0) then 1 else bif frX (frZ m off os os (cloF os f) bs g) off then 5 else 0) else ask4E off os bs m
def splL (df mf : Bool) (off : Int) (os : List AV) (f : SF) (bs : List AV) (g : SF) (m : Int) : List (Bool × Int × (List AV × SF) × (List AV × SF)) := bif splE df mf off os f bs g m == 0 then (bif fit4B off os bs m then [(mf, off, (os, cloF os f), (bs, cloF bs g))] else frA (frZ m off os os (cloF os f) bs g) mf off bs g) else []
def splF (df mf : Bool) (off : Int) (os : List AV) (f : SF) (bs : List AV) (g : SF) (m : Int) : SF := bif splE df mf off os f bs g m == 0 then .any else .nil

/-- The document's cutting. -/
def frS2 (m : Nat) (off : Int) (co : List AV) (cf : SF) (bs : List AV) (g : SF) (s : Nat × (List AV × SF) × List (Bool × Int × (List AV × SF) × (List AV × SF))) : Nat × (List AV × SF) × List (Bool × Int × (List AV × SF) × (List AV × SF)) :=
  (s.1 + roomN m s.2.1.1, (co, cf), s.2.2 ++ [(true, off + (s.1 / 8 : Nat), s.2.1, ((bs.drop s.1).take (roomN m s.2.1.1), g))])
def frG2 (m : Nat) (bs : List AV) (s : Nat × (List AV × SF) × List (Bool × Int × (List AV × SF) × (List AV × SF))) : Bool := decide (mostN m s.2.1.1 < bs.length - s.1)
def frZ2 (m off : Int) (os ps : List AV) (pf : SF) (bs : List AV) (g : SF) : Nat × (List AV × SF) × List (Bool × Int × (List AV × SF) × (List AV × SF)) := whileF (frG2 m.toNat bs) (frS2 m.toNat off (copiedL os) (copFl os) bs g) bs.length (0, (ps, pf), [])
def frA2 (z : Nat × (List AV × SF) × List (Bool × Int × (List AV × SF) × (List AV × SF))) (mf : Bool) (off : Int) (bs : List AV) (g : SF) : List (Bool × Int × (List AV × SF) × (List AV × SF)) := z.2.2 ++ [(mf, off + (z.1 / 8 : Nat), z.2.1, (bs.drop z.1, g))]
def outD2 (l : List (Bool × Int × (List AV × SF) × (List AV × SF))) : AV := match l with
  | [] => .fs 0 [] .nil
  | _ :: _ => .sl 3 (17 * l.length) 0 l.length 17
def tailD2 (h : List AV) (l : List (Bool × Int × (List AV × SF) × (List AV × SF))) : AH := match l with
  | [] => []
  | r :: _ => [.cells 0 (frC h r), .cells (17 * l.length) (frsC h l)]

theorem fit4_law {off m : Int} {os bs : List AV} (hp : (intsB .u8 os && decide (os.length ≤ 100) && decide (bs.length ≤ 70000) && decide (-9223372036854775808 ≤ off) && decide (off ≤ 9223372036854775807) && decide (-9223372036854775808 ≤ m) && decide (m ≤ 9223372036854775807)) = true) (k : KE) : k (.ret (.tup [.bool (fit4B off os bs m), .int .i64 (ask4E off os bs m)])) [] =
    aIf (intsB .u8 os && decide (os.length ≤ 100) && decide (bs.length ≤ 70000) && decide (-9223372036854775808 ≤ off) && decide (off ≤ 9223372036854775807)) (aIf (chk4E off os bs != 0) (aIf (chk4E off os bs == 0) (k (.ret (AV.tup [AV.bool (decide (IntKind.i64.wrap (IntKind.i64.wrap (20 + (os.length : Int)) + (bs.length : Int)) ≤ m)), AV.int .i64 (chk4E off os bs)])) []) (k (.ret (AV.tup [AV.bool false, AV.int .i64 (chk4E off os bs)])) []))
      (aIf (decide (m < 68)) (k (.ret (AV.tup [AV.bool false, AV.int .i64 131])) []) (aIf (decide (m > 65535)) (k (.ret (AV.tup [AV.bool false, AV.int .i64 131])) []) (k (.ret (AV.tup [AV.bool (decide (IntKind.i64.wrap (IntKind.i64.wrap (20 + (os.length : Int)) + (bs.length : Int)) ≤ m)), AV.int .i64 0])) [])))) none := by
  simp only [Bool.and_eq_true, decide_eq_true_eq] at hp
  obtain ⟨⟨⟨⟨⟨⟨h1, h2⟩, h3⟩, h4⟩, h5⟩, h6⟩, h7⟩ := hp
  rw [h1, decide_eq_true h2, decide_eq_true h3, decide_eq_true h4, decide_eq_true h5, i64_of (n := 20 + (os.length : Int)) (by omega) (by omega), i64_of (n := 20 + (os.length : Int) + (bs.length : Int)) (by omega) (by omega),
    show 20 + (os.length : Int) + (bs.length : Int) = ((20 + os.length + bs.length : Nat) : Int) by omega]
  unfold fit4B ask4E
  generalize chk4E off os bs = c
  by_cases hc : c = 0
  · subst hc
    by_cases hm0 : m < 68
    · rw [decide_eq_true hm0, decide_eq_false (show ¬ 68 ≤ m by omega)]; rfl
    · rw [decide_eq_false hm0, decide_eq_true (show 68 ≤ m by omega)]
      by_cases hm1 : m > 65535
      · rw [decide_eq_true hm1, decide_eq_false (show ¬ m ≤ 65535 by omega)]; rfl
      · rw [decide_eq_false hm1, decide_eq_true (show m ≤ 65535 by omega)]; rfl
  · rw [bne, beq_eq_false_iff_ne.2 hc, cond_false, beq_eq_false_iff_ne.2 hc]; rfl
def sp2E (df mf : Bool) (off : Int) (os : List AV) (f : SF) (bs : List AV) (g : SF) (m : Int) : Int := bif ask4E off os bs m == 0 then (bif fit4B off os bs m then 0 else bif df then 130 else bif mf && !(bs.length % 8 == 0) then 1 else bif frX (frZ2 m off os os f bs g) off then 5 else 0) else ask4E off os bs m
def sp2L (df mf : Bool) (off : Int) (os : List AV) (f : SF) (bs : List AV) (g : SF) (m : Int) : List (Bool × Int × (List AV × SF) × (List AV × SF)) := bif sp2E df mf off os f bs g m == 0 then (bif fit4B off os bs m then [(mf, off, (os, f), (bs, g))] else frA2 (frZ2 m off os os f bs g) mf off bs g) else []
def sp2F (df mf : Bool) (off : Int) (os : List AV) (f : SF) (bs : List AV) (g : SF) (m : Int) : SF := bif sp2E df mf off os f bs g m == 0 then .any else .nil

theorem whileF_inv {σ : Type} {c : σ → Bool} {f : σ → σ} {I : σ → Prop} (h : ∀ s, I s → c s = true → I (f s)) : ∀ n s, I s → I (whileF c f n s)
  | 0, _, hs => hs
  | n + 1, s, hs => by
    cases hc : c s with
    | false => rw [whileF_off hc]; exact hs
    | true => rw [whileF_on hc]; exact whileF_inv h n _ (h s hs hc)
theorem most_ok {m : Nat} (hm0 : 68 ≤ m) (hm1 : m ≤ 65535) {ps : List AV} (hp : ps.length ≤ 40) : 8 ≤ mostN m ps ∧ mostN m ps ≤ 65535 ∧ roomN m ps = mostN m ps / 8 * 8 := ⟨by unfold mostN; omega, by unfold mostN; omega, rfl⟩
/-- What the document's cutting keeps. -/
theorem frZ2_inv {m : Nat} {off : Int} {os ps : List AV} {pf : SF} {bs : List AV} {g : SF} (hm0 : 68 ≤ m) (hm1 : m ≤ 65535) (hos : intsB .u8 os = true) (hol : os.length ≤ 40) (ho4 : os.length % 4 = 0) (hpl : ps.length ≤ 40) (hf : mostN m ps < bs.length) :
    (frZ2 (m : Int) off os ps pf bs g).1 ≤ bs.length ∧ (frZ2 (m : Int) off os ps pf bs g).2.2.length ≤ (frZ2 (m : Int) off os ps pf bs g).1 ∧ 0 < (frZ2 (m : Int) off os ps pf bs g).2.2.length := by
  have hcl := copiedL_len hos ho4
  have hstep : ∀ s : Nat × (List AV × SF) × List Fr, (s.1 ≤ bs.length ∧ s.2.1.1.length ≤ 40 ∧ s.2.2.length ≤ s.1) → frG2 m bs s = true → ((frS2 m off (copiedL os) (copFl os) bs g s).1 ≤ bs.length ∧ (frS2 m off (copiedL os) (copFl os) bs g s).2.1.1.length ≤ 40 ∧ (frS2 m off (copiedL os) (copFl os) bs g s).2.2.length ≤ (frS2 m off (copiedL os) (copFl os) bs g s).1) ∧ 0 < (frS2 m off (copiedL os) (copFl os) bs g s).2.2.length := fun s hI hc => by
    have h1 : mostN m s.2.1.1 < bs.length - s.1 := of_decide_eq_true hc
    obtain ⟨h2, _, h3⟩ := most_ok hm0 hm1 hI.2.1
    have e1 : (frS2 m off (copiedL os) (copFl os) bs g s).1 = s.1 + roomN m s.2.1.1 := rfl
    have e2 : (frS2 m off (copiedL os) (copFl os) bs g s).2.2.length = s.2.2.length + 1 := by unfold frS2; rw [List.length_append]; rfl
    exact ⟨⟨by omega, by show (copiedL os).length ≤ 40; omega, by have := hI.2.2; omega⟩, by omega⟩
  have hc0 : frG2 m bs (0, (ps, pf), []) = true := decide_eq_true (by show mostN m ps < bs.length - 0; omega)
  obtain ⟨n, hn⟩ : ∃ n, bs.length = n + 1 := ⟨bs.length - 1, by omega⟩
  have h0 := hstep (0, (ps, pf), []) ⟨Nat.zero_le _, hpl, Nat.le_refl _⟩ hc0
  have := whileF_inv (c := frG2 m bs) (f := frS2 m off (copiedL os) (copFl os) bs g) (I := fun s => (s.1 ≤ bs.length ∧ s.2.1.1.length ≤ 40 ∧ s.2.2.length ≤ s.1) ∧ 0 < s.2.2.length) (fun s hI hc => hstep s hI.1 hc) n _ h0
  have e : frZ2 (m : Int) off os ps pf bs g = whileF (frG2 m bs) (frS2 m off (copiedL os) (copFl os) bs g) n (frS2 m off (copiedL os) (copFl os) bs g (0, (ps, pf), [])) := by
    show whileF (frG2 m bs) (frS2 m off (copiedL os) (copFl os) bs g) bs.length (0, (ps, pf), []) = _
    rw [hn, whileF_on (by rw [← hn] at *; exact hc0)]
  rw [e]
  exact ⟨this.1.1, this.1.2.2, this.2⟩

/-- Fragments as such: without how their bytes lie in memory. -/
def bare (r : Bool × Int × (List AV × SF) × (List AV × SF)) : Bool × Int × List AV × List AV := (r.1, r.2.1, r.2.2.1.1, r.2.2.2.1)
def goodFr (r : Bool × Int × (List AV × SF) × (List AV × SF)) : Bool := intsB .u8 r.2.2.1.1 && intsB .u8 r.2.2.2.1 && decide (r.2.2.1.1.length ≤ 100) && decide (r.2.2.2.1.length ≤ 70000)
def hdr (t i : Int) (df : Bool) (l q s0 s1 s2 s3 d0 d1 d2 d3 : Int) : List AV := [.int .u8 t, .int .u16 i, .bool df, .int .u8 l, .int .u8 q, .int .u8 s0, .int .u8 s1, .int .u8 s2, .int .u8 s3, .int .u8 d0, .int .u8 d1, .int .u8 d2, .int .u8 d3]
def SameP (xs ys : List AV) : Prop := ∃ t i df l q s0 s1 s2 s3 d0 d1 d2 d3, ∃ l1 l2 : List (Bool × Int × (List AV × SF) × (List AV × SF)), xs = frsE (hdr t i df l q s0 s1 s2 s3 d0 d1 d2 d3) l1 ∧ ys = frsE (hdr t i df l q s0 s1 s2 s3 d0 d1 d2 d3) l2 ∧ l1.map bare = l2.map bare ∧ (∀ r ∈ l1, goodFr r = true) ∧ l1.length ≤ 100000 -- Nx
noncomputable def sameG (xs ys : List AV) : Bool := @decide (SameP xs ys) (Classical.propDecidable _)
theorem sameG_iff {xs ys : List AV} : sameG xs ys = true ↔ SameP xs ys := by unfold sameG; exact @decide_eq_true_iff _ (Classical.propDecidable _)
def eqB (xs ys : List AV) : Bool := xs.map AV.toInt == ys.map AV.toInt
theorem eqB_eq : ∀ {xs ys : List AV}, intsB .u8 xs = true → intsB .u8 ys = true → eqB xs ys = true → xs = ys
  | [], [], _, _, _ => rfl
  | [], _ :: _, _, _, h => by simp [eqB] at h
  | _ :: _, [], _, _, h => by simp [eqB] at h
  | x :: xs, y :: ys, h1, h2, h => by
    simp only [intsB, Bool.and_eq_true] at h1 h2
    simp only [eqB, List.map_cons, beq_iff_eq, List.cons.injEq] at h
    rw [isInt_eq h1.1.1, isInt_eq h2.1.1, h.1, eqB_eq h1.2 h2.2 (beq_iff_eq.2 h.2)]
theorem eqB_self (xs : List AV) : eqB xs xs = true := beq_self_eq_true _

theorem frsE_get {h : List AV} : ∀ {l : List Fr} {j : Nat}, j < l.length → ∃ r, r ∈ l ∧ l[j]? = some r ∧ (frsE h l).getD j .junk = .agg (frC h r)
  | [], j, hj => by simp at hj
  | r :: l, 0, _ => ⟨r, by simp, rfl, rfl⟩
  | r :: l, j + 1, hj => by
    obtain ⟨r', h1, h2, h3⟩ := frsE_get (h := h) (l := l) (j := j) (by simpa using hj)
    exact ⟨r', List.mem_cons_of_mem _ h1, by simpa using h2, by simpa [frsE] using h3⟩
theorem frsE_len (h : List AV) (l : List Fr) : (frsE h l).length = l.length := by simp [frsE]

theorem frS2_mono {m : Nat} {off : Int} {co : List AV} {cf : SF} {bs : List AV} {g : SF} : ∀ n s, s.1 ≤ (whileF (frG2 m bs) (frS2 m off co cf bs g) n s).1
  | 0, _ => Nat.le_refl _
  | n + 1, s => by
    cases hc : frG2 m bs s with
    | false => rw [whileF_off hc]; exact Nat.le_refl _
    | true =>
      rw [whileF_on hc]
      have := frS2_mono (m := m) (off := off) (co := co) (cf := cf) (bs := bs) (g := g) n (frS2 m off co cf bs g s)
      have e : (frS2 m off co cf bs g s).1 = s.1 + roomN m s.2.1.1 := rfl
      omega
def relZ (s s2 : Nat × (List AV × SF) × List Fr) : Prop := s.1 = s2.1 ∧ s.2.1.1 = s2.2.1.1 ∧ s.2.2.map bare = s2.2.2.map bare -- Nx
theorem cut_same {m : Nat} {off : Int} {co : List AV} {cf : SF} {bs : List AV} {g : SF} : ∀ n s s2, relZ s s2 →
    frX (whileF (frG m off bs) (frS m off co cf bs g) n s) off = frX (whileF (frG2 m bs) (frS2 m off co cf bs g) n s2) off ∧
    (frX (whileF (frG m off bs) (frS m off co cf bs g) n s) off = false → relZ (whileF (frG m off bs) (frS m off co cf bs g) n s) (whileF (frG2 m bs) (frS2 m off co cf bs g) n s2))
  | 0, s, s2, h => ⟨by show decide (8191 < off + ((s.1 / 8 : Nat) : Int)) = decide (8191 < off + ((s2.1 / 8 : Nat) : Int)); rw [h.1], fun _ => h⟩
  | n + 1, s, s2, h => by
    obtain ⟨h1, h2, h3⟩ := h
    have e2 : frG2 m bs s2 = decide (mostN m s.2.1.1 < bs.length - s.1) := by unfold frG2; rw [← h1, ← h2]
    cases hc : decide (mostN m s.2.1.1 < bs.length - s.1) with
    | false =>
      rw [hc] at e2
      have e1 : frG m off bs s = false := by unfold frG; rw [hc]; rfl
      rw [whileF_off e1, whileF_off e2]
      exact ⟨by show decide _ = decide _; rw [h1], fun _ => ⟨h1, h2, h3⟩⟩
    | true =>
      rw [hc] at e2
      cases ho : decide (off + ((s.1 / 8 : Nat) : Int) ≤ 8191) with
      | true =>
        have e1 : frG m off bs s = true := by unfold frG; rw [hc, ho]; rfl
        rw [whileF_on e1, whileF_on e2]
        refine cut_same n _ _ ⟨?_, rfl, ?_⟩
        · show s.1 + roomN m s.2.1.1 = s2.1 + roomN m s2.2.1.1
          rw [h1, h2]
        · unfold frS frS2
          simp only [List.map_append, h3, List.map_cons, List.map_nil, bare, h1, h2]
      | false =>
        have e1 : frG m off bs s = false := by unfold frG; rw [hc, ho]; rfl
        have hx : 8191 < off + ((s.1 / 8 : Nat) : Int) := by have := of_decide_eq_false ho; omega
        have hX : frX s off = true := decide_eq_true hx
        rw [whileF_off e1, whileF_on e2, hX]
        have hm := frS2_mono (m := m) (off := off) (co := co) (cf := cf) (bs := bs) (g := g) n (frS2 m off co cf bs g s2)
        have e3 : (frS2 m off co cf bs g s2).1 = s2.1 + roomN m s2.2.1.1 := rfl
        refine ⟨?_, fun h => (by cases h)⟩
        symm
        refine decide_eq_true ?_
        omega
theorem goodFr_iff {r : Fr} : goodFr r = true ↔ intsB .u8 r.2.2.1.1 = true ∧ intsB .u8 r.2.2.2.1 = true ∧ r.2.2.1.1.length ≤ 100 ∧ r.2.2.2.1.length ≤ 70000 := by
  simp [goodFr, and_assoc]
/-- What the program's cutting keeps. -/
theorem frZ_inv {m : Nat} {off : Int} {os ps : List AV} {pf : SF} {bs : List AV} {g : SF} (hm0 : 68 ≤ m) (hm1 : m ≤ 65535) (hos : intsB .u8 os = true) (hol : os.length ≤ 40) (ho4 : os.length % 4 = 0) (hps : intsB .u8 ps = true) (hpl : ps.length ≤ 40) (hbs : intsB .u8 bs = true) (hbl : bs.length ≤ 70000) :
    (frZ (m : Int) off os ps pf bs g).1 ≤ bs.length ∧ intsB .u8 (frZ (m : Int) off os ps pf bs g).2.1.1 = true ∧ (frZ (m : Int) off os ps pf bs g).2.1.1.length ≤ 40 ∧ (frZ (m : Int) off os ps pf bs g).2.2.length ≤ (frZ (m : Int) off os ps pf bs g).1 ∧ ∀ r ∈ (frZ (m : Int) off os ps pf bs g).2.2, goodFr r = true := by
  have hcl := copiedL_len hos ho4
  refine whileF_inv (c := frG m off bs) (f := frS m off (copiedL os) (copFl os) bs g) (I := fun s => s.1 ≤ bs.length ∧ intsB .u8 s.2.1.1 = true ∧ s.2.1.1.length ≤ 40 ∧ s.2.2.length ≤ s.1 ∧ ∀ r ∈ s.2.2, goodFr r = true) (fun s hI hc => ?_) bs.length (0, (ps, pf), []) ⟨Nat.zero_le _, hps, hpl, Nat.le_refl _, fun r h => (by cases h)⟩
  obtain ⟨i1, i2, i3, i4, i5⟩ := hI
  have h1 : mostN m s.2.1.1 < bs.length - s.1 := by unfold frG at hc; rw [Bool.and_eq_true] at hc; exact of_decide_eq_true hc.1
  obtain ⟨h2, _, h3⟩ := most_ok hm0 hm1 i3
  have e1 : (frS m off (copiedL os) (copFl os) bs g s).1 = s.1 + roomN m s.2.1.1 := rfl
  have e2 : (frS m off (copiedL os) (copFl os) bs g s).2.2.length = s.2.2.length + 1 := by unfold frS; rw [List.length_append]; rfl
  refine ⟨by omega, (copiedL_ok hos).1, by show (copiedL os).length ≤ 40; omega, by omega, fun r hr => ?_⟩
  unfold frS at hr
  rcases List.mem_append.1 hr with hr | hr
  · exact i5 r hr
  · obtain rfl : r = _ := List.mem_singleton.1 hr
    exact goodFr_iff.2 ⟨i2, intsB_take (intsB_drop _ hbs) _, by show s.2.1.1.length ≤ 100; omega, by show (List.take _ (List.drop _ bs)).length ≤ _; rw [List.length_take, List.length_drop]; omega⟩
theorem spl_same {df mf : Bool} {off : Int} {os : List AV} {f : SF} {bs : List AV} {g : SF} {m : Int} (hos : intsB .u8 os = true) (hol : os.length ≤ 100) (hbs : intsB .u8 bs = true) (hbl : bs.length ≤ 70000) :
    splE df mf off os f bs g m = sp2E df mf off os f bs g m ∧ (splL df mf off os f bs g m).map bare = (sp2L df mf off os f bs g m).map bare ∧ (∀ r ∈ splL df mf off os f bs g m, goodFr r = true) ∧ (splL df mf off os f bs g m).length ≤ 100000 := by
  have hcut := cut_same (m := m.toNat) (off := off) (co := copiedL os) (cf := copFl os) (bs := bs) (g := g) bs.length (0, (os, cloF os f), []) (0, (os, f), []) ⟨rfl, rfl, rfl⟩
  have hE : splE df mf off os f bs g m = sp2E df mf off os f bs g m := by
    unfold splE sp2E
    have : frX (frZ m off os os (cloF os f) bs g) off = frX (frZ2 m off os os f bs g) off := hcut.1
    rw [this]
  refine ⟨hE, ?_⟩
  unfold splL sp2L
  rw [← hE]
  cases h0 : splE df mf off os f bs g m == 0 with
  | false => exact ⟨rfl, fun r h => (by cases h), Nat.zero_le _⟩
  | true =>
    rw [cond_true, cond_true]
    cases hf : fit4B off os bs m with
    | true =>
      rw [cond_true, cond_true]
      refine ⟨rfl, fun r hr => ?_, by simp⟩
      obtain rfl : r = _ := List.mem_singleton.1 hr
      exact goodFr_iff.2 ⟨hos, hbs, hol, hbl⟩
    | false =>
      have h0' := beq_iff_eq.1 h0
      have hA : ask4E off os bs m = 0 := by
        cases hb : ask4E off os bs m == 0 with
        | true => exact beq_iff_eq.1 hb
        | false => unfold splE at h0'; rw [hb] at h0'; exact h0'
      have hX : frX (frZ m off os os (cloF os f) bs g) off = false := by
        unfold splE at h0'
        rw [hA, hf] at h0'
        cases df with
        | true => cases h0'
        | false =>
          cases hq : mf && !(bs.length % 8 == 0) with
          | true => rw [hq] at h0'; cases h0'
          | false =>
            rw [hq] at h0'
            cases hx : frX (frZ m off os os (cloF os f) bs g) off with
            | false => rfl
            | true => rw [hx] at h0'; cases h0'
      obtain ⟨r1, r2, r3⟩ := hcut.2 hX
      obtain ⟨a1, a2, a3, a4, a5, a6, a7⟩ := ask4_ok hA
      obtain ⟨m, rfl⟩ := Int.eq_ofNat_of_zero_le (show 0 ≤ m by omega)
      obtain ⟨i1, i2, i3, i4, i5⟩ := frZ_inv (m := m) (off := off) (pf := cloF os f) (g := g) (by omega) (by omega) hos a3 a4 hos a3 hbs hbl
      rw [cond_false, cond_false]
      refine ⟨?_, fun r hr => ?_, ?_⟩
      · unfold frA frA2
        rw [List.map_append, List.map_append]
        have e1 : (frZ (m : Int) off os os (cloF os f) bs g).2.2.map bare = (frZ2 (m : Int) off os os f bs g).2.2.map bare := r3
        have e2 : (frZ (m : Int) off os os (cloF os f) bs g).1 = (frZ2 (m : Int) off os os f bs g).1 := r1
        have e3 : (frZ (m : Int) off os os (cloF os f) bs g).2.1.1 = (frZ2 (m : Int) off os os f bs g).2.1.1 := r2
        rw [e1]
        simp only [List.map_cons, List.map_nil, bare, e2, e3]
      · unfold frA at hr
        rcases List.mem_append.1 hr with hr | hr
        · exact i5 r hr
        · obtain rfl : r = _ := List.mem_singleton.1 hr
          exact goodFr_iff.2 ⟨i2, intsB_drop _ hbs, by show (frZ (m : Int) off os os (cloF os f) bs g).2.1.1.length ≤ 100; omega, by show (List.drop _ bs).length ≤ _; rw [List.length_drop]; omega⟩
      · unfold frA
        rw [List.length_append, List.length_singleton]; omega

end Go.Pl
