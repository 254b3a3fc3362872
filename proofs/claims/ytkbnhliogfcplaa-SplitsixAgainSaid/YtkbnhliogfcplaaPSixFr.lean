/- Fragments of IPv6 datagrams, in plain words. -/
import Derived.Test.YtkbnhliogfcplaaPSix
namespace Go.Pl
open Go.Abs

/-- Rows of fragments: f: a fragment's cells. -/
theorem fm_len {α : Type} {f : α → List AV} {n : Nat} (hf : ∀ r, (f r).length = n) : ∀ l : List α, (l.flatMap f).length = n * l.length
  | [] => rfl
  | r :: l => by
    rw [List.flatMap_cons, List.length_append, hf r, fm_len hf l, List.length_cons, Nat.mul_add]; omega
theorem fm_snoc {α : Type} (f : α → List AV) (l : List α) (r : α) : (l ++ [r]).flatMap f = l.flatMap f ++ f r := by simp
theorem fm_put {α : Type} {f : α → List AV} (hf : ∀ r, (f r).length = 42) (l : List α) (r : α) : (l.flatMap f).take (l.length * 42) ++ f r ++ (l.flatMap f).drop (l.length * 42 + 42) = (l ++ [r]).flatMap f := by
  rw [List.take_of_length_le (by rw [fm_len hf]; omega), List.drop_eq_nil_of_le (by rw [fm_len hf]; omega), List.append_nil, fm_snoc]
theorem fm_upto {α : Type} {f : α → List AV} {n : Nat} (hf : ∀ r, AV.uptoL n (f r) = true) : ∀ l : List α, AV.uptoL n (l.flatMap f) = true
  | [] => rfl
  | r :: l => by rw [List.flatMap_cons]; exact uptoL_append n (hf r) (fm_upto hf l)
theorem fm_flat {α : Type} {f : α → List AV} (hf : ∀ r, flatL (f r) = true) : ∀ l : List α, flatL (l.flatMap f) = true
  | [] => rfl
  | r :: l => by rw [List.flatMap_cons]; exact flatL_append (hf r) (fm_flat hf l)
theorem fm_chunk {α : Type} {f : α → List AV} (hf : ∀ r, (f r).length = 42) : ∀ l : List α, chunkG 42 0 l.length (l.flatMap f) = l.map fun r => .agg (f r) := by
  intro l
  show (List.range l.length).map (fun i => AV.agg (((l.flatMap f).drop (0 + i * 42)).take 42)) = _
  induction l with
  | nil => rfl
  | cons q l ih =>
    rw [List.length_cons, List.range_succ_eq_map, List.map_cons, List.map_map, List.map_cons, ← ih, List.flatMap_cons]
    congr 1
    · rw [show 0 + 0 * 42 = 0 by omega, List.drop_zero, List.take_left' (hf q)]
    · refine List.map_congr_left fun i _ => ?_
      show AV.agg (((f q ++ l.flatMap f).drop (0 + (i + 1) * 42)).take 42) = _
      rw [show 0 + (i + 1) * 42 = 42 + (0 + i * 42) by omega, ← List.drop_drop, List.drop_left' (hf q)]

/-- Fragments: is there more behind it, where it stands, its bytes. R: how many bytes each but the last has; M: how many there may be. -/
def fgS (R : Nat) (off : Int) (bs : List AV) (s : Nat × List (Bool × Int × List AV)) : Nat × List (Bool × Int × List AV) := (s.1 + R, s.2 ++ [(true, off + ((s.1 / 8 : Nat) : Int), (bs.take (s.1 + R)).drop s.1)])
def fgC (M : Nat) (off : Int) (bs : List AV) (s : Nat × List (Bool × Int × List AV)) : Bool := decide (M < bs.length - s.1) && decide (off + ((s.1 / 8 : Nat) : Int) ≤ 8191)
def fgZ (M R : Nat) (off : Int) (bs : List AV) : Nat × List (Bool × Int × List AV) := whileF (fgC M off bs) (fgS R off bs) bs.length (0, [])
def fgX (z : Nat × List (Bool × Int × List AV)) (off : Int) : Bool := decide (8191 < off + ((z.1 / 8 : Nat) : Int))
def fgA (z : Nat × List (Bool × Int × List AV)) (mo : Bool) (off : Int) (bs : List AV) : List (Bool × Int × List AV) := z.2 ++ [(mo, off + ((z.1 / 8 : Nat) : Int), bs.drop z.1)]
/-- A fragment's cells: the program's, the document's, and what the program copies. -/
def fgK (cs : List AV) (r : Bool × Int × List AV) : List AV := [cs.getD 0 .junk, cs.getD 1 .junk, cs.getD 2 .junk, cs.getD 3 .junk, cs.getD 4 .junk, cs.getD 5 .junk, cs.getD 6 .junk, cs.getD 7 .junk, cs.getD 8 .junk, cs.getD 9 .junk, cs.getD 10 .junk, cs.getD 11 .junk, cs.getD 12 .junk, cs.getD 13 .junk, cs.getD 14 .junk, cs.getD 15 .junk, cs.getD 16 .junk, cs.getD 17 .junk, cs.getD 18 .junk, cs.getD 19 .junk, cs.getD 20 .junk, cs.getD 21 .junk, cs.getD 22 .junk, cs.getD 23 .junk, cs.getD 24 .junk, cs.getD 25 .junk, cs.getD 26 .junk, cs.getD 27 .junk, cs.getD 28 .junk, cs.getD 29 .junk, cs.getD 30 .junk, cs.getD 31 .junk, cs.getD 32 .junk, cs.getD 33 .junk, cs.getD 34 .junk, .fs 2 ((cs.getD 35 .junk).toFs.map cloH) (cloF (cs.getD 35 .junk).toFs (cs.getD 35 .junk).toFl), .bool true, cs.getD 37 .junk, .int .i64 r.2.1, .bool r.1, cs.getD 40 .junk, .fs 1 r.2.2 .any]
def fgD (cs : List AV) (r : Bool × Int × List AV) : List AV := [cs.getD 0 .junk, cs.getD 1 .junk, cs.getD 2 .junk, cs.getD 3 .junk, cs.getD 4 .junk, cs.getD 5 .junk, cs.getD 6 .junk, cs.getD 7 .junk, cs.getD 8 .junk, cs.getD 9 .junk, cs.getD 10 .junk, cs.getD 11 .junk, cs.getD 12 .junk, cs.getD 13 .junk, cs.getD 14 .junk, cs.getD 15 .junk, cs.getD 16 .junk, cs.getD 17 .junk, cs.getD 18 .junk, cs.getD 19 .junk, cs.getD 20 .junk, cs.getD 21 .junk, cs.getD 22 .junk, cs.getD 23 .junk, cs.getD 24 .junk, cs.getD 25 .junk, cs.getD 26 .junk, cs.getD 27 .junk, cs.getD 28 .junk, cs.getD 29 .junk, cs.getD 30 .junk, cs.getD 31 .junk, cs.getD 32 .junk, cs.getD 33 .junk, cs.getD 34 .junk, cs.getD 35 .junk, .bool true, cs.getD 37 .junk, .int .i64 r.2.1, .bool r.1, cs.getD 40 .junk, .fs 1 r.2.2 .any]
def fgB (cs : List AV) (r : Bool × Int × List AV) : List AV := [cs.getD 0 .junk, cs.getD 1 .junk, cs.getD 2 .junk, cs.getD 3 .junk, cs.getD 4 .junk, cs.getD 5 .junk, cs.getD 6 .junk, cs.getD 7 .junk, cs.getD 8 .junk, cs.getD 9 .junk, cs.getD 10 .junk, cs.getD 11 .junk, cs.getD 12 .junk, cs.getD 13 .junk, cs.getD 14 .junk, cs.getD 15 .junk, cs.getD 16 .junk, cs.getD 17 .junk, cs.getD 18 .junk, cs.getD 19 .junk, cs.getD 20 .junk, cs.getD 21 .junk, cs.getD 22 .junk, cs.getD 23 .junk, cs.getD 24 .junk, cs.getD 25 .junk, cs.getD 26 .junk, cs.getD 27 .junk, cs.getD 28 .junk, cs.getD 29 .junk, cs.getD 30 .junk, cs.getD 31 .junk, cs.getD 32 .junk, cs.getD 33 .junk, cs.getD 34 .junk, cs.getD 35 .junk, .bool true, cs.getD 37 .junk, .int .i64 r.2.1, .bool r.1, cs.getD 40 .junk, .fs 1 r.2.2 (cs.getD 41 .junk).toFl]
theorem fgK_len (cs : List AV) (r : Bool × Int × List AV) : (fgK cs r).length = 42 := rfl
theorem fgD_len (cs : List AV) (r : Bool × Int × List AV) : (fgD cs r).length = 42 := rfl
def outK (z0 i : Nat) (l : List (Bool × Int × List AV)) : AV := match l with -- Nx
  | [] => .fs z0 [] .nil
  | _ :: _ => .sl i (42 * l.length) 0 l.length 42
def tailK (e : List AV) (f : (Bool × Int × List AV) → List AV) (l : List (Bool × Int × List AV)) : AH := match l with -- Nx
  | [] => []
  | _ :: _ => [.cells 0 e, .cells (42 * l.length) (l.flatMap f)]
/-- What all that must be so that it is cut. -/
def CutOk (M R : Nat) (off : Int) (bs : List AV) : Prop := 8 ≤ M ∧ M ≤ 65535 ∧ R = M / 8 * 8 ∧ M < bs.length ∧ bs.length ≤ 65535 ∧ 0 ≤ off ∧ off ≤ 8191 -- Nx
def FgI (R : Nat) (bs : List AV) (s : Nat × List (Bool × Int × List AV)) : Prop := s.1 = s.2.length * R ∧ s.1 < bs.length -- Nx
theorem FgI.next {M R : Nat} {off : Int} {bs : List AV} (h : CutOk M R off bs) {s : Nat × List (Bool × Int × List AV)} (hI : FgI R bs s) (hc : fgC M off bs s = true) : FgI R bs (fgS R off bs s) ∧ bs.length - (fgS R off bs s).1 < bs.length - s.1 := by
  obtain ⟨h1, h2, h3, h4, h5, h6, h7⟩ := h
  obtain ⟨i1, i2⟩ := hI
  unfold fgC at hc
  rw [Bool.and_eq_true, decide_eq_true_eq, decide_eq_true_eq] at hc
  refine ⟨⟨?_, ?_⟩, ?_⟩
  · show s.1 + R = (s.2 ++ [_]).length * R
    rw [List.length_append, List.length_singleton, Nat.add_mul, ← i1]; omega
  · show s.1 + R < bs.length; omega
  · show bs.length - (s.1 + R) < bs.length - s.1; omega
theorem fgC_nil {M R : Nat} {off : Int} {bs : List AV} (h : CutOk M R off bs) {s : Nat × List (Bool × Int × List AV)} (hI : FgI R bs s) (hl : s.2 = []) : fgC M off bs s = true := by
  obtain ⟨h1, h2, h3, h4, h5, h6, h7⟩ := h
  obtain ⟨i1, _⟩ := hI
  rw [hl] at i1
  have h0 : s.1 = 0 := by simpa using i1
  unfold fgC
  rw [h0, decide_eq_true (show M < bs.length - 0 by omega), decide_eq_true (show off + ((0 / 8 : Nat) : Int) ≤ 8191 by simp; omega)]; rfl
/-- Where the cutting ends. -/
theorem fgZ_end {M R : Nat} {off : Int} {bs : List AV} (h : CutOk M R off bs) : FgI R bs (fgZ M R off bs) ∧ fgC M off bs (fgZ M R off bs) = false := by
  have main : ∀ n s, bs.length - s.1 ≤ n → FgI R bs s → FgI R bs (whileF (fgC M off bs) (fgS R off bs) n s) ∧ fgC M off bs (whileF (fgC M off bs) (fgS R off bs) n s) = false := by
    intro n
    induction n with
    | zero => intro s h1 h2; have := h2.2; omega
    | succ n ih =>
      intro s h1 h2
      cases hc : fgC M off bs s with
      | false => rw [whileF_off hc]; exact ⟨h2, hc⟩
      | true =>
        rw [whileF_on hc]
        obtain ⟨h3, h4⟩ := h2.next h hc
        exact ih _ (by omega) h3
  exact main _ _ (by show bs.length - 0 ≤ _; omega) ⟨by simp, by have := h.2.2.2.1; show 0 < _; omega⟩
theorem fgZ_ne {M R : Nat} {off : Int} {bs : List AV} (h : CutOk M R off bs) : (fgZ M R off bs).2 ≠ [] := fun hl => by
  obtain ⟨h1, h2⟩ := fgZ_end h
  rw [fgC_nil h h1 hl] at h2; cases h2

/-- How many bytes of a body a fragment may have. -/
def most6 (hs : List AV) (m : Int) : Nat := (m - ((48 + headsN hs : Nat) : Int)).toNat
def cut6 (off : Int) (hs bs : List AV) (m : Int) : Nat × List (Bool × Int × List AV) := fgZ (most6 hs m) (most6 hs m / 8 * 8) off bs
/-- Why there are none; the row of fragments. -/
def sp6E (lb : Int) (hs : List AV) (fr : Bool) (id off : Int) (mo : Bool) (pr : Int) (bs : List AV) (m : Int) : Int := bif ask6 lb hs fr id off mo pr bs m == 0 then (bif fit6 lb hs fr id off mo pr bs m then 0 else bif mo && !(bs.length % 8 == 0) then 1 else bif decide (most6 hs m < 8) then 141 else bif fgX (cut6 off hs bs m) off then 5 else 0) else ask6 lb hs fr id off mo pr bs m
def sp6F (lb : Int) (hs : List AV) (fr : Bool) (id off : Int) (mo : Bool) (pr : Int) (bs : List AV) (m : Int) : SF := bif sp6E lb hs fr id off mo pr bs m == 0 then .any else .nil
/-- With the number of the datagram. -/
def idC (cs : List AV) (i2 : Int) : List AV := cs.set 37 (.int .u32 (bif (cs.getD 36 .junk).toBool then (cs.getD 37 .junk).toInt else i2))
def cop6 (cs : List AV) : List AV := (cs.set 35 (.fs 2 ((cs.getD 35 .junk).toFs.map cloH) (cloF (cs.getD 35 .junk).toFs (cs.getD 35 .junk).toFl))).set 41 (.fs 1 (cs.getD 41 .junk).toFs (cloF (cs.getD 41 .junk).toFs (cs.getD 41 .junk).toFl))
/-- The fragments (p: the program's; else the document's). -/
def sp6L (p : Bool) (cs : List AV) (m i2 : Int) : List AV := bif sp6E (cs.getD 1 .junk).toInt (cs.getD 35 .junk).toFs (cs.getD 36 .junk).toBool (cs.getD 37 .junk).toInt (cs.getD 38 .junk).toInt (cs.getD 39 .junk).toBool (cs.getD 40 .junk).toInt (cs.getD 41 .junk).toFs m == 0 then (bif fit6 (cs.getD 1 .junk).toInt (cs.getD 35 .junk).toFs (cs.getD 36 .junk).toBool (cs.getD 37 .junk).toInt (cs.getD 38 .junk).toInt (cs.getD 39 .junk).toBool (cs.getD 40 .junk).toInt (cs.getD 41 .junk).toFs m then [.agg (bif p then cop6 cs else cs)] else (fgA (cut6 (cs.getD 38 .junk).toInt (cs.getD 35 .junk).toFs (cs.getD 41 .junk).toFs m) (cs.getD 39 .junk).toBool (cs.getD 38 .junk).toInt (cs.getD 41 .junk).toFs).map (fun r => .agg ((bif p then fgK else fgD) (idC cs i2) r))) else []

theorem ask_facts {lb : Int} {hs : List AV} {fr : Bool} {id off : Int} {mo : Bool} {pr : Int} {bs : List AV} {m : Int} (hh : hdsB hs = true) (h : ask6 lb hs fr id off mo pr bs m = 0) (hf : fit6 lb hs fr id off mo pr bs m = false) :
    chk6 lb hs fr id off mo pr bs = 0 ∧ 1280 ≤ m ∧ m ≤ 65535 ∧ rightH hs = true ∧ hs.length ≤ 8 ∧ headsN hs ≤ 16384 ∧ bs.length ≤ 65535 ∧ 0 ≤ off ∧ off ≤ 8191 ∧ m - ((48 + headsN hs : Nat) : Int) < (bs.length : Int) := by
  obtain ⟨h1, h2, h3⟩ := ask6_ok h
  obtain ⟨h4, h5⟩ := chk6_ok h1
  obtain ⟨h6, h7⟩ := right6_heads h4
  have h8 := headsN_le hh h6 h7
  have ho : 0 ≤ off ∧ off ≤ 8191 := by
    unfold right6 at h4
    simp only [Bool.and_eq_true] at h4
    have h9 := h4.2
    cases fr with
    | true => simpa only [cond_true, Bool.and_eq_true, decide_eq_true_eq] using h9
    | false =>
      simp only [cond_false, Bool.and_eq_true, beq_iff_eq] at h9
      have := h9.1.1.1.2
      omega
  refine ⟨h1, h2, h3, h6, h7, h8, by omega, ho.1, ho.2, ?_⟩
  unfold fit6 at hf
  rw [h, beq_self_eq_true, Bool.true_and, decide_eq_false_iff_not] at hf
  unfold ahd6 at hf
  cases fr <;> simp only [cond_true, cond_false] at hf <;> omega
theorem tdiv8_small {w : Int} (h0 : -20000 ≤ w) (h : w < 8) : IntKind.i64.wrap (IntKind.i64.wrap (w.tdiv 8) * 8) < 8 := by
  have h1 : w.tdiv 8 ≤ 0 ∧ -20000 ≤ w.tdiv 8 := by
    rcases Int.lt_or_le w 0 with hn | hn
    · have e : w.tdiv 8 = -((-w).tdiv 8) := by rw [Int.neg_tdiv]; omega
      have e2 : (-w).tdiv 8 = (-w) / 8 := Int.tdiv_eq_ediv_of_nonneg (by omega)
      omega
    · have e2 : w.tdiv 8 = w / 8 := Int.tdiv_eq_ediv_of_nonneg hn
      omega
  rw [i64_of (n := w.tdiv 8) (by omega) (by omega), i64_of (by omega) (by omega)]; omega

theorem sp6L_at (p : Bool) (cl lb hop : Int) (x y : Nat → Int) (hs : List AV) (hf : SF) (fr : Bool) (id off : Int) (mo : Bool) (pr : Int) (bs : List AV) (bf : SF) (m i2 : Int) : sp6L p (v6L cl lb hop x y hs hf fr id off mo pr bs bf) m i2 = bif sp6E lb hs fr id off mo pr bs m == 0 then (bif fit6 lb hs fr id off mo pr bs m then [.agg (bif p then cop6 (v6L cl lb hop x y hs hf fr id off mo pr bs bf) else v6L cl lb hop x y hs hf fr id off mo pr bs bf)] else (fgA (cut6 off hs bs m) mo off bs).map (fun r => .agg ((bif p then fgK else fgD) (idC (v6L cl lb hop x y hs hf fr id off mo pr bs bf) i2) r))) else [] := rfl
theorem len8 (n : Nat) : ((n : Int).tmod 8 != 0) = !(n % 8 == 0) := by
  have e : (n : Int).tmod 8 = ((n % 8 : Nat) : Int) := by rw [Int.tmod_eq_emod_of_nonneg (by omega)]; simp
  rw [e, bne, Bool.not_eq_eq_eq_not, Bool.not_not, Bool.eq_iff_iff, beq_iff_eq, beq_iff_eq]; omega

/-- Fragment j of K + 1. -/
def frg (R K : Nat) (off : Int) (mo : Bool) (bs : List AV) (j : Nat) : Bool × Int × List AV := (decide (j < K) || mo, off + ((j * R / 8 : Nat) : Int), bif decide (j < K) then (bs.take (j * R + R)).drop (j * R) else bs.drop (j * R))
theorem fgZ_range {M R : Nat} {off : Int} {bs : List AV} (mo : Bool) : ∃ K, (fgZ M R off bs).1 = K * R ∧ fgA (fgZ M R off bs) mo off bs = (List.range (K + 1)).map (frg R K off mo bs) := by
  have main : ∀ n s, (s.1 = s.2.length * R ∧ s.2 = (List.range s.2.length).map (fun j => (true, off + ((j * R / 8 : Nat) : Int), (bs.take (j * R + R)).drop (j * R)))) →
      (whileF (fgC M off bs) (fgS R off bs) n s).1 = (whileF (fgC M off bs) (fgS R off bs) n s).2.length * R ∧ (whileF (fgC M off bs) (fgS R off bs) n s).2 = (List.range (whileF (fgC M off bs) (fgS R off bs) n s).2.length).map (fun j => (true, off + ((j * R / 8 : Nat) : Int), (bs.take (j * R + R)).drop (j * R))) := by
    intro n
    induction n with
    | zero => intro s h; exact h
    | succ n ih =>
      intro s h
      cases hc : fgC M off bs s with
      | false => rw [whileF_off hc]; exact h
      | true =>
        rw [whileF_on hc]
        refine ih _ ⟨?_, ?_⟩
        · show s.1 + R = (s.2 ++ [_]).length * R
          rw [List.length_append, List.length_singleton, Nat.add_mul, ← h.1]; omega
        · show s.2 ++ [_] = (List.range (s.2 ++ [_]).length).map _
          rw [List.length_append, List.length_singleton, List.range_succ, List.map_append, ← h.2, List.map_singleton, ← h.1]
  obtain ⟨h1, h2⟩ := main bs.length (0, []) ⟨by simp, rfl⟩
  refine ⟨(fgZ M R off bs).2.length, h1, ?_⟩
  unfold fgA
  rw [List.range_succ, List.map_append, List.map_singleton]
  have e1 : (List.range (fgZ M R off bs).2.length).map (frg R (fgZ M R off bs).2.length off mo bs) = (fgZ M R off bs).2 := by
    refine Eq.trans ?_ h2.symm
    refine List.map_congr_left fun j hj => ?_
    have hj := List.mem_range.1 hj
    unfold frg
    rw [decide_eq_true hj]; rfl
  rw [e1]
  unfold frg
  rw [decide_eq_false (Nat.lt_irrefl _), show (fgZ M R off bs).2.length * R = (fgZ M R off bs).1 from h1.symm]; rfl
/-- A row of fragments of a datagram that is cut; M: how many bytes of body each may have. -/
def CutP (m : Int) (cs xs : List AV) : Prop := ∃ cl lb hop, ∃ x y : Nat → Int, ∃ hs hf fr id off mo pr bs bf i2 M K, cs = v6L cl lb hop x y hs hf fr id off mo pr bs bf ∧ v6Ok lb hs hf id off pr bs bf = true ∧ CutOk M (M / 8 * 8) off bs ∧ 1 ≤ K ∧ K * (M / 8 * 8) < bs.length ∧ bs.length ≤ K * (M / 8 * 8) + M ∧ off + ((K * (M / 8 * 8) / 8 : Nat) : Int) ≤ 8191 ∧ (M : Int) = m - ((48 + headsN hs : Nat) : Int) ∧ m ≤ 65535 ∧ chk6 lb hs fr id off mo pr bs = 0 ∧ 0 ≤ i2 ∧ i2 < 4294967296 ∧ -- Nx
  xs = (List.range (K + 1)).map (fun j => .agg (v6L cl lb hop x y (hs.map cloH) (cloF hs hf) true i2 (frg (M / 8 * 8) K off mo bs j).2.1 (frg (M / 8 * 8) K off mo bs j).1 pr (frg (M / 8 * 8) K off mo bs j).2.2 .any))
/-- The row of a datagram that is not cut. -/
def OneP (m : Int) (cs xs : List AV) : Prop := ∃ cl lb hop, ∃ x y : Nat → Int, ∃ hs hf fr id off mo pr bs bf, cs = v6L cl lb hop x y hs hf fr id off mo pr bs bf ∧ v6Ok lb hs hf id off pr bs bf = true ∧ chk6 lb hs fr id off mo pr bs = 0 ∧ ((ahd6 hs fr + bs.length : Nat) : Int) ≤ m ∧ m ≤ 65535 ∧ xs = [.agg (v6L cl lb hop x y (hs.map cloH) (cloF hs hf) fr id off mo pr bs (cloF bs bf))] -- Nx
noncomputable def row6G (m : Int) (cs xs : List AV) : Bool := @decide (OneP m cs xs ∨ CutP m cs xs) (Classical.propDecidable _)
theorem row6G_iff {m : Int} {cs xs : List AV} : row6G m cs xs = true ↔ OneP m cs xs ∨ CutP m cs xs := by unfold row6G; exact @decide_eq_true_iff _ (Classical.propDecidable _)
theorem sp6_row (cl lb hop : Int) (x y : Nat → Int) (hs : List AV) (hf : SF) (fr : Bool) (id off : Int) (mo : Bool) (pr : Int) (bs : List AV) (bf : SF) {m i2 : Int} (hok : v6Ok lb hs hf id off pr bs bf = true) (h0 : 0 ≤ i2) (h1 : i2 < 4294967296) (hE : sp6E lb hs fr id off mo pr bs m = 0) : OneP m (v6L cl lb hop x y hs hf fr id off mo pr bs bf) (sp6L true (v6L cl lb hop x y hs hf fr id off mo pr bs bf) m i2) ∨ CutP m (v6L cl lb hop x y hs hf fr id off mo pr bs bf) (sp6L true (v6L cl lb hop x y hs hf fr id off mo pr bs bf) m i2) := by
  have hh := (v6Ok_iff.1 hok).1
  have hA : ask6 lb hs fr id off mo pr bs m = 0 := by
    cases hq : ask6 lb hs fr id off mo pr bs m == 0 with
    | true => exact beq_iff_eq.1 hq
    | false => unfold sp6E at hE; rw [hq] at hE; exact hE
  rw [sp6L_at, hE]
  cases hF : fit6 lb hs fr id off mo pr bs m with
  | true =>
    obtain ⟨c1, c2, c3⟩ := ask6_ok hA
    refine .inl ⟨cl, lb, hop, x, y, hs, hf, fr, id, off, mo, pr, bs, bf, rfl, hok, c1, ?_, c3, rfl⟩
    unfold fit6 at hF
    rw [Bool.and_eq_true] at hF
    exact of_decide_eq_true hF.2
  | false =>
    obtain ⟨hc, hm1, hm2, hr, hl8, hn9, hbl, ho0, ho1, hW⟩ := ask_facts hh hA hF
    have h8 : ¬ most6 hs m < 8 := fun h => by
      unfold sp6E at hE
      rw [hA, hF, decide_eq_true h] at hE
      cases hq : mo && !(bs.length % 8 == 0) <;> rw [hq] at hE <;> cases hE
    have hM : ((most6 hs m : Nat) : Int) = m - ((48 + headsN hs : Nat) : Int) := by unfold most6 at h8 ⊢; omega
    have hcut : CutOk (most6 hs m) (most6 hs m / 8 * 8) off bs := ⟨by omega, by omega, rfl, by omega, hbl, ho0, ho1⟩
    have hX : fgX (cut6 off hs bs m) off = false := by
      cases hx : fgX (cut6 off hs bs m) off with
      | false => rfl
      | true =>
        unfold sp6E at hE
        rw [hA, hF, decide_eq_false h8, hx] at hE
        cases hq : mo && !(bs.length % 8 == 0) <;> rw [hq] at hE <;> cases hE
    obtain ⟨⟨z1, z2⟩, z3⟩ := fgZ_end hcut
    have hne := fgZ_ne hcut
    obtain ⟨K, k1, k2⟩ := fgZ_range (M := most6 hs m) (R := most6 hs m / 8 * 8) (off := off) (bs := bs) mo
    have hX' : ¬ 8191 < off + (((fgZ (most6 hs m) (most6 hs m / 8 * 8) off bs).1 / 8 : Nat) : Int) := of_decide_eq_false hX
    have hK : 1 ≤ K := by
      have : (fgZ (most6 hs m) (most6 hs m / 8 * 8) off bs).2.length * (most6 hs m / 8 * 8) = K * (most6 hs m / 8 * 8) := by rw [← z1, k1]
      have h9 := Nat.eq_of_mul_eq_mul_right (by omega : 0 < most6 hs m / 8 * 8) this
      have := List.length_pos_iff.2 hne
      omega
    refine .inr ⟨cl, lb, hop, x, y, hs, hf, fr, id, off, mo, pr, bs, bf, (bif fr then id else i2), most6 hs m, K, rfl, hok, hcut, hK, by rw [← k1]; exact z2, ?_, by rw [← k1]; omega, hM, hm2, hc, ?_, ?_, ?_⟩
    · rw [← k1]
      unfold fgC at z3
      rw [decide_eq_true (show off + (((fgZ (most6 hs m) (most6 hs m / 8 * 8) off bs).1 / 8 : Nat) : Int) ≤ 8191 by omega), Bool.and_true, decide_eq_false_iff_not] at z3
      omega
    · have := v6Ok_iff.1 hok
      cases fr <;> simp only [cond_true, cond_false] <;> omega
    · have := v6Ok_iff.1 hok
      cases fr <;> simp only [cond_true, cond_false] <;> omega
    · show List.map (fun r => AV.agg (fgK (idC (v6L cl lb hop x y hs hf fr id off mo pr bs bf) i2) r)) (fgA (cut6 off hs bs m) mo off bs) = _
      unfold cut6
      rw [k2, List.map_map]
      cases fr <;> rfl
/-- The j-th fragment. -/
theorem row_get {α : Type} (f : Nat → α) (g : α → AV) {n j : Nat} (h : j < n) : ((List.range n).map (fun j => g (f j))).getD j .junk = g (f j) := by
  rw [List.getD_eq_getElem?_getD]
  simp [h]
theorem frg_ok {M K : Nat} {off : Int} {mo : Bool} {bs : List AV} (hcut : CutOk M (M / 8 * 8) off bs) (hK : 1 ≤ K) (k1 : K * (M / 8 * 8) < bs.length) (k2 : bs.length ≤ K * (M / 8 * 8) + M) (ho : off + ((K * (M / 8 * 8) / 8 : Nat) : Int) ≤ 8191) {j : Nat} (hj : j < K + 1) :
    0 ≤ (frg (M / 8 * 8) K off mo bs j).2.1 ∧ (frg (M / 8 * 8) K off mo bs j).2.1 ≤ 8191 ∧ (frg (M / 8 * 8) K off mo bs j).2.2.length ≤ M ∧ 0 < (frg (M / 8 * 8) K off mo bs j).2.2.length ∧ (j < K → (frg (M / 8 * 8) K off mo bs j).2.2.length = M / 8 * 8) ∧ j * (M / 8 * 8) ≤ bs.length := by
  obtain ⟨c1, c2, c3, c4, c5, c6, c7⟩ := hcut
  have hjk : j * (M / 8 * 8) ≤ K * (M / 8 * 8) := Nat.mul_le_mul_right _ (by omega)
  unfold frg
  by_cases h : j < K
  · have hs : ((j + 1) * (M / 8 * 8)) ≤ K * (M / 8 * 8) := Nat.mul_le_mul_right _ (by omega)
    rw [Nat.add_mul, Nat.one_mul] at hs
    have hl : ((bs.take (j * (M / 8 * 8) + M / 8 * 8)).drop (j * (M / 8 * 8))).length = M / 8 * 8 := seg_len (by omega)
    rw [decide_eq_true h]
    refine ⟨by show 0 ≤ off + _; omega, by show off + _ ≤ 8191; omega, ?_, ?_, fun _ => hl, by omega⟩
    · show ((bs.take (j * (M / 8 * 8) + M / 8 * 8)).drop (j * (M / 8 * 8))).length ≤ M; rw [hl]; omega
    · show 0 < ((bs.take (j * (M / 8 * 8) + M / 8 * 8)).drop (j * (M / 8 * 8))).length; rw [hl]; omega
  · obtain rfl : j = K := by omega
    rw [decide_eq_false h]
    refine ⟨by show 0 ≤ off + _; omega, by show off + _ ≤ 8191; omega, ?_, ?_, fun h' => absurd h' h, by omega⟩
    · show (bs.drop (j * (M / 8 * 8))).length ≤ M; rw [List.length_drop]; omega
    · show 0 < (bs.drop (j * (M / 8 * 8))).length; rw [List.length_drop]; omega
theorem frg_chk {lb : Int} {hs : List AV} {fr : Bool} {id off : Int} {mo : Bool} {pr : Int} {bs : List AV} (h : chk6 lb hs fr id off mo pr bs = 0) {i2 o2 : Int} {m2 : Bool} {b2 : List AV} (h1 : 0 ≤ o2) (h2 : o2 ≤ 8191) (h3 : headsN hs + 8 + b2.length ≤ 65535) : chk6 lb (hs.map cloH) true i2 o2 m2 pr b2 = 0 := by
  rw [chk6_clo]
  obtain ⟨h4, _⟩ := chk6_ok h
  have h5 : right6 lb hs true i2 o2 m2 pr = true := by
    unfold right6 at h4 ⊢
    simp only [Bool.and_eq_true] at h4 ⊢
    exact ⟨h4.1, by rw [cond_true, decide_eq_true h1, decide_eq_true h2]; rfl⟩
  unfold chk6
  rw [h5, cond_true, cond_true, decide_eq_true h3]; rfl

/-- The bytes of the first j fragments. -/
def catJ (R K : Nat) (bs : List AV) (j : Nat) : List AV := bif decide (j ≤ K) then bs.take (j * R) else bs
/-- A datagram with its heads copied. -/
def hcl6 (cs : List AV) : List AV := cs.set 35 (.fs 2 ((cs.getD 35 .junk).toFs.map cloH) (cloF (cs.getD 35 .junk).toFs (cs.getD 35 .junk).toFl))
theorem catJ_next {R K : Nat} {off : Int} {mo : Bool} {bs : List AV} {j : Nat} (hj : j < K + 1) (hk : K * R ≤ bs.length) : catJ R K bs (j + 1) = catJ R K bs j ++ (frg R K off mo bs j).2.2 ∧ (catJ R K bs j).length = j * R := by
  have hjk : j * R ≤ K * R := Nat.mul_le_mul_right _ (by omega)
  unfold catJ frg
  rw [decide_eq_true (show j ≤ K by omega)]
  refine ⟨?_, by rw [cond_true, List.length_take]; omega⟩
  by_cases h : j < K
  · rw [decide_eq_true (show j + 1 ≤ K by omega), decide_eq_true h, cond_true, cond_true]
    show bs.take ((j + 1) * R) = bs.take (j * R) ++ (bs.take (j * R + R)).drop (j * R)
    have e : bs.take (j * R) = (bs.take (j * R + R)).take (j * R) := by rw [List.take_take]; congr 1; omega
    rw [e, List.take_append_drop, Nat.add_mul, Nat.one_mul]
  · obtain rfl : j = K := by omega
    rw [decide_eq_false (show ¬ j + 1 ≤ j by omega), decide_eq_false (Nat.lt_irrefl _), cond_true, cond_false]
    show bs = bs.take (j * R) ++ bs.drop (j * R)
    rw [List.take_append_drop]

/-- Two rows of datagrams that are the same, as text. -/
noncomputable def rows6G (xs ys : List AV) : Bool := @decide (xs.length = ys.length ∧ xs.length ≤ 100000 ∧ ∀ j, j < xs.length → ∃ cs ds, xs.getD j .junk = .agg cs ∧ ys.getD j .junk = .agg ds ∧ same6G cs ds = true) (Classical.propDecidable _)
theorem rows6G_iff {xs ys : List AV} : rows6G xs ys = true ↔ xs.length = ys.length ∧ xs.length ≤ 100000 ∧ ∀ j, j < xs.length → ∃ cs ds, xs.getD j .junk = .agg cs ∧ ys.getD j .junk = .agg ds ∧ same6G cs ds = true := by unfold rows6G; exact @decide_eq_true_iff _ (Classical.propDecidable _)

theorem cut_facts {lb : Int} {hs : List AV} {fr : Bool} {id off : Int} {mo : Bool} {pr : Int} {bs : List AV} {m : Int} (hh : hdsB hs = true) (hE : sp6E lb hs fr id off mo pr bs m = 0) (hA : ask6 lb hs fr id off mo pr bs m = 0) (hF : fit6 lb hs fr id off mo pr bs m = false) :
    ∃ M K, CutOk M (M / 8 * 8) off bs ∧ 1 ≤ K ∧ K * (M / 8 * 8) < bs.length ∧ bs.length ≤ K * (M / 8 * 8) + M ∧ off + ((K * (M / 8 * 8) / 8 : Nat) : Int) ≤ 8191 ∧ fgA (cut6 off hs bs m) mo off bs = (List.range (K + 1)).map (frg (M / 8 * 8) K off mo bs) := by
  obtain ⟨hc, hm1, hm2, hr, hl8, hn9, hbl, ho0, ho1, hW⟩ := ask_facts hh hA hF
  have h8 : ¬ most6 hs m < 8 := fun h => by
    unfold sp6E at hE
    rw [hA, hF, decide_eq_true h] at hE
    cases hq : mo && !(bs.length % 8 == 0) <;> rw [hq] at hE <;> cases hE
  have hM : ((most6 hs m : Nat) : Int) = m - ((48 + headsN hs : Nat) : Int) := by unfold most6 at h8 ⊢; omega
  have hcut : CutOk (most6 hs m) (most6 hs m / 8 * 8) off bs := ⟨by omega, by omega, rfl, by omega, hbl, ho0, ho1⟩
  have hX : fgX (cut6 off hs bs m) off = false := by
    cases hx : fgX (cut6 off hs bs m) off with
    | false => rfl
    | true =>
      unfold sp6E at hE
      rw [hA, hF, decide_eq_false h8, hx] at hE
      cases hq : mo && !(bs.length % 8 == 0) <;> rw [hq] at hE <;> cases hE
  obtain ⟨⟨z1, z2⟩, z3⟩ := fgZ_end hcut
  have hne := fgZ_ne hcut
  obtain ⟨K, k1, k2⟩ := fgZ_range (M := most6 hs m) (R := most6 hs m / 8 * 8) (off := off) (bs := bs) mo
  have hX' : ¬ 8191 < off + (((fgZ (most6 hs m) (most6 hs m / 8 * 8) off bs).1 / 8 : Nat) : Int) := of_decide_eq_false hX
  have hK : 1 ≤ K := by
    have : (fgZ (most6 hs m) (most6 hs m / 8 * 8) off bs).2.length * (most6 hs m / 8 * 8) = K * (most6 hs m / 8 * 8) := by rw [← z1, k1]
    have h9 := Nat.eq_of_mul_eq_mul_right (by omega : 0 < most6 hs m / 8 * 8) this
    have := List.length_pos_iff.2 hne
    omega
  refine ⟨most6 hs m, K, hcut, hK, by rw [← k1]; exact z2, ?_, by rw [← k1]; omega, k2⟩
  rw [← k1]
  unfold fgC at z3
  rw [decide_eq_true (show off + (((fgZ (most6 hs m) (most6 hs m / 8 * 8) off bs).1 / 8 : Nat) : Int) ≤ 8191 by omega), Bool.and_true, decide_eq_false_iff_not] at z3
  omega
theorem rows6_of (cl lb hop : Int) (x y : Nat → Int) (hs : List AV) (hf : SF) (fr : Bool) (id off : Int) (mo : Bool) (pr : Int) (bs : List AV) (bf : SF) {m i2 : Int} (hok : v6Ok lb hs hf id off pr bs bf = true) (h0 : 0 ≤ i2) (h1 : i2 < 4294967296) : rows6G (sp6L true (v6L cl lb hop x y hs hf fr id off mo pr bs bf) m i2) (sp6L false (v6L cl lb hop x y hs hf fr id off mo pr bs bf) m i2) = true := by
  obtain ⟨hh, hhf, hb, hbf, l0, l1, o0, o1, p0, p1, i0, i1⟩ := v6Ok_iff.1 hok
  rw [sp6L_at, sp6L_at]
  by_cases hE : sp6E lb hs fr id off mo pr bs m = 0
  · have hA : ask6 lb hs fr id off mo pr bs m = 0 := by
      cases hq : ask6 lb hs fr id off mo pr bs m == 0 with
      | true => exact beq_iff_eq.1 hq
      | false => unfold sp6E at hE; rw [hq] at hE; exact hE
    have hck := (ask6_ok hA).1
    have hl := chk6_len hck
    rw [hE]
    cases hF : fit6 lb hs fr id off mo pr bs m with
    | true =>
      refine rows6G_iff.2 ⟨rfl, by simp, fun j hj => ?_⟩
      obtain rfl : j = 0 := by simp at hj; omega
      exact ⟨cop6 (v6L cl lb hop x y hs hf fr id off mo pr bs bf), v6L cl lb hop x y hs hf fr id off mo pr bs bf, rfl, rfl, same6_of (v6Ok_clo hok i0 i1) hok (bareH_clo _) (by rw [List.length_map]; exact hl.1) hl.2⟩
    | false =>
      obtain ⟨M, K, hcut, hK, k1, k2, ho, hfl⟩ := cut_facts hh hE hA hF
      have hKb : K * 8 ≤ K * (M / 8 * 8) := Nat.mul_le_mul_left _ (by have := hcut.1; omega)
      simp only [beq_self_eq_true, cond_true, cond_false]
      rw [hfl, List.map_map, List.map_map]
      refine rows6G_iff.2 ⟨by simp, by rw [List.length_map, List.length_range]; omega, fun j hj => ?_⟩
      rw [List.length_map, List.length_range] at hj
      refine ⟨fgK (idC (v6L cl lb hop x y hs hf fr id off mo pr bs bf) i2) (frg (M / 8 * 8) K off mo bs j), fgD (idC (v6L cl lb hop x y hs hf fr id off mo pr bs bf) i2) (frg (M / 8 * 8) K off mo bs j), row_get (frg (M / 8 * 8) K off mo bs) (fun r => .agg (fgK (idC (v6L cl lb hop x y hs hf fr id off mo pr bs bf) i2) r)) hj, row_get (frg (M / 8 * 8) K off mo bs) (fun r => .agg (fgD (idC (v6L cl lb hop x y hs hf fr id off mo pr bs bf) i2) r)) hj, ?_⟩
      obtain ⟨f1, f2, f3, f4, f5, f6⟩ := frg_ok (mo := mo) hcut hK k1 k2 ho hj
      have hbj : intsB .u8 (frg (M / 8 * 8) K off mo bs j).2.2 = true := by
        unfold frg
        cases decide (j < K)
        · exact intsB_drop _ hb
        · exact intsB_drop _ (intsB_take hb _)
      have hM9 := hcut.2.1
      generalize frg (M / 8 * 8) K off mo bs j = q at *
      have hi : 0 ≤ (bif fr then id else i2) ∧ (bif fr then id else i2) < 4294967296 := by cases fr <;> simp only [cond_true, cond_false] <;> omega
      show same6G (v6L cl lb hop x y (hs.map cloH) (cloF hs hf) true (bif fr then id else i2) q.2.1 q.1 pr q.2.2 .any) (v6L cl lb hop x y hs hf true (bif fr then id else i2) q.2.1 q.1 pr q.2.2 .any) = true
      exact same6_of (v6Ok_iff.2 ⟨hdsB_clo hh, okF_clos _ _, hbj, rfl, l0, l1, by omega, by omega, p0, p1, hi.1, hi.2⟩) (v6Ok_iff.2 ⟨hh, hhf, hbj, rfl, l0, l1, by omega, by omega, p0, p1, hi.1, hi.2⟩) (bareH_clo _) (by rw [List.length_map]; exact hl.1) (by omega)
  · rw [beq_eq_false_iff_ne.2 hE]
    exact rows6G_iff.2 ⟨rfl, by simp, fun j hj => absurd hj (Nat.not_lt_zero _)⟩

/-- The first place at which something stops it. -/
def firstB (b : Nat → Bool) : Nat → Nat → Nat -- Nx
  | 0, i => i
  | d + 1, i => bif b i then i else firstB b d (i + 1)
theorem iter_scanH {F : ATs → AH → KC → Res} {N : Nat} {ts : Nat → ATs} {H : Nat → AH} {b : Nat → Bool} {eb ee : AExit} {tb te : ATs} {Hb : Nat → AH} {He : AH}
    (h1 : ∀ j, j < N → b j = true → ∀ k, F (ts j) (H j) k = k eb tb (Hb j)) (h2 : ∀ j, j < N → b j = false → ∀ k, F (ts j) (H j) k = k .normal (ts (j + 1)) (H (j + 1))) (h3 : ∀ k, F (ts N) (H N) k = k ee te He)
    (hb : eb ≠ .normal) (he : ee ≠ .normal) : ∀ d j, j + d = N → ∃ m, ∀ k, aIterK m F (ts j) (H j) k = aIf (noneB b d j) (k ee te He) (k eb tb (Hb (firstB b d j)))
  | 0, j, hj => by
    obtain rfl : j = N := by omega
    exact ⟨1, fun k => iter_exit he h3 0 k⟩
  | d + 1, j, hj => by
    cases hbj : b j
    · obtain ⟨m, hm⟩ := iter_scanH h1 h2 h3 hb he d (j + 1) (by omega)
      refine ⟨m + 1, fun k => ?_⟩
      rw [iter_next (h2 j (by omega) hbj), hm k]
      simp only [noneB, firstB, hbj, cond_false]
    · refine ⟨1, fun k => ?_⟩
      rw [iter_exit hb (h1 j (by omega) hbj)]
      simp only [noneB, firstB, hbj, cond_true]
      rfl
/-- A datagram's body; what rows of datagrams have together. -/
def bodyE (x : AV) : List AV := (x.cells.getD 41 .junk).toFs
def catY (xs : List AV) (i : Nat) : List AV := (xs.take i).flatMap bodyE
theorem catY_next {xs : List AV} {i : Nat} (h : i < xs.length) : catY xs (i + 1) = catY xs i ++ bodyE (xs.getD i .junk) := by
  unfold catY
  rw [List.take_add_one, List.flatMap_append, List.getD_eq_getElem?_getD, List.getElem?_eq_getElem h]
  simp
/-- Fragments in a row: each begins where the one ahead ends. -/
def ChainP (idv off : Int) (mo : Bool) (bs ys : List AV) : Prop := ∃ n, ys.length = n + 1 ∧ catY ys (n + 1) = bs ∧ bs.length ≤ 65535 ∧ ∀ k, k < n + 1 → ∃ cl lb hop, ∃ x y : Nat → Int, ∃ hs hf fr pr b g, ys.getD k .junk = .agg (v6L cl lb hop x y hs hf fr idv (off + (((catY ys k).length / 8 : Nat) : Int)) (decide (k < n) || mo) pr b g) ∧ (catY ys k).length % 8 = 0 ∧ intsB .u8 b = true ∧ 0 < b.length -- Nx
theorem catY_le {ys : List AV} : ∀ {k n : Nat}, k ≤ n → (catY ys k).length ≤ (catY ys n).length := by
  intro k n h
  unfold catY
  have e : ys.take n = ys.take k ++ (ys.take n).drop k := by
    have := List.take_append_drop k (ys.take n)
    rw [List.take_take, Nat.min_eq_left h] at this
    exact this.symm
  rw [e, List.flatMap_append, List.length_append]; omega
theorem chain_one {cl lb hop : Int} {x y : Nat → Int} {hs : List AV} {hf : SF} {fr : Bool} {id off : Int} {mo : Bool} {pr : Int} {bs : List AV} {bf : SF} (hb : intsB .u8 bs = true) (hl : bs.length ≤ 65535) (hp : 0 < bs.length) : ChainP id off mo bs [.agg (v6L cl lb hop x y hs hf fr id off mo pr bs bf)] := by
  refine ⟨0, rfl, ?_, hl, fun k hk => ?_⟩
  · show bs ++ [] = bs
    simp
  · obtain rfl : k = 0 := by omega
    refine ⟨cl, lb, hop, x, y, hs, hf, fr, pr, bs, bf, ?_, rfl, hb, hp⟩
    show AV.agg _ = AV.agg (v6L cl lb hop x y hs hf fr id (off + ((0 / 8 : Nat) : Int)) (false || mo) pr bs bf)
    simp
theorem chain_cut {cl lb hop : Int} {x y : Nat → Int} {gs : List AV} {gf : SF} {i2 off : Int} {mo : Bool} {pr : Int} {bs : List AV} {M K : Nat} (hb : intsB .u8 bs = true) (hcut : CutOk M (M / 8 * 8) off bs) (hK : 1 ≤ K) (k1 : K * (M / 8 * 8) < bs.length) (k2 : bs.length ≤ K * (M / 8 * 8) + M) (ho : off + ((K * (M / 8 * 8) / 8 : Nat) : Int) ≤ 8191) :
    ChainP i2 off mo bs ((List.range (K + 1)).map (fun j => .agg (v6L cl lb hop x y gs gf true i2 (frg (M / 8 * 8) K off mo bs j).2.1 (frg (M / 8 * 8) K off mo bs j).1 pr (frg (M / 8 * 8) K off mo bs j).2.2 .any))) := by
  generalize hxs : (List.range (K + 1)).map (fun j => AV.agg (v6L cl lb hop x y gs gf true i2 (frg (M / 8 * 8) K off mo bs j).2.1 (frg (M / 8 * 8) K off mo bs j).1 pr (frg (M / 8 * 8) K off mo bs j).2.2 .any)) = xs
  have hxl : xs.length = K + 1 := by rw [← hxs, List.length_map, List.length_range]
  have e : ∀ j, j < K + 1 → xs.getD j .junk = .agg (v6L cl lb hop x y gs gf true i2 (frg (M / 8 * 8) K off mo bs j).2.1 (frg (M / 8 * 8) K off mo bs j).1 pr (frg (M / 8 * 8) K off mo bs j).2.2 .any) := fun j hj => by
    rw [← hxs]; exact row_get (frg (M / 8 * 8) K off mo bs) (fun r => .agg (v6L cl lb hop x y gs gf true i2 r.2.1 r.1 pr r.2.2 .any)) hj
  have hc : ∀ j, j ≤ K + 1 → catY xs j = catJ (M / 8 * 8) K bs j := by
    intro j
    induction j with
    | zero => intro _; unfold catJ catY; rw [decide_eq_true (Nat.zero_le K), cond_true, Nat.zero_mul]; rfl
    | succ j ih =>
      intro hj
      rw [catY_next (by omega), ih (by omega), e j (by omega), (catJ_next (R := M / 8 * 8) (off := off) (mo := mo) (by omega : j < K + 1) (by omega)).1]
      rfl
  refine ⟨K, hxl, ?_, hcut.2.2.2.2.1, fun k hk => ?_⟩
  · rw [hc _ (Nat.le_refl _)]
    unfold catJ
    rw [decide_eq_false (show ¬ K + 1 ≤ K by omega)]; rfl
  · obtain ⟨q1, q2⟩ := catJ_next (R := M / 8 * 8) (off := off) (mo := mo) hk (by omega : K * (M / 8 * 8) ≤ bs.length)
    obtain ⟨f1, f2, f3, f4, f5, f6⟩ := frg_ok (mo := mo) hcut hK k1 k2 ho hk
    refine ⟨cl, lb, hop, x, y, gs, gf, true, pr, (frg (M / 8 * 8) K off mo bs k).2.2, .any, ?_, ?_, ?_, f4⟩
    · rw [e k hk, hc k (by omega), q2]; rfl
    · rw [hc k (by omega), q2, Nat.mul_mod, show M / 8 * 8 % 8 = 0 by omega]; simp
    · unfold frg
      cases decide (k < K)
      · exact intsB_drop _ hb
      · exact intsB_drop _ (intsB_take hb _)

/-- Fragments of fragment i of a datagram; prev: the bytes ahead of it. -/
def InP (cs xs : List AV) (i : Nat) (ys prev : List AV) : Prop := ∃ cl lb hop, ∃ x y : Nat → Int, ∃ hs hf fr id off mo pr bs bf idv, cs = v6L cl lb hop x y hs hf fr id off mo pr bs bf ∧ ChainP idv off mo bs xs ∧ i < xs.length ∧ prev = catY xs i ∧ 0 ≤ off ∧ off ≤ 8191 ∧ intsB .u8 bs = true ∧ ChainP idv (off + (((catY xs i).length / 8 : Nat) : Int)) (decide (i + 1 < xs.length) || mo) (bodyE (xs.getD i .junk)) ys -- Nx
noncomputable def inG (cs xs : List AV) (i : Nat) (ys prev : List AV) : Bool := @decide (InP cs xs i ys prev) (Classical.propDecidable _)
theorem inG_iff {cs xs : List AV} {i : Nat} {ys prev : List AV} : inG cs xs i ys prev = true ↔ InP cs xs i ys prev := by unfold inG; exact @decide_eq_true_iff _ (Classical.propDecidable _)

theorem ints_cat {k : IntKind} : ∀ {a b : List AV}, intsB k a = true → intsB k b = true → intsB k (a ++ b) = true
  | [], _, _, h => h
  | v :: r, b, h, g => by
    simp only [intsB, Bool.and_eq_true] at h
    show intsB k (v :: (r ++ b)) = true
    simp only [intsB, Bool.and_eq_true]
    exact ⟨h.1, ints_cat h.2 g⟩
theorem chain_cat {idv off : Int} {mo : Bool} {ys : List AV} {n : Nat} (hl : ys.length = n + 1) (h : ∀ k, k < n + 1 → ∃ cl lb hop, ∃ x y : Nat → Int, ∃ hs hf fr pr b g, ys.getD k .junk = .agg (v6L cl lb hop x y hs hf fr idv (off + (((catY ys k).length / 8 : Nat) : Int)) (decide (k < n) || mo) pr b g) ∧ (catY ys k).length % 8 = 0 ∧ intsB .u8 b = true ∧ 0 < b.length) :
    ∀ k, k ≤ n + 1 → intsB .u8 (catY ys k) = true ∧ k ≤ (catY ys k).length
  | 0, _ => ⟨rfl, Nat.zero_le _⟩
  | k + 1, hk => by
    obtain ⟨q1, q2⟩ := chain_cat hl h k (by omega)
    obtain ⟨_, _, _, _, _, _, _, _, _, b, g, e, _, hb, hp⟩ := h k (by omega)
    rw [catY_next (by omega), e]
    refine ⟨ints_cat q1 hb, ?_⟩
    rw [List.length_append]
    show k + 1 ≤ (catY ys k).length + b.length
    omega

noncomputable def cutG (cs xs : List AV) : Bool := @decide (∃ m, CutP m cs xs) (Classical.propDecidable _)
theorem cutG_iff {cs xs : List AV} : cutG cs xs = true ↔ ∃ m, CutP m cs xs := by unfold cutG; exact @decide_eq_true_iff _ (Classical.propDecidable _)
/-- Can fragment i not be split so? -/
def agB (le : Int) (xs : List AV) (i : Nat) : Bool := !(sp6E ((xs.getD i .junk).cells.getD 1 .junk).toInt ((xs.getD i .junk).cells.getD 35 .junk).toFs ((xs.getD i .junk).cells.getD 36 .junk).toBool ((xs.getD i .junk).cells.getD 37 .junk).toInt ((xs.getD i .junk).cells.getD 38 .junk).toInt ((xs.getD i .junk).cells.getD 39 .junk).toBool ((xs.getD i .junk).cells.getD 40 .junk).toInt ((xs.getD i .junk).cells.getD 41 .junk).toFs le == 0)
def agR (cs xs : List AV) (i : Nat) : AH := match i with
  | 0 => [.cells 0 cs]
  | i + 1 => [.cells 0 cs, .cells (catY xs (i + 1)).length (catY xs (i + 1))]
def agN (le : Int) (xs : List AV) : Bool := noneB (agB le xs) xs.length 0
def agH (le : Int) (cs xs : List AV) : AH := agR cs xs (firstB (agB le xs) xs.length 0)
theorem u32_in (n : Int) : 0 ≤ IntKind.u32.wrap n ∧ IntKind.u32.wrap n < 4294967296 := by
  have e : IntKind.u32.wrap n = n % 4294967296 := rfl
  rw [e]
  exact ⟨Int.emod_nonneg _ (by decide), Int.emod_lt_of_pos _ (by decide)⟩

def outY (xs : List AV) (i : Nat) : AV := match i with -- Nx
  | 0 => .fs 0 [] .nil
  | i + 1 => .sl 1 (catY xs (i + 1)).length 0 (catY xs (i + 1)).length 1
theorem catY_cut {cl lb hop : Int} {x y : Nat → Int} {gs : List AV} {gf : SF} {i2 off : Int} {mo : Bool} {pr : Int} {bs : List AV} {M K : Nat} {xs : List AV} (k1 : K * (M / 8 * 8) < bs.length)
    (hxs : xs = (List.range (K + 1)).map (fun j => AV.agg (v6L cl lb hop x y gs gf true i2 (frg (M / 8 * 8) K off mo bs j).2.1 (frg (M / 8 * 8) K off mo bs j).1 pr (frg (M / 8 * 8) K off mo bs j).2.2 .any))) : ∀ j, j ≤ K + 1 → catY xs j = catJ (M / 8 * 8) K bs j := by
  have hxl : xs.length = K + 1 := by rw [hxs, List.length_map, List.length_range]
  intro j
  induction j with
  | zero => intro _; unfold catJ catY; rw [decide_eq_true (Nat.zero_le K), cond_true, Nat.zero_mul]; rfl
  | succ j ih =>
    intro hj
    have e : xs.getD j .junk = .agg (v6L cl lb hop x y gs gf true i2 (frg (M / 8 * 8) K off mo bs j).2.1 (frg (M / 8 * 8) K off mo bs j).1 pr (frg (M / 8 * 8) K off mo bs j).2.2 .any) := by
      rw [hxs]; exact row_get (frg (M / 8 * 8) K off mo bs) (fun r => .agg (v6L cl lb hop x y gs gf true i2 r.2.1 r.1 pr r.2.2 .any)) (by omega)
    rw [catY_next (by omega), ih (by omega), e, (catJ_next (R := M / 8 * 8) (off := off) (mo := mo) (by omega : j < K + 1) (by omega)).1]
    rfl
theorem sp6_chain {cl lb hop : Int} {x y : Nat → Int} {hs : List AV} {hf : SF} {id off : Int} {mo : Bool} {pr : Int} {bs : List AV} {bf : SF} {m i2 : Int} (hok : v6Ok lb hs hf id off pr bs bf = true) (hp : 0 < bs.length) (hE : sp6E lb hs true id off mo pr bs m = 0) : ChainP id off mo bs (sp6L true (v6L cl lb hop x y hs hf true id off mo pr bs bf) m i2) := by
  have hh := (v6Ok_iff.1 hok).1
  have hb := (v6Ok_iff.1 hok).2.2.1
  have hA : ask6 lb hs true id off mo pr bs m = 0 := by
    cases hq : ask6 lb hs true id off mo pr bs m == 0 with
    | true => exact beq_iff_eq.1 hq
    | false => unfold sp6E at hE; rw [hq] at hE; exact hE
  rw [sp6L_at, hE]
  cases hF : fit6 lb hs true id off mo pr bs m with
  | true => exact chain_one hb (chk6_len (ask6_ok hA).1).2 hp
  | false =>
    obtain ⟨M, K, hcut, hK, k1, k2, ho, hfl⟩ := cut_facts hh hE hA hF
    simp only [beq_self_eq_true, cond_true, cond_false]
    rw [hfl, List.map_map]
    exact chain_cut (cl := cl) (lb := lb) (hop := hop) (x := x) (y := y) (gs := hs.map cloH) (gf := cloF hs hf) (pr := pr) hb hcut hK k1 k2 ho

end Go.Pl
