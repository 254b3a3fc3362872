import Derived.Test.YtohfnoepdbkkeaaFSplitOwnd
namespace Go.Proofs.Ytohfnoepdbkkeaa
open Go.Abs Go.Pl

/-- ferryman/ferrymanlaw13.SplitOwn -/
noncomputable def T6 : List (FuncId × FSpec) := [(15, S15), (16, S16), (17, S17), (19, S19), (20, S20), (21, S21)]
theorem T6_ok : TabOK Try.prog T6 := TabOK.cons En15 S15_ok (TabOK.cons En16 S16_ok (TabOK.cons En17 S17_ok (TabOK.cons En19 S19_ok (TabOK.cons En20 S20_ok (TabOK.cons En21 S21_ok (TabOK.nil _))))))
noncomputable def L6_8 : ATs → AH → KC → Res := fun ts H k => match ts, H with
  | [(1, .int .i64 m), (2, .ptr 0 0 0), (5, .ptr 1 0 0), (6, x6), (7, x7), (37, .int .i64 ln), (38, .int .i64 j)], [.cells 0 a, .cells 0 b] => aIf (j == 0 && ln == 0) (k (.exit 0) [(1, .int .i64 m), (2, .ptr 0 0 0), (5, .ptr 1 0 0), (6, x6), (7, x7), (37, .int .i64 ln), (38, .int .i64 j), (39, .bool false)] [.cells 0 a, .cells 0 b]) none
  | [(1, .int .i64 m), (2, .ptr 0 0 0), (5, .ptr 1 0 0), (6, x6), (7, x7), (37, .int .i64 ln), (38, .int .i64 j)], [.cells 0 a, .cells 0 [y0, y1, y2, y3, y4, y5, y6, y7, y8, y9, y10, y11, y12, y13, y14, y15, .sl 2 v 0 n 1], .cells w cs] => aIf (j == 0 && ln == (n : Int) && w == v && decide (n ≤ cs.length) && decide (n ≤ 1000000) && allU8 cs) (k (.exit 0) [(1, .int .i64 m), (2, .ptr 0 0 0), (5, .ptr 1 0 0), (6, x6), (7, x7), (37, .int .i64 ln), (38, .int .i64 ln), (39, .bool false)] [.cells 0 a, .cells 0 [y0, y1, y2, y3, y4, y5, y6, y7, y8, y9, y10, y11, y12, y13, y14, y15, .sl 2 v 0 n 1], .cells w (xrL n cs)]) none
  | [(1, .int .i64 m), (2, .ptr 0 0 0), (5, .ptr 1 0 0), (6, x6), (7, x7), (37, .int .i64 ln), (38, .int .i64 j)], [.cells 0 a, .cells 0 [y0, y1, y2, y3, y4, y5, y6, y7, y8, y9, y10, y11, y12, y13, y14, y15, .sl 2 v 0 n 1], .cells w cs, .cells w2 cs2] => aIf (j == 0 && ln == (n : Int) && w == v && decide (n ≤ cs.length) && decide (n ≤ 1000000) && allU8 cs) (k (.exit 0) [(1, .int .i64 m), (2, .ptr 0 0 0), (5, .ptr 1 0 0), (6, x6), (7, x7), (37, .int .i64 ln), (38, .int .i64 ln), (39, .bool false)] [.cells 0 a, .cells 0 [y0, y1, y2, y3, y4, y5, y6, y7, y8, y9, y10, y11, y12, y13, y14, y15, .sl 2 v 0 n 1], .cells w (xrL n cs), .cells w2 cs2]) none
  | [(1, .int .i64 m), (2, .ptr 0 0 0), (5, .ptr 1 0 0), (6, x6), (7, x7), (37, .int .i64 ln), (38, .int .i64 j)], [.cells 0 a, .cells 0 b, .cells w cs] => aIf (j == 0 && ln == 0) (k (.exit 0) [(1, .int .i64 m), (2, .ptr 0 0 0), (5, .ptr 1 0 0), (6, x6), (7, x7), (37, .int .i64 ln), (38, .int .i64 j), (39, .bool false)] [.cells 0 a, .cells 0 b, .cells w cs]) none
  | _, _ => none
noncomputable def L6_13 : ATs → AH → KC → Res := fun ts H k => match ts, H with
  | [(1, .int .i64 m), (2, .ptr 0 0 0), (5, .ptr 1 0 0), (6, x6), (7, x7), (54, .int .i64 ln), (55, .int .i64 j)], [.cells 0 a, .cells 0 b] => aIf (j == 0 && ln == 0) (k (.exit 2) [(1, .int .i64 m), (2, .ptr 0 0 0), (5, .ptr 1 0 0), (6, x6), (7, x7), (54, .int .i64 ln), (55, .int .i64 j), (56, .bool false)] [.cells 0 a, .cells 0 b]) none
  | [(1, .int .i64 m), (2, .ptr 0 0 0), (5, .ptr 1 0 0), (6, x6), (7, x7), (54, .int .i64 ln), (55, .int .i64 j)], [.cells 0 a, .cells 0 [y0, y1, y2, y3, y4, y5, y6, y7, y8, y9, y10, y11, y12, y13, y14, .sl 2 v 0 n 1, y16], .cells w cs] => aIf (j == 0 && ln == (n : Int) && w == v && decide (n ≤ cs.length) && decide (n ≤ 1000000) && allU8 cs) (k (.exit 2) [(1, .int .i64 m), (2, .ptr 0 0 0), (5, .ptr 1 0 0), (6, x6), (7, x7), (54, .int .i64 ln), (55, .int .i64 ln), (56, .bool false)] [.cells 0 a, .cells 0 [y0, y1, y2, y3, y4, y5, y6, y7, y8, y9, y10, y11, y12, y13, y14, .sl 2 v 0 n 1, y16], .cells w (xrL n cs)]) none
  | [(1, .int .i64 m), (2, .ptr 0 0 0), (5, .ptr 1 0 0), (6, x6), (7, x7), (54, .int .i64 ln), (55, .int .i64 j)], [.cells 0 a, .cells 0 [y0, y1, y2, y3, y4, y5, y6, y7, y8, y9, y10, y11, y12, y13, y14, .sl 3 v 0 n 1, y16], .cells w2 cs2, .cells w cs] => aIf (j == 0 && ln == (n : Int) && w == v && decide (n ≤ cs.length) && decide (n ≤ 1000000) && allU8 cs) (k (.exit 2) [(1, .int .i64 m), (2, .ptr 0 0 0), (5, .ptr 1 0 0), (6, x6), (7, x7), (54, .int .i64 ln), (55, .int .i64 ln), (56, .bool false)] [.cells 0 a, .cells 0 [y0, y1, y2, y3, y4, y5, y6, y7, y8, y9, y10, y11, y12, y13, y14, .sl 3 v 0 n 1, y16], .cells w2 cs2, .cells w (xrL n cs)]) none
  | [(1, .int .i64 m), (2, .ptr 0 0 0), (5, .ptr 1 0 0), (6, x6), (7, x7), (54, .int .i64 ln), (55, .int .i64 j)], [.cells 0 a, .cells 0 b, .cells w cs] => aIf (j == 0 && ln == 0) (k (.exit 2) [(1, .int .i64 m), (2, .ptr 0 0 0), (5, .ptr 1 0 0), (6, x6), (7, x7), (54, .int .i64 ln), (55, .int .i64 j), (56, .bool false)] [.cells 0 a, .cells 0 b, .cells w cs]) none
  | _, _ => none
noncomputable def C6 : Ctx := (ctx E T6 [(8, L6_8), (13, L6_13)] [(0, [1, 2]), (1, [1, 2]), (2, [1, 2, 5]), (3, [1, 2, 5]), (4, [1, 2, 5, 6, 7]), (5, [1, 2, 5, 6, 7, 34]), (6, [4]), (7, [1, 2, 5, 6, 7, 37, 38]), (8, [1, 2, 5, 6, 7, 37, 38, 39]), (9, [1, 2, 5, 6, 7, 8, 37, 38]), (10, [1, 2, 5, 6, 7, 37, 38]), (11, [1, 2, 5, 6, 7, 37, 38]), (12, [1, 2, 5, 6, 7, 54, 55]), (13, [1, 2, 5, 6, 7, 54, 55, 56]), (14, [1, 2, 5, 6, 7, 9, 54, 55]), (15, [1, 2, 5, 6, 7, 54, 55]), (16, [1, 2, 5, 6, 7, 54, 55]), (17, [6, 7, 10, 11]), (18, [4]), (1000008, [1, 2, 5, 6, 7, 37, 38]), (1000013, [1, 2, 5, 6, 7, 54, 55])] [3000017, 1000019] 86 70)
theorem C6_ok : CtxOK Try.prog C6 := ctx_ok E_ok E_flds mixed T6_ok
theorem C6_l0 : C6.loop (loopId (loopB Try.f6 0)) = some L6_8 := by kernel_rfl
theorem C6_l1 : C6.loop (loopId (loopB Try.f6 1)) = some L6_13 := by kernel_rfl
theorem L6_13_in : LoopsOK C6 (loopB Try.f6 1) := LoopsOK.within 0 (by kernel_rfl) (fun j hj S hS => by
  omega)
theorem M6_13a (m : Int) (x6 x7 : AV) (a b : List AV) (k : KC) : headedK C6 (loopB Try.f6 1) [(1, .int .i64 m), (2, .ptr 0 0 0), (5, .ptr 1 0 0), (6, x6), (7, x7), (54, .int .i64 0), (55, .int .i64 0)] [.cells 0 a, .cells 0 b] k =
  k (AExit.exit 2) [(1, AV.int IntKind.i64 m), (2, AV.ptr 0 0 0), (5, AV.ptr 1 0 0), (6, x6), (7, x7), (54, AV.int IntKind.i64 0), (55, AV.int IntKind.i64 0), (56, AV.bool false)] [AO.cells 0 a, AO.cells 0 b] := by kernel_rfl
theorem M6_13b (m : Int) (x6 x7 : AV) (ln j : Int) (a : List AV) (y0 y1 y2 y3 y4 y5 y6 y7 y8 y9 y10 y11 y12 y13 y14 y16 : AV) (v n w : Nat) (cs : List AV) (k : KC) : headedK C6 (loopB Try.f6 1) [(1, .int .i64 m), (2, .ptr 0 0 0), (5, .ptr 1 0 0), (6, x6), (7, x7), (54, .int .i64 ln), (55, .int .i64 j)] [.cells 0 a, .cells 0 [y0, y1, y2, y3, y4, y5, y6, y7, y8, y9, y10, y11, y12, y13, y14, .sl 2 v 0 n 1, y16], .cells w cs] k =
  aIf (decide (j < ln)) (aIf (decide (0 ≤ j)) (aIf (decide (j < (↑n : Int))) (aIf (w == v) (aIf (decide (0 + j.toNat * 1 + 1 ≤ cs.length)) (aIf ((cs.getD (0 + j.toNat * 1) AV.junk).isInt IntKind.u8) (aIf (decide (0 ≤ j)) (aIf (decide (j < (↑n : Int))) (aIf (w == v) (aIf (decide (0 + j.toNat * 1 + 1 ≤ cs.length)) (k AExit.normal [(1, AV.int IntKind.i64 m), (2, AV.ptr 0 0 0), (5, AV.ptr 1 0 0), (6, x6), (7, x7), (54, AV.int IntKind.i64 ln), (55, AV.int IntKind.i64 (IntKind.i64.wrap (j + 1)))] [AO.cells 0 a, AO.cells 0 [y0, y1, y2, y3, y4, y5, y6, y7, y8, y9, y10, y11, y12, y13, y14, AV.sl 2 v 0 n 1, y16], AO.cells v (cs.set (0 + j.toNat * 1) (AV.int IntKind.u8 (IntKind.u8.wrap (↑(BitVec.ofInt 8 (cs.getD (0 + j.toNat * 1) AV.junk).toInt ^^^ BitVec.ofInt 8 255).toNat : Int))))]) none) none) none) none) none) none) none) none) none) (k (AExit.exit 2) [(1, AV.int IntKind.i64 m), (2, AV.ptr 0 0 0), (5, AV.ptr 1 0 0), (6, x6), (7, x7), (54, AV.int IntKind.i64 ln), (55, AV.int IntKind.i64 j), (56, AV.bool (decide (j < ln)))] [AO.cells 0 a, AO.cells 0 [y0, y1, y2, y3, y4, y5, y6, y7, y8, y9, y10, y11, y12, y13, y14, AV.sl 2 v 0 n 1, y16], AO.cells w cs]) := by kernel_rfl
theorem M6_13c (m : Int) (x6 x7 : AV) (ln j : Int) (a : List AV) (y0 y1 y2 y3 y4 y5 y6 y7 y8 y9 y10 y11 y12 y13 y14 y16 : AV) (v n w : Nat) (cs : List AV) (w2 : Nat) (cs2 : List AV) (k : KC) : headedK C6 (loopB Try.f6 1) [(1, .int .i64 m), (2, .ptr 0 0 0), (5, .ptr 1 0 0), (6, x6), (7, x7), (54, .int .i64 ln), (55, .int .i64 j)] [.cells 0 a, .cells 0 [y0, y1, y2, y3, y4, y5, y6, y7, y8, y9, y10, y11, y12, y13, y14, .sl 3 v 0 n 1, y16], .cells w2 cs2, .cells w cs] k =
  aIf (decide (j < ln)) (aIf (decide (0 ≤ j)) (aIf (decide (j < (↑n : Int))) (aIf (w == v) (aIf (decide (0 + j.toNat * 1 + 1 ≤ cs.length)) (aIf ((cs.getD (0 + j.toNat * 1) AV.junk).isInt IntKind.u8) (aIf (decide (0 ≤ j)) (aIf (decide (j < (↑n : Int))) (aIf (w == v) (aIf (decide (0 + j.toNat * 1 + 1 ≤ cs.length)) (k AExit.normal [(1, AV.int IntKind.i64 m), (2, AV.ptr 0 0 0), (5, AV.ptr 1 0 0), (6, x6), (7, x7), (54, AV.int IntKind.i64 ln), (55, AV.int IntKind.i64 (IntKind.i64.wrap (j + 1)))] [AO.cells 0 a, AO.cells 0 [y0, y1, y2, y3, y4, y5, y6, y7, y8, y9, y10, y11, y12, y13, y14, AV.sl 3 v 0 n 1, y16], AO.cells w2 cs2, AO.cells v (cs.set (0 + j.toNat * 1) (AV.int IntKind.u8 (IntKind.u8.wrap (↑(BitVec.ofInt 8 (cs.getD (0 + j.toNat * 1) AV.junk).toInt ^^^ BitVec.ofInt 8 255).toNat : Int))))]) none) none) none) none) none) none) none) none) none) (k (AExit.exit 2) [(1, AV.int IntKind.i64 m), (2, AV.ptr 0 0 0), (5, AV.ptr 1 0 0), (6, x6), (7, x7), (54, AV.int IntKind.i64 ln), (55, AV.int IntKind.i64 j), (56, AV.bool (decide (j < ln)))] [AO.cells 0 a, AO.cells 0 [y0, y1, y2, y3, y4, y5, y6, y7, y8, y9, y10, y11, y12, y13, y14, AV.sl 3 v 0 n 1, y16], AO.cells w2 cs2, AO.cells w cs]) := by kernel_rfl
theorem M6_13d (m : Int) (x6 x7 : AV) (a b : List AV) (w : Nat) (cs : List AV) (k : KC) : headedK C6 (loopB Try.f6 1) [(1, .int .i64 m), (2, .ptr 0 0 0), (5, .ptr 1 0 0), (6, x6), (7, x7), (54, .int .i64 0), (55, .int .i64 0)] [.cells 0 a, .cells 0 b, .cells w cs] k =
  k (AExit.exit 2) [(1, AV.int IntKind.i64 m), (2, AV.ptr 0 0 0), (5, AV.ptr 1 0 0), (6, x6), (7, x7), (54, AV.int IntKind.i64 0), (55, AV.int IntKind.i64 0), (56, AV.bool false)] [AO.cells 0 a, AO.cells 0 b, AO.cells w cs] := by kernel_rfl
theorem L6_13_ok : LoopSum C6 (loopB Try.f6 1) L6_13 := LoopSum.of C6_ok L6_13_in (fun ts H => by
  unfold L6_13
  split
  · rename_i m x6 x7 ln j a b
    rcases Bool.eq_false_or_eq_true (j == 0 && ln == 0) with hp | hp
    · refine .inr ?_
      simp only [aIf_pos hp]
      simp only [Bool.and_eq_true, beq_iff_eq] at hp
      obtain ⟨rfl, rfl⟩ := hp
      exact ⟨1, fun k => (iter_exit (by intro h; cases h) (fun k => by rw [M6_13a]) 0 k).symm⟩
    · exact .inl fun k => by rw [aIf_neg hp]
  · rename_i m x6 x7 ln j a y0 y1 y2 y3 y4 y5 y6 y7 y8 y9 y10 y11 y12 y13 y14 v n y16 w cs
    rcases Bool.eq_false_or_eq_true (j == 0 && ln == (n : Int) && w == v && decide (n ≤ cs.length) && decide (n ≤ 1000000) && allU8 cs) with hp | hp
    · refine .inr ?_
      simp only [aIf_pos hp]
      simp only [Bool.and_eq_true, beq_iff_eq, decide_eq_true_eq] at hp
      obtain ⟨⟨⟨⟨⟨rfl, rfl⟩, rfl⟩, hn⟩, hm⟩, hu⟩ := hp
      have key : ∀ (j : Nat) (d : List AV), j < n → (d.length = cs.length ∧ allU8 d = true) → ∀ k, headedK C6 (loopB Try.f6 1) [(1, .int .i64 m), (2, .ptr 0 0 0), (5, .ptr 1 0 0), (6, x6), (7, x7), (54, .int .i64 (n : Int)), (55, .int .i64 (j : Int))] [.cells 0 a, .cells 0 [y0, y1, y2, y3, y4, y5, y6, y7, y8, y9, y10, y11, y12, y13, y14, .sl 2 w 0 n 1, y16], .cells w d] k = k .normal [(1, .int .i64 m), (2, .ptr 0 0 0), (5, .ptr 1 0 0), (6, x6), (7, x7), (54, .int .i64 (n : Int)), (55, .int .i64 ((j + 1 : Nat) : Int))] [.cells 0 a, .cells 0 [y0, y1, y2, y3, y4, y5, y6, y7, y8, y9, y10, y11, y12, y13, y14, .sl 2 w 0 n 1, y16], .cells w (xrS j d)] := by
        intro j d hj hI k
        have hlt : decide ((j : Int) < (n : Int)) = true := decide_eq_true (by omega)
        have h0 : decide ((0 : Int) ≤ (j : Int)) = true := decide_eq_true (by omega)
        have hn1 : IntKind.i64.wrap ((j : Int) + 1) = ((j + 1 : Nat) : Int) := by rw [i64_of (by omega) (by omega)]; omega
        have hle : decide (j + 1 ≤ d.length) = true := decide_eq_true (by omega)
        have hg := allU8_get hI.2 (show j < d.length by omega)
        have ew : (w == w) = true := beq_self_eq_true _
        rw [M6_13b]
        simp only [hlt, h0, hle, hg, hn1, ew, Int.toNat_natCast, Nat.mul_one, Nat.zero_add, aIf_true, aIf_false]
        rfl
      obtain ⟨m', hm'⟩ := iter_fold (δ := List AV) (N := n) (F := headedK C6 (loopB Try.f6 1)) (ts := fun j _ => [(1, .int .i64 m), (2, .ptr 0 0 0), (5, .ptr 1 0 0), (6, x6), (7, x7), (54, .int .i64 (n : Int)), (55, .int .i64 (j : Int))]) (H := fun _ d => [.cells 0 a, .cells 0 [y0, y1, y2, y3, y4, y5, y6, y7, y8, y9, y10, y11, y12, y13, y14, .sl 2 w 0 n 1, y16], .cells w d]) (f := xrS) (I := fun _ d => d.length = cs.length ∧ allU8 d = true) (ee := .exit 2) (te := fun _ => [(1, .int .i64 m), (2, .ptr 0 0 0), (5, .ptr 1 0 0), (6, x6), (7, x7), (54, .int .i64 (n : Int)), (55, .int .i64 (n : Int)), (56, .bool false)]) (He := fun d => [.cells 0 a, .cells 0 [y0, y1, y2, y3, y4, y5, y6, y7, y8, y9, y10, y11, y12, y13, y14, .sl 2 w 0 n 1, y16], .cells w d])
        (fun j d hj hI => ⟨⟨by rw [xrS_len]; exact hI.1, allU8_set hI.2⟩, fun k => key j d hj hI k⟩)
        (fun d hI k => by rw [M6_13b, decide_eq_false (by omega), aIf_false]) (by intro h; cases h) n 0 cs (by omega) ⟨rfl, hu⟩
      exact ⟨m', fun k => (hm' k).symm⟩
    · exact .inl fun k => by rw [aIf_neg hp]
  · rename_i m x6 x7 ln j a y0 y1 y2 y3 y4 y5 y6 y7 y8 y9 y10 y11 y12 y13 y14 v n y16 w2 cs2 w cs
    rcases Bool.eq_false_or_eq_true (j == 0 && ln == (n : Int) && w == v && decide (n ≤ cs.length) && decide (n ≤ 1000000) && allU8 cs) with hp | hp
    · refine .inr ?_
      simp only [aIf_pos hp]
      simp only [Bool.and_eq_true, beq_iff_eq, decide_eq_true_eq] at hp
      obtain ⟨⟨⟨⟨⟨rfl, rfl⟩, rfl⟩, hn⟩, hm⟩, hu⟩ := hp
      have key : ∀ (j : Nat) (d : List AV), j < n → (d.length = cs.length ∧ allU8 d = true) → ∀ k, headedK C6 (loopB Try.f6 1) [(1, .int .i64 m), (2, .ptr 0 0 0), (5, .ptr 1 0 0), (6, x6), (7, x7), (54, .int .i64 (n : Int)), (55, .int .i64 (j : Int))] [.cells 0 a, .cells 0 [y0, y1, y2, y3, y4, y5, y6, y7, y8, y9, y10, y11, y12, y13, y14, .sl 3 w 0 n 1, y16], .cells w2 cs2, .cells w d] k = k .normal [(1, .int .i64 m), (2, .ptr 0 0 0), (5, .ptr 1 0 0), (6, x6), (7, x7), (54, .int .i64 (n : Int)), (55, .int .i64 ((j + 1 : Nat) : Int))] [.cells 0 a, .cells 0 [y0, y1, y2, y3, y4, y5, y6, y7, y8, y9, y10, y11, y12, y13, y14, .sl 3 w 0 n 1, y16], .cells w2 cs2, .cells w (xrS j d)] := by
        intro j d hj hI k
        have hlt : decide ((j : Int) < (n : Int)) = true := decide_eq_true (by omega)
        have h0 : decide ((0 : Int) ≤ (j : Int)) = true := decide_eq_true (by omega)
        have hn1 : IntKind.i64.wrap ((j : Int) + 1) = ((j + 1 : Nat) : Int) := by rw [i64_of (by omega) (by omega)]; omega
        have hle : decide (j + 1 ≤ d.length) = true := decide_eq_true (by omega)
        have hg := allU8_get hI.2 (show j < d.length by omega)
        have ew : (w == w) = true := beq_self_eq_true _
        rw [M6_13c]
        simp only [hlt, h0, hle, hg, hn1, ew, Int.toNat_natCast, Nat.mul_one, Nat.zero_add, aIf_true, aIf_false]
        rfl
      obtain ⟨m', hm'⟩ := iter_fold (δ := List AV) (N := n) (F := headedK C6 (loopB Try.f6 1)) (ts := fun j _ => [(1, .int .i64 m), (2, .ptr 0 0 0), (5, .ptr 1 0 0), (6, x6), (7, x7), (54, .int .i64 (n : Int)), (55, .int .i64 (j : Int))]) (H := fun _ d => [.cells 0 a, .cells 0 [y0, y1, y2, y3, y4, y5, y6, y7, y8, y9, y10, y11, y12, y13, y14, .sl 3 w 0 n 1, y16], .cells w2 cs2, .cells w d]) (f := xrS) (I := fun _ d => d.length = cs.length ∧ allU8 d = true) (ee := .exit 2) (te := fun _ => [(1, .int .i64 m), (2, .ptr 0 0 0), (5, .ptr 1 0 0), (6, x6), (7, x7), (54, .int .i64 (n : Int)), (55, .int .i64 (n : Int)), (56, .bool false)]) (He := fun d => [.cells 0 a, .cells 0 [y0, y1, y2, y3, y4, y5, y6, y7, y8, y9, y10, y11, y12, y13, y14, .sl 3 w 0 n 1, y16], .cells w2 cs2, .cells w d])
        (fun j d hj hI => ⟨⟨by rw [xrS_len]; exact hI.1, allU8_set hI.2⟩, fun k => key j d hj hI k⟩)
        (fun d hI k => by rw [M6_13c, decide_eq_false (by omega), aIf_false]) (by intro h; cases h) n 0 cs (by omega) ⟨rfl, hu⟩
      exact ⟨m', fun k => (hm' k).symm⟩
    · exact .inl fun k => by rw [aIf_neg hp]
  · rename_i m x6 x7 ln j a b w cs hov
    rcases Bool.eq_false_or_eq_true (j == 0 && ln == 0) with hp | hp
    · refine .inr ?_
      simp only [aIf_pos hp]
      simp only [Bool.and_eq_true, beq_iff_eq] at hp
      obtain ⟨rfl, rfl⟩ := hp
      exact ⟨1, fun k => (iter_exit (by intro h; cases h) (fun k => by rw [M6_13d]) 0 k).symm⟩
    · exact .inl fun k => by rw [aIf_neg hp]
  · exact .inl fun k => rfl)
theorem L6_8_in : LoopsOK C6 (loopB Try.f6 0) := LoopsOK.within 0 (by kernel_rfl) (fun j hj S hS => by
  omega)
theorem M6_8a (m : Int) (x6 x7 : AV) (a b : List AV) (k : KC) : headedK C6 (loopB Try.f6 0) [(1, .int .i64 m), (2, .ptr 0 0 0), (5, .ptr 1 0 0), (6, x6), (7, x7), (37, .int .i64 0), (38, .int .i64 0)] [.cells 0 a, .cells 0 b] k =
  k (AExit.exit 0) [(1, AV.int IntKind.i64 m), (2, AV.ptr 0 0 0), (5, AV.ptr 1 0 0), (6, x6), (7, x7), (37, AV.int IntKind.i64 0), (38, AV.int IntKind.i64 0), (39, AV.bool false)] [AO.cells 0 a, AO.cells 0 b] := by kernel_rfl
theorem M6_8b (m : Int) (x6 x7 : AV) (ln j : Int) (a : List AV) (y0 y1 y2 y3 y4 y5 y6 y7 y8 y9 y10 y11 y12 y13 y14 y15 : AV) (v n w : Nat) (cs : List AV) (k : KC) : headedK C6 (loopB Try.f6 0) [(1, .int .i64 m), (2, .ptr 0 0 0), (5, .ptr 1 0 0), (6, x6), (7, x7), (37, .int .i64 ln), (38, .int .i64 j)] [.cells 0 a, .cells 0 [y0, y1, y2, y3, y4, y5, y6, y7, y8, y9, y10, y11, y12, y13, y14, y15, .sl 2 v 0 n 1], .cells w cs] k =
  aIf (decide (j < ln)) (aIf (decide (0 ≤ j)) (aIf (decide (j < (↑n : Int))) (aIf (w == v) (aIf (decide (0 + j.toNat * 1 + 1 ≤ cs.length)) (aIf ((cs.getD (0 + j.toNat * 1) AV.junk).isInt IntKind.u8) (aIf (decide (0 ≤ j)) (aIf (decide (j < (↑n : Int))) (aIf (w == v) (aIf (decide (0 + j.toNat * 1 + 1 ≤ cs.length)) (k AExit.normal [(1, AV.int IntKind.i64 m), (2, AV.ptr 0 0 0), (5, AV.ptr 1 0 0), (6, x6), (7, x7), (37, AV.int IntKind.i64 ln), (38, AV.int IntKind.i64 (IntKind.i64.wrap (j + 1)))] [AO.cells 0 a, AO.cells 0 [y0, y1, y2, y3, y4, y5, y6, y7, y8, y9, y10, y11, y12, y13, y14, y15, AV.sl 2 v 0 n 1], AO.cells v (cs.set (0 + j.toNat * 1) (AV.int IntKind.u8 (IntKind.u8.wrap (↑(BitVec.ofInt 8 (cs.getD (0 + j.toNat * 1) AV.junk).toInt ^^^ BitVec.ofInt 8 255).toNat : Int))))]) none) none) none) none) none) none) none) none) none) (k (AExit.exit 0) [(1, AV.int IntKind.i64 m), (2, AV.ptr 0 0 0), (5, AV.ptr 1 0 0), (6, x6), (7, x7), (37, AV.int IntKind.i64 ln), (38, AV.int IntKind.i64 j), (39, AV.bool (decide (j < ln)))] [AO.cells 0 a, AO.cells 0 [y0, y1, y2, y3, y4, y5, y6, y7, y8, y9, y10, y11, y12, y13, y14, y15, AV.sl 2 v 0 n 1], AO.cells w cs]) := by kernel_rfl
theorem M6_8c (m : Int) (x6 x7 : AV) (ln j : Int) (a : List AV) (y0 y1 y2 y3 y4 y5 y6 y7 y8 y9 y10 y11 y12 y13 y14 y15 : AV) (v n w : Nat) (cs : List AV) (w2 : Nat) (cs2 : List AV) (k : KC) : headedK C6 (loopB Try.f6 0) [(1, .int .i64 m), (2, .ptr 0 0 0), (5, .ptr 1 0 0), (6, x6), (7, x7), (37, .int .i64 ln), (38, .int .i64 j)] [.cells 0 a, .cells 0 [y0, y1, y2, y3, y4, y5, y6, y7, y8, y9, y10, y11, y12, y13, y14, y15, .sl 2 v 0 n 1], .cells w cs, .cells w2 cs2] k =
  aIf (decide (j < ln)) (aIf (decide (0 ≤ j)) (aIf (decide (j < (↑n : Int))) (aIf (w == v) (aIf (decide (0 + j.toNat * 1 + 1 ≤ cs.length)) (aIf ((cs.getD (0 + j.toNat * 1) AV.junk).isInt IntKind.u8) (aIf (decide (0 ≤ j)) (aIf (decide (j < (↑n : Int))) (aIf (w == v) (aIf (decide (0 + j.toNat * 1 + 1 ≤ cs.length)) (k AExit.normal [(1, AV.int IntKind.i64 m), (2, AV.ptr 0 0 0), (5, AV.ptr 1 0 0), (6, x6), (7, x7), (37, AV.int IntKind.i64 ln), (38, AV.int IntKind.i64 (IntKind.i64.wrap (j + 1)))] [AO.cells 0 a, AO.cells 0 [y0, y1, y2, y3, y4, y5, y6, y7, y8, y9, y10, y11, y12, y13, y14, y15, AV.sl 2 v 0 n 1], AO.cells v (cs.set (0 + j.toNat * 1) (AV.int IntKind.u8 (IntKind.u8.wrap (↑(BitVec.ofInt 8 (cs.getD (0 + j.toNat * 1) AV.junk).toInt ^^^ BitVec.ofInt 8 255).toNat : Int)))), AO.cells w2 cs2]) none) none) none) none) none) none) none) none) none) (k (AExit.exit 0) [(1, AV.int IntKind.i64 m), (2, AV.ptr 0 0 0), (5, AV.ptr 1 0 0), (6, x6), (7, x7), (37, AV.int IntKind.i64 ln), (38, AV.int IntKind.i64 j), (39, AV.bool (decide (j < ln)))] [AO.cells 0 a, AO.cells 0 [y0, y1, y2, y3, y4, y5, y6, y7, y8, y9, y10, y11, y12, y13, y14, y15, AV.sl 2 v 0 n 1], AO.cells w cs, AO.cells w2 cs2]) := by kernel_rfl
theorem M6_8d (m : Int) (x6 x7 : AV) (a b : List AV) (w : Nat) (cs : List AV) (k : KC) : headedK C6 (loopB Try.f6 0) [(1, .int .i64 m), (2, .ptr 0 0 0), (5, .ptr 1 0 0), (6, x6), (7, x7), (37, .int .i64 0), (38, .int .i64 0)] [.cells 0 a, .cells 0 b, .cells w cs] k =
  k (AExit.exit 0) [(1, AV.int IntKind.i64 m), (2, AV.ptr 0 0 0), (5, AV.ptr 1 0 0), (6, x6), (7, x7), (37, AV.int IntKind.i64 0), (38, AV.int IntKind.i64 0), (39, AV.bool false)] [AO.cells 0 a, AO.cells 0 b, AO.cells w cs] := by kernel_rfl
theorem L6_8_ok : LoopSum C6 (loopB Try.f6 0) L6_8 := LoopSum.of C6_ok L6_8_in (fun ts H => by
  unfold L6_8
  split
  · rename_i m x6 x7 ln j a b
    rcases Bool.eq_false_or_eq_true (j == 0 && ln == 0) with hp | hp
    · refine .inr ?_
      simp only [aIf_pos hp]
      simp only [Bool.and_eq_true, beq_iff_eq] at hp
      obtain ⟨rfl, rfl⟩ := hp
      exact ⟨1, fun k => (iter_exit (by intro h; cases h) (fun k => by rw [M6_8a]) 0 k).symm⟩
    · exact .inl fun k => by rw [aIf_neg hp]
  · rename_i m x6 x7 ln j a y0 y1 y2 y3 y4 y5 y6 y7 y8 y9 y10 y11 y12 y13 y14 y15 v n w cs
    rcases Bool.eq_false_or_eq_true (j == 0 && ln == (n : Int) && w == v && decide (n ≤ cs.length) && decide (n ≤ 1000000) && allU8 cs) with hp | hp
    · refine .inr ?_
      simp only [aIf_pos hp]
      simp only [Bool.and_eq_true, beq_iff_eq, decide_eq_true_eq] at hp
      obtain ⟨⟨⟨⟨⟨rfl, rfl⟩, rfl⟩, hn⟩, hm⟩, hu⟩ := hp
      have key : ∀ (j : Nat) (d : List AV), j < n → (d.length = cs.length ∧ allU8 d = true) → ∀ k, headedK C6 (loopB Try.f6 0) [(1, .int .i64 m), (2, .ptr 0 0 0), (5, .ptr 1 0 0), (6, x6), (7, x7), (37, .int .i64 (n : Int)), (38, .int .i64 (j : Int))] [.cells 0 a, .cells 0 [y0, y1, y2, y3, y4, y5, y6, y7, y8, y9, y10, y11, y12, y13, y14, y15, .sl 2 w 0 n 1], .cells w d] k = k .normal [(1, .int .i64 m), (2, .ptr 0 0 0), (5, .ptr 1 0 0), (6, x6), (7, x7), (37, .int .i64 (n : Int)), (38, .int .i64 ((j + 1 : Nat) : Int))] [.cells 0 a, .cells 0 [y0, y1, y2, y3, y4, y5, y6, y7, y8, y9, y10, y11, y12, y13, y14, y15, .sl 2 w 0 n 1], .cells w (xrS j d)] := by
        intro j d hj hI k
        have hlt : decide ((j : Int) < (n : Int)) = true := decide_eq_true (by omega)
        have h0 : decide ((0 : Int) ≤ (j : Int)) = true := decide_eq_true (by omega)
        have hn1 : IntKind.i64.wrap ((j : Int) + 1) = ((j + 1 : Nat) : Int) := by rw [i64_of (by omega) (by omega)]; omega
        have hle : decide (j + 1 ≤ d.length) = true := decide_eq_true (by omega)
        have hg := allU8_get hI.2 (show j < d.length by omega)
        have ew : (w == w) = true := beq_self_eq_true _
        rw [M6_8b]
        simp only [hlt, h0, hle, hg, hn1, ew, Int.toNat_natCast, Nat.mul_one, Nat.zero_add, aIf_true, aIf_false]
        rfl
      obtain ⟨m', hm'⟩ := iter_fold (δ := List AV) (N := n) (F := headedK C6 (loopB Try.f6 0)) (ts := fun j _ => [(1, .int .i64 m), (2, .ptr 0 0 0), (5, .ptr 1 0 0), (6, x6), (7, x7), (37, .int .i64 (n : Int)), (38, .int .i64 (j : Int))]) (H := fun _ d => [.cells 0 a, .cells 0 [y0, y1, y2, y3, y4, y5, y6, y7, y8, y9, y10, y11, y12, y13, y14, y15, .sl 2 w 0 n 1], .cells w d]) (f := xrS) (I := fun _ d => d.length = cs.length ∧ allU8 d = true) (ee := .exit 0) (te := fun _ => [(1, .int .i64 m), (2, .ptr 0 0 0), (5, .ptr 1 0 0), (6, x6), (7, x7), (37, .int .i64 (n : Int)), (38, .int .i64 (n : Int)), (39, .bool false)]) (He := fun d => [.cells 0 a, .cells 0 [y0, y1, y2, y3, y4, y5, y6, y7, y8, y9, y10, y11, y12, y13, y14, y15, .sl 2 w 0 n 1], .cells w d])
        (fun j d hj hI => ⟨⟨by rw [xrS_len]; exact hI.1, allU8_set hI.2⟩, fun k => key j d hj hI k⟩)
        (fun d hI k => by rw [M6_8b, decide_eq_false (by omega), aIf_false]) (by intro h; cases h) n 0 cs (by omega) ⟨rfl, hu⟩
      exact ⟨m', fun k => (hm' k).symm⟩
    · exact .inl fun k => by rw [aIf_neg hp]
  · rename_i m x6 x7 ln j a y0 y1 y2 y3 y4 y5 y6 y7 y8 y9 y10 y11 y12 y13 y14 y15 v n w cs w2 cs2
    rcases Bool.eq_false_or_eq_true (j == 0 && ln == (n : Int) && w == v && decide (n ≤ cs.length) && decide (n ≤ 1000000) && allU8 cs) with hp | hp
    · refine .inr ?_
      simp only [aIf_pos hp]
      simp only [Bool.and_eq_true, beq_iff_eq, decide_eq_true_eq] at hp
      obtain ⟨⟨⟨⟨⟨rfl, rfl⟩, rfl⟩, hn⟩, hm⟩, hu⟩ := hp
      have key : ∀ (j : Nat) (d : List AV), j < n → (d.length = cs.length ∧ allU8 d = true) → ∀ k, headedK C6 (loopB Try.f6 0) [(1, .int .i64 m), (2, .ptr 0 0 0), (5, .ptr 1 0 0), (6, x6), (7, x7), (37, .int .i64 (n : Int)), (38, .int .i64 (j : Int))] [.cells 0 a, .cells 0 [y0, y1, y2, y3, y4, y5, y6, y7, y8, y9, y10, y11, y12, y13, y14, y15, .sl 2 w 0 n 1], .cells w d, .cells w2 cs2] k = k .normal [(1, .int .i64 m), (2, .ptr 0 0 0), (5, .ptr 1 0 0), (6, x6), (7, x7), (37, .int .i64 (n : Int)), (38, .int .i64 ((j + 1 : Nat) : Int))] [.cells 0 a, .cells 0 [y0, y1, y2, y3, y4, y5, y6, y7, y8, y9, y10, y11, y12, y13, y14, y15, .sl 2 w 0 n 1], .cells w (xrS j d), .cells w2 cs2] := by
        intro j d hj hI k
        have hlt : decide ((j : Int) < (n : Int)) = true := decide_eq_true (by omega)
        have h0 : decide ((0 : Int) ≤ (j : Int)) = true := decide_eq_true (by omega)
        have hn1 : IntKind.i64.wrap ((j : Int) + 1) = ((j + 1 : Nat) : Int) := by rw [i64_of (by omega) (by omega)]; omega
        have hle : decide (j + 1 ≤ d.length) = true := decide_eq_true (by omega)
        have hg := allU8_get hI.2 (show j < d.length by omega)
        have ew : (w == w) = true := beq_self_eq_true _
        rw [M6_8c]
        simp only [hlt, h0, hle, hg, hn1, ew, Int.toNat_natCast, Nat.mul_one, Nat.zero_add, aIf_true, aIf_false]
        rfl
      obtain ⟨m', hm'⟩ := iter_fold (δ := List AV) (N := n) (F := headedK C6 (loopB Try.f6 0)) (ts := fun j _ => [(1, .int .i64 m), (2, .ptr 0 0 0), (5, .ptr 1 0 0), (6, x6), (7, x7), (37, .int .i64 (n : Int)), (38, .int .i64 (j : Int))]) (H := fun _ d => [.cells 0 a, .cells 0 [y0, y1, y2, y3, y4, y5, y6, y7, y8, y9, y10, y11, y12, y13, y14, y15, .sl 2 w 0 n 1], .cells w d, .cells w2 cs2]) (f := xrS) (I := fun _ d => d.length = cs.length ∧ allU8 d = true) (ee := .exit 0) (te := fun _ => [(1, .int .i64 m), (2, .ptr 0 0 0), (5, .ptr 1 0 0), (6, x6), (7, x7), (37, .int .i64 (n : Int)), (38, .int .i64 (n : Int)), (39, .bool false)]) (He := fun d => [.cells 0 a, .cells 0 [y0, y1, y2, y3, y4, y5, y6, y7, y8, y9, y10, y11, y12, y13, y14, y15, .sl 2 w 0 n 1], .cells w d, .cells w2 cs2])
        (fun j d hj hI => ⟨⟨by rw [xrS_len]; exact hI.1, allU8_set hI.2⟩, fun k => key j d hj hI k⟩)
        (fun d hI k => by rw [M6_8c, decide_eq_false (by omega), aIf_false]) (by intro h; cases h) n 0 cs (by omega) ⟨rfl, hu⟩
      exact ⟨m', fun k => (hm' k).symm⟩
    · exact .inl fun k => by rw [aIf_neg hp]
  · rename_i m x6 x7 ln j a b w cs hov
    rcases Bool.eq_false_or_eq_true (j == 0 && ln == 0) with hp | hp
    · refine .inr ?_
      simp only [aIf_pos hp]
      simp only [Bool.and_eq_true, beq_iff_eq] at hp
      obtain ⟨rfl, rfl⟩ := hp
      exact ⟨1, fun k => (iter_exit (by intro h; cases h) (fun k => by rw [M6_8d]) 0 k).symm⟩
    · exact .inl fun k => by rw [aIf_neg hp]
  · exact .inl fun k => rfl)
theorem C6_loops : ∀ c, Try.f6.body = some c → LoopsOK C6 c := LoopsOK.of 2 (by kernel_rfl) (fun j hj S hS => by
  match j, hj with
  | 0, _ => rw [C6_l0] at hS; cases hS; exact L6_8_ok
  | 1, _ => rw [C6_l1] at hS; cases hS; exact L6_13_ok
  | n + 2, hj => omega)
noncomputable def S6 : FSpec := inlineK C6 Try.f6
theorem S6_ok : SpecOK Try.prog 6 S6 := inlineK_ok C6_ok Try.func6 C6_loops
theorem En6 : Enters Try.prog 6 := ⟨_, Try.func6, by decide, rfl⟩
end Go.Proofs.Ytohfnoepdbkkeaa
