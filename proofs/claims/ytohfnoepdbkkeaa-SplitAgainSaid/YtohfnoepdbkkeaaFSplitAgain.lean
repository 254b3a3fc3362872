import Derived.Test.YtohfnoepdbkkeaaFSplitAgainb
namespace Go.Proofs.Ytohfnoepdbkkeaa
open Go.Abs Go.Pl

/-- ferryman/ferrymanlaw13.alive -/
noncomputable def W17 : FSpec := shareK S17z
theorem W17_ok : SpecOK Try.prog 17 W17 := S17z_ok.share
noncomputable def T15 : List (FuncId × FSpec) := [(17, W17)]
theorem T15_ok : TabOK Try.prog T15 := TabOK.cons En17 W17_ok (TabOK.nil _)
noncomputable def C15 : Ctx := (ctx E T15 [] [(0, []), (1, [1, 2]), (2, [0])] [] 52 70)
theorem C15_ok : CtxOK Try.prog C15 := ctx_ok E_ok E_flds mixed T15_ok
noncomputable def B15 : FSpec := inlineK C15 Try.f15
noncomputable def S15 : FSpec := constK (AV.bool true)
theorem B15_ok : SpecOK Try.prog 15 B15 := inlineK_ok C15_ok Try.func15 (fun _ _ => LoopsOK.none _)
theorem B15_is (k : KE) : B15 [] [] k = k (.ret (AV.bool true)) [] := by kernel_rfl
theorem S15_ok : SpecOK Try.prog 15 S15 := constK_ok B15_ok B15_is
theorem En15 : Enters Try.prog 15 := ⟨_, Try.func15, by decide, rfl⟩

/-- ferryman/ferrymanlaw13.cut -/
noncomputable def T16 : List (FuncId × FSpec) := []
theorem T16_ok : TabOK Try.prog T16 := TabOK.nil _
noncomputable def C16 : Ctx := (ctx E T16 [] [(0, [1, 2]), (1, [1, 2, 6]), (2, [1, 2]), (3, [1, 2, 14]), (4, [1, 2]), (5, [2])] [] 20 70)
theorem C16_ok : CtxOK Try.prog C16 := ctx_ok E_ok E_flds mixed T16_ok
noncomputable def B16 : FSpec := inlineK C16 Try.f16
noncomputable def S16 : FSpec := fun args H k => match args, H with
  | [.agg [.int .u8 t, .int .u16 i, .bool df, .bool mf, .int .i64 off, .int .u8 l, .int .u8 q, .int .u8 s0, .int .u8 s1, .int .u8 s2, .int .u8 s3, .int .u8 d0, .int .u8 d1, .int .u8 d2, .int .u8 d3, .fs 1 os of, .fs 1 bs bf]], [] => aIf (true) (k (.ret (.agg [.int .u8 t, .int .u16 i, .bool df, .bool mf, .int .i64 off, .int .u8 l, .int .u8 q, .int .u8 s0, .int .u8 s1, .int .u8 s2, .int .u8 s3, .int .u8 d0, .int .u8 d1, .int .u8 d2, .int .u8 d3, .fs 1 (os.take 100) of, .fs 1 (bs.take 70000) bf])) []) none
  | _, _ => none
theorem B16_ok : SpecOK Try.prog 16 B16 := inlineK_ok C16_ok Try.func16 (fun _ _ => LoopsOK.none _)
theorem N16 (t i : Int) (df mf : Bool) (off l q s0 s1 s2 s3 d0 d1 d2 d3 : Int) (os : List AV) (of : SF) (bs : List AV) (bf : SF) (k : KE) : B16 [.agg [.int .u8 t, .int .u16 i, .bool df, .bool mf, .int .i64 off, .int .u8 l, .int .u8 q, .int .u8 s0, .int .u8 s1, .int .u8 s2, .int .u8 s3, .int .u8 d0, .int .u8 d1, .int .u8 d2, .int .u8 d3, .fs 1 os of, .fs 1 bs bf]] [] k =
  aIf (decide ((↑bs.length : Int) > 70000)) (aIf (decide (70000 ≤ (↑bs.length : Int))) (aIf (decide ((↑os.length : Int) > 100)) (aIf (decide (100 ≤ (↑os.length : Int))) (k (AEnd.ret (AV.agg [AV.int IntKind.u8 t, AV.int IntKind.u16 i, AV.bool df, AV.bool mf, AV.int IntKind.i64 off, AV.int IntKind.u8 l, AV.int IntKind.u8 q, AV.int IntKind.u8 s0, AV.int IntKind.u8 s1, AV.int IntKind.u8 s2, AV.int IntKind.u8 s3, AV.int IntKind.u8 d0, AV.int IntKind.u8 d1, AV.int IntKind.u8 d2, AV.int IntKind.u8 d3, AV.fs 1 (List.drop 0 (List.take 100 os)) of, AV.fs 1 (List.drop 0 (List.take 70000 bs)) bf])) []) none) (k (AEnd.ret (AV.agg [AV.int IntKind.u8 t, AV.int IntKind.u16 i, AV.bool df, AV.bool mf, AV.int IntKind.i64 off, AV.int IntKind.u8 l, AV.int IntKind.u8 q, AV.int IntKind.u8 s0, AV.int IntKind.u8 s1, AV.int IntKind.u8 s2, AV.int IntKind.u8 s3, AV.int IntKind.u8 d0, AV.int IntKind.u8 d1, AV.int IntKind.u8 d2, AV.int IntKind.u8 d3, AV.fs 1 os of, AV.fs 1 (List.drop 0 (List.take 70000 bs)) bf])) [])) none) (aIf (decide ((↑os.length : Int) > 100)) (aIf (decide (100 ≤ (↑os.length : Int))) (k (AEnd.ret (AV.agg [AV.int IntKind.u8 t, AV.int IntKind.u16 i, AV.bool df, AV.bool mf, AV.int IntKind.i64 off, AV.int IntKind.u8 l, AV.int IntKind.u8 q, AV.int IntKind.u8 s0, AV.int IntKind.u8 s1, AV.int IntKind.u8 s2, AV.int IntKind.u8 s3, AV.int IntKind.u8 d0, AV.int IntKind.u8 d1, AV.int IntKind.u8 d2, AV.int IntKind.u8 d3, AV.fs 1 (List.drop 0 (List.take 100 os)) of, AV.fs 1 bs bf])) []) none) (k (AEnd.ret (AV.agg [AV.int IntKind.u8 t, AV.int IntKind.u16 i, AV.bool df, AV.bool mf, AV.int IntKind.i64 off, AV.int IntKind.u8 l, AV.int IntKind.u8 q, AV.int IntKind.u8 s0, AV.int IntKind.u8 s1, AV.int IntKind.u8 s2, AV.int IntKind.u8 s3, AV.int IntKind.u8 d0, AV.int IntKind.u8 d1, AV.int IntKind.u8 d2, AV.int IntKind.u8 d3, AV.fs 1 os of, AV.fs 1 bs bf])) [])) := by kernel_rfl
theorem S16_ok : SpecOK Try.prog 16 S16 := by
  refine B16_ok.turn fun args H => ?_
  unfold S16
  split
  · rename_i t i df mf off l q s0 s1 s2 s3 d0 d1 d2 d3 os of bs bf
    rcases Bool.eq_false_or_eq_true (true) with hp | hp
    · refine .inr fun k => ?_
      rw [aIf_pos hp, N16]
      have e1 : ∀ (n : Nat) (xs : List AV), ¬ (xs.length : Int) > (n : Int) → xs.take n = xs := fun n xs h => List.take_of_length_le (by omega)
      by_cases hb : (bs.length : Int) > 70000
      · rw [decide_eq_true hb, decide_eq_true (show (70000 : Int) ≤ (bs.length : Int) by omega)]
        by_cases ho : (os.length : Int) > 100
        · rw [decide_eq_true ho, decide_eq_true (show (100 : Int) ≤ (os.length : Int) by omega), List.drop_zero, List.drop_zero]; rfl
        · rw [decide_eq_false ho, List.drop_zero, e1 100 os ho]; rfl
      · rw [decide_eq_false hb, e1 70000 bs hb]
        by_cases ho : (os.length : Int) > 100
        · rw [decide_eq_true ho, decide_eq_true (show (100 : Int) ≤ (os.length : Int) by omega), List.drop_zero]; rfl
        · rw [decide_eq_false ho, e1 100 os ho]; rfl
    · exact .inl fun k => by rw [aIf_neg hp]
  · exact .inl fun k => rfl
theorem En16 : Enters Try.prog 16 := ⟨_, Try.func16, by decide, rfl⟩

/-- ferryman/ferrymanlaw13.SplitAgain -/
noncomputable def T5 : List (FuncId × FSpec) := [(15, S15), (16, S16), (17, S17)]
theorem T5_ok : TabOK Try.prog T5 := TabOK.cons En15 S15_ok (TabOK.cons En16 S16_ok (TabOK.cons En17 S17_ok (TabOK.nil _)))
noncomputable def L5_13 : ATs → AH → KC → Res := fun ts H k => match ts, H with
  | [(2, .int .i64 ls), (3, .ptr 0 0 0), (7, .fs 17 xs f1), (9, .fs 0 [] .nil), (10, .int .i64 j), (11, .fs 17 ys f2), (13, .int .i64 n)], [.cells 0 [.int .u8 t, .int .u16 i, .bool df, .bool mf, .int .i64 off, .int .u8 l, .int .u8 q, .int .u8 s0, .int .u8 s1, .int .u8 s2, .int .u8 s3, .int .u8 d0, .int .u8 d1, .int .u8 d2, .int .u8 d3, .fs 1 os of, .fs 1 bs bf]] => aIf (n == 0 && innG off mf 0 (xs.length : Int) j ys) (aIf (isNil (bodY ys)) (k (.exit 2) [(2, .int .i64 ls), (3, .ptr 0 0 0), (7, .fs 17 xs f1), (9, .fs 0 [] .nil), (10, .int .i64 j), (11, .fs 17 ys f2), (13, .int .i64 (ys.length : Int)), (51, .bool false)] [.cells 0 [.int .u8 t, .int .u16 i, .bool df, .bool mf, .int .i64 off, .int .u8 l, .int .u8 q, .int .u8 s0, .int .u8 s1, .int .u8 s2, .int .u8 s3, .int .u8 d0, .int .u8 d1, .int .u8 d2, .int .u8 d3, .fs 1 os of, .fs 1 bs bf]]) (k (.exit 2) [(2, .int .i64 ls), (3, .ptr 0 0 0), (7, .fs 17 xs f1), (9, .sl 1 (bodY ys).length 0 (bodY ys).length 1), (10, .int .i64 j), (11, .fs 17 ys f2), (13, .int .i64 (ys.length : Int)), (51, .bool false)] [.cells 0 [.int .u8 t, .int .u16 i, .bool df, .bool mf, .int .i64 off, .int .u8 l, .int .u8 q, .int .u8 s0, .int .u8 s1, .int .u8 s2, .int .u8 s3, .int .u8 d0, .int .u8 d1, .int .u8 d2, .int .u8 d3, .fs 1 os of, .fs 1 bs bf], .cells (bodY ys).length (bodY ys)])) none
  | [(2, .int .i64 ls), (3, .ptr 0 0 0), (7, .fs 17 xs f1), (9, .sl 1 v 0 z 1), (10, .int .i64 j), (11, .fs 17 ys f2), (13, .int .i64 n)], [.cells 0 [.int .u8 t, .int .u16 i, .bool df, .bool mf, .int .i64 off, .int .u8 l, .int .u8 q, .int .u8 s0, .int .u8 s1, .int .u8 s2, .int .u8 s3, .int .u8 d0, .int .u8 d1, .int .u8 d2, .int .u8 d3, .fs 1 os of, .fs 1 bs bf], .cells w cs] => aIf (n == 0 && v == z && w == z && z == cs.length && !isNil cs && innG off mf z (xs.length : Int) j ys) (k (.exit 2) [(2, .int .i64 ls), (3, .ptr 0 0 0), (7, .fs 17 xs f1), (9, .sl 1 (cs ++ bodY ys).length 0 (cs ++ bodY ys).length 1), (10, .int .i64 j), (11, .fs 17 ys f2), (13, .int .i64 (ys.length : Int)), (51, .bool false)] [.cells 0 [.int .u8 t, .int .u16 i, .bool df, .bool mf, .int .i64 off, .int .u8 l, .int .u8 q, .int .u8 s0, .int .u8 s1, .int .u8 s2, .int .u8 s3, .int .u8 d0, .int .u8 d1, .int .u8 d2, .int .u8 d3, .fs 1 os of, .fs 1 bs bf], .cells (cs ++ bodY ys).length (cs ++ bodY ys)]) none
  | _, _ => none
noncomputable def L5_7 : ATs → AH → KC → Res := fun ts H k => match ts, H with
  | [(2, .int .i64 ls), (3, .ptr 0 0 0), (7, .fs 17 xs f1), (9, .fs 0 [] .nil), (10, .int .i64 n)], [.cells 0 [.int .u8 t, .int .u16 i, .bool df, .bool mf, .int .i64 off, .int .u8 l, .int .u8 q, .int .u8 s0, .int .u8 s1, .int .u8 s2, .int .u8 s3, .int .u8 d0, .int .u8 d1, .int .u8 d2, .int .u8 d3, .fs 1 os of, .fs 1 bs bf]] => aIf (n == 0 && decide (-9223372036854775808 ≤ ls) && decide (ls ≤ 9223372036854775807) && agnG off mf bs xs) (aIf (agB xs ls) (k .ret [(6, .bool true)] (.cells 0 [.int .u8 t, .int .u16 i, .bool df, .bool mf, .int .i64 off, .int .u8 l, .int .u8 q, .int .u8 s0, .int .u8 s1, .int .u8 s2, .int .u8 s3, .int .u8 d0, .int .u8 d1, .int .u8 d2, .int .u8 d3, .fs 1 os of, .fs 1 bs bf] :: hpB (bodY (xs.take (agF xs ls))))) (aIf (isNil bs) (k (.exit 0) [(2, .int .i64 ls), (3, .ptr 0 0 0), (7, .fs 17 xs f1), (9, .fs 0 [] .nil), (10, .int .i64 (xs.length : Int)), (33, .bool false)] [.cells 0 [.int .u8 t, .int .u16 i, .bool df, .bool mf, .int .i64 off, .int .u8 l, .int .u8 q, .int .u8 s0, .int .u8 s1, .int .u8 s2, .int .u8 s3, .int .u8 d0, .int .u8 d1, .int .u8 d2, .int .u8 d3, .fs 1 os of, .fs 1 bs bf]]) (k (.exit 0) [(2, .int .i64 ls), (3, .ptr 0 0 0), (7, .fs 17 xs f1), (9, .sl 1 bs.length 0 bs.length 1), (10, .int .i64 (xs.length : Int)), (33, .bool false)] [.cells 0 [.int .u8 t, .int .u16 i, .bool df, .bool mf, .int .i64 off, .int .u8 l, .int .u8 q, .int .u8 s0, .int .u8 s1, .int .u8 s2, .int .u8 s3, .int .u8 d0, .int .u8 d1, .int .u8 d2, .int .u8 d3, .fs 1 os of, .fs 1 bs bf], .cells bs.length bs]))) none
  | _, _ => none
noncomputable def C5 : Ctx := (ctx E T5 [(13, L5_13), (7, L5_7)] [(0, [1, 2, 3]), (1, [1, 2, 3]), (2, [1, 2, 3, 7, 8]), (3, [2, 3, 7, 28]), (4, [6]), (5, [2, 3, 7, 9]), (6, [2, 3, 7, 9, 10]), (7, [2, 3, 7, 9, 10, 33]), (8, [2, 3, 7, 9, 10]), (9, [2, 3, 7, 9, 10, 11, 12]), (10, [2, 3, 7, 9, 10, 11, 46]), (11, [6]), (12, [2, 3, 7, 9, 10, 11, 13]), (13, [2, 3, 7, 9, 10, 11, 13, 51]), (14, [2, 3, 7, 9, 10, 11, 13]), (15, [2, 3, 7, 9, 10, 11, 13, 89]), (16, [6]), (17, [2, 3, 7, 9, 10, 11, 13]), (18, [6]), (1000007, [2, 3, 7, 9, 10]), (1000013, [2, 3, 7, 9, 10, 11, 13])] [] 106 70)
theorem C5_ok : CtxOK Try.prog C5 := ctx_ok E_ok E_flds mixed T5_ok
theorem C5_l0 : C5.loop (loopId (loopB Try.f5 0)) = some L5_7 := by kernel_rfl
theorem C5_l1 : C5.loop (loopId (loopB Try.f5 1)) = some L5_13 := by kernel_rfl
theorem L5_13_in : LoopsOK C5 (loopB Try.f5 1) := LoopsOK.within 0 (by kernel_rfl) (fun j hj S hS => by
  omega)
theorem M5_13a (t i : Int) (df mf : Bool) (off l q s0 s1 s2 s3 d0 d1 d2 d3 : Int) (os : List AV) (of : SF) (bs : List AV) (bf : SF) (ls : Int) (xs : List AV) (f1 : SF) (j : Int) (ys : List AV) (f2 : SF) (n : Int) (k : KC) {c3 : _} (gc3 : c3 = ([(ys.getD n.toNat AV.junk).cells.getD 4 AV.junk, (ys.getD n.toNat AV.junk).cells.getD 5 AV.junk, (ys.getD n.toNat AV.junk).cells.getD 6 AV.junk, (ys.getD n.toNat AV.junk).cells.getD 7 AV.junk, (ys.getD n.toNat AV.junk).cells.getD 8 AV.junk, (ys.getD n.toNat AV.junk).cells.getD 9 AV.junk, (ys.getD n.toNat AV.junk).cells.getD 10 AV.junk, (ys.getD n.toNat AV.junk).cells.getD 11 AV.junk, (ys.getD n.toNat AV.junk).cells.getD 12 AV.junk, (ys.getD n.toNat AV.junk).cells.getD 13 AV.junk, (ys.getD n.toNat AV.junk).cells.getD 14 AV.junk, (ys.getD n.toNat AV.junk).cells.getD 15 AV.junk, (ys.getD n.toNat AV.junk).cells.getD 16 AV.junk].getD 0 AV.junk)) {c2 : _} (gc2 : c2 = [AO.cells 0 [AV.int IntKind.u8 t, AV.int IntKind.u16 i, AV.bool df, AV.bool mf, AV.int IntKind.i64 off, AV.int IntKind.u8 l, AV.int IntKind.u8 q, AV.int IntKind.u8 s0, AV.int IntKind.u8 s1, AV.int IntKind.u8 s2, AV.int IntKind.u8 s3, AV.int IntKind.u8 d0, AV.int IntKind.u8 d1, AV.int IntKind.u8 d2, AV.int IntKind.u8 d3, AV.fs 1 os of, AV.fs 1 bs bf]]) {c1 : _} (gc1 : c1 = ([(ys.getD n.toNat AV.junk).cells.getD 3 AV.junk, (ys.getD n.toNat AV.junk).cells.getD 4 AV.junk, (ys.getD n.toNat AV.junk).cells.getD 5 AV.junk, (ys.getD n.toNat AV.junk).cells.getD 6 AV.junk, (ys.getD n.toNat AV.junk).cells.getD 7 AV.junk, (ys.getD n.toNat AV.junk).cells.getD 8 AV.junk, (ys.getD n.toNat AV.junk).cells.getD 9 AV.junk, (ys.getD n.toNat AV.junk).cells.getD 10 AV.junk, (ys.getD n.toNat AV.junk).cells.getD 11 AV.junk, (ys.getD n.toNat AV.junk).cells.getD 12 AV.junk, (ys.getD n.toNat AV.junk).cells.getD 13 AV.junk, (ys.getD n.toNat AV.junk).cells.getD 14 AV.junk, (ys.getD n.toNat AV.junk).cells.getD 15 AV.junk, (ys.getD n.toNat AV.junk).cells.getD 16 AV.junk].getD 0 AV.junk)) {c0 : _} (gc0 : c0 = (aIf (decide (0 ≤ n)) (aIf (decide (n < (↑ys.length : Int))) (aIf ((ys.getD n.toNat AV.junk).cells.length == 17) (aIf (AV.isFs 1 ([(ys.getD n.toNat AV.junk).cells.getD 16 AV.junk].getD 0 AV.junk)) (aIf (([(ys.getD n.toNat AV.junk).cells.getD 16 AV.junk].getD 0 AV.junk).toFs.length == 0) (k AExit.normal [(2, AV.int IntKind.i64 ls), (3, AV.ptr 0 0 0), (7, AV.fs 17 xs f1), (9, AV.fs 0 [] SF.nil), (10, AV.int IntKind.i64 j), (11, AV.fs 17 ys f2), (13, AV.int IntKind.i64 (IntKind.i64.wrap (n + 1)))] c2) (aIf ((([(ys.getD n.toNat AV.junk).cells.getD 16 AV.junk].getD 0 AV.junk).toFs.length * 1).ble 140737488355328) (aIf ((List.flatMap AV.cells ([(ys.getD n.toNat AV.junk).cells.getD 16 AV.junk].getD 0 AV.junk).toFs).length == ([(ys.getD n.toNat AV.junk).cells.getD 16 AV.junk].getD 0 AV.junk).toFs.length * 1) (k AExit.normal [(2, AV.int IntKind.i64 ls), (3, AV.ptr 0 0 0), (7, AV.fs 17 xs f1), (9, AV.sl 1 (([(ys.getD n.toNat AV.junk).cells.getD 16 AV.junk].getD 0 AV.junk).toFs.length * 1) 0 ([(ys.getD n.toNat AV.junk).cells.getD 16 AV.junk].getD 0 AV.junk).toFs.length 1), (10, AV.int IntKind.i64 j), (11, AV.fs 17 ys f2), (13, AV.int IntKind.i64 (IntKind.i64.wrap (n + 1)))] [AO.cells 0 [AV.int IntKind.u8 t, AV.int IntKind.u16 i, AV.bool df, AV.bool mf, AV.int IntKind.i64 off, AV.int IntKind.u8 l, AV.int IntKind.u8 q, AV.int IntKind.u8 s0, AV.int IntKind.u8 s1, AV.int IntKind.u8 s2, AV.int IntKind.u8 s3, AV.int IntKind.u8 d0, AV.int IntKind.u8 d1, AV.int IntKind.u8 d2, AV.int IntKind.u8 d3, AV.fs 1 os of, AV.fs 1 bs bf], AO.cells (([(ys.getD n.toNat AV.junk).cells.getD 16 AV.junk].getD 0 AV.junk).toFs.length * 1) (List.flatMap AV.cells ([(ys.getD n.toNat AV.junk).cells.getD 16 AV.junk].getD 0 AV.junk).toFs)]) none) none)) none) none) none) none)) :
  headedK C5 (loopB Try.f5 1) [(2, .int .i64 ls), (3, .ptr 0 0 0), (7, .fs 17 xs f1), (9, .fs 0 [] .nil), (10, .int .i64 j), (11, .fs 17 ys f2), (13, .int .i64 n)] [.cells 0 [.int .u8 t, .int .u16 i, .bool df, .bool mf, .int .i64 off, .int .u8 l, .int .u8 q, .int .u8 s0, .int .u8 s1, .int .u8 s2, .int .u8 s3, .int .u8 d0, .int .u8 d1, .int .u8 d2, .int .u8 d3, .fs 1 os of, .fs 1 bs bf]] k =
  aIf (decide (n < (↑ys.length : Int))) (aIf (decide (0 ≤ n)) (aIf (decide (n < (↑ys.length : Int))) (aIf ((ys.getD n.toNat AV.junk).cells.length == 17) (aIf (c3.isInt IntKind.i64) (aIf (IntKind.i64.wrap (8 * IntKind.i64.wrap (c3.toInt - off)) != 0) (k AExit.ret [(6, AV.bool false)] c2) (aIf (decide (0 ≤ n)) (aIf (decide (n < (↑ys.length : Int))) (aIf ((ys.getD n.toNat AV.junk).cells.length == 17) (aIf c1.isBool (aIf mf (aIf (!c1.toBool == true) (k AExit.ret [(6, AV.bool false)] c2) c0) (aIf (decide (j < IntKind.i64.wrap ((↑xs.length : Int) - 1))) (aIf (!c1.toBool == true) (k AExit.ret [(6, AV.bool false)] c2) c0) (aIf (!c1.toBool == decide (n < IntKind.i64.wrap ((↑ys.length : Int) - 1))) (k AExit.ret [(6, AV.bool false)] c2) c0))) none) none) none) none)) none) none) none) none) (k (AExit.exit 2) [(2, AV.int IntKind.i64 ls), (3, AV.ptr 0 0 0), (7, AV.fs 17 xs f1), (9, AV.fs 0 [] SF.nil), (10, AV.int IntKind.i64 j), (11, AV.fs 17 ys f2), (13, AV.int IntKind.i64 n), (51, AV.bool (decide (n < (↑ys.length : Int))))] c2) := by subst gc0 gc1 gc2 gc3; kernel_rfl
theorem M5_13b (t i : Int) (df mf : Bool) (off l q s0 s1 s2 s3 d0 d1 d2 d3 : Int) (os : List AV) (of : SF) (bs : List AV) (bf : SF) (ls : Int) (xs : List AV) (f1 : SF) (j : Int) (ys : List AV) (f2 : SF) (n : Int) (v z w : Nat) (cs : List AV) (k : KC) {c3 : _} (gc3 : c3 = ([(ys.getD n.toNat AV.junk).cells.getD 4 AV.junk, (ys.getD n.toNat AV.junk).cells.getD 5 AV.junk, (ys.getD n.toNat AV.junk).cells.getD 6 AV.junk, (ys.getD n.toNat AV.junk).cells.getD 7 AV.junk, (ys.getD n.toNat AV.junk).cells.getD 8 AV.junk, (ys.getD n.toNat AV.junk).cells.getD 9 AV.junk, (ys.getD n.toNat AV.junk).cells.getD 10 AV.junk, (ys.getD n.toNat AV.junk).cells.getD 11 AV.junk, (ys.getD n.toNat AV.junk).cells.getD 12 AV.junk, (ys.getD n.toNat AV.junk).cells.getD 13 AV.junk, (ys.getD n.toNat AV.junk).cells.getD 14 AV.junk, (ys.getD n.toNat AV.junk).cells.getD 15 AV.junk, (ys.getD n.toNat AV.junk).cells.getD 16 AV.junk].getD 0 AV.junk)) {c2 : _} (gc2 : c2 = [AO.cells 0 [AV.int IntKind.u8 t, AV.int IntKind.u16 i, AV.bool df, AV.bool mf, AV.int IntKind.i64 off, AV.int IntKind.u8 l, AV.int IntKind.u8 q, AV.int IntKind.u8 s0, AV.int IntKind.u8 s1, AV.int IntKind.u8 s2, AV.int IntKind.u8 s3, AV.int IntKind.u8 d0, AV.int IntKind.u8 d1, AV.int IntKind.u8 d2, AV.int IntKind.u8 d3, AV.fs 1 os of, AV.fs 1 bs bf], AO.cells w cs]) {c1 : _} (gc1 : c1 = ([(ys.getD n.toNat AV.junk).cells.getD 3 AV.junk, (ys.getD n.toNat AV.junk).cells.getD 4 AV.junk, (ys.getD n.toNat AV.junk).cells.getD 5 AV.junk, (ys.getD n.toNat AV.junk).cells.getD 6 AV.junk, (ys.getD n.toNat AV.junk).cells.getD 7 AV.junk, (ys.getD n.toNat AV.junk).cells.getD 8 AV.junk, (ys.getD n.toNat AV.junk).cells.getD 9 AV.junk, (ys.getD n.toNat AV.junk).cells.getD 10 AV.junk, (ys.getD n.toNat AV.junk).cells.getD 11 AV.junk, (ys.getD n.toNat AV.junk).cells.getD 12 AV.junk, (ys.getD n.toNat AV.junk).cells.getD 13 AV.junk, (ys.getD n.toNat AV.junk).cells.getD 14 AV.junk, (ys.getD n.toNat AV.junk).cells.getD 15 AV.junk, (ys.getD n.toNat AV.junk).cells.getD 16 AV.junk].getD 0 AV.junk)) {c0 : _} (gc0 : c0 = (aIf (decide (0 ≤ n)) (aIf (decide (n < (↑ys.length : Int))) (aIf ((ys.getD n.toNat AV.junk).cells.length == 17) (aIf (AV.isFs 1 ([(ys.getD n.toNat AV.junk).cells.getD 16 AV.junk].getD 0 AV.junk)) (aIf (v == 0) none (aIf (w == v) (aIf (((z + ([(ys.getD n.toNat AV.junk).cells.getD 16 AV.junk].getD 0 AV.junk).toFs.length) * 1).ble 140737488355328) (aIf ((List.flatMap AV.cells ([(ys.getD n.toNat AV.junk).cells.getD 16 AV.junk].getD 0 AV.junk).toFs).length == ([(ys.getD n.toNat AV.junk).cells.getD 16 AV.junk].getD 0 AV.junk).toFs.length * 1) (k AExit.normal [(2, AV.int IntKind.i64 ls), (3, AV.ptr 0 0 0), (7, AV.fs 17 xs f1), (9, AV.sl 1 (max v ((z + ([(ys.getD n.toNat AV.junk).cells.getD 16 AV.junk].getD 0 AV.junk).toFs.length) * 1)) 0 (z + ([(ys.getD n.toNat AV.junk).cells.getD 16 AV.junk].getD 0 AV.junk).toFs.length) 1), (10, AV.int IntKind.i64 j), (11, AV.fs 17 ys f2), (13, AV.int IntKind.i64 (IntKind.i64.wrap (n + 1)))] [AO.cells 0 [AV.int IntKind.u8 t, AV.int IntKind.u16 i, AV.bool df, AV.bool mf, AV.int IntKind.i64 off, AV.int IntKind.u8 l, AV.int IntKind.u8 q, AV.int IntKind.u8 s0, AV.int IntKind.u8 s1, AV.int IntKind.u8 s2, AV.int IntKind.u8 s3, AV.int IntKind.u8 d0, AV.int IntKind.u8 d1, AV.int IntKind.u8 d2, AV.int IntKind.u8 d3, AV.fs 1 os of, AV.fs 1 bs bf], AO.cells (max v ((z + ([(ys.getD n.toNat AV.junk).cells.getD 16 AV.junk].getD 0 AV.junk).toFs.length) * 1)) (List.take (z * 1) cs ++ List.flatMap AV.cells ([(ys.getD n.toNat AV.junk).cells.getD 16 AV.junk].getD 0 AV.junk).toFs ++ List.drop (z * 1 + ([(ys.getD n.toNat AV.junk).cells.getD 16 AV.junk].getD 0 AV.junk).toFs.length * 1) cs)]) none) none) none)) none) none) none) none)) :
  headedK C5 (loopB Try.f5 1) [(2, .int .i64 ls), (3, .ptr 0 0 0), (7, .fs 17 xs f1), (9, .sl 1 v 0 z 1), (10, .int .i64 j), (11, .fs 17 ys f2), (13, .int .i64 n)] [.cells 0 [.int .u8 t, .int .u16 i, .bool df, .bool mf, .int .i64 off, .int .u8 l, .int .u8 q, .int .u8 s0, .int .u8 s1, .int .u8 s2, .int .u8 s3, .int .u8 d0, .int .u8 d1, .int .u8 d2, .int .u8 d3, .fs 1 os of, .fs 1 bs bf], .cells w cs] k =
  aIf (decide (n < (↑ys.length : Int))) (aIf (decide (0 ≤ n)) (aIf (decide (n < (↑ys.length : Int))) (aIf ((ys.getD n.toNat AV.junk).cells.length == 17) (aIf (c3.isInt IntKind.i64) (aIf (IntKind.i64.wrap (8 * IntKind.i64.wrap (c3.toInt - off)) != (↑z : Int)) (k AExit.ret [(6, AV.bool false)] c2) (aIf (decide (0 ≤ n)) (aIf (decide (n < (↑ys.length : Int))) (aIf ((ys.getD n.toNat AV.junk).cells.length == 17) (aIf c1.isBool (aIf mf (aIf (!c1.toBool == true) (k AExit.ret [(6, AV.bool false)] c2) c0) (aIf (decide (j < IntKind.i64.wrap ((↑xs.length : Int) - 1))) (aIf (!c1.toBool == true) (k AExit.ret [(6, AV.bool false)] c2) c0) (aIf (!c1.toBool == decide (n < IntKind.i64.wrap ((↑ys.length : Int) - 1))) (k AExit.ret [(6, AV.bool false)] c2) c0))) none) none) none) none)) none) none) none) none) (k (AExit.exit 2) [(2, AV.int IntKind.i64 ls), (3, AV.ptr 0 0 0), (7, AV.fs 17 xs f1), (9, AV.sl 1 v 0 z 1), (10, AV.int IntKind.i64 j), (11, AV.fs 17 ys f2), (13, AV.int IntKind.i64 n), (51, AV.bool (decide (n < (↑ys.length : Int))))] c2) := by subst gc0 gc1 gc2 gc3; kernel_rfl
theorem K5_in {t i : Int} {df mf : Bool} {off l q s0 s1 s2 s3 d0 d1 d2 d3 : Int} {os : List AV} {of : SF} {bs : List AV} {bf : SF} {ls : Int} {xs : List AV} {f1 : SF} {j : Int} {ys : List AV} {f2 : SF} (cs : List AV) (hI : InnP off mf cs.length (xs.length : Int) j ys) : ∃ m, ∀ k, aIterK m (headedK C5 (loopB Try.f5 1)) [(2, .int .i64 ls), (3, .ptr 0 0 0), (7, .fs 17 xs f1), (9, slB1 cs), (10, .int .i64 j), (11, .fs 17 ys f2), (13, .int .i64 0)] (.cells 0 [.int .u8 t, .int .u16 i, .bool df, .bool mf, .int .i64 off, .int .u8 l, .int .u8 q, .int .u8 s0, .int .u8 s1, .int .u8 s2, .int .u8 s3, .int .u8 d0, .int .u8 d1, .int .u8 d2, .int .u8 d3, .fs 1 os of, .fs 1 bs bf] :: hpB cs) k = k (.exit 2) [(2, .int .i64 ls), (3, .ptr 0 0 0), (7, .fs 17 xs f1), (9, slB1 (cs ++ bodY ys)), (10, .int .i64 j), (11, .fs 17 ys f2), (13, .int .i64 (ys.length : Int)), (51, .bool false)] (.cells 0 [.int .u8 t, .int .u16 i, .bool df, .bool mf, .int .i64 off, .int .u8 l, .int .u8 q, .int .u8 s0, .int .u8 s1, .int .u8 s2, .int .u8 s3, .int .u8 d0, .int .u8 d1, .int .u8 d2, .int .u8 d3, .fs 1 os of, .fs 1 bs bf] :: hpB (cs ++ bodY ys)) := by
  obtain ⟨t1, i1, df1, l1, q1, sx0, sx1, sx2, sx3, dx0, dx1, dx2, dx3, M, less, ro0, b0, hy, hMl, hA, hz, hz2, hb70, hof0, hof1, hN0, hN1⟩ := hI
  have hyl : ys.length = M.length := by rw [hy, frsE_len]
  have hbY : bodY ys = bodB M := by rw [hy]; exact bodY_rows M
  have key : ∀ n : Nat, n < M.length → ∀ k, headedK C5 (loopB Try.f5 1) [(2, .int .i64 ls), (3, .ptr 0 0 0), (7, .fs 17 xs f1), (9, slB1 (cs ++ bodB (M.take n))), (10, .int .i64 j), (11, .fs 17 ys f2), (13, .int .i64 (n : Int))] (.cells 0 [.int .u8 t, .int .u16 i, .bool df, .bool mf, .int .i64 off, .int .u8 l, .int .u8 q, .int .u8 s0, .int .u8 s1, .int .u8 s2, .int .u8 s3, .int .u8 d0, .int .u8 d1, .int .u8 d2, .int .u8 d3, .fs 1 os of, .fs 1 bs bf] :: hpB (cs ++ bodB (M.take n))) k = k .normal [(2, .int .i64 ls), (3, .ptr 0 0 0), (7, .fs 17 xs f1), (9, slB1 (cs ++ bodB (M.take (n + 1)))), (10, .int .i64 j), (11, .fs 17 ys f2), (13, .int .i64 ((n + 1 : Nat) : Int))] (.cells 0 [.int .u8 t, .int .u16 i, .bool df, .bool mf, .int .i64 off, .int .u8 l, .int .u8 q, .int .u8 s0, .int .u8 s1, .int .u8 s2, .int .u8 s3, .int .u8 d0, .int .u8 d1, .int .u8 d2, .int .u8 d3, .fs 1 os of, .fs 1 bs bf] :: hpB (cs ++ bodB (M.take (n + 1)))) := by
    intro n hj k
    obtain ⟨r, mr, gr, e1⟩ := frsE_get (h := hdr t1 i1 df1 l1 q1 sx0 sx1 sx2 sx3 dx0 dx1 dx2 dx3) hj
    rw [← hy] at e1
    obtain ⟨a1, a2, a3, a4, a5, a6, a7, a8, a9, a10⟩ := all_at hA gr
    have hlastm := all_last hA gr
    obtain ⟨rm, ro, ⟨os1, f1o⟩, ⟨bs1, f1b⟩⟩ := r
    replace a1 : ro = ro0 + (((bodB (M.take n)).length / 8 : Nat) : Int) := a1
    replace a4 : ro ≤ 8191 := a4
    replace a9 : n + 1 < M.length → rm = true := fun h => (a9 h).1
    replace a10 : bodB (M.take (n + 1)) = bodB (M.take n) ++ bs1 := a10
    replace hlastm : n + 1 = M.length → rm = (mf || decide (j < (xs.length : Int) - 1)) := hlastm
    obtain ⟨hg1, hg2, hg3, hg4⟩ := goodFr_iff.1 a8
    replace hg2 : intsB .u8 bs1 = true := hg2
    replace hg4 : bs1.length ≤ 70000 := hg4
    replace e1 : ys.getD n .junk = .agg [.int .u8 t1, .int .u16 i1, .bool df1, .bool rm, .int .i64 ro, .int .u8 l1, .int .u8 q1, .int .u8 sx0, .int .u8 sx1, .int .u8 sx2, .int .u8 sx3, .int .u8 dx0, .int .u8 dx1, .int .u8 dx2, .int .u8 dx3, .fs 1 os1 f1o, .fs 1 bs1 f1b] := e1
    have hn1 : IntKind.i64.wrap ((n : Int) + 1) = ((n + 1 : Nat) : Int) := by rw [i64_of (by omega) (by omega)]; omega
    have eN1 : IntKind.i64.wrap ((xs.length : Int) - 1) = (xs.length : Int) - 1 := i64_of (by omega) (by omega)
    have eY1 : IntKind.i64.wrap ((ys.length : Int) - 1) = ((M.length - 1 : Nat) : Int) := by rw [i64_of (by omega) (by omega)]; omega
    have hlt : decide ((n : Int) < (ys.length : Int)) = true := decide_eq_true (by omega)
    have h0 : decide ((0 : Int) ≤ (n : Int)) = true := decide_eq_true (by omega)
    have hbl : (bodB (M.take n)).length ≤ 70000 := by
      have h1 : bodB M = b0 := hA.1
      have h2 : bodB M = bodB (M.take n) ++ bodB (M.drop n) := by
        conv => lhs; rw [← List.take_append_drop n M]
        exact List.flatMap_append
      have h3 := congrArg List.length h2
      rw [h1, List.length_append] at h3
      omega
    have hcj : (cs ++ bodB (M.take n)).length = cs.length + (bodB (M.take n)).length := List.length_append
    have eof : IntKind.i64.wrap (8 * IntKind.i64.wrap (ro - off)) = ((cs ++ bodB (M.take n)).length : Int) := by rw [hcj, i64_of (n := ro - off) (by omega) (by omega), i64_of (by omega) (by omega)]; omega
    have hcl := ints_cells hg2
    have ii : ∀ k n, (AV.int k n).isInt k = true := fun k n => by cases k <;> rfl
    have ib : ∀ b, (AV.bool b).isBool = true := fun _ => rfl
    have tb : ∀ b, (AV.bool b).toBool = b := fun _ => rfl
    have fi : ∀ xs f, (AV.fs 1 xs f).isFs 1 = true := fun _ _ => rfl
    have ft : ∀ xs f, (AV.fs 1 xs f).toFs = xs := fun _ _ => rfl
    have ag : ∀ cs, (AV.agg cs).cells = cs := fun _ => rfl
    have g17 : (([.int .u8 t1, .int .u16 i1, .bool df1, .bool rm, .int .i64 ro, .int .u8 l1, .int .u8 q1, .int .u8 sx0, .int .u8 sx1, .int .u8 sx2, .int .u8 sx3, .int .u8 dx0, .int .u8 dx1, .int .u8 dx2, .int .u8 dx3, .fs 1 os1 f1o, .fs 1 bs1 f1b] : List AV).length == 17) = true := rfl
    have hmf : ∀ X Y : Res, aIf mf (aIf (!rm == true) X Y) (aIf (decide (j < (xs.length : Int) - 1)) (aIf (!rm == true) X Y) (aIf (!rm == decide ((n : Int) < ((M.length - 1 : Nat) : Int))) X Y)) = Y := by
      intro X Y
      rcases Nat.lt_or_ge (n + 1) M.length with hl | hl
      · rw [a9 hl, decide_eq_true (show (n : Int) < ((M.length - 1 : Nat) : Int) by omega)]
        cases mf <;> cases decide (j < (xs.length : Int) - 1) <;> rfl
      · rw [hlastm (by omega), decide_eq_false (show ¬ (n : Int) < ((M.length - 1 : Nat) : Int) by omega)]
        cases mf <;> cases decide (j < (xs.length : Int) - 1) <;> rfl
    have hca : (cs ++ bodB (M.take (n + 1))) = (cs ++ bodB (M.take n)) ++ bs1 := by rw [a10, List.append_assoc]
    rw [hca]
    generalize (cs ++ bodB (M.take n)) = ds at *
    cases hn : isNil ds with
    | true =>
      obtain rfl := isNil_eq hn
      have eof0 : IntKind.i64.wrap (8 * IntKind.i64.wrap (ro - off)) = 0 := eof
      show headedK C5 (loopB Try.f5 1) [(2, .int .i64 ls), (3, .ptr 0 0 0), (7, .fs 17 xs f1), (9, .fs 0 [] .nil), (10, .int .i64 j), (11, .fs 17 ys f2), (13, .int .i64 (n : Int))] [.cells 0 [.int .u8 t, .int .u16 i, .bool df, .bool mf, .int .i64 off, .int .u8 l, .int .u8 q, .int .u8 s0, .int .u8 s1, .int .u8 s2, .int .u8 s3, .int .u8 d0, .int .u8 d1, .int .u8 d2, .int .u8 d3, .fs 1 os of, .fs 1 bs bf]] k = _
      rw [M5_13a _ _ _ _ _ _ _ _ _ _ _ _ _ _ _ _ _ _ _ _ _ _ _ _ _ _ k rfl rfl rfl rfl]
      simp only [hlt, h0, Int.toNat_natCast, e1, ag, List.getD_cons_zero, List.getD_cons_succ, ii, ib, tb, fi, ft, toInt_int, aIf_true, aIf_false, g17, Bool.and_self, hn1, eN1, eY1, hcl, List.drop_zero, bne_self_eq_false, eof0]
      rw [hmf, List.nil_append]
      cases hz : isNil bs1 with
      | true => rw [isNil_eq hz]; rfl
      | false =>
        have z0 : (bs1.length == 0) = false := beq_eq_false_iff_ne.2 (fun h => by cases bs1 with | nil => cases hz | cons => simp at h)
        have z1 : bs1.length.ble 140737488355328 = true := by rw [Nat.ble_eq]; omega
        rw [slB1_ne hz, hpB_ne hz]
        simp only [z0, z1, Nat.mul_one, beq_self_eq_true, aIf_true, aIf_false]
    | false =>
      have k5 : (ds.length == 0) = false := beq_eq_false_iff_ne.2 (fun h => by
        have := List.eq_nil_of_length_eq_zero h
        rw [this] at hn; cases hn)
      have k6 : ((ds.length + bs1.length) * 1).ble 140737488355328 = true := by rw [Nat.ble_eq]; omega
      have k8 : max ds.length ((ds.length + bs1.length) * 1) = ds.length + bs1.length := by omega
      have k9 : (bs1.length == bs1.length * 1) = true := beq_iff_eq.2 (by omega)
      have hn2 : isNil (ds ++ bs1) = false := by
        cases ds with
        | nil => cases hn
        | cons => rfl
      have tp : List.take (ds.length * 1) ds ++ bs1 ++ List.drop (ds.length * 1 + bs1.length * 1) ds = ds ++ bs1 := take_put _
      rw [slB1_ne hn, hpB_ne hn, slB1_ne hn2, hpB_ne hn2, M5_13b _ _ _ _ _ _ _ _ _ _ _ _ _ _ _ _ _ _ _ _ _ _ _ _ _ _ _ _ _ _ k rfl rfl rfl rfl]
      simp only [hlt, h0, Int.toNat_natCast, e1, ag, List.getD_cons_zero, List.getD_cons_succ, ii, ib, tb, fi, ft, toInt_int, aIf_true, aIf_false, g17, Bool.and_self, hn1, eN1, eY1, hcl, List.drop_zero, bne_self_eq_false, eof, k5, k6, k8, k9, beq_self_eq_true, tp]
      rw [hmf, List.length_append]
  have hend : ∀ ds k, headedK C5 (loopB Try.f5 1) [(2, .int .i64 ls), (3, .ptr 0 0 0), (7, .fs 17 xs f1), (9, slB1 ds), (10, .int .i64 j), (11, .fs 17 ys f2), (13, .int .i64 (M.length : Int))] (.cells 0 [.int .u8 t, .int .u16 i, .bool df, .bool mf, .int .i64 off, .int .u8 l, .int .u8 q, .int .u8 s0, .int .u8 s1, .int .u8 s2, .int .u8 s3, .int .u8 d0, .int .u8 d1, .int .u8 d2, .int .u8 d3, .fs 1 os of, .fs 1 bs bf] :: hpB ds) k = k (.exit 2) [(2, .int .i64 ls), (3, .ptr 0 0 0), (7, .fs 17 xs f1), (9, slB1 ds), (10, .int .i64 j), (11, .fs 17 ys f2), (13, .int .i64 (M.length : Int)), (51, .bool false)] (.cells 0 [.int .u8 t, .int .u16 i, .bool df, .bool mf, .int .i64 off, .int .u8 l, .int .u8 q, .int .u8 s0, .int .u8 s1, .int .u8 s2, .int .u8 s3, .int .u8 d0, .int .u8 d1, .int .u8 d2, .int .u8 d3, .fs 1 os of, .fs 1 bs bf] :: hpB ds) := fun ds k => by
    have hge : decide ((M.length : Int) < (ys.length : Int)) = false := decide_eq_false (by omega)
    cases hn : isNil ds with
    | true =>
      obtain rfl := isNil_eq hn
      show headedK C5 (loopB Try.f5 1) [(2, .int .i64 ls), (3, .ptr 0 0 0), (7, .fs 17 xs f1), (9, .fs 0 [] .nil), (10, .int .i64 j), (11, .fs 17 ys f2), (13, .int .i64 (M.length : Int))] [.cells 0 [.int .u8 t, .int .u16 i, .bool df, .bool mf, .int .i64 off, .int .u8 l, .int .u8 q, .int .u8 s0, .int .u8 s1, .int .u8 s2, .int .u8 s3, .int .u8 d0, .int .u8 d1, .int .u8 d2, .int .u8 d3, .fs 1 os of, .fs 1 bs bf]] k = _
      rw [M5_13a _ _ _ _ _ _ _ _ _ _ _ _ _ _ _ _ _ _ _ _ _ _ _ _ _ _ k rfl rfl rfl rfl, hge, aIf_false]
      rfl
    | false =>
      rw [slB1_ne hn, hpB_ne hn, M5_13b _ _ _ _ _ _ _ _ _ _ _ _ _ _ _ _ _ _ _ _ _ _ _ _ _ _ _ _ _ _ k rfl rfl rfl rfl, hge, aIf_false]
  have htk : cs ++ bodB (M.take M.length) = cs ++ bodY ys := by rw [List.take_length, hbY]
  have ht0 : cs ++ bodB (M.take 0) = cs := List.append_nil _
  obtain ⟨m', hm'⟩ := iter_fold (δ := Unit) (N := M.length) (F := headedK C5 (loopB Try.f5 1)) (ts := fun n _ => [(2, .int .i64 ls), (3, .ptr 0 0 0), (7, .fs 17 xs f1), (9, slB1 (cs ++ bodB (M.take n))), (10, .int .i64 j), (11, .fs 17 ys f2), (13, .int .i64 (n : Int))]) (H := fun n _ => .cells 0 [.int .u8 t, .int .u16 i, .bool df, .bool mf, .int .i64 off, .int .u8 l, .int .u8 q, .int .u8 s0, .int .u8 s1, .int .u8 s2, .int .u8 s3, .int .u8 d0, .int .u8 d1, .int .u8 d2, .int .u8 d3, .fs 1 os of, .fs 1 bs bf] :: hpB (cs ++ bodB (M.take n))) (f := fun _ u => u) (I := fun _ _ => True) (ee := .exit 2) (te := fun _ => [(2, .int .i64 ls), (3, .ptr 0 0 0), (7, .fs 17 xs f1), (9, slB1 (cs ++ bodY ys)), (10, .int .i64 j), (11, .fs 17 ys f2), (13, .int .i64 (M.length : Int)), (51, .bool false)]) (He := fun _ => .cells 0 [.int .u8 t, .int .u16 i, .bool df, .bool mf, .int .i64 off, .int .u8 l, .int .u8 q, .int .u8 s0, .int .u8 s1, .int .u8 s2, .int .u8 s3, .int .u8 d0, .int .u8 d1, .int .u8 d2, .int .u8 d3, .fs 1 os of, .fs 1 bs bf] :: hpB (cs ++ bodY ys))
    (fun n d hj _ => ⟨trivial, fun k => key n hj k⟩)
    (fun d _ k => by rw [htk]; exact hend _ k) (by intro h; cases h) M.length 0 () (by omega) trivial
  refine ⟨m', fun k => ?_⟩
  have h9 := hm' k
  rw [ht0] at h9
  rw [hyl]
  exact h9
theorem L5_13_ok : LoopSum C5 (loopB Try.f5 1) L5_13 := LoopSum.of C5_ok L5_13_in (fun ts H => by
  unfold L5_13
  split
  · rename_i ls xs f1 j ys f2 n t i df mf off l q s0 s1 s2 s3 d0 d1 d2 d3 os of bs bf
    rcases Bool.eq_false_or_eq_true (n == 0 && innG off mf 0 (xs.length : Int) j ys) with hp | hp
    · refine .inr ?_
      simp only [aIf_pos hp]
      simp only [Bool.and_eq_true, beq_iff_eq] at hp
      obtain ⟨rfl, hI⟩ := hp
      obtain ⟨m', hm'⟩ := K5_in (t := t) (i := i) (df := df) (l := l) (q := q) (s0 := s0) (s1 := s1) (s2 := s2) (s3 := s3) (d0 := d0) (d1 := d1) (d2 := d2) (d3 := d3) (os := os) (of := of) (bs := bs) (bf := bf) (ls := ls) (f1 := f1) (f2 := f2) [] (innG_iff.1 hI)
      refine ⟨m', fun k => ?_⟩
      refine Eq.trans ?_ (hm' k).symm
      rw [List.nil_append]
      cases hn : isNil (bodY ys) with
      | true => rw [isNil_eq hn]; rfl
      | false => rw [slB1_ne hn, hpB_ne hn]; rfl
    · exact .inl fun k => by rw [aIf_neg hp]
  · rename_i ls xs f1 v z j ys f2 n t i df mf off l q s0 s1 s2 s3 d0 d1 d2 d3 os of bs bf w cs
    rcases Bool.eq_false_or_eq_true (n == 0 && v == z && w == z && z == cs.length && !isNil cs && innG off mf z (xs.length : Int) j ys) with hp | hp
    · refine .inr ?_
      simp only [aIf_pos hp]
      simp only [Bool.and_eq_true, beq_iff_eq, Bool.not_eq_true'] at hp
      obtain ⟨⟨⟨⟨⟨rfl, rfl⟩, rfl⟩, rfl⟩, hn⟩, hI⟩ := hp
      obtain ⟨m', hm'⟩ := K5_in (t := t) (i := i) (df := df) (l := l) (q := q) (s0 := s0) (s1 := s1) (s2 := s2) (s3 := s3) (d0 := d0) (d1 := d1) (d2 := d2) (d3 := d3) (os := os) (of := of) (bs := bs) (bf := bf) (ls := ls) (f1 := f1) (f2 := f2) cs (innG_iff.1 hI)
      refine ⟨m', fun k => ?_⟩
      have hn2 : isNil (cs ++ bodY ys) = false := by
        cases cs with
        | nil => cases hn
        | cons => rfl
      have h9 := hm' k
      rw [slB1_ne hn, hpB_ne hn, slB1_ne hn2, hpB_ne hn2] at h9
      exact h9.symm
    · exact .inl fun k => by rw [aIf_neg hp]
  · exact .inl fun k => rfl)
theorem L5_7_in : LoopsOK C5 (loopB Try.f5 0) := LoopsOK.within 1 (by kernel_rfl) (fun j hj S hS => by
  match j, hj with
  | 0, _ =>
    have e : C5.loop (loopId ((loopsOf (loopB Try.f5 0)).getD 0 .skip)) = some L5_13 := by kernel_rfl
    rw [e] at hS; cases hS; exact (show loopB Try.f5 1 = (loopsOf (loopB Try.f5 0)).getD 0 .skip by kernel_rfl) ▸ L5_13_ok
  | n + 1, hj => omega)
theorem M5_7a (t i : Int) (df mf : Bool) (off l q s0 s1 s2 s3 d0 d1 d2 d3 : Int) (os : List AV) (of : SF) (bs : List AV) (bf : SF) (ls : Int) (xs : List AV) (f1 : SF) (n : Int) (k : KC) {c2 : _} (gc2 : c2 = [AV.int IntKind.u8 t, AV.int IntKind.u16 i, AV.bool df, AV.bool mf, AV.int IntKind.i64 off, AV.int IntKind.u8 l, AV.int IntKind.u8 q, AV.int IntKind.u8 s0, AV.int IntKind.u8 s1, AV.int IntKind.u8 s2, AV.int IntKind.u8 s3, AV.int IntKind.u8 d0, AV.int IntKind.u8 d1, AV.int IntKind.u8 d2, AV.int IntKind.u8 d3, AV.fs 1 os of, AV.fs 1 bs bf]) {c0 : _} (gc0 : c0 = [(xs.getD n.toNat AV.junk).cells.getD 0 AV.junk, (xs.getD n.toNat AV.junk).cells.getD 1 AV.junk, (xs.getD n.toNat AV.junk).cells.getD 2 AV.junk, (xs.getD n.toNat AV.junk).cells.getD 3 AV.junk, (xs.getD n.toNat AV.junk).cells.getD 4 AV.junk, (xs.getD n.toNat AV.junk).cells.getD 5 AV.junk, (xs.getD n.toNat AV.junk).cells.getD 6 AV.junk, (xs.getD n.toNat AV.junk).cells.getD 7 AV.junk, (xs.getD n.toNat AV.junk).cells.getD 8 AV.junk, (xs.getD n.toNat AV.junk).cells.getD 9 AV.junk, (xs.getD n.toNat AV.junk).cells.getD 10 AV.junk, (xs.getD n.toNat AV.junk).cells.getD 11 AV.junk, (xs.getD n.toNat AV.junk).cells.getD 12 AV.junk, (xs.getD n.toNat AV.junk).cells.getD 13 AV.junk, (xs.getD n.toNat AV.junk).cells.getD 14 AV.junk, (xs.getD n.toNat AV.junk).cells.getD 15 AV.junk, (xs.getD n.toNat AV.junk).cells.getD 16 AV.junk]) {c1 : _} (gc1 : c1 = (Pl.frsE [AV.int IntKind.u8 (c0.getD 0 AV.junk).toInt, AV.int IntKind.u16 (c0.getD 1 AV.junk).toInt, AV.bool (c0.getD 2 AV.junk).toBool, AV.int IntKind.u8 (c0.getD 5 AV.junk).toInt, AV.int IntKind.u8 (c0.getD 6 AV.junk).toInt, AV.int IntKind.u8 (c0.getD 7 AV.junk).toInt, AV.int IntKind.u8 (c0.getD 8 AV.junk).toInt, AV.int IntKind.u8 (c0.getD 9 AV.junk).toInt, AV.int IntKind.u8 (c0.getD 10 AV.junk).toInt, AV.int IntKind.u8 (c0.getD 11 AV.junk).toInt, AV.int IntKind.u8 (c0.getD 12 AV.junk).toInt, AV.int IntKind.u8 (c0.getD 13 AV.junk).toInt, AV.int IntKind.u8 (c0.getD 14 AV.junk).toInt] (Pl.splL (c0.getD 2 AV.junk).toBool (c0.getD 3 AV.junk).toBool (c0.getD 4 AV.junk).toInt (c0.getD 15 AV.junk).toFs (c0.getD 15 AV.junk).toFl (c0.getD 16 AV.junk).toFs (c0.getD 16 AV.junk).toFl ls))) :
  headedK C5 (loopB Try.f5 0) [(2, .int .i64 ls), (3, .ptr 0 0 0), (7, .fs 17 xs f1), (9, .fs 0 [] .nil), (10, .int .i64 n)] [.cells 0 [.int .u8 t, .int .u16 i, .bool df, .bool mf, .int .i64 off, .int .u8 l, .int .u8 q, .int .u8 s0, .int .u8 s1, .int .u8 s2, .int .u8 s3, .int .u8 d0, .int .u8 d1, .int .u8 d2, .int .u8 d3, .fs 1 os of, .fs 1 bs bf]] k =
  aIf (decide (n < (↑xs.length : Int))) (aIf (decide (0 ≤ n)) (aIf (decide (n < (↑xs.length : Int))) (aIf ((xs.getD n.toNat AV.junk).cells.length == 17) (aIf ((c0.getD 0 AV.junk).isInt IntKind.u8) (aIf ((c0.getD 1 AV.junk).isInt IntKind.u16) (aIf (c0.getD 2 AV.junk).isBool (aIf (c0.getD 3 AV.junk).isBool (aIf ((c0.getD 4 AV.junk).isInt IntKind.i64) (aIf ((c0.getD 5 AV.junk).isInt IntKind.u8) (aIf ((c0.getD 6 AV.junk).isInt IntKind.u8) (aIf ((c0.getD 7 AV.junk).isInt IntKind.u8) (aIf ((c0.getD 8 AV.junk).isInt IntKind.u8) (aIf ((c0.getD 9 AV.junk).isInt IntKind.u8) (aIf ((c0.getD 10 AV.junk).isInt IntKind.u8) (aIf ((c0.getD 11 AV.junk).isInt IntKind.u8) (aIf ((c0.getD 12 AV.junk).isInt IntKind.u8) (aIf ((c0.getD 13 AV.junk).isInt IntKind.u8) (aIf ((c0.getD 14 AV.junk).isInt IntKind.u8) (aIf (AV.isFs 1 (c0.getD 15 AV.junk)) (aIf (AV.isFs 1 (c0.getD 16 AV.junk)) (aIf (intsB IntKind.u8 (c0.getD 15 AV.junk).toFs && decide ((c0.getD 15 AV.junk).toFs.length ≤ 100) && decide ((c0.getD 16 AV.junk).toFs.length ≤ 70000) && decide (-9223372036854775808 ≤ (c0.getD 4 AV.junk).toInt) && decide ((c0.getD 4 AV.junk).toInt ≤ 9223372036854775807) && decide (-9223372036854775808 ≤ ls) && decide (ls ≤ 9223372036854775807) && intsB IntKind.u8 (c0.getD 16 AV.junk).toFs && Pl.okF (c0.getD 15 AV.junk).toFs (c0.getD 15 AV.junk).toFl && Pl.okF (c0.getD 16 AV.junk).toFs (c0.getD 16 AV.junk).toFl) (aIf (Pl.splE (c0.getD 2 AV.junk).toBool (c0.getD 3 AV.junk).toBool (c0.getD 4 AV.junk).toInt (c0.getD 15 AV.junk).toFs (c0.getD 15 AV.junk).toFl (c0.getD 16 AV.junk).toFs (c0.getD 16 AV.junk).toFl ls != 0) (k AExit.ret [(6, AV.bool true)] [AO.cells 0 c2]) (aIf (true && Pl.innG off mf 0 (↑xs.length : Int) n c1) (aIf (Pl.isNil (Pl.bodY c1)) (k AExit.normal [(2, AV.int IntKind.i64 ls), (3, AV.ptr 0 0 0), (7, AV.fs 17 xs f1), (9, AV.fs 0 [] SF.nil), (10, AV.int IntKind.i64 (IntKind.i64.wrap (n + 1)))] [AO.cells 0 c2]) (k AExit.normal [(2, AV.int IntKind.i64 ls), (3, AV.ptr 0 0 0), (7, AV.fs 17 xs f1), (9, AV.sl 1 (Pl.bodY c1).length 0 (Pl.bodY c1).length 1), (10, AV.int IntKind.i64 (IntKind.i64.wrap (n + 1)))] [AO.cells 0 c2, AO.cells (Pl.bodY c1).length (Pl.bodY c1)])) none)) none) none) none) none) none) none) none) none) none) none) none) none) none) none) none) none) none) none) none) none) none) (k (AExit.exit 0) [(2, AV.int IntKind.i64 ls), (3, AV.ptr 0 0 0), (7, AV.fs 17 xs f1), (9, AV.fs 0 [] SF.nil), (10, AV.int IntKind.i64 n), (33, AV.bool (decide (n < (↑xs.length : Int))))] [AO.cells 0 c2]) := by subst gc1 gc0 gc2; kernel_rfl
theorem M5_7b (t i : Int) (df mf : Bool) (off l q s0 s1 s2 s3 d0 d1 d2 d3 : Int) (os : List AV) (of : SF) (bs : List AV) (bf : SF) (ls : Int) (xs : List AV) (f1 : SF) (n : Int) (v z w : Nat) (cs : List AV) (k : KC) {c2 : _} (gc2 : c2 = [AV.int IntKind.u8 t, AV.int IntKind.u16 i, AV.bool df, AV.bool mf, AV.int IntKind.i64 off, AV.int IntKind.u8 l, AV.int IntKind.u8 q, AV.int IntKind.u8 s0, AV.int IntKind.u8 s1, AV.int IntKind.u8 s2, AV.int IntKind.u8 s3, AV.int IntKind.u8 d0, AV.int IntKind.u8 d1, AV.int IntKind.u8 d2, AV.int IntKind.u8 d3, AV.fs 1 os of, AV.fs 1 bs bf]) {c0 : _} (gc0 : c0 = [(xs.getD n.toNat AV.junk).cells.getD 0 AV.junk, (xs.getD n.toNat AV.junk).cells.getD 1 AV.junk, (xs.getD n.toNat AV.junk).cells.getD 2 AV.junk, (xs.getD n.toNat AV.junk).cells.getD 3 AV.junk, (xs.getD n.toNat AV.junk).cells.getD 4 AV.junk, (xs.getD n.toNat AV.junk).cells.getD 5 AV.junk, (xs.getD n.toNat AV.junk).cells.getD 6 AV.junk, (xs.getD n.toNat AV.junk).cells.getD 7 AV.junk, (xs.getD n.toNat AV.junk).cells.getD 8 AV.junk, (xs.getD n.toNat AV.junk).cells.getD 9 AV.junk, (xs.getD n.toNat AV.junk).cells.getD 10 AV.junk, (xs.getD n.toNat AV.junk).cells.getD 11 AV.junk, (xs.getD n.toNat AV.junk).cells.getD 12 AV.junk, (xs.getD n.toNat AV.junk).cells.getD 13 AV.junk, (xs.getD n.toNat AV.junk).cells.getD 14 AV.junk, (xs.getD n.toNat AV.junk).cells.getD 15 AV.junk, (xs.getD n.toNat AV.junk).cells.getD 16 AV.junk]) {c1 : _} (gc1 : c1 = (Pl.frsE [AV.int IntKind.u8 (c0.getD 0 AV.junk).toInt, AV.int IntKind.u16 (c0.getD 1 AV.junk).toInt, AV.bool (c0.getD 2 AV.junk).toBool, AV.int IntKind.u8 (c0.getD 5 AV.junk).toInt, AV.int IntKind.u8 (c0.getD 6 AV.junk).toInt, AV.int IntKind.u8 (c0.getD 7 AV.junk).toInt, AV.int IntKind.u8 (c0.getD 8 AV.junk).toInt, AV.int IntKind.u8 (c0.getD 9 AV.junk).toInt, AV.int IntKind.u8 (c0.getD 10 AV.junk).toInt, AV.int IntKind.u8 (c0.getD 11 AV.junk).toInt, AV.int IntKind.u8 (c0.getD 12 AV.junk).toInt, AV.int IntKind.u8 (c0.getD 13 AV.junk).toInt, AV.int IntKind.u8 (c0.getD 14 AV.junk).toInt] (Pl.splL (c0.getD 2 AV.junk).toBool (c0.getD 3 AV.junk).toBool (c0.getD 4 AV.junk).toInt (c0.getD 15 AV.junk).toFs (c0.getD 15 AV.junk).toFl (c0.getD 16 AV.junk).toFs (c0.getD 16 AV.junk).toFl ls))) :
  headedK C5 (loopB Try.f5 0) [(2, .int .i64 ls), (3, .ptr 0 0 0), (7, .fs 17 xs f1), (9, .sl 1 v 0 z 1), (10, .int .i64 n)] [.cells 0 [.int .u8 t, .int .u16 i, .bool df, .bool mf, .int .i64 off, .int .u8 l, .int .u8 q, .int .u8 s0, .int .u8 s1, .int .u8 s2, .int .u8 s3, .int .u8 d0, .int .u8 d1, .int .u8 d2, .int .u8 d3, .fs 1 os of, .fs 1 bs bf], .cells w cs] k =
  aIf (decide (n < (↑xs.length : Int))) (aIf (decide (0 ≤ n)) (aIf (decide (n < (↑xs.length : Int))) (aIf ((xs.getD n.toNat AV.junk).cells.length == 17) (aIf ((c0.getD 0 AV.junk).isInt IntKind.u8) (aIf ((c0.getD 1 AV.junk).isInt IntKind.u16) (aIf (c0.getD 2 AV.junk).isBool (aIf (c0.getD 3 AV.junk).isBool (aIf ((c0.getD 4 AV.junk).isInt IntKind.i64) (aIf ((c0.getD 5 AV.junk).isInt IntKind.u8) (aIf ((c0.getD 6 AV.junk).isInt IntKind.u8) (aIf ((c0.getD 7 AV.junk).isInt IntKind.u8) (aIf ((c0.getD 8 AV.junk).isInt IntKind.u8) (aIf ((c0.getD 9 AV.junk).isInt IntKind.u8) (aIf ((c0.getD 10 AV.junk).isInt IntKind.u8) (aIf ((c0.getD 11 AV.junk).isInt IntKind.u8) (aIf ((c0.getD 12 AV.junk).isInt IntKind.u8) (aIf ((c0.getD 13 AV.junk).isInt IntKind.u8) (aIf ((c0.getD 14 AV.junk).isInt IntKind.u8) (aIf (AV.isFs 1 (c0.getD 15 AV.junk)) (aIf (AV.isFs 1 (c0.getD 16 AV.junk)) (aIf (intsB IntKind.u8 (c0.getD 15 AV.junk).toFs && decide ((c0.getD 15 AV.junk).toFs.length ≤ 100) && decide ((c0.getD 16 AV.junk).toFs.length ≤ 70000) && decide (-9223372036854775808 ≤ (c0.getD 4 AV.junk).toInt) && decide ((c0.getD 4 AV.junk).toInt ≤ 9223372036854775807) && decide (-9223372036854775808 ≤ ls) && decide (ls ≤ 9223372036854775807) && intsB IntKind.u8 (c0.getD 16 AV.junk).toFs && Pl.okF (c0.getD 15 AV.junk).toFs (c0.getD 15 AV.junk).toFl && Pl.okF (c0.getD 16 AV.junk).toFs (c0.getD 16 AV.junk).toFl) (aIf (Pl.splE (c0.getD 2 AV.junk).toBool (c0.getD 3 AV.junk).toBool (c0.getD 4 AV.junk).toInt (c0.getD 15 AV.junk).toFs (c0.getD 15 AV.junk).toFl (c0.getD 16 AV.junk).toFs (c0.getD 16 AV.junk).toFl ls != 0) (k AExit.ret [(6, AV.bool true)] [AO.cells 0 c2, AO.cells w cs]) (aIf (true && v == z && w == z && z == cs.length && !Pl.isNil cs && Pl.innG off mf z (↑xs.length : Int) n c1) (k AExit.normal [(2, AV.int IntKind.i64 ls), (3, AV.ptr 0 0 0), (7, AV.fs 17 xs f1), (9, AV.sl 1 (cs ++ Pl.bodY c1).length 0 (cs ++ Pl.bodY c1).length 1), (10, AV.int IntKind.i64 (IntKind.i64.wrap (n + 1)))] [AO.cells 0 c2, AO.cells (cs ++ Pl.bodY c1).length (cs ++ Pl.bodY c1)]) none)) none) none) none) none) none) none) none) none) none) none) none) none) none) none) none) none) none) none) none) none) none) (k (AExit.exit 0) [(2, AV.int IntKind.i64 ls), (3, AV.ptr 0 0 0), (7, AV.fs 17 xs f1), (9, AV.sl 1 v 0 z 1), (10, AV.int IntKind.i64 n), (33, AV.bool (decide (n < (↑xs.length : Int))))] [AO.cells 0 c2, AO.cells w cs]) := by subst gc1 gc0 gc2; kernel_rfl
theorem L5_7_ok : LoopSum C5 (loopB Try.f5 0) L5_7 := LoopSum.of C5_ok L5_7_in (fun ts H => by
  unfold L5_7
  split
  · rename_i ls xs f1 n t i df mf off l q s0 s1 s2 s3 d0 d1 d2 d3 os of bs bf
    rcases Bool.eq_false_or_eq_true (n == 0 && decide (-9223372036854775808 ≤ ls) && decide (ls ≤ 9223372036854775807) && agnG off mf bs xs) with hp | hp
    · refine .inr ?_
      simp only [aIf_pos hp]
      simp only [Bool.and_eq_true, decide_eq_true_eq, beq_iff_eq] at hp
      obtain ⟨⟨⟨rfl, hl1⟩, hl2⟩, hall⟩ := hp
      obtain ⟨t1, i1, df1, l1, q1, sx0, sx1, sx2, sx3, dx0, dx1, dx2, dx3, L, m, hx, hLl, hA, hok, hb70⟩ := agnG_iff.1 hall
      have hxl : xs.length = L.length := by rw [hx, frsE_len]
      have hbody : bodB L = bs := hA.1
      have hbt : ∀ j, bodY (xs.take j) = bodB (L.take j) := fun j => by
        rw [hx]
        unfold frsE
        rw [← List.map_take]
        exact bodY_rows _
      have key : ∀ j : Nat, j < L.length → ∀ k, headedK C5 (loopB Try.f5 0) [(2, .int .i64 ls), (3, .ptr 0 0 0), (7, .fs 17 xs f1), (9, slB1 (bodB (L.take j))), (10, .int .i64 (j : Int))] (.cells 0 [.int .u8 t, .int .u16 i, .bool df, .bool mf, .int .i64 off, .int .u8 l, .int .u8 q, .int .u8 s0, .int .u8 s1, .int .u8 s2, .int .u8 s3, .int .u8 d0, .int .u8 d1, .int .u8 d2, .int .u8 d3, .fs 1 os of, .fs 1 bs bf] :: hpB (bodB (L.take j))) k = aIf (agE xs ls j) (k .ret [(6, .bool true)] (.cells 0 [.int .u8 t, .int .u16 i, .bool df, .bool mf, .int .i64 off, .int .u8 l, .int .u8 q, .int .u8 s0, .int .u8 s1, .int .u8 s2, .int .u8 s3, .int .u8 d0, .int .u8 d1, .int .u8 d2, .int .u8 d3, .fs 1 os of, .fs 1 bs bf] :: hpB (bodB (L.take j)))) (k .normal [(2, .int .i64 ls), (3, .ptr 0 0 0), (7, .fs 17 xs f1), (9, slB1 (bodB (L.take (j + 1)))), (10, .int .i64 ((j + 1 : Nat) : Int))] (.cells 0 [.int .u8 t, .int .u16 i, .bool df, .bool mf, .int .i64 off, .int .u8 l, .int .u8 q, .int .u8 s0, .int .u8 s1, .int .u8 s2, .int .u8 s3, .int .u8 d0, .int .u8 d1, .int .u8 d2, .int .u8 d3, .fs 1 os of, .fs 1 bs bf] :: hpB (bodB (L.take (j + 1))))) := by
        intro j hj k
        obtain ⟨r, mr, gr, e1⟩ := frsE_get (h := hdr t1 i1 df1 l1 q1 sx0 sx1 sx2 sx3 dx0 dx1 dx2 dx3) hj
        rw [← hx] at e1
        obtain ⟨a1, a2, a3, a4, a5, a6, a7, a8, a9, a10⟩ := all_at hA gr
        have hlastm := all_last hA gr
        have hokr := hok r mr
        obtain ⟨rm, ro, ⟨os1, f1o⟩, ⟨bs1, f1b⟩⟩ := r
        replace a1 : ro = off + (((bodB (L.take j)).length / 8 : Nat) : Int) := a1
        replace a4 : ro ≤ 8191 := a4
        replace a5 : os1.length ≤ 40 := a5
        replace a9 : j + 1 < L.length → rm = true := fun h => (a9 h).1
        replace a10 : bodB (L.take (j + 1)) = bodB (L.take j) ++ bs1 := a10
        replace hlastm : j + 1 = L.length → rm = mf := hlastm
        obtain ⟨hg1, hg2, hg3, hg4⟩ := goodFr_iff.1 a8
        replace hg1 : intsB .u8 os1 = true := hg1
        replace hg2 : intsB .u8 bs1 = true := hg2
        replace hg4 : bs1.length ≤ 70000 := hg4
        unfold okFr at hokr
        rw [Bool.and_eq_true] at hokr
        have ok1 : okF os1 f1o = true := hokr.1
        have ok2 : okF bs1 f1b = true := hokr.2
        replace e1 : xs.getD j .junk = .agg [.int .u8 t1, .int .u16 i1, .bool df1, .bool rm, .int .i64 ro, .int .u8 l1, .int .u8 q1, .int .u8 sx0, .int .u8 sx1, .int .u8 sx2, .int .u8 sx3, .int .u8 dx0, .int .u8 dx1, .int .u8 dx2, .int .u8 dx3, .fs 1 os1 f1o, .fs 1 bs1 f1b] := e1
        have hbl : (bodB (L.take j)).length ≤ 70000 := by
          have h2 : bodB L = bodB (L.take j) ++ bodB (L.drop j) := by
            conv => lhs; rw [← List.take_append_drop j L]
            exact List.flatMap_append
          have h3 := congrArg List.length h2
          rw [hbody, List.length_append] at h3
          omega
        have hn1 : IntKind.i64.wrap ((j : Int) + 1) = ((j + 1 : Nat) : Int) := by rw [i64_of (by omega) (by omega)]; omega
        have hlt : decide ((j : Int) < (xs.length : Int)) = true := decide_eq_true (by omega)
        have h0 : decide ((0 : Int) ≤ (j : Int)) = true := decide_eq_true (by omega)
        have dg3 : decide (os1.length ≤ 100) = true := decide_eq_true (by omega)
        have dg4 : decide (bs1.length ≤ 70000) = true := decide_eq_true (by omega)
        have dr1 : decide (-9223372036854775808 ≤ ro) = true := decide_eq_true (by omega)
        have dr2 : decide (ro ≤ 9223372036854775807) = true := decide_eq_true (by omega)
        have dl1 : decide (-9223372036854775808 ≤ ls) = true := decide_eq_true hl1
        have dl2 : decide (ls ≤ 9223372036854775807) = true := decide_eq_true hl2
        have ii : ∀ k n, (AV.int k n).isInt k = true := fun k n => by cases k <;> rfl
        have ib : ∀ b, (AV.bool b).isBool = true := fun _ => rfl
        have tb : ∀ b, (AV.bool b).toBool = b := fun _ => rfl
        have fi : ∀ xs f, (AV.fs 1 xs f).isFs 1 = true := fun _ _ => rfl
        have ft : ∀ xs f, (AV.fs 1 xs f).toFs = xs := fun _ _ => rfl
        have fl_ : ∀ xs f, (AV.fs 1 xs f).toFl = f := fun _ _ => rfl
        have ag : ∀ cs, (AV.agg cs).cells = cs := fun _ => rfl
        have g17 : (([.int .u8 t1, .int .u16 i1, .bool df1, .bool rm, .int .i64 ro, .int .u8 l1, .int .u8 q1, .int .u8 sx0, .int .u8 sx1, .int .u8 sx2, .int .u8 sx3, .int .u8 dx0, .int .u8 dx1, .int .u8 dx2, .int .u8 dx3, .fs 1 os1 f1o, .fs 1 bs1 f1b] : List AV).length == 17) = true := rfl
        have hE : agE xs ls j = (splE df1 rm ro os1 f1o bs1 f1b ls != 0) := by unfold agE; rw [e1]; rfl
        have hrow : splE df1 rm ro os1 f1o bs1 f1b ls = 0 → innG off mf (bodB (L.take j)).length (xs.length : Int) (j : Int) (frsE (hdr t1 i1 df1 l1 q1 sx0 sx1 sx2 sx3 dx0 dx1 dx2 dx3) (splL df1 rm ro os1 f1o bs1 f1b ls)) = true ∧ bodY (frsE (hdr t1 i1 df1 l1 q1 sx0 sx1 sx2 sx3 dx0 dx1 dx2 dx3) (splL df1 rm ro os1 f1o bs1 f1b ls)) = bs1 := fun h => by
          have hls := splE_ls h
          obtain ⟨_, _, _, h100⟩ := spl_same (df := df1) (mf := rm) (off := ro) (f := f1o) (g := f1b) (m := ls) hg1 (by omega) hg2 hg4
          obtain ⟨ln, rfl⟩ := Int.eq_ofNat_of_zero_le (show 0 ≤ ls by omega)
          have hAl := spl_all (df := df1) (mf := rm) (off := ro) (f := f1o) (g := f1b) hg1 hg2 hg4 h
          have hrm : rm = (mf || decide ((j : Int) < (xs.length : Int) - 1)) := by
            rcases Nat.lt_or_ge (j + 1) L.length with hl | hl
            · rw [a9 hl, decide_eq_true (show (j : Int) < (xs.length : Int) - 1 by omega), Bool.or_true]
            · rw [hlastm (by omega), decide_eq_false (show ¬ (j : Int) < (xs.length : Int) - 1 by omega), Bool.or_false]
          refine ⟨innG_iff.2 ⟨t1, i1, df1, l1, q1, sx0, sx1, sx2, sx3, dx0, dx1, dx2, dx3, _, ln, ro, bs1, rfl, h100, ?_, by omega, by omega, hg4, a3, by omega, by omega, by omega⟩, ?_⟩
          · rw [← hrm]; exact hAl
          · rw [bodY_rows]; exact hAl.1
        replace hrow : splE df1 rm ro os1 f1o bs1 f1b ls = 0 → _ := hrow
        unfold hdr at hrow
        rw [hE, a10]
        cases hn : isNil (bodB (L.take j)) with
        | true =>
          have hb0 := isNil_eq hn
          rw [hb0] at hrow
          rw [hb0]
          show headedK C5 (loopB Try.f5 0) [(2, .int .i64 ls), (3, .ptr 0 0 0), (7, .fs 17 xs f1), (9, .fs 0 [] .nil), (10, .int .i64 (j : Int))] [.cells 0 [.int .u8 t, .int .u16 i, .bool df, .bool mf, .int .i64 off, .int .u8 l, .int .u8 q, .int .u8 s0, .int .u8 s1, .int .u8 s2, .int .u8 s3, .int .u8 d0, .int .u8 d1, .int .u8 d2, .int .u8 d3, .fs 1 os of, .fs 1 bs bf]] k = _
          rw [M5_7a _ _ _ _ _ _ _ _ _ _ _ _ _ _ _ _ _ _ _ _ _ _ _ k rfl rfl rfl]
          simp only [hlt, h0, Int.toNat_natCast, e1, ag, List.getD_cons_zero, List.getD_cons_succ, ii, ib, tb, fi, ft, fl_, toInt_int, aIf_true, aIf_false, g17, Bool.and_self, hn1, hg1, dg3, dg4, dr1, dr2, dl1, dl2, hg2, ok1, ok2, beq_self_eq_true]
          by_cases hs : splE df1 rm ro os1 f1o bs1 f1b ls = 0
          · obtain ⟨w1, w2⟩ := hrow hs
            have w1' : innG off mf 0 (xs.length : Int) (j : Int) _ = true := w1
            rw [hs, w1', w2, List.nil_append]
            cases hz : isNil bs1 with
            | true => rw [isNil_eq hz]; rfl
            | false => rw [slB1_ne hz, hpB_ne hz]; rfl
          · rw [bne, beq_eq_false_iff_ne.2 hs]; rfl
        | false =>
          have hn2 : isNil (bodB (L.take j) ++ bs1) = false := by
            cases hq : bodB (L.take j) with
            | nil => rw [hq] at hn; cases hn
            | cons => rfl
          rw [slB1_ne hn, hpB_ne hn, slB1_ne hn2, hpB_ne hn2, M5_7b _ _ _ _ _ _ _ _ _ _ _ _ _ _ _ _ _ _ _ _ _ _ _ _ _ _ _ k rfl rfl rfl]
          simp only [hlt, h0, Int.toNat_natCast, e1, ag, List.getD_cons_zero, List.getD_cons_succ, ii, ib, tb, fi, ft, fl_, toInt_int, aIf_true, aIf_false, g17, Bool.and_self, hn1, hg1, dg3, dg4, dr1, dr2, dl1, dl2, hg2, ok1, ok2, beq_self_eq_true, hn, Bool.not_false]
          by_cases hs : splE df1 rm ro os1 f1o bs1 f1b ls = 0
          · obtain ⟨w1, w2⟩ := hrow hs
            rw [hs, w1, w2]
            rfl
          · rw [bne, beq_eq_false_iff_ne.2 hs]; rfl
      have hend : ∀ k, headedK C5 (loopB Try.f5 0) [(2, .int .i64 ls), (3, .ptr 0 0 0), (7, .fs 17 xs f1), (9, slB1 bs), (10, .int .i64 (L.length : Int))] (.cells 0 [.int .u8 t, .int .u16 i, .bool df, .bool mf, .int .i64 off, .int .u8 l, .int .u8 q, .int .u8 s0, .int .u8 s1, .int .u8 s2, .int .u8 s3, .int .u8 d0, .int .u8 d1, .int .u8 d2, .int .u8 d3, .fs 1 os of, .fs 1 bs bf] :: hpB bs) k = k (.exit 0) [(2, .int .i64 ls), (3, .ptr 0 0 0), (7, .fs 17 xs f1), (9, slB1 bs), (10, .int .i64 (L.length : Int)), (33, .bool false)] (.cells 0 [.int .u8 t, .int .u16 i, .bool df, .bool mf, .int .i64 off, .int .u8 l, .int .u8 q, .int .u8 s0, .int .u8 s1, .int .u8 s2, .int .u8 s3, .int .u8 d0, .int .u8 d1, .int .u8 d2, .int .u8 d3, .fs 1 os of, .fs 1 bs bf] :: hpB bs) := fun k => by
        have hge : decide ((L.length : Int) < (xs.length : Int)) = false := decide_eq_false (by omega)
        cases hn : isNil bs with
        | true =>
          have hb0 := isNil_eq hn
          subst hb0
          show headedK C5 (loopB Try.f5 0) [(2, .int .i64 ls), (3, .ptr 0 0 0), (7, .fs 17 xs f1), (9, .fs 0 [] .nil), (10, .int .i64 (L.length : Int))] [.cells 0 [.int .u8 t, .int .u16 i, .bool df, .bool mf, .int .i64 off, .int .u8 l, .int .u8 q, .int .u8 s0, .int .u8 s1, .int .u8 s2, .int .u8 s3, .int .u8 d0, .int .u8 d1, .int .u8 d2, .int .u8 d3, .fs 1 os of, .fs 1 [] bf]] k = _
          rw [M5_7a _ _ _ _ _ _ _ _ _ _ _ _ _ _ _ _ _ _ _ _ _ _ _ k rfl rfl rfl, hge, aIf_false]
          rfl
        | false =>
          rw [slB1_ne hn, hpB_ne hn, M5_7b _ _ _ _ _ _ _ _ _ _ _ _ _ _ _ _ _ _ _ _ _ _ _ _ _ _ _ k rfl rfl rfl, hge, aIf_false]
      have htk : bodB (L.take L.length) = bs := by rw [List.take_length]; exact hbody
      obtain ⟨m', hm'⟩ := iter_run (δ := Unit) (N := L.length) (F := headedK C5 (loopB Try.f5 0)) (ts := fun j _ => [(2, .int .i64 ls), (3, .ptr 0 0 0), (7, .fs 17 xs f1), (9, slB1 (bodB (L.take j))), (10, .int .i64 (j : Int))]) (H := fun j _ => .cells 0 [.int .u8 t, .int .u16 i, .bool df, .bool mf, .int .i64 off, .int .u8 l, .int .u8 q, .int .u8 s0, .int .u8 s1, .int .u8 s2, .int .u8 s3, .int .u8 d0, .int .u8 d1, .int .u8 d2, .int .u8 d3, .fs 1 os of, .fs 1 bs bf] :: hpB (bodB (L.take j))) (f := fun j _ => bif agE xs ls j then .stop .ret [(6, .bool true)] (.cells 0 [.int .u8 t, .int .u16 i, .bool df, .bool mf, .int .i64 off, .int .u8 l, .int .u8 q, .int .u8 s0, .int .u8 s1, .int .u8 s2, .int .u8 s3, .int .u8 d0, .int .u8 d1, .int .u8 d2, .int .u8 d3, .fs 1 os of, .fs 1 bs bf] :: hpB (bodB (L.take j))) else .go ()) (e := fun _ => (.exit 0, [(2, .int .i64 ls), (3, .ptr 0 0 0), (7, .fs 17 xs f1), (9, slB1 bs), (10, .int .i64 (L.length : Int)), (33, .bool false)], .cells 0 [.int .u8 t, .int .u16 i, .bool df, .bool mf, .int .i64 off, .int .u8 l, .int .u8 q, .int .u8 s0, .int .u8 s1, .int .u8 s2, .int .u8 s3, .int .u8 d0, .int .u8 d1, .int .u8 d2, .int .u8 d3, .fs 1 os of, .fs 1 bs bf] :: hpB bs)) (I := fun _ _ => True)
        (fun j d hj _ => by
          cases d
          cases hc : agE xs ls j with
          | true => exact ⟨(by intro h; cases h), fun k => (key j hj k).trans (aIf_pos hc)⟩
          | false => exact ⟨trivial, fun k => (key j hj k).trans (aIf_neg hc)⟩)
        (fun d _ => ⟨(by intro h; cases h), fun k => by rw [htk]; exact hend k⟩) L.length 0 () (by omega) trivial
      refine ⟨m', fun k => ?_⟩
      refine Eq.trans ?_ (hm' k).symm
      rw [runX_one (b := agE xs ls) (v := fun j => (.ret, [(6, .bool true)], .cells 0 [.int .u8 t, .int .u16 i, .bool df, .bool mf, .int .i64 off, .int .u8 l, .int .u8 q, .int .u8 s0, .int .u8 s1, .int .u8 s2, .int .u8 s3, .int .u8 d0, .int .u8 d1, .int .u8 d2, .int .u8 d3, .fs 1 os of, .fs 1 bs bf] :: hpB (bodB (L.take j)))) (fun j => rfl), Nat.zero_add, ← hxl]
      have eF : firstN (agE xs ls) xs.length 0 = agF xs ls := rfl
      rw [eF]
      have eB : agB xs ls = decide (agF xs ls < xs.length) := rfl
      rw [eB, hbt]
      cases decide (agF xs ls < xs.length) with
      | true => rfl
      | false =>
        cases hn : isNil bs with
        | true =>
          have hb0 := isNil_eq hn
          subst hb0
          rfl
        | false => rw [slB1_ne hn, hpB_ne hn]; rfl
    · exact .inl fun k => by rw [aIf_neg hp]
  · exact .inl fun k => rfl)
theorem C5_loops : ∀ c, Try.f5.body = some c → LoopsOK C5 c := LoopsOK.of 2 (by kernel_rfl) (fun j hj S hS => by
  match j, hj with
  | 0, _ => rw [C5_l0] at hS; cases hS; exact L5_7_ok
  | 1, _ => rw [C5_l1] at hS; cases hS; exact L5_13_ok
  | n + 2, hj => omega)
noncomputable def S5 : FSpec := inlineK C5 Try.f5
theorem S5_ok : SpecOK Try.prog 5 S5 := inlineK_ok C5_ok Try.func5 C5_loops
theorem En5 : Enters Try.prog 5 := ⟨_, Try.func5, by decide, rfl⟩
end Go.Proofs.Ytohfnoepdbkkeaa
