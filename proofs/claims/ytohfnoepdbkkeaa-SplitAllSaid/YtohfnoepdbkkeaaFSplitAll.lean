import Derived.Test.YtohfnoepdbkkeaaFSplitAllb
namespace Go.Proofs.Ytohfnoepdbkkeaa
open Go.Abs Go.Pl

/-- ferryman/ferrymanlaw13.alive -/
noncomputable def W17 : FSpec := shareK S17z
theorem W17_ok : SpecOK Try.prog 17 W17 := S17z_ok.share
noncomputable def T15 : List (FuncId × FSpec) := [(17, W17)]
theorem T15_ok : TabOK Try.prog T15 := TabOK.cons En17 W17_ok (TabOK.nil _)
noncomputable def C15 : Ctx := (ctx E T15 [] [(0, []), (1, [1, 2]), (2, [0])] [] 52 70)
theorem C15_ok : CtxOK Try.prog C15 := ctx_ok E_ok E_flds mixed T15_ok
noncomputable def B15 : FSpec := inlineK C15 Try.f15
noncomputable def S15 : FSpec := constK (AV.bool true)
theorem B15_ok : SpecOK Try.prog 15 B15 := inlineK_ok C15_ok Try.func15 (fun _ _ => LoopsOK.none _)
theorem B15_is (k : KE) : B15 [] [] k = k (.ret (AV.bool true)) [] := by kernel_rfl
theorem S15_ok : SpecOK Try.prog 15 S15 := constK_ok B15_ok B15_is
theorem En15 : Enters Try.prog 15 := ⟨_, Try.func15, by decide, rfl⟩

/-- ferryman/ferrymanlaw13.cut -/
noncomputable def T16 : List (FuncId × FSpec) := []
theorem T16_ok : TabOK Try.prog T16 := TabOK.nil _
noncomputable def C16 : Ctx := (ctx E T16 [] [(0, [1, 2]), (1, [1, 2, 6]), (2, [1, 2]), (3, [1, 2, 14]), (4, [1, 2]), (5, [2])] [] 20 70)
theorem C16_ok : CtxOK Try.prog C16 := ctx_ok E_ok E_flds mixed T16_ok
noncomputable def B16 : FSpec := inlineK C16 Try.f16
noncomputable def S16 : FSpec := fun args H k => match args, H with
  | [.agg [.int .u8 t, .int .u16 i, .bool df, .bool mf, .int .i64 off, .int .u8 l, .int .u8 q, .int .u8 s0, .int .u8 s1, .int .u8 s2, .int .u8 s3, .int .u8 d0, .int .u8 d1, .int .u8 d2, .int .u8 d3, .fs 1 os of, .fs 1 bs bf]], [] => aIf (true) (k (.ret (.agg [.int .u8 t, .int .u16 i, .bool df, .bool mf, .int .i64 off, .int .u8 l, .int .u8 q, .int .u8 s0, .int .u8 s1, .int .u8 s2, .int .u8 s3, .int .u8 d0, .int .u8 d1, .int .u8 d2, .int .u8 d3, .fs 1 (os.take 100) of, .fs 1 (bs.take 70000) bf])) []) none
  | _, _ => none
theorem B16_ok : SpecOK Try.prog 16 B16 := inlineK_ok C16_ok Try.func16 (fun _ _ => LoopsOK.none _)
theorem N16 (t i : Int) (df mf : Bool) (off l q s0 s1 s2 s3 d0 d1 d2 d3 : Int) (os : List AV) (of : SF) (bs : List AV) (bf : SF) (k : KE) : B16 [.agg [.int .u8 t, .int .u16 i, .bool df, .bool mf, .int .i64 off, .int .u8 l, .int .u8 q, .int .u8 s0, .int .u8 s1, .int .u8 s2, .int .u8 s3, .int .u8 d0, .int .u8 d1, .int .u8 d2, .int .u8 d3, .fs 1 os of, .fs 1 bs bf]] [] k =
  aIf (decide ((↑bs.length : Int) > 70000)) (aIf (decide (70000 ≤ (↑bs.length : Int))) (aIf (decide ((↑os.length : Int) > 100)) (aIf (decide (100 ≤ (↑os.length : Int))) (k (AEnd.ret (AV.agg [AV.int IntKind.u8 t, AV.int IntKind.u16 i, AV.bool df, AV.bool mf, AV.int IntKind.i64 off, AV.int IntKind.u8 l, AV.int IntKind.u8 q, AV.int IntKind.u8 s0, AV.int IntKind.u8 s1, AV.int IntKind.u8 s2, AV.int IntKind.u8 s3, AV.int IntKind.u8 d0, AV.int IntKind.u8 d1, AV.int IntKind.u8 d2, AV.int IntKind.u8 d3, AV.fs 1 (List.drop 0 (List.take 100 os)) of, AV.fs 1 (List.drop 0 (List.take 70000 bs)) bf])) []) none) (k (AEnd.ret (AV.agg [AV.int IntKind.u8 t, AV.int IntKind.u16 i, AV.bool df, AV.bool mf, AV.int IntKind.i64 off, AV.int IntKind.u8 l, AV.int IntKind.u8 q, AV.int IntKind.u8 s0, AV.int IntKind.u8 s1, AV.int IntKind.u8 s2, AV.int IntKind.u8 s3, AV.int IntKind.u8 d0, AV.int IntKind.u8 d1, AV.int IntKind.u8 d2, AV.int IntKind.u8 d3, AV.fs 1 os of, AV.fs 1 (List.drop 0 (List.take 70000 bs)) bf])) [])) none) (aIf (decide ((↑os.length : Int) > 100)) (aIf (decide (100 ≤ (↑os.length : Int))) (k (AEnd.ret (AV.agg [AV.int IntKind.u8 t, AV.int IntKind.u16 i, AV.bool df, AV.bool mf, AV.int IntKind.i64 off, AV.int IntKind.u8 l, AV.int IntKind.u8 q, AV.int IntKind.u8 s0, AV.int IntKind.u8 s1, AV.int IntKind.u8 s2, AV.int IntKind.u8 s3, AV.int IntKind.u8 d0, AV.int IntKind.u8 d1, AV.int IntKind.u8 d2, AV.int IntKind.u8 d3, AV.fs 1 (List.drop 0 (List.take 100 os)) of, AV.fs 1 bs bf])) []) none) (k (AEnd.ret (AV.agg [AV.int IntKind.u8 t, AV.int IntKind.u16 i, AV.bool df, AV.bool mf, AV.int IntKind.i64 off, AV.int IntKind.u8 l, AV.int IntKind.u8 q, AV.int IntKind.u8 s0, AV.int IntKind.u8 s1, AV.int IntKind.u8 s2, AV.int IntKind.u8 s3, AV.int IntKind.u8 d0, AV.int IntKind.u8 d1, AV.int IntKind.u8 d2, AV.int IntKind.u8 d3, AV.fs 1 os of, AV.fs 1 bs bf])) [])) := by kernel_rfl
theorem S16_ok : SpecOK Try.prog 16 S16 := by
  refine B16_ok.turn fun args H => ?_
  unfold S16
  split
  · rename_i t i df mf off l q s0 s1 s2 s3 d0 d1 d2 d3 os of bs bf
    rcases Bool.eq_false_or_eq_true (true) with hp | hp
    · refine .inr fun k => ?_
      rw [aIf_pos hp, N16]
      have e1 : ∀ (n : Nat) (xs : List AV), ¬ (xs.length : Int) > (n : Int) → xs.take n = xs := fun n xs h => List.take_of_length_le (by omega)
      by_cases hb : (bs.length : Int) > 70000
      · rw [decide_eq_true hb, decide_eq_true (show (70000 : Int) ≤ (bs.length : Int) by omega)]
        by_cases ho : (os.length : Int) > 100
        · rw [decide_eq_true ho, decide_eq_true (show (100 : Int) ≤ (os.length : Int) by omega), List.drop_zero, List.drop_zero]; rfl
        · rw [decide_eq_false ho, List.drop_zero, e1 100 os ho]; rfl
      · rw [decide_eq_false hb, e1 70000 bs hb]
        by_cases ho : (os.length : Int) > 100
        · rw [decide_eq_true ho, decide_eq_true (show (100 : Int) ≤ (os.length : Int) by omega), List.drop_zero]; rfl
        · rw [decide_eq_false ho, e1 100 os ho]; rfl
    · exact .inl fun k => by rw [aIf_neg hp]
  · exact .inl fun k => rfl
theorem En16 : Enters Try.prog 16 := ⟨_, Try.func16, by decide, rfl⟩

/-- ferryman/ferrymanlaw13.SplitAll -/
noncomputable def T4 : List (FuncId × FSpec) := [(15, S15), (16, S16), (17, S17), (18, S18)]
theorem T4_ok : TabOK Try.prog T4 := TabOK.cons En15 S15_ok (TabOK.cons En16 S16_ok (TabOK.cons En17 S17_ok (TabOK.cons En18 S18_ok (TabOK.nil _))))
noncomputable def L4_7 : ATs → AH → KC → Res := fun ts H k => match ts, H with
  | [(1, .int .i64 m), (2, .ptr 0 0 0), (5, .fs 17 xs f1), (7, .fs 0 [] .nil), (8, .int .i64 n)], [.cells 0 [.int .u8 t, .int .u16 i, .bool df, .bool mf, .int .i64 off, .int .u8 l, .int .u8 q, .int .u8 s0, .int .u8 s1, .int .u8 s2, .int .u8 s3, .int .u8 d0, .int .u8 d1, .int .u8 d2, .int .u8 d3, .fs 1 os of, .fs 1 bs bf]] => aIf (n == 0 && decide (68 ≤ m) && decide (m ≤ 65535) && decide (off ≤ 8191) && allG m off mf bs xs) (aIf (isNil bs) (k (.exit 0) [(1, .int .i64 m), (2, .ptr 0 0 0), (5, .fs 17 xs f1), (7, .fs 0 [] .nil), (8, .int .i64 (xs.length : Int)), (31, .bool false)] [.cells 0 [.int .u8 t, .int .u16 i, .bool df, .bool mf, .int .i64 off, .int .u8 l, .int .u8 q, .int .u8 s0, .int .u8 s1, .int .u8 s2, .int .u8 s3, .int .u8 d0, .int .u8 d1, .int .u8 d2, .int .u8 d3, .fs 1 os of, .fs 1 bs bf]]) (k (.exit 0) [(1, .int .i64 m), (2, .ptr 0 0 0), (5, .fs 17 xs f1), (7, .sl 1 bs.length 0 bs.length 1), (8, .int .i64 (xs.length : Int)), (31, .bool false)] [.cells 0 [.int .u8 t, .int .u16 i, .bool df, .bool mf, .int .i64 off, .int .u8 l, .int .u8 q, .int .u8 s0, .int .u8 s1, .int .u8 s2, .int .u8 s3, .int .u8 d0, .int .u8 d1, .int .u8 d2, .int .u8 d3, .fs 1 os of, .fs 1 bs bf], .cells bs.length bs])) none
  | _, _ => none
noncomputable def C4 : Ctx := (ctx E T4 [(7, L4_7)] [(0, [1, 2]), (1, [1, 2]), (2, [1, 2, 5, 6]), (3, [1, 2, 5, 21]), (4, [4]), (5, [1, 2, 5, 7]), (6, [1, 2, 5, 7, 8]), (7, [1, 2, 5, 7, 8, 31]), (8, [1, 2, 5, 7, 8]), (9, [1, 2, 5, 7, 8, 9, 11]), (10, [1, 2, 5, 7, 8, 94]), (11, [4]), (12, [1, 2, 5, 7, 8]), (13, [4]), (1000007, [1, 2, 5, 7, 8])] [] 128 70)
theorem C4_ok : CtxOK Try.prog C4 := ctx_ok E_ok E_flds mixed T4_ok
theorem C4_l0 : C4.loop (loopId (loopB Try.f4 0)) = some L4_7 := by kernel_rfl
theorem L4_7_in : LoopsOK C4 (loopB Try.f4 0) := LoopsOK.within 0 (by kernel_rfl) (fun j hj S hS => by
  omega)
theorem M4_7a (t i : Int) (df mf : Bool) (off l q s0 s1 s2 s3 d0 d1 d2 d3 : Int) (os : List AV) (of : SF) (bs : List AV) (bf : SF) (m : Int) (xs : List AV) (f1 : SF) (n : Int) (k : KC) {c4 : _} (gc4 : c4 = ([(xs.getD n.toNat AV.junk).cells.getD 4 AV.junk, (xs.getD n.toNat AV.junk).cells.getD 5 AV.junk, (xs.getD n.toNat AV.junk).cells.getD 6 AV.junk, (xs.getD n.toNat AV.junk).cells.getD 7 AV.junk, (xs.getD n.toNat AV.junk).cells.getD 8 AV.junk, (xs.getD n.toNat AV.junk).cells.getD 9 AV.junk, (xs.getD n.toNat AV.junk).cells.getD 10 AV.junk, (xs.getD n.toNat AV.junk).cells.getD 11 AV.junk, (xs.getD n.toNat AV.junk).cells.getD 12 AV.junk, (xs.getD n.toNat AV.junk).cells.getD 13 AV.junk, (xs.getD n.toNat AV.junk).cells.getD 14 AV.junk, (xs.getD n.toNat AV.junk).cells.getD 15 AV.junk, (xs.getD n.toNat AV.junk).cells.getD 16 AV.junk].getD 0 AV.junk)) {c3 : _} (gc3 : c3 = ([(xs.getD n.toNat AV.junk).cells.getD 3 AV.junk, (xs.getD n.toNat AV.junk).cells.getD 4 AV.junk, (xs.getD n.toNat AV.junk).cells.getD 5 AV.junk, (xs.getD n.toNat AV.junk).cells.getD 6 AV.junk, (xs.getD n.toNat AV.junk).cells.getD 7 AV.junk, (xs.getD n.toNat AV.junk).cells.getD 8 AV.junk, (xs.getD n.toNat AV.junk).cells.getD 9 AV.junk, (xs.getD n.toNat AV.junk).cells.getD 10 AV.junk, (xs.getD n.toNat AV.junk).cells.getD 11 AV.junk, (xs.getD n.toNat AV.junk).cells.getD 12 AV.junk, (xs.getD n.toNat AV.junk).cells.getD 13 AV.junk, (xs.getD n.toNat AV.junk).cells.getD 14 AV.junk, (xs.getD n.toNat AV.junk).cells.getD 15 AV.junk, (xs.getD n.toNat AV.junk).cells.getD 16 AV.junk].getD 0 AV.junk)) {c1 : _} (gc1 : c1 = [AV.int IntKind.u8 t, AV.int IntKind.u16 i, AV.bool df, AV.bool mf, AV.int IntKind.i64 off, AV.int IntKind.u8 l, AV.int IntKind.u8 q, AV.int IntKind.u8 s0, AV.int IntKind.u8 s1, AV.int IntKind.u8 s2, AV.int IntKind.u8 s3, AV.int IntKind.u8 d0, AV.int IntKind.u8 d1, AV.int IntKind.u8 d2, AV.int IntKind.u8 d3, AV.fs 1 os of, AV.fs 1 bs bf]) {c2 : _} (gc2 : c2 = (aIf (decide (0 ≤ n)) (aIf (decide (n < (↑xs.length : Int))) (aIf ((xs.getD n.toNat AV.junk).cells.length == 17) (aIf (AV.isFs 1 ([(xs.getD n.toNat AV.junk).cells.getD 16 AV.junk].getD 0 AV.junk)) (aIf (([(xs.getD n.toNat AV.junk).cells.getD 16 AV.junk].getD 0 AV.junk).toFs.length == 0) (k AExit.normal [(1, AV.int IntKind.i64 m), (2, AV.ptr 0 0 0), (5, AV.fs 17 xs f1), (7, AV.fs 0 [] SF.nil), (8, AV.int IntKind.i64 (IntKind.i64.wrap (n + 1)))] [AO.cells 0 c1]) (aIf ((([(xs.getD n.toNat AV.junk).cells.getD 16 AV.junk].getD 0 AV.junk).toFs.length * 1).ble 140737488355328) (aIf ((List.flatMap AV.cells ([(xs.getD n.toNat AV.junk).cells.getD 16 AV.junk].getD 0 AV.junk).toFs).length == ([(xs.getD n.toNat AV.junk).cells.getD 16 AV.junk].getD 0 AV.junk).toFs.length * 1) (k AExit.normal [(1, AV.int IntKind.i64 m), (2, AV.ptr 0 0 0), (5, AV.fs 17 xs f1), (7, AV.sl 1 (([(xs.getD n.toNat AV.junk).cells.getD 16 AV.junk].getD 0 AV.junk).toFs.length * 1) 0 ([(xs.getD n.toNat AV.junk).cells.getD 16 AV.junk].getD 0 AV.junk).toFs.length 1), (8, AV.int IntKind.i64 (IntKind.i64.wrap (n + 1)))] [AO.cells 0 c1, AO.cells (([(xs.getD n.toNat AV.junk).cells.getD 16 AV.junk].getD 0 AV.junk).toFs.length * 1) (List.flatMap AV.cells ([(xs.getD n.toNat AV.junk).cells.getD 16 AV.junk].getD 0 AV.junk).toFs)]) none) none)) none) none) none) none)) {c5 : _} (gc5 : c5 = (aIf (decide (0 ≤ n)) (aIf (decide (n < (↑xs.length : Int))) (aIf ((xs.getD n.toNat AV.junk).cells.length == 17) (aIf c3.isBool (aIf (!c3.toBool) (k AExit.ret [(4, AV.bool false)] [AO.cells 0 c1]) (aIf (decide (0 ≤ n)) (aIf (decide (n < (↑xs.length : Int))) (aIf ((xs.getD n.toNat AV.junk).cells.length == 17) (aIf (AV.isFs 1 ([(xs.getD n.toNat AV.junk).cells.getD 16 AV.junk].getD 0 AV.junk)) (aIf ((↑([(xs.getD n.toNat AV.junk).cells.getD 16 AV.junk].getD 0 AV.junk).toFs.length : Int).tmod 8 != 0) (k AExit.ret [(4, AV.bool false)] [AO.cells 0 c1]) c2) none) none) none) none)) none) none) none) none)) {c0 : _} (gc0 : c0 = [(xs.getD n.toNat AV.junk).cells.getD 0 AV.junk, (xs.getD n.toNat AV.junk).cells.getD 1 AV.junk, (xs.getD n.toNat AV.junk).cells.getD 2 AV.junk, (xs.getD n.toNat AV.junk).cells.getD 3 AV.junk, (xs.getD n.toNat AV.junk).cells.getD 4 AV.junk, (xs.getD n.toNat AV.junk).cells.getD 5 AV.junk, (xs.getD n.toNat AV.junk).cells.getD 6 AV.junk, (xs.getD n.toNat AV.junk).cells.getD 7 AV.junk, (xs.getD n.toNat AV.junk).cells.getD 8 AV.junk, (xs.getD n.toNat AV.junk).cells.getD 9 AV.junk, (xs.getD n.toNat AV.junk).cells.getD 10 AV.junk, (xs.getD n.toNat AV.junk).cells.getD 11 AV.junk, (xs.getD n.toNat AV.junk).cells.getD 12 AV.junk, (xs.getD n.toNat AV.junk).cells.getD 13 AV.junk, (xs.getD n.toNat AV.junk).cells.getD 14 AV.junk, (xs.getD n.toNat AV.junk).cells.getD 15 AV.junk, (xs.getD n.toNat AV.junk).cells.getD 16 AV.junk]) :
  headedK C4 (loopB Try.f4 0) [(1, .int .i64 m), (2, .ptr 0 0 0), (5, .fs 17 xs f1), (7, .fs 0 [] .nil), (8, .int .i64 n)] [.cells 0 [.int .u8 t, .int .u16 i, .bool df, .bool mf, .int .i64 off, .int .u8 l, .int .u8 q, .int .u8 s0, .int .u8 s1, .int .u8 s2, .int .u8 s3, .int .u8 d0, .int .u8 d1, .int .u8 d2, .int .u8 d3, .fs 1 os of, .fs 1 bs bf]] k =
  aIf (decide (n < (↑xs.length : Int))) (aIf (decide (0 ≤ n)) (aIf (decide (n < (↑xs.length : Int))) (aIf ((xs.getD n.toNat AV.junk).cells.length == 17) (aIf ((c0.getD 0 AV.junk).isInt IntKind.u8) (aIf ((c0.getD 1 AV.junk).isInt IntKind.u16) (aIf (c0.getD 2 AV.junk).isBool (aIf (c0.getD 3 AV.junk).isBool (aIf ((c0.getD 4 AV.junk).isInt IntKind.i64) (aIf ((c0.getD 5 AV.junk).isInt IntKind.u8) (aIf ((c0.getD 6 AV.junk).isInt IntKind.u8) (aIf ((c0.getD 7 AV.junk).isInt IntKind.u8) (aIf ((c0.getD 8 AV.junk).isInt IntKind.u8) (aIf ((c0.getD 9 AV.junk).isInt IntKind.u8) (aIf ((c0.getD 10 AV.junk).isInt IntKind.u8) (aIf ((c0.getD 11 AV.junk).isInt IntKind.u8) (aIf ((c0.getD 12 AV.junk).isInt IntKind.u8) (aIf ((c0.getD 13 AV.junk).isInt IntKind.u8) (aIf ((c0.getD 14 AV.junk).isInt IntKind.u8) (aIf (AV.isFs 1 (c0.getD 15 AV.junk)) (aIf (AV.isFs 1 (c0.getD 16 AV.junk)) (aIf (intsB IntKind.u8 (c0.getD 15 AV.junk).toFs && decide ((c0.getD 15 AV.junk).toFs.length ≤ 100) && decide ((c0.getD 16 AV.junk).toFs.length ≤ 70000) && decide (-9223372036854775808 ≤ (c0.getD 4 AV.junk).toInt) && decide ((c0.getD 4 AV.junk).toInt ≤ 9223372036854775807)) (aIf (Pl.chk4E (c0.getD 4 AV.junk).toInt (c0.getD 15 AV.junk).toFs (c0.getD 16 AV.junk).toFs != 0) (aIf (Pl.chk4E (c0.getD 4 AV.junk).toInt (c0.getD 15 AV.junk).toFs (c0.getD 16 AV.junk).toFs != 0) (k AExit.ret [(4, AV.bool false)] [AO.cells 0 c1]) (aIf (decide (0 > m)) (k AExit.ret [(4, AV.bool false)] [AO.cells 0 c1]) (aIf (decide (0 ≤ n)) (aIf (decide (n < (↑xs.length : Int))) (aIf ((xs.getD n.toNat AV.junk).cells.length == 17) (aIf (c4.isInt IntKind.i64) (aIf (IntKind.i64.wrap (8 * IntKind.i64.wrap (c4.toInt - off)) != 0) (k AExit.ret [(4, AV.bool false)] [AO.cells 0 c1]) (aIf (decide (n < IntKind.i64.wrap ((↑xs.length : Int) - 1))) (aIf (decide (IntKind.i64.wrap (m - 0) ≥ 8)) (k AExit.ret [(4, AV.bool false)] [AO.cells 0 c1]) c5) c2)) none) none) none) none))) (aIf (decide (IntKind.i64.wrap (IntKind.i64.wrap (20 + (↑(c0.getD 15 AV.junk).toFs.length : Int)) + (↑(c0.getD 16 AV.junk).toFs.length : Int)) > m)) (k AExit.ret [(4, AV.bool false)] [AO.cells 0 c1]) (aIf (decide (0 ≤ n)) (aIf (decide (n < (↑xs.length : Int))) (aIf ((xs.getD n.toNat AV.junk).cells.length == 17) (aIf (c4.isInt IntKind.i64) (aIf (IntKind.i64.wrap (8 * IntKind.i64.wrap (c4.toInt - off)) != 0) (k AExit.ret [(4, AV.bool false)] [AO.cells 0 c1]) (aIf (decide (n < IntKind.i64.wrap ((↑xs.length : Int) - 1))) (aIf (decide (IntKind.i64.wrap (m - IntKind.i64.wrap (IntKind.i64.wrap (20 + (↑(c0.getD 15 AV.junk).toFs.length : Int)) + (↑(c0.getD 16 AV.junk).toFs.length : Int))) ≥ 8)) (k AExit.ret [(4, AV.bool false)] [AO.cells 0 c1]) c5) c2)) none) none) none) none))) none) none) none) none) none) none) none) none) none) none) none) none) none) none) none) none) none) none) none) none) none) (k (AExit.exit 0) [(1, AV.int IntKind.i64 m), (2, AV.ptr 0 0 0), (5, AV.fs 17 xs f1), (7, AV.fs 0 [] SF.nil), (8, AV.int IntKind.i64 n), (31, AV.bool (decide (n < (↑xs.length : Int))))] [AO.cells 0 c1]) := by subst gc0 gc5 gc2 gc1 gc3 gc4; kernel_rfl
theorem M4_7b (t i : Int) (df mf : Bool) (off l q s0 s1 s2 s3 d0 d1 d2 d3 : Int) (os : List AV) (of : SF) (bs : List AV) (bf : SF) (m : Int) (xs : List AV) (f1 : SF) (n : Int) (v z w : Nat) (cs : List AV) (k : KC) {c4 : _} (gc4 : c4 = ([(xs.getD n.toNat AV.junk).cells.getD 4 AV.junk, (xs.getD n.toNat AV.junk).cells.getD 5 AV.junk, (xs.getD n.toNat AV.junk).cells.getD 6 AV.junk, (xs.getD n.toNat AV.junk).cells.getD 7 AV.junk, (xs.getD n.toNat AV.junk).cells.getD 8 AV.junk, (xs.getD n.toNat AV.junk).cells.getD 9 AV.junk, (xs.getD n.toNat AV.junk).cells.getD 10 AV.junk, (xs.getD n.toNat AV.junk).cells.getD 11 AV.junk, (xs.getD n.toNat AV.junk).cells.getD 12 AV.junk, (xs.getD n.toNat AV.junk).cells.getD 13 AV.junk, (xs.getD n.toNat AV.junk).cells.getD 14 AV.junk, (xs.getD n.toNat AV.junk).cells.getD 15 AV.junk, (xs.getD n.toNat AV.junk).cells.getD 16 AV.junk].getD 0 AV.junk)) {c3 : _} (gc3 : c3 = ([(xs.getD n.toNat AV.junk).cells.getD 3 AV.junk, (xs.getD n.toNat AV.junk).cells.getD 4 AV.junk, (xs.getD n.toNat AV.junk).cells.getD 5 AV.junk, (xs.getD n.toNat AV.junk).cells.getD 6 AV.junk, (xs.getD n.toNat AV.junk).cells.getD 7 AV.junk, (xs.getD n.toNat AV.junk).cells.getD 8 AV.junk, (xs.getD n.toNat AV.junk).cells.getD 9 AV.junk, (xs.getD n.toNat AV.junk).cells.getD 10 AV.junk, (xs.getD n.toNat AV.junk).cells.getD 11 AV.junk, (xs.getD n.toNat AV.junk).cells.getD 12 AV.junk, (xs.getD n.toNat AV.junk).cells.getD 13 AV.junk, (xs.getD n.toNat AV.junk).cells.getD 14 AV.junk, (xs.getD n.toNat AV.junk).cells.getD 15 AV.junk, (xs.getD n.toNat AV.junk).cells.getD 16 AV.junk].getD 0 AV.junk)) {c1 : _} (gc1 : c1 = [AV.int IntKind.u8 t, AV.int IntKind.u16 i, AV.bool df, AV.bool mf, AV.int IntKind.i64 off, AV.int IntKind.u8 l, AV.int IntKind.u8 q, AV.int IntKind.u8 s0, AV.int IntKind.u8 s1, AV.int IntKind.u8 s2, AV.int IntKind.u8 s3, AV.int IntKind.u8 d0, AV.int IntKind.u8 d1, AV.int IntKind.u8 d2, AV.int IntKind.u8 d3, AV.fs 1 os of, AV.fs 1 bs bf]) {c5 : _} (gc5 : c5 = (k AExit.ret [(4, AV.bool false)] [AO.cells 0 c1, AO.cells w cs])) {c2 : _} (gc2 : c2 = (aIf (decide (0 ≤ n)) (aIf (decide (n < (↑xs.length : Int))) (aIf ((xs.getD n.toNat AV.junk).cells.length == 17) (aIf (AV.isFs 1 ([(xs.getD n.toNat AV.junk).cells.getD 16 AV.junk].getD 0 AV.junk)) (aIf (v == 0) none (aIf (w == v) (aIf (((z + ([(xs.getD n.toNat AV.junk).cells.getD 16 AV.junk].getD 0 AV.junk).toFs.length) * 1).ble 140737488355328) (aIf ((List.flatMap AV.cells ([(xs.getD n.toNat AV.junk).cells.getD 16 AV.junk].getD 0 AV.junk).toFs).length == ([(xs.getD n.toNat AV.junk).cells.getD 16 AV.junk].getD 0 AV.junk).toFs.length * 1) (k AExit.normal [(1, AV.int IntKind.i64 m), (2, AV.ptr 0 0 0), (5, AV.fs 17 xs f1), (7, AV.sl 1 (max v ((z + ([(xs.getD n.toNat AV.junk).cells.getD 16 AV.junk].getD 0 AV.junk).toFs.length) * 1)) 0 (z + ([(xs.getD n.toNat AV.junk).cells.getD 16 AV.junk].getD 0 AV.junk).toFs.length) 1), (8, AV.int IntKind.i64 (IntKind.i64.wrap (n + 1)))] [AO.cells 0 c1, AO.cells (max v ((z + ([(xs.getD n.toNat AV.junk).cells.getD 16 AV.junk].getD 0 AV.junk).toFs.length) * 1)) (List.take (z * 1) cs ++ List.flatMap AV.cells ([(xs.getD n.toNat AV.junk).cells.getD 16 AV.junk].getD 0 AV.junk).toFs ++ List.drop (z * 1 + ([(xs.getD n.toNat AV.junk).cells.getD 16 AV.junk].getD 0 AV.junk).toFs.length * 1) cs)]) none) none) none)) none) none) none) none)) {c6 : _} (gc6 : c6 = (aIf (decide (0 ≤ n)) (aIf (decide (n < (↑xs.length : Int))) (aIf ((xs.getD n.toNat AV.junk).cells.length == 17) (aIf c3.isBool (aIf (!c3.toBool) c5 (aIf (decide (0 ≤ n)) (aIf (decide (n < (↑xs.length : Int))) (aIf ((xs.getD n.toNat AV.junk).cells.length == 17) (aIf (AV.isFs 1 ([(xs.getD n.toNat AV.junk).cells.getD 16 AV.junk].getD 0 AV.junk)) (aIf ((↑([(xs.getD n.toNat AV.junk).cells.getD 16 AV.junk].getD 0 AV.junk).toFs.length : Int).tmod 8 != 0) c5 c2) none) none) none) none)) none) none) none) none)) {c0 : _} (gc0 : c0 = [(xs.getD n.toNat AV.junk).cells.getD 0 AV.junk, (xs.getD n.toNat AV.junk).cells.getD 1 AV.junk, (xs.getD n.toNat AV.junk).cells.getD 2 AV.junk, (xs.getD n.toNat AV.junk).cells.getD 3 AV.junk, (xs.getD n.toNat AV.junk).cells.getD 4 AV.junk, (xs.getD n.toNat AV.junk).cells.getD 5 AV.junk, (xs.getD n.toNat AV.junk).cells.getD 6 AV.junk, (xs.getD n.toNat AV.junk).cells.getD 7 AV.junk, (xs.getD n.toNat AV.junk).cells.getD 8 AV.junk, (xs.getD n.toNat AV.junk).cells.getD 9 AV.junk, (xs.getD n.toNat AV.junk).cells.getD 10 AV.junk, (xs.getD n.toNat AV.junk).cells.getD 11 AV.junk, (xs.getD n.toNat AV.junk).cells.getD 12 AV.junk, (xs.getD n.toNat AV.junk).cells.getD 13 AV.junk, (xs.getD n.toNat AV.junk).cells.getD 14 AV.junk, (xs.getD n.toNat AV.junk).cells.getD 15 AV.junk, (xs.getD n.toNat AV.junk).cells.getD 16 AV.junk]) :
  headedK C4 (loopB Try.f4 0) [(1, .int .i64 m), (2, .ptr 0 0 0), (5, .fs 17 xs f1), (7, .sl 1 v 0 z 1), (8, .int .i64 n)] [.cells 0 [.int .u8 t, .int .u16 i, .bool df, .bool mf, .int .i64 off, .int .u8 l, .int .u8 q, .int .u8 s0, .int .u8 s1, .int .u8 s2, .int .u8 s3, .int .u8 d0, .int .u8 d1, .int .u8 d2, .int .u8 d3, .fs 1 os of, .fs 1 bs bf], .cells w cs] k =
  aIf (decide (n < (↑xs.length : Int))) (aIf (decide (0 ≤ n)) (aIf (decide (n < (↑xs.length : Int))) (aIf ((xs.getD n.toNat AV.junk).cells.length == 17) (aIf ((c0.getD 0 AV.junk).isInt IntKind.u8) (aIf ((c0.getD 1 AV.junk).isInt IntKind.u16) (aIf (c0.getD 2 AV.junk).isBool (aIf (c0.getD 3 AV.junk).isBool (aIf ((c0.getD 4 AV.junk).isInt IntKind.i64) (aIf ((c0.getD 5 AV.junk).isInt IntKind.u8) (aIf ((c0.getD 6 AV.junk).isInt IntKind.u8) (aIf ((c0.getD 7 AV.junk).isInt IntKind.u8) (aIf ((c0.getD 8 AV.junk).isInt IntKind.u8) (aIf ((c0.getD 9 AV.junk).isInt IntKind.u8) (aIf ((c0.getD 10 AV.junk).isInt IntKind.u8) (aIf ((c0.getD 11 AV.junk).isInt IntKind.u8) (aIf ((c0.getD 12 AV.junk).isInt IntKind.u8) (aIf ((c0.getD 13 AV.junk).isInt IntKind.u8) (aIf ((c0.getD 14 AV.junk).isInt IntKind.u8) (aIf (AV.isFs 1 (c0.getD 15 AV.junk)) (aIf (AV.isFs 1 (c0.getD 16 AV.junk)) (aIf (intsB IntKind.u8 (c0.getD 15 AV.junk).toFs && decide ((c0.getD 15 AV.junk).toFs.length ≤ 100) && decide ((c0.getD 16 AV.junk).toFs.length ≤ 70000) && decide (-9223372036854775808 ≤ (c0.getD 4 AV.junk).toInt) && decide ((c0.getD 4 AV.junk).toInt ≤ 9223372036854775807)) (aIf (Pl.chk4E (c0.getD 4 AV.junk).toInt (c0.getD 15 AV.junk).toFs (c0.getD 16 AV.junk).toFs != 0) (aIf (Pl.chk4E (c0.getD 4 AV.junk).toInt (c0.getD 15 AV.junk).toFs (c0.getD 16 AV.junk).toFs != 0) c5 (aIf (decide (0 > m)) c5 (aIf (decide (0 ≤ n)) (aIf (decide (n < (↑xs.length : Int))) (aIf ((xs.getD n.toNat AV.junk).cells.length == 17) (aIf (c4.isInt IntKind.i64) (aIf (IntKind.i64.wrap (8 * IntKind.i64.wrap (c4.toInt - off)) != (↑z : Int)) c5 (aIf (decide (n < IntKind.i64.wrap ((↑xs.length : Int) - 1))) (aIf (decide (IntKind.i64.wrap (m - 0) ≥ 8)) c5 c6) c2)) none) none) none) none))) (aIf (decide (IntKind.i64.wrap (IntKind.i64.wrap (20 + (↑(c0.getD 15 AV.junk).toFs.length : Int)) + (↑(c0.getD 16 AV.junk).toFs.length : Int)) > m)) c5 (aIf (decide (0 ≤ n)) (aIf (decide (n < (↑xs.length : Int))) (aIf ((xs.getD n.toNat AV.junk).cells.length == 17) (aIf (c4.isInt IntKind.i64) (aIf (IntKind.i64.wrap (8 * IntKind.i64.wrap (c4.toInt - off)) != (↑z : Int)) c5 (aIf (decide (n < IntKind.i64.wrap ((↑xs.length : Int) - 1))) (aIf (decide (IntKind.i64.wrap (m - IntKind.i64.wrap (IntKind.i64.wrap (20 + (↑(c0.getD 15 AV.junk).toFs.length : Int)) + (↑(c0.getD 16 AV.junk).toFs.length : Int))) ≥ 8)) c5 c6) c2)) none) none) none) none))) none) none) none) none) none) none) none) none) none) none) none) none) none) none) none) none) none) none) none) none) none) (k (AExit.exit 0) [(1, AV.int IntKind.i64 m), (2, AV.ptr 0 0 0), (5, AV.fs 17 xs f1), (7, AV.sl 1 v 0 z 1), (8, AV.int IntKind.i64 n), (31, AV.bool (decide (n < (↑xs.length : Int))))] [AO.cells 0 c1, AO.cells w cs]) := by subst gc0 gc6 gc2 gc5 gc1 gc3 gc4; kernel_rfl
theorem L4_7_ok : LoopSum C4 (loopB Try.f4 0) L4_7 := LoopSum.of C4_ok L4_7_in (fun ts H => by
  unfold L4_7
  split
  · rename_i m xs f1 n t i df mf off l q s0 s1 s2 s3 d0 d1 d2 d3 os of bs bf
    rcases Bool.eq_false_or_eq_true (n == 0 && decide (68 ≤ m) && decide (m ≤ 65535) && decide (off ≤ 8191) && allG m off mf bs xs) with hp | hp
    · refine .inr ?_
      simp only [aIf_pos hp]
      simp only [Bool.and_eq_true, decide_eq_true_eq, beq_iff_eq] at hp
      obtain ⟨⟨⟨⟨rfl, hm0⟩, hm1⟩, ho8⟩, hall⟩ := hp
      obtain ⟨t1, i1, df1, l1, q1, sx0, sx1, sx2, sx3, dx0, dx1, dx2, dx3, L, hx, hLl, hA⟩ := allG_iff.1 hall
      obtain ⟨m, rfl⟩ := Int.eq_ofNat_of_zero_le (show 0 ≤ m by omega)
      rw [Int.toNat_natCast] at hA
      have hxl : xs.length = L.length := by rw [hx, frsE_len]
      have hbody : bodB L = bs := hA.1
      have key : ∀ j : Nat, j < L.length → ∀ k, headedK C4 (loopB Try.f4 0) [(1, .int .i64 (m : Int)), (2, .ptr 0 0 0), (5, .fs 17 xs f1), (7, slB1 (bodB (L.take j))), (8, .int .i64 (j : Int))] (.cells 0 [.int .u8 t, .int .u16 i, .bool df, .bool mf, .int .i64 off, .int .u8 l, .int .u8 q, .int .u8 s0, .int .u8 s1, .int .u8 s2, .int .u8 s3, .int .u8 d0, .int .u8 d1, .int .u8 d2, .int .u8 d3, .fs 1 os of, .fs 1 bs bf] :: hpB (bodB (L.take j))) k = k .normal [(1, .int .i64 (m : Int)), (2, .ptr 0 0 0), (5, .fs 17 xs f1), (7, slB1 (bodB (L.take (j + 1)))), (8, .int .i64 ((j + 1 : Nat) : Int))] (.cells 0 [.int .u8 t, .int .u16 i, .bool df, .bool mf, .int .i64 off, .int .u8 l, .int .u8 q, .int .u8 s0, .int .u8 s1, .int .u8 s2, .int .u8 s3, .int .u8 d0, .int .u8 d1, .int .u8 d2, .int .u8 d3, .fs 1 os of, .fs 1 bs bf] :: hpB (bodB (L.take (j + 1)))) := by
        intro j hj k
        obtain ⟨r, mr, gr, e1⟩ := frsE_get (h := hdr t1 i1 df1 l1 q1 sx0 sx1 sx2 sx3 dx0 dx1 dx2 dx3) hj
        rw [← hx] at e1
        obtain ⟨a1, a2, a3, a4, a5, a6, a7, a8, a9, a10⟩ := all_at hA gr
        obtain ⟨rm, ro, ⟨os1, f1o⟩, ⟨bs1, f1b⟩⟩ := r
        replace a1 : ro = off + (((bodB (L.take j)).length / 8 : Nat) : Int) := a1
        replace a4 : ro ≤ 8191 := a4
        replace a5 : os1.length ≤ 40 := a5
        replace a6 : os1.length % 4 = 0 := a6
        replace a7 : 20 + os1.length + bs1.length ≤ m := a7
        replace a9 : j + 1 < L.length → rm = true ∧ m < 20 + os1.length + bs1.length + 8 ∧ bs1.length % 8 = 0 := a9
        replace a10 : bodB (L.take (j + 1)) = bodB (L.take j) ++ bs1 := a10
        obtain ⟨hg1, hg2, hg3, hg4⟩ := goodFr_iff.1 a8
        replace hg1 : intsB .u8 os1 = true := hg1
        replace hg2 : intsB .u8 bs1 = true := hg2
        replace e1 : xs.getD j .junk = .agg [.int .u8 t1, .int .u16 i1, .bool df1, .bool rm, .int .i64 ro, .int .u8 l1, .int .u8 q1, .int .u8 sx0, .int .u8 sx1, .int .u8 sx2, .int .u8 sx3, .int .u8 dx0, .int .u8 dx1, .int .u8 dx2, .int .u8 dx3, .fs 1 os1 f1o, .fs 1 bs1 f1b] := e1
        have hn1 : IntKind.i64.wrap ((j : Int) + 1) = ((j + 1 : Nat) : Int) := by rw [i64_of (by omega) (by omega)]; omega
        have eL1 : IntKind.i64.wrap ((xs.length : Int) - 1) = ((L.length - 1 : Nat) : Int) := by rw [i64_of (by omega) (by omega)]; omega
        have hlt : decide ((j : Int) < (xs.length : Int)) = true := decide_eq_true (by omega)
        have h0 : decide ((0 : Int) ≤ (j : Int)) = true := decide_eq_true (by omega)
        have dg3 : decide (os1.length ≤ 100) = true := decide_eq_true (by omega)
        have dg4 : decide (bs1.length ≤ 70000) = true := decide_eq_true (by omega)
        have dr1 : decide (-9223372036854775808 ≤ ro) = true := decide_eq_true (by omega)
        have dr2 : decide (ro ≤ 9223372036854775807) = true := decide_eq_true (by omega)
        have hchk : chk4E ro os1 bs1 = 0 := chk_ok (by omega) a4 a5 a6 (by omega)
        have esz : IntKind.i64.wrap (IntKind.i64.wrap (20 + (os1.length : Int)) + (bs1.length : Int)) = ((20 + os1.length + bs1.length : Nat) : Int) := by rw [i64_of (n := 20 + (os1.length : Int)) (by omega) (by omega), i64_of (by omega) (by omega)]; omega
        have dsz : decide (((20 + os1.length + bs1.length : Nat) : Int) > (m : Int)) = false := decide_eq_false (by omega)
        have hbl : (bodB (L.take j)).length ≤ 70000 := by omega
        have eof : IntKind.i64.wrap (8 * IntKind.i64.wrap (ro - off)) = ((bodB (L.take j)).length : Int) := by rw [i64_of (n := ro - off) (by omega) (by omega), i64_of (by omega) (by omega)]; omega
        have hcl := ints_cells hg2
        have ii : ∀ k n, (AV.int k n).isInt k = true := fun k n => by cases k <;> rfl
        have ib : ∀ b, (AV.bool b).isBool = true := fun _ => rfl
        have tb : ∀ b, (AV.bool b).toBool = b := fun _ => rfl
        have fi : ∀ xs f, (AV.fs 1 xs f).isFs 1 = true := fun _ _ => rfl
        have ft : ∀ xs f, (AV.fs 1 xs f).toFs = xs := fun _ _ => rfl
        have ag : ∀ cs, (AV.agg cs).cells = cs := fun _ => rfl
        have g17 : (([.int .u8 t1, .int .u16 i1, .bool df1, .bool rm, .int .i64 ro, .int .u8 l1, .int .u8 q1, .int .u8 sx0, .int .u8 sx1, .int .u8 sx2, .int .u8 sx3, .int .u8 dx0, .int .u8 dx1, .int .u8 dx2, .int .u8 dx3, .fs 1 os1 f1o, .fs 1 bs1 f1b] : List AV).length == 17) = true := rfl
        have eMs : IntKind.i64.wrap ((m : Int) - ((20 + os1.length + bs1.length : Nat) : Int)) = ((m - (20 + os1.length + bs1.length) : Nat) : Int) := by rw [i64_of (by omega) (by omega)]; omega
        have e8 : (bs1.length : Int).tmod 8 = ((bs1.length % 8 : Nat) : Int) := by rw [Int.tmod_eq_emod_of_nonneg (by omega)]; simp
        have hlast : ∀ X Y : Res, (j + 1 < L.length → X = Y) → aIf (decide ((j : Int) < ((L.length - 1 : Nat) : Int))) X Y = Y := fun X Y h => by
          by_cases hl : j + 1 < L.length
          · rw [decide_eq_true (show (j : Int) < ((L.length - 1 : Nat) : Int) by omega), aIf_true]; exact h hl
          · rw [decide_eq_false (show ¬ (j : Int) < ((L.length - 1 : Nat) : Int) by omega), aIf_false]
        cases hn : isNil (bodB (L.take j)) with
        | true =>
          have hb0 := isNil_eq hn
          rw [hb0] at eof a10
          rw [hb0, a10]
          show headedK C4 (loopB Try.f4 0) [(1, .int .i64 (m : Int)), (2, .ptr 0 0 0), (5, .fs 17 xs f1), (7, .fs 0 [] .nil), (8, .int .i64 (j : Int))] [.cells 0 [.int .u8 t, .int .u16 i, .bool df, .bool mf, .int .i64 off, .int .u8 l, .int .u8 q, .int .u8 s0, .int .u8 s1, .int .u8 s2, .int .u8 s3, .int .u8 d0, .int .u8 d1, .int .u8 d2, .int .u8 d3, .fs 1 os of, .fs 1 bs bf]] k = _
          have eof0 : IntKind.i64.wrap (8 * IntKind.i64.wrap (ro - off)) = 0 := eof
          rw [M4_7a _ _ _ _ _ _ _ _ _ _ _ _ _ _ _ _ _ _ _ _ _ _ _ k rfl rfl rfl rfl rfl rfl]
          simp only [eMs, e8, hlt, h0, Int.toNat_natCast, e1, ag, List.getD_cons_zero, List.getD_cons_succ, ii, ib, tb, fi, ft, toInt_int, aIf_true, aIf_false, g17, hg1, dg3, dg4, dr1, dr2, hchk, bne_self_eq_false, esz, dsz, Bool.and_self, hn1, eL1, hcl, List.drop_zero, eof0]
          rw [hlast]
          rotate_left
          · intro h
            obtain ⟨p1, p2, p3⟩ := a9 h
            rw [p1, p3, decide_eq_false (show ¬ ((m - (20 + os1.length + bs1.length) : Nat) : Int) ≥ 8 by omega)]; rfl
          rw [List.nil_append]
          cases hz : isNil bs1 with
          | true => rw [isNil_eq hz]; rfl
          | false =>
            have z0 : (bs1.length == 0) = false := beq_eq_false_iff_ne.2 (fun h => by cases bs1 with | nil => cases hz | cons => simp at h)
            have z1 : bs1.length.ble 140737488355328 = true := by rw [Nat.ble_eq]; omega
            rw [slB1_ne hz, hpB_ne hz]
            simp only [z0, z1, Nat.mul_one, beq_self_eq_true, aIf_true, aIf_false]
        | false =>
          have k5 : ((bodB (L.take j)).length == 0) = false := beq_eq_false_iff_ne.2 (fun h => by
            have := List.eq_nil_of_length_eq_zero h
            rw [this] at hn; cases hn)
          have k6 : (((bodB (L.take j)).length + bs1.length) * 1).ble 140737488355328 = true := by rw [Nat.ble_eq]; omega
          have k8 : max (bodB (L.take j)).length (((bodB (L.take j)).length + bs1.length) * 1) = (bodB (L.take j)).length + bs1.length := by omega
          have k9 : (bs1.length == bs1.length * 1) = true := beq_iff_eq.2 (by omega)
          have hn2 : isNil (bodB (L.take j) ++ bs1) = false := by
            cases hq : bodB (L.take j) with
            | nil => rw [hq] at hn; cases hn
            | cons => rfl
          have tp : List.take ((bodB (L.take j)).length * 1) (bodB (L.take j)) ++ bs1 ++ List.drop ((bodB (L.take j)).length * 1 + bs1.length * 1) (bodB (L.take j)) = bodB (L.take j) ++ bs1 := take_put _
          rw [a10, slB1_ne hn, hpB_ne hn, slB1_ne hn2, hpB_ne hn2, M4_7b _ _ _ _ _ _ _ _ _ _ _ _ _ _ _ _ _ _ _ _ _ _ _ _ _ _ _ k rfl rfl rfl rfl rfl rfl rfl]
          simp only [eMs, e8, hlt, h0, Int.toNat_natCast, e1, ag, List.getD_cons_zero, List.getD_cons_succ, ii, ib, tb, fi, ft, toInt_int, aIf_true, aIf_false, g17, hg1, dg3, dg4, dr1, dr2, hchk, bne_self_eq_false, esz, dsz, Bool.and_self, hn1, eL1, hcl, List.drop_zero, eof, k5, k6, k8, k9, beq_self_eq_true, tp]
          rw [hlast]
          rotate_left
          · intro h
            obtain ⟨p1, p2, p3⟩ := a9 h
            rw [p1, p3, decide_eq_false (show ¬ ((m - (20 + os1.length + bs1.length) : Nat) : Int) ≥ 8 by omega)]; rfl
          rw [List.length_append]
      have hend : ∀ k, headedK C4 (loopB Try.f4 0) [(1, .int .i64 (m : Int)), (2, .ptr 0 0 0), (5, .fs 17 xs f1), (7, slB1 bs), (8, .int .i64 (L.length : Int))] (.cells 0 [.int .u8 t, .int .u16 i, .bool df, .bool mf, .int .i64 off, .int .u8 l, .int .u8 q, .int .u8 s0, .int .u8 s1, .int .u8 s2, .int .u8 s3, .int .u8 d0, .int .u8 d1, .int .u8 d2, .int .u8 d3, .fs 1 os of, .fs 1 bs bf] :: hpB bs) k = k (.exit 0) [(1, .int .i64 (m : Int)), (2, .ptr 0 0 0), (5, .fs 17 xs f1), (7, slB1 bs), (8, .int .i64 (L.length : Int)), (31, .bool false)] (.cells 0 [.int .u8 t, .int .u16 i, .bool df, .bool mf, .int .i64 off, .int .u8 l, .int .u8 q, .int .u8 s0, .int .u8 s1, .int .u8 s2, .int .u8 s3, .int .u8 d0, .int .u8 d1, .int .u8 d2, .int .u8 d3, .fs 1 os of, .fs 1 bs bf] :: hpB bs) := fun k => by
        have hge : decide ((L.length : Int) < (xs.length : Int)) = false := decide_eq_false (by omega)
        cases hn : isNil bs with
        | true =>
          have hb0 := isNil_eq hn
          subst hb0
          show headedK C4 (loopB Try.f4 0) [(1, .int .i64 (m : Int)), (2, .ptr 0 0 0), (5, .fs 17 xs f1), (7, .fs 0 [] .nil), (8, .int .i64 (L.length : Int))] [.cells 0 [.int .u8 t, .int .u16 i, .bool df, .bool mf, .int .i64 off, .int .u8 l, .int .u8 q, .int .u8 s0, .int .u8 s1, .int .u8 s2, .int .u8 s3, .int .u8 d0, .int .u8 d1, .int .u8 d2, .int .u8 d3, .fs 1 os of, .fs 1 [] bf]] k = _
          rw [M4_7a _ _ _ _ _ _ _ _ _ _ _ _ _ _ _ _ _ _ _ _ _ _ _ k rfl rfl rfl rfl rfl rfl, hge, aIf_false]
          rfl
        | false =>
          rw [slB1_ne hn, hpB_ne hn, M4_7b _ _ _ _ _ _ _ _ _ _ _ _ _ _ _ _ _ _ _ _ _ _ _ _ _ _ _ k rfl rfl rfl rfl rfl rfl rfl, hge, aIf_false]
      have htk : bodB (L.take L.length) = bs := by rw [List.take_length]; exact hbody
      obtain ⟨m', hm'⟩ := iter_fold (δ := Unit) (N := L.length) (F := headedK C4 (loopB Try.f4 0)) (ts := fun j _ => [(1, .int .i64 (m : Int)), (2, .ptr 0 0 0), (5, .fs 17 xs f1), (7, slB1 (bodB (L.take j))), (8, .int .i64 (j : Int))]) (H := fun j _ => .cells 0 [.int .u8 t, .int .u16 i, .bool df, .bool mf, .int .i64 off, .int .u8 l, .int .u8 q, .int .u8 s0, .int .u8 s1, .int .u8 s2, .int .u8 s3, .int .u8 d0, .int .u8 d1, .int .u8 d2, .int .u8 d3, .fs 1 os of, .fs 1 bs bf] :: hpB (bodB (L.take j))) (f := fun _ u => u) (I := fun _ _ => True) (ee := .exit 0) (te := fun _ => [(1, .int .i64 (m : Int)), (2, .ptr 0 0 0), (5, .fs 17 xs f1), (7, slB1 bs), (8, .int .i64 (L.length : Int)), (31, .bool false)]) (He := fun _ => .cells 0 [.int .u8 t, .int .u16 i, .bool df, .bool mf, .int .i64 off, .int .u8 l, .int .u8 q, .int .u8 s0, .int .u8 s1, .int .u8 s2, .int .u8 s3, .int .u8 d0, .int .u8 d1, .int .u8 d2, .int .u8 d3, .fs 1 os of, .fs 1 bs bf] :: hpB bs)
        (fun j d hj _ => ⟨trivial, fun k => key j hj k⟩)
        (fun d _ k => by rw [htk]; exact hend k) (by intro h; cases h) L.length 0 () (by omega) trivial
      refine ⟨m', fun k => ?_⟩
      refine Eq.trans ?_ (hm' k).symm
      rw [hxl]
      cases hn : isNil bs with
      | true =>
        have hb0 := isNil_eq hn
        subst hb0
        rfl
      | false => rw [slB1_ne hn, hpB_ne hn]; rfl
    · exact .inl fun k => by rw [aIf_neg hp]
  · exact .inl fun k => rfl)
theorem C4_loops : ∀ c, Try.f4.body = some c → LoopsOK C4 c := LoopsOK.of 1 (by kernel_rfl) (fun j hj S hS => by
  match j, hj with
  | 0, _ => rw [C4_l0] at hS; cases hS; exact L4_7_ok
  | n + 1, hj => omega)
noncomputable def S4 : FSpec := inlineK C4 Try.f4
theorem S4_ok : SpecOK Try.prog 4 S4 := inlineK_ok C4_ok Try.func4 C4_loops
theorem En4 : Enters Try.prog 4 := ⟨_, Try.func4, by decide, rfl⟩
end Go.Proofs.Ytohfnoepdbkkeaa
