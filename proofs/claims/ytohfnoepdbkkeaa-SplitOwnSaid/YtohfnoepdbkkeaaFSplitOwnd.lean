import Derived.Test.YtohfnoepdbkkeaaFSplitOwnc
namespace Go.Proofs.Ytohfnoepdbkkeaa
open Go.Abs Go.Pl

/-- ferryman/ferrymanref13.Split -/
noncomputable def T20 : List (FuncId × FSpec) := [(14, S14), (25, S25), (42, S42)]
theorem T20_ok : TabOK Try.prog T20 := TabOK.cons En14 S14_ok (TabOK.cons En25 S25_ok (TabOK.cons En42 S42_ok (TabOK.nil _)))
noncomputable def L20_12 : ATs → AH → KC → Res := fun ts H k => match ts, H with
  | [(1, .int .i64 m), (2, .ptr 0 0 0), (8, .fs 0 [] .nil), (9, .ptr 1 0 0)], [.cells 0 [y0, y1, y2, y3, y4, y5, y6, y7, y8, y9, y10, y11, y12, y13, y14, .fs 1 os of, y15], .cells 0 [.int .u8 t, .int .u16 i, .bool df, .bool mf, .int .i64 off, .int .u8 l, .int .u8 q, .int .u8 s0, .int .u8 s1, .int .u8 s2, .int .u8 s3, .int .u8 d0, .int .u8 d1, .int .u8 d2, .int .u8 d3, .fs 1 ps pf, .fs 1 bs bf]] => aIf (AV.closedL [y0, y1, y2, y3, y4, y5, y6, y7, y8, y9, y10, y11, y12, y13, y14, y15] && intsB .u8 os && decide (os.length ≤ 40) && decide (os.length % 4 = 0) && decide (ps.length ≤ 40) && decide (bs.length ≤ 70000) && decide (68 ≤ m) && decide (m ≤ 65535) && decide (0 ≤ off) && decide (off ≤ 8191) && decide (mostN m.toNat ps < bs.length)) (k (.exit 0) [(1, .int .i64 m), (2, .ptr 0 0 0), (8, .sl 3 (17 * (frZ2 m off os ps pf bs bf).2.2.length) 0 (frZ2 m off os ps pf bs bf).2.2.length 17), (9, .ptr 1 0 0), (39, .bool false)] [.cells 0 [y0, y1, y2, y3, y4, y5, y6, y7, y8, y9, y10, y11, y12, y13, y14, .fs 1 os of, y15], .cells 0 [.int .u8 t, .int .u16 i, .bool df, .bool mf, .int .i64 (off + (((frZ2 m off os ps pf bs bf).1 / 8 : Nat) : Int)), .int .u8 l, .int .u8 q, .int .u8 s0, .int .u8 s1, .int .u8 s2, .int .u8 s3, .int .u8 d0, .int .u8 d1, .int .u8 d2, .int .u8 d3, .fs 1 (frZ2 m off os ps pf bs bf).2.1.1 (frZ2 m off os ps pf bs bf).2.1.2, .fs 1 (bs.drop (frZ2 m off os ps pf bs bf).1) bf], .cells 0 (frC [.int .u8 t, .int .u16 i, .bool df, .int .u8 l, .int .u8 q, .int .u8 s0, .int .u8 s1, .int .u8 s2, .int .u8 s3, .int .u8 d0, .int .u8 d1, .int .u8 d2, .int .u8 d3] (frH (frZ2 m off os ps pf bs bf))), .cells (17 * (frZ2 m off os ps pf bs bf).2.2.length) (frsC [.int .u8 t, .int .u16 i, .bool df, .int .u8 l, .int .u8 q, .int .u8 s0, .int .u8 s1, .int .u8 s2, .int .u8 s3, .int .u8 d0, .int .u8 d1, .int .u8 d2, .int .u8 d3] (frZ2 m off os ps pf bs bf).2.2)]) none
  | _, _ => none
noncomputable def C20 : Ctx := (ctx E T20 [(12, L20_12)] [(0, [1, 2]), (1, [1, 2, 6, 7]), (2, [1, 2, 6, 7, 19]), (3, [4, 5]), (4, [1, 2, 21]), (5, [4, 5]), (6, [1, 2, 25]), (7, [4, 5]), (8, [1, 2, 34]), (9, [4, 5]), (10, [1, 2, 8]), (11, [1, 2, 8, 9]), (12, [1, 2, 8, 9, 39]), (13, [1, 2, 8, 9, 10]), (14, [1, 2, 8, 9, 10, 11]), (15, [1, 2, 8, 9, 10, 11]), (16, [1, 2, 8, 9, 10, 11]), (17, [1, 2, 8, 9, 10]), (18, [1, 2, 8, 9, 10]), (19, [1, 2, 8, 9]), (20, [1, 2, 8, 9]), (21, [8, 9, 76]), (22, [4, 5]), (23, [4, 5]), (1000012, [1, 2, 8, 9])] [] 81 70)
theorem C20_ok : CtxOK Try.prog C20 := ctx_ok E_ok E_flds mixed T20_ok
theorem C20_l0 : C20.loop (loopId (loopB Try.f20 0)) = some L20_12 := by kernel_rfl
theorem L20_12_in : LoopsOK C20 (loopB Try.f20 0) := LoopsOK.within 0 (by kernel_rfl) (fun j hj S hS => by
  omega)
theorem M20_12a (m : Int) (y0 y1 y2 y3 y4 y5 y6 y7 y8 y9 y10 y11 y12 y13 y14 y15 : AV) (os : List AV) (of : SF) (t i : Int) (df mf : Bool) (off l q s0 s1 s2 s3 d0 d1 d2 d3 : Int) (ps : List AV) (pf : SF) (bs : List AV) (bf : SF) (k : KC) : headedK C20 (loopB Try.f20 0) [(1, .int .i64 m), (2, .ptr 0 0 0), (8, .fs 0 [] .nil), (9, .ptr 1 0 0)] [.cells 0 [y0, y1, y2, y3, y4, y5, y6, y7, y8, y9, y10, y11, y12, y13, y14, .fs 1 os of, y15], .cells 0 [.int .u8 t, .int .u16 i, .bool df, .bool mf, .int .i64 off, .int .u8 l, .int .u8 q, .int .u8 s0, .int .u8 s1, .int .u8 s2, .int .u8 s3, .int .u8 d0, .int .u8 d1, .int .u8 d2, .int .u8 d3, .fs 1 ps pf, .fs 1 bs bf]] k =
  aIf (decide (IntKind.i64.wrap (IntKind.i64.wrap (20 + (↑ps.length : Int)) + (↑bs.length : Int)) > m)) (aIf (decide (0 ≤ IntKind.i64.wrap (IntKind.i64.wrap ((IntKind.i64.wrap (IntKind.i64.wrap (m - 20) - (↑ps.length : Int))).tdiv 8) * 8))) (aIf (decide (IntKind.i64.wrap (IntKind.i64.wrap ((IntKind.i64.wrap (IntKind.i64.wrap (m - 20) - (↑ps.length : Int))).tdiv 8) * 8) ≤ (↑bs.length : Int))) (aIf (decide (0 ≤ IntKind.i64.wrap (IntKind.i64.wrap ((IntKind.i64.wrap (IntKind.i64.wrap (m - 20) - (↑ps.length : Int))).tdiv 8) * 8))) (aIf (decide (IntKind.i64.wrap (IntKind.i64.wrap ((IntKind.i64.wrap (IntKind.i64.wrap (m - 20) - (↑ps.length : Int))).tdiv 8) * 8) ≤ (↑bs.length : Int))) (aIf (intsB IntKind.u8 os && decide (os.length ≤ 100000)) (k AExit.normal [(1, AV.int IntKind.i64 m), (2, AV.ptr 0 0 0), (8, AV.sl 3 17 0 1 17), (9, AV.ptr 1 0 0)] [AO.cells 0 [y0, y1, y2, y3, y4, y5, y6, y7, y8, y9, y10, y11, y12, y13, y14, AV.fs 1 os of, y15], AO.cells 0 [AV.int IntKind.u8 t, AV.int IntKind.u16 i, AV.bool df, AV.bool mf, AV.int IntKind.i64 (IntKind.i64.wrap (off + IntKind.i64.wrap ((IntKind.i64.wrap (IntKind.i64.wrap ((IntKind.i64.wrap (IntKind.i64.wrap (m - 20) - (↑ps.length : Int))).tdiv 8) * 8)).tdiv 8))), AV.int IntKind.u8 l, AV.int IntKind.u8 q, AV.int IntKind.u8 s0, AV.int IntKind.u8 s1, AV.int IntKind.u8 s2, AV.int IntKind.u8 s3, AV.int IntKind.u8 d0, AV.int IntKind.u8 d1, AV.int IntKind.u8 d2, AV.int IntKind.u8 d3, AV.fs 1 (Pl.copiedL os) (Pl.copFl os), AV.fs 1 (List.drop (IntKind.i64.wrap (IntKind.i64.wrap ((IntKind.i64.wrap (IntKind.i64.wrap (m - 20) - (↑ps.length : Int))).tdiv 8) * 8)).toNat (List.take bs.length bs)) bf], AO.cells 0 [AV.int IntKind.u8 t, AV.int IntKind.u16 i, AV.bool df, AV.bool true, AV.int IntKind.i64 off, AV.int IntKind.u8 l, AV.int IntKind.u8 q, AV.int IntKind.u8 s0, AV.int IntKind.u8 s1, AV.int IntKind.u8 s2, AV.int IntKind.u8 s3, AV.int IntKind.u8 d0, AV.int IntKind.u8 d1, AV.int IntKind.u8 d2, AV.int IntKind.u8 d3, AV.fs 1 ps pf, AV.fs 1 (List.drop 0 (List.take (IntKind.i64.wrap (IntKind.i64.wrap ((IntKind.i64.wrap (IntKind.i64.wrap (m - 20) - (↑ps.length : Int))).tdiv 8) * 8)).toNat bs)) bf], AO.cells 17 [AV.int IntKind.u8 t, AV.int IntKind.u16 i, AV.bool df, AV.bool true, AV.int IntKind.i64 off, AV.int IntKind.u8 l, AV.int IntKind.u8 q, AV.int IntKind.u8 s0, AV.int IntKind.u8 s1, AV.int IntKind.u8 s2, AV.int IntKind.u8 s3, AV.int IntKind.u8 d0, AV.int IntKind.u8 d1, AV.int IntKind.u8 d2, AV.int IntKind.u8 d3, AV.fs 1 ps pf, AV.fs 1 (List.drop 0 (List.take (IntKind.i64.wrap (IntKind.i64.wrap ((IntKind.i64.wrap (IntKind.i64.wrap (m - 20) - (↑ps.length : Int))).tdiv 8) * 8)).toNat bs)) bf]]) none) none) none) none) none) (k (AExit.exit 0) [(1, AV.int IntKind.i64 m), (2, AV.ptr 0 0 0), (8, AV.fs 0 [] SF.nil), (9, AV.ptr 1 0 0), (39, AV.bool (decide (IntKind.i64.wrap (IntKind.i64.wrap (20 + (↑ps.length : Int)) + (↑bs.length : Int)) > m)))] [AO.cells 0 [y0, y1, y2, y3, y4, y5, y6, y7, y8, y9, y10, y11, y12, y13, y14, AV.fs 1 os of, y15], AO.cells 0 [AV.int IntKind.u8 t, AV.int IntKind.u16 i, AV.bool df, AV.bool mf, AV.int IntKind.i64 off, AV.int IntKind.u8 l, AV.int IntKind.u8 q, AV.int IntKind.u8 s0, AV.int IntKind.u8 s1, AV.int IntKind.u8 s2, AV.int IntKind.u8 s3, AV.int IntKind.u8 d0, AV.int IntKind.u8 d1, AV.int IntKind.u8 d2, AV.int IntKind.u8 d3, AV.fs 1 ps pf, AV.fs 1 bs bf]]) := by kernel_rfl
theorem M20_12b (m : Int) (y0 y1 y2 y3 y4 y5 y6 y7 y8 y9 y10 y11 y12 y13 y14 y15 : AV) (os : List AV) (of : SF) (t i : Int) (df mf : Bool) (off l q s0 s1 s2 s3 d0 d1 d2 d3 : Int) (ps : List AV) (pf : SF) (bs : List AV) (bf : SF) (v z : Nat) (e1 : List AV) (w : Nat) (cs : List AV) (k : KC) : headedK C20 (loopB Try.f20 0) [(1, .int .i64 m), (2, .ptr 0 0 0), (8, .sl 3 v 0 z 17), (9, .ptr 1 0 0)] [.cells 0 [y0, y1, y2, y3, y4, y5, y6, y7, y8, y9, y10, y11, y12, y13, y14, .fs 1 os of, y15], .cells 0 [.int .u8 t, .int .u16 i, .bool df, .bool mf, .int .i64 off, .int .u8 l, .int .u8 q, .int .u8 s0, .int .u8 s1, .int .u8 s2, .int .u8 s3, .int .u8 d0, .int .u8 d1, .int .u8 d2, .int .u8 d3, .fs 1 ps pf, .fs 1 bs bf], .cells 0 e1, .cells w cs] k =
  aIf (decide (IntKind.i64.wrap (IntKind.i64.wrap (20 + (↑ps.length : Int)) + (↑bs.length : Int)) > m)) (aIf (decide (0 ≤ IntKind.i64.wrap (IntKind.i64.wrap ((IntKind.i64.wrap (IntKind.i64.wrap (m - 20) - (↑ps.length : Int))).tdiv 8) * 8))) (aIf (decide (IntKind.i64.wrap (IntKind.i64.wrap ((IntKind.i64.wrap (IntKind.i64.wrap (m - 20) - (↑ps.length : Int))).tdiv 8) * 8) ≤ (↑bs.length : Int))) (aIf (v == 0) none (aIf (w == v) (aIf (((z + 1) * 80).ble 140737488355328) (aIf (decide (0 ≤ IntKind.i64.wrap (IntKind.i64.wrap ((IntKind.i64.wrap (IntKind.i64.wrap (m - 20) - (↑ps.length : Int))).tdiv 8) * 8))) (aIf (decide (IntKind.i64.wrap (IntKind.i64.wrap ((IntKind.i64.wrap (IntKind.i64.wrap (m - 20) - (↑ps.length : Int))).tdiv 8) * 8) ≤ (↑bs.length : Int))) (aIf (intsB IntKind.u8 os && decide (os.length ≤ 100000)) (aIf (true && (AV.upto 4 y0 && (AV.upto 4 y1 && (AV.upto 4 y2 && (AV.upto 4 y3 && (AV.upto 4 y4 && (AV.upto 4 y5 && (AV.upto 4 y6 && (AV.upto 4 y7 && (AV.upto 4 y8 && (AV.upto 4 y9 && (AV.upto 4 y10 && (AV.upto 4 y11 && (AV.upto 4 y12 && (AV.upto 4 y13 && (AV.upto 4 y14 && (true && (AV.upto 4 y15 && true)))))))))))))))) && (true && (AV.uptoL 4 e1 && (AV.uptoL 4 (List.take (z * 17) cs ++ [AV.int IntKind.u8 t, AV.int IntKind.u16 i, AV.bool df, AV.bool true, AV.int IntKind.i64 off, AV.int IntKind.u8 l, AV.int IntKind.u8 q, AV.int IntKind.u8 s0, AV.int IntKind.u8 s1, AV.int IntKind.u8 s2, AV.int IntKind.u8 s3, AV.int IntKind.u8 d0, AV.int IntKind.u8 d1, AV.int IntKind.u8 d2, AV.int IntKind.u8 d3, AV.fs 1 ps pf, AV.fs 1 (List.drop 0 (List.take (IntKind.i64.wrap (IntKind.i64.wrap ((IntKind.i64.wrap (IntKind.i64.wrap (m - 20) - (↑ps.length : Int))).tdiv 8) * 8)).toNat bs)) bf] ++ List.drop (z * 17 + 17) cs) && true))))) (k AExit.normal [(1, AV.int IntKind.i64 m), (2, AV.ptr 0 0 0), (8, AV.sl 3 (max v ((z + 1) * 17)) 0 (z + 1) 17), (9, AV.ptr 1 0 0)] [AO.cells 0 [y0, y1, y2, y3, y4, y5, y6, y7, y8, y9, y10, y11, y12, y13, y14, AV.fs 1 os of, y15], AO.cells 0 [AV.int IntKind.u8 t, AV.int IntKind.u16 i, AV.bool df, AV.bool mf, AV.int IntKind.i64 (IntKind.i64.wrap (off + IntKind.i64.wrap ((IntKind.i64.wrap (IntKind.i64.wrap ((IntKind.i64.wrap (IntKind.i64.wrap (m - 20) - (↑ps.length : Int))).tdiv 8) * 8)).tdiv 8))), AV.int IntKind.u8 l, AV.int IntKind.u8 q, AV.int IntKind.u8 s0, AV.int IntKind.u8 s1, AV.int IntKind.u8 s2, AV.int IntKind.u8 s3, AV.int IntKind.u8 d0, AV.int IntKind.u8 d1, AV.int IntKind.u8 d2, AV.int IntKind.u8 d3, AV.fs 1 (Pl.copiedL os) (Pl.copFl os), AV.fs 1 (List.drop (IntKind.i64.wrap (IntKind.i64.wrap ((IntKind.i64.wrap (IntKind.i64.wrap (m - 20) - (↑ps.length : Int))).tdiv 8) * 8)).toNat (List.take bs.length bs)) bf], AO.cells 0 e1, AO.cells (max v ((z + 1) * 17)) (List.take (z * 17) cs ++ [AV.int IntKind.u8 t, AV.int IntKind.u16 i, AV.bool df, AV.bool true, AV.int IntKind.i64 off, AV.int IntKind.u8 l, AV.int IntKind.u8 q, AV.int IntKind.u8 s0, AV.int IntKind.u8 s1, AV.int IntKind.u8 s2, AV.int IntKind.u8 s3, AV.int IntKind.u8 d0, AV.int IntKind.u8 d1, AV.int IntKind.u8 d2, AV.int IntKind.u8 d3, AV.fs 1 ps pf, AV.fs 1 (List.drop 0 (List.take (IntKind.i64.wrap (IntKind.i64.wrap ((IntKind.i64.wrap (IntKind.i64.wrap (m - 20) - (↑ps.length : Int))).tdiv 8) * 8)).toNat bs)) bf] ++ List.drop (z * 17 + 17) cs)]) (k AExit.normal [(1, AV.int IntKind.i64 m), (2, AV.ptr 0 0 0), (8, AV.sl 3 (max v ((z + 1) * 17)) 0 (z + 1) 17), (9, AV.ptr 1 0 0)] [AO.cells 0 [y0, y1, y2, y3, y4, y5, y6, y7, y8, y9, y10, y11, y12, y13, y14, AV.fs 1 os of, y15], AO.cells 0 [AV.int IntKind.u8 t, AV.int IntKind.u16 i, AV.bool df, AV.bool mf, AV.int IntKind.i64 (IntKind.i64.wrap (off + IntKind.i64.wrap ((IntKind.i64.wrap (IntKind.i64.wrap ((IntKind.i64.wrap (IntKind.i64.wrap (m - 20) - (↑ps.length : Int))).tdiv 8) * 8)).tdiv 8))), AV.int IntKind.u8 l, AV.int IntKind.u8 q, AV.int IntKind.u8 s0, AV.int IntKind.u8 s1, AV.int IntKind.u8 s2, AV.int IntKind.u8 s3, AV.int IntKind.u8 d0, AV.int IntKind.u8 d1, AV.int IntKind.u8 d2, AV.int IntKind.u8 d3, AV.fs 1 (Pl.copiedL os) (Pl.copFl os), AV.fs 1 (List.drop (IntKind.i64.wrap (IntKind.i64.wrap ((IntKind.i64.wrap (IntKind.i64.wrap (m - 20) - (↑ps.length : Int))).tdiv 8) * 8)).toNat (List.take bs.length bs)) bf], AO.cells 0 e1, AO.cells (max v ((z + 1) * 17)) (List.take (z * 17) cs ++ [AV.int IntKind.u8 t, AV.int IntKind.u16 i, AV.bool df, AV.bool true, AV.int IntKind.i64 off, AV.int IntKind.u8 l, AV.int IntKind.u8 q, AV.int IntKind.u8 s0, AV.int IntKind.u8 s1, AV.int IntKind.u8 s2, AV.int IntKind.u8 s3, AV.int IntKind.u8 d0, AV.int IntKind.u8 d1, AV.int IntKind.u8 d2, AV.int IntKind.u8 d3, AV.fs 1 ps pf, AV.fs 1 (List.drop 0 (List.take (IntKind.i64.wrap (IntKind.i64.wrap ((IntKind.i64.wrap (IntKind.i64.wrap (m - 20) - (↑ps.length : Int))).tdiv 8) * 8)).toNat bs)) bf] ++ List.drop (z * 17 + 17) cs), AO.cells 0 [AV.int IntKind.u8 t, AV.int IntKind.u16 i, AV.bool df, AV.bool true, AV.int IntKind.i64 off, AV.int IntKind.u8 l, AV.int IntKind.u8 q, AV.int IntKind.u8 s0, AV.int IntKind.u8 s1, AV.int IntKind.u8 s2, AV.int IntKind.u8 s3, AV.int IntKind.u8 d0, AV.int IntKind.u8 d1, AV.int IntKind.u8 d2, AV.int IntKind.u8 d3, AV.fs 1 ps pf, AV.fs 1 (List.drop 0 (List.take (IntKind.i64.wrap (IntKind.i64.wrap ((IntKind.i64.wrap (IntKind.i64.wrap (m - 20) - (↑ps.length : Int))).tdiv 8) * 8)).toNat bs)) bf]])) none) none) none) none) none)) none) none) (k (AExit.exit 0) [(1, AV.int IntKind.i64 m), (2, AV.ptr 0 0 0), (8, AV.sl 3 v 0 z 17), (9, AV.ptr 1 0 0), (39, AV.bool (decide (IntKind.i64.wrap (IntKind.i64.wrap (20 + (↑ps.length : Int)) + (↑bs.length : Int)) > m)))] [AO.cells 0 [y0, y1, y2, y3, y4, y5, y6, y7, y8, y9, y10, y11, y12, y13, y14, AV.fs 1 os of, y15], AO.cells 0 [AV.int IntKind.u8 t, AV.int IntKind.u16 i, AV.bool df, AV.bool mf, AV.int IntKind.i64 off, AV.int IntKind.u8 l, AV.int IntKind.u8 q, AV.int IntKind.u8 s0, AV.int IntKind.u8 s1, AV.int IntKind.u8 s2, AV.int IntKind.u8 s3, AV.int IntKind.u8 d0, AV.int IntKind.u8 d1, AV.int IntKind.u8 d2, AV.int IntKind.u8 d3, AV.fs 1 ps pf, AV.fs 1 bs bf], AO.cells 0 e1, AO.cells w cs]) := by kernel_rfl
theorem L20_12_ok : LoopSum C20 (loopB Try.f20 0) L20_12 := LoopSum.of C20_ok L20_12_in (fun ts H => by
  unfold L20_12
  split
  · rename_i m y0 y1 y2 y3 y4 y5 y6 y7 y8 y9 y10 y11 y12 y13 y14 os of y15 t i df mf off l q s0 s1 s2 s3 d0 d1 d2 d3 ps pf bs bf
    rcases Bool.eq_false_or_eq_true (AV.closedL [y0, y1, y2, y3, y4, y5, y6, y7, y8, y9, y10, y11, y12, y13, y14, y15] && intsB .u8 os && decide (os.length ≤ 40) && decide (os.length % 4 = 0) && decide (ps.length ≤ 40) && decide (bs.length ≤ 70000) && decide (68 ≤ m) && decide (m ≤ 65535) && decide (0 ≤ off) && decide (off ≤ 8191) && decide (mostN m.toNat ps < bs.length)) with hp | hp
    · refine .inr ?_
      simp only [aIf_pos hp]
      simp only [Bool.and_eq_true, decide_eq_true_eq] at hp
      obtain ⟨⟨⟨⟨⟨⟨⟨⟨⟨⟨hy, hos⟩, hol⟩, ho4⟩, hpl0⟩, hbl⟩, hm0⟩, hm1⟩, hof0⟩, hof1⟩, hfirst⟩ := hp
      obtain ⟨m, rfl⟩ := Int.eq_ofNat_of_zero_le (show 0 ≤ m by omega)
      rw [Int.toNat_natCast] at hfirst
      simp only [AV.closedL, Bool.and_eq_true] at hy
      obtain ⟨cy0, cy1, cy2, cy3, cy4, cy5, cy6, cy7, cy8, cy9, cy10, cy11, cy12, cy13, cy14, cy15, _⟩ := hy
      have yu0 := fun n => closed_upto n cy0
      have yu1 := fun n => closed_upto n cy1
      have yu2 := fun n => closed_upto n cy2
      have yu3 := fun n => closed_upto n cy3
      have yu4 := fun n => closed_upto n cy4
      have yu5 := fun n => closed_upto n cy5
      have yu6 := fun n => closed_upto n cy6
      have yu7 := fun n => closed_upto n cy7
      have yu8 := fun n => closed_upto n cy8
      have yu9 := fun n => closed_upto n cy9
      have yu10 := fun n => closed_upto n cy10
      have yu11 := fun n => closed_upto n cy11
      have yu12 := fun n => closed_upto n cy12
      have yu13 := fun n => closed_upto n cy13
      have yu14 := fun n => closed_upto n cy14
      have yu15 := fun n => closed_upto n cy15
      have hcl := copiedL_len hos ho4
      generalize hH13 : ([.int .u8 t, .int .u16 i, .bool df, .int .u8 l, .int .u8 q, .int .u8 s0, .int .u8 s1, .int .u8 s2, .int .u8 s3, .int .u8 d0, .int .u8 d1, .int .u8 d2, .int .u8 d3] : List AV) = H13
      have hh : H13.length = 13 := by rw [← hH13]; rfl
      have u13 : ∀ k, AV.uptoL k H13 = true := fun _ => by rw [← hH13]; rfl
      have hM8 : ∀ qs : List AV, qs.length ≤ 40 → 8 ≤ mostN m qs ∧ mostN m qs ≤ 65535 := fun qs h => by unfold mostN; omega
      have hRM : ∀ qs : List AV, roomN m qs = mostN m qs / 8 * 8 := fun _ => rfl
      have key : ∀ s : Nat × (List AV × SF) × List Fr, (s.1 ≤ bs.length ∧ s.2.1.1.length ≤ 40 ∧ s.2.2.length ≤ s.1) → frG2 m bs s = true → ∀ k, headedK C20 (loopB Try.f20 0) [(1, .int .i64 (m : Int)), (2, .ptr 0 0 0), (8, outD2 s.2.2), (9, .ptr 1 0 0)] ([.cells 0 [y0, y1, y2, y3, y4, y5, y6, y7, y8, y9, y10, y11, y12, y13, y14, .fs 1 os of, y15], .cells 0 [.int .u8 t, .int .u16 i, .bool df, .bool mf, .int .i64 (off + ((s.1 / 8 : Nat) : Int)), .int .u8 l, .int .u8 q, .int .u8 s0, .int .u8 s1, .int .u8 s2, .int .u8 s3, .int .u8 d0, .int .u8 d1, .int .u8 d2, .int .u8 d3, .fs 1 s.2.1.1 s.2.1.2, .fs 1 (bs.drop s.1) bf]] ++ tailD2 H13 s.2.2) k = k .normal [(1, .int .i64 (m : Int)), (2, .ptr 0 0 0), (8, outD2 (frS2 m off (copiedL os) (copFl os) bs bf s).2.2), (9, .ptr 1 0 0)] ([.cells 0 [y0, y1, y2, y3, y4, y5, y6, y7, y8, y9, y10, y11, y12, y13, y14, .fs 1 os of, y15], .cells 0 [.int .u8 t, .int .u16 i, .bool df, .bool mf, .int .i64 (off + (((frS2 m off (copiedL os) (copFl os) bs bf s).1 / 8 : Nat) : Int)), .int .u8 l, .int .u8 q, .int .u8 s0, .int .u8 s1, .int .u8 s2, .int .u8 s3, .int .u8 d0, .int .u8 d1, .int .u8 d2, .int .u8 d3, .fs 1 (frS2 m off (copiedL os) (copFl os) bs bf s).2.1.1 (frS2 m off (copiedL os) (copFl os) bs bf s).2.1.2, .fs 1 (bs.drop (frS2 m off (copiedL os) (copFl os) bs bf s).1) bf]] ++ tailD2 H13 (frS2 m off (copiedL os) (copFl os) bs bf s).2.2) := by
        intro s hI hc k
        obtain ⟨n, ⟨ps, pf⟩, out⟩ := s
        obtain ⟨hI1, hpl, hI5⟩ := hI
        replace hI1 : n ≤ bs.length := hI1
        replace hpl : ps.length ≤ 40 := hpl
        replace hI5 : out.length ≤ n := hI5
        have hlt : mostN m ps < bs.length - n := of_decide_eq_true hc
        obtain ⟨hMg, hMl⟩ := hM8 ps hpl
        have hRe := hRM ps
        have hMe : mostN m ps = m - 20 - ps.length := rfl
        have hlr : (List.drop n bs).length = bs.length - n := List.length_drop
        have tk : List.take (bs.length - n) (List.drop n bs) = List.drop n bs := by rw [← hlr, List.take_length]
        have eS : IntKind.i64.wrap (IntKind.i64.wrap (20 + (ps.length : Int)) + ((bs.length - n : Nat) : Int)) = ((20 + ps.length + (bs.length - n) : Nat) : Int) := by rw [i64_of (n := 20 + (ps.length : Int)) (by omega) (by omega), i64_of (by omega) (by omega)]; omega
        have c0 : decide (((20 + ps.length + (bs.length - n) : Nat) : Int) > (m : Int)) = true := decide_eq_true (by omega)
        have eM : IntKind.i64.wrap (IntKind.i64.wrap ((m : Int) - 20) - (ps.length : Int)) = (mostN m ps : Int) := by rw [i64_of (n := (m : Int) - 20) (by omega) (by omega), i64_of (by omega) (by omega)]; omega
        have eD : (mostN m ps : Int).tdiv 8 = ((mostN m ps / 8 : Nat) : Int) := by rw [Int.tdiv_eq_ediv_of_nonneg (by omega)]; simp
        have eR : IntKind.i64.wrap (((mostN m ps / 8 : Nat) : Int) * 8) = (roomN m ps : Int) := by rw [i64_of (by omega) (by omega)]; omega
        have eD2 : IntKind.i64.wrap ((mostN m ps / 8 : Nat) : Int) = ((mostN m ps / 8 : Nat) : Int) := i64_of (by omega) (by omega)
        have eRt : (roomN m ps : Int).tdiv 8 = ((roomN m ps / 8 : Nat) : Int) := by rw [Int.tdiv_eq_ediv_of_nonneg (by omega)]; simp
        have eRw : IntKind.i64.wrap ((roomN m ps / 8 : Nat) : Int) = ((roomN m ps / 8 : Nat) : Int) := i64_of (by omega) (by omega)
        have eO : IntKind.i64.wrap (off + ((n / 8 : Nat) : Int) + ((roomN m ps / 8 : Nat) : Int)) = off + (((n + roomN m ps) / 8 : Nat) : Int) := by rw [i64_of (by omega) (by omega)]; omega
        have c2 : decide ((0 : Int) ≤ (roomN m ps : Int)) = true := decide_eq_true (by omega)
        have c3 : decide ((roomN m ps : Int) ≤ ((bs.length - n : Nat) : Int)) = true := decide_eq_true (by omega)
        have hdd : List.drop (roomN m ps) (List.drop n bs) = List.drop (n + roomN m ps) bs := by rw [List.drop_drop]
        have zo : decide (os.length ≤ 100000) = true := decide_eq_true (by omega)
        cases out with
        | nil =>
          show headedK C20 (loopB Try.f20 0) [(1, .int .i64 (m : Int)), (2, .ptr 0 0 0), (8, .fs 0 [] .nil), (9, .ptr 1 0 0)] [.cells 0 [y0, y1, y2, y3, y4, y5, y6, y7, y8, y9, y10, y11, y12, y13, y14, .fs 1 os of, y15], .cells 0 [.int .u8 t, .int .u16 i, .bool df, .bool mf, .int .i64 (off + ((n / 8 : Nat) : Int)), .int .u8 l, .int .u8 q, .int .u8 s0, .int .u8 s1, .int .u8 s2, .int .u8 s3, .int .u8 d0, .int .u8 d1, .int .u8 d2, .int .u8 d3, .fs 1 ps pf, .fs 1 (List.drop n bs) bf]] k = _
          rw [M20_12a]
          simp only [eS, eM, eD, eR, eD2, eRt, eRw, eO, tk, hdd, hlr, c0, c2, c3, hos, zo, Int.toNat_natCast, yu0, yu1, yu2, yu3, yu4, yu5, yu6, yu7, yu8, yu9, yu10, yu11, yu12, yu13, yu14, yu15, Bool.and_self, aIf_true, aIf_false, List.drop_zero]
          subst hH13
          rfl
        | cons a out =>
          show headedK C20 (loopB Try.f20 0) [(1, .int .i64 (m : Int)), (2, .ptr 0 0 0), (8, .sl 3 (17 * (a :: out).length) 0 (a :: out).length 17), (9, .ptr 1 0 0)] [.cells 0 [y0, y1, y2, y3, y4, y5, y6, y7, y8, y9, y10, y11, y12, y13, y14, .fs 1 os of, y15], .cells 0 [.int .u8 t, .int .u16 i, .bool df, .bool mf, .int .i64 (off + ((n / 8 : Nat) : Int)), .int .u8 l, .int .u8 q, .int .u8 s0, .int .u8 s1, .int .u8 s2, .int .u8 s3, .int .u8 d0, .int .u8 d1, .int .u8 d2, .int .u8 d3, .fs 1 ps pf, .fs 1 (List.drop n bs) bf], .cells 0 (frC H13 a), .cells (17 * (a :: out).length) (frsC H13 (a :: out))] k = _
          have hfr : frC H13 (true, off + ((n / 8 : Nat) : Int), (ps, pf), (List.take (roomN m ps) (List.drop n bs), bf)) = [.int .u8 t, .int .u16 i, .bool df, .bool true, .int .i64 (off + ((n / 8 : Nat) : Int)), .int .u8 l, .int .u8 q, .int .u8 s0, .int .u8 s1, .int .u8 s2, .int .u8 s3, .int .u8 d0, .int .u8 d1, .int .u8 d2, .int .u8 d3, .fs 1 ps pf, .fs 1 (List.take (roomN m ps) (List.drop n bs)) bf] := by rw [← hH13]; rfl
          have hput := frsC_put hh (a :: out) (true, off + ((n / 8 : Nat) : Int), (ps, pf), (List.take (roomN m ps) (List.drop n bs), bf))
          rw [hfr] at hput
          have hlen : (a :: out ++ [((true, off + ((n / 8 : Nat) : Int), (ps, pf), (List.take (roomN m ps) (List.drop n bs), bf)) : Fr)]).length = (a :: out).length + 1 := by rw [List.length_append]; rfl
          have hk0 : (17 * (a :: out).length == 0) = false := beq_eq_false_iff_ne.2 (by rw [List.length_cons]; omega)
          have hble : (((a :: out).length + 1) * 80).ble 140737488355328 = true := by rw [Nat.ble_eq]; omega
          have hmx : max (17 * (a :: out).length) (((a :: out).length + 1) * 17) = 17 * ((a :: out).length + 1) := by omega
          have hua := frC_upto (u13 4) a
          have huo := frsC_upto (u13 4) (a :: out ++ [((true, off + ((n / 8 : Nat) : Int), (ps, pf), (List.take (roomN m ps) (List.drop n bs), bf)) : Fr)])
          rw [M20_12b]
          simp only [eS, eM, eD, eR, eD2, eRt, eRw, eO, tk, hdd, hlr, c0, c2, c3, hos, zo, Int.toNat_natCast, yu0, yu1, yu2, yu3, yu4, yu5, yu6, yu7, yu8, yu9, yu10, yu11, yu12, yu13, yu14, yu15, Bool.and_self, aIf_true, aIf_false, List.drop_zero, hput, hk0, hble, hmx, hua, huo, beq_self_eq_true]
          show _ = k .normal [_, _, (8, .sl 3 (17 * (a :: out ++ [((true, off + ((n / 8 : Nat) : Int), (ps, pf), (List.take (roomN m ps) (List.drop n bs), bf)) : Fr)]).length) 0 (a :: out ++ [((true, off + ((n / 8 : Nat) : Int), (ps, pf), (List.take (roomN m ps) (List.drop n bs), bf)) : Fr)]).length 17), _] [_, _, .cells 0 (frC H13 a), .cells (17 * (a :: out ++ [((true, off + ((n / 8 : Nat) : Int), (ps, pf), (List.take (roomN m ps) (List.drop n bs), bf)) : Fr)]).length) (frsC H13 (a :: out ++ [((true, off + ((n / 8 : Nat) : Int), (ps, pf), (List.take (roomN m ps) (List.drop n bs), bf)) : Fr)]))]
          rw [hlen]
          rfl
      have stop : ∀ s : Nat × (List AV × SF) × List Fr, (s.1 ≤ bs.length ∧ s.2.1.1.length ≤ 40 ∧ s.2.2.length ≤ s.1) → s.2.2 ≠ [] → frG2 m bs s = false → ∀ k, headedK C20 (loopB Try.f20 0) [(1, .int .i64 (m : Int)), (2, .ptr 0 0 0), (8, outD2 s.2.2), (9, .ptr 1 0 0)] ([.cells 0 [y0, y1, y2, y3, y4, y5, y6, y7, y8, y9, y10, y11, y12, y13, y14, .fs 1 os of, y15], .cells 0 [.int .u8 t, .int .u16 i, .bool df, .bool mf, .int .i64 (off + ((s.1 / 8 : Nat) : Int)), .int .u8 l, .int .u8 q, .int .u8 s0, .int .u8 s1, .int .u8 s2, .int .u8 s3, .int .u8 d0, .int .u8 d1, .int .u8 d2, .int .u8 d3, .fs 1 s.2.1.1 s.2.1.2, .fs 1 (bs.drop s.1) bf]] ++ tailD2 H13 s.2.2) k = k (.exit 0) [(1, .int .i64 (m : Int)), (2, .ptr 0 0 0), (8, .sl 3 (17 * s.2.2.length) 0 s.2.2.length 17), (9, .ptr 1 0 0), (39, .bool false)] [.cells 0 [y0, y1, y2, y3, y4, y5, y6, y7, y8, y9, y10, y11, y12, y13, y14, .fs 1 os of, y15], .cells 0 [.int .u8 t, .int .u16 i, .bool df, .bool mf, .int .i64 (off + ((s.1 / 8 : Nat) : Int)), .int .u8 l, .int .u8 q, .int .u8 s0, .int .u8 s1, .int .u8 s2, .int .u8 s3, .int .u8 d0, .int .u8 d1, .int .u8 d2, .int .u8 d3, .fs 1 s.2.1.1 s.2.1.2, .fs 1 (bs.drop s.1) bf], .cells 0 (frC H13 (frH s)), .cells (17 * s.2.2.length) (frsC H13 s.2.2)] := by
        intro s hI hne hc k
        obtain ⟨n, ⟨ps, pf⟩, out⟩ := s
        obtain ⟨hI1, hpl, hI5⟩ := hI
        replace hI1 : n ≤ bs.length := hI1
        replace hpl : ps.length ≤ 40 := hpl
        have hge : ¬ mostN m ps < bs.length - n := of_decide_eq_false hc
        have hMe : mostN m ps = m - 20 - ps.length := rfl
        have hlr : (List.drop n bs).length = bs.length - n := List.length_drop
        have tk : List.take (bs.length - n) (List.drop n bs) = List.drop n bs := by rw [← hlr, List.take_length]
        have eS : IntKind.i64.wrap (IntKind.i64.wrap (20 + (ps.length : Int)) + ((bs.length - n : Nat) : Int)) = ((20 + ps.length + (bs.length - n) : Nat) : Int) := by rw [i64_of (n := 20 + (ps.length : Int)) (by omega) (by omega), i64_of (by omega) (by omega)]; omega
        have c0 : decide (((20 + ps.length + (bs.length - n) : Nat) : Int) > (m : Int)) = false := decide_eq_false (by omega)
        cases out with
        | nil => exact absurd rfl hne
        | cons a out =>
          show headedK C20 (loopB Try.f20 0) [(1, .int .i64 (m : Int)), (2, .ptr 0 0 0), (8, .sl 3 (17 * (a :: out).length) 0 (a :: out).length 17), (9, .ptr 1 0 0)] [.cells 0 [y0, y1, y2, y3, y4, y5, y6, y7, y8, y9, y10, y11, y12, y13, y14, .fs 1 os of, y15], .cells 0 [.int .u8 t, .int .u16 i, .bool df, .bool mf, .int .i64 (off + ((n / 8 : Nat) : Int)), .int .u8 l, .int .u8 q, .int .u8 s0, .int .u8 s1, .int .u8 s2, .int .u8 s3, .int .u8 d0, .int .u8 d1, .int .u8 d2, .int .u8 d3, .fs 1 ps pf, .fs 1 (List.drop n bs) bf], .cells 0 (frC H13 a), .cells (17 * (a :: out).length) (frsC H13 (a :: out))] k = _
          rw [M20_12b]
          simp only [hlr, eS, c0, aIf_false]
          rfl
      have hAll : ∀ s : Nat × (List AV × SF) × List Fr, ((s.1 ≤ bs.length ∧ s.2.1.1.length ≤ 40 ∧ s.2.2.length ≤ s.1) ∧ (s.2.2 = [] → frG2 m bs s = true)) → frG2 m bs s = false → AExit.exit 0 ≠ .normal ∧ ∀ k, headedK C20 (loopB Try.f20 0) [(1, .int .i64 (m : Int)), (2, .ptr 0 0 0), (8, outD2 s.2.2), (9, .ptr 1 0 0)] ([.cells 0 [y0, y1, y2, y3, y4, y5, y6, y7, y8, y9, y10, y11, y12, y13, y14, .fs 1 os of, y15], .cells 0 [.int .u8 t, .int .u16 i, .bool df, .bool mf, .int .i64 (off + ((s.1 / 8 : Nat) : Int)), .int .u8 l, .int .u8 q, .int .u8 s0, .int .u8 s1, .int .u8 s2, .int .u8 s3, .int .u8 d0, .int .u8 d1, .int .u8 d2, .int .u8 d3, .fs 1 s.2.1.1 s.2.1.2, .fs 1 (bs.drop s.1) bf]] ++ tailD2 H13 s.2.2) k = k (.exit 0) [(1, .int .i64 (m : Int)), (2, .ptr 0 0 0), (8, .sl 3 (17 * s.2.2.length) 0 s.2.2.length 17), (9, .ptr 1 0 0), (39, .bool false)] [.cells 0 [y0, y1, y2, y3, y4, y5, y6, y7, y8, y9, y10, y11, y12, y13, y14, .fs 1 os of, y15], .cells 0 [.int .u8 t, .int .u16 i, .bool df, .bool mf, .int .i64 (off + ((s.1 / 8 : Nat) : Int)), .int .u8 l, .int .u8 q, .int .u8 s0, .int .u8 s1, .int .u8 s2, .int .u8 s3, .int .u8 d0, .int .u8 d1, .int .u8 d2, .int .u8 d3, .fs 1 s.2.1.1 s.2.1.2, .fs 1 (bs.drop s.1) bf], .cells 0 (frC H13 (frH s)), .cells (17 * s.2.2.length) (frsC H13 s.2.2)] := fun s hI hc => by
        have hne : s.2.2 ≠ [] := fun h => Bool.noConfusion ((hI.2 h).symm.trans hc)
        have h3 := stop s hI.1 hne hc
        exact ⟨(by intro h; cases h), h3⟩
      obtain ⟨m', hm'⟩ := iter_while (σ := Nat × (List AV × SF) × List Fr) (F := headedK C20 (loopB Try.f20 0)) (ts := fun s => [(1, .int .i64 (m : Int)), (2, .ptr 0 0 0), (8, outD2 s.2.2), (9, .ptr 1 0 0)]) (H := fun s => [.cells 0 [y0, y1, y2, y3, y4, y5, y6, y7, y8, y9, y10, y11, y12, y13, y14, .fs 1 os of, y15], .cells 0 [.int .u8 t, .int .u16 i, .bool df, .bool mf, .int .i64 (off + ((s.1 / 8 : Nat) : Int)), .int .u8 l, .int .u8 q, .int .u8 s0, .int .u8 s1, .int .u8 s2, .int .u8 s3, .int .u8 d0, .int .u8 d1, .int .u8 d2, .int .u8 d3, .fs 1 s.2.1.1 s.2.1.2, .fs 1 (bs.drop s.1) bf]] ++ tailD2 H13 s.2.2) (c := frG2 m bs) (f := frS2 m off (copiedL os) (copFl os) bs bf)
        (I := fun s => (s.1 ≤ bs.length ∧ s.2.1.1.length ≤ 40 ∧ s.2.2.length ≤ s.1) ∧ (s.2.2 = [] → frG2 m bs s = true)) (μ := fun s => bs.length - s.1) (ee := fun _ => .exit 0) (te := fun s => [(1, .int .i64 (m : Int)), (2, .ptr 0 0 0), (8, .sl 3 (17 * s.2.2.length) 0 s.2.2.length 17), (9, .ptr 1 0 0), (39, .bool false)]) (He := fun s => [.cells 0 [y0, y1, y2, y3, y4, y5, y6, y7, y8, y9, y10, y11, y12, y13, y14, .fs 1 os of, y15], .cells 0 [.int .u8 t, .int .u16 i, .bool df, .bool mf, .int .i64 (off + ((s.1 / 8 : Nat) : Int)), .int .u8 l, .int .u8 q, .int .u8 s0, .int .u8 s1, .int .u8 s2, .int .u8 s3, .int .u8 d0, .int .u8 d1, .int .u8 d2, .int .u8 d3, .fs 1 s.2.1.1 s.2.1.2, .fs 1 (bs.drop s.1) bf], .cells 0 (frC H13 (frH s)), .cells (17 * s.2.2.length) (frsC H13 s.2.2)])
        (fun s hI hc => by
          have h1 : mostN m s.2.1.1 < bs.length - s.1 := of_decide_eq_true hc
          have h2 := (hM8 s.2.1.1 hI.1.2.1).1
          have h3 := hRM s.2.1.1
          have e1 : (frS2 m off (copiedL os) (copFl os) bs bf s).1 = s.1 + roomN m s.2.1.1 := rfl
          have e2 : (frS2 m off (copiedL os) (copFl os) bs bf s).2.2.length = s.2.2.length + 1 := by unfold frS2; rw [List.length_append]; rfl
          refine ⟨⟨⟨by omega, by show (copiedL os).length ≤ 40; omega, by have := hI.1.2.2; omega⟩, fun h => ?_⟩, by show bs.length - (frS2 m off (copiedL os) (copFl os) bs bf s).1 < bs.length - s.1; omega, key s hI.1 hc⟩
          rw [h] at e2; simp at e2)
        hAll bs.length (0, (ps, pf), []) (by omega)
        ⟨⟨Nat.zero_le _, hpl0, Nat.le_refl _⟩, fun _ => by
          show decide (mostN m ps < bs.length - 0) = true
          exact decide_eq_true (by omega)⟩
      refine ⟨m', fun k => ?_⟩
      have h9 := hm' k
      have hZ : frZ2 (m : Int) off os ps pf bs bf = whileF (frG2 m bs) (frS2 m off (copiedL os) (copFl os) bs bf) bs.length (0, (ps, pf), []) := rfl
      rw [hZ]
      have ez : off + (((0 : Nat) / 8 : Nat) : Int) = off := by omega
      rw [show ((0, (ps, pf), ([] : List Fr)) : Nat × (List AV × SF) × List Fr).1 = 0 from rfl, ez] at h9
      exact h9.symm
    · exact .inl fun k => by rw [aIf_neg hp]
  · exact .inl fun k => rfl)
theorem C20_loops : ∀ c, Try.f20.body = some c → LoopsOK C20 c := LoopsOK.of 1 (by kernel_rfl) (fun j hj S hS => by
  match j, hj with
  | 0, _ => rw [C20_l0] at hS; cases hS; exact L20_12_ok
  | n + 1, hj => omega)
noncomputable def B20 : FSpec := inlineK C20 Try.f20
noncomputable def S20 : FSpec := fun args H k => match args, H with
  | [.agg [.int .u8 t, .int .u16 i, .bool df, .bool mf, .int .i64 off, .int .u8 l, .int .u8 q, .int .u8 s0, .int .u8 s1, .int .u8 s2, .int .u8 s3, .int .u8 d0, .int .u8 d1, .int .u8 d2, .int .u8 d3, .fs 1 os of, .fs 1 bs bf], .int .i64 m], [] => aIf (intsB .u8 os && decide (os.length ≤ 100) && decide (bs.length ≤ 70000) && decide (-9223372036854775808 ≤ off) && decide (off ≤ 9223372036854775807) && decide (-9223372036854775808 ≤ m) && decide (m ≤ 9223372036854775807) && intsB .u8 bs && okF os of && okF bs bf) (k (.ret (.tup [.fs 17 (frsE [.int .u8 t, .int .u16 i, .bool df, .int .u8 l, .int .u8 q, .int .u8 s0, .int .u8 s1, .int .u8 s2, .int .u8 s3, .int .u8 d0, .int .u8 d1, .int .u8 d2, .int .u8 d3] (sp2L df mf off os of bs bf m)) (sp2F df mf off os of bs bf m), .int .i64 (sp2E df mf off os of bs bf m)])) []) none
  | _, _ => none
theorem B20_ok : SpecOK Try.prog 20 B20 := inlineK_ok C20_ok Try.func20 C20_loops
theorem N20 (t i : Int) (df mf : Bool) (off l q s0 s1 s2 s3 d0 d1 d2 d3 : Int) (os : List AV) (of : SF) (bs : List AV) (bf : SF) (m : Int) (k : KE) : B20 [.agg [.int .u8 t, .int .u16 i, .bool df, .bool mf, .int .i64 off, .int .u8 l, .int .u8 q, .int .u8 s0, .int .u8 s1, .int .u8 s2, .int .u8 s3, .int .u8 d0, .int .u8 d1, .int .u8 d2, .int .u8 d3, .fs 1 os of, .fs 1 bs bf], .int .i64 m] [] k =
  aIf (intsB IntKind.u8 os && decide (os.length ≤ 100) && decide (bs.length ≤ 70000) && decide (-9223372036854775808 ≤ off) && decide (off ≤ 9223372036854775807) && decide (-9223372036854775808 ≤ m) && decide (m ≤ 9223372036854775807)) (aIf (Pl.ask4E off os bs m != 0) (k (AEnd.ret (AV.tup [AV.fs 17 [] SF.nil, AV.int IntKind.i64 (Pl.ask4E off os bs m)])) []) (aIf (Pl.fit4B off os bs m) (k (AEnd.ret (AV.tup [AV.fs 17 [AV.agg [AV.int IntKind.u8 t, AV.int IntKind.u16 i, AV.bool df, AV.bool mf, AV.int IntKind.i64 off, AV.int IntKind.u8 l, AV.int IntKind.u8 q, AV.int IntKind.u8 s0, AV.int IntKind.u8 s1, AV.int IntKind.u8 s2, AV.int IntKind.u8 s3, AV.int IntKind.u8 d0, AV.int IntKind.u8 d1, AV.int IntKind.u8 d2, AV.int IntKind.u8 d3, AV.fs 1 os of, AV.fs 1 bs bf]] SF.any, AV.int IntKind.i64 0])) []) (aIf df (k (AEnd.ret (AV.tup [AV.fs 17 [] SF.nil, AV.int IntKind.i64 130])) []) (aIf mf (aIf ((↑bs.length : Int).tmod 8 != 0) (k (AEnd.ret (AV.tup [AV.fs 17 [] SF.nil, AV.int IntKind.i64 1])) []) (aIf (true && intsB IntKind.u8 os && decide (os.length ≤ 40) && decide (os.length % 4 = 0) && decide (os.length ≤ 40) && decide (bs.length ≤ 70000) && decide (68 ≤ m) && decide (m ≤ 65535) && decide (0 ≤ off) && decide (off ≤ 8191) && decide (Pl.mostN m.toNat os < bs.length)) (aIf (decide (off + (↑((Pl.frZ2 m off os os of bs bf).fst / 8) : Int) > 8191)) (k (AEnd.ret (AV.tup [AV.fs 17 [] SF.nil, AV.int IntKind.i64 5])) []) (aIf (17 * (Pl.frZ2 m off os os of bs bf).snd.snd.length == 0) none (aIf (17 * (Pl.frZ2 m off os os of bs bf).snd.snd.length == 17 * (Pl.frZ2 m off os os of bs bf).snd.snd.length) (aIf ((((Pl.frZ2 m off os os of bs bf).snd.snd.length + 1) * 80).ble 140737488355328) (aIf (max (17 * (Pl.frZ2 m off os os of bs bf).snd.snd.length) (((Pl.frZ2 m off os os of bs bf).snd.snd.length + 1) * 17) == max (17 * (Pl.frZ2 m off os os of bs bf).snd.snd.length) (((Pl.frZ2 m off os os of bs bf).snd.snd.length + 1) * 17)) (aIf (decide (0 + ((Pl.frZ2 m off os os of bs bf).snd.snd.length + 1) * 17 ≤ (List.take ((Pl.frZ2 m off os os of bs bf).snd.snd.length * 17) (Pl.frsC [AV.int IntKind.u8 t, AV.int IntKind.u16 i, AV.bool df, AV.int IntKind.u8 l, AV.int IntKind.u8 q, AV.int IntKind.u8 s0, AV.int IntKind.u8 s1, AV.int IntKind.u8 s2, AV.int IntKind.u8 s3, AV.int IntKind.u8 d0, AV.int IntKind.u8 d1, AV.int IntKind.u8 d2, AV.int IntKind.u8 d3] (Pl.frZ2 m off os os of bs bf).snd.snd) ++ [AV.int IntKind.u8 t, AV.int IntKind.u16 i, AV.bool df, AV.bool mf, AV.int IntKind.i64 (off + (↑((Pl.frZ2 m off os os of bs bf).fst / 8) : Int)), AV.int IntKind.u8 l, AV.int IntKind.u8 q, AV.int IntKind.u8 s0, AV.int IntKind.u8 s1, AV.int IntKind.u8 s2, AV.int IntKind.u8 s3, AV.int IntKind.u8 d0, AV.int IntKind.u8 d1, AV.int IntKind.u8 d2, AV.int IntKind.u8 d3, AV.fs 1 (Pl.frZ2 m off os os of bs bf).snd.fst.fst (Pl.frZ2 m off os os of bs bf).snd.fst.snd, AV.fs 1 (List.drop (Pl.frZ2 m off os os of bs bf).fst bs) bf] ++ List.drop ((Pl.frZ2 m off os os of bs bf).snd.snd.length * 17 + 17) (Pl.frsC [AV.int IntKind.u8 t, AV.int IntKind.u16 i, AV.bool df, AV.int IntKind.u8 l, AV.int IntKind.u8 q, AV.int IntKind.u8 s0, AV.int IntKind.u8 s1, AV.int IntKind.u8 s2, AV.int IntKind.u8 s3, AV.int IntKind.u8 d0, AV.int IntKind.u8 d1, AV.int IntKind.u8 d2, AV.int IntKind.u8 d3] (Pl.frZ2 m off os os of bs bf).snd.snd)).length)) (aIf (flatL (List.take (((Pl.frZ2 m off os os of bs bf).snd.snd.length + 1) * 17) (List.drop 0 (List.take ((Pl.frZ2 m off os os of bs bf).snd.snd.length * 17) (Pl.frsC [AV.int IntKind.u8 t, AV.int IntKind.u16 i, AV.bool df, AV.int IntKind.u8 l, AV.int IntKind.u8 q, AV.int IntKind.u8 s0, AV.int IntKind.u8 s1, AV.int IntKind.u8 s2, AV.int IntKind.u8 s3, AV.int IntKind.u8 d0, AV.int IntKind.u8 d1, AV.int IntKind.u8 d2, AV.int IntKind.u8 d3] (Pl.frZ2 m off os os of bs bf).snd.snd) ++ [AV.int IntKind.u8 t, AV.int IntKind.u16 i, AV.bool df, AV.bool mf, AV.int IntKind.i64 (off + (↑((Pl.frZ2 m off os os of bs bf).fst / 8) : Int)), AV.int IntKind.u8 l, AV.int IntKind.u8 q, AV.int IntKind.u8 s0, AV.int IntKind.u8 s1, AV.int IntKind.u8 s2, AV.int IntKind.u8 s3, AV.int IntKind.u8 d0, AV.int IntKind.u8 d1, AV.int IntKind.u8 d2, AV.int IntKind.u8 d3, AV.fs 1 (Pl.frZ2 m off os os of bs bf).snd.fst.fst (Pl.frZ2 m off os os of bs bf).snd.fst.snd, AV.fs 1 (List.drop (Pl.frZ2 m off os os of bs bf).fst bs) bf] ++ List.drop ((Pl.frZ2 m off os os of bs bf).snd.snd.length * 17 + 17) (Pl.frsC [AV.int IntKind.u8 t, AV.int IntKind.u16 i, AV.bool df, AV.int IntKind.u8 l, AV.int IntKind.u8 q, AV.int IntKind.u8 s0, AV.int IntKind.u8 s1, AV.int IntKind.u8 s2, AV.int IntKind.u8 s3, AV.int IntKind.u8 d0, AV.int IntKind.u8 d1, AV.int IntKind.u8 d2, AV.int IntKind.u8 d3] (Pl.frZ2 m off os os of bs bf).snd.snd))))) (k (AEnd.ret (AV.tup [AV.fs 17 (chunkG 17 0 ((Pl.frZ2 m off os os of bs bf).snd.snd.length + 1) (List.take ((Pl.frZ2 m off os os of bs bf).snd.snd.length * 17) (Pl.frsC [AV.int IntKind.u8 t, AV.int IntKind.u16 i, AV.bool df, AV.int IntKind.u8 l, AV.int IntKind.u8 q, AV.int IntKind.u8 s0, AV.int IntKind.u8 s1, AV.int IntKind.u8 s2, AV.int IntKind.u8 s3, AV.int IntKind.u8 d0, AV.int IntKind.u8 d1, AV.int IntKind.u8 d2, AV.int IntKind.u8 d3] (Pl.frZ2 m off os os of bs bf).snd.snd) ++ [AV.int IntKind.u8 t, AV.int IntKind.u16 i, AV.bool df, AV.bool mf, AV.int IntKind.i64 (off + (↑((Pl.frZ2 m off os os of bs bf).fst / 8) : Int)), AV.int IntKind.u8 l, AV.int IntKind.u8 q, AV.int IntKind.u8 s0, AV.int IntKind.u8 s1, AV.int IntKind.u8 s2, AV.int IntKind.u8 s3, AV.int IntKind.u8 d0, AV.int IntKind.u8 d1, AV.int IntKind.u8 d2, AV.int IntKind.u8 d3, AV.fs 1 (Pl.frZ2 m off os os of bs bf).snd.fst.fst (Pl.frZ2 m off os os of bs bf).snd.fst.snd, AV.fs 1 (List.drop (Pl.frZ2 m off os os of bs bf).fst bs) bf] ++ List.drop ((Pl.frZ2 m off os os of bs bf).snd.snd.length * 17 + 17) (Pl.frsC [AV.int IntKind.u8 t, AV.int IntKind.u16 i, AV.bool df, AV.int IntKind.u8 l, AV.int IntKind.u8 q, AV.int IntKind.u8 s0, AV.int IntKind.u8 s1, AV.int IntKind.u8 s2, AV.int IntKind.u8 s3, AV.int IntKind.u8 d0, AV.int IntKind.u8 d1, AV.int IntKind.u8 d2, AV.int IntKind.u8 d3] (Pl.frZ2 m off os os of bs bf).snd.snd))) SF.any, AV.int IntKind.i64 0])) []) none) none) none) none) none))) none)) (aIf (true && intsB IntKind.u8 os && decide (os.length ≤ 40) && decide (os.length % 4 = 0) && decide (os.length ≤ 40) && decide (bs.length ≤ 70000) && decide (68 ≤ m) && decide (m ≤ 65535) && decide (0 ≤ off) && decide (off ≤ 8191) && decide (Pl.mostN m.toNat os < bs.length)) (aIf (decide (off + (↑((Pl.frZ2 m off os os of bs bf).fst / 8) : Int) > 8191)) (k (AEnd.ret (AV.tup [AV.fs 17 [] SF.nil, AV.int IntKind.i64 5])) []) (aIf (17 * (Pl.frZ2 m off os os of bs bf).snd.snd.length == 0) none (aIf (17 * (Pl.frZ2 m off os os of bs bf).snd.snd.length == 17 * (Pl.frZ2 m off os os of bs bf).snd.snd.length) (aIf ((((Pl.frZ2 m off os os of bs bf).snd.snd.length + 1) * 80).ble 140737488355328) (aIf (max (17 * (Pl.frZ2 m off os os of bs bf).snd.snd.length) (((Pl.frZ2 m off os os of bs bf).snd.snd.length + 1) * 17) == max (17 * (Pl.frZ2 m off os os of bs bf).snd.snd.length) (((Pl.frZ2 m off os os of bs bf).snd.snd.length + 1) * 17)) (aIf (decide (0 + ((Pl.frZ2 m off os os of bs bf).snd.snd.length + 1) * 17 ≤ (List.take ((Pl.frZ2 m off os os of bs bf).snd.snd.length * 17) (Pl.frsC [AV.int IntKind.u8 t, AV.int IntKind.u16 i, AV.bool df, AV.int IntKind.u8 l, AV.int IntKind.u8 q, AV.int IntKind.u8 s0, AV.int IntKind.u8 s1, AV.int IntKind.u8 s2, AV.int IntKind.u8 s3, AV.int IntKind.u8 d0, AV.int IntKind.u8 d1, AV.int IntKind.u8 d2, AV.int IntKind.u8 d3] (Pl.frZ2 m off os os of bs bf).snd.snd) ++ [AV.int IntKind.u8 t, AV.int IntKind.u16 i, AV.bool df, AV.bool mf, AV.int IntKind.i64 (off + (↑((Pl.frZ2 m off os os of bs bf).fst / 8) : Int)), AV.int IntKind.u8 l, AV.int IntKind.u8 q, AV.int IntKind.u8 s0, AV.int IntKind.u8 s1, AV.int IntKind.u8 s2, AV.int IntKind.u8 s3, AV.int IntKind.u8 d0, AV.int IntKind.u8 d1, AV.int IntKind.u8 d2, AV.int IntKind.u8 d3, AV.fs 1 (Pl.frZ2 m off os os of bs bf).snd.fst.fst (Pl.frZ2 m off os os of bs bf).snd.fst.snd, AV.fs 1 (List.drop (Pl.frZ2 m off os os of bs bf).fst bs) bf] ++ List.drop ((Pl.frZ2 m off os os of bs bf).snd.snd.length * 17 + 17) (Pl.frsC [AV.int IntKind.u8 t, AV.int IntKind.u16 i, AV.bool df, AV.int IntKind.u8 l, AV.int IntKind.u8 q, AV.int IntKind.u8 s0, AV.int IntKind.u8 s1, AV.int IntKind.u8 s2, AV.int IntKind.u8 s3, AV.int IntKind.u8 d0, AV.int IntKind.u8 d1, AV.int IntKind.u8 d2, AV.int IntKind.u8 d3] (Pl.frZ2 m off os os of bs bf).snd.snd)).length)) (aIf (flatL (List.take (((Pl.frZ2 m off os os of bs bf).snd.snd.length + 1) * 17) (List.drop 0 (List.take ((Pl.frZ2 m off os os of bs bf).snd.snd.length * 17) (Pl.frsC [AV.int IntKind.u8 t, AV.int IntKind.u16 i, AV.bool df, AV.int IntKind.u8 l, AV.int IntKind.u8 q, AV.int IntKind.u8 s0, AV.int IntKind.u8 s1, AV.int IntKind.u8 s2, AV.int IntKind.u8 s3, AV.int IntKind.u8 d0, AV.int IntKind.u8 d1, AV.int IntKind.u8 d2, AV.int IntKind.u8 d3] (Pl.frZ2 m off os os of bs bf).snd.snd) ++ [AV.int IntKind.u8 t, AV.int IntKind.u16 i, AV.bool df, AV.bool mf, AV.int IntKind.i64 (off + (↑((Pl.frZ2 m off os os of bs bf).fst / 8) : Int)), AV.int IntKind.u8 l, AV.int IntKind.u8 q, AV.int IntKind.u8 s0, AV.int IntKind.u8 s1, AV.int IntKind.u8 s2, AV.int IntKind.u8 s3, AV.int IntKind.u8 d0, AV.int IntKind.u8 d1, AV.int IntKind.u8 d2, AV.int IntKind.u8 d3, AV.fs 1 (Pl.frZ2 m off os os of bs bf).snd.fst.fst (Pl.frZ2 m off os os of bs bf).snd.fst.snd, AV.fs 1 (List.drop (Pl.frZ2 m off os os of bs bf).fst bs) bf] ++ List.drop ((Pl.frZ2 m off os os of bs bf).snd.snd.length * 17 + 17) (Pl.frsC [AV.int IntKind.u8 t, AV.int IntKind.u16 i, AV.bool df, AV.int IntKind.u8 l, AV.int IntKind.u8 q, AV.int IntKind.u8 s0, AV.int IntKind.u8 s1, AV.int IntKind.u8 s2, AV.int IntKind.u8 s3, AV.int IntKind.u8 d0, AV.int IntKind.u8 d1, AV.int IntKind.u8 d2, AV.int IntKind.u8 d3] (Pl.frZ2 m off os os of bs bf).snd.snd))))) (k (AEnd.ret (AV.tup [AV.fs 17 (chunkG 17 0 ((Pl.frZ2 m off os os of bs bf).snd.snd.length + 1) (List.take ((Pl.frZ2 m off os os of bs bf).snd.snd.length * 17) (Pl.frsC [AV.int IntKind.u8 t, AV.int IntKind.u16 i, AV.bool df, AV.int IntKind.u8 l, AV.int IntKind.u8 q, AV.int IntKind.u8 s0, AV.int IntKind.u8 s1, AV.int IntKind.u8 s2, AV.int IntKind.u8 s3, AV.int IntKind.u8 d0, AV.int IntKind.u8 d1, AV.int IntKind.u8 d2, AV.int IntKind.u8 d3] (Pl.frZ2 m off os os of bs bf).snd.snd) ++ [AV.int IntKind.u8 t, AV.int IntKind.u16 i, AV.bool df, AV.bool mf, AV.int IntKind.i64 (off + (↑((Pl.frZ2 m off os os of bs bf).fst / 8) : Int)), AV.int IntKind.u8 l, AV.int IntKind.u8 q, AV.int IntKind.u8 s0, AV.int IntKind.u8 s1, AV.int IntKind.u8 s2, AV.int IntKind.u8 s3, AV.int IntKind.u8 d0, AV.int IntKind.u8 d1, AV.int IntKind.u8 d2, AV.int IntKind.u8 d3, AV.fs 1 (Pl.frZ2 m off os os of bs bf).snd.fst.fst (Pl.frZ2 m off os os of bs bf).snd.fst.snd, AV.fs 1 (List.drop (Pl.frZ2 m off os os of bs bf).fst bs) bf] ++ List.drop ((Pl.frZ2 m off os os of bs bf).snd.snd.length * 17 + 17) (Pl.frsC [AV.int IntKind.u8 t, AV.int IntKind.u16 i, AV.bool df, AV.int IntKind.u8 l, AV.int IntKind.u8 q, AV.int IntKind.u8 s0, AV.int IntKind.u8 s1, AV.int IntKind.u8 s2, AV.int IntKind.u8 s3, AV.int IntKind.u8 d0, AV.int IntKind.u8 d1, AV.int IntKind.u8 d2, AV.int IntKind.u8 d3] (Pl.frZ2 m off os os of bs bf).snd.snd))) SF.any, AV.int IntKind.i64 0])) []) none) none) none) none) none))) none))))) none := by kernel_rfl
theorem S20_ok : SpecOK Try.prog 20 S20 := by
  refine B20_ok.turn fun args H => ?_
  unfold S20
  split
  · rename_i t i df mf off l q s0 s1 s2 s3 d0 d1 d2 d3 os of bs bf m
    rcases Bool.eq_false_or_eq_true (intsB .u8 os && decide (os.length ≤ 100) && decide (bs.length ≤ 70000) && decide (-9223372036854775808 ≤ off) && decide (off ≤ 9223372036854775807) && decide (-9223372036854775808 ≤ m) && decide (m ≤ 9223372036854775807) && intsB .u8 bs && okF os of && okF bs bf) with hp | hp
    · refine .inr fun k => ?_
      rw [aIf_pos hp, N20]
      simp only [Bool.and_eq_true, decide_eq_true_eq] at hp
      obtain ⟨⟨⟨⟨⟨⟨⟨⟨⟨hos, hol⟩, hbl⟩, ho1⟩, ho2⟩, hm1⟩, hm2⟩, hbs⟩, hof⟩, hbf⟩ := hp
      have e8 : ((bs.length : Int).tmod 8 != 0) = !(bs.length % 8 == 0) := by
        have e : (bs.length : Int).tmod 8 = ((bs.length % 8 : Nat) : Int) := by rw [Int.tmod_eq_emod_of_nonneg (by omega)]; simp
        rw [e, bne, Bool.not_eq_eq_eq_not, Bool.not_not, Bool.eq_iff_iff, beq_iff_eq, beq_iff_eq]; omega
      have hh : ([.int .u8 t, .int .u16 i, .bool df, .int .u8 l, .int .u8 q, .int .u8 s0, .int .u8 s1, .int .u8 s2, .int .u8 s3, .int .u8 d0, .int .u8 d1, .int .u8 d2, .int .u8 d3] : List AV).length = 13 := rfl
      have hfl : flatL [.int .u8 t, .int .u16 i, .bool df, .int .u8 l, .int .u8 q, .int .u8 s0, .int .u8 s1, .int .u8 s2, .int .u8 s3, .int .u8 d0, .int .u8 d1, .int .u8 d2, .int .u8 d3] = true := rfl
      by_cases hA : ask4E off os bs m = 0
      · obtain ⟨a1, a2, a3, a4, a5, a6, a7⟩ := ask4_ok hA
        generalize hH13 : ([.int .u8 t, .int .u16 i, .bool df, .int .u8 l, .int .u8 q, .int .u8 s0, .int .u8 s1, .int .u8 s2, .int .u8 s3, .int .u8 d0, .int .u8 d1, .int .u8 d2, .int .u8 d3] : List AV) = H13 at hh hfl
        have hS : sp2E df mf off os of bs bf m = bif fit4B off os bs m then 0 else bif df then 130 else bif mf && !(bs.length % 8 == 0) then 1 else bif frX (frZ2 m off os os of bs bf) off then 5 else 0 := by unfold sp2E; rw [hA]; rfl
        have hE0 : sp2E df mf off os of bs bf m = 0 → sp2L df mf off os of bs bf m = (bif fit4B off os bs m then [(mf, off, (os, of), (bs, bf))] else frA2 (frZ2 m off os os of bs bf) mf off bs bf) ∧ sp2F df mf off os of bs bf m = .any := fun h => by unfold sp2L sp2F; rw [h]; exact ⟨rfl, rfl⟩
        have hE1 : sp2E df mf off os of bs bf m ≠ 0 → sp2L df mf off os of bs bf m = [] ∧ sp2F df mf off os of bs bf m = .nil := fun h => by unfold sp2L sp2F; rw [beq_eq_false_iff_ne.2 h]; exact ⟨rfl, rfl⟩
        simp only [hos, hbs, hof, hbf, okF_clo, hA, decide_eq_true hol, decide_eq_true hbl, decide_eq_true ho1, decide_eq_true ho2, decide_eq_true hm1, decide_eq_true hm2, decide_eq_true a1, decide_eq_true a2, decide_eq_true a3, decide_eq_true a4, decide_eq_true a6, decide_eq_true a7, decide_eq_true (show os.length ≤ 1000000 by omega), decide_eq_true (show bs.length ≤ 1000000 by omega), decide_eq_true (show bs.length ≤ 65535 by omega), Bool.and_self, bne_self_eq_false, aIf_true, aIf_false, beq_self_eq_true, e8]
        cases hf : fit4B off os bs m with
        | true =>
          rw [hf, cond_true] at hS
          obtain ⟨e1, e2⟩ := hE0 hS
          rw [e1, e2, hS, hf, ← hH13]; rfl
        | false =>
          rw [hf, cond_false] at hS
          have hmn : decide (mostN m.toNat os < bs.length) = true := by
            refine decide_eq_true ?_
            unfold fit4B at hf
            rw [hA, beq_self_eq_true, Bool.true_and] at hf
            have := of_decide_eq_false hf
            unfold mostN; omega
          obtain ⟨m, rfl⟩ := Int.eq_ofNat_of_zero_le (show 0 ≤ m by omega)
          rw [hmn]
          rw [Int.toNat_natCast] at hmn
          obtain ⟨z1, z2, z3⟩ := frZ2_inv (off := off) (pf := of) (g := bf) (by omega) (by omega) hos a3 a4 a3 (of_decide_eq_true hmn)
          have hfr : frC H13 (mf, off + (((frZ2 (m : Int) off os os of bs bf).1 / 8 : Nat) : Int), (frZ2 (m : Int) off os os of bs bf).2.1, (bs.drop (frZ2 (m : Int) off os os of bs bf).1, bf)) = [.int .u8 t, .int .u16 i, .bool df, .bool mf, .int .i64 (off + (((frZ2 (m : Int) off os os of bs bf).1 / 8 : Nat) : Int)), .int .u8 l, .int .u8 q, .int .u8 s0, .int .u8 s1, .int .u8 s2, .int .u8 s3, .int .u8 d0, .int .u8 d1, .int .u8 d2, .int .u8 d3, .fs 1 (frZ2 (m : Int) off os os of bs bf).2.1.1 (frZ2 (m : Int) off os os of bs bf).2.1.2, .fs 1 (List.drop (frZ2 (m : Int) off os os of bs bf).1 bs) bf] := by rw [← hH13]; rfl
          have hput := frsC_put hh (frZ2 (m : Int) off os os of bs bf).2.2 (mf, off + (((frZ2 (m : Int) off os os of bs bf).1 / 8 : Nat) : Int), (frZ2 (m : Int) off os os of bs bf).2.1, (bs.drop (frZ2 (m : Int) off os os of bs bf).1, bf))
          rw [hfr] at hput
          have hA2 : (frZ2 (m : Int) off os os of bs bf).2.2 ++ [((mf, off + (((frZ2 (m : Int) off os os of bs bf).1 / 8 : Nat) : Int), (frZ2 (m : Int) off os os of bs bf).2.1, (bs.drop (frZ2 (m : Int) off os os of bs bf).1, bf)) : Fr)] = frA2 (frZ2 (m : Int) off os os of bs bf) mf off bs bf := rfl
          rw [hA2] at hput
          have hln : (frA2 (frZ2 (m : Int) off os os of bs bf) mf off bs bf).length = (frZ2 (m : Int) off os os of bs bf).2.2.length + 1 := by rw [← hA2, List.length_append]; rfl
          have hX : decide (off + (((frZ2 (m : Int) off os os of bs bf).1 / 8 : Nat) : Int) > 8191) = frX (frZ2 (m : Int) off os os of bs bf) off := rfl
          rw [hput, ← hln, hX]
          generalize hz : frZ2 (m : Int) off os os of bs bf = z at *
          have hlen := frsC_len hh (frA2 z mf off bs bf)
          have hl0 : (17 * z.2.2.length == 0) = false := beq_eq_false_iff_ne.2 (by omega)
          have hl3 : ((frA2 z mf off bs bf).length * 80).ble 140737488355328 = true := by rw [Nat.ble_eq]; omega
          have hl1 : decide (0 + (frA2 z mf off bs bf).length * 17 ≤ (frsC H13 (frA2 z mf off bs bf)).length) = true := decide_eq_true (by omega)
          have hl2 : flatL (List.take ((frA2 z mf off bs bf).length * 17) (List.drop 0 (frsC H13 (frA2 z mf off bs bf)))) = true := flatL_take _ (flatL_drop 0 (frsC_flat hfl _))
          simp only [aIf_true, aIf_false, hl0, hl1, hl2, hl3]
          cases df with
          | true =>
            rw [cond_true] at hS
            obtain ⟨e1, e2⟩ := hE1 (by rw [hS]; decide)
            rw [e1, e2, hS]; rfl
          | false =>
            rw [cond_false] at hS
            have hfin : ∀ (e : sp2E false mf off os of bs bf (m : Int) = bif frX z off then 5 else 0), k (.ret (.tup [.fs 17 (frsE H13 (sp2L false mf off os of bs bf (m : Int))) (sp2F false mf off os of bs bf (m : Int)), .int .i64 (sp2E false mf off os of bs bf (m : Int))])) [] = aIf (frX z off) (k (.ret (.tup [.fs 17 [] .nil, .int .i64 5])) []) (k (.ret (.tup [.fs 17 (chunkG 17 0 (frA2 z mf off bs bf).length (frsC H13 (frA2 z mf off bs bf))) .any, .int .i64 0])) []) := by
              intro e
              cases hx : frX z off with
              | true =>
                rw [hx, cond_true] at e
                obtain ⟨e1, e2⟩ := hE1 (by rw [e]; decide)
                rw [e1, e2, e]; rfl
              | false =>
                rw [hx, cond_false] at e
                obtain ⟨e1, e2⟩ := hE0 e
                rw [e1, e2, e, hf, cond_false, ← chunk_frs hh]; rfl
            cases mf with
            | false => exact hfin hS
            | true =>
              cases h8 : bs.length % 8 == 0 with
              | true => rw [h8] at hS; exact hfin hS
              | false =>
                rw [h8] at hS
                replace hS : sp2E false true off os of bs bf (m : Int) = 1 := hS
                obtain ⟨e1, e2⟩ := hE1 (by rw [hS]; decide)
                rw [e1, e2, hS]; rfl
      · have hb : (ask4E off os bs m == 0) = false := beq_eq_false_iff_ne.2 hA
        have hS : sp2E df mf off os of bs bf m = ask4E off os bs m := by unfold sp2E; rw [hb]; rfl
        have e1 : sp2L df mf off os of bs bf m = [] := by unfold sp2L; rw [hS, hb]; rfl
        have e2 : sp2F df mf off os of bs bf m = .nil := by unfold sp2F; rw [hS, hb]; rfl
        rw [e1, e2, hS, hos, decide_eq_true hol, decide_eq_true hbl, decide_eq_true ho1, decide_eq_true ho2, decide_eq_true hm1, decide_eq_true hm2, bne, hb]
        rfl
    · exact .inl fun k => by rw [aIf_neg hp]
  · exact .inl fun k => rfl
theorem En20 : Enters Try.prog 20 := ⟨_, Try.func20, by decide, rfl⟩

/-- ferryman/ferrymanref13.Same -/
noncomputable def T21 : List (FuncId × FSpec) := [(19, S19)]
theorem T21_ok : TabOK Try.prog T21 := TabOK.cons En19 S19_ok (TabOK.nil _)
noncomputable def L21_4 : ATs → AH → KC → Res := fun ts H k => match ts, H with
  | [(0, .fs 17 xs f1), (1, .fs 17 ys f2), (5, .int .i64 i)], [] => aIf (i == 0 && sameG xs ys) (k (.exit 0) [(0, .fs 17 xs f1), (1, .fs 17 ys f2), (5, .int .i64 (xs.length : Int)), (14, .bool false)] []) none
  | _, _ => none
noncomputable def C21 : Ctx := (ctx E T21 [(4, L21_4)] [(0, [0, 1]), (1, [0, 1, 10]), (2, [4]), (3, [0, 1, 5]), (4, [0, 1, 5, 14]), (5, [0, 1, 5]), (6, [0, 1, 5, 26]), (7, [4]), (8, [4]), (1000004, [0, 1, 5])] [] 27 70)
theorem C21_ok : CtxOK Try.prog C21 := ctx_ok E_ok E_flds mixed T21_ok
theorem C21_l0 : C21.loop (loopId (loopB Try.f21 0)) = some L21_4 := by kernel_rfl
theorem L21_4_in : LoopsOK C21 (loopB Try.f21 0) := LoopsOK.within 0 (by kernel_rfl) (fun j hj S hS => by
  omega)
theorem M21_4a (xs : List AV) (f1 : SF) (ys : List AV) (f2 : SF) (i : Int) (k : KC) {c1 : _} (gc1 : c1 = [(ys.getD i.toNat AV.junk).cells.getD 0 AV.junk, (ys.getD i.toNat AV.junk).cells.getD 1 AV.junk, (ys.getD i.toNat AV.junk).cells.getD 2 AV.junk, (ys.getD i.toNat AV.junk).cells.getD 3 AV.junk, (ys.getD i.toNat AV.junk).cells.getD 4 AV.junk, (ys.getD i.toNat AV.junk).cells.getD 5 AV.junk, (ys.getD i.toNat AV.junk).cells.getD 6 AV.junk, (ys.getD i.toNat AV.junk).cells.getD 7 AV.junk, (ys.getD i.toNat AV.junk).cells.getD 8 AV.junk, (ys.getD i.toNat AV.junk).cells.getD 9 AV.junk, (ys.getD i.toNat AV.junk).cells.getD 10 AV.junk, (ys.getD i.toNat AV.junk).cells.getD 11 AV.junk, (ys.getD i.toNat AV.junk).cells.getD 12 AV.junk, (ys.getD i.toNat AV.junk).cells.getD 13 AV.junk, (ys.getD i.toNat AV.junk).cells.getD 14 AV.junk, (ys.getD i.toNat AV.junk).cells.getD 15 AV.junk, (ys.getD i.toNat AV.junk).cells.getD 16 AV.junk]) {c0 : _} (gc0 : c0 = [(xs.getD i.toNat AV.junk).cells.getD 0 AV.junk, (xs.getD i.toNat AV.junk).cells.getD 1 AV.junk, (xs.getD i.toNat AV.junk).cells.getD 2 AV.junk, (xs.getD i.toNat AV.junk).cells.getD 3 AV.junk, (xs.getD i.toNat AV.junk).cells.getD 4 AV.junk, (xs.getD i.toNat AV.junk).cells.getD 5 AV.junk, (xs.getD i.toNat AV.junk).cells.getD 6 AV.junk, (xs.getD i.toNat AV.junk).cells.getD 7 AV.junk, (xs.getD i.toNat AV.junk).cells.getD 8 AV.junk, (xs.getD i.toNat AV.junk).cells.getD 9 AV.junk, (xs.getD i.toNat AV.junk).cells.getD 10 AV.junk, (xs.getD i.toNat AV.junk).cells.getD 11 AV.junk, (xs.getD i.toNat AV.junk).cells.getD 12 AV.junk, (xs.getD i.toNat AV.junk).cells.getD 13 AV.junk, (xs.getD i.toNat AV.junk).cells.getD 14 AV.junk, (xs.getD i.toNat AV.junk).cells.getD 15 AV.junk, (xs.getD i.toNat AV.junk).cells.getD 16 AV.junk]) :
  headedK C21 (loopB Try.f21 0) [(0, .fs 17 xs f1), (1, .fs 17 ys f2), (5, .int .i64 i)] [] k =
  aIf (decide (i < (↑xs.length : Int))) (aIf (decide (0 ≤ i)) (aIf (decide (i < (↑xs.length : Int))) (aIf ((xs.getD i.toNat AV.junk).cells.length == 17) (aIf ((c0.getD 0 AV.junk).isInt IntKind.u8) (aIf ((c0.getD 1 AV.junk).isInt IntKind.u16) (aIf (c0.getD 2 AV.junk).isBool (aIf (c0.getD 3 AV.junk).isBool (aIf ((c0.getD 4 AV.junk).isInt IntKind.i64) (aIf ((c0.getD 5 AV.junk).isInt IntKind.u8) (aIf ((c0.getD 6 AV.junk).isInt IntKind.u8) (aIf ((c0.getD 7 AV.junk).isInt IntKind.u8) (aIf ((c0.getD 8 AV.junk).isInt IntKind.u8) (aIf ((c0.getD 9 AV.junk).isInt IntKind.u8) (aIf ((c0.getD 10 AV.junk).isInt IntKind.u8) (aIf ((c0.getD 11 AV.junk).isInt IntKind.u8) (aIf ((c0.getD 12 AV.junk).isInt IntKind.u8) (aIf ((c0.getD 13 AV.junk).isInt IntKind.u8) (aIf ((c0.getD 14 AV.junk).isInt IntKind.u8) (aIf (AV.isFs 1 (c0.getD 15 AV.junk)) (aIf (AV.isFs 1 (c0.getD 16 AV.junk)) (aIf (decide (0 ≤ i)) (aIf (decide (i < (↑ys.length : Int))) (aIf ((ys.getD i.toNat AV.junk).cells.length == 17) (aIf ((c1.getD 0 AV.junk).isInt IntKind.u8) (aIf ((c1.getD 1 AV.junk).isInt IntKind.u16) (aIf (c1.getD 2 AV.junk).isBool (aIf (c1.getD 3 AV.junk).isBool (aIf ((c1.getD 4 AV.junk).isInt IntKind.i64) (aIf ((c1.getD 5 AV.junk).isInt IntKind.u8) (aIf ((c1.getD 6 AV.junk).isInt IntKind.u8) (aIf ((c1.getD 7 AV.junk).isInt IntKind.u8) (aIf ((c1.getD 8 AV.junk).isInt IntKind.u8) (aIf ((c1.getD 9 AV.junk).isInt IntKind.u8) (aIf ((c1.getD 10 AV.junk).isInt IntKind.u8) (aIf ((c1.getD 11 AV.junk).isInt IntKind.u8) (aIf ((c1.getD 12 AV.junk).isInt IntKind.u8) (aIf ((c1.getD 13 AV.junk).isInt IntKind.u8) (aIf ((c1.getD 14 AV.junk).isInt IntKind.u8) (aIf (AV.isFs 1 (c1.getD 15 AV.junk)) (aIf (AV.isFs 1 (c1.getD 16 AV.junk)) (aIf ((c0.getD 0 AV.junk).toInt == (c1.getD 0 AV.junk).toInt && (c0.getD 1 AV.junk).toInt == (c1.getD 1 AV.junk).toInt && (c0.getD 2 AV.junk).toBool == (c1.getD 2 AV.junk).toBool && (c0.getD 3 AV.junk).toBool == (c1.getD 3 AV.junk).toBool && (c0.getD 4 AV.junk).toInt == (c1.getD 4 AV.junk).toInt && (c0.getD 5 AV.junk).toInt == (c1.getD 5 AV.junk).toInt && (c0.getD 6 AV.junk).toInt == (c1.getD 6 AV.junk).toInt && (c0.getD 7 AV.junk).toInt == (c1.getD 7 AV.junk).toInt && (c0.getD 8 AV.junk).toInt == (c1.getD 8 AV.junk).toInt && (c0.getD 9 AV.junk).toInt == (c1.getD 9 AV.junk).toInt && (c0.getD 10 AV.junk).toInt == (c1.getD 10 AV.junk).toInt && (c0.getD 11 AV.junk).toInt == (c1.getD 11 AV.junk).toInt && (c0.getD 12 AV.junk).toInt == (c1.getD 12 AV.junk).toInt && (c0.getD 13 AV.junk).toInt == (c1.getD 13 AV.junk).toInt && (c0.getD 14 AV.junk).toInt == (c1.getD 14 AV.junk).toInt && intsB IntKind.u8 (c0.getD 15 AV.junk).toFs && intsB IntKind.u8 (c1.getD 15 AV.junk).toFs && Pl.eqB (c0.getD 15 AV.junk).toFs (c1.getD 15 AV.junk).toFs && intsB IntKind.u8 (c0.getD 16 AV.junk).toFs && intsB IntKind.u8 (c1.getD 16 AV.junk).toFs && Pl.eqB (c0.getD 16 AV.junk).toFs (c1.getD 16 AV.junk).toFs) (k AExit.normal [(0, AV.fs 17 xs f1), (1, AV.fs 17 ys f2), (5, AV.int IntKind.i64 (IntKind.i64.wrap (i + 1)))] []) none) none) none) none) none) none) none) none) none) none) none) none) none) none) none) none) none) none) none) none) none) none) none) none) none) none) none) none) none) none) none) none) none) none) none) none) none) none) none) none) none) (k (AExit.exit 0) [(0, AV.fs 17 xs f1), (1, AV.fs 17 ys f2), (5, AV.int IntKind.i64 i), (14, AV.bool (decide (i < (↑xs.length : Int))))] []) := by subst gc0 gc1; kernel_rfl
theorem L21_4_ok : LoopSum C21 (loopB Try.f21 0) L21_4 := LoopSum.of C21_ok L21_4_in (fun ts H => by
  unfold L21_4
  split
  · rename_i xs f1 ys f2 i
    rcases Bool.eq_false_or_eq_true (i == 0 && sameG xs ys) with hp | hp
    · refine .inr ?_
      simp only [aIf_pos hp]
      simp only [Bool.and_eq_true, beq_iff_eq] at hp
      obtain ⟨rfl, hs⟩ := hp
      obtain ⟨t, id, df, l, q, s0, s1, s2, s3, d0, d1, d2, d3, l1, l2, hx, hy, hbare, hgood, hlen⟩ := sameG_iff.1 hs
      have hll : l1.length = l2.length := by have := congrArg List.length hbare; simpa using this
      have hxl : xs.length = l1.length := by rw [hx, frsE_len]
      have hyl : ys.length = l1.length := by rw [hy, frsE_len, hll]
      have key : ∀ j : Nat, j < l1.length → ∀ k, headedK C21 (loopB Try.f21 0) [(0, .fs 17 xs f1), (1, .fs 17 ys f2), (5, .int .i64 (j : Int))] [] k = k .normal [(0, .fs 17 xs f1), (1, .fs 17 ys f2), (5, .int .i64 ((j + 1 : Nat) : Int))] [] := by
        intro j hj k
        obtain ⟨r1, m1, g1, e1⟩ := frsE_get (h := hdr t id df l q s0 s1 s2 s3 d0 d1 d2 d3) hj
        obtain ⟨r2, m2, g2, e2⟩ := frsE_get (h := hdr t id df l q s0 s1 s2 s3 d0 d1 d2 d3) (l := l2) (j := j) (by omega)
        rw [← hx] at e1
        rw [← hy] at e2
        have hb : bare r1 = bare r2 := by
          have := congrArg (·[j]?) hbare
          simp only [List.getElem?_map, g1, g2, Option.map_some, Option.some.injEq] at this
          exact this
        have hg := hgood r1 m1
        obtain ⟨mf1, of1, ⟨os1, f1o⟩, ⟨bs1, f1b⟩⟩ := r1
        obtain ⟨mf2, of2, ⟨os2, f2o⟩, ⟨bs2, f2b⟩⟩ := r2
        simp only [bare, Prod.mk.injEq] at hb
        obtain ⟨rfl, rfl, rfl, rfl⟩ := hb
        simp only [goodFr, Bool.and_eq_true] at hg
        have hn1 : IntKind.i64.wrap ((j : Int) + 1) = ((j + 1 : Nat) : Int) := by rw [i64_of (by omega) (by omega)]; omega
        replace e1 : xs.getD j .junk = .agg [.int .u8 t, .int .u16 id, .bool df, .bool mf1, .int .i64 of1, .int .u8 l, .int .u8 q, .int .u8 s0, .int .u8 s1, .int .u8 s2, .int .u8 s3, .int .u8 d0, .int .u8 d1, .int .u8 d2, .int .u8 d3, .fs 1 os1 f1o, .fs 1 bs1 f1b] := e1
        replace e2 : ys.getD j .junk = .agg [.int .u8 t, .int .u16 id, .bool df, .bool mf1, .int .i64 of1, .int .u8 l, .int .u8 q, .int .u8 s0, .int .u8 s1, .int .u8 s2, .int .u8 s3, .int .u8 d0, .int .u8 d1, .int .u8 d2, .int .u8 d3, .fs 1 os1 f2o, .fs 1 bs1 f2b] := e2
        have ii : ∀ k n, (AV.int k n).isInt k = true := fun k n => by cases k <;> rfl
        have ib : ∀ b, (AV.bool b).isBool = true := fun _ => rfl
        have tb : ∀ b, (AV.bool b).toBool = b := fun _ => rfl
        have fi : ∀ xs f, (AV.fs 1 xs f).isFs 1 = true := fun _ _ => rfl
        have ft : ∀ xs f, (AV.fs 1 xs f).toFs = xs := fun _ _ => rfl
        have ag : ∀ cs, (AV.agg cs).cells = cs := fun _ => rfl
        have b17 : ((0 + 1 + 1 + 1 + 1 + 1 + 1 + 1 + 1 + 1 + 1 + 1 + 1 + 1 + 1 + 1 + 1 + 1 == 17) : Bool) = true := rfl
        rw [M21_4a xs f1 ys f2 (j : Int) k (c1 := [.int .u8 t, .int .u16 id, .bool df, .bool mf1, .int .i64 of1, .int .u8 l, .int .u8 q, .int .u8 s0, .int .u8 s1, .int .u8 s2, .int .u8 s3, .int .u8 d0, .int .u8 d1, .int .u8 d2, .int .u8 d3, .fs 1 os1 f2o, .fs 1 bs1 f2b]) (by rw [Int.toNat_natCast, e2]; rfl) (c0 := [.int .u8 t, .int .u16 id, .bool df, .bool mf1, .int .i64 of1, .int .u8 l, .int .u8 q, .int .u8 s0, .int .u8 s1, .int .u8 s2, .int .u8 s3, .int .u8 d0, .int .u8 d1, .int .u8 d2, .int .u8 d3, .fs 1 os1 f1o, .fs 1 bs1 f1b]) (by rw [Int.toNat_natCast, e1]; rfl)]
        simp only [Int.toNat_natCast, hxl, hyl, decide_eq_true (show (j : Int) < (l1.length : Int) by omega), decide_eq_true (show (0 : Int) ≤ (j : Int) by omega), e1, e2, ag, List.getD_cons_zero, List.getD_cons_succ, ii, ib, tb, fi, ft, toInt_int, aIf_true, beq_self_eq_true, Bool.and_self, eqB_self, hg.1.1.1, hg.1.1.2, hn1, Bool.not_true, aIf_false, List.length_cons, List.length_nil, b17]
      have hkey := iter_fold (δ := Unit) (N := l1.length) (F := headedK C21 (loopB Try.f21 0)) (ts := fun j _ => [(0, .fs 17 xs f1), (1, .fs 17 ys f2), (5, .int .i64 (j : Int))]) (H := fun _ _ => []) (f := fun _ u => u) (I := fun _ _ => True) (ee := .exit 0) (te := fun _ => [(0, .fs 17 xs f1), (1, .fs 17 ys f2), (5, .int .i64 (l1.length : Int)), (14, .bool false)]) (He := fun _ => [])
        (fun j d hj _ => ⟨trivial, fun k => key j hj k⟩)
        (fun d _ k => by rw [M21_4a _ _ _ _ _ _ rfl rfl, hxl, decide_eq_false (by omega), aIf_false]) (by intro h; cases h) l1.length 0 () (by omega) trivial
      obtain ⟨m, hm⟩ := hkey
      refine ⟨m, fun k => ?_⟩
      rw [hxl]
      exact (hm k).symm
    · exact .inl fun k => by rw [aIf_neg hp]
  · exact .inl fun k => rfl)
theorem C21_loops : ∀ c, Try.f21.body = some c → LoopsOK C21 c := LoopsOK.of 1 (by kernel_rfl) (fun j hj S hS => by
  match j, hj with
  | 0, _ => rw [C21_l0] at hS; cases hS; exact L21_4_ok
  | n + 1, hj => omega)
noncomputable def B21 : FSpec := inlineK C21 Try.f21
noncomputable def S21 : FSpec := fun args H k => match args, H with
  | [.fs 17 xs f1, .fs 17 ys f2], [] => aIf (sameG xs ys) (k (.ret (.bool true)) []) none
  | _, _ => none
theorem B21_ok : SpecOK Try.prog 21 B21 := inlineK_ok C21_ok Try.func21 C21_loops
theorem N21 (xs : List AV) (f1 : SF) (ys : List AV) (f2 : SF) (k : KE) : B21 [.fs 17 xs f1, .fs 17 ys f2] [] k =
  aIf ((↑xs.length : Int) != (↑ys.length : Int)) (k (AEnd.ret (AV.bool false)) []) (aIf (true && Pl.sameG xs ys) (k (AEnd.ret (AV.bool true)) []) none) := by kernel_rfl
theorem S21_ok : SpecOK Try.prog 21 S21 := by
  refine B21_ok.turn fun args H => ?_
  unfold S21
  split
  · rename_i xs f1 ys f2
    rcases Bool.eq_false_or_eq_true (sameG xs ys) with hp | hp
    · refine .inr fun k => ?_
      rw [aIf_pos hp, N21]
      obtain ⟨t, id, df, l, q, s0, s1, s2, s3, d0, d1, d2, d3, l1, l2, hx, hy, hbare, hgood, hlen⟩ := sameG_iff.1 hp
      have hll : l1.length = l2.length := by have := congrArg List.length hbare; simpa using this
      have hxy : xs.length = ys.length := by rw [hx, hy, frsE_len, frsE_len, hll]
      rw [hxy, hp, bne_self_eq_false]; rfl
    · exact .inl fun k => by rw [aIf_neg hp]
  · exact .inl fun k => rfl
theorem En21 : Enters Try.prog 21 := ⟨_, Try.func21, by decide, rfl⟩
end Go.Proofs.Ytohfnoepdbkkeaa
