/- EmbedWithin: an IPv6 address made of an IPv4 one lies in its prefix, and in that of an IPv4 prefix just if the IPv4 address lies in that one. -/
import Derived.Test.YtkbnhliogfcplaaDoorFEmbedWithin
import Derived.Test.YtkbnhliogfcplaaDoorA20
import Derived.Test.YtkbnhliogfcplaaDoorPAddr
import Derived.Test.YtkbnhliogfcplaaDoorPEmb
import Derived.Test.YtkbnhliogfcplaaDoorPWithin
import Derived.ProofKit
import Derived.Lay
import Derived.LaidMore
import Derived.SevenTiedAt
import Derived.Lib.LaidTab
import Derived.Stop.LaidErr
import Derived.Stop.Joined
import Derived.Test.YtkbnhliogfcplaaDoorTie
import Derived.Test.YtkbnhliogfcplaaDoorCards
namespace Go.Proofs.YtkbnhliogfcplaaDoor
open Go.Abs Go.Pl Go.RowKit Go.ChangeShapes Go.WideShapes Go.ChangeAt



theorem own : ownKnob Tryd.prog.godebug = none := by kernel_rfl
theorem laidOut : laidOutB Tryd.prog = true := by kernel_rfl
theorem argT25 (xs : List AV) : argT E 4 25 xs = p6T xs := by kernel_rfl
theorem agg25 : aggT E 25 = true := by kernel_rfl
theorem argT27 (xs : List AV) : argT E 4 27 xs = a4T xs := by kernel_rfl
theorem agg27 : aggT E 27 = true := by kernel_rfl
theorem argT29 (xs : List AV) : argT E 4 29 xs = p4T xs := by kernel_rfl
theorem agg29 : aggT E 29 = true := by kernel_rfl

theorem N4 (x q a : Nat → Int) (n m : Int)
    {r0 : Res} (h0 : r0 = R12 [AV.agg [AV.int IntKind.u8 (x 0), AV.int IntKind.u8 (x 1), AV.int IntKind.u8 (x 2), AV.int IntKind.u8 (x 3), AV.int IntKind.u8 (x 4), AV.int IntKind.u8 (x 5), AV.int IntKind.u8 (x 6), AV.int IntKind.u8 (x 7), AV.int IntKind.u8 (x 8), AV.int IntKind.u8 (x 9), AV.int IntKind.u8 (x 10), AV.int IntKind.u8 (x 11), AV.int IntKind.u8 (x 12), AV.int IntKind.u8 (x 13), AV.int IntKind.u8 (x 14), AV.int IntKind.u8 (x 15), AV.int IntKind.i64 n], AV.agg [AV.int IntKind.u8 (a 0), AV.int IntKind.u8 (a 1), AV.int IntKind.u8 (a 2), AV.int IntKind.u8 (a 3)]])
    {r1 : Res} (h1 : r1 = R9 [AV.agg [AV.int IntKind.u8 (x 0), AV.int IntKind.u8 (x 1), AV.int IntKind.u8 (x 2), AV.int IntKind.u8 (x 3), AV.int IntKind.u8 (x 4), AV.int IntKind.u8 (x 5), AV.int IntKind.u8 (x 6), AV.int IntKind.u8 (x 7), AV.int IntKind.u8 (x 8), AV.int IntKind.u8 (x 9), AV.int IntKind.u8 (x 10), AV.int IntKind.u8 (x 11), AV.int IntKind.u8 (x 12), AV.int IntKind.u8 (x 13), AV.int IntKind.u8 (x 14), AV.int IntKind.u8 (x 15), AV.int IntKind.i64 n], AV.agg [AV.int IntKind.u8 (q 0), AV.int IntKind.u8 (q 1), AV.int IntKind.u8 (q 2), AV.int IntKind.u8 (q 3), AV.int IntKind.i64 m]])
    {r2 : Res} (h2 : r2 = R13 [AV.agg [AV.int IntKind.u8 (x 0), AV.int IntKind.u8 (x 1), AV.int IntKind.u8 (x 2), AV.int IntKind.u8 (x 3), AV.int IntKind.u8 (x 4), AV.int IntKind.u8 (x 5), AV.int IntKind.u8 (x 6), AV.int IntKind.u8 (x 7), AV.int IntKind.u8 (x 8), AV.int IntKind.u8 (x 9), AV.int IntKind.u8 (x 10), AV.int IntKind.u8 (x 11), AV.int IntKind.u8 (x 12), AV.int IntKind.u8 (x 13), AV.int IntKind.u8 (x 14), AV.int IntKind.u8 (x 15), AV.int IntKind.i64 n], AV.agg [AV.int IntKind.u8 (sel r0 [0, 0]).toInt, AV.int IntKind.u8 (sel r0 [0, 1]).toInt, AV.int IntKind.u8 (sel r0 [0, 2]).toInt, AV.int IntKind.u8 (sel r0 [0, 3]).toInt, AV.int IntKind.u8 (sel r0 [0, 4]).toInt, AV.int IntKind.u8 (sel r0 [0, 5]).toInt, AV.int IntKind.u8 (sel r0 [0, 6]).toInt, AV.int IntKind.u8 (sel r0 [0, 7]).toInt, AV.int IntKind.u8 (sel r0 [0, 8]).toInt, AV.int IntKind.u8 (sel r0 [0, 9]).toInt, AV.int IntKind.u8 (sel r0 [0, 10]).toInt, AV.int IntKind.u8 (sel r0 [0, 11]).toInt, AV.int IntKind.u8 (sel r0 [0, 12]).toInt, AV.int IntKind.u8 (sel r0 [0, 13]).toInt, AV.int IntKind.u8 (sel r0 [0, 14]).toInt, AV.int IntKind.u8 (sel r0 [0, 15]).toInt]])
    {r3 : Res} (h3 : r3 = R13 [AV.agg [AV.int IntKind.u8 (sel r1 [0, 0]).toInt, AV.int IntKind.u8 (sel r1 [0, 1]).toInt, AV.int IntKind.u8 (sel r1 [0, 2]).toInt, AV.int IntKind.u8 (sel r1 [0, 3]).toInt, AV.int IntKind.u8 (sel r1 [0, 4]).toInt, AV.int IntKind.u8 (sel r1 [0, 5]).toInt, AV.int IntKind.u8 (sel r1 [0, 6]).toInt, AV.int IntKind.u8 (sel r1 [0, 7]).toInt, AV.int IntKind.u8 (sel r1 [0, 8]).toInt, AV.int IntKind.u8 (sel r1 [0, 9]).toInt, AV.int IntKind.u8 (sel r1 [0, 10]).toInt, AV.int IntKind.u8 (sel r1 [0, 11]).toInt, AV.int IntKind.u8 (sel r1 [0, 12]).toInt, AV.int IntKind.u8 (sel r1 [0, 13]).toInt, AV.int IntKind.u8 (sel r1 [0, 14]).toInt, AV.int IntKind.u8 (sel r1 [0, 15]).toInt, AV.int IntKind.i64 (sel r1 [0, 16]).toInt], AV.agg [AV.int IntKind.u8 (sel r0 [0, 0]).toInt, AV.int IntKind.u8 (sel r0 [0, 1]).toInt, AV.int IntKind.u8 (sel r0 [0, 2]).toInt, AV.int IntKind.u8 (sel r0 [0, 3]).toInt, AV.int IntKind.u8 (sel r0 [0, 4]).toInt, AV.int IntKind.u8 (sel r0 [0, 5]).toInt, AV.int IntKind.u8 (sel r0 [0, 6]).toInt, AV.int IntKind.u8 (sel r0 [0, 7]).toInt, AV.int IntKind.u8 (sel r0 [0, 8]).toInt, AV.int IntKind.u8 (sel r0 [0, 9]).toInt, AV.int IntKind.u8 (sel r0 [0, 10]).toInt, AV.int IntKind.u8 (sel r0 [0, 11]).toInt, AV.int IntKind.u8 (sel r0 [0, 12]).toInt, AV.int IntKind.u8 (sel r0 [0, 13]).toInt, AV.int IntKind.u8 (sel r0 [0, 14]).toInt, AV.int IntKind.u8 (sel r0 [0, 15]).toInt]])
    {r4 : Res} (h4 : r4 = R14 [AV.agg [AV.int IntKind.u8 (q 0), AV.int IntKind.u8 (q 1), AV.int IntKind.u8 (q 2), AV.int IntKind.u8 (q 3), AV.int IntKind.i64 m], AV.agg [AV.int IntKind.u8 (a 0), AV.int IntKind.u8 (a 1), AV.int IntKind.u8 (a 2), AV.int IntKind.u8 (a 3)]]) :
  S4 [.agg [.int .u8 (x 0), .int .u8 (x 1), .int .u8 (x 2), .int .u8 (x 3), .int .u8 (x 4), .int .u8 (x 5), .int .u8 (x 6), .int .u8 (x 7), .int .u8 (x 8), .int .u8 (x 9), .int .u8 (x 10), .int .u8 (x 11), .int .u8 (x 12), .int .u8 (x 13), .int .u8 (x 14), .int .u8 (x 15), .int .i64 n], .agg [.int .u8 (q 0), .int .u8 (q 1), .int .u8 (q 2), .int .u8 (q 3), .int .i64 m], .agg [.int .u8 (a 0), .int .u8 (a 1), .int .u8 (a 2), .int .u8 (a 3)]] [] (fun e H => some (e, H)) =
  aIf (shOK (Sh.tup [Sh.agg [Sh.int IntKind.u8, Sh.int IntKind.u8, Sh.int IntKind.u8, Sh.int IntKind.u8, Sh.int IntKind.u8, Sh.int IntKind.u8, Sh.int IntKind.u8, Sh.int IntKind.u8, Sh.int IntKind.u8, Sh.int IntKind.u8, Sh.int IntKind.u8, Sh.int IntKind.u8, Sh.int IntKind.u8, Sh.int IntKind.u8, Sh.int IntKind.u8, Sh.int IntKind.u8], Sh.int IntKind.i64]) r0) (aIf (shOK (Sh.tup [Sh.agg [Sh.int IntKind.u8, Sh.int IntKind.u8, Sh.int IntKind.u8, Sh.int IntKind.u8, Sh.int IntKind.u8, Sh.int IntKind.u8, Sh.int IntKind.u8, Sh.int IntKind.u8, Sh.int IntKind.u8, Sh.int IntKind.u8, Sh.int IntKind.u8, Sh.int IntKind.u8, Sh.int IntKind.u8, Sh.int IntKind.u8, Sh.int IntKind.u8, Sh.int IntKind.u8, Sh.int IntKind.i64], Sh.int IntKind.i64]) r1) (aIf ((sel r0 [1]).toInt != 0) (some (AEnd.ret (AV.bool ((sel r1 [1]).toInt != 0)), [])) (aIf ((sel r1 [1]).toInt != 0) (some (AEnd.ret (AV.bool ((sel r1 [1]).toInt != 0)), [])) (aIf (shOK (Sh.tup [Sh.bool, Sh.int IntKind.i64]) r2) (aIf (shOK (Sh.tup [Sh.bool, Sh.int IntKind.i64]) r3) (aIf (shOK (Sh.tup [Sh.bool, Sh.int IntKind.i64]) r4) (aIf ((sel r2 [1]).toInt == 0) (aIf ((sel r3 [1]).toInt == 0) (aIf ((sel r4 [1]).toInt == 0) (aIf (sel r2 [0]).toBool (some (AEnd.ret (AV.bool ((sel r3 [0]).toBool == (sel r4 [0]).toBool)), [])) (some (AEnd.ret (AV.bool false), []))) (some (AEnd.ret (AV.bool false), []))) (some (AEnd.ret (AV.bool false), []))) (some (AEnd.ret (AV.bool false), []))) none) none) none))) none) none := by subst h0 h1 h2 h3 h4; kernel_rfl

theorem ok16 {c : List AV} {e : Int} (hu : intsB .u8 c = true) (he : inK .i64 e = true) : shOK (.tup [.agg [.int .u8, .int .u8, .int .u8, .int .u8, .int .u8, .int .u8, .int .u8, .int .u8, .int .u8, .int .u8, .int .u8, .int .u8, .int .u8, .int .u8, .int .u8, .int .u8], .int .i64]) (some (AEnd.ret (AV.tup [AV.agg [.int .u8 (byteAt c 0), .int .u8 (byteAt c 1), .int .u8 (byteAt c 2), .int .u8 (byteAt c 3), .int .u8 (byteAt c 4), .int .u8 (byteAt c 5), .int .u8 (byteAt c 6), .int .u8 (byteAt c 7), .int .u8 (byteAt c 8), .int .u8 (byteAt c 9), .int .u8 (byteAt c 10), .int .u8 (byteAt c 11), .int .u8 (byteAt c 12), .int .u8 (byteAt c 13), .int .u8 (byteAt c 14), .int .u8 (byteAt c 15)], AV.int .i64 e]), [])) = true := by
  have hin := fun k => byteAt_in hu k
  simp only [shOK_ret, has_tup, has_agg, hasL_cons, hasL_nil, has_int, List.getD_cons_zero, List.getD_cons_succ, List.length_cons, List.length_nil, beq_self_eq_true, hin, he, Bool.and_self]
theorem ok4 {c : List AV} {e : Int} (hu : intsB .u8 c = true) (he : inK .i64 e = true) : shOK (.tup [.agg [.int .u8, .int .u8, .int .u8, .int .u8], .int .i64]) (some (AEnd.ret (AV.tup [AV.agg [.int .u8 (byteAt c 0), .int .u8 (byteAt c 1), .int .u8 (byteAt c 2), .int .u8 (byteAt c 3)], AV.int .i64 e]), [])) = true := by
  have hin := fun k => byteAt_in hu k
  simp only [shOK_ret, has_tup, has_agg, hasL_cons, hasL_nil, has_int, List.getD_cons_zero, List.getD_cons_succ, List.length_cons, List.length_nil, beq_self_eq_true, hin, he, Bool.and_self]
theorem byte_b8 {c : List AV} (hu : intsB .u8 c = true) : b8 (byteAt c) := by
  intro k
  have h := byteAt_in hu k
  rw [inK_u8, Bool.and_eq_true, decide_eq_true_eq, decide_eq_true_eq] at h
  exact h


theorem law_holds : ∀ xs, argsV E 4 Tryd.f4.params.toList xs → S4 xs [] (fun e H => some (e, H)) = some (.ret (.bool true), []) := by
  intro xs h
  rw [Tryd.params4] at h
  obtain ⟨u1, u2, u3, rfl, h1, h2, h3⟩ := args3 h
  obtain ⟨x, n, hx, hn, rfl⟩ := p6Arg h1 argT25 agg25
  obtain ⟨q, m, hq, hm, rfl⟩ := p4Arg h2 argT29 agg29
  obtain ⟨a, ha, rfl⟩ := a4Arg h3 argT27 agg27
  have put : ∀ {z : Nat → Int} {c : List AV}, b8 z → putW n [.int .u8 (x 0), .int .u8 (x 1), .int .u8 (x 2), .int .u8 (x 3), .int .u8 (x 4), .int .u8 (x 5), .int .u8 (x 6), .int .u8 (x 7), .int .u8 (x 8), .int .u8 (x 9), .int .u8 (x 10), .int .u8 (x 11), .int .u8 (x 12), .int .u8 (x 13), .int .u8 (x 14), .int .u8 (x 15)] [.int .u8 (z 0), .int .u8 (z 1), .int .u8 (z 2), .int .u8 (z 3)] = c → R12 [.agg [.int .u8 (x 0), .int .u8 (x 1), .int .u8 (x 2), .int .u8 (x 3), .int .u8 (x 4), .int .u8 (x 5), .int .u8 (x 6), .int .u8 (x 7), .int .u8 (x 8), .int .u8 (x 9), .int .u8 (x 10), .int .u8 (x 11), .int .u8 (x 12), .int .u8 (x 13), .int .u8 (x 14), .int .u8 (x 15), .int .i64 n], .agg [.int .u8 (z 0), .int .u8 (z 1), .int .u8 (z 2), .int .u8 (z 3)]] = some (AEnd.ret (AV.tup [AV.agg [.int .u8 (byteAt c 0), .int .u8 (byteAt c 1), .int .u8 (byteAt c 2), .int .u8 (byteAt c 3), .int .u8 (byteAt c 4), .int .u8 (byteAt c 5), .int .u8 (byteAt c 6), .int .u8 (byteAt c 7), .int .u8 (byteAt c 8), .int .u8 (byteAt c 9), .int .u8 (byteAt c 10), .int .u8 (byteAt c 11), .int .u8 (byteAt c 12), .int .u8 (byteAt c 13), .int .u8 (byteAt c 14), .int .u8 (byteAt c 15)], AV.int .i64 (embE [.int .u8 (x 0), .int .u8 (x 1), .int .u8 (x 2), .int .u8 (x 3), .int .u8 (x 4), .int .u8 (x 5), .int .u8 (x 6), .int .u8 (x 7), .int .u8 (x 8), .int .u8 (x 9), .int .u8 (x 10), .int .u8 (x 11), .int .u8 (x 12), .int .u8 (x 13), .int .u8 (x 14), .int .u8 (x 15)] n)]), []) := by
    intro z c hz hc
    have hp := putW_ok (n := n) (zs := [.int .u8 (z 0), .int .u8 (z 1), .int .u8 (z 2), .int .u8 (z 3)]) (b8_16 hx) rfl
    rw [R12_is hx hz, hc]
    rw [hc] at hp
    exact congrArg (fun c => some (AEnd.ret (AV.tup [AV.agg c, AV.int .i64 (embE [.int .u8 (x 0), .int .u8 (x 1), .int .u8 (x 2), .int .u8 (x 3), .int .u8 (x 4), .int .u8 (x 5), .int .u8 (x 6), .int .u8 (x 7), .int .u8 (x 8), .int .u8 (x 9), .int .u8 (x 10), .int .u8 (x 11), .int .u8 (x 12), .int .u8 (x 13), .int .u8 (x 14), .int .u8 (x 15)] n)]), [])) (bytes16 hp.1 hp.2)
  have hcu := putW_ok (n := n) (zs := [.int .u8 (a 0), .int .u8 (a 1), .int .u8 (a 2), .int .u8 (a 3)]) (b8_16 hx) rfl
  have hdu := putW_ok (n := n) (zs := [.int .u8 (q 0), .int .u8 (q 1), .int .u8 (q 2), .int .u8 (q 3)]) (b8_16 hx) rfl
  have e0 := put ha rfl
  have eq := put hq rfl
  have hE := embE_in [.int .u8 (x 0), .int .u8 (x 1), .int .u8 (x 2), .int .u8 (x 3), .int .u8 (x 4), .int .u8 (x 5), .int .u8 (x 6), .int .u8 (x 7), .int .u8 (x 8), .int .u8 (x 9), .int .u8 (x 10), .int .u8 (x 11), .int .u8 (x 12), .int .u8 (x 13), .int .u8 (x 14), .int .u8 (x 15)] n
  have k0 := ok16 hcu.1 hE
  have kq := ok16 hdu.1 hE
  have k9 := R9_ok (n := n) (m := m) hx hq
  have k28 : shOK (.int .i64) (some (AEnd.ret (AV.int .i64 (chkE 32 [.int .u8 (q 0), .int .u8 (q 1), .int .u8 (q 2), .int .u8 (q 3)] m)), [])) = true := chkE_in _ _ _
  cases h0 : (embE [.int .u8 (x 0), .int .u8 (x 1), .int .u8 (x 2), .int .u8 (x 3), .int .u8 (x 4), .int .u8 (x 5), .int .u8 (x 6), .int .u8 (x 7), .int .u8 (x 8), .int .u8 (x 9), .int .u8 (x 10), .int .u8 (x 11), .int .u8 (x 12), .int .u8 (x 13), .int .u8 (x 14), .int .u8 (x 15)] n != 0)
  rotate_left
  · have e1 : R9 [.agg [.int .u8 (x 0), .int .u8 (x 1), .int .u8 (x 2), .int .u8 (x 3), .int .u8 (x 4), .int .u8 (x 5), .int .u8 (x 6), .int .u8 (x 7), .int .u8 (x 8), .int .u8 (x 9), .int .u8 (x 10), .int .u8 (x 11), .int .u8 (x 12), .int .u8 (x 13), .int .u8 (x 14), .int .u8 (x 15), .int .i64 n], .agg [.int .u8 (q 0), .int .u8 (q 1), .int .u8 (q 2), .int .u8 (q 3), .int .i64 m]] = some (AEnd.ret (AV.tup [AV.agg [.int .u8 0, .int .u8 0, .int .u8 0, .int .u8 0, .int .u8 0, .int .u8 0, .int .u8 0, .int .u8 0, .int .u8 0, .int .u8 0, .int .u8 0, .int .u8 0, .int .u8 0, .int .u8 0, .int .u8 0, .int .u8 0, .int .i64 0], AV.int .i64 (embE [.int .u8 (x 0), .int .u8 (x 1), .int .u8 (x 2), .int .u8 (x 3), .int .u8 (x 4), .int .u8 (x 5), .int .u8 (x 6), .int .u8 (x 7), .int .u8 (x 8), .int .u8 (x 9), .int .u8 (x 10), .int .u8 (x 11), .int .u8 (x 12), .int .u8 (x 13), .int .u8 (x 14), .int .u8 (x 15)] n)]), []) := by
      show S9 _ [] encK = _
      rw [N9, eq, kq]
      show aIf (embE [.int .u8 (x 0), .int .u8 (x 1), .int .u8 (x 2), .int .u8 (x 3), .int .u8 (x 4), .int .u8 (x 5), .int .u8 (x 6), .int .u8 (x 7), .int .u8 (x 8), .int .u8 (x 9), .int .u8 (x 10), .int .u8 (x 11), .int .u8 (x 12), .int .u8 (x 13), .int .u8 (x 14), .int .u8 (x 15)] n != 0) _ _ = _
      rw [h0]; rfl
    rw [e1] at k9
    rw [N4 x q a n m e0.symm e1.symm rfl rfl rfl, k0, k9]
    show aIf (embE [.int .u8 (x 0), .int .u8 (x 1), .int .u8 (x 2), .int .u8 (x 3), .int .u8 (x 4), .int .u8 (x 5), .int .u8 (x 6), .int .u8 (x 7), .int .u8 (x 8), .int .u8 (x 9), .int .u8 (x 10), .int .u8 (x 11), .int .u8 (x 12), .int .u8 (x 13), .int .u8 (x 14), .int .u8 (x 15)] n != 0) (some (AEnd.ret (AV.bool (embE [.int .u8 (x 0), .int .u8 (x 1), .int .u8 (x 2), .int .u8 (x 3), .int .u8 (x 4), .int .u8 (x 5), .int .u8 (x 6), .int .u8 (x 7), .int .u8 (x 8), .int .u8 (x 9), .int .u8 (x 10), .int .u8 (x 11), .int .u8 (x 12), .int .u8 (x 13), .int .u8 (x 14), .int .u8 (x 15)] n != 0)), [])) _ = _
    rw [h0]; rfl
  have he : embE [.int .u8 (x 0), .int .u8 (x 1), .int .u8 (x 2), .int .u8 (x 3), .int .u8 (x 4), .int .u8 (x 5), .int .u8 (x 6), .int .u8 (x 7), .int .u8 (x 8), .int .u8 (x 9), .int .u8 (x 10), .int .u8 (x 11), .int .u8 (x 12), .int .u8 (x 13), .int .u8 (x 14), .int .u8 (x 15)] n = 0 := by simpa using h0
  cases hc : (chkE 32 [.int .u8 (q 0), .int .u8 (q 1), .int .u8 (q 2), .int .u8 (q 3)] m != 0)
  rotate_left
  · have e1 : R9 [.agg [.int .u8 (x 0), .int .u8 (x 1), .int .u8 (x 2), .int .u8 (x 3), .int .u8 (x 4), .int .u8 (x 5), .int .u8 (x 6), .int .u8 (x 7), .int .u8 (x 8), .int .u8 (x 9), .int .u8 (x 10), .int .u8 (x 11), .int .u8 (x 12), .int .u8 (x 13), .int .u8 (x 14), .int .u8 (x 15), .int .i64 n], .agg [.int .u8 (q 0), .int .u8 (q 1), .int .u8 (q 2), .int .u8 (q 3), .int .i64 m]] = some (AEnd.ret (AV.tup [AV.agg [.int .u8 0, .int .u8 0, .int .u8 0, .int .u8 0, .int .u8 0, .int .u8 0, .int .u8 0, .int .u8 0, .int .u8 0, .int .u8 0, .int .u8 0, .int .u8 0, .int .u8 0, .int .u8 0, .int .u8 0, .int .u8 0, .int .i64 0], AV.int .i64 (chkE 32 [.int .u8 (q 0), .int .u8 (q 1), .int .u8 (q 2), .int .u8 (q 3)] m)]), []) := by
      show S9 _ [] encK = _
      rw [N9, eq, kq, R28_is hq, k28]
      show aIf (embE [.int .u8 (x 0), .int .u8 (x 1), .int .u8 (x 2), .int .u8 (x 3), .int .u8 (x 4), .int .u8 (x 5), .int .u8 (x 6), .int .u8 (x 7), .int .u8 (x 8), .int .u8 (x 9), .int .u8 (x 10), .int .u8 (x 11), .int .u8 (x 12), .int .u8 (x 13), .int .u8 (x 14), .int .u8 (x 15)] n != 0) _ (aIf (chkE 32 [.int .u8 (q 0), .int .u8 (q 1), .int .u8 (q 2), .int .u8 (q 3)] m != 0) _ _) = _
      rw [h0, hc]; rfl
    rw [e1] at k9
    rw [N4 x q a n m e0.symm e1.symm rfl rfl rfl, k0, k9]
    show aIf (embE [.int .u8 (x 0), .int .u8 (x 1), .int .u8 (x 2), .int .u8 (x 3), .int .u8 (x 4), .int .u8 (x 5), .int .u8 (x 6), .int .u8 (x 7), .int .u8 (x 8), .int .u8 (x 9), .int .u8 (x 10), .int .u8 (x 11), .int .u8 (x 12), .int .u8 (x 13), .int .u8 (x 14), .int .u8 (x 15)] n != 0) _ (aIf (chkE 32 [.int .u8 (q 0), .int .u8 (q 1), .int .u8 (q 2), .int .u8 (q 3)] m != 0) (some (AEnd.ret (AV.bool (chkE 32 [.int .u8 (q 0), .int .u8 (q 1), .int .u8 (q 2), .int .u8 (q 3)] m != 0)), [])) _) = _
    rw [h0, hc]; rfl
  have hc0 : chkE 32 [.int .u8 (q 0), .int .u8 (q 1), .int .u8 (q 2), .int .u8 (q 3)] m = 0 := by simpa using hc
  obtain ⟨c0, hn6, _, _⟩ := embE_zero he
  have hm2 : 0 ≤ m ∧ m ≤ 32 := by
    rcases chkE_or 32 [.int .u8 (q 0), .int .u8 (q 1), .int .u8 (q 2), .int .u8 (q 3)] m with ⟨_, g1, g2, _⟩ | g
    · exact ⟨g1, g2⟩
    · rw [g] at hc0; cases hc0
  obtain ⟨l1, l2, l3⟩ := lenI (n := n) (m := m) (by omega) (by omega) hm2.1 hm2.2
  obtain ⟨w1, w2⟩ := within_all hx hq ha he hc0
  obtain ⟨ga, _, _⟩ := fwd_all hx ha he
  have hwa : putW n [.int .u8 (x 0), .int .u8 (x 1), .int .u8 (x 2), .int .u8 (x 3), .int .u8 (x 4), .int .u8 (x 5), .int .u8 (x 6), .int .u8 (x 7), .int .u8 (x 8), .int .u8 (x 9), .int .u8 (x 10), .int .u8 (x 11), .int .u8 (x 12), .int .u8 (x 13), .int .u8 (x 14), .int .u8 (x 15)] [.int .u8 (a 0), .int .u8 (a 1), .int .u8 (a 2), .int .u8 (a 3)] = layX n [.int .u8 (a 0), .int .u8 (a 1), .int .u8 (a 2), .int .u8 (a 3)] [.int .u8 (x 0), .int .u8 (x 1), .int .u8 (x 2), .int .u8 (x 3), .int .u8 (x 4), .int .u8 (x 5), .int .u8 (x 6), .int .u8 (x 7), .int .u8 (x 8), .int .u8 (x 9), .int .u8 (x 10), .int .u8 (x 11), .int .u8 (x 12), .int .u8 (x 13), .int .u8 (x 14), .int .u8 (x 15)] := by unfold putW; rw [he]; rfl
  have hwq : putW n [.int .u8 (x 0), .int .u8 (x 1), .int .u8 (x 2), .int .u8 (x 3), .int .u8 (x 4), .int .u8 (x 5), .int .u8 (x 6), .int .u8 (x 7), .int .u8 (x 8), .int .u8 (x 9), .int .u8 (x 10), .int .u8 (x 11), .int .u8 (x 12), .int .u8 (x 13), .int .u8 (x 14), .int .u8 (x 15)] [.int .u8 (q 0), .int .u8 (q 1), .int .u8 (q 2), .int .u8 (q 3)] = layX n [.int .u8 (q 0), .int .u8 (q 1), .int .u8 (q 2), .int .u8 (q 3)] [.int .u8 (x 0), .int .u8 (x 1), .int .u8 (x 2), .int .u8 (x 3), .int .u8 (x 4), .int .u8 (x 5), .int .u8 (x 6), .int .u8 (x 7), .int .u8 (x 8), .int .u8 (x 9), .int .u8 (x 10), .int .u8 (x 11), .int .u8 (x 12), .int .u8 (x 13), .int .u8 (x 14), .int .u8 (x 15)] := by unfold putW; rw [he]; rfl
  rw [← hwa] at ga
  rw [← hwa, ← hwq] at w2
  rw [← hwq] at w1
  have hin : inB 128 [.int .u8 (x 0), .int .u8 (x 1), .int .u8 (x 2), .int .u8 (x 3), .int .u8 (x 4), .int .u8 (x 5), .int .u8 (x 6), .int .u8 (x 7), .int .u8 (x 8), .int .u8 (x 9), .int .u8 (x 10), .int .u8 (x 11), .int .u8 (x 12), .int .u8 (x 13), .int .u8 (x 14), .int .u8 (x 15)] (putW n [.int .u8 (x 0), .int .u8 (x 1), .int .u8 (x 2), .int .u8 (x 3), .int .u8 (x 4), .int .u8 (x 5), .int .u8 (x 6), .int .u8 (x 7), .int .u8 (x 8), .int .u8 (x 9), .int .u8 (x 10), .int .u8 (x 11), .int .u8 (x 12), .int .u8 (x 13), .int .u8 (x 14), .int .u8 (x 15)] [.int .u8 (a 0), .int .u8 (a 1), .int .u8 (a 2), .int .u8 (a 3)]) n = true := by
    rcases getEr_or n [.int .u8 (x 0), .int .u8 (x 1), .int .u8 (x 2), .int .u8 (x 3), .int .u8 (x 4), .int .u8 (x 5), .int .u8 (x 6), .int .u8 (x 7), .int .u8 (x 8), .int .u8 (x 9), .int .u8 (x 10), .int .u8 (x 11), .int .u8 (x 12), .int .u8 (x 13), .int .u8 (x 14), .int .u8 (x 15)] (putW n [.int .u8 (x 0), .int .u8 (x 1), .int .u8 (x 2), .int .u8 (x 3), .int .u8 (x 4), .int .u8 (x 5), .int .u8 (x 6), .int .u8 (x 7), .int .u8 (x 8), .int .u8 (x 9), .int .u8 (x 10), .int .u8 (x 11), .int .u8 (x 12), .int .u8 (x 13), .int .u8 (x 14), .int .u8 (x 15)] [.int .u8 (a 0), .int .u8 (a 1), .int .u8 (a 2), .int .u8 (a 3)]) with ⟨_, _, g, _⟩ | g | g | g | g
    · exact g
    · rw [g] at ga; cases ga
    · rw [g] at ga; cases ga
    · rw [g] at ga; cases ga
    · rw [g] at ga; cases ga
  generalize putW n [.int .u8 (x 0), .int .u8 (x 1), .int .u8 (x 2), .int .u8 (x 3), .int .u8 (x 4), .int .u8 (x 5), .int .u8 (x 6), .int .u8 (x 7), .int .u8 (x 8), .int .u8 (x 9), .int .u8 (x 10), .int .u8 (x 11), .int .u8 (x 12), .int .u8 (x 13), .int .u8 (x 14), .int .u8 (x 15)] [.int .u8 (a 0), .int .u8 (a 1), .int .u8 (a 2), .int .u8 (a 3)] = c at *
  generalize putW n [.int .u8 (x 0), .int .u8 (x 1), .int .u8 (x 2), .int .u8 (x 3), .int .u8 (x 4), .int .u8 (x 5), .int .u8 (x 6), .int .u8 (x 7), .int .u8 (x 8), .int .u8 (x 9), .int .u8 (x 10), .int .u8 (x 11), .int .u8 (x 12), .int .u8 (x 13), .int .u8 (x 14), .int .u8 (x 15)] [.int .u8 (q 0), .int .u8 (q 1), .int .u8 (q 2), .int .u8 (q 3)] = d at *
  have hcb := bytes16 hcu.1 hcu.2
  have hdb := bytes16 hdu.1 hdu.2
  have e1 : R9 [.agg [.int .u8 (x 0), .int .u8 (x 1), .int .u8 (x 2), .int .u8 (x 3), .int .u8 (x 4), .int .u8 (x 5), .int .u8 (x 6), .int .u8 (x 7), .int .u8 (x 8), .int .u8 (x 9), .int .u8 (x 10), .int .u8 (x 11), .int .u8 (x 12), .int .u8 (x 13), .int .u8 (x 14), .int .u8 (x 15), .int .i64 n], .agg [.int .u8 (q 0), .int .u8 (q 1), .int .u8 (q 2), .int .u8 (q 3), .int .i64 m]] = some (AEnd.ret (AV.tup [AV.agg [.int .u8 (byteAt d 0), .int .u8 (byteAt d 1), .int .u8 (byteAt d 2), .int .u8 (byteAt d 3), .int .u8 (byteAt d 4), .int .u8 (byteAt d 5), .int .u8 (byteAt d 6), .int .u8 (byteAt d 7), .int .u8 (byteAt d 8), .int .u8 (byteAt d 9), .int .u8 (byteAt d 10), .int .u8 (byteAt d 11), .int .u8 (byteAt d 12), .int .u8 (byteAt d 13), .int .u8 (byteAt d 14), .int .u8 (byteAt d 15), .int .i64 ((lenN n.toNat m.toNat : Nat) : Int)], AV.int .i64 0]), []) := by
    show S9 _ [] encK = _
    rw [N9, eq, kq, R28_is hq, k28, l1, l2, l3]
    show aIf (embE [.int .u8 (x 0), .int .u8 (x 1), .int .u8 (x 2), .int .u8 (x 3), .int .u8 (x 4), .int .u8 (x 5), .int .u8 (x 6), .int .u8 (x 7), .int .u8 (x 8), .int .u8 (x 9), .int .u8 (x 10), .int .u8 (x 11), .int .u8 (x 12), .int .u8 (x 13), .int .u8 (x 14), .int .u8 (x 15)] n != 0) _ (aIf (chkE 32 [.int .u8 (q 0), .int .u8 (q 1), .int .u8 (q 2), .int .u8 (q 3)] m != 0) _ (aIf (decide (n ≤ 64)) (aIf (decide (n + m > 64)) _ _) _)) = _
    rw [h0, hc]
    cases decide (n ≤ 64)
    · rfl
    · cases decide (n + m > 64) <;> rfl
  rw [e1] at k9
  have e2 : R13 [.agg [.int .u8 (x 0), .int .u8 (x 1), .int .u8 (x 2), .int .u8 (x 3), .int .u8 (x 4), .int .u8 (x 5), .int .u8 (x 6), .int .u8 (x 7), .int .u8 (x 8), .int .u8 (x 9), .int .u8 (x 10), .int .u8 (x 11), .int .u8 (x 12), .int .u8 (x 13), .int .u8 (x 14), .int .u8 (x 15), .int .i64 n], .agg [.int .u8 (byteAt c 0), .int .u8 (byteAt c 1), .int .u8 (byteAt c 2), .int .u8 (byteAt c 3), .int .u8 (byteAt c 4), .int .u8 (byteAt c 5), .int .u8 (byteAt c 6), .int .u8 (byteAt c 7), .int .u8 (byteAt c 8), .int .u8 (byteAt c 9), .int .u8 (byteAt c 10), .int .u8 (byteAt c 11), .int .u8 (byteAt c 12), .int .u8 (byteAt c 13), .int .u8 (byteAt c 14), .int .u8 (byteAt c 15)]] = some (AEnd.ret (AV.tup [AV.bool true, AV.int .i64 0]), []) := by
    rw [R13_is hx (byte_b8 hcu.1), ← hcb, hin, c0]
  have e3 : R13 [.agg [.int .u8 (byteAt d 0), .int .u8 (byteAt d 1), .int .u8 (byteAt d 2), .int .u8 (byteAt d 3), .int .u8 (byteAt d 4), .int .u8 (byteAt d 5), .int .u8 (byteAt d 6), .int .u8 (byteAt d 7), .int .u8 (byteAt d 8), .int .u8 (byteAt d 9), .int .u8 (byteAt d 10), .int .u8 (byteAt d 11), .int .u8 (byteAt d 12), .int .u8 (byteAt d 13), .int .u8 (byteAt d 14), .int .u8 (byteAt d 15), .int .i64 ((lenN n.toNat m.toNat : Nat) : Int)], .agg [.int .u8 (byteAt c 0), .int .u8 (byteAt c 1), .int .u8 (byteAt c 2), .int .u8 (byteAt c 3), .int .u8 (byteAt c 4), .int .u8 (byteAt c 5), .int .u8 (byteAt c 6), .int .u8 (byteAt c 7), .int .u8 (byteAt c 8), .int .u8 (byteAt c 9), .int .u8 (byteAt c 10), .int .u8 (byteAt c 11), .int .u8 (byteAt c 12), .int .u8 (byteAt c 13), .int .u8 (byteAt c 14), .int .u8 (byteAt c 15)]] = some (AEnd.ret (AV.tup [AV.bool (inB 32 [.int .u8 (q 0), .int .u8 (q 1), .int .u8 (q 2), .int .u8 (q 3)] [.int .u8 (a 0), .int .u8 (a 1), .int .u8 (a 2), .int .u8 (a 3)] m), AV.int .i64 0]), []) := by
    rw [R13_is (byte_b8 hdu.1) (byte_b8 hcu.1), ← hcb, ← hdb, w1, w2]
  have e4 : R14 [.agg [.int .u8 (q 0), .int .u8 (q 1), .int .u8 (q 2), .int .u8 (q 3), .int .i64 m], .agg [.int .u8 (a 0), .int .u8 (a 1), .int .u8 (a 2), .int .u8 (a 3)]] = some (AEnd.ret (AV.tup [AV.bool (inB 32 [.int .u8 (q 0), .int .u8 (q 1), .int .u8 (q 2), .int .u8 (q 3)] [.int .u8 (a 0), .int .u8 (a 1), .int .u8 (a 2), .int .u8 (a 3)] m), AV.int .i64 0]), []) := by
    rw [R14_is hq ha, hc0]
  rw [N4 x q a n m e0.symm e1.symm e2.symm e3.symm e4.symm, k0, k9]
  show aIf (embE [.int .u8 (x 0), .int .u8 (x 1), .int .u8 (x 2), .int .u8 (x 3), .int .u8 (x 4), .int .u8 (x 5), .int .u8 (x 6), .int .u8 (x 7), .int .u8 (x 8), .int .u8 (x 9), .int .u8 (x 10), .int .u8 (x 11), .int .u8 (x 12), .int .u8 (x 13), .int .u8 (x 14), .int .u8 (x 15)] n != 0) _ (some (AEnd.ret (AV.bool (inB 32 [.int .u8 (q 0), .int .u8 (q 1), .int .u8 (q 2), .int .u8 (q 3)] [.int .u8 (a 0), .int .u8 (a 1), .int .u8 (a 2), .int .u8 (a 3)] m == inB 32 [.int .u8 (q 0), .int .u8 (q 1), .int .u8 (q 2), .int .u8 (q 3)] [.int .u8 (a 0), .int .u8 (a 1), .int .u8 (a 2), .int .u8 (a 3)] m)), [])) = _
  rw [h0, beq_self_eq_true]; rfl

theorem law_spec {H : Type} (ds : List (DataW H)) (h : ds.length = Tryd.f4.params.toList.length) : (Rows.embedWithinSpec.fn H (ds ++ [])).results = [.lit (.bool true)] ∧ (Rows.embedWithinSpec.fn H (ds ++ [])).args = ds ∧ (Rows.embedWithinSpec.fn H (ds ++ [])).vars = [] := by
  rw [Tryd.params4] at h
  match ds, h with
  | [d0, d1, d2], _ => exact ⟨rfl, rfl, rfl⟩

theorem tab1 {W : World} (h : laidMet Tryd.prog Rows.embedWithinRow.laid W) : Lib.TabIs Tryd.prog W "math/bits.deBruijn32tab" .u8 [0, 1, 28, 2, 29, 14, 24, 3, 30, 22, 20, 15, 25, 17, 4, 8, 31, 27, 13, 23, 21, 19, 16, 7, 26, 12, 18, 6, 11, 5, 10, 9] :=
  Lib.tabIs_of_head (g := 1) (t := 108) (e := 5) (n := 32) (by kernel_rfl) (by kernel_rfl) (by kernel_rfl) (by kernel_rfl) (by kernel_rfl) (by kernel_rfl) h
theorem tab2 {W : World} (h : laidMet Tryd.prog Rows.embedWithinRow.laid W) : Lib.TabIs Tryd.prog W "math/bits.deBruijn64tab" .u8 [0, 1, 56, 2, 57, 49, 28, 3, 61, 58, 42, 50, 38, 29, 17, 4, 62, 47, 59, 36, 45, 43, 51, 22, 53, 39, 33, 30, 24, 18, 12, 5, 63, 55, 48, 27, 60, 41, 37, 16, 46, 35, 44, 21, 52, 32, 23, 11, 54, 26, 40, 15, 34, 20, 31, 10, 25, 14, 19, 9, 13, 8, 7, 6] :=
  Lib.tabIs_of_head (g := 2) (t := 109) (e := 5) (n := 64) (by kernel_rfl) (by kernel_rfl) (by kernel_rfl) (by kernel_rfl) (by kernel_rfl) (by kernel_rfl) h.tail
theorem tab0 {W : World} (h : laidMet Tryd.prog Rows.embedWithinRow.laid W) : Lib.TabIs Tryd.prog W "internal/strconv.uint64pow10" .u64 [1, 10, 100, 1000, 10000, 100000, 1000000, 10000000, 100000000, 1000000000, 10000000000, 100000000000, 1000000000000, 10000000000000, 100000000000000, 1000000000000000, 10000000000000000, 100000000000000000, 1000000000000000000, 10000000000000000000] :=
  Lib.tabIs_of_head (g := 0) (t := 101) (e := 93) (n := 20) (by kernel_rfl) (by kernel_rfl) (by kernel_rfl) (by kernel_rfl) (by kernel_rfl) (by kernel_rfl) h.tail.tail
theorem globs {W : World} (h : laidMet Tryd.prog Rows.embedWithinRow.laid W) : GlobOK W.cell? := by
  intro g i x hx
  match g with
  | 0 =>
    have := fun i hi => (tab0 h).cell (g := 0) (by kernel_rfl) i hi
    exact globTab this hx
  | 1 =>
    have := fun i hi => (tab1 h).cell (g := 1) (by kernel_rfl) i hi
    exact globTab this hx
  | 2 =>
    have := fun i hi => (tab2 h).cell (g := 2) (by kernel_rfl) i hi
    exact globTab this hx
  | g + 3 => simp [globInts] at hx

set_option maxRecDepth 100000 in
theorem law_lifted (os : Os) (started : os.Started) (H : Type) (enc : TypeId × Value → H) :
    ReturnsInHanded {} Tryd.checked os 4 .any (fun w args => (Rows.embedWithinSpec.pre enc Tryd.prog Tryd.f4 Rows.embedWithinRow.domain false w args ∧ laidMetH Tryd.prog Rows.embedWithinRow.laid w) ∧ sizedMet enc Tryd.prog Tryd.f4 (OpenSpec.ofChange Rows.embedWithinSpec) false w args)
      (Rows.embedWithinSpec.post enc Tryd.prog Tryd.f4 false true false false) := by
  refine returnsInHanded_of_change_and (C := Tryd.checked) (X := fun w _ => laidMetH Tryd.prog Rows.embedWithinRow.laid w) (fun _ _ _ hh h => h.of_heap hh) own started (by kernel_rfl) Tryd.func4
    (ChangeSpec.witness_shaped (enc := enc) (C := Tryd.checked) (os := os) (X := fun w _ => laidMetH Tryd.prog Rows.embedWithinRow.laid w) false (World.laidAll Tryd.prog os Rows.embedWithinRow.laid) #[.agg #[.int .u8 0, .int .u8 0, .int .u8 0, .int .u8 0, .int .u8 0, .int .u8 0, .int .u8 0, .int .u8 0, .int .u8 0, .int .u8 0, .int .u8 0, .int .u8 0, .int .u8 0, .int .u8 0, .int .u8 0, .int .u8 0, .int .i64 0], .agg #[.int .u8 0, .int .u8 0, .int .u8 0, .int .u8 0, .int .i64 0], .agg #[.int .u8 0, .int .u8 0, .int .u8 0, .int .u8 0]] 8 (World.laidAll_os _ _ _)
      (World.shaped_of_ZipB (by kernel_rfl) (by kernel_rfl)) (by kernel_rfl) (by kernel_rfl) (by kernel_rfl)
      (by rw [MakeChecks.laidMetH_plain _ _ _ (by kernel_rfl)]; exact laidMet_laidAll _ (by kernel_rfl) (by kernel_rfl))) ?_
  intro W base args ds gs before hval hW _ _ hL _
  have hL' : laidMet Tryd.prog Rows.embedWithinRow.laid W := by rw [MakeChecks.laidMetH_plain _ _ _ (by kernel_rfl)] at hL; exact hL
  exact law_post (P := Tryd.prog) (E := E) (D := 4) (tb := 4) (fn := Tryd.f4) E_ok laidOut (by kernel_rfl) rfl (by kernel_rfl) rfl law_spec S4_ok law_holds (globs hL') hval hW

theorem embedWithin_row : Rows.EmbedWithinSaid :=
  OpenClaim.holds_of_wide 4 Tryd.f4 rfl rfl rfl rfl rfl rfl rfl ⟨rfl, rfl, rfl, rfl, rfl⟩ rfl rfl rfl rfl rfl (by kernel_rfl) Tryd.func4 (by kernel_rfl)
    (of_decide_eq_true (by kernel_rfl)) (by unfold Func.isWrapper; first | (rw [if_pos (by decide +kernel)]; kernel_rfl) | (rw [if_neg (by decide +kernel)]; exact ⟨rfl, rfl⟩))
    (fun os started H enc _ => law_lifted os started H enc)

theorem embedWithin_holds : Rows.EmbedWithinCardSaid :=
  Claim7.holds_tied_plain_at .later [] [.data, .data, .data] true (true, "3469146600ab8a648211d9da940bb2167aef66d77c08a1e048648ce454489489") false
    embedWithin_row (fun _ h => by cases h) (by kernel_rfl) (fun _ h => by cases h) embedWithin_row_tie rfl ⟨rfl, rfl⟩ (by kernel_rfl) rfl
    (fun f fn hf hfn => by
      obtain rfl : f = 4 := Option.some.inj ((show Tryd.prog.funcNamed Rows.embedWithinRow.func = some 4 by kernel_rfl).symm.trans hf) |>.symm
      obtain rfl : fn = Tryd.f4 := (Option.some.inj (Tryd.func4.symm.trans hfn)).symm
      exact ⟨by kernel_rfl, fun j t ht => by
        have hm : t ∈ Tryd.f4.params.toList := by
          rw [← Array.getElem?_toList] at ht
          exact List.mem_of_getElem? ht
        have ha : Tryd.f4.params.toList.all (fun t => !Tryd.prog.wantsStandIn t) = true := by kernel_rfl
        have := List.all_eq_true.1 ha t hm
        exact (show Tryd.prog.wantsStandIn t = false by simpa using this)⟩)
    (by kernel_rfl)

#print axioms embedWithin_holds

end Go.Proofs.YtkbnhliogfcplaaDoor

