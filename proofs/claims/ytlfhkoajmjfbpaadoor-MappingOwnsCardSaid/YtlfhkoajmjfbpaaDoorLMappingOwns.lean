/- MappingOwns: which edge owns which address and port, and whether an address is the MAP address of these, are the document's -/
import Derived.Test.YtlfhkoajmjfbpaaDoorFMappingOwns
import Derived.Test.YtlfhkoajmjfbpaaDoorA20
import Derived.Test.YtlfhkoajmjfbpaaDoorPMapArg
import Derived.Test.YtlfhkoajmjfbpaaDoorPMapAns
import Derived.Test.YtlfhkoajmjfbpaaDoorPMapLaw
import Derived.ProofKit
import Derived.Lay
import Derived.LaidMore
import Derived.SevenTiedAt
import Derived.Lib.LaidTab
import Derived.Stop.LaidErr
import Derived.Stop.Joined
import Derived.Test.YtlfhkoajmjfbpaaDoorTie
import Derived.Test.YtlfhkoajmjfbpaaDoorCards
namespace Go.Proofs.YtlfhkoajmjfbpaaDoor
open Go.Abs Go.Pl Go.RowKit Go.ChangeShapes Go.WideShapes Go.ChangeAt

theorem own : ownKnob Tryd.prog.godebug = none := by kernel_rfl
theorem laidOut : laidOutB Tryd.prog = true := by kernel_rfl
theorem argT23 (xs : List AV) : argT E 4 23 xs = a6T xs := by kernel_rfl
theorem agg23 : aggT E 23 = true := by kernel_rfl
theorem argT27 (xs : List AV) : argT E 4 27 xs = a4T xs := by kernel_rfl
theorem agg27 : aggT E 27 = true := by kernel_rfl
theorem argT31 (xs : List AV) : argT E 4 31 xs = ruleT xs := by kernel_rfl
theorem agg31 : aggT E 31 = true := by kernel_rfl
theorem argT33 (xs : List AV) : argT E 4 33 xs = intT .u16 xs := by kernel_rfl
theorem agg33 : aggT E 33 = false := by kernel_rfl
theorem argT37 (xs : List AV) : argT E 4 37 xs = edgeT xs := by kernel_rfl
theorem agg37 : aggT E 37 = true := by kernel_rfl

set_option maxRecDepth 20000 in
theorem N7 (v s u : Nat → Int) (k l a b q : Int) (x z : Nat → Int) (n m e o : Int) (f : Bool) (y w : Nat → Int) (p : Int)
    {r0 : _} (h0 : r0 = R19 [AV.agg [AV.int IntKind.u8 (v 0), AV.int IntKind.u8 (v 1), AV.int IntKind.u8 (v 2), AV.int IntKind.u8 (v 3), AV.int IntKind.i64 k, AV.int IntKind.i64 a, AV.int IntKind.i64 b, AV.int IntKind.u16 q, AV.int IntKind.u8 (s 0), AV.int IntKind.u8 (s 1), AV.int IntKind.u8 (s 2), AV.int IntKind.u8 (s 3), AV.int IntKind.u8 (s 4), AV.int IntKind.u8 (s 5), AV.int IntKind.u8 (s 6), AV.int IntKind.u8 (s 7), AV.int IntKind.u8 (s 8), AV.int IntKind.u8 (s 9), AV.int IntKind.u8 (s 10), AV.int IntKind.u8 (s 11), AV.int IntKind.u8 (s 12), AV.int IntKind.u8 (s 13), AV.int IntKind.u8 (s 14), AV.int IntKind.u8 (s 15), AV.int IntKind.i64 l, AV.int IntKind.u8 (u 0), AV.int IntKind.u8 (u 1), AV.int IntKind.u8 (u 2), AV.int IntKind.u8 (u 3), AV.int IntKind.u8 (u 4), AV.int IntKind.u8 (u 5), AV.int IntKind.u8 (u 6), AV.int IntKind.u8 (u 7), AV.int IntKind.u8 (u 8), AV.int IntKind.u8 (u 9), AV.int IntKind.u8 (u 10), AV.int IntKind.u8 (u 11), AV.int IntKind.u8 (u 12), AV.int IntKind.u8 (u 13), AV.int IntKind.u8 (u 14), AV.int IntKind.u8 (u 15)], AV.agg [AV.int IntKind.u8 (w 0), AV.int IntKind.u8 (w 1), AV.int IntKind.u8 (w 2), AV.int IntKind.u8 (w 3)], AV.int IntKind.u16 p])
    {r1 : _} (h1 : r1 = R27 [AV.agg [AV.int IntKind.u8 (v 0), AV.int IntKind.u8 (v 1), AV.int IntKind.u8 (v 2), AV.int IntKind.u8 (v 3), AV.int IntKind.i64 k, AV.int IntKind.i64 a, AV.int IntKind.i64 b, AV.int IntKind.u16 q, AV.int IntKind.u8 (s 0), AV.int IntKind.u8 (s 1), AV.int IntKind.u8 (s 2), AV.int IntKind.u8 (s 3), AV.int IntKind.u8 (s 4), AV.int IntKind.u8 (s 5), AV.int IntKind.u8 (s 6), AV.int IntKind.u8 (s 7), AV.int IntKind.u8 (s 8), AV.int IntKind.u8 (s 9), AV.int IntKind.u8 (s 10), AV.int IntKind.u8 (s 11), AV.int IntKind.u8 (s 12), AV.int IntKind.u8 (s 13), AV.int IntKind.u8 (s 14), AV.int IntKind.u8 (s 15), AV.int IntKind.i64 l, AV.int IntKind.u8 (u 0), AV.int IntKind.u8 (u 1), AV.int IntKind.u8 (u 2), AV.int IntKind.u8 (u 3), AV.int IntKind.u8 (u 4), AV.int IntKind.u8 (u 5), AV.int IntKind.u8 (u 6), AV.int IntKind.u8 (u 7), AV.int IntKind.u8 (u 8), AV.int IntKind.u8 (u 9), AV.int IntKind.u8 (u 10), AV.int IntKind.u8 (u 11), AV.int IntKind.u8 (u 12), AV.int IntKind.u8 (u 13), AV.int IntKind.u8 (u 14), AV.int IntKind.u8 (u 15)], AV.agg [AV.int IntKind.u8 (w 0), AV.int IntKind.u8 (w 1), AV.int IntKind.u8 (w 2), AV.int IntKind.u8 (w 3)], AV.int IntKind.u16 p])
    {r2 : _} (h2 : r2 = R28 [AV.agg [AV.int IntKind.u8 (x 0), AV.int IntKind.u8 (x 1), AV.int IntKind.u8 (x 2), AV.int IntKind.u8 (x 3), AV.int IntKind.u8 (x 4), AV.int IntKind.u8 (x 5), AV.int IntKind.u8 (x 6), AV.int IntKind.u8 (x 7), AV.int IntKind.u8 (x 8), AV.int IntKind.u8 (x 9), AV.int IntKind.u8 (x 10), AV.int IntKind.u8 (x 11), AV.int IntKind.u8 (x 12), AV.int IntKind.u8 (x 13), AV.int IntKind.u8 (x 14), AV.int IntKind.u8 (x 15), AV.int IntKind.i64 n, AV.int IntKind.u8 (z 0), AV.int IntKind.u8 (z 1), AV.int IntKind.u8 (z 2), AV.int IntKind.u8 (z 3), AV.int IntKind.i64 m, AV.int IntKind.i64 e, AV.int IntKind.i64 o, AV.bool f], AV.agg [AV.int IntKind.u8 (y 0), AV.int IntKind.u8 (y 1), AV.int IntKind.u8 (y 2), AV.int IntKind.u8 (y 3), AV.int IntKind.u8 (y 4), AV.int IntKind.u8 (y 5), AV.int IntKind.u8 (y 6), AV.int IntKind.u8 (y 7), AV.int IntKind.u8 (y 8), AV.int IntKind.u8 (y 9), AV.int IntKind.u8 (y 10), AV.int IntKind.u8 (y 11), AV.int IntKind.u8 (y 12), AV.int IntKind.u8 (y 13), AV.int IntKind.u8 (y 14), AV.int IntKind.u8 (y 15)], AV.agg [AV.int IntKind.u8 (w 0), AV.int IntKind.u8 (w 1), AV.int IntKind.u8 (w 2), AV.int IntKind.u8 (w 3)], AV.int IntKind.u16 p])
    {r3 : _} (h3 : r3 = R29 [AV.agg [AV.int IntKind.u8 (x 0), AV.int IntKind.u8 (x 1), AV.int IntKind.u8 (x 2), AV.int IntKind.u8 (x 3), AV.int IntKind.u8 (x 4), AV.int IntKind.u8 (x 5), AV.int IntKind.u8 (x 6), AV.int IntKind.u8 (x 7), AV.int IntKind.u8 (x 8), AV.int IntKind.u8 (x 9), AV.int IntKind.u8 (x 10), AV.int IntKind.u8 (x 11), AV.int IntKind.u8 (x 12), AV.int IntKind.u8 (x 13), AV.int IntKind.u8 (x 14), AV.int IntKind.u8 (x 15), AV.int IntKind.i64 n, AV.int IntKind.u8 (z 0), AV.int IntKind.u8 (z 1), AV.int IntKind.u8 (z 2), AV.int IntKind.u8 (z 3), AV.int IntKind.i64 m, AV.int IntKind.i64 e, AV.int IntKind.i64 o, AV.bool f], AV.agg [AV.int IntKind.u8 (y 0), AV.int IntKind.u8 (y 1), AV.int IntKind.u8 (y 2), AV.int IntKind.u8 (y 3), AV.int IntKind.u8 (y 4), AV.int IntKind.u8 (y 5), AV.int IntKind.u8 (y 6), AV.int IntKind.u8 (y 7), AV.int IntKind.u8 (y 8), AV.int IntKind.u8 (y 9), AV.int IntKind.u8 (y 10), AV.int IntKind.u8 (y 11), AV.int IntKind.u8 (y 12), AV.int IntKind.u8 (y 13), AV.int IntKind.u8 (y 14), AV.int IntKind.u8 (y 15)], AV.agg [AV.int IntKind.u8 (w 0), AV.int IntKind.u8 (w 1), AV.int IntKind.u8 (w 2), AV.int IntKind.u8 (w 3)], AV.int IntKind.u16 p]) :
  S7 [.agg [.int .u8 (v 0), .int .u8 (v 1), .int .u8 (v 2), .int .u8 (v 3), .int .i64 k, .int .i64 a, .int .i64 b, .int .u16 q, .int .u8 (s 0), .int .u8 (s 1), .int .u8 (s 2), .int .u8 (s 3), .int .u8 (s 4), .int .u8 (s 5), .int .u8 (s 6), .int .u8 (s 7), .int .u8 (s 8), .int .u8 (s 9), .int .u8 (s 10), .int .u8 (s 11), .int .u8 (s 12), .int .u8 (s 13), .int .u8 (s 14), .int .u8 (s 15), .int .i64 l, .int .u8 (u 0), .int .u8 (u 1), .int .u8 (u 2), .int .u8 (u 3), .int .u8 (u 4), .int .u8 (u 5), .int .u8 (u 6), .int .u8 (u 7), .int .u8 (u 8), .int .u8 (u 9), .int .u8 (u 10), .int .u8 (u 11), .int .u8 (u 12), .int .u8 (u 13), .int .u8 (u 14), .int .u8 (u 15)], .agg [.int .u8 (x 0), .int .u8 (x 1), .int .u8 (x 2), .int .u8 (x 3), .int .u8 (x 4), .int .u8 (x 5), .int .u8 (x 6), .int .u8 (x 7), .int .u8 (x 8), .int .u8 (x 9), .int .u8 (x 10), .int .u8 (x 11), .int .u8 (x 12), .int .u8 (x 13), .int .u8 (x 14), .int .u8 (x 15), .int .i64 n, .int .u8 (z 0), .int .u8 (z 1), .int .u8 (z 2), .int .u8 (z 3), .int .i64 m, .int .i64 e, .int .i64 o, .bool f], .agg [.int .u8 (y 0), .int .u8 (y 1), .int .u8 (y 2), .int .u8 (y 3), .int .u8 (y 4), .int .u8 (y 5), .int .u8 (y 6), .int .u8 (y 7), .int .u8 (y 8), .int .u8 (y 9), .int .u8 (y 10), .int .u8 (y 11), .int .u8 (y 12), .int .u8 (y 13), .int .u8 (y 14), .int .u8 (y 15)], .agg [.int .u8 (w 0), .int .u8 (w 1), .int .u8 (w 2), .int .u8 (w 3)], .int .u16 p] [] (fun e H => some (e, H)) =
  aIf (shOK (Sh.tup [Sh.bool, Sh.int IntKind.i64]) r0) (aIf (shOK (Sh.tup [Sh.bool, Sh.int IntKind.i64]) r1) (aIf (shOK (Sh.tup [Sh.bool, Sh.int IntKind.i64]) r2) (aIf (shOK (Sh.tup [Sh.bool, Sh.int IntKind.i64]) r3) (aIf ((sel r0 [0]).toBool == (sel r1 [0]).toBool) (aIf ((sel r0 [1]).toInt == (sel r1 [1]).toInt) (aIf ((sel r2 [0]).toBool == (sel r3 [0]).toBool) (aIf ((sel r2 [1]).toInt == (sel r3 [1]).toInt) (some (AEnd.ret (AV.bool true), [])) (some (AEnd.ret (AV.bool false), []))) (some (AEnd.ret (AV.bool false), []))) (some (AEnd.ret (AV.bool false), []))) (some (AEnd.ret (AV.bool false), []))) none) none) none) none := by subst h0 h1 h2 h3; kernel_rfl
set_option maxRecDepth 20000 in
set_option maxHeartbeats 2000000 in
theorem law_holds : ∀ xs, argsV E 4 Tryd.f7.params.toList xs → S7 xs [] (fun e H => some (e, H)) = some (.ret (.bool true), []) := by
  intro xs h
  rw [Tryd.params7] at h
  obtain ⟨u0, u1, u2, u3, u4, rfl, h0, h1, h2, h3, h4⟩ := args5 h
  obtain ⟨v, s, u, k, l, a, b, q, hv, hs, hu', hk, hl, hps, rfl⟩ := edgeArg h0 argT37 agg37
  obtain ⟨x, z, n, m, e, o, f, hx, hz, hn, hm, he, ho, rfl⟩ := ruleArg h1 argT31 agg31
  obtain ⟨y, hy, rfl⟩ := a6Arg h2 argT23 agg23
  obtain ⟨w, hw, rfl⟩ := a4Arg h3 argT27 agg27
  obtain ⟨p, rfl, hp⟩ := intArg h4 argT33 agg33
  have hp := rng_u16 hp
  have hB : shOK (.tup [.bool, .int .i64]) (some (.ret (.tup [.bool (ownsB [.int .u8 (v 0), .int .u8 (v 1), .int .u8 (v 2), .int .u8 (v 3)] [.int .u8 (w 0), .int .u8 (w 1), .int .u8 (w 2), .int .u8 (w 3)] k a b q p), .int .i64 (ownsE [.int .u8 (v 0), .int .u8 (v 1), .int .u8 (v 2), .int .u8 (v 3)] k a b q)]), [])) = true := by
    simp only [shOK_ret, has_tup, has_agg, hasL_cons, hasL_nil, has_bool, has_int, List.getD_cons_zero, List.getD_cons_succ, List.length_cons, List.length_nil, beq_self_eq_true, Bool.and_self, ownsE_in]
  have hC : shOK (.tup [.bool, .int .i64]) (some (.ret (.tup [.bool (comB [.int .u8 (x 0), .int .u8 (x 1), .int .u8 (x 2), .int .u8 (x 3), .int .u8 (x 4), .int .u8 (x 5), .int .u8 (x 6), .int .u8 (x 7), .int .u8 (x 8), .int .u8 (x 9), .int .u8 (x 10), .int .u8 (x 11), .int .u8 (x 12), .int .u8 (x 13), .int .u8 (x 14), .int .u8 (x 15)] [.int .u8 (z 0), .int .u8 (z 1), .int .u8 (z 2), .int .u8 (z 3)] [.int .u8 (w 0), .int .u8 (w 1), .int .u8 (w 2), .int .u8 (w 3)] n m e o p y), .int .i64 (comE (ofR [.int .u8 (x 0), .int .u8 (x 1), .int .u8 (x 2), .int .u8 (x 3), .int .u8 (x 4), .int .u8 (x 5), .int .u8 (x 6), .int .u8 (x 7), .int .u8 (x 8), .int .u8 (x 9), .int .u8 (x 10), .int .u8 (x 11), .int .u8 (x 12), .int .u8 (x 13), .int .u8 (x 14), .int .u8 (x 15)] [.int .u8 (z 0), .int .u8 (z 1), .int .u8 (z 2), .int .u8 (z 3)] [.int .u8 (w 0), .int .u8 (w 1), .int .u8 (w 2), .int .u8 (w 3)] n m e o p))]), [])) = true := by
    simp only [shOK_ret, has_tup, has_agg, hasL_cons, hasL_nil, has_bool, has_int, List.getD_cons_zero, List.getD_cons_succ, List.length_cons, List.length_nil, beq_self_eq_true, Bool.and_self, comE_in]
  rw [N7 v s u k l a b q x z n m e o f y w p (R19_is hv hw hps hp).symm (R27_is hv hw hps hp).symm (R28_is hx hz hw ho hp).symm (R29_is hx hz hw ho hp).symm]
  simp only [hB, hC, beq_self_eq_true, Bool.and_self, aIf_true]

theorem law_spec {H : Type} (ds : List (DataW H)) (h : ds.length = Tryd.f7.params.toList.length) : (Rows.mappingOwnsSpec.fn H (ds ++ [])).results = [.lit (.bool true)] ∧ (Rows.mappingOwnsSpec.fn H (ds ++ [])).args = ds ∧ (Rows.mappingOwnsSpec.fn H (ds ++ [])).vars = [] := by
  rw [Tryd.params7] at h
  match ds, h with
  | [d0, d1, d2, d3, d4], _ => exact ⟨rfl, rfl, rfl⟩

theorem tab1 {W : World} (h : laidMet Tryd.prog Rows.mappingOwnsRow.laid W) : Lib.TabIs Tryd.prog W "math/bits.deBruijn32tab" .u8 [0, 1, 28, 2, 29, 14, 24, 3, 30, 22, 20, 15, 25, 17, 4, 8, 31, 27, 13, 23, 21, 19, 16, 7, 26, 12, 18, 6, 11, 5, 10, 9] :=
  Lib.tabIs_of_head (g := 1) (t := 149) (e := 5) (n := 32) (by kernel_rfl) (by kernel_rfl) (by kernel_rfl) (by kernel_rfl) (by kernel_rfl) (by kernel_rfl) h
theorem tab2 {W : World} (h : laidMet Tryd.prog Rows.mappingOwnsRow.laid W) : Lib.TabIs Tryd.prog W "math/bits.deBruijn64tab" .u8 [0, 1, 56, 2, 57, 49, 28, 3, 61, 58, 42, 50, 38, 29, 17, 4, 62, 47, 59, 36, 45, 43, 51, 22, 53, 39, 33, 30, 24, 18, 12, 5, 63, 55, 48, 27, 60, 41, 37, 16, 46, 35, 44, 21, 52, 32, 23, 11, 54, 26, 40, 15, 34, 20, 31, 10, 25, 14, 19, 9, 13, 8, 7, 6] :=
  Lib.tabIs_of_head (g := 2) (t := 150) (e := 5) (n := 64) (by kernel_rfl) (by kernel_rfl) (by kernel_rfl) (by kernel_rfl) (by kernel_rfl) (by kernel_rfl) h.tail
theorem tab0 {W : World} (h : laidMet Tryd.prog Rows.mappingOwnsRow.laid W) : Lib.TabIs Tryd.prog W "internal/strconv.uint64pow10" .u64 [1, 10, 100, 1000, 10000, 100000, 1000000, 10000000, 100000000, 1000000000, 10000000000, 100000000000, 1000000000000, 10000000000000, 100000000000000, 1000000000000000, 10000000000000000, 100000000000000000, 1000000000000000000, 10000000000000000000] :=
  Lib.tabIs_of_head (g := 0) (t := 143) (e := 32) (n := 20) (by kernel_rfl) (by kernel_rfl) (by kernel_rfl) (by kernel_rfl) (by kernel_rfl) (by kernel_rfl) h.tail.tail
theorem globs {W : World} (h : laidMet Tryd.prog Rows.mappingOwnsRow.laid W) : GlobOK W.cell? := by
  intro g i x hx
  match g with
  | 0 =>
    have := fun i hi => (tab0 h).cell (g := 0) (by kernel_rfl) i hi
    exact globTab this hx
  | 1 =>
    have := fun i hi => (tab1 h).cell (g := 1) (by kernel_rfl) i hi
    exact globTab this hx
  | 2 =>
    have := fun i hi => (tab2 h).cell (g := 2) (by kernel_rfl) i hi
    exact globTab this hx
  | g + 3 => simp [globInts] at hx

set_option maxRecDepth 100000 in
theorem law_lifted (os : Os) (started : os.Started) (H : Type) (enc : TypeId × Value → H) :
    ReturnsInHanded {} Tryd.checked os 7 .any (fun w args => (Rows.mappingOwnsSpec.pre enc Tryd.prog Tryd.f7 Rows.mappingOwnsRow.domain false w args ∧ laidMetH Tryd.prog Rows.mappingOwnsRow.laid w) ∧ sizedMet enc Tryd.prog Tryd.f7 (OpenSpec.ofChange Rows.mappingOwnsSpec) false w args)
      (Rows.mappingOwnsSpec.post enc Tryd.prog Tryd.f7 false true false false) := by
  refine returnsInHanded_of_change_and (C := Tryd.checked) (X := fun w _ => laidMetH Tryd.prog Rows.mappingOwnsRow.laid w) (fun _ _ _ hh h => h.of_heap hh) own started (by kernel_rfl) Tryd.func7
    (ChangeSpec.witness_shaped (enc := enc) (C := Tryd.checked) (os := os) (X := fun w _ => laidMetH Tryd.prog Rows.mappingOwnsRow.laid w) false (World.laidAll Tryd.prog os Rows.mappingOwnsRow.laid) #[.agg #[.int .u8 0, .int .u8 0, .int .u8 0, .int .u8 0, .int .i64 0, .int .i64 0, .int .i64 0, .int .u16 0, .int .u8 0, .int .u8 0, .int .u8 0, .int .u8 0, .int .u8 0, .int .u8 0, .int .u8 0, .int .u8 0, .int .u8 0, .int .u8 0, .int .u8 0, .int .u8 0, .int .u8 0, .int .u8 0, .int .u8 0, .int .u8 0, .int .i64 0, .int .u8 0, .int .u8 0, .int .u8 0, .int .u8 0, .int .u8 0, .int .u8 0, .int .u8 0, .int .u8 0, .int .u8 0, .int .u8 0, .int .u8 0, .int .u8 0, .int .u8 0, .int .u8 0, .int .u8 0, .int .u8 0], .agg #[.int .u8 0, .int .u8 0, .int .u8 0, .int .u8 0, .int .u8 0, .int .u8 0, .int .u8 0, .int .u8 0, .int .u8 0, .int .u8 0, .int .u8 0, .int .u8 0, .int .u8 0, .int .u8 0, .int .u8 0, .int .u8 0, .int .i64 0, .int .u8 0, .int .u8 0, .int .u8 0, .int .u8 0, .int .i64 0, .int .i64 0, .int .i64 0, .bool false], .agg #[.int .u8 0, .int .u8 0, .int .u8 0, .int .u8 0, .int .u8 0, .int .u8 0, .int .u8 0, .int .u8 0, .int .u8 0, .int .u8 0, .int .u8 0, .int .u8 0, .int .u8 0, .int .u8 0, .int .u8 0, .int .u8 0], .agg #[.int .u8 0, .int .u8 0, .int .u8 0, .int .u8 0], .int .u16 0] 8 (World.laidAll_os _ _ _)
      (World.shaped_of_ZipB (by kernel_rfl) (by kernel_rfl)) (by kernel_rfl) (by kernel_rfl) (by kernel_rfl)
      (by rw [MakeChecks.laidMetH_plain _ _ _ (by kernel_rfl)]; exact laidMet_laidAll _ (by kernel_rfl) (by kernel_rfl))) ?_
  intro W base args ds gs before hval hW _ _ hL _
  have hL' : laidMet Tryd.prog Rows.mappingOwnsRow.laid W := by rw [MakeChecks.laidMetH_plain _ _ _ (by kernel_rfl)] at hL; exact hL
  exact law_post (P := Tryd.prog) (E := E) (D := 4) (tb := 4) (fn := Tryd.f7) E_ok laidOut (by kernel_rfl) rfl (by kernel_rfl) rfl law_spec S7_ok law_holds (globs hL') hval hW

theorem mappingOwns_row : Rows.MappingOwnsSaid :=
  OpenClaim.holds_of_wide 7 Tryd.f7 rfl rfl rfl rfl rfl rfl rfl ⟨rfl, rfl, rfl, rfl, rfl⟩ rfl rfl rfl rfl rfl (by kernel_rfl) Tryd.func7 (by kernel_rfl)
    (of_decide_eq_true (by kernel_rfl)) (by unfold Func.isWrapper; first | (rw [if_pos (by decide +kernel)]; kernel_rfl) | (rw [if_neg (by decide +kernel)]; exact ⟨rfl, rfl⟩))
    (fun os started H enc _ => law_lifted os started H enc)

theorem mappingOwns_holds : Rows.MappingOwnsCardSaid :=
  Claim7.holds_tied_plain_at .later [] [.data, .data, .data] true (true, "55f7b0de1282a77de9fe55d57d9ebffdfd12b5eb867d109fa3e09de72e3b9cc9") false
    mappingOwns_row (fun _ h => by cases h) (by kernel_rfl) (fun _ h => by cases h) mappingOwns_row_tie rfl ⟨rfl, rfl⟩ (by kernel_rfl) rfl
    (fun f fn hf hfn => by
      obtain rfl : f = 7 := Option.some.inj ((show Tryd.prog.funcNamed Rows.mappingOwnsRow.func = some 7 by kernel_rfl).symm.trans hf) |>.symm
      obtain rfl : fn = Tryd.f7 := (Option.some.inj (Tryd.func7.symm.trans hfn)).symm
      exact ⟨by kernel_rfl, fun j t ht => by
        have hm : t ∈ Tryd.f7.params.toList := by
          rw [← Array.getElem?_toList] at ht
          exact List.mem_of_getElem? ht
        have ha : Tryd.f7.params.toList.all (fun t => !Tryd.prog.wantsStandIn t) = true := by kernel_rfl
        have := List.all_eq_true.1 ha t hm
        exact (show Tryd.prog.wantsStandIn t = false by simpa using this)⟩)
    (by kernel_rfl)

#print axioms mappingOwns_holds

end Go.Proofs.YtlfhkoajmjfbpaaDoor

