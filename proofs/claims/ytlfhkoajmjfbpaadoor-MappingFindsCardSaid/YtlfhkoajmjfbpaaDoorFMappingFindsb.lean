import Derived.Test.YtlfhkoajmjfbpaaDoorFMappingFindsa
namespace Go.Proofs.YtlfhkoajmjfbpaaDoor
open Go.Abs Go.Pl

/-- ferryman/addr.Has6 -/
noncomputable def T48 : List (FuncId × FSpec) := [(42, V42), (66, V66)]
theorem T48_ok : TabOK Tryd.prog T48 := TabOK.cons En42 V42_ok (TabOK.cons En66 V66_ok (TabOK.nil _))
noncomputable def C48 : Ctx := (ctx E T48 [] [(0, [2, 3]), (1, [2, 3, 6]), (2, [2, 3, 6, 10]), (3, [4, 5]), (4, [4, 5])] [1000066] 18 70)
theorem C48_ok : CtxOK Tryd.prog C48 := ctx_ok E_ok E_flds mixed T48_ok
noncomputable def S48 : FSpec := inlineK C48 Tryd.f48
theorem S48_ok : SpecOK Tryd.prog 48 S48 := inlineK_ok C48_ok Tryd.func48 (fun _ _ => LoopsOK.none _)
theorem En48 : Enters Tryd.prog 48 := ⟨_, Tryd.func48, by decide, rfl⟩
noncomputable def R48 (args : List AV) : Res := S48 args [] encK
noncomputable def V48 : FSpec := leafK (.tup [.bool, .int .i64]) R48
theorem V48_ok : SpecOK Tryd.prog 48 V48 := leafK_ok S48_ok (fun _ => rfl)
theorem N48 (x y : Nat → Int) (n : Int) : S48 [.agg [.int .u8 (x 0), .int .u8 (x 1), .int .u8 (x 2), .int .u8 (x 3), .int .u8 (x 4), .int .u8 (x 5), .int .u8 (x 6), .int .u8 (x 7), .int .u8 (x 8), .int .u8 (x 9), .int .u8 (x 10), .int .u8 (x 11), .int .u8 (x 12), .int .u8 (x 13), .int .u8 (x 14), .int .u8 (x 15), .int .i64 n], .agg [.int .u8 (y 0), .int .u8 (y 1), .int .u8 (y 2), .int .u8 (y 3), .int .u8 (y 4), .int .u8 (y 5), .int .u8 (y 6), .int .u8 (y 7), .int .u8 (y 8), .int .u8 (y 9), .int .u8 (y 10), .int .u8 (y 11), .int .u8 (y 12), .int .u8 (y 13), .int .u8 (y 14), .int .u8 (y 15)]] [] encK =
  aIf (shOK (Sh.int IntKind.i64) (R42 [AV.agg [AV.int IntKind.u8 (x 0), AV.int IntKind.u8 (x 1), AV.int IntKind.u8 (x 2), AV.int IntKind.u8 (x 3), AV.int IntKind.u8 (x 4), AV.int IntKind.u8 (x 5), AV.int IntKind.u8 (x 6), AV.int IntKind.u8 (x 7), AV.int IntKind.u8 (x 8), AV.int IntKind.u8 (x 9), AV.int IntKind.u8 (x 10), AV.int IntKind.u8 (x 11), AV.int IntKind.u8 (x 12), AV.int IntKind.u8 (x 13), AV.int IntKind.u8 (x 14), AV.int IntKind.u8 (x 15), AV.int IntKind.i64 n]])) (aIf ((sel (R42 [AV.agg [AV.int IntKind.u8 (x 0), AV.int IntKind.u8 (x 1), AV.int IntKind.u8 (x 2), AV.int IntKind.u8 (x 3), AV.int IntKind.u8 (x 4), AV.int IntKind.u8 (x 5), AV.int IntKind.u8 (x 6), AV.int IntKind.u8 (x 7), AV.int IntKind.u8 (x 8), AV.int IntKind.u8 (x 9), AV.int IntKind.u8 (x 10), AV.int IntKind.u8 (x 11), AV.int IntKind.u8 (x 12), AV.int IntKind.u8 (x 13), AV.int IntKind.u8 (x 14), AV.int IntKind.u8 (x 15), AV.int IntKind.i64 n]]) []).toInt != 0) (some (AEnd.ret (AV.tup [AV.bool false, AV.int IntKind.i64 (sel (R42 [AV.agg [AV.int IntKind.u8 (x 0), AV.int IntKind.u8 (x 1), AV.int IntKind.u8 (x 2), AV.int IntKind.u8 (x 3), AV.int IntKind.u8 (x 4), AV.int IntKind.u8 (x 5), AV.int IntKind.u8 (x 6), AV.int IntKind.u8 (x 7), AV.int IntKind.u8 (x 8), AV.int IntKind.u8 (x 9), AV.int IntKind.u8 (x 10), AV.int IntKind.u8 (x 11), AV.int IntKind.u8 (x 12), AV.int IntKind.u8 (x 13), AV.int IntKind.u8 (x 14), AV.int IntKind.u8 (x 15), AV.int IntKind.i64 n]]) []).toInt]), [])) (aIf (shOK Sh.bool (R66 [AV.fs 1 [AV.int IntKind.u8 (x 0), AV.int IntKind.u8 (x 1), AV.int IntKind.u8 (x 2), AV.int IntKind.u8 (x 3), AV.int IntKind.u8 (x 4), AV.int IntKind.u8 (x 5), AV.int IntKind.u8 (x 6), AV.int IntKind.u8 (x 7), AV.int IntKind.u8 (x 8), AV.int IntKind.u8 (x 9), AV.int IntKind.u8 (x 10), AV.int IntKind.u8 (x 11), AV.int IntKind.u8 (x 12), AV.int IntKind.u8 (x 13), AV.int IntKind.u8 (x 14), AV.int IntKind.u8 (x 15)] SF.any, AV.fs 1 [AV.int IntKind.u8 (y 0), AV.int IntKind.u8 (y 1), AV.int IntKind.u8 (y 2), AV.int IntKind.u8 (y 3), AV.int IntKind.u8 (y 4), AV.int IntKind.u8 (y 5), AV.int IntKind.u8 (y 6), AV.int IntKind.u8 (y 7), AV.int IntKind.u8 (y 8), AV.int IntKind.u8 (y 9), AV.int IntKind.u8 (y 10), AV.int IntKind.u8 (y 11), AV.int IntKind.u8 (y 12), AV.int IntKind.u8 (y 13), AV.int IntKind.u8 (y 14), AV.int IntKind.u8 (y 15)] SF.any, AV.int IntKind.i64 n])) (some (AEnd.ret (AV.tup [AV.bool (sel (R66 [AV.fs 1 [AV.int IntKind.u8 (x 0), AV.int IntKind.u8 (x 1), AV.int IntKind.u8 (x 2), AV.int IntKind.u8 (x 3), AV.int IntKind.u8 (x 4), AV.int IntKind.u8 (x 5), AV.int IntKind.u8 (x 6), AV.int IntKind.u8 (x 7), AV.int IntKind.u8 (x 8), AV.int IntKind.u8 (x 9), AV.int IntKind.u8 (x 10), AV.int IntKind.u8 (x 11), AV.int IntKind.u8 (x 12), AV.int IntKind.u8 (x 13), AV.int IntKind.u8 (x 14), AV.int IntKind.u8 (x 15)] SF.any, AV.fs 1 [AV.int IntKind.u8 (y 0), AV.int IntKind.u8 (y 1), AV.int IntKind.u8 (y 2), AV.int IntKind.u8 (y 3), AV.int IntKind.u8 (y 4), AV.int IntKind.u8 (y 5), AV.int IntKind.u8 (y 6), AV.int IntKind.u8 (y 7), AV.int IntKind.u8 (y 8), AV.int IntKind.u8 (y 9), AV.int IntKind.u8 (y 10), AV.int IntKind.u8 (y 11), AV.int IntKind.u8 (y 12), AV.int IntKind.u8 (y 13), AV.int IntKind.u8 (y 14), AV.int IntKind.u8 (y 15)] SF.any, AV.int IntKind.i64 n]) []).toBool, AV.int IntKind.i64 0]), [])) none)) none := by kernel_rfl
theorem R48_is {x y : Nat → Int} {n : Int} (hx : b8 x) (hy : b8 y) : R48 [.agg [.int .u8 (x 0), .int .u8 (x 1), .int .u8 (x 2), .int .u8 (x 3), .int .u8 (x 4), .int .u8 (x 5), .int .u8 (x 6), .int .u8 (x 7), .int .u8 (x 8), .int .u8 (x 9), .int .u8 (x 10), .int .u8 (x 11), .int .u8 (x 12), .int .u8 (x 13), .int .u8 (x 14), .int .u8 (x 15), .int .i64 n], .agg [.int .u8 (y 0), .int .u8 (y 1), .int .u8 (y 2), .int .u8 (y 3), .int .u8 (y 4), .int .u8 (y 5), .int .u8 (y 6), .int .u8 (y 7), .int .u8 (y 8), .int .u8 (y 9), .int .u8 (y 10), .int .u8 (y 11), .int .u8 (y 12), .int .u8 (y 13), .int .u8 (y 14), .int .u8 (y 15)]] = some (.ret (.tup [.bool (inB 128 [.int .u8 (x 0), .int .u8 (x 1), .int .u8 (x 2), .int .u8 (x 3), .int .u8 (x 4), .int .u8 (x 5), .int .u8 (x 6), .int .u8 (x 7), .int .u8 (x 8), .int .u8 (x 9), .int .u8 (x 10), .int .u8 (x 11), .int .u8 (x 12), .int .u8 (x 13), .int .u8 (x 14), .int .u8 (x 15)] [.int .u8 (y 0), .int .u8 (y 1), .int .u8 (y 2), .int .u8 (y 3), .int .u8 (y 4), .int .u8 (y 5), .int .u8 (y 6), .int .u8 (y 7), .int .u8 (y 8), .int .u8 (y 9), .int .u8 (y 10), .int .u8 (y 11), .int .u8 (y 12), .int .u8 (y 13), .int .u8 (y 14), .int .u8 (y 15)] n), .int .i64 (chkE 128 [.int .u8 (x 0), .int .u8 (x 1), .int .u8 (x 2), .int .u8 (x 3), .int .u8 (x 4), .int .u8 (x 5), .int .u8 (x 6), .int .u8 (x 7), .int .u8 (x 8), .int .u8 (x 9), .int .u8 (x 10), .int .u8 (x 11), .int .u8 (x 12), .int .u8 (x 13), .int .u8 (x 14), .int .u8 (x 15)] n)]), []) := by
  show S48 _ [] encK = _
  have ti : ∀ k n, (AV.int k n).toInt = n := fun _ _ => rfl
  have tb : ∀ b, (AV.bool b).toBool = b := fun _ => rfl
  have si : ∀ k n, sel (some (AEnd.ret (AV.int k n), [])) [] = .int k n := fun _ _ => rfl
  have sb : ∀ b, sel (some (AEnd.ret (AV.bool b), [])) [] = .bool b := fun _ => rfl
  rw [N48]
  simp only [R42_is hx, shOK_ret, has_int, chkE_in, si, ti, aIf_true]
  unfold inB
  rcases chkE_or 128 [.int .u8 (x 0), .int .u8 (x 1), .int .u8 (x 2), .int .u8 (x 3), .int .u8 (x 4), .int .u8 (x 5), .int .u8 (x 6), .int .u8 (x 7), .int .u8 (x 8), .int .u8 (x 9), .int .u8 (x 10), .int .u8 (x 11), .int .u8 (x 12), .int .u8 (x 13), .int .u8 (x 14), .int .u8 (x 15)] n with ⟨h1, h2, h3, h4⟩ | h1
  · have e := R66_is (fl := .any) (gl := .any) (n := n) (b8_16 hx) (b8_16 hy) rfl (show 16 ≤ 1000000 by decide) h2 (show n ≤ 8 * ((16 : Nat) : Int) by omega)
    rw [h1, e, shOK_ret, has_bool, sb, tb]
    rfl
  · rw [h1]
    rfl

/-- ferryman/mapping.Bits -/
noncomputable def T21 : List (FuncId × FSpec) := [(17, V17), (37, V37), (48, V48)]
theorem T21_ok : TabOK Tryd.prog T21 := TabOK.cons En17 V17_ok (TabOK.cons En37 V37_ok (TabOK.cons En48 V48_ok (TabOK.nil _)))
noncomputable def C21 : Ctx := (ctx E T21 [] [(0, [2, 3]), (1, [2, 3, 6]), (2, [2, 3, 6, 14]), (3, [4, 5]), (4, [2, 3, 7]), (5, [2, 3, 24]), (6, [4, 5]), (7, [9]), (8, [4, 5])] [1000037] 36 70)
theorem C21_ok : CtxOK Tryd.prog C21 := ctx_ok E_ok E_flds mixed T21_ok
noncomputable def S21 : FSpec := inlineK C21 Tryd.f21
theorem S21_ok : SpecOK Tryd.prog 21 S21 := inlineK_ok C21_ok Tryd.func21 (fun _ _ => LoopsOK.none _)
theorem En21 : Enters Tryd.prog 21 := ⟨_, Tryd.func21, by decide, rfl⟩
noncomputable def R21 (args : List AV) : Res := S21 args [] encK
noncomputable def V21 : FSpec := leafK (.tup [.int .u64, .int .i64]) R21
theorem V21_ok : SpecOK Tryd.prog 21 V21 := leafK_ok S21_ok (fun _ => rfl)
theorem N21 (x z : Nat → Int) (n m e o : Int) (f : Bool) (y : Nat → Int)
    {r0 : _} (h0 : r0 = R17 [AV.agg [AV.int IntKind.u8 (x 0), AV.int IntKind.u8 (x 1), AV.int IntKind.u8 (x 2), AV.int IntKind.u8 (x 3), AV.int IntKind.u8 (x 4), AV.int IntKind.u8 (x 5), AV.int IntKind.u8 (x 6), AV.int IntKind.u8 (x 7), AV.int IntKind.u8 (x 8), AV.int IntKind.u8 (x 9), AV.int IntKind.u8 (x 10), AV.int IntKind.u8 (x 11), AV.int IntKind.u8 (x 12), AV.int IntKind.u8 (x 13), AV.int IntKind.u8 (x 14), AV.int IntKind.u8 (x 15), AV.int IntKind.i64 n, AV.int IntKind.u8 (z 0), AV.int IntKind.u8 (z 1), AV.int IntKind.u8 (z 2), AV.int IntKind.u8 (z 3), AV.int IntKind.i64 m, AV.int IntKind.i64 e, AV.int IntKind.i64 o, AV.bool f]])
    {r1 : _} (h1 : r1 = R48 [AV.agg [AV.int IntKind.u8 (x 0), AV.int IntKind.u8 (x 1), AV.int IntKind.u8 (x 2), AV.int IntKind.u8 (x 3), AV.int IntKind.u8 (x 4), AV.int IntKind.u8 (x 5), AV.int IntKind.u8 (x 6), AV.int IntKind.u8 (x 7), AV.int IntKind.u8 (x 8), AV.int IntKind.u8 (x 9), AV.int IntKind.u8 (x 10), AV.int IntKind.u8 (x 11), AV.int IntKind.u8 (x 12), AV.int IntKind.u8 (x 13), AV.int IntKind.u8 (x 14), AV.int IntKind.u8 (x 15), AV.int IntKind.i64 n], AV.agg [AV.int IntKind.u8 (y 0), AV.int IntKind.u8 (y 1), AV.int IntKind.u8 (y 2), AV.int IntKind.u8 (y 3), AV.int IntKind.u8 (y 4), AV.int IntKind.u8 (y 5), AV.int IntKind.u8 (y 6), AV.int IntKind.u8 (y 7), AV.int IntKind.u8 (y 8), AV.int IntKind.u8 (y 9), AV.int IntKind.u8 (y 10), AV.int IntKind.u8 (y 11), AV.int IntKind.u8 (y 12), AV.int IntKind.u8 (y 13), AV.int IntKind.u8 (y 14), AV.int IntKind.u8 (y 15)]])
    {r2 : _} (h2 : r2 = R37 [AV.fs 1 [AV.int IntKind.u8 (y 0), AV.int IntKind.u8 (y 1), AV.int IntKind.u8 (y 2), AV.int IntKind.u8 (y 3), AV.int IntKind.u8 (y 4), AV.int IntKind.u8 (y 5), AV.int IntKind.u8 (y 6), AV.int IntKind.u8 (y 7), AV.int IntKind.u8 (y 8), AV.int IntKind.u8 (y 9), AV.int IntKind.u8 (y 10), AV.int IntKind.u8 (y 11), AV.int IntKind.u8 (y 12), AV.int IntKind.u8 (y 13), AV.int IntKind.u8 (y 14), AV.int IntKind.u8 (y 15)] SF.any, AV.int IntKind.i64 n, AV.int IntKind.i64 e]) :
  S21 [.agg [.int .u8 (x 0), .int .u8 (x 1), .int .u8 (x 2), .int .u8 (x 3), .int .u8 (x 4), .int .u8 (x 5), .int .u8 (x 6), .int .u8 (x 7), .int .u8 (x 8), .int .u8 (x 9), .int .u8 (x 10), .int .u8 (x 11), .int .u8 (x 12), .int .u8 (x 13), .int .u8 (x 14), .int .u8 (x 15), .int .i64 n, .int .u8 (z 0), .int .u8 (z 1), .int .u8 (z 2), .int .u8 (z 3), .int .i64 m, .int .i64 e, .int .i64 o, .bool f], .agg [.int .u8 (y 0), .int .u8 (y 1), .int .u8 (y 2), .int .u8 (y 3), .int .u8 (y 4), .int .u8 (y 5), .int .u8 (y 6), .int .u8 (y 7), .int .u8 (y 8), .int .u8 (y 9), .int .u8 (y 10), .int .u8 (y 11), .int .u8 (y 12), .int .u8 (y 13), .int .u8 (y 14), .int .u8 (y 15)]] [] encK =
  aIf (shOK (Sh.int IntKind.i64) r0) (aIf ((sel r0 []).toInt != 0) (some (AEnd.ret (AV.tup [AV.int IntKind.u64 0, AV.int IntKind.i64 (sel r0 []).toInt]), [])) (aIf (shOK (Sh.tup [Sh.bool, Sh.int IntKind.i64]) r1) (aIf (!(sel r1 [0]).toBool) (some (AEnd.ret (AV.tup [AV.int IntKind.u64 0, AV.int IntKind.i64 82]), [])) (aIf (shOK (Sh.tup [Sh.int IntKind.u64, Sh.int IntKind.i64]) r2) (some (AEnd.ret (AV.tup [AV.int IntKind.u64 (sel r2 [0]).toInt, AV.int IntKind.i64 0]), [])) none)) none)) none := by subst h0 h1 h2; kernel_rfl
set_option maxRecDepth 20000 in
theorem R21_is {x z : Nat → Int} {n m e o : Int} {f : Bool} {y : Nat → Int} (hx : b8 x) (hz : b8 z) (hy : b8 y) : R21 [.agg [.int .u8 (x 0), .int .u8 (x 1), .int .u8 (x 2), .int .u8 (x 3), .int .u8 (x 4), .int .u8 (x 5), .int .u8 (x 6), .int .u8 (x 7), .int .u8 (x 8), .int .u8 (x 9), .int .u8 (x 10), .int .u8 (x 11), .int .u8 (x 12), .int .u8 (x 13), .int .u8 (x 14), .int .u8 (x 15), .int .i64 n, .int .u8 (z 0), .int .u8 (z 1), .int .u8 (z 2), .int .u8 (z 3), .int .i64 m, .int .i64 e, .int .i64 o, .bool f], .agg [.int .u8 (y 0), .int .u8 (y 1), .int .u8 (y 2), .int .u8 (y 3), .int .u8 (y 4), .int .u8 (y 5), .int .u8 (y 6), .int .u8 (y 7), .int .u8 (y 8), .int .u8 (y 9), .int .u8 (y 10), .int .u8 (y 11), .int .u8 (y 12), .int .u8 (y 13), .int .u8 (y 14), .int .u8 (y 15)]] = some (.ret (.tup [.int .u64 (bitN [.int .u8 (x 0), .int .u8 (x 1), .int .u8 (x 2), .int .u8 (x 3), .int .u8 (x 4), .int .u8 (x 5), .int .u8 (x 6), .int .u8 (x 7), .int .u8 (x 8), .int .u8 (x 9), .int .u8 (x 10), .int .u8 (x 11), .int .u8 (x 12), .int .u8 (x 13), .int .u8 (x 14), .int .u8 (x 15)] [.int .u8 (z 0), .int .u8 (z 1), .int .u8 (z 2), .int .u8 (z 3)] [.int .u8 (y 0), .int .u8 (y 1), .int .u8 (y 2), .int .u8 (y 3), .int .u8 (y 4), .int .u8 (y 5), .int .u8 (y 6), .int .u8 (y 7), .int .u8 (y 8), .int .u8 (y 9), .int .u8 (y 10), .int .u8 (y 11), .int .u8 (y 12), .int .u8 (y 13), .int .u8 (y 14), .int .u8 (y 15)] n m e o), .int .i64 (bitE [.int .u8 (x 0), .int .u8 (x 1), .int .u8 (x 2), .int .u8 (x 3), .int .u8 (x 4), .int .u8 (x 5), .int .u8 (x 6), .int .u8 (x 7), .int .u8 (x 8), .int .u8 (x 9), .int .u8 (x 10), .int .u8 (x 11), .int .u8 (x 12), .int .u8 (x 13), .int .u8 (x 14), .int .u8 (x 15)] [.int .u8 (z 0), .int .u8 (z 1), .int .u8 (z 2), .int .u8 (z 3)] [.int .u8 (y 0), .int .u8 (y 1), .int .u8 (y 2), .int .u8 (y 3), .int .u8 (y 4), .int .u8 (y 5), .int .u8 (y 6), .int .u8 (y 7), .int .u8 (y 8), .int .u8 (y 9), .int .u8 (y 10), .int .u8 (y 11), .int .u8 (y 12), .int .u8 (y 13), .int .u8 (y 14), .int .u8 (y 15)] n m e o)]), []) := by
  show S21 _ [] encK = _
  have e0 := R17_is (n := n) (m := m) (e := e) (o := o) (f := f) hx hz
  rcases chkR_or [.int .u8 (x 0), .int .u8 (x 1), .int .u8 (x 2), .int .u8 (x 3), .int .u8 (x 4), .int .u8 (x 5), .int .u8 (x 6), .int .u8 (x 7), .int .u8 (x 8), .int .u8 (x 9), .int .u8 (x 10), .int .u8 (x 11), .int .u8 (x 12), .int .u8 (x 13), .int .u8 (x 14), .int .u8 (x 15)] [.int .u8 (z 0), .int .u8 (z 1), .int .u8 (z 2), .int .u8 (z 3)] n m e o with ⟨hc, ⟨a1, a2, a3⟩, ⟨b1, b2, b3⟩, c1, c2, c3, c4, c5⟩ | hc
  rotate_left
  · rw [N21 x z n m e o f y e0.symm rfl rfl]
    rcases hc with hc | hc <;> (unfold bitN bitE; rw [hc]; rfl)
  have e2 := R37_is (fl := .any) (a := n) (n := e) (b8_16 hy) (show (16 : Nat) ≤ 1000000 by decide)
  have hI := R48_is (n := n) hx hy
  rw [N21 x z n m e o f y e0.symm hI.symm e2.symm]
  have s1 : shOK (.tup [.bool, .int .i64]) (some (.ret (.tup [.bool (inB 128 [.int .u8 (x 0), .int .u8 (x 1), .int .u8 (x 2), .int .u8 (x 3), .int .u8 (x 4), .int .u8 (x 5), .int .u8 (x 6), .int .u8 (x 7), .int .u8 (x 8), .int .u8 (x 9), .int .u8 (x 10), .int .u8 (x 11), .int .u8 (x 12), .int .u8 (x 13), .int .u8 (x 14), .int .u8 (x 15)] [.int .u8 (y 0), .int .u8 (y 1), .int .u8 (y 2), .int .u8 (y 3), .int .u8 (y 4), .int .u8 (y 5), .int .u8 (y 6), .int .u8 (y 7), .int .u8 (y 8), .int .u8 (y 9), .int .u8 (y 10), .int .u8 (y 11), .int .u8 (y 12), .int .u8 (y 13), .int .u8 (y 14), .int .u8 (y 15)] n), .int .i64 (chkE 128 [.int .u8 (x 0), .int .u8 (x 1), .int .u8 (x 2), .int .u8 (x 3), .int .u8 (x 4), .int .u8 (x 5), .int .u8 (x 6), .int .u8 (x 7), .int .u8 (x 8), .int .u8 (x 9), .int .u8 (x 10), .int .u8 (x 11), .int .u8 (x 12), .int .u8 (x 13), .int .u8 (x 14), .int .u8 (x 15)] n)]), [])) = true := by
    simp only [shOK_ret, has_tup, hasL_cons, hasL_nil, has_bool, has_int, chkE_in, List.getD_cons_zero, List.getD_cons_succ, List.length_cons, List.length_nil, beq_self_eq_true, Bool.and_self]
  refine (aIf_pos (by rw [hc]; rfl)).trans ((aIf_neg (by rw [hc]; rfl)).trans ((aIf_pos s1).trans ?_))
  unfold bitN bitE
  rw [hc]
  cases hi : inB 128 [.int .u8 (x 0), .int .u8 (x 1), .int .u8 (x 2), .int .u8 (x 3), .int .u8 (x 4), .int .u8 (x 5), .int .u8 (x 6), .int .u8 (x 7), .int .u8 (x 8), .int .u8 (x 9), .int .u8 (x 10), .int .u8 (x 11), .int .u8 (x 12), .int .u8 (x 13), .int .u8 (x 14), .int .u8 (x 15)] [.int .u8 (y 0), .int .u8 (y 1), .int .u8 (y 2), .int .u8 (y 3), .int .u8 (y 4), .int .u8 (y 5), .int .u8 (y 6), .int .u8 (y 7), .int .u8 (y 8), .int .u8 (y 9), .int .u8 (y 10), .int .u8 (y 11), .int .u8 (y 12), .int .u8 (y 13), .int .u8 (y 14), .int .u8 (y 15)] n
  · rfl
  refine (aIf_neg rfl).trans ((aIf_pos ?_).trans ?_)
  · simp only [shOK_ret, has_tup, hasL_cons, hasL_nil, has_int, getX_inK, getE_inK, List.getD_cons_zero, List.getD_cons_succ, List.length_cons, List.length_nil, beq_self_eq_true, Bool.and_self]
  · rfl

/-- ferryman/ferrymanref10.suffix -/
noncomputable def T44 : List (FuncId × FSpec) := []
theorem T44_ok : TabOK Tryd.prog T44 := TabOK.nil _
noncomputable def C44 : Ctx := (ctx E T44 [] [(0, [1]), (1, [2])] [] 7 70)
theorem C44_ok : CtxOK Tryd.prog C44 := ctx_ok E_ok E_flds mixed T44_ok
noncomputable def S44 : FSpec := inlineK C44 Tryd.f44
theorem S44_ok : SpecOK Tryd.prog 44 S44 := inlineK_ok C44_ok Tryd.func44 (fun _ _ => LoopsOK.none _)
theorem En44 : Enters Tryd.prog 44 := ⟨_, Tryd.func44, by decide, rfl⟩

/-- ferryman/ferrymanref10.Check -/
noncomputable def T18 : List (FuncId × FSpec) := [(30, V30), (31, V31), (44, S44)]
theorem T18_ok : TabOK Tryd.prog T18 := TabOK.cons En30 V30_ok (TabOK.cons En31 V31_ok (TabOK.cons En44 S44_ok (TabOK.nil _)))
noncomputable def C18 : Ctx := (ctx E T18 [] [(0, [1]), (1, [1, 12]), (2, [2]), (3, [1, 39]), (4, [2]), (5, [55]), (6, [2]), (7, [2])] [] 56 70)
theorem C18_ok : CtxOK Tryd.prog C18 := ctx_ok E_ok E_flds mixed T18_ok
noncomputable def S18 : FSpec := inlineK C18 Tryd.f18
theorem S18_ok : SpecOK Tryd.prog 18 S18 := inlineK_ok C18_ok Tryd.func18 (fun _ _ => LoopsOK.none _)
theorem En18 : Enters Tryd.prog 18 := ⟨_, Tryd.func18, by decide, rfl⟩
noncomputable def R18 (args : List AV) : Res := S18 args [] encK
noncomputable def V18 : FSpec := leafK (.int .i64) R18
theorem V18_ok : SpecOK Tryd.prog 18 V18 := leafK_ok S18_ok (fun _ => rfl)
theorem N18 (x z : Nat → Int) (n m e o : Int) (f : Bool) : S18 [.agg [.int .u8 (x 0), .int .u8 (x 1), .int .u8 (x 2), .int .u8 (x 3), .int .u8 (x 4), .int .u8 (x 5), .int .u8 (x 6), .int .u8 (x 7), .int .u8 (x 8), .int .u8 (x 9), .int .u8 (x 10), .int .u8 (x 11), .int .u8 (x 12), .int .u8 (x 13), .int .u8 (x 14), .int .u8 (x 15), .int .i64 n, .int .u8 (z 0), .int .u8 (z 1), .int .u8 (z 2), .int .u8 (z 3), .int .i64 m, .int .i64 e, .int .i64 o, .bool f]] [] encK =
  aIf (shOK (Sh.int IntKind.i64) (R30 [AV.agg [AV.int IntKind.u8 (x 0), AV.int IntKind.u8 (x 1), AV.int IntKind.u8 (x 2), AV.int IntKind.u8 (x 3), AV.int IntKind.u8 (x 4), AV.int IntKind.u8 (x 5), AV.int IntKind.u8 (x 6), AV.int IntKind.u8 (x 7), AV.int IntKind.u8 (x 8), AV.int IntKind.u8 (x 9), AV.int IntKind.u8 (x 10), AV.int IntKind.u8 (x 11), AV.int IntKind.u8 (x 12), AV.int IntKind.u8 (x 13), AV.int IntKind.u8 (x 14), AV.int IntKind.u8 (x 15), AV.int IntKind.i64 n]])) (aIf ((sel (R30 [AV.agg [AV.int IntKind.u8 (x 0), AV.int IntKind.u8 (x 1), AV.int IntKind.u8 (x 2), AV.int IntKind.u8 (x 3), AV.int IntKind.u8 (x 4), AV.int IntKind.u8 (x 5), AV.int IntKind.u8 (x 6), AV.int IntKind.u8 (x 7), AV.int IntKind.u8 (x 8), AV.int IntKind.u8 (x 9), AV.int IntKind.u8 (x 10), AV.int IntKind.u8 (x 11), AV.int IntKind.u8 (x 12), AV.int IntKind.u8 (x 13), AV.int IntKind.u8 (x 14), AV.int IntKind.u8 (x 15), AV.int IntKind.i64 n]]) []).toInt != 0) (some (AEnd.ret (AV.int IntKind.i64 22), [])) (aIf (shOK (Sh.int IntKind.i64) (R31 [AV.agg [AV.int IntKind.u8 (z 0), AV.int IntKind.u8 (z 1), AV.int IntKind.u8 (z 2), AV.int IntKind.u8 (z 3), AV.int IntKind.i64 m]])) (aIf ((sel (R31 [AV.agg [AV.int IntKind.u8 (z 0), AV.int IntKind.u8 (z 1), AV.int IntKind.u8 (z 2), AV.int IntKind.u8 (z 3), AV.int IntKind.i64 m]]) []).toInt != 0) (some (AEnd.ret (AV.int IntKind.i64 22), [])) (aIf (decide (e < 0)) (some (AEnd.ret (AV.int IntKind.i64 100), [])) (aIf (decide (e > 48)) (some (AEnd.ret (AV.int IntKind.i64 100), [])) (aIf (decide (n > IntKind.i64.wrap (64 - e))) (some (AEnd.ret (AV.int IntKind.i64 100), [])) (aIf (decide (o < 0)) (some (AEnd.ret (AV.int IntKind.i64 100), [])) (aIf (decide (o > 15)) (some (AEnd.ret (AV.int IntKind.i64 100), [])) (aIf (decide (e > IntKind.i64.wrap (32 - m))) (aIf (decide (IntKind.i64.wrap (e - IntKind.i64.wrap (32 - m)) > IntKind.i64.wrap (16 - o))) (some (AEnd.ret (AV.int IntKind.i64 100), [])) (some (AEnd.ret (AV.int IntKind.i64 0), []))) (some (AEnd.ret (AV.int IntKind.i64 0), []))))))))) none)) none := by kernel_rfl
theorem R18_is {x z : Nat → Int} {n m e o : Int} {f : Bool} (hx : b8 x) (hz : b8 z) : R18 [.agg [.int .u8 (x 0), .int .u8 (x 1), .int .u8 (x 2), .int .u8 (x 3), .int .u8 (x 4), .int .u8 (x 5), .int .u8 (x 6), .int .u8 (x 7), .int .u8 (x 8), .int .u8 (x 9), .int .u8 (x 10), .int .u8 (x 11), .int .u8 (x 12), .int .u8 (x 13), .int .u8 (x 14), .int .u8 (x 15), .int .i64 n, .int .u8 (z 0), .int .u8 (z 1), .int .u8 (z 2), .int .u8 (z 3), .int .i64 m, .int .i64 e, .int .i64 o, .bool f]] = some (.ret (.int .i64 (chkR [.int .u8 (x 0), .int .u8 (x 1), .int .u8 (x 2), .int .u8 (x 3), .int .u8 (x 4), .int .u8 (x 5), .int .u8 (x 6), .int .u8 (x 7), .int .u8 (x 8), .int .u8 (x 9), .int .u8 (x 10), .int .u8 (x 11), .int .u8 (x 12), .int .u8 (x 13), .int .u8 (x 14), .int .u8 (x 15)] [.int .u8 (z 0), .int .u8 (z 1), .int .u8 (z 2), .int .u8 (z 3)] n m e o)), []) := by
  show S18 _ [] encK = _
  have ti : ∀ k n, (AV.int k n).toInt = n := fun _ _ => rfl
  have tb : ∀ b, (AV.bool b).toBool = b := fun _ => rfl
  have si : ∀ k n, sel (some (AEnd.ret (AV.int k n), [])) [] = .int k n := fun _ _ => rfl
  have sb : ∀ b, sel (some (AEnd.ret (AV.bool b), [])) [] = .bool b := fun _ => rfl
  rw [N18, R30_is hx, R31_is hz]
  simp only [shOK_ret, has_int, chkE_in, si, ti, aIf_true]
  unfold chkR
  rcases chkE_or 128 [.int .u8 (x 0), .int .u8 (x 1), .int .u8 (x 2), .int .u8 (x 3), .int .u8 (x 4), .int .u8 (x 5), .int .u8 (x 6), .int .u8 (x 7), .int .u8 (x 8), .int .u8 (x 9), .int .u8 (x 10), .int .u8 (x 11), .int .u8 (x 12), .int .u8 (x 13), .int .u8 (x 14), .int .u8 (x 15)] n with ⟨h1, a1, a2, a3⟩ | h1
  · rcases chkE_or 32 [.int .u8 (z 0), .int .u8 (z 1), .int .u8 (z 2), .int .u8 (z 3)] m with ⟨h2, b1, b2, b3⟩ | h2
    · rw [h1, h2, aIf_neg (b := ((0 : Int) != 0)) rfl, aIf_neg (b := ((0 : Int) != 0)) rfl, chk_tail' ⟨a1, a2⟩ ⟨b1, b2⟩]
      cases ruleB n m e o <;> rfl
    · rw [h1, h2]; rfl
  · rw [h1]; rfl

/-- ferryman/ferrymanref02.Cut6 -/
noncomputable def T47 : List (FuncId × FSpec) := []
theorem T47_ok : TabOK Tryd.prog T47 := TabOK.nil _
noncomputable def L47_4 : ATs → AH → KC → Res := fun ts H k => match ts, H with
  | [(1, .int .i64 n), (2, .ptr 0 0 0), (4, .ptr 1 0 0), (6, .int .i64 i)], [.cells 0 xs, .cells 0 zs] => aIf (intsB .u8 xs && xs.length == 16 && decide (0 ≤ i) && decide (i ≤ 128)) (k (.exit 0) [(1, .int .i64 n), (2, .ptr 0 0 0), (4, .ptr 1 0 0), (6, .int .i64 128), (16, .bool false)] [.cells 0 [.int .u8 (byteAt (cutX xs i.toNat) 0), .int .u8 (byteAt (cutX xs i.toNat) 1), .int .u8 (byteAt (cutX xs i.toNat) 2), .int .u8 (byteAt (cutX xs i.toNat) 3), .int .u8 (byteAt (cutX xs i.toNat) 4), .int .u8 (byteAt (cutX xs i.toNat) 5), .int .u8 (byteAt (cutX xs i.toNat) 6), .int .u8 (byteAt (cutX xs i.toNat) 7), .int .u8 (byteAt (cutX xs i.toNat) 8), .int .u8 (byteAt (cutX xs i.toNat) 9), .int .u8 (byteAt (cutX xs i.toNat) 10), .int .u8 (byteAt (cutX xs i.toNat) 11), .int .u8 (byteAt (cutX xs i.toNat) 12), .int .u8 (byteAt (cutX xs i.toNat) 13), .int .u8 (byteAt (cutX xs i.toNat) 14), .int .u8 (byteAt (cutX xs i.toNat) 15)], .cells 0 zs]) none
  | _, _ => none
noncomputable def C47 : Ctx := (ctx E T47 [(4, L47_4)] [(0, [1, 2, 4]), (1, [1, 2, 4, 12]), (2, [4, 5]), (3, [1, 2, 4, 6]), (4, [1, 2, 4, 6, 16]), (5, [1, 2, 4, 6]), (6, [1, 2, 4, 6]), (7, [4, 5]), (1000004, [1, 2, 4, 6])] [] 34 70)
theorem C47_ok : CtxOK Tryd.prog C47 := ctx_ok E_ok E_flds mixed T47_ok
theorem C47_l0 : C47.loop (loopId (loopB Tryd.f47 0)) = some L47_4 := by kernel_rfl
theorem L47_4_in : LoopsOK C47 (loopB Tryd.f47 0) := LoopsOK.within 0 (by kernel_rfl) (fun j hj S hS => by
  omega)
theorem M47_4a (n i : Int) (xs zs : List AV) (k : KC) : headedK C47 (loopB Tryd.f47 0) [(1, .int .i64 n), (2, .ptr 0 0 0), (4, .ptr 1 0 0), (6, .int .i64 i)] [.cells 0 xs, .cells 0 zs] k =
  aIf (decide (i < 128)) (aIf (decide (0 ≤ IntKind.i64.wrap (i.tdiv 8))) (aIf (decide (IntKind.i64.wrap (i.tdiv 8) < 16)) (aIf (decide (0 + (IntKind.i64.wrap (i.tdiv 8)).toNat * 1 + 1 ≤ xs.length)) (aIf ((xs.getD (0 + (IntKind.i64.wrap (i.tdiv 8)).toNat * 1) AV.junk).isInt IntKind.u8) (aIf (decide (IntKind.i64.wrap (7 - i.tmod 8) < 0)) none (aIf (decide (0 ≤ IntKind.i64.wrap (i.tdiv 8))) (aIf (decide (IntKind.i64.wrap (i.tdiv 8) < 16)) (aIf (decide (0 + (IntKind.i64.wrap (i.tdiv 8)).toNat * 1 + 1 ≤ xs.length)) (k AExit.normal [(1, AV.int IntKind.i64 n), (2, AV.ptr 0 0 0), (4, AV.ptr 1 0 0), (6, AV.int IntKind.i64 (IntKind.i64.wrap (i + 1)))] [AO.cells 0 (xs.set (0 + (IntKind.i64.wrap (i.tdiv 8)).toNat * 1) (AV.int IntKind.u8 (IntKind.u8.wrap (↑(BitVec.ofInt 8 (xs.getD (0 + (IntKind.i64.wrap (i.tdiv 8)).toNat * 1) AV.junk).toInt &&& ~~~BitVec.ofInt 8 (IntKind.u8.wrap (1 * 2 ^ min (IntKind.i64.wrap (7 - i.tmod 8)).toNat 8))).toNat : Int)))), AO.cells 0 zs]) none) none) none)) none) none) none) none) (k (AExit.exit 0) [(1, AV.int IntKind.i64 n), (2, AV.ptr 0 0 0), (4, AV.ptr 1 0 0), (6, AV.int IntKind.i64 i), (16, AV.bool (decide (i < 128)))] [AO.cells 0 xs, AO.cells 0 zs]) := by kernel_rfl
theorem L47_4_ok : LoopSum C47 (loopB Tryd.f47 0) L47_4 := LoopSum.of C47_ok L47_4_in (fun ts H => by
  unfold L47_4
  split
  · rename_i n i xs zs
    rcases Bool.eq_false_or_eq_true (intsB .u8 xs && xs.length == 16 && decide (0 ≤ i) && decide (i ≤ 128)) with hp | hp
    · refine .inr ?_
      simp only [aIf_pos hp]
      simp only [Bool.and_eq_true, decide_eq_true_eq, beq_iff_eq] at hp
      obtain ⟨⟨⟨hu, hL⟩, h0⟩, h1⟩ := hp
      obtain ⟨i, rfl⟩ := Int.eq_ofNat_of_zero_le h0
      have key : ∀ (j : Nat) (ys : List AV), j < 128 → (intsB .u8 ys = true ∧ ys.length = 16) → (intsB .u8 (setV ys j 0) = true ∧ (setV ys j 0).length = 16) ∧ ∀ k, headedK C47 (loopB Tryd.f47 0) [(1, .int .i64 n), (2, .ptr 0 0 0), (4, .ptr 1 0 0), (6, .int .i64 (j : Int))] [.cells 0 ys, .cells 0 zs] k = k .normal [(1, .int .i64 n), (2, .ptr 0 0 0), (4, .ptr 1 0 0), (6, .int .i64 ((j + 1 : Nat) : Int))] [.cells 0 (setV ys j 0), .cells 0 zs] := by
        intro j ys hj hys
        obtain ⟨hu, hL⟩ := hys
        refine ⟨⟨setV_u8 hu (.inl rfl), by rw [setV_length, hL]⟩, fun k => ?_⟩
        obtain ⟨x, hx, he⟩ := u8_get hu (j / 8) (by omega)
        rw [M47_4a]
        simp only [decide_eq_true (show (j : Int) < 128 by omega), div8 (show j < 9223372036854775808 by omega), sh7 j, decide_eq_true (show ((j / 8 : Nat) : Int) < 16 by omega), decide_eq_true (show j / 8 + 1 ≤ ys.length by omega), show min (7 - j % 8) 8 = 7 - j % 8 by omega, he, clr8 hx (show 7 - j % 8 < 8 by omega), u8pow (show 7 - j % 8 < 8 by omega), i64s (show j + 1 < 9223372036854775808 by omega), Int.toNat_natCast, Nat.zero_add, Nat.mul_one, Int.one_mul, isInt_self, AV.toInt, dnn, dnn', aIf_true, aIf_false, setV]
      have hl : cutX xs (i : Int).toNat = foldF (fun j ys => setV ys j 0) (128 - i) i xs := by rw [Int.toNat_natCast]; unfold cutX; rw [hL]
      rw [hl]
      exact (iter_fold (N := 128) (ts := fun j _ => [(1, .int .i64 n), (2, .ptr 0 0 0), (4, .ptr 1 0 0), (6, .int .i64 (j : Int))]) (H := fun _ ys => [.cells 0 ys, .cells 0 zs]) (f := fun j ys => setV ys j 0) (I := fun _ ys => intsB .u8 ys = true ∧ ys.length = 16) (te := fun _ => [(1, .int .i64 n), (2, .ptr 0 0 0), (4, .ptr 1 0 0), (6, .int .i64 128), (16, .bool false)]) (He := fun ys => [.cells 0 [.int .u8 (byteAt ys 0), .int .u8 (byteAt ys 1), .int .u8 (byteAt ys 2), .int .u8 (byteAt ys 3), .int .u8 (byteAt ys 4), .int .u8 (byteAt ys 5), .int .u8 (byteAt ys 6), .int .u8 (byteAt ys 7), .int .u8 (byteAt ys 8), .int .u8 (byteAt ys 9), .int .u8 (byteAt ys 10), .int .u8 (byteAt ys 11), .int .u8 (byteAt ys 12), .int .u8 (byteAt ys 13), .int .u8 (byteAt ys 14), .int .u8 (byteAt ys 15)], .cells 0 zs])
        key (fun ys hI k => by rw [M47_4a]; exact congrArg (fun c => k (.exit 0) [(1, .int .i64 n), (2, .ptr 0 0 0), (4, .ptr 1 0 0), (6, .int .i64 128), (16, .bool false)] [.cells 0 c, .cells 0 zs]) (bytes16 hI.1 hI.2)) (by intro h; cases h) (128 - i) i xs (by omega) ⟨hu, hL⟩).imp fun m hm k => (hm k).symm
    · exact .inl fun k => by rw [aIf_neg hp]
  · exact .inl fun k => rfl)
theorem C47_loops : ∀ c, Tryd.f47.body = some c → LoopsOK C47 c := LoopsOK.of 1 (by kernel_rfl) (fun j hj S hS => by
  match j, hj with
  | 0, _ => rw [C47_l0] at hS; cases hS; exact L47_4_ok
  | n + 1, hj => omega)
noncomputable def S47 : FSpec := inlineK C47 Tryd.f47
theorem S47_ok : SpecOK Tryd.prog 47 S47 := inlineK_ok C47_ok Tryd.func47 C47_loops
theorem En47 : Enters Tryd.prog 47 := ⟨_, Tryd.func47, by decide, rfl⟩
noncomputable def R47 (args : List AV) : Res := S47 args [] encK
noncomputable def V47 : FSpec := leafK (.tup [.agg [.int .u8, .int .u8, .int .u8, .int .u8, .int .u8, .int .u8, .int .u8, .int .u8, .int .u8, .int .u8, .int .u8, .int .u8, .int .u8, .int .u8, .int .u8, .int .u8, .int .i64], .int .i64]) R47
theorem V47_ok : SpecOK Tryd.prog 47 V47 := leafK_ok S47_ok (fun _ => rfl)
theorem N47 (x : Nat → Int) (n : Int) : S47 [.agg [.int .u8 (x 0), .int .u8 (x 1), .int .u8 (x 2), .int .u8 (x 3), .int .u8 (x 4), .int .u8 (x 5), .int .u8 (x 6), .int .u8 (x 7), .int .u8 (x 8), .int .u8 (x 9), .int .u8 (x 10), .int .u8 (x 11), .int .u8 (x 12), .int .u8 (x 13), .int .u8 (x 14), .int .u8 (x 15)], .int .i64 n] [] encK =
  aIf (decide (n < 0)) (some (AEnd.ret (AV.tup [AV.agg [AV.int IntKind.u8 0, AV.int IntKind.u8 0, AV.int IntKind.u8 0, AV.int IntKind.u8 0, AV.int IntKind.u8 0, AV.int IntKind.u8 0, AV.int IntKind.u8 0, AV.int IntKind.u8 0, AV.int IntKind.u8 0, AV.int IntKind.u8 0, AV.int IntKind.u8 0, AV.int IntKind.u8 0, AV.int IntKind.u8 0, AV.int IntKind.u8 0, AV.int IntKind.u8 0, AV.int IntKind.u8 0, AV.int IntKind.i64 0], AV.int IntKind.i64 5]), [])) (aIf (decide (n > 128)) (some (AEnd.ret (AV.tup [AV.agg [AV.int IntKind.u8 0, AV.int IntKind.u8 0, AV.int IntKind.u8 0, AV.int IntKind.u8 0, AV.int IntKind.u8 0, AV.int IntKind.u8 0, AV.int IntKind.u8 0, AV.int IntKind.u8 0, AV.int IntKind.u8 0, AV.int IntKind.u8 0, AV.int IntKind.u8 0, AV.int IntKind.u8 0, AV.int IntKind.u8 0, AV.int IntKind.u8 0, AV.int IntKind.u8 0, AV.int IntKind.u8 0, AV.int IntKind.i64 0], AV.int IntKind.i64 5]), [])) (aIf (true && (decide (0 ≤ x 0) && decide (x 0 ≤ 255)) && (true && (decide (0 ≤ x 1) && decide (x 1 ≤ 255)) && (true && (decide (0 ≤ x 2) && decide (x 2 ≤ 255)) && (true && (decide (0 ≤ x 3) && decide (x 3 ≤ 255)) && (true && (decide (0 ≤ x 4) && decide (x 4 ≤ 255)) && (true && (decide (0 ≤ x 5) && decide (x 5 ≤ 255)) && (true && (decide (0 ≤ x 6) && decide (x 6 ≤ 255)) && (true && (decide (0 ≤ x 7) && decide (x 7 ≤ 255)) && (true && (decide (0 ≤ x 8) && decide (x 8 ≤ 255)) && (true && (decide (0 ≤ x 9) && decide (x 9 ≤ 255)) && (true && (decide (0 ≤ x 10) && decide (x 10 ≤ 255)) && (true && (decide (0 ≤ x 11) && decide (x 11 ≤ 255)) && (true && (decide (0 ≤ x 12) && decide (x 12 ≤ 255)) && (true && (decide (0 ≤ x 13) && decide (x 13 ≤ 255)) && (true && (decide (0 ≤ x 14) && decide (x 14 ≤ 255)) && (true && (decide (0 ≤ x 15) && decide (x 15 ≤ 255)) && true))))))))))))))) && true && decide (0 ≤ n) && decide (n ≤ 128)) (some (AEnd.ret (AV.tup [AV.agg [AV.int IntKind.u8 (Pl.byteAt (Pl.cutX [AV.int IntKind.u8 (x 0), AV.int IntKind.u8 (x 1), AV.int IntKind.u8 (x 2), AV.int IntKind.u8 (x 3), AV.int IntKind.u8 (x 4), AV.int IntKind.u8 (x 5), AV.int IntKind.u8 (x 6), AV.int IntKind.u8 (x 7), AV.int IntKind.u8 (x 8), AV.int IntKind.u8 (x 9), AV.int IntKind.u8 (x 10), AV.int IntKind.u8 (x 11), AV.int IntKind.u8 (x 12), AV.int IntKind.u8 (x 13), AV.int IntKind.u8 (x 14), AV.int IntKind.u8 (x 15)] n.toNat) 0), AV.int IntKind.u8 (Pl.byteAt (Pl.cutX [AV.int IntKind.u8 (x 0), AV.int IntKind.u8 (x 1), AV.int IntKind.u8 (x 2), AV.int IntKind.u8 (x 3), AV.int IntKind.u8 (x 4), AV.int IntKind.u8 (x 5), AV.int IntKind.u8 (x 6), AV.int IntKind.u8 (x 7), AV.int IntKind.u8 (x 8), AV.int IntKind.u8 (x 9), AV.int IntKind.u8 (x 10), AV.int IntKind.u8 (x 11), AV.int IntKind.u8 (x 12), AV.int IntKind.u8 (x 13), AV.int IntKind.u8 (x 14), AV.int IntKind.u8 (x 15)] n.toNat) 1), AV.int IntKind.u8 (Pl.byteAt (Pl.cutX [AV.int IntKind.u8 (x 0), AV.int IntKind.u8 (x 1), AV.int IntKind.u8 (x 2), AV.int IntKind.u8 (x 3), AV.int IntKind.u8 (x 4), AV.int IntKind.u8 (x 5), AV.int IntKind.u8 (x 6), AV.int IntKind.u8 (x 7), AV.int IntKind.u8 (x 8), AV.int IntKind.u8 (x 9), AV.int IntKind.u8 (x 10), AV.int IntKind.u8 (x 11), AV.int IntKind.u8 (x 12), AV.int IntKind.u8 (x 13), AV.int IntKind.u8 (x 14), AV.int IntKind.u8 (x 15)] n.toNat) 2), AV.int IntKind.u8 (Pl.byteAt (Pl.cutX [AV.int IntKind.u8 (x 0), AV.int IntKind.u8 (x 1), AV.int IntKind.u8 (x 2), AV.int IntKind.u8 (x 3), AV.int IntKind.u8 (x 4), AV.int IntKind.u8 (x 5), AV.int IntKind.u8 (x 6), AV.int IntKind.u8 (x 7), AV.int IntKind.u8 (x 8), AV.int IntKind.u8 (x 9), AV.int IntKind.u8 (x 10), AV.int IntKind.u8 (x 11), AV.int IntKind.u8 (x 12), AV.int IntKind.u8 (x 13), AV.int IntKind.u8 (x 14), AV.int IntKind.u8 (x 15)] n.toNat) 3), AV.int IntKind.u8 (Pl.byteAt (Pl.cutX [AV.int IntKind.u8 (x 0), AV.int IntKind.u8 (x 1), AV.int IntKind.u8 (x 2), AV.int IntKind.u8 (x 3), AV.int IntKind.u8 (x 4), AV.int IntKind.u8 (x 5), AV.int IntKind.u8 (x 6), AV.int IntKind.u8 (x 7), AV.int IntKind.u8 (x 8), AV.int IntKind.u8 (x 9), AV.int IntKind.u8 (x 10), AV.int IntKind.u8 (x 11), AV.int IntKind.u8 (x 12), AV.int IntKind.u8 (x 13), AV.int IntKind.u8 (x 14), AV.int IntKind.u8 (x 15)] n.toNat) 4), AV.int IntKind.u8 (Pl.byteAt (Pl.cutX [AV.int IntKind.u8 (x 0), AV.int IntKind.u8 (x 1), AV.int IntKind.u8 (x 2), AV.int IntKind.u8 (x 3), AV.int IntKind.u8 (x 4), AV.int IntKind.u8 (x 5), AV.int IntKind.u8 (x 6), AV.int IntKind.u8 (x 7), AV.int IntKind.u8 (x 8), AV.int IntKind.u8 (x 9), AV.int IntKind.u8 (x 10), AV.int IntKind.u8 (x 11), AV.int IntKind.u8 (x 12), AV.int IntKind.u8 (x 13), AV.int IntKind.u8 (x 14), AV.int IntKind.u8 (x 15)] n.toNat) 5), AV.int IntKind.u8 (Pl.byteAt (Pl.cutX [AV.int IntKind.u8 (x 0), AV.int IntKind.u8 (x 1), AV.int IntKind.u8 (x 2), AV.int IntKind.u8 (x 3), AV.int IntKind.u8 (x 4), AV.int IntKind.u8 (x 5), AV.int IntKind.u8 (x 6), AV.int IntKind.u8 (x 7), AV.int IntKind.u8 (x 8), AV.int IntKind.u8 (x 9), AV.int IntKind.u8 (x 10), AV.int IntKind.u8 (x 11), AV.int IntKind.u8 (x 12), AV.int IntKind.u8 (x 13), AV.int IntKind.u8 (x 14), AV.int IntKind.u8 (x 15)] n.toNat) 6), AV.int IntKind.u8 (Pl.byteAt (Pl.cutX [AV.int IntKind.u8 (x 0), AV.int IntKind.u8 (x 1), AV.int IntKind.u8 (x 2), AV.int IntKind.u8 (x 3), AV.int IntKind.u8 (x 4), AV.int IntKind.u8 (x 5), AV.int IntKind.u8 (x 6), AV.int IntKind.u8 (x 7), AV.int IntKind.u8 (x 8), AV.int IntKind.u8 (x 9), AV.int IntKind.u8 (x 10), AV.int IntKind.u8 (x 11), AV.int IntKind.u8 (x 12), AV.int IntKind.u8 (x 13), AV.int IntKind.u8 (x 14), AV.int IntKind.u8 (x 15)] n.toNat) 7), AV.int IntKind.u8 (Pl.byteAt (Pl.cutX [AV.int IntKind.u8 (x 0), AV.int IntKind.u8 (x 1), AV.int IntKind.u8 (x 2), AV.int IntKind.u8 (x 3), AV.int IntKind.u8 (x 4), AV.int IntKind.u8 (x 5), AV.int IntKind.u8 (x 6), AV.int IntKind.u8 (x 7), AV.int IntKind.u8 (x 8), AV.int IntKind.u8 (x 9), AV.int IntKind.u8 (x 10), AV.int IntKind.u8 (x 11), AV.int IntKind.u8 (x 12), AV.int IntKind.u8 (x 13), AV.int IntKind.u8 (x 14), AV.int IntKind.u8 (x 15)] n.toNat) 8), AV.int IntKind.u8 (Pl.byteAt (Pl.cutX [AV.int IntKind.u8 (x 0), AV.int IntKind.u8 (x 1), AV.int IntKind.u8 (x 2), AV.int IntKind.u8 (x 3), AV.int IntKind.u8 (x 4), AV.int IntKind.u8 (x 5), AV.int IntKind.u8 (x 6), AV.int IntKind.u8 (x 7), AV.int IntKind.u8 (x 8), AV.int IntKind.u8 (x 9), AV.int IntKind.u8 (x 10), AV.int IntKind.u8 (x 11), AV.int IntKind.u8 (x 12), AV.int IntKind.u8 (x 13), AV.int IntKind.u8 (x 14), AV.int IntKind.u8 (x 15)] n.toNat) 9), AV.int IntKind.u8 (Pl.byteAt (Pl.cutX [AV.int IntKind.u8 (x 0), AV.int IntKind.u8 (x 1), AV.int IntKind.u8 (x 2), AV.int IntKind.u8 (x 3), AV.int IntKind.u8 (x 4), AV.int IntKind.u8 (x 5), AV.int IntKind.u8 (x 6), AV.int IntKind.u8 (x 7), AV.int IntKind.u8 (x 8), AV.int IntKind.u8 (x 9), AV.int IntKind.u8 (x 10), AV.int IntKind.u8 (x 11), AV.int IntKind.u8 (x 12), AV.int IntKind.u8 (x 13), AV.int IntKind.u8 (x 14), AV.int IntKind.u8 (x 15)] n.toNat) 10), AV.int IntKind.u8 (Pl.byteAt (Pl.cutX [AV.int IntKind.u8 (x 0), AV.int IntKind.u8 (x 1), AV.int IntKind.u8 (x 2), AV.int IntKind.u8 (x 3), AV.int IntKind.u8 (x 4), AV.int IntKind.u8 (x 5), AV.int IntKind.u8 (x 6), AV.int IntKind.u8 (x 7), AV.int IntKind.u8 (x 8), AV.int IntKind.u8 (x 9), AV.int IntKind.u8 (x 10), AV.int IntKind.u8 (x 11), AV.int IntKind.u8 (x 12), AV.int IntKind.u8 (x 13), AV.int IntKind.u8 (x 14), AV.int IntKind.u8 (x 15)] n.toNat) 11), AV.int IntKind.u8 (Pl.byteAt (Pl.cutX [AV.int IntKind.u8 (x 0), AV.int IntKind.u8 (x 1), AV.int IntKind.u8 (x 2), AV.int IntKind.u8 (x 3), AV.int IntKind.u8 (x 4), AV.int IntKind.u8 (x 5), AV.int IntKind.u8 (x 6), AV.int IntKind.u8 (x 7), AV.int IntKind.u8 (x 8), AV.int IntKind.u8 (x 9), AV.int IntKind.u8 (x 10), AV.int IntKind.u8 (x 11), AV.int IntKind.u8 (x 12), AV.int IntKind.u8 (x 13), AV.int IntKind.u8 (x 14), AV.int IntKind.u8 (x 15)] n.toNat) 12), AV.int IntKind.u8 (Pl.byteAt (Pl.cutX [AV.int IntKind.u8 (x 0), AV.int IntKind.u8 (x 1), AV.int IntKind.u8 (x 2), AV.int IntKind.u8 (x 3), AV.int IntKind.u8 (x 4), AV.int IntKind.u8 (x 5), AV.int IntKind.u8 (x 6), AV.int IntKind.u8 (x 7), AV.int IntKind.u8 (x 8), AV.int IntKind.u8 (x 9), AV.int IntKind.u8 (x 10), AV.int IntKind.u8 (x 11), AV.int IntKind.u8 (x 12), AV.int IntKind.u8 (x 13), AV.int IntKind.u8 (x 14), AV.int IntKind.u8 (x 15)] n.toNat) 13), AV.int IntKind.u8 (Pl.byteAt (Pl.cutX [AV.int IntKind.u8 (x 0), AV.int IntKind.u8 (x 1), AV.int IntKind.u8 (x 2), AV.int IntKind.u8 (x 3), AV.int IntKind.u8 (x 4), AV.int IntKind.u8 (x 5), AV.int IntKind.u8 (x 6), AV.int IntKind.u8 (x 7), AV.int IntKind.u8 (x 8), AV.int IntKind.u8 (x 9), AV.int IntKind.u8 (x 10), AV.int IntKind.u8 (x 11), AV.int IntKind.u8 (x 12), AV.int IntKind.u8 (x 13), AV.int IntKind.u8 (x 14), AV.int IntKind.u8 (x 15)] n.toNat) 14), AV.int IntKind.u8 (Pl.byteAt (Pl.cutX [AV.int IntKind.u8 (x 0), AV.int IntKind.u8 (x 1), AV.int IntKind.u8 (x 2), AV.int IntKind.u8 (x 3), AV.int IntKind.u8 (x 4), AV.int IntKind.u8 (x 5), AV.int IntKind.u8 (x 6), AV.int IntKind.u8 (x 7), AV.int IntKind.u8 (x 8), AV.int IntKind.u8 (x 9), AV.int IntKind.u8 (x 10), AV.int IntKind.u8 (x 11), AV.int IntKind.u8 (x 12), AV.int IntKind.u8 (x 13), AV.int IntKind.u8 (x 14), AV.int IntKind.u8 (x 15)] n.toNat) 15), AV.int IntKind.i64 n], AV.int IntKind.i64 0]), [])) none)) := by kernel_rfl
theorem R47_is {x : Nat → Int} {n : Int} (hx : b8 x) (h0 : 0 ≤ n) (h1 : n ≤ 128) : R47 [.agg [.int .u8 (x 0), .int .u8 (x 1), .int .u8 (x 2), .int .u8 (x 3), .int .u8 (x 4), .int .u8 (x 5), .int .u8 (x 6), .int .u8 (x 7), .int .u8 (x 8), .int .u8 (x 9), .int .u8 (x 10), .int .u8 (x 11), .int .u8 (x 12), .int .u8 (x 13), .int .u8 (x 14), .int .u8 (x 15)], .int .i64 n] = some (.ret (.tup [.agg [.int .u8 (byteAt (cutX [.int .u8 (x 0), .int .u8 (x 1), .int .u8 (x 2), .int .u8 (x 3), .int .u8 (x 4), .int .u8 (x 5), .int .u8 (x 6), .int .u8 (x 7), .int .u8 (x 8), .int .u8 (x 9), .int .u8 (x 10), .int .u8 (x 11), .int .u8 (x 12), .int .u8 (x 13), .int .u8 (x 14), .int .u8 (x 15)] n.toNat) 0), .int .u8 (byteAt (cutX [.int .u8 (x 0), .int .u8 (x 1), .int .u8 (x 2), .int .u8 (x 3), .int .u8 (x 4), .int .u8 (x 5), .int .u8 (x 6), .int .u8 (x 7), .int .u8 (x 8), .int .u8 (x 9), .int .u8 (x 10), .int .u8 (x 11), .int .u8 (x 12), .int .u8 (x 13), .int .u8 (x 14), .int .u8 (x 15)] n.toNat) 1), .int .u8 (byteAt (cutX [.int .u8 (x 0), .int .u8 (x 1), .int .u8 (x 2), .int .u8 (x 3), .int .u8 (x 4), .int .u8 (x 5), .int .u8 (x 6), .int .u8 (x 7), .int .u8 (x 8), .int .u8 (x 9), .int .u8 (x 10), .int .u8 (x 11), .int .u8 (x 12), .int .u8 (x 13), .int .u8 (x 14), .int .u8 (x 15)] n.toNat) 2), .int .u8 (byteAt (cutX [.int .u8 (x 0), .int .u8 (x 1), .int .u8 (x 2), .int .u8 (x 3), .int .u8 (x 4), .int .u8 (x 5), .int .u8 (x 6), .int .u8 (x 7), .int .u8 (x 8), .int .u8 (x 9), .int .u8 (x 10), .int .u8 (x 11), .int .u8 (x 12), .int .u8 (x 13), .int .u8 (x 14), .int .u8 (x 15)] n.toNat) 3), .int .u8 (byteAt (cutX [.int .u8 (x 0), .int .u8 (x 1), .int .u8 (x 2), .int .u8 (x 3), .int .u8 (x 4), .int .u8 (x 5), .int .u8 (x 6), .int .u8 (x 7), .int .u8 (x 8), .int .u8 (x 9), .int .u8 (x 10), .int .u8 (x 11), .int .u8 (x 12), .int .u8 (x 13), .int .u8 (x 14), .int .u8 (x 15)] n.toNat) 4), .int .u8 (byteAt (cutX [.int .u8 (x 0), .int .u8 (x 1), .int .u8 (x 2), .int .u8 (x 3), .int .u8 (x 4), .int .u8 (x 5), .int .u8 (x 6), .int .u8 (x 7), .int .u8 (x 8), .int .u8 (x 9), .int .u8 (x 10), .int .u8 (x 11), .int .u8 (x 12), .int .u8 (x 13), .int .u8 (x 14), .int .u8 (x 15)] n.toNat) 5), .int .u8 (byteAt (cutX [.int .u8 (x 0), .int .u8 (x 1), .int .u8 (x 2), .int .u8 (x 3), .int .u8 (x 4), .int .u8 (x 5), .int .u8 (x 6), .int .u8 (x 7), .int .u8 (x 8), .int .u8 (x 9), .int .u8 (x 10), .int .u8 (x 11), .int .u8 (x 12), .int .u8 (x 13), .int .u8 (x 14), .int .u8 (x 15)] n.toNat) 6), .int .u8 (byteAt (cutX [.int .u8 (x 0), .int .u8 (x 1), .int .u8 (x 2), .int .u8 (x 3), .int .u8 (x 4), .int .u8 (x 5), .int .u8 (x 6), .int .u8 (x 7), .int .u8 (x 8), .int .u8 (x 9), .int .u8 (x 10), .int .u8 (x 11), .int .u8 (x 12), .int .u8 (x 13), .int .u8 (x 14), .int .u8 (x 15)] n.toNat) 7), .int .u8 (byteAt (cutX [.int .u8 (x 0), .int .u8 (x 1), .int .u8 (x 2), .int .u8 (x 3), .int .u8 (x 4), .int .u8 (x 5), .int .u8 (x 6), .int .u8 (x 7), .int .u8 (x 8), .int .u8 (x 9), .int .u8 (x 10), .int .u8 (x 11), .int .u8 (x 12), .int .u8 (x 13), .int .u8 (x 14), .int .u8 (x 15)] n.toNat) 8), .int .u8 (byteAt (cutX [.int .u8 (x 0), .int .u8 (x 1), .int .u8 (x 2), .int .u8 (x 3), .int .u8 (x 4), .int .u8 (x 5), .int .u8 (x 6), .int .u8 (x 7), .int .u8 (x 8), .int .u8 (x 9), .int .u8 (x 10), .int .u8 (x 11), .int .u8 (x 12), .int .u8 (x 13), .int .u8 (x 14), .int .u8 (x 15)] n.toNat) 9), .int .u8 (byteAt (cutX [.int .u8 (x 0), .int .u8 (x 1), .int .u8 (x 2), .int .u8 (x 3), .int .u8 (x 4), .int .u8 (x 5), .int .u8 (x 6), .int .u8 (x 7), .int .u8 (x 8), .int .u8 (x 9), .int .u8 (x 10), .int .u8 (x 11), .int .u8 (x 12), .int .u8 (x 13), .int .u8 (x 14), .int .u8 (x 15)] n.toNat) 10), .int .u8 (byteAt (cutX [.int .u8 (x 0), .int .u8 (x 1), .int .u8 (x 2), .int .u8 (x 3), .int .u8 (x 4), .int .u8 (x 5), .int .u8 (x 6), .int .u8 (x 7), .int .u8 (x 8), .int .u8 (x 9), .int .u8 (x 10), .int .u8 (x 11), .int .u8 (x 12), .int .u8 (x 13), .int .u8 (x 14), .int .u8 (x 15)] n.toNat) 11), .int .u8 (byteAt (cutX [.int .u8 (x 0), .int .u8 (x 1), .int .u8 (x 2), .int .u8 (x 3), .int .u8 (x 4), .int .u8 (x 5), .int .u8 (x 6), .int .u8 (x 7), .int .u8 (x 8), .int .u8 (x 9), .int .u8 (x 10), .int .u8 (x 11), .int .u8 (x 12), .int .u8 (x 13), .int .u8 (x 14), .int .u8 (x 15)] n.toNat) 12), .int .u8 (byteAt (cutX [.int .u8 (x 0), .int .u8 (x 1), .int .u8 (x 2), .int .u8 (x 3), .int .u8 (x 4), .int .u8 (x 5), .int .u8 (x 6), .int .u8 (x 7), .int .u8 (x 8), .int .u8 (x 9), .int .u8 (x 10), .int .u8 (x 11), .int .u8 (x 12), .int .u8 (x 13), .int .u8 (x 14), .int .u8 (x 15)] n.toNat) 13), .int .u8 (byteAt (cutX [.int .u8 (x 0), .int .u8 (x 1), .int .u8 (x 2), .int .u8 (x 3), .int .u8 (x 4), .int .u8 (x 5), .int .u8 (x 6), .int .u8 (x 7), .int .u8 (x 8), .int .u8 (x 9), .int .u8 (x 10), .int .u8 (x 11), .int .u8 (x 12), .int .u8 (x 13), .int .u8 (x 14), .int .u8 (x 15)] n.toNat) 14), .int .u8 (byteAt (cutX [.int .u8 (x 0), .int .u8 (x 1), .int .u8 (x 2), .int .u8 (x 3), .int .u8 (x 4), .int .u8 (x 5), .int .u8 (x 6), .int .u8 (x 7), .int .u8 (x 8), .int .u8 (x 9), .int .u8 (x 10), .int .u8 (x 11), .int .u8 (x 12), .int .u8 (x 13), .int .u8 (x 14), .int .u8 (x 15)] n.toNat) 15), .int .i64 n], .int .i64 0]), []) := by
  show S47 _ [] encK = _
  rw [N47, decide_eq_false (show ¬ n < 0 by omega), decide_eq_false (show ¬ n > 128 by omega)]
  refine (aIf_neg rfl).trans ((aIf_neg rfl).trans (aIf_pos ?_))
  have : (intsB .u8 [.int .u8 (x 0), .int .u8 (x 1), .int .u8 (x 2), .int .u8 (x 3), .int .u8 (x 4), .int .u8 (x 5), .int .u8 (x 6), .int .u8 (x 7), .int .u8 (x 8), .int .u8 (x 9), .int .u8 (x 10), .int .u8 (x 11), .int .u8 (x 12), .int .u8 (x 13), .int .u8 (x 14), .int .u8 (x 15)] && ([.int .u8 (x 0), .int .u8 (x 1), .int .u8 (x 2), .int .u8 (x 3), .int .u8 (x 4), .int .u8 (x 5), .int .u8 (x 6), .int .u8 (x 7), .int .u8 (x 8), .int .u8 (x 9), .int .u8 (x 10), .int .u8 (x 11), .int .u8 (x 12), .int .u8 (x 13), .int .u8 (x 14), .int .u8 (x 15)] : List AV).length == 16 && decide (0 ≤ n) && decide (n ≤ 128)) = true := by rw [b8_16 hx, decide_eq_true h0, decide_eq_true h1]; rfl
  exact this

/-- ferryman/ferrymanref02.Has6 -/
noncomputable def T20 : List (FuncId × FSpec) := [(30, V30), (47, V47)]
theorem T20_ok : TabOK Tryd.prog T20 := TabOK.cons En30 V30_ok (TabOK.cons En47 V47_ok (TabOK.nil _))
noncomputable def C20 : Ctx := (ctx E T20 [] [(0, [2, 3]), (1, [2, 3, 10]), (2, [4, 5]), (3, [2, 6]), (4, [4, 5])] [] 21 70)
theorem C20_ok : CtxOK Tryd.prog C20 := ctx_ok E_ok E_flds mixed T20_ok
noncomputable def S20 : FSpec := inlineK C20 Tryd.f20
theorem S20_ok : SpecOK Tryd.prog 20 S20 := inlineK_ok C20_ok Tryd.func20 (fun _ _ => LoopsOK.none _)
theorem En20 : Enters Tryd.prog 20 := ⟨_, Tryd.func20, by decide, rfl⟩
noncomputable def R20 (args : List AV) : Res := S20 args [] encK
noncomputable def V20 : FSpec := leafK (.tup [.bool, .int .i64]) R20
theorem V20_ok : SpecOK Tryd.prog 20 V20 := leafK_ok S20_ok (fun _ => rfl)
theorem N20 (x y : Nat → Int) (n : Int) : S20 [.agg [.int .u8 (x 0), .int .u8 (x 1), .int .u8 (x 2), .int .u8 (x 3), .int .u8 (x 4), .int .u8 (x 5), .int .u8 (x 6), .int .u8 (x 7), .int .u8 (x 8), .int .u8 (x 9), .int .u8 (x 10), .int .u8 (x 11), .int .u8 (x 12), .int .u8 (x 13), .int .u8 (x 14), .int .u8 (x 15), .int .i64 n], .agg [.int .u8 (y 0), .int .u8 (y 1), .int .u8 (y 2), .int .u8 (y 3), .int .u8 (y 4), .int .u8 (y 5), .int .u8 (y 6), .int .u8 (y 7), .int .u8 (y 8), .int .u8 (y 9), .int .u8 (y 10), .int .u8 (y 11), .int .u8 (y 12), .int .u8 (y 13), .int .u8 (y 14), .int .u8 (y 15)]] [] encK =
  aIf (shOK (Sh.int IntKind.i64) (R30 [AV.agg [AV.int IntKind.u8 (x 0), AV.int IntKind.u8 (x 1), AV.int IntKind.u8 (x 2), AV.int IntKind.u8 (x 3), AV.int IntKind.u8 (x 4), AV.int IntKind.u8 (x 5), AV.int IntKind.u8 (x 6), AV.int IntKind.u8 (x 7), AV.int IntKind.u8 (x 8), AV.int IntKind.u8 (x 9), AV.int IntKind.u8 (x 10), AV.int IntKind.u8 (x 11), AV.int IntKind.u8 (x 12), AV.int IntKind.u8 (x 13), AV.int IntKind.u8 (x 14), AV.int IntKind.u8 (x 15), AV.int IntKind.i64 n]])) (aIf ((sel (R30 [AV.agg [AV.int IntKind.u8 (x 0), AV.int IntKind.u8 (x 1), AV.int IntKind.u8 (x 2), AV.int IntKind.u8 (x 3), AV.int IntKind.u8 (x 4), AV.int IntKind.u8 (x 5), AV.int IntKind.u8 (x 6), AV.int IntKind.u8 (x 7), AV.int IntKind.u8 (x 8), AV.int IntKind.u8 (x 9), AV.int IntKind.u8 (x 10), AV.int IntKind.u8 (x 11), AV.int IntKind.u8 (x 12), AV.int IntKind.u8 (x 13), AV.int IntKind.u8 (x 14), AV.int IntKind.u8 (x 15), AV.int IntKind.i64 n]]) []).toInt != 0) (some (AEnd.ret (AV.tup [AV.bool false, AV.int IntKind.i64 22]), [])) (aIf (shOK (Sh.tup [Sh.agg [Sh.int IntKind.u8, Sh.int IntKind.u8, Sh.int IntKind.u8, Sh.int IntKind.u8, Sh.int IntKind.u8, Sh.int IntKind.u8, Sh.int IntKind.u8, Sh.int IntKind.u8, Sh.int IntKind.u8, Sh.int IntKind.u8, Sh.int IntKind.u8, Sh.int IntKind.u8, Sh.int IntKind.u8, Sh.int IntKind.u8, Sh.int IntKind.u8, Sh.int IntKind.u8, Sh.int IntKind.i64], Sh.int IntKind.i64]) (R47 [AV.agg [AV.int IntKind.u8 (y 0), AV.int IntKind.u8 (y 1), AV.int IntKind.u8 (y 2), AV.int IntKind.u8 (y 3), AV.int IntKind.u8 (y 4), AV.int IntKind.u8 (y 5), AV.int IntKind.u8 (y 6), AV.int IntKind.u8 (y 7), AV.int IntKind.u8 (y 8), AV.int IntKind.u8 (y 9), AV.int IntKind.u8 (y 10), AV.int IntKind.u8 (y 11), AV.int IntKind.u8 (y 12), AV.int IntKind.u8 (y 13), AV.int IntKind.u8 (y 14), AV.int IntKind.u8 (y 15)], AV.int IntKind.i64 n])) (some (AEnd.ret (AV.tup [AV.bool ((sel (R47 [AV.agg [AV.int IntKind.u8 (y 0), AV.int IntKind.u8 (y 1), AV.int IntKind.u8 (y 2), AV.int IntKind.u8 (y 3), AV.int IntKind.u8 (y 4), AV.int IntKind.u8 (y 5), AV.int IntKind.u8 (y 6), AV.int IntKind.u8 (y 7), AV.int IntKind.u8 (y 8), AV.int IntKind.u8 (y 9), AV.int IntKind.u8 (y 10), AV.int IntKind.u8 (y 11), AV.int IntKind.u8 (y 12), AV.int IntKind.u8 (y 13), AV.int IntKind.u8 (y 14), AV.int IntKind.u8 (y 15)], AV.int IntKind.i64 n]) [0, 0]).toInt == x 0 && ((sel (R47 [AV.agg [AV.int IntKind.u8 (y 0), AV.int IntKind.u8 (y 1), AV.int IntKind.u8 (y 2), AV.int IntKind.u8 (y 3), AV.int IntKind.u8 (y 4), AV.int IntKind.u8 (y 5), AV.int IntKind.u8 (y 6), AV.int IntKind.u8 (y 7), AV.int IntKind.u8 (y 8), AV.int IntKind.u8 (y 9), AV.int IntKind.u8 (y 10), AV.int IntKind.u8 (y 11), AV.int IntKind.u8 (y 12), AV.int IntKind.u8 (y 13), AV.int IntKind.u8 (y 14), AV.int IntKind.u8 (y 15)], AV.int IntKind.i64 n]) [0, 1]).toInt == x 1 && ((sel (R47 [AV.agg [AV.int IntKind.u8 (y 0), AV.int IntKind.u8 (y 1), AV.int IntKind.u8 (y 2), AV.int IntKind.u8 (y 3), AV.int IntKind.u8 (y 4), AV.int IntKind.u8 (y 5), AV.int IntKind.u8 (y 6), AV.int IntKind.u8 (y 7), AV.int IntKind.u8 (y 8), AV.int IntKind.u8 (y 9), AV.int IntKind.u8 (y 10), AV.int IntKind.u8 (y 11), AV.int IntKind.u8 (y 12), AV.int IntKind.u8 (y 13), AV.int IntKind.u8 (y 14), AV.int IntKind.u8 (y 15)], AV.int IntKind.i64 n]) [0, 2]).toInt == x 2 && ((sel (R47 [AV.agg [AV.int IntKind.u8 (y 0), AV.int IntKind.u8 (y 1), AV.int IntKind.u8 (y 2), AV.int IntKind.u8 (y 3), AV.int IntKind.u8 (y 4), AV.int IntKind.u8 (y 5), AV.int IntKind.u8 (y 6), AV.int IntKind.u8 (y 7), AV.int IntKind.u8 (y 8), AV.int IntKind.u8 (y 9), AV.int IntKind.u8 (y 10), AV.int IntKind.u8 (y 11), AV.int IntKind.u8 (y 12), AV.int IntKind.u8 (y 13), AV.int IntKind.u8 (y 14), AV.int IntKind.u8 (y 15)], AV.int IntKind.i64 n]) [0, 3]).toInt == x 3 && ((sel (R47 [AV.agg [AV.int IntKind.u8 (y 0), AV.int IntKind.u8 (y 1), AV.int IntKind.u8 (y 2), AV.int IntKind.u8 (y 3), AV.int IntKind.u8 (y 4), AV.int IntKind.u8 (y 5), AV.int IntKind.u8 (y 6), AV.int IntKind.u8 (y 7), AV.int IntKind.u8 (y 8), AV.int IntKind.u8 (y 9), AV.int IntKind.u8 (y 10), AV.int IntKind.u8 (y 11), AV.int IntKind.u8 (y 12), AV.int IntKind.u8 (y 13), AV.int IntKind.u8 (y 14), AV.int IntKind.u8 (y 15)], AV.int IntKind.i64 n]) [0, 4]).toInt == x 4 && ((sel (R47 [AV.agg [AV.int IntKind.u8 (y 0), AV.int IntKind.u8 (y 1), AV.int IntKind.u8 (y 2), AV.int IntKind.u8 (y 3), AV.int IntKind.u8 (y 4), AV.int IntKind.u8 (y 5), AV.int IntKind.u8 (y 6), AV.int IntKind.u8 (y 7), AV.int IntKind.u8 (y 8), AV.int IntKind.u8 (y 9), AV.int IntKind.u8 (y 10), AV.int IntKind.u8 (y 11), AV.int IntKind.u8 (y 12), AV.int IntKind.u8 (y 13), AV.int IntKind.u8 (y 14), AV.int IntKind.u8 (y 15)], AV.int IntKind.i64 n]) [0, 5]).toInt == x 5 && ((sel (R47 [AV.agg [AV.int IntKind.u8 (y 0), AV.int IntKind.u8 (y 1), AV.int IntKind.u8 (y 2), AV.int IntKind.u8 (y 3), AV.int IntKind.u8 (y 4), AV.int IntKind.u8 (y 5), AV.int IntKind.u8 (y 6), AV.int IntKind.u8 (y 7), AV.int IntKind.u8 (y 8), AV.int IntKind.u8 (y 9), AV.int IntKind.u8 (y 10), AV.int IntKind.u8 (y 11), AV.int IntKind.u8 (y 12), AV.int IntKind.u8 (y 13), AV.int IntKind.u8 (y 14), AV.int IntKind.u8 (y 15)], AV.int IntKind.i64 n]) [0, 6]).toInt == x 6 && ((sel (R47 [AV.agg [AV.int IntKind.u8 (y 0), AV.int IntKind.u8 (y 1), AV.int IntKind.u8 (y 2), AV.int IntKind.u8 (y 3), AV.int IntKind.u8 (y 4), AV.int IntKind.u8 (y 5), AV.int IntKind.u8 (y 6), AV.int IntKind.u8 (y 7), AV.int IntKind.u8 (y 8), AV.int IntKind.u8 (y 9), AV.int IntKind.u8 (y 10), AV.int IntKind.u8 (y 11), AV.int IntKind.u8 (y 12), AV.int IntKind.u8 (y 13), AV.int IntKind.u8 (y 14), AV.int IntKind.u8 (y 15)], AV.int IntKind.i64 n]) [0, 7]).toInt == x 7 && ((sel (R47 [AV.agg [AV.int IntKind.u8 (y 0), AV.int IntKind.u8 (y 1), AV.int IntKind.u8 (y 2), AV.int IntKind.u8 (y 3), AV.int IntKind.u8 (y 4), AV.int IntKind.u8 (y 5), AV.int IntKind.u8 (y 6), AV.int IntKind.u8 (y 7), AV.int IntKind.u8 (y 8), AV.int IntKind.u8 (y 9), AV.int IntKind.u8 (y 10), AV.int IntKind.u8 (y 11), AV.int IntKind.u8 (y 12), AV.int IntKind.u8 (y 13), AV.int IntKind.u8 (y 14), AV.int IntKind.u8 (y 15)], AV.int IntKind.i64 n]) [0, 8]).toInt == x 8 && ((sel (R47 [AV.agg [AV.int IntKind.u8 (y 0), AV.int IntKind.u8 (y 1), AV.int IntKind.u8 (y 2), AV.int IntKind.u8 (y 3), AV.int IntKind.u8 (y 4), AV.int IntKind.u8 (y 5), AV.int IntKind.u8 (y 6), AV.int IntKind.u8 (y 7), AV.int IntKind.u8 (y 8), AV.int IntKind.u8 (y 9), AV.int IntKind.u8 (y 10), AV.int IntKind.u8 (y 11), AV.int IntKind.u8 (y 12), AV.int IntKind.u8 (y 13), AV.int IntKind.u8 (y 14), AV.int IntKind.u8 (y 15)], AV.int IntKind.i64 n]) [0, 9]).toInt == x 9 && ((sel (R47 [AV.agg [AV.int IntKind.u8 (y 0), AV.int IntKind.u8 (y 1), AV.int IntKind.u8 (y 2), AV.int IntKind.u8 (y 3), AV.int IntKind.u8 (y 4), AV.int IntKind.u8 (y 5), AV.int IntKind.u8 (y 6), AV.int IntKind.u8 (y 7), AV.int IntKind.u8 (y 8), AV.int IntKind.u8 (y 9), AV.int IntKind.u8 (y 10), AV.int IntKind.u8 (y 11), AV.int IntKind.u8 (y 12), AV.int IntKind.u8 (y 13), AV.int IntKind.u8 (y 14), AV.int IntKind.u8 (y 15)], AV.int IntKind.i64 n]) [0, 10]).toInt == x 10 && ((sel (R47 [AV.agg [AV.int IntKind.u8 (y 0), AV.int IntKind.u8 (y 1), AV.int IntKind.u8 (y 2), AV.int IntKind.u8 (y 3), AV.int IntKind.u8 (y 4), AV.int IntKind.u8 (y 5), AV.int IntKind.u8 (y 6), AV.int IntKind.u8 (y 7), AV.int IntKind.u8 (y 8), AV.int IntKind.u8 (y 9), AV.int IntKind.u8 (y 10), AV.int IntKind.u8 (y 11), AV.int IntKind.u8 (y 12), AV.int IntKind.u8 (y 13), AV.int IntKind.u8 (y 14), AV.int IntKind.u8 (y 15)], AV.int IntKind.i64 n]) [0, 11]).toInt == x 11 && ((sel (R47 [AV.agg [AV.int IntKind.u8 (y 0), AV.int IntKind.u8 (y 1), AV.int IntKind.u8 (y 2), AV.int IntKind.u8 (y 3), AV.int IntKind.u8 (y 4), AV.int IntKind.u8 (y 5), AV.int IntKind.u8 (y 6), AV.int IntKind.u8 (y 7), AV.int IntKind.u8 (y 8), AV.int IntKind.u8 (y 9), AV.int IntKind.u8 (y 10), AV.int IntKind.u8 (y 11), AV.int IntKind.u8 (y 12), AV.int IntKind.u8 (y 13), AV.int IntKind.u8 (y 14), AV.int IntKind.u8 (y 15)], AV.int IntKind.i64 n]) [0, 12]).toInt == x 12 && ((sel (R47 [AV.agg [AV.int IntKind.u8 (y 0), AV.int IntKind.u8 (y 1), AV.int IntKind.u8 (y 2), AV.int IntKind.u8 (y 3), AV.int IntKind.u8 (y 4), AV.int IntKind.u8 (y 5), AV.int IntKind.u8 (y 6), AV.int IntKind.u8 (y 7), AV.int IntKind.u8 (y 8), AV.int IntKind.u8 (y 9), AV.int IntKind.u8 (y 10), AV.int IntKind.u8 (y 11), AV.int IntKind.u8 (y 12), AV.int IntKind.u8 (y 13), AV.int IntKind.u8 (y 14), AV.int IntKind.u8 (y 15)], AV.int IntKind.i64 n]) [0, 13]).toInt == x 13 && ((sel (R47 [AV.agg [AV.int IntKind.u8 (y 0), AV.int IntKind.u8 (y 1), AV.int IntKind.u8 (y 2), AV.int IntKind.u8 (y 3), AV.int IntKind.u8 (y 4), AV.int IntKind.u8 (y 5), AV.int IntKind.u8 (y 6), AV.int IntKind.u8 (y 7), AV.int IntKind.u8 (y 8), AV.int IntKind.u8 (y 9), AV.int IntKind.u8 (y 10), AV.int IntKind.u8 (y 11), AV.int IntKind.u8 (y 12), AV.int IntKind.u8 (y 13), AV.int IntKind.u8 (y 14), AV.int IntKind.u8 (y 15)], AV.int IntKind.i64 n]) [0, 14]).toInt == x 14 && ((sel (R47 [AV.agg [AV.int IntKind.u8 (y 0), AV.int IntKind.u8 (y 1), AV.int IntKind.u8 (y 2), AV.int IntKind.u8 (y 3), AV.int IntKind.u8 (y 4), AV.int IntKind.u8 (y 5), AV.int IntKind.u8 (y 6), AV.int IntKind.u8 (y 7), AV.int IntKind.u8 (y 8), AV.int IntKind.u8 (y 9), AV.int IntKind.u8 (y 10), AV.int IntKind.u8 (y 11), AV.int IntKind.u8 (y 12), AV.int IntKind.u8 (y 13), AV.int IntKind.u8 (y 14), AV.int IntKind.u8 (y 15)], AV.int IntKind.i64 n]) [0, 15]).toInt == x 15 && true))))))))))))))) && ((sel (R47 [AV.agg [AV.int IntKind.u8 (y 0), AV.int IntKind.u8 (y 1), AV.int IntKind.u8 (y 2), AV.int IntKind.u8 (y 3), AV.int IntKind.u8 (y 4), AV.int IntKind.u8 (y 5), AV.int IntKind.u8 (y 6), AV.int IntKind.u8 (y 7), AV.int IntKind.u8 (y 8), AV.int IntKind.u8 (y 9), AV.int IntKind.u8 (y 10), AV.int IntKind.u8 (y 11), AV.int IntKind.u8 (y 12), AV.int IntKind.u8 (y 13), AV.int IntKind.u8 (y 14), AV.int IntKind.u8 (y 15)], AV.int IntKind.i64 n]) [0, 16]).toInt == n && true)), AV.int IntKind.i64 0]), [])) none)) none := by kernel_rfl
theorem R20_is {x y : Nat → Int} {n : Int} (hx : b8 x) (hy : b8 y) : R20 [.agg [.int .u8 (x 0), .int .u8 (x 1), .int .u8 (x 2), .int .u8 (x 3), .int .u8 (x 4), .int .u8 (x 5), .int .u8 (x 6), .int .u8 (x 7), .int .u8 (x 8), .int .u8 (x 9), .int .u8 (x 10), .int .u8 (x 11), .int .u8 (x 12), .int .u8 (x 13), .int .u8 (x 14), .int .u8 (x 15), .int .i64 n], .agg [.int .u8 (y 0), .int .u8 (y 1), .int .u8 (y 2), .int .u8 (y 3), .int .u8 (y 4), .int .u8 (y 5), .int .u8 (y 6), .int .u8 (y 7), .int .u8 (y 8), .int .u8 (y 9), .int .u8 (y 10), .int .u8 (y 11), .int .u8 (y 12), .int .u8 (y 13), .int .u8 (y 14), .int .u8 (y 15)]] = some (.ret (.tup [.bool (inB 128 [.int .u8 (x 0), .int .u8 (x 1), .int .u8 (x 2), .int .u8 (x 3), .int .u8 (x 4), .int .u8 (x 5), .int .u8 (x 6), .int .u8 (x 7), .int .u8 (x 8), .int .u8 (x 9), .int .u8 (x 10), .int .u8 (x 11), .int .u8 (x 12), .int .u8 (x 13), .int .u8 (x 14), .int .u8 (x 15)] [.int .u8 (y 0), .int .u8 (y 1), .int .u8 (y 2), .int .u8 (y 3), .int .u8 (y 4), .int .u8 (y 5), .int .u8 (y 6), .int .u8 (y 7), .int .u8 (y 8), .int .u8 (y 9), .int .u8 (y 10), .int .u8 (y 11), .int .u8 (y 12), .int .u8 (y 13), .int .u8 (y 14), .int .u8 (y 15)] n), .int .i64 (chkE 128 [.int .u8 (x 0), .int .u8 (x 1), .int .u8 (x 2), .int .u8 (x 3), .int .u8 (x 4), .int .u8 (x 5), .int .u8 (x 6), .int .u8 (x 7), .int .u8 (x 8), .int .u8 (x 9), .int .u8 (x 10), .int .u8 (x 11), .int .u8 (x 12), .int .u8 (x 13), .int .u8 (x 14), .int .u8 (x 15)] n)]), []) := by
  show S20 _ [] encK = _
  have ti : ∀ k n, (AV.int k n).toInt = n := fun _ _ => rfl
  have tb : ∀ b, (AV.bool b).toBool = b := fun _ => rfl
  have si : ∀ k n, sel (some (AEnd.ret (AV.int k n), [])) [] = .int k n := fun _ _ => rfl
  have sb : ∀ b, sel (some (AEnd.ret (AV.bool b), [])) [] = .bool b := fun _ => rfl
  rw [N20]
  simp only [R30_is hx, shOK_ret, has_int, chkE_in, si, ti, aIf_true]
  rcases chkE_or 128 [.int .u8 (x 0), .int .u8 (x 1), .int .u8 (x 2), .int .u8 (x 3), .int .u8 (x 4), .int .u8 (x 5), .int .u8 (x 6), .int .u8 (x 7), .int .u8 (x 8), .int .u8 (x 9), .int .u8 (x 10), .int .u8 (x 11), .int .u8 (x 12), .int .u8 (x 13), .int .u8 (x 14), .int .u8 (x 15)] n with ⟨h1, h2, h3, h4⟩ | h1
  · have e := R47_is hy h2 h3
    have hcu := cutX_u8 (b8_16 hy) n.toNat
    have hcl : (cutX [.int .u8 (y 0), .int .u8 (y 1), .int .u8 (y 2), .int .u8 (y 3), .int .u8 (y 4), .int .u8 (y 5), .int .u8 (y 6), .int .u8 (y 7), .int .u8 (y 8), .int .u8 (y 9), .int .u8 (y 10), .int .u8 (y 11), .int .u8 (y 12), .int .u8 (y 13), .int .u8 (y 14), .int .u8 (y 15)] n.toNat).length = 16 := cutX_length _ _
    have hin : ∀ k, inK .u8 (byteAt (cutX [.int .u8 (y 0), .int .u8 (y 1), .int .u8 (y 2), .int .u8 (y 3), .int .u8 (y 4), .int .u8 (y 5), .int .u8 (y 6), .int .u8 (y 7), .int .u8 (y 8), .int .u8 (y 9), .int .u8 (y 10), .int .u8 (y 11), .int .u8 (y 12), .int .u8 (y 13), .int .u8 (y 14), .int .u8 (y 15)] n.toNat) k) = true := fun k => byteAt_in hcu k
    have g : ∀ l : List AV, sel (some (AEnd.ret (AV.tup [.agg l, .int .i64 0]), [])) [0] = .agg l := fun _ => rfl
    have hn : inK .i64 n = true := by rw [inK_i64, decide_eq_true (show -9223372036854775808 ≤ n by omega), decide_eq_true (show n ≤ 9223372036854775807 by omega)]; rfl
    rw [h1, e, aIf_neg (b := ((0 : Int) != 0)) rfl]
    refine (aIf_pos ?_).trans ?_
    · simp only [shOK_ret, has_tup, has_agg, hasL_cons, hasL_nil, has_int, List.getD_cons_zero, List.getD_cons_succ, List.length_cons, List.length_nil, beq_self_eq_true, hin, hn, Bool.and_self]
      rfl
    · unfold inB
      rw [h1]
      refine congrArg (fun u => some (AEnd.ret (AV.tup [AV.bool u, AV.int .i64 0]), [])) ?_
      show _ = sameB [.int .u8 (x 0), .int .u8 (x 1), .int .u8 (x 2), .int .u8 (x 3), .int .u8 (x 4), .int .u8 (x 5), .int .u8 (x 6), .int .u8 (x 7), .int .u8 (x 8), .int .u8 (x 9), .int .u8 (x 10), .int .u8 (x 11), .int .u8 (x 12), .int .u8 (x 13), .int .u8 (x 14), .int .u8 (x 15)] [.int .u8 (y 0), .int .u8 (y 1), .int .u8 (y 2), .int .u8 (y 3), .int .u8 (y 4), .int .u8 (y 5), .int .u8 (y 6), .int .u8 (y 7), .int .u8 (y 8), .int .u8 (y 9), .int .u8 (y 10), .int .u8 (y 11), .int .u8 (y 12), .int .u8 (y 13), .int .u8 (y 14), .int .u8 (y 15)] n.toNat
      rw [Bool.eq_iff_iff, ← cut_same (b8_16 hx) (b8_16 hy) rfl (show n.toNat ≤ 128 by omega) h4]
      have hb := bytes16 hcu hcl
      constructor
      · intro h
        have h' : ((byteAt (cutX [.int .u8 (y 0), .int .u8 (y 1), .int .u8 (y 2), .int .u8 (y 3), .int .u8 (y 4), .int .u8 (y 5), .int .u8 (y 6), .int .u8 (y 7), .int .u8 (y 8), .int .u8 (y 9), .int .u8 (y 10), .int .u8 (y 11), .int .u8 (y 12), .int .u8 (y 13), .int .u8 (y 14), .int .u8 (y 15)] n.toNat) 0 == x 0 && (byteAt (cutX [.int .u8 (y 0), .int .u8 (y 1), .int .u8 (y 2), .int .u8 (y 3), .int .u8 (y 4), .int .u8 (y 5), .int .u8 (y 6), .int .u8 (y 7), .int .u8 (y 8), .int .u8 (y 9), .int .u8 (y 10), .int .u8 (y 11), .int .u8 (y 12), .int .u8 (y 13), .int .u8 (y 14), .int .u8 (y 15)] n.toNat) 1 == x 1 && (byteAt (cutX [.int .u8 (y 0), .int .u8 (y 1), .int .u8 (y 2), .int .u8 (y 3), .int .u8 (y 4), .int .u8 (y 5), .int .u8 (y 6), .int .u8 (y 7), .int .u8 (y 8), .int .u8 (y 9), .int .u8 (y 10), .int .u8 (y 11), .int .u8 (y 12), .int .u8 (y 13), .int .u8 (y 14), .int .u8 (y 15)] n.toNat) 2 == x 2 && (byteAt (cutX [.int .u8 (y 0), .int .u8 (y 1), .int .u8 (y 2), .int .u8 (y 3), .int .u8 (y 4), .int .u8 (y 5), .int .u8 (y 6), .int .u8 (y 7), .int .u8 (y 8), .int .u8 (y 9), .int .u8 (y 10), .int .u8 (y 11), .int .u8 (y 12), .int .u8 (y 13), .int .u8 (y 14), .int .u8 (y 15)] n.toNat) 3 == x 3 && (byteAt (cutX [.int .u8 (y 0), .int .u8 (y 1), .int .u8 (y 2), .int .u8 (y 3), .int .u8 (y 4), .int .u8 (y 5), .int .u8 (y 6), .int .u8 (y 7), .int .u8 (y 8), .int .u8 (y 9), .int .u8 (y 10), .int .u8 (y 11), .int .u8 (y 12), .int .u8 (y 13), .int .u8 (y 14), .int .u8 (y 15)] n.toNat) 4 == x 4 && (byteAt (cutX [.int .u8 (y 0), .int .u8 (y 1), .int .u8 (y 2), .int .u8 (y 3), .int .u8 (y 4), .int .u8 (y 5), .int .u8 (y 6), .int .u8 (y 7), .int .u8 (y 8), .int .u8 (y 9), .int .u8 (y 10), .int .u8 (y 11), .int .u8 (y 12), .int .u8 (y 13), .int .u8 (y 14), .int .u8 (y 15)] n.toNat) 5 == x 5 && (byteAt (cutX [.int .u8 (y 0), .int .u8 (y 1), .int .u8 (y 2), .int .u8 (y 3), .int .u8 (y 4), .int .u8 (y 5), .int .u8 (y 6), .int .u8 (y 7), .int .u8 (y 8), .int .u8 (y 9), .int .u8 (y 10), .int .u8 (y 11), .int .u8 (y 12), .int .u8 (y 13), .int .u8 (y 14), .int .u8 (y 15)] n.toNat) 6 == x 6 && (byteAt (cutX [.int .u8 (y 0), .int .u8 (y 1), .int .u8 (y 2), .int .u8 (y 3), .int .u8 (y 4), .int .u8 (y 5), .int .u8 (y 6), .int .u8 (y 7), .int .u8 (y 8), .int .u8 (y 9), .int .u8 (y 10), .int .u8 (y 11), .int .u8 (y 12), .int .u8 (y 13), .int .u8 (y 14), .int .u8 (y 15)] n.toNat) 7 == x 7 && (byteAt (cutX [.int .u8 (y 0), .int .u8 (y 1), .int .u8 (y 2), .int .u8 (y 3), .int .u8 (y 4), .int .u8 (y 5), .int .u8 (y 6), .int .u8 (y 7), .int .u8 (y 8), .int .u8 (y 9), .int .u8 (y 10), .int .u8 (y 11), .int .u8 (y 12), .int .u8 (y 13), .int .u8 (y 14), .int .u8 (y 15)] n.toNat) 8 == x 8 && (byteAt (cutX [.int .u8 (y 0), .int .u8 (y 1), .int .u8 (y 2), .int .u8 (y 3), .int .u8 (y 4), .int .u8 (y 5), .int .u8 (y 6), .int .u8 (y 7), .int .u8 (y 8), .int .u8 (y 9), .int .u8 (y 10), .int .u8 (y 11), .int .u8 (y 12), .int .u8 (y 13), .int .u8 (y 14), .int .u8 (y 15)] n.toNat) 9 == x 9 && (byteAt (cutX [.int .u8 (y 0), .int .u8 (y 1), .int .u8 (y 2), .int .u8 (y 3), .int .u8 (y 4), .int .u8 (y 5), .int .u8 (y 6), .int .u8 (y 7), .int .u8 (y 8), .int .u8 (y 9), .int .u8 (y 10), .int .u8 (y 11), .int .u8 (y 12), .int .u8 (y 13), .int .u8 (y 14), .int .u8 (y 15)] n.toNat) 10 == x 10 && (byteAt (cutX [.int .u8 (y 0), .int .u8 (y 1), .int .u8 (y 2), .int .u8 (y 3), .int .u8 (y 4), .int .u8 (y 5), .int .u8 (y 6), .int .u8 (y 7), .int .u8 (y 8), .int .u8 (y 9), .int .u8 (y 10), .int .u8 (y 11), .int .u8 (y 12), .int .u8 (y 13), .int .u8 (y 14), .int .u8 (y 15)] n.toNat) 11 == x 11 && (byteAt (cutX [.int .u8 (y 0), .int .u8 (y 1), .int .u8 (y 2), .int .u8 (y 3), .int .u8 (y 4), .int .u8 (y 5), .int .u8 (y 6), .int .u8 (y 7), .int .u8 (y 8), .int .u8 (y 9), .int .u8 (y 10), .int .u8 (y 11), .int .u8 (y 12), .int .u8 (y 13), .int .u8 (y 14), .int .u8 (y 15)] n.toNat) 12 == x 12 && (byteAt (cutX [.int .u8 (y 0), .int .u8 (y 1), .int .u8 (y 2), .int .u8 (y 3), .int .u8 (y 4), .int .u8 (y 5), .int .u8 (y 6), .int .u8 (y 7), .int .u8 (y 8), .int .u8 (y 9), .int .u8 (y 10), .int .u8 (y 11), .int .u8 (y 12), .int .u8 (y 13), .int .u8 (y 14), .int .u8 (y 15)] n.toNat) 13 == x 13 && (byteAt (cutX [.int .u8 (y 0), .int .u8 (y 1), .int .u8 (y 2), .int .u8 (y 3), .int .u8 (y 4), .int .u8 (y 5), .int .u8 (y 6), .int .u8 (y 7), .int .u8 (y 8), .int .u8 (y 9), .int .u8 (y 10), .int .u8 (y 11), .int .u8 (y 12), .int .u8 (y 13), .int .u8 (y 14), .int .u8 (y 15)] n.toNat) 14 == x 14 && (byteAt (cutX [.int .u8 (y 0), .int .u8 (y 1), .int .u8 (y 2), .int .u8 (y 3), .int .u8 (y 4), .int .u8 (y 5), .int .u8 (y 6), .int .u8 (y 7), .int .u8 (y 8), .int .u8 (y 9), .int .u8 (y 10), .int .u8 (y 11), .int .u8 (y 12), .int .u8 (y 13), .int .u8 (y 14), .int .u8 (y 15)] n.toNat) 15 == x 15 && true)))))))))))))))) && (n == n && true)) = true := h
        simp only [Bool.and_eq_true, beq_iff_eq] at h'
        obtain ⟨⟨q0, q1, q2, q3, q4, q5, q6, q7, q8, q9, q10, q11, q12, q13, q14, q15, _⟩, _⟩ := h'
        rw [hb]
        simp only [q0, q1, q2, q3, q4, q5, q6, q7, q8, q9, q10, q11, q12, q13, q14, q15]
      · intro h
        show ((byteAt (cutX [.int .u8 (y 0), .int .u8 (y 1), .int .u8 (y 2), .int .u8 (y 3), .int .u8 (y 4), .int .u8 (y 5), .int .u8 (y 6), .int .u8 (y 7), .int .u8 (y 8), .int .u8 (y 9), .int .u8 (y 10), .int .u8 (y 11), .int .u8 (y 12), .int .u8 (y 13), .int .u8 (y 14), .int .u8 (y 15)] n.toNat) 0 == x 0 && (byteAt (cutX [.int .u8 (y 0), .int .u8 (y 1), .int .u8 (y 2), .int .u8 (y 3), .int .u8 (y 4), .int .u8 (y 5), .int .u8 (y 6), .int .u8 (y 7), .int .u8 (y 8), .int .u8 (y 9), .int .u8 (y 10), .int .u8 (y 11), .int .u8 (y 12), .int .u8 (y 13), .int .u8 (y 14), .int .u8 (y 15)] n.toNat) 1 == x 1 && (byteAt (cutX [.int .u8 (y 0), .int .u8 (y 1), .int .u8 (y 2), .int .u8 (y 3), .int .u8 (y 4), .int .u8 (y 5), .int .u8 (y 6), .int .u8 (y 7), .int .u8 (y 8), .int .u8 (y 9), .int .u8 (y 10), .int .u8 (y 11), .int .u8 (y 12), .int .u8 (y 13), .int .u8 (y 14), .int .u8 (y 15)] n.toNat) 2 == x 2 && (byteAt (cutX [.int .u8 (y 0), .int .u8 (y 1), .int .u8 (y 2), .int .u8 (y 3), .int .u8 (y 4), .int .u8 (y 5), .int .u8 (y 6), .int .u8 (y 7), .int .u8 (y 8), .int .u8 (y 9), .int .u8 (y 10), .int .u8 (y 11), .int .u8 (y 12), .int .u8 (y 13), .int .u8 (y 14), .int .u8 (y 15)] n.toNat) 3 == x 3 && (byteAt (cutX [.int .u8 (y 0), .int .u8 (y 1), .int .u8 (y 2), .int .u8 (y 3), .int .u8 (y 4), .int .u8 (y 5), .int .u8 (y 6), .int .u8 (y 7), .int .u8 (y 8), .int .u8 (y 9), .int .u8 (y 10), .int .u8 (y 11), .int .u8 (y 12), .int .u8 (y 13), .int .u8 (y 14), .int .u8 (y 15)] n.toNat) 4 == x 4 && (byteAt (cutX [.int .u8 (y 0), .int .u8 (y 1), .int .u8 (y 2), .int .u8 (y 3), .int .u8 (y 4), .int .u8 (y 5), .int .u8 (y 6), .int .u8 (y 7), .int .u8 (y 8), .int .u8 (y 9), .int .u8 (y 10), .int .u8 (y 11), .int .u8 (y 12), .int .u8 (y 13), .int .u8 (y 14), .int .u8 (y 15)] n.toNat) 5 == x 5 && (byteAt (cutX [.int .u8 (y 0), .int .u8 (y 1), .int .u8 (y 2), .int .u8 (y 3), .int .u8 (y 4), .int .u8 (y 5), .int .u8 (y 6), .int .u8 (y 7), .int .u8 (y 8), .int .u8 (y 9), .int .u8 (y 10), .int .u8 (y 11), .int .u8 (y 12), .int .u8 (y 13), .int .u8 (y 14), .int .u8 (y 15)] n.toNat) 6 == x 6 && (byteAt (cutX [.int .u8 (y 0), .int .u8 (y 1), .int .u8 (y 2), .int .u8 (y 3), .int .u8 (y 4), .int .u8 (y 5), .int .u8 (y 6), .int .u8 (y 7), .int .u8 (y 8), .int .u8 (y 9), .int .u8 (y 10), .int .u8 (y 11), .int .u8 (y 12), .int .u8 (y 13), .int .u8 (y 14), .int .u8 (y 15)] n.toNat) 7 == x 7 && (byteAt (cutX [.int .u8 (y 0), .int .u8 (y 1), .int .u8 (y 2), .int .u8 (y 3), .int .u8 (y 4), .int .u8 (y 5), .int .u8 (y 6), .int .u8 (y 7), .int .u8 (y 8), .int .u8 (y 9), .int .u8 (y 10), .int .u8 (y 11), .int .u8 (y 12), .int .u8 (y 13), .int .u8 (y 14), .int .u8 (y 15)] n.toNat) 8 == x 8 && (byteAt (cutX [.int .u8 (y 0), .int .u8 (y 1), .int .u8 (y 2), .int .u8 (y 3), .int .u8 (y 4), .int .u8 (y 5), .int .u8 (y 6), .int .u8 (y 7), .int .u8 (y 8), .int .u8 (y 9), .int .u8 (y 10), .int .u8 (y 11), .int .u8 (y 12), .int .u8 (y 13), .int .u8 (y 14), .int .u8 (y 15)] n.toNat) 9 == x 9 && (byteAt (cutX [.int .u8 (y 0), .int .u8 (y 1), .int .u8 (y 2), .int .u8 (y 3), .int .u8 (y 4), .int .u8 (y 5), .int .u8 (y 6), .int .u8 (y 7), .int .u8 (y 8), .int .u8 (y 9), .int .u8 (y 10), .int .u8 (y 11), .int .u8 (y 12), .int .u8 (y 13), .int .u8 (y 14), .int .u8 (y 15)] n.toNat) 10 == x 10 && (byteAt (cutX [.int .u8 (y 0), .int .u8 (y 1), .int .u8 (y 2), .int .u8 (y 3), .int .u8 (y 4), .int .u8 (y 5), .int .u8 (y 6), .int .u8 (y 7), .int .u8 (y 8), .int .u8 (y 9), .int .u8 (y 10), .int .u8 (y 11), .int .u8 (y 12), .int .u8 (y 13), .int .u8 (y 14), .int .u8 (y 15)] n.toNat) 11 == x 11 && (byteAt (cutX [.int .u8 (y 0), .int .u8 (y 1), .int .u8 (y 2), .int .u8 (y 3), .int .u8 (y 4), .int .u8 (y 5), .int .u8 (y 6), .int .u8 (y 7), .int .u8 (y 8), .int .u8 (y 9), .int .u8 (y 10), .int .u8 (y 11), .int .u8 (y 12), .int .u8 (y 13), .int .u8 (y 14), .int .u8 (y 15)] n.toNat) 12 == x 12 && (byteAt (cutX [.int .u8 (y 0), .int .u8 (y 1), .int .u8 (y 2), .int .u8 (y 3), .int .u8 (y 4), .int .u8 (y 5), .int .u8 (y 6), .int .u8 (y 7), .int .u8 (y 8), .int .u8 (y 9), .int .u8 (y 10), .int .u8 (y 11), .int .u8 (y 12), .int .u8 (y 13), .int .u8 (y 14), .int .u8 (y 15)] n.toNat) 13 == x 13 && (byteAt (cutX [.int .u8 (y 0), .int .u8 (y 1), .int .u8 (y 2), .int .u8 (y 3), .int .u8 (y 4), .int .u8 (y 5), .int .u8 (y 6), .int .u8 (y 7), .int .u8 (y 8), .int .u8 (y 9), .int .u8 (y 10), .int .u8 (y 11), .int .u8 (y 12), .int .u8 (y 13), .int .u8 (y 14), .int .u8 (y 15)] n.toNat) 14 == x 14 && (byteAt (cutX [.int .u8 (y 0), .int .u8 (y 1), .int .u8 (y 2), .int .u8 (y 3), .int .u8 (y 4), .int .u8 (y 5), .int .u8 (y 6), .int .u8 (y 7), .int .u8 (y 8), .int .u8 (y 9), .int .u8 (y 10), .int .u8 (y 11), .int .u8 (y 12), .int .u8 (y 13), .int .u8 (y 14), .int .u8 (y 15)] n.toNat) 15 == x 15 && true)))))))))))))))) && (n == n && true)) = true
        rw [h]
        show ((x 0 == x 0 && (x 1 == x 1 && (x 2 == x 2 && (x 3 == x 3 && (x 4 == x 4 && (x 5 == x 5 && (x 6 == x 6 && (x 7 == x 7 && (x 8 == x 8 && (x 9 == x 9 && (x 10 == x 10 && (x 11 == x 11 && (x 12 == x 12 && (x 13 == x 13 && (x 14 == x 14 && (x 15 == x 15 && true)))))))))))))))) && (n == n && true)) = true
        simp only [beq_self_eq_true, Bool.and_self]
  · rw [h1]
    unfold inB
    rw [h1]
    rfl

/-- ferryman/ferrymanref10.Bits -/
noncomputable def T22 : List (FuncId × FSpec) := [(18, V18), (20, V20)]
theorem T22_ok : TabOK Tryd.prog T22 := TabOK.cons En18 V18_ok (TabOK.cons En20 V20_ok (TabOK.nil _))
noncomputable def L22_9 : ATs → AH → KC → Res := fun ts H k => match ts, H with
  | [(2, .ptr 0 0 0), (3, .ptr 1 0 0), (9, .int .u64 v), (10, .int .i64 i)], [.cells 0 rs, .cells 0 xs] => aIf (intsB .u8 xs && xs.length == 16 && (decide (23 ≤ rs.length) && (rs.getD 16 .junk).isInt .i64 && (rs.getD 22 .junk).isInt .i64) && v == 0 && i == (rs.getD 16 .junk).toInt && decide (0 ≤ (rs.getD 16 .junk).toInt) && decide (0 ≤ (rs.getD 22 .junk).toInt) && decide ((rs.getD 22 .junk).toInt ≤ 64) && decide ((rs.getD 16 .junk).toInt + (rs.getD 22 .junk).toInt ≤ 128)) (k (.exit 0) [(2, .ptr 0 0 0), (3, .ptr 1 0 0), (9, .int .u64 (getN xs ((rs.getD 16 .junk).toInt).toNat ((rs.getD 22 .junk).toInt).toNat)), (10, .int .i64 ((rs.getD 16 .junk).toInt + (rs.getD 22 .junk).toInt)), (35, .bool false)] [.cells 0 rs, .cells 0 xs]) none
  | _, _ => none
noncomputable def C22 : Ctx := (ctx E T22 [(9, L22_9)] [(0, [2, 3]), (1, [2, 3, 6]), (2, [2, 3, 6, 14]), (3, [4, 5]), (4, [2, 3, 7]), (5, [2, 3, 24]), (6, [4, 5]), (7, [2, 3, 9]), (8, [2, 3, 9, 10]), (9, [2, 3, 9, 10, 35]), (10, [2, 3, 9, 10]), (11, [2, 3, 9, 10]), (12, [4, 5]), (1000009, [2, 3, 9, 10])] [] 53 70)
theorem C22_ok : CtxOK Tryd.prog C22 := ctx_ok E_ok E_flds mixed T22_ok
theorem C22_l0 : C22.loop (loopId (loopB Tryd.f22 0)) = some L22_9 := by kernel_rfl
theorem L22_9_in : LoopsOK C22 (loopB Tryd.f22 0) := LoopsOK.within 0 (by kernel_rfl) (fun j hj S hS => by
  omega)
theorem M22_9a (v i : Int) (rs xs : List AV) (k : KC) : headedK C22 (loopB Tryd.f22 0) [(2, .ptr 0 0 0), (3, .ptr 1 0 0), (9, .int .u64 v), (10, .int .i64 i)] [.cells 0 rs, .cells 0 xs] k =
  aIf (decide (17 ≤ rs.length)) (aIf ((rs.getD 16 AV.junk).isInt IntKind.i64) (aIf (decide (23 ≤ rs.length)) (aIf ((rs.getD 22 AV.junk).isInt IntKind.i64) (aIf (decide (i < IntKind.i64.wrap ((rs.getD 16 AV.junk).toInt + (rs.getD 22 AV.junk).toInt))) (aIf (decide (0 ≤ IntKind.i64.wrap (i.tdiv 8))) (aIf (decide (IntKind.i64.wrap (i.tdiv 8) < 16)) (aIf (decide (0 + (IntKind.i64.wrap (i.tdiv 8)).toNat * 1 + 1 ≤ xs.length)) (aIf ((xs.getD (0 + (IntKind.i64.wrap (i.tdiv 8)).toNat * 1) AV.junk).isInt IntKind.u8) (aIf (decide (IntKind.u64.wrap (IntKind.i64.wrap (7 - i.tmod 8)) < 0)) none (k AExit.normal [(2, AV.ptr 0 0 0), (3, AV.ptr 1 0 0), (9, AV.int IntKind.u64 (IntKind.u64.wrap (↑(BitVec.ofInt 64 (IntKind.u64.wrap (v * 2)) ||| BitVec.ofInt 64 (IntKind.u64.wrap (IntKind.u8.wrap (↑(BitVec.ofInt 8 ((xs.getD (0 + (IntKind.i64.wrap (i.tdiv 8)).toNat * 1) AV.junk).toInt.fdiv (2 ^ min (IntKind.u64.wrap (IntKind.i64.wrap (7 - i.tmod 8))).toNat 8)) &&& BitVec.ofInt 8 1).toNat : Int)))).toNat : Int))), (10, AV.int IntKind.i64 (IntKind.i64.wrap (i + 1)))] [AO.cells 0 rs, AO.cells 0 xs])) none) none) none) none) (k (AExit.exit 0) [(2, AV.ptr 0 0 0), (3, AV.ptr 1 0 0), (9, AV.int IntKind.u64 v), (10, AV.int IntKind.i64 i), (35, AV.bool (decide (i < IntKind.i64.wrap ((rs.getD 16 AV.junk).toInt + (rs.getD 22 AV.junk).toInt))))] [AO.cells 0 rs, AO.cells 0 xs])) none) none) none) none := by kernel_rfl
theorem L22_9_ok : LoopSum C22 (loopB Tryd.f22 0) L22_9 := LoopSum.of C22_ok L22_9_in (fun ts H => by
  unfold L22_9
  split
  · rename_i v i rs xs
    rcases Bool.eq_false_or_eq_true (intsB .u8 xs && xs.length == 16 && (decide (23 ≤ rs.length) && (rs.getD 16 .junk).isInt .i64 && (rs.getD 22 .junk).isInt .i64) && v == 0 && i == (rs.getD 16 .junk).toInt && decide (0 ≤ (rs.getD 16 .junk).toInt) && decide (0 ≤ (rs.getD 22 .junk).toInt) && decide ((rs.getD 22 .junk).toInt ≤ 64) && decide ((rs.getD 16 .junk).toInt + (rs.getD 22 .junk).toInt ≤ 128)) with hp | hp
    · refine .inr ?_
      simp only [aIf_pos hp]
      simp only [Bool.and_eq_true, decide_eq_true_eq, beq_iff_eq] at hp
      obtain ⟨⟨⟨⟨⟨⟨⟨⟨hu, hL⟩, ⟨r1, r2⟩, r3⟩, rfl⟩, rfl⟩, n0⟩, e0⟩, e1⟩, ne⟩ := hp
      have ti : ∀ k n, (AV.int k n).toInt = n := fun _ _ => rfl
      generalize hN : (rs.getD 16 .junk).toInt = N at *
      generalize hE : (rs.getD 22 .junk).toInt = E at *
      obtain ⟨N, rfl⟩ := Int.eq_ofNat_of_zero_le n0
      obtain ⟨E, rfl⟩ := Int.eq_ofNat_of_zero_le e0
      have key : ∀ (j : Nat), j < E → ∀ k, headedK C22 (loopB Tryd.f22 0) [(2, .ptr 0 0 0), (3, .ptr 1 0 0), (9, .int .u64 (getN xs N j)), (10, .int .i64 ((N + j : Nat) : Int))] [.cells 0 rs, .cells 0 xs] k = k .normal [(2, .ptr 0 0 0), (3, .ptr 1 0 0), (9, .int .u64 (getN xs N (j + 1))), (10, .int .i64 ((N + (j + 1) : Nat) : Int))] [.cells 0 rs, .cells 0 xs] := by
        intro j hj k
        obtain ⟨x, hx, he⟩ := u8_get hu ((N + j) / 8) (by omega)
        have b1 := bitV_01 xs (N + j)
        have b2 := getN_range xs N j
        have b3 := pow2_le (show j ≤ 63 by omega)
        have b4 : (2 : Int) ^ 63 = 9223372036854775808 := rfl
        have hb : (x : Int) / 2 ^ (7 - (N + j) % 8) % 2 = bitV xs (N + j) := by unfold bitV; rw [he]; rfl
        have e3 : IntKind.u64.wrap (getN xs N j * 2) = 2 * getN xs N j := by rw [Int.mul_comm]; exact u64n (by omega) (by omega)
        have e5 := u64n (x := bitV xs (N + j)) (by omega) (by omega)
        have e6 : IntKind.u64.wrap (2 * getN xs N j + bitV xs (N + j)) = 2 * getN xs N j + bitV xs (N + j) := u64n (by omega) (by omega)
        have hor := or1 (v := getN xs N j) (b := bitV xs (N + j)) b2.1 (by omega) b1.1 b1.2
        rw [M22_9a]
        simp only [r2, r3, decide_eq_true (show 17 ≤ rs.length by omega), decide_eq_true r1, hN, hE, i64a (show N + E < 9223372036854775808 by omega), decide_eq_true (show ((N + j : Nat) : Int) < ((N + E : Nat) : Int) by omega), div8 (show N + j < 9223372036854775808 by omega), sh7 (N + j), u64nn (show 7 - (N + j) % 8 < 18446744073709551616 by omega),
          decide_eq_true (show (((N + j) / 8 : Nat) : Int) < 16 by omega), decide_eq_true (show (N + j) / 8 + 1 ≤ xs.length by omega), show min (7 - (N + j) % 8) 8 = 7 - (N + j) % 8 by omega, he, bit8 hx (show 7 - (N + j) % 8 < 8 by omega), hb, shr_eq, e3, e5, hor, e6, i64s (show N + j + 1 < 9223372036854775808 by omega), Int.toNat_natCast, Nat.zero_add, Nat.mul_one, isInt_self, ti, dnn, dnn', aIf_true, aIf_false]
        rfl
      exact (iter_fold (δ := Unit) (N := E) (ts := fun j _ => [(2, .ptr 0 0 0), (3, .ptr 1 0 0), (9, .int .u64 (getN xs N j)), (10, .int .i64 ((N + j : Nat) : Int))]) (H := fun _ _ => [.cells 0 rs, .cells 0 xs]) (f := fun _ u => u) (I := fun _ _ => True) (te := fun _ => [(2, .ptr 0 0 0), (3, .ptr 1 0 0), (9, .int .u64 (getN xs N E)), (10, .int .i64 ((N + E : Nat) : Int)), (35, .bool false)]) (He := fun _ => [.cells 0 rs, .cells 0 xs])
        (fun j d hj _ => ⟨trivial, key j hj⟩) (fun _ _ k => by rw [M22_9a]; simp only [r2, r3, decide_eq_true (show 17 ≤ rs.length by omega), decide_eq_true r1, hN, hE, i64a (show N + E < 9223372036854775808 by omega), dltf, aIf_true, aIf_false]) (by intro h; cases h) E 0 () (by omega) trivial).imp fun m hm k => (hm k).symm
    · exact .inl fun k => by rw [aIf_neg hp]
  · exact .inl fun k => rfl)
theorem C22_loops : ∀ c, Tryd.f22.body = some c → LoopsOK C22 c := LoopsOK.of 1 (by kernel_rfl) (fun j hj S hS => by
  match j, hj with
  | 0, _ => rw [C22_l0] at hS; cases hS; exact L22_9_ok
  | n + 1, hj => omega)
noncomputable def S22 : FSpec := inlineK C22 Tryd.f22
theorem S22_ok : SpecOK Tryd.prog 22 S22 := inlineK_ok C22_ok Tryd.func22 C22_loops
theorem En22 : Enters Tryd.prog 22 := ⟨_, Tryd.func22, by decide, rfl⟩
noncomputable def R22 (args : List AV) : Res := S22 args [] encK
noncomputable def V22 : FSpec := leafK (.tup [.int .u64, .int .i64]) R22
theorem V22_ok : SpecOK Tryd.prog 22 V22 := leafK_ok S22_ok (fun _ => rfl)
theorem N22 (x z : Nat → Int) (n m e o : Int) (f : Bool) (y : Nat → Int)
    {r0 : _} (h0 : r0 = R18 [AV.agg [AV.int IntKind.u8 (x 0), AV.int IntKind.u8 (x 1), AV.int IntKind.u8 (x 2), AV.int IntKind.u8 (x 3), AV.int IntKind.u8 (x 4), AV.int IntKind.u8 (x 5), AV.int IntKind.u8 (x 6), AV.int IntKind.u8 (x 7), AV.int IntKind.u8 (x 8), AV.int IntKind.u8 (x 9), AV.int IntKind.u8 (x 10), AV.int IntKind.u8 (x 11), AV.int IntKind.u8 (x 12), AV.int IntKind.u8 (x 13), AV.int IntKind.u8 (x 14), AV.int IntKind.u8 (x 15), AV.int IntKind.i64 n, AV.int IntKind.u8 (z 0), AV.int IntKind.u8 (z 1), AV.int IntKind.u8 (z 2), AV.int IntKind.u8 (z 3), AV.int IntKind.i64 m, AV.int IntKind.i64 e, AV.int IntKind.i64 o, AV.bool f]])
    {r1 : _} (h1 : r1 = R20 [AV.agg [AV.int IntKind.u8 (x 0), AV.int IntKind.u8 (x 1), AV.int IntKind.u8 (x 2), AV.int IntKind.u8 (x 3), AV.int IntKind.u8 (x 4), AV.int IntKind.u8 (x 5), AV.int IntKind.u8 (x 6), AV.int IntKind.u8 (x 7), AV.int IntKind.u8 (x 8), AV.int IntKind.u8 (x 9), AV.int IntKind.u8 (x 10), AV.int IntKind.u8 (x 11), AV.int IntKind.u8 (x 12), AV.int IntKind.u8 (x 13), AV.int IntKind.u8 (x 14), AV.int IntKind.u8 (x 15), AV.int IntKind.i64 n], AV.agg [AV.int IntKind.u8 (y 0), AV.int IntKind.u8 (y 1), AV.int IntKind.u8 (y 2), AV.int IntKind.u8 (y 3), AV.int IntKind.u8 (y 4), AV.int IntKind.u8 (y 5), AV.int IntKind.u8 (y 6), AV.int IntKind.u8 (y 7), AV.int IntKind.u8 (y 8), AV.int IntKind.u8 (y 9), AV.int IntKind.u8 (y 10), AV.int IntKind.u8 (y 11), AV.int IntKind.u8 (y 12), AV.int IntKind.u8 (y 13), AV.int IntKind.u8 (y 14), AV.int IntKind.u8 (y 15)]]) :
  S22 [.agg [.int .u8 (x 0), .int .u8 (x 1), .int .u8 (x 2), .int .u8 (x 3), .int .u8 (x 4), .int .u8 (x 5), .int .u8 (x 6), .int .u8 (x 7), .int .u8 (x 8), .int .u8 (x 9), .int .u8 (x 10), .int .u8 (x 11), .int .u8 (x 12), .int .u8 (x 13), .int .u8 (x 14), .int .u8 (x 15), .int .i64 n, .int .u8 (z 0), .int .u8 (z 1), .int .u8 (z 2), .int .u8 (z 3), .int .i64 m, .int .i64 e, .int .i64 o, .bool f], .agg [.int .u8 (y 0), .int .u8 (y 1), .int .u8 (y 2), .int .u8 (y 3), .int .u8 (y 4), .int .u8 (y 5), .int .u8 (y 6), .int .u8 (y 7), .int .u8 (y 8), .int .u8 (y 9), .int .u8 (y 10), .int .u8 (y 11), .int .u8 (y 12), .int .u8 (y 13), .int .u8 (y 14), .int .u8 (y 15)]] [] encK =
  aIf (shOK (Sh.int IntKind.i64) r0) (aIf ((sel r0 []).toInt != 0) (some (AEnd.ret (AV.tup [AV.int IntKind.u64 0, AV.int IntKind.i64 (sel r0 []).toInt]), [])) (aIf (shOK (Sh.tup [Sh.bool, Sh.int IntKind.i64]) r1) (aIf (!(sel r1 [0]).toBool) (some (AEnd.ret (AV.tup [AV.int IntKind.u64 0, AV.int IntKind.i64 82]), [])) (aIf (true && (decide (0 ≤ y 0) && decide (y 0 ≤ 255)) && (true && (decide (0 ≤ y 1) && decide (y 1 ≤ 255)) && (true && (decide (0 ≤ y 2) && decide (y 2 ≤ 255)) && (true && (decide (0 ≤ y 3) && decide (y 3 ≤ 255)) && (true && (decide (0 ≤ y 4) && decide (y 4 ≤ 255)) && (true && (decide (0 ≤ y 5) && decide (y 5 ≤ 255)) && (true && (decide (0 ≤ y 6) && decide (y 6 ≤ 255)) && (true && (decide (0 ≤ y 7) && decide (y 7 ≤ 255)) && (true && (decide (0 ≤ y 8) && decide (y 8 ≤ 255)) && (true && (decide (0 ≤ y 9) && decide (y 9 ≤ 255)) && (true && (decide (0 ≤ y 10) && decide (y 10 ≤ 255)) && (true && (decide (0 ≤ y 11) && decide (y 11 ≤ 255)) && (true && (decide (0 ≤ y 12) && decide (y 12 ≤ 255)) && (true && (decide (0 ≤ y 13) && decide (y 13 ≤ 255)) && (true && (decide (0 ≤ y 14) && decide (y 14 ≤ 255)) && (true && (decide (0 ≤ y 15) && decide (y 15 ≤ 255)) && true))))))))))))))) && true && true && true && n == n && decide (0 ≤ n) && decide (0 ≤ e) && decide (e ≤ 64) && decide (n + e ≤ 128)) (some (AEnd.ret (AV.tup [AV.int IntKind.u64 (Pl.getN [AV.int IntKind.u8 (y 0), AV.int IntKind.u8 (y 1), AV.int IntKind.u8 (y 2), AV.int IntKind.u8 (y 3), AV.int IntKind.u8 (y 4), AV.int IntKind.u8 (y 5), AV.int IntKind.u8 (y 6), AV.int IntKind.u8 (y 7), AV.int IntKind.u8 (y 8), AV.int IntKind.u8 (y 9), AV.int IntKind.u8 (y 10), AV.int IntKind.u8 (y 11), AV.int IntKind.u8 (y 12), AV.int IntKind.u8 (y 13), AV.int IntKind.u8 (y 14), AV.int IntKind.u8 (y 15)] n.toNat e.toNat), AV.int IntKind.i64 0]), [])) none)) none)) none := by subst h0 h1; kernel_rfl
set_option maxRecDepth 20000 in
theorem R22_is {x z : Nat → Int} {n m e o : Int} {f : Bool} {y : Nat → Int} (hx : b8 x) (hz : b8 z) (hy : b8 y) : R22 [.agg [.int .u8 (x 0), .int .u8 (x 1), .int .u8 (x 2), .int .u8 (x 3), .int .u8 (x 4), .int .u8 (x 5), .int .u8 (x 6), .int .u8 (x 7), .int .u8 (x 8), .int .u8 (x 9), .int .u8 (x 10), .int .u8 (x 11), .int .u8 (x 12), .int .u8 (x 13), .int .u8 (x 14), .int .u8 (x 15), .int .i64 n, .int .u8 (z 0), .int .u8 (z 1), .int .u8 (z 2), .int .u8 (z 3), .int .i64 m, .int .i64 e, .int .i64 o, .bool f], .agg [.int .u8 (y 0), .int .u8 (y 1), .int .u8 (y 2), .int .u8 (y 3), .int .u8 (y 4), .int .u8 (y 5), .int .u8 (y 6), .int .u8 (y 7), .int .u8 (y 8), .int .u8 (y 9), .int .u8 (y 10), .int .u8 (y 11), .int .u8 (y 12), .int .u8 (y 13), .int .u8 (y 14), .int .u8 (y 15)]] = some (.ret (.tup [.int .u64 (bitN [.int .u8 (x 0), .int .u8 (x 1), .int .u8 (x 2), .int .u8 (x 3), .int .u8 (x 4), .int .u8 (x 5), .int .u8 (x 6), .int .u8 (x 7), .int .u8 (x 8), .int .u8 (x 9), .int .u8 (x 10), .int .u8 (x 11), .int .u8 (x 12), .int .u8 (x 13), .int .u8 (x 14), .int .u8 (x 15)] [.int .u8 (z 0), .int .u8 (z 1), .int .u8 (z 2), .int .u8 (z 3)] [.int .u8 (y 0), .int .u8 (y 1), .int .u8 (y 2), .int .u8 (y 3), .int .u8 (y 4), .int .u8 (y 5), .int .u8 (y 6), .int .u8 (y 7), .int .u8 (y 8), .int .u8 (y 9), .int .u8 (y 10), .int .u8 (y 11), .int .u8 (y 12), .int .u8 (y 13), .int .u8 (y 14), .int .u8 (y 15)] n m e o), .int .i64 (bitE [.int .u8 (x 0), .int .u8 (x 1), .int .u8 (x 2), .int .u8 (x 3), .int .u8 (x 4), .int .u8 (x 5), .int .u8 (x 6), .int .u8 (x 7), .int .u8 (x 8), .int .u8 (x 9), .int .u8 (x 10), .int .u8 (x 11), .int .u8 (x 12), .int .u8 (x 13), .int .u8 (x 14), .int .u8 (x 15)] [.int .u8 (z 0), .int .u8 (z 1), .int .u8 (z 2), .int .u8 (z 3)] [.int .u8 (y 0), .int .u8 (y 1), .int .u8 (y 2), .int .u8 (y 3), .int .u8 (y 4), .int .u8 (y 5), .int .u8 (y 6), .int .u8 (y 7), .int .u8 (y 8), .int .u8 (y 9), .int .u8 (y 10), .int .u8 (y 11), .int .u8 (y 12), .int .u8 (y 13), .int .u8 (y 14), .int .u8 (y 15)] n m e o)]), []) := by
  show S22 _ [] encK = _
  have e0 := R18_is (n := n) (m := m) (e := e) (o := o) (f := f) hx hz
  rcases chkR_or [.int .u8 (x 0), .int .u8 (x 1), .int .u8 (x 2), .int .u8 (x 3), .int .u8 (x 4), .int .u8 (x 5), .int .u8 (x 6), .int .u8 (x 7), .int .u8 (x 8), .int .u8 (x 9), .int .u8 (x 10), .int .u8 (x 11), .int .u8 (x 12), .int .u8 (x 13), .int .u8 (x 14), .int .u8 (x 15)] [.int .u8 (z 0), .int .u8 (z 1), .int .u8 (z 2), .int .u8 (z 3)] n m e o with ⟨hc, ⟨a1, a2, a3⟩, ⟨b1, b2, b3⟩, c1, c2, c3, c4, c5⟩ | hc
  rotate_left
  · rw [N22 x z n m e o f y e0.symm rfl]
    rcases hc with hc | hc <;> (unfold bitN bitE; rw [hc]; rfl)
  have hI := R20_is (n := n) hx hy
  rw [N22 x z n m e o f y e0.symm hI.symm]
  have s1 : shOK (.tup [.bool, .int .i64]) (some (.ret (.tup [.bool (inB 128 [.int .u8 (x 0), .int .u8 (x 1), .int .u8 (x 2), .int .u8 (x 3), .int .u8 (x 4), .int .u8 (x 5), .int .u8 (x 6), .int .u8 (x 7), .int .u8 (x 8), .int .u8 (x 9), .int .u8 (x 10), .int .u8 (x 11), .int .u8 (x 12), .int .u8 (x 13), .int .u8 (x 14), .int .u8 (x 15)] [.int .u8 (y 0), .int .u8 (y 1), .int .u8 (y 2), .int .u8 (y 3), .int .u8 (y 4), .int .u8 (y 5), .int .u8 (y 6), .int .u8 (y 7), .int .u8 (y 8), .int .u8 (y 9), .int .u8 (y 10), .int .u8 (y 11), .int .u8 (y 12), .int .u8 (y 13), .int .u8 (y 14), .int .u8 (y 15)] n), .int .i64 (chkE 128 [.int .u8 (x 0), .int .u8 (x 1), .int .u8 (x 2), .int .u8 (x 3), .int .u8 (x 4), .int .u8 (x 5), .int .u8 (x 6), .int .u8 (x 7), .int .u8 (x 8), .int .u8 (x 9), .int .u8 (x 10), .int .u8 (x 11), .int .u8 (x 12), .int .u8 (x 13), .int .u8 (x 14), .int .u8 (x 15)] n)]), [])) = true := by
    simp only [shOK_ret, has_tup, hasL_cons, hasL_nil, has_bool, has_int, chkE_in, List.getD_cons_zero, List.getD_cons_succ, List.length_cons, List.length_nil, beq_self_eq_true, Bool.and_self]
  refine (aIf_pos (by rw [hc]; rfl)).trans ((aIf_neg (by rw [hc]; rfl)).trans ((aIf_pos s1).trans ?_))
  unfold bitN bitE
  rw [hc]
  cases hi : inB 128 [.int .u8 (x 0), .int .u8 (x 1), .int .u8 (x 2), .int .u8 (x 3), .int .u8 (x 4), .int .u8 (x 5), .int .u8 (x 6), .int .u8 (x 7), .int .u8 (x 8), .int .u8 (x 9), .int .u8 (x 10), .int .u8 (x 11), .int .u8 (x 12), .int .u8 (x 13), .int .u8 (x 14), .int .u8 (x 15)] [.int .u8 (y 0), .int .u8 (y 1), .int .u8 (y 2), .int .u8 (y 3), .int .u8 (y 4), .int .u8 (y 5), .int .u8 (y 6), .int .u8 (y 7), .int .u8 (y 8), .int .u8 (y 9), .int .u8 (y 10), .int .u8 (y 11), .int .u8 (y 12), .int .u8 (y 13), .int .u8 (y 14), .int .u8 (y 15)] n
  · rfl
  refine (aIf_neg rfl).trans ((aIf_pos ?_).trans ?_)
  · have : (intsB .u8 [.int .u8 (y 0), .int .u8 (y 1), .int .u8 (y 2), .int .u8 (y 3), .int .u8 (y 4), .int .u8 (y 5), .int .u8 (y 6), .int .u8 (y 7), .int .u8 (y 8), .int .u8 (y 9), .int .u8 (y 10), .int .u8 (y 11), .int .u8 (y 12), .int .u8 (y 13), .int .u8 (y 14), .int .u8 (y 15)] && true && true && true && n == n && decide (0 ≤ n) && decide (0 ≤ e) && decide (e ≤ 64) && decide (n + e ≤ 128)) = true := by
      rw [b8_16 hy, beq_self_eq_true, decide_eq_true (show 0 ≤ n by omega), decide_eq_true (show 0 ≤ e by omega), decide_eq_true (show e ≤ 64 by omega), decide_eq_true (show n + e ≤ 128 by omega)]; rfl
    exact this
  · have hg : getX [.int .u8 (y 0), .int .u8 (y 1), .int .u8 (y 2), .int .u8 (y 3), .int .u8 (y 4), .int .u8 (y 5), .int .u8 (y 6), .int .u8 (y 7), .int .u8 (y 8), .int .u8 (y 9), .int .u8 (y 10), .int .u8 (y 11), .int .u8 (y 12), .int .u8 (y 13), .int .u8 (y 14), .int .u8 (y 15)] n e = getN [.int .u8 (y 0), .int .u8 (y 1), .int .u8 (y 2), .int .u8 (y 3), .int .u8 (y 4), .int .u8 (y 5), .int .u8 (y 6), .int .u8 (y 7), .int .u8 (y 8), .int .u8 (y 9), .int .u8 (y 10), .int .u8 (y 11), .int .u8 (y 12), .int .u8 (y 13), .int .u8 (y 14), .int .u8 (y 15)] n.toNat e.toNat := by
      unfold getX
      rw [decide_eq_false (show ¬ e > 64 by omega), show thereB ([.int .u8 (y 0), .int .u8 (y 1), .int .u8 (y 2), .int .u8 (y 3), .int .u8 (y 4), .int .u8 (y 5), .int .u8 (y 6), .int .u8 (y 7), .int .u8 (y 8), .int .u8 (y 9), .int .u8 (y 10), .int .u8 (y 11), .int .u8 (y 12), .int .u8 (y 13), .int .u8 (y 14), .int .u8 (y 15)] : List AV).length n e = true from by simp only [thereB, Bool.and_eq_true, decide_eq_true_eq, List.length_cons, List.length_nil]; omega]
      rfl
    show _ = some (AEnd.ret (AV.tup [AV.int .u64 (getX [.int .u8 (y 0), .int .u8 (y 1), .int .u8 (y 2), .int .u8 (y 3), .int .u8 (y 4), .int .u8 (y 5), .int .u8 (y 6), .int .u8 (y 7), .int .u8 (y 8), .int .u8 (y 9), .int .u8 (y 10), .int .u8 (y 11), .int .u8 (y 12), .int .u8 (y 13), .int .u8 (y 14), .int .u8 (y 15)] n e), AV.int .i64 0]), [])
    rw [hg]

/-- ferryman/addr.Has4 -/
noncomputable def T45 : List (FuncId × FSpec) := [(43, V43), (66, V66)]
theorem T45_ok : TabOK Tryd.prog T45 := TabOK.cons En43 V43_ok (TabOK.cons En66 V66_ok (TabOK.nil _))
noncomputable def C45 : Ctx := (ctx E T45 [] [(0, [2, 3]), (1, [2, 3, 6]), (2, [2, 3, 6, 10]), (3, [4, 5]), (4, [4, 5])] [1000066] 18 70)
theorem C45_ok : CtxOK Tryd.prog C45 := ctx_ok E_ok E_flds mixed T45_ok
noncomputable def S45 : FSpec := inlineK C45 Tryd.f45
theorem S45_ok : SpecOK Tryd.prog 45 S45 := inlineK_ok C45_ok Tryd.func45 (fun _ _ => LoopsOK.none _)
theorem En45 : Enters Tryd.prog 45 := ⟨_, Tryd.func45, by decide, rfl⟩
noncomputable def R45 (args : List AV) : Res := S45 args [] encK
noncomputable def V45 : FSpec := leafK (.tup [.bool, .int .i64]) R45
theorem V45_ok : SpecOK Tryd.prog 45 V45 := leafK_ok S45_ok (fun _ => rfl)
theorem N45 (x y : Nat → Int) (n : Int) : S45 [.agg [.int .u8 (x 0), .int .u8 (x 1), .int .u8 (x 2), .int .u8 (x 3), .int .i64 n], .agg [.int .u8 (y 0), .int .u8 (y 1), .int .u8 (y 2), .int .u8 (y 3)]] [] encK =
  aIf (shOK (Sh.int IntKind.i64) (R43 [AV.agg [AV.int IntKind.u8 (x 0), AV.int IntKind.u8 (x 1), AV.int IntKind.u8 (x 2), AV.int IntKind.u8 (x 3), AV.int IntKind.i64 n]])) (aIf ((sel (R43 [AV.agg [AV.int IntKind.u8 (x 0), AV.int IntKind.u8 (x 1), AV.int IntKind.u8 (x 2), AV.int IntKind.u8 (x 3), AV.int IntKind.i64 n]]) []).toInt != 0) (some (AEnd.ret (AV.tup [AV.bool false, AV.int IntKind.i64 (sel (R43 [AV.agg [AV.int IntKind.u8 (x 0), AV.int IntKind.u8 (x 1), AV.int IntKind.u8 (x 2), AV.int IntKind.u8 (x 3), AV.int IntKind.i64 n]]) []).toInt]), [])) (aIf (shOK Sh.bool (R66 [AV.fs 1 [AV.int IntKind.u8 (x 0), AV.int IntKind.u8 (x 1), AV.int IntKind.u8 (x 2), AV.int IntKind.u8 (x 3)] SF.any, AV.fs 1 [AV.int IntKind.u8 (y 0), AV.int IntKind.u8 (y 1), AV.int IntKind.u8 (y 2), AV.int IntKind.u8 (y 3)] SF.any, AV.int IntKind.i64 n])) (some (AEnd.ret (AV.tup [AV.bool (sel (R66 [AV.fs 1 [AV.int IntKind.u8 (x 0), AV.int IntKind.u8 (x 1), AV.int IntKind.u8 (x 2), AV.int IntKind.u8 (x 3)] SF.any, AV.fs 1 [AV.int IntKind.u8 (y 0), AV.int IntKind.u8 (y 1), AV.int IntKind.u8 (y 2), AV.int IntKind.u8 (y 3)] SF.any, AV.int IntKind.i64 n]) []).toBool, AV.int IntKind.i64 0]), [])) none)) none := by kernel_rfl
theorem R45_is {x y : Nat → Int} {n : Int} (hx : b8 x) (hy : b8 y) : R45 [.agg [.int .u8 (x 0), .int .u8 (x 1), .int .u8 (x 2), .int .u8 (x 3), .int .i64 n], .agg [.int .u8 (y 0), .int .u8 (y 1), .int .u8 (y 2), .int .u8 (y 3)]] = some (.ret (.tup [.bool (inB 32 [.int .u8 (x 0), .int .u8 (x 1), .int .u8 (x 2), .int .u8 (x 3)] [.int .u8 (y 0), .int .u8 (y 1), .int .u8 (y 2), .int .u8 (y 3)] n), .int .i64 (chkE 32 [.int .u8 (x 0), .int .u8 (x 1), .int .u8 (x 2), .int .u8 (x 3)] n)]), []) := by
  show S45 _ [] encK = _
  have ti : ∀ k n, (AV.int k n).toInt = n := fun _ _ => rfl
  have tb : ∀ b, (AV.bool b).toBool = b := fun _ => rfl
  have si : ∀ k n, sel (some (AEnd.ret (AV.int k n), [])) [] = .int k n := fun _ _ => rfl
  have sb : ∀ b, sel (some (AEnd.ret (AV.bool b), [])) [] = .bool b := fun _ => rfl
  rw [N45]
  simp only [R43_is hx, shOK_ret, has_int, chkE_in, si, ti, aIf_true]
  unfold inB
  rcases chkE_or 32 [.int .u8 (x 0), .int .u8 (x 1), .int .u8 (x 2), .int .u8 (x 3)] n with ⟨h1, h2, h3, h4⟩ | h1
  · have e := R66_is (fl := .any) (gl := .any) (n := n) (b8_4 hx) (b8_4 hy) rfl (show 4 ≤ 1000000 by decide) h2 (show n ≤ 8 * ((4 : Nat) : Int) by omega)
    rw [h1, e, shOK_ret, has_bool, sb, tb]
    rfl
  · rw [h1]
    rfl

/-- ferryman/portset.Check -/
noncomputable def T67 : List (FuncId × FSpec) := []
theorem T67_ok : TabOK Tryd.prog T67 := TabOK.nil _
noncomputable def C67 : Ctx := (ctx E T67 [] [(0, [1]), (1, [33]), (2, [2]), (3, [2])] [] 34 70)
theorem C67_ok : CtxOK Tryd.prog C67 := ctx_ok E_ok E_flds mixed T67_ok
noncomputable def B67 : FSpec := inlineK C67 Tryd.f67
noncomputable def S67 : FSpec := fun args H k => match args, H with
  | [.agg [.int .i64 a, .int .i64 b, .int .u16 x]], [] => aIf (psetB a b x) (aIf (right a b x) (k (.ret (.int .i64 0)) []) (k (.ret (.int .i64 90)) [])) none
  | _, _ => none
theorem B67_ok : SpecOK Tryd.prog 67 B67 := inlineK_ok C67_ok Tryd.func67 (fun _ _ => LoopsOK.none _)
theorem N67 (a b x : Int) (k : KE) : B67 [.agg [.int .i64 a, .int .i64 b, .int .u16 x]] [] k =
    aIf (decide (a < 0)) (k (AEnd.ret (AV.int IntKind.i64 90)) [])
    (aIf (decide (a > 15)) (k (AEnd.ret (AV.int IntKind.i64 90)) [])
      (aIf (decide (b < 0)) (k (AEnd.ret (AV.int IntKind.i64 90)) [])
        (aIf (decide (b > IntKind.i64.wrap (16 - a))) (k (AEnd.ret (AV.int IntKind.i64 90)) [])
          (aIf (decide (IntKind.u64.wrap b < 0)) none
            (aIf ((IntKind.u32.wrap x).fdiv (2 ^ min (IntKind.u64.wrap b).toNat 32) != 0)
              (k (AEnd.ret (AV.int IntKind.i64 90)) []) (k (AEnd.ret (AV.int IntKind.i64 0)) [])))))) := by kernel_rfl
theorem S67_ok : SpecOK Tryd.prog 67 S67 := by
  refine B67_ok.turn fun args H => ?_
  unfold S67
  split
  · rename_i a b x
    rcases Bool.eq_false_or_eq_true (psetB a b x) with hp | hp
    · refine .inr fun k => ?_
      rw [aIf_pos hp, N67]
      exact check_law hp _ _
    · exact .inl fun k => by rw [aIf_neg hp]
  · exact .inl fun k => rfl
theorem En67 : Enters Tryd.prog 67 := ⟨_, Tryd.func67, by decide, rfl⟩

/-- ferryman/portset.low -/
noncomputable def T68 : List (FuncId × FSpec) := []
theorem T68_ok : TabOK Tryd.prog T68 := TabOK.nil _
noncomputable def C68 : Ctx := (ctx E T68 [] [(0, [1]), (1, [2])] [] 9 70)
theorem C68_ok : CtxOK Tryd.prog C68 := ctx_ok E_ok E_flds mixed T68_ok
noncomputable def S68 : FSpec := inlineK C68 Tryd.f68
theorem S68_ok : SpecOK Tryd.prog 68 S68 := inlineK_ok C68_ok Tryd.func68 (fun _ _ => LoopsOK.none _)
theorem En68 : Enters Tryd.prog 68 := ⟨_, Tryd.func68, by decide, rfl⟩

/-- ferryman/portset.Of -/
noncomputable def T49 : List (FuncId × FSpec) := [(67, S67), (68, S68)]
theorem T49_ok : TabOK Tryd.prog T49 := TabOK.cons En67 S67_ok (TabOK.cons En68 S68_ok (TabOK.nil _))
noncomputable def C49 : Ctx := (ctx E T49 [] [(0, [0, 1, 2]), (1, [0, 1, 2, 9]), (2, [0, 1, 2, 9, 10]), (3, [0, 1, 2, 9, 10, 18]), (4, [6, 7, 8]), (5, [0, 1, 9, 11]), (6, [1, 9, 11, 31]), (7, [6, 7, 8]), (8, [6, 7, 8])] [] 43 70)
theorem C49_ok : CtxOK Tryd.prog C49 := ctx_ok E_ok E_flds mixed T49_ok
noncomputable def B49 : FSpec := inlineK C49 Tryd.f49
noncomputable def S49 : FSpec := fun args H k => match args, H with
  | [.int .i64 a, .int .i64 b, .int .u16 x], [] => aIf (psetB a b x) (aIf (right a b 0) (aIf (mine a x) (k (.ret (.tup [.int .u16 (psid a b x), .bool true, .int .i64 0])) []) (k (.ret (.tup [.int .u16 0, .bool false, .int .i64 0])) [])) (k (.ret (.tup [.int .u16 0, .bool false, .int .i64 90])) [])) none
  | _, _ => none
theorem B49_ok : SpecOK Tryd.prog 49 B49 := inlineK_ok C49_ok Tryd.func49 (fun _ _ => LoopsOK.none _)
theorem N49 (a b x : Int) (k : KE) : B49 [.int .i64 a, .int .i64 b, .int .u16 x] [] k =
    aIf (Pl.psetB a b 0)
  (aIf (Pl.right a b 0)
    (aIf (decide (a > 0))
      (aIf (decide (IntKind.u64.wrap (IntKind.i64.wrap (16 - a)) < 0)) none
        (aIf ((IntKind.u32.wrap x).fdiv (2 ^ min (IntKind.u64.wrap (IntKind.i64.wrap (16 - a))).toNat 32) == 0)
          (k (AEnd.ret (AV.tup [AV.int IntKind.u16 0, AV.bool false, AV.int IntKind.i64 0])) [])
          (aIf (decide (IntKind.u64.wrap (IntKind.i64.wrap (IntKind.i64.wrap (16 - a) - b)) < 0)) none
            (aIf (decide (IntKind.u64.wrap b < 0)) none
              (k
                (AEnd.ret
                  (AV.tup
                    [AV.int IntKind.u16
                        (IntKind.u16.wrap
                          (IntKind.u32.wrap
                            ↑(BitVec.ofInt 32
                                    ((IntKind.u32.wrap x).fdiv
                                      (2 ^
                                        min (IntKind.u64.wrap (IntKind.i64.wrap (IntKind.i64.wrap (16 - a) - b))).toNat
                                          32)) &&&
                                  BitVec.ofInt 32
                                    (IntKind.u32.wrap
                                      (IntKind.u32.wrap (1 * 2 ^ min (IntKind.u64.wrap b).toNat 32) - 1))).toNat)),
                      AV.bool true, AV.int IntKind.i64 0]))
                [])))))
      (aIf (decide (IntKind.u64.wrap (IntKind.i64.wrap (IntKind.i64.wrap (16 - a) - b)) < 0)) none
        (aIf (decide (IntKind.u64.wrap b < 0)) none
          (k
            (AEnd.ret
              (AV.tup
                [AV.int IntKind.u16
                    (IntKind.u16.wrap
                      (IntKind.u32.wrap
                        ↑(BitVec.ofInt 32
                                ((IntKind.u32.wrap x).fdiv
                                  (2 ^
                                    min (IntKind.u64.wrap (IntKind.i64.wrap (IntKind.i64.wrap (16 - a) - b))).toNat
                                      32)) &&&
                              BitVec.ofInt 32
                                (IntKind.u32.wrap
                                  (IntKind.u32.wrap (1 * 2 ^ min (IntKind.u64.wrap b).toNat 32) - 1))).toNat)),
                  AV.bool true, AV.int IntKind.i64 0]))
            []))))
    (k (AEnd.ret (AV.tup [AV.int IntKind.u16 0, AV.bool false, AV.int IntKind.i64 90])) []))
  none := by kernel_rfl
theorem S49_ok : SpecOK Tryd.prog 49 S49 := by
  refine B49_ok.turn fun args H => ?_
  unfold S49
  split
  · rename_i a b x
    rcases Bool.eq_false_or_eq_true (psetB a b x) with hp | hp
    · refine .inr fun k => ?_
      rw [aIf_pos hp, N49]
      exact of_law hp k
    · exact .inl fun k => by rw [aIf_neg hp]
  · exact .inl fun k => rfl
theorem En49 : Enters Tryd.prog 49 := ⟨_, Tryd.func49, by decide, rfl⟩
noncomputable def R49 (args : List AV) : Res := S49 args [] encK
noncomputable def V49 : FSpec := leafK (.tup [.int .u16, .bool, .int .i64]) R49
theorem V49_ok : SpecOK Tryd.prog 49 V49 := leafK_ok S49_ok (fun _ => rfl)
theorem R49_is {a b x : Int} (hp : psetB a b x = true) : R49 [.int .i64 a, .int .i64 b, .int .u16 x] = some (.ret (.tup [.int .u16 (ofN a b x), .bool (ofB a b x), .int .i64 (ofE a b 0)]), []) := by
  refine (aIf_pos hp).trans ?_
  unfold ofN ofB ofE
  cases right a b 0
  · rfl
  · cases mine a x <;> rfl

/-- ferryman/mapping.Of -/
noncomputable def T23 : List (FuncId × FSpec) := [(17, V17), (33, S33), (37, V37), (45, V45), (49, V49)]
theorem T23_ok : TabOK Tryd.prog T23 := TabOK.cons En17 V17_ok (TabOK.cons En33 S33_ok (TabOK.cons En37 V37_ok (TabOK.cons En45 V45_ok (TabOK.cons En49 V49_ok (TabOK.nil _)))))
noncomputable def C23 : Ctx := (ctx E T23 [] [(0, [2, 3, 4]), (1, [2, 3, 4, 8]), (2, [2, 3, 4, 8, 21]), (3, [6, 7]), (4, [2, 3, 4, 9]), (5, [2, 3, 4, 31]), (6, [6, 7]), (7, [2, 3, 4, 12]), (8, [2, 3, 12, 13]), (9, [2, 3, 12, 13, 50]), (10, [6, 7]), (11, [12, 13, 15, 16]), (12, [12, 13, 15, 62]), (13, [6, 7]), (14, [6, 7])] [1000037] 69 70)
theorem C23_ok : CtxOK Tryd.prog C23 := ctx_ok E_ok E_flds mixed T23_ok
noncomputable def S23 : FSpec := inlineK C23 Tryd.f23
theorem S23_ok : SpecOK Tryd.prog 23 S23 := inlineK_ok C23_ok Tryd.func23 (fun _ _ => LoopsOK.none _)
theorem En23 : Enters Tryd.prog 23 := ⟨_, Tryd.func23, by decide, rfl⟩
noncomputable def R23 (args : List AV) : Res := S23 args [] encK
noncomputable def V23 : FSpec := leafK (.tup [.int .u64, .int .i64]) R23
theorem V23_ok : SpecOK Tryd.prog 23 V23 := leafK_ok S23_ok (fun _ => rfl)
theorem N23 (x z : Nat → Int) (n m e o : Int) (f : Bool) (w : Nat → Int) (p : Int)
    {r0 : _} (h0 : r0 = R17 [AV.agg [AV.int IntKind.u8 (x 0), AV.int IntKind.u8 (x 1), AV.int IntKind.u8 (x 2), AV.int IntKind.u8 (x 3), AV.int IntKind.u8 (x 4), AV.int IntKind.u8 (x 5), AV.int IntKind.u8 (x 6), AV.int IntKind.u8 (x 7), AV.int IntKind.u8 (x 8), AV.int IntKind.u8 (x 9), AV.int IntKind.u8 (x 10), AV.int IntKind.u8 (x 11), AV.int IntKind.u8 (x 12), AV.int IntKind.u8 (x 13), AV.int IntKind.u8 (x 14), AV.int IntKind.u8 (x 15), AV.int IntKind.i64 n, AV.int IntKind.u8 (z 0), AV.int IntKind.u8 (z 1), AV.int IntKind.u8 (z 2), AV.int IntKind.u8 (z 3), AV.int IntKind.i64 m, AV.int IntKind.i64 e, AV.int IntKind.i64 o, AV.bool f]])
    {r1 : _} (h1 : r1 = R45 [AV.agg [AV.int IntKind.u8 (z 0), AV.int IntKind.u8 (z 1), AV.int IntKind.u8 (z 2), AV.int IntKind.u8 (z 3), AV.int IntKind.i64 m], AV.agg [AV.int IntKind.u8 (w 0), AV.int IntKind.u8 (w 1), AV.int IntKind.u8 (w 2), AV.int IntKind.u8 (w 3)]])
    {r4 : _} (h4 : r4 = R37 [AV.fs 1 [AV.int IntKind.u8 (w 0), AV.int IntKind.u8 (w 1), AV.int IntKind.u8 (w 2), AV.int IntKind.u8 (w 3)] SF.any, AV.int IntKind.i64 m, AV.int IntKind.i64 (IntKind.i64.wrap (e - if IntKind.i64.wrap (e - IntKind.i64.wrap (32 - m)) > 0 then IntKind.i64.wrap (e - IntKind.i64.wrap (32 - m)) else 0))])
    {r5 : _} (h5 : r5 = R49 [AV.int IntKind.i64 o, AV.int IntKind.i64 (if IntKind.i64.wrap (e - IntKind.i64.wrap (32 - m)) > 0 then IntKind.i64.wrap (e - IntKind.i64.wrap (32 - m)) else 0), AV.int IntKind.u16 p]) :
  S23 [.agg [.int .u8 (x 0), .int .u8 (x 1), .int .u8 (x 2), .int .u8 (x 3), .int .u8 (x 4), .int .u8 (x 5), .int .u8 (x 6), .int .u8 (x 7), .int .u8 (x 8), .int .u8 (x 9), .int .u8 (x 10), .int .u8 (x 11), .int .u8 (x 12), .int .u8 (x 13), .int .u8 (x 14), .int .u8 (x 15), .int .i64 n, .int .u8 (z 0), .int .u8 (z 1), .int .u8 (z 2), .int .u8 (z 3), .int .i64 m, .int .i64 e, .int .i64 o, .bool f], .agg [.int .u8 (w 0), .int .u8 (w 1), .int .u8 (w 2), .int .u8 (w 3)], .int .u16 p] [] encK =
  aIf (shOK (Sh.int IntKind.i64) r0) (aIf ((sel r0 []).toInt != 0) (some (AEnd.ret (AV.tup [AV.int IntKind.u64 0, AV.int IntKind.i64 (sel r0 []).toInt]), [])) (aIf (shOK (Sh.tup [Sh.bool, Sh.int IntKind.i64]) r1) (aIf (!(sel r1 [0]).toBool) (some (AEnd.ret (AV.tup [AV.int IntKind.u64 0, AV.int IntKind.i64 82]), [])) (aIf (shOK (Sh.tup [Sh.int IntKind.u64, Sh.int IntKind.i64]) r4) (aIf ((if IntKind.i64.wrap (e - IntKind.i64.wrap (32 - m)) > 0 then IntKind.i64.wrap (e - IntKind.i64.wrap (32 - m)) else 0) == 0) (some (AEnd.ret (AV.tup [AV.int IntKind.u64 (sel r4 [0]).toInt, AV.int IntKind.i64 0]), [])) (aIf (shOK (Sh.tup [Sh.int IntKind.u16, Sh.bool, Sh.int IntKind.i64]) r5) (aIf (!(sel r5 [1]).toBool) (some (AEnd.ret (AV.tup [AV.int IntKind.u64 0, AV.int IntKind.i64 91]), [])) (aIf (decide ((if IntKind.i64.wrap (e - IntKind.i64.wrap (32 - m)) > 0 then IntKind.i64.wrap (e - IntKind.i64.wrap (32 - m)) else 0) < 0)) none (some (AEnd.ret (AV.tup [AV.int IntKind.u64 (IntKind.u64.wrap (↑(BitVec.ofInt 64 (IntKind.u64.wrap ((sel r4 [0]).toInt * 2 ^ min (if IntKind.i64.wrap (e - IntKind.i64.wrap (32 - m)) > 0 then IntKind.i64.wrap (e - IntKind.i64.wrap (32 - m)) else 0).toNat 64)) ||| BitVec.ofInt 64 (IntKind.u64.wrap (sel r5 [0]).toInt)).toNat : Int)), AV.int IntKind.i64 0]), [])))) none)) none)) none)) none := by subst h0 h1 h4 h5; kernel_rfl
set_option maxRecDepth 20000 in
set_option maxHeartbeats 1000000 in
theorem R23_is {x z : Nat → Int} {n m e o : Int} {f : Bool} {w : Nat → Int} {p : Int} (hx : b8 x) (hz : b8 z) (hw : b8 w) (hp : 0 ≤ p ∧ p ≤ 65535) : R23 [.agg [.int .u8 (x 0), .int .u8 (x 1), .int .u8 (x 2), .int .u8 (x 3), .int .u8 (x 4), .int .u8 (x 5), .int .u8 (x 6), .int .u8 (x 7), .int .u8 (x 8), .int .u8 (x 9), .int .u8 (x 10), .int .u8 (x 11), .int .u8 (x 12), .int .u8 (x 13), .int .u8 (x 14), .int .u8 (x 15), .int .i64 n, .int .u8 (z 0), .int .u8 (z 1), .int .u8 (z 2), .int .u8 (z 3), .int .i64 m, .int .i64 e, .int .i64 o, .bool f], .agg [.int .u8 (w 0), .int .u8 (w 1), .int .u8 (w 2), .int .u8 (w 3)], .int .u16 p] = some (.ret (.tup [.int .u64 (ofV [.int .u8 (x 0), .int .u8 (x 1), .int .u8 (x 2), .int .u8 (x 3), .int .u8 (x 4), .int .u8 (x 5), .int .u8 (x 6), .int .u8 (x 7), .int .u8 (x 8), .int .u8 (x 9), .int .u8 (x 10), .int .u8 (x 11), .int .u8 (x 12), .int .u8 (x 13), .int .u8 (x 14), .int .u8 (x 15)] [.int .u8 (z 0), .int .u8 (z 1), .int .u8 (z 2), .int .u8 (z 3)] [.int .u8 (w 0), .int .u8 (w 1), .int .u8 (w 2), .int .u8 (w 3)] n m e o p), .int .i64 (ofR [.int .u8 (x 0), .int .u8 (x 1), .int .u8 (x 2), .int .u8 (x 3), .int .u8 (x 4), .int .u8 (x 5), .int .u8 (x 6), .int .u8 (x 7), .int .u8 (x 8), .int .u8 (x 9), .int .u8 (x 10), .int .u8 (x 11), .int .u8 (x 12), .int .u8 (x 13), .int .u8 (x 14), .int .u8 (x 15)] [.int .u8 (z 0), .int .u8 (z 1), .int .u8 (z 2), .int .u8 (z 3)] [.int .u8 (w 0), .int .u8 (w 1), .int .u8 (w 2), .int .u8 (w 3)] n m e o p)]), []) := by
  show S23 _ [] encK = _
  have e0 := R17_is (n := n) (m := m) (e := e) (o := o) (f := f) hx hz
  rcases chkR_or [.int .u8 (x 0), .int .u8 (x 1), .int .u8 (x 2), .int .u8 (x 3), .int .u8 (x 4), .int .u8 (x 5), .int .u8 (x 6), .int .u8 (x 7), .int .u8 (x 8), .int .u8 (x 9), .int .u8 (x 10), .int .u8 (x 11), .int .u8 (x 12), .int .u8 (x 13), .int .u8 (x 14), .int .u8 (x 15)] [.int .u8 (z 0), .int .u8 (z 1), .int .u8 (z 2), .int .u8 (z 3)] n m e o with ⟨hc, ⟨a1, a2, a3⟩, ⟨b1, b2, b3⟩, c1, c2, c3, c4, c5⟩ | hc
  rotate_left
  · rw [N23 x z n m e o f w p e0.symm rfl rfl rfl]
    rcases hc with hc | hc <;> (unfold ofV ofR; rw [hc]; rfl)
  have w1 : IntKind.i64.wrap (32 - m) = 32 - m := i64_of (by omega) (by omega)
  have w2 : IntKind.i64.wrap (e - (32 - m)) = e - (32 - m) := i64_of (by omega) (by omega)
  have w3 : (if e - (32 - m) > 0 then e - (32 - m) else 0) = qR m e := rfl
  have w3' : (if 0 > e - (32 - m) then 0 else e - (32 - m)) = qR m e := by unfold qR; split <;> split <;> omega
  have hqd : decide (e - (32 - m) > 0) = decide (qR m e > 0) := by
    unfold qR
    by_cases hh : e - (32 - m) > 0
    · rw [if_pos hh]
    · rw [if_neg hh, decide_eq_false hh]; rfl
  have hq0 : 0 ≤ qR m e ∧ qR m e ≤ 16 ∧ qR m e ≤ e ∧ e - qR m e ≤ 32 - m := by unfold qR; split <;> omega
  have hps := psetB_q hc hp
  have wu : IntKind.u64.wrap (qR m e) = qR m e := u64_of (by omega) (by omega)
  have w4 : IntKind.i64.wrap (e - qR m e) = e - qR m e := i64_of (by omega) (by omega)
  have hI := R45_is (n := m) hz hw
  have hG : getX [.int .u8 (w 0), .int .u8 (w 1), .int .u8 (w 2), .int .u8 (w 3)] m (e - qR m e) = getN [.int .u8 (w 0), .int .u8 (w 1), .int .u8 (w 2), .int .u8 (w 3)] m.toNat (e - qR m e).toNat := by
    unfold getX
    rw [decide_eq_false (show ¬ e - qR m e > 64 by omega), show thereB ([.int .u8 (w 0), .int .u8 (w 1), .int .u8 (w 2), .int .u8 (w 3)] : List AV).length m (e - qR m e) = true from by simp only [thereB, Bool.and_eq_true, decide_eq_true_eq, List.length_cons, List.length_nil]; omega]
    rfl
  have s1 : shOK (.tup [.bool, .int .i64]) (some (.ret (.tup [.bool (inB 32 [.int .u8 (z 0), .int .u8 (z 1), .int .u8 (z 2), .int .u8 (z 3)] [.int .u8 (w 0), .int .u8 (w 1), .int .u8 (w 2), .int .u8 (w 3)] m), .int .i64 (chkE 32 [.int .u8 (z 0), .int .u8 (z 1), .int .u8 (z 2), .int .u8 (z 3)] m)]), [])) = true := by
    simp only [shOK_ret, has_tup, hasL_cons, hasL_nil, has_bool, has_int, List.getD_cons_zero, List.getD_cons_succ, List.length_cons, List.length_nil, beq_self_eq_true, Bool.and_self, chkE_in]
  have hO : R49 [.int .i64 o, .int .i64 (if IntKind.i64.wrap (e - IntKind.i64.wrap (32 - m)) > 0 then IntKind.i64.wrap (e - IntKind.i64.wrap (32 - m)) else 0), .int .u16 p] = some (.ret (.tup [.int .u16 (ofN o (qR m e) p), .bool (ofB o (qR m e) p), .int .i64 (ofE o (qR m e) 0)]), []) := by
    rw [w1, w2, w3]; exact R49_is hps.1
  have hid : 0 ≤ ofN o (qR m e) p ∧ ofN o (qR m e) p ≤ 65535 := by
    unfold ofN
    cases right o (qR m e) 0 && mine o p
    · exact ⟨by show (0 : Int) ≤ 0; omega, by show (0 : Int) ≤ 65535; omega⟩
    · have := psid_bounds hps.1 hps.2
      exact ⟨this.1, this.2.1⟩
  have s5 : shOK (.tup [.int .u16, .bool, .int .i64]) (some (.ret (.tup [.int .u16 (ofN o (qR m e) p), .bool (ofB o (qR m e) p), .int .i64 (ofE o (qR m e) 0)]), [])) = true := by
    have i1 : inK .u16 (ofN o (qR m e) p) = true := by rw [inK_u16, decide_eq_true hid.1, decide_eq_true hid.2]; rfl
    have i2 : inK .i64 (ofE o (qR m e) 0) = true := by unfold ofE; rw [hps.2]; rfl
    simp only [shOK_ret, has_tup, hasL_cons, hasL_nil, has_bool, has_int, List.getD_cons_zero, List.getD_cons_succ, List.length_cons, List.length_nil, beq_self_eq_true, Bool.and_self, i1, i2]
  have e4 : R37 [.fs 1 [.int .u8 (w 0), .int .u8 (w 1), .int .u8 (w 2), .int .u8 (w 3)] .any, .int .i64 m, .int .i64 (IntKind.i64.wrap (e - (if IntKind.i64.wrap (e - IntKind.i64.wrap (32 - m)) > 0 then IntKind.i64.wrap (e - IntKind.i64.wrap (32 - m)) else 0)))] = some (.ret (.tup [.int .u64 (getX [.int .u8 (w 0), .int .u8 (w 1), .int .u8 (w 2), .int .u8 (w 3)] m (e - qR m e)), .int .i64 0]), []) := by
    rw [w1, w2, w3, w4, R37_is (b8_4 hw) (show (4 : Nat) ≤ 1000000 by decide)]
    have : getE ([.int .u8 (w 0), .int .u8 (w 1), .int .u8 (w 2), .int .u8 (w 3)] : List AV).length m (e - qR m e) = 0 := by
      unfold getE
      rw [decide_eq_false (show ¬ e - qR m e > 64 by omega), show thereB ([.int .u8 (w 0), .int .u8 (w 1), .int .u8 (w 2), .int .u8 (w 3)] : List AV).length m (e - qR m e) = true from by simp only [thereB, Bool.and_eq_true, decide_eq_true_eq, List.length_cons, List.length_nil]; omega]
      rfl
    rw [this]
  have s4 : shOK (.tup [.int .u64, .int .i64]) (some (.ret (.tup [.int .u64 (getX [.int .u8 (w 0), .int .u8 (w 1), .int .u8 (w 2), .int .u8 (w 3)] m (e - qR m e)), .int .i64 0]), [])) = true := by
    simp only [shOK_ret, has_tup, hasL_cons, hasL_nil, has_bool, has_int, List.getD_cons_zero, List.getD_cons_succ, List.length_cons, List.length_nil, beq_self_eq_true, Bool.and_self, getX_inK]; rfl
  rw [N23 x z n m e o f w p e0.symm hI.symm e4.symm hO.symm]
  refine (aIf_pos (by rw [hc]; rfl)).trans ((aIf_neg (by rw [hc]; rfl)).trans ((aIf_pos s1).trans ?_))
  cases hi : inB 32 [.int .u8 (z 0), .int .u8 (z 1), .int .u8 (z 2), .int .u8 (z 3)] [.int .u8 (w 0), .int .u8 (w 1), .int .u8 (w 2), .int .u8 (w 3)] m
  · have hr : ofR [.int .u8 (x 0), .int .u8 (x 1), .int .u8 (x 2), .int .u8 (x 3), .int .u8 (x 4), .int .u8 (x 5), .int .u8 (x 6), .int .u8 (x 7), .int .u8 (x 8), .int .u8 (x 9), .int .u8 (x 10), .int .u8 (x 11), .int .u8 (x 12), .int .u8 (x 13), .int .u8 (x 14), .int .u8 (x 15)] [.int .u8 (z 0), .int .u8 (z 1), .int .u8 (z 2), .int .u8 (z 3)] [.int .u8 (w 0), .int .u8 (w 1), .int .u8 (w 2), .int .u8 (w 3)] n m e o p = 82 := by unfold ofR; rw [hc, hi]; rfl
    have hv : ofV [.int .u8 (x 0), .int .u8 (x 1), .int .u8 (x 2), .int .u8 (x 3), .int .u8 (x 4), .int .u8 (x 5), .int .u8 (x 6), .int .u8 (x 7), .int .u8 (x 8), .int .u8 (x 9), .int .u8 (x 10), .int .u8 (x 11), .int .u8 (x 12), .int .u8 (x 13), .int .u8 (x 14), .int .u8 (x 15)] [.int .u8 (z 0), .int .u8 (z 1), .int .u8 (z 2), .int .u8 (z 3)] [.int .u8 (w 0), .int .u8 (w 1), .int .u8 (w 2), .int .u8 (w 3)] n m e o p = 0 := by unfold ofV; rw [hr]; rfl
    rw [hr, hv]
    rfl
  refine (aIf_neg rfl).trans ?_
  refine (aIf_pos s4).trans ?_
  rw [w1, w2, w3]
  have sg : ∀ g : Int, (sel (some (AEnd.ret (AV.tup [AV.int .u64 g, AV.int .i64 0]), [])) [0]).toInt = g := fun _ => rfl
  have sn : (sel (some (AEnd.ret (AV.tup [AV.int .u16 (ofN o (qR m e) p), AV.bool (ofB o (qR m e) p), AV.int .i64 (ofE o (qR m e) 0)]), [])) [0]).toInt = ofN o (qR m e) p := rfl
  by_cases hz0 : qR m e = 0
  · have hr : ofR [.int .u8 (x 0), .int .u8 (x 1), .int .u8 (x 2), .int .u8 (x 3), .int .u8 (x 4), .int .u8 (x 5), .int .u8 (x 6), .int .u8 (x 7), .int .u8 (x 8), .int .u8 (x 9), .int .u8 (x 10), .int .u8 (x 11), .int .u8 (x 12), .int .u8 (x 13), .int .u8 (x 14), .int .u8 (x 15)] [.int .u8 (z 0), .int .u8 (z 1), .int .u8 (z 2), .int .u8 (z 3)] [.int .u8 (w 0), .int .u8 (w 1), .int .u8 (w 2), .int .u8 (w 3)] n m e o p = 0 := by unfold ofR; rw [hc, hi, show (qR m e == 0) = true from by simpa using hz0]; rfl
    have hv : ofV [.int .u8 (x 0), .int .u8 (x 1), .int .u8 (x 2), .int .u8 (x 3), .int .u8 (x 4), .int .u8 (x 5), .int .u8 (x 6), .int .u8 (x 7), .int .u8 (x 8), .int .u8 (x 9), .int .u8 (x 10), .int .u8 (x 11), .int .u8 (x 12), .int .u8 (x 13), .int .u8 (x 14), .int .u8 (x 15)] [.int .u8 (z 0), .int .u8 (z 1), .int .u8 (z 2), .int .u8 (z 3)] [.int .u8 (w 0), .int .u8 (w 1), .int .u8 (w 2), .int .u8 (w 3)] n m e o p = getX [.int .u8 (w 0), .int .u8 (w 1), .int .u8 (w 2), .int .u8 (w 3)] m (e - qR m e) := by
      unfold ofV
      rw [hr, show (qR m e == 0) = true from by simpa using hz0]
      show getX [.int .u8 (w 0), .int .u8 (w 1), .int .u8 (w 2), .int .u8 (w 3)] m (e - qR m e) * 2 ^ (qR m e).toNat + 0 = _
      rw [show (qR m e).toNat = 0 by omega, Int.pow_zero, Int.mul_one, Int.add_zero]
    refine (aIf_pos ?_).trans ?_
    · simpa using hz0
    · rw [hr, hv]; simp only [sg]
  · have hzf : (qR m e == 0) = false := beq_eq_false_iff_ne.2 hz0
    refine (aIf_neg ?_).trans ((aIf_pos s5).trans ?_)
    · exact hzf
    cases hb : ofB o (qR m e) p
    · have hr : ofR [.int .u8 (x 0), .int .u8 (x 1), .int .u8 (x 2), .int .u8 (x 3), .int .u8 (x 4), .int .u8 (x 5), .int .u8 (x 6), .int .u8 (x 7), .int .u8 (x 8), .int .u8 (x 9), .int .u8 (x 10), .int .u8 (x 11), .int .u8 (x 12), .int .u8 (x 13), .int .u8 (x 14), .int .u8 (x 15)] [.int .u8 (z 0), .int .u8 (z 1), .int .u8 (z 2), .int .u8 (z 3)] [.int .u8 (w 0), .int .u8 (w 1), .int .u8 (w 2), .int .u8 (w 3)] n m e o p = 91 := by unfold ofR; rw [hc, hi, hzf, hb]; rfl
      have hv : ofV [.int .u8 (x 0), .int .u8 (x 1), .int .u8 (x 2), .int .u8 (x 3), .int .u8 (x 4), .int .u8 (x 5), .int .u8 (x 6), .int .u8 (x 7), .int .u8 (x 8), .int .u8 (x 9), .int .u8 (x 10), .int .u8 (x 11), .int .u8 (x 12), .int .u8 (x 13), .int .u8 (x 14), .int .u8 (x 15)] [.int .u8 (z 0), .int .u8 (z 1), .int .u8 (z 2), .int .u8 (z 3)] [.int .u8 (w 0), .int .u8 (w 1), .int .u8 (w 2), .int .u8 (w 3)] n m e o p = 0 := by unfold ofV; rw [hr]; rfl
      rw [hr, hv]
      rfl
    · have hr : ofR [.int .u8 (x 0), .int .u8 (x 1), .int .u8 (x 2), .int .u8 (x 3), .int .u8 (x 4), .int .u8 (x 5), .int .u8 (x 6), .int .u8 (x 7), .int .u8 (x 8), .int .u8 (x 9), .int .u8 (x 10), .int .u8 (x 11), .int .u8 (x 12), .int .u8 (x 13), .int .u8 (x 14), .int .u8 (x 15)] [.int .u8 (z 0), .int .u8 (z 1), .int .u8 (z 2), .int .u8 (z 3)] [.int .u8 (w 0), .int .u8 (w 1), .int .u8 (w 2), .int .u8 (w 3)] n m e o p = 0 := by unfold ofR; rw [hc, hi, hzf, hb]; rfl
      have hk := ofV_ok (X := [.int .u8 (x 0), .int .u8 (x 1), .int .u8 (x 2), .int .u8 (x 3), .int .u8 (x 4), .int .u8 (x 5), .int .u8 (x 6), .int .u8 (x 7), .int .u8 (x 8), .int .u8 (x 9), .int .u8 (x 10), .int .u8 (x 11), .int .u8 (x 12), .int .u8 (x 13), .int .u8 (x 14), .int .u8 (x 15)]) (Z := [.int .u8 (z 0), .int .u8 (z 1), .int .u8 (z 2), .int .u8 (z 3)]) (W := [.int .u8 (w 0), .int .u8 (w 1), .int .u8 (w 2), .int .u8 (w 3)]) rfl hp hr
      have hv : ofV [.int .u8 (x 0), .int .u8 (x 1), .int .u8 (x 2), .int .u8 (x 3), .int .u8 (x 4), .int .u8 (x 5), .int .u8 (x 6), .int .u8 (x 7), .int .u8 (x 8), .int .u8 (x 9), .int .u8 (x 10), .int .u8 (x 11), .int .u8 (x 12), .int .u8 (x 13), .int .u8 (x 14), .int .u8 (x 15)] [.int .u8 (z 0), .int .u8 (z 1), .int .u8 (z 2), .int .u8 (z 3)] [.int .u8 (w 0), .int .u8 (w 1), .int .u8 (w 2), .int .u8 (w 3)] n m e o p = getX [.int .u8 (w 0), .int .u8 (w 1), .int .u8 (w 2), .int .u8 (w 3)] m (e - qR m e) * 2 ^ (qR m e).toNat + ofN o (qR m e) p := by
        unfold ofV
        rw [hr, hzf]; rfl
      have hlt : ofN o (qR m e) p < 2 ^ (qR m e).toNat := by
        unfold ofN
        unfold ofB at hb
        rw [hb]
        exact (psid_bounds hps.1 hps.2).2.2
      have h64 := hk.2.2.1
      obtain ⟨_, _, _, _, _, _, _, _, _, _, h64, _⟩ := h64
      refine (aIf_neg rfl).trans ((aIf_neg ?_).trans ?_)
      · exact decide_eq_false (by omega)
      · rw [hr, hv, show min (qR m e).toNat 64 = (qR m e).toNat by omega]
        try simp only [sg]
        have hor := or_shift (g := getX [.int .u8 (w 0), .int .u8 (w 1), .int .u8 (w 2), .int .u8 (w 3)] m (e - qR m e)) (b := ofN o (qR m e) p) (q := (qR m e).toNat) (getX_range _ _ _).1 hid.1 hlt (by rw [← hv]; exact h64)
        exact congrArg (fun c => some (AEnd.ret (AV.tup [AV.int .u64 c, AV.int .i64 0]), [])) hor

/-- ferryman/ferrymanref10.Shared -/
noncomputable def T41 : List (FuncId × FSpec) := [(44, S44)]
theorem T41_ok : TabOK Tryd.prog T41 := TabOK.cons En44 S44_ok (TabOK.nil _)
noncomputable def C41 : Ctx := (ctx E T41 [] [(0, [1]), (1, [4]), (2, [2, 3])] [] 14 70)
theorem C41_ok : CtxOK Tryd.prog C41 := ctx_ok E_ok E_flds mixed T41_ok
noncomputable def S41 : FSpec := inlineK C41 Tryd.f41
theorem S41_ok : SpecOK Tryd.prog 41 S41 := inlineK_ok C41_ok Tryd.func41 (fun _ _ => LoopsOK.none _)
theorem En41 : Enters Tryd.prog 41 := ⟨_, Tryd.func41, by decide, rfl⟩

/-- ferryman/ferrymanref02.Cut4 -/
noncomputable def T69 : List (FuncId × FSpec) := []
theorem T69_ok : TabOK Tryd.prog T69 := TabOK.nil _
noncomputable def L69_4 : ATs → AH → KC → Res := fun ts H k => match ts, H with
  | [(1, .int .i64 n), (2, .ptr 0 0 0), (4, .ptr 1 0 0), (6, .int .i64 i)], [.cells 0 xs, .cells 0 zs] => aIf (intsB .u8 xs && xs.length == 4 && decide (0 ≤ i) && decide (i ≤ 32)) (k (.exit 0) [(1, .int .i64 n), (2, .ptr 0 0 0), (4, .ptr 1 0 0), (6, .int .i64 32), (16, .bool false)] [.cells 0 [.int .u8 (byteAt (cutX xs i.toNat) 0), .int .u8 (byteAt (cutX xs i.toNat) 1), .int .u8 (byteAt (cutX xs i.toNat) 2), .int .u8 (byteAt (cutX xs i.toNat) 3)], .cells 0 zs]) none
  | _, _ => none
noncomputable def C69 : Ctx := (ctx E T69 [(4, L69_4)] [(0, [1, 2, 4]), (1, [1, 2, 4, 12]), (2, [4, 5]), (3, [1, 2, 4, 6]), (4, [1, 2, 4, 6, 16]), (5, [1, 2, 4, 6]), (6, [1, 2, 4, 6]), (7, [4, 5]), (1000004, [1, 2, 4, 6])] [] 34 70)
theorem C69_ok : CtxOK Tryd.prog C69 := ctx_ok E_ok E_flds mixed T69_ok
theorem C69_l0 : C69.loop (loopId (loopB Tryd.f69 0)) = some L69_4 := by kernel_rfl
theorem L69_4_in : LoopsOK C69 (loopB Tryd.f69 0) := LoopsOK.within 0 (by kernel_rfl) (fun j hj S hS => by
  omega)
theorem M69_4a (n i : Int) (xs zs : List AV) (k : KC) : headedK C69 (loopB Tryd.f69 0) [(1, .int .i64 n), (2, .ptr 0 0 0), (4, .ptr 1 0 0), (6, .int .i64 i)] [.cells 0 xs, .cells 0 zs] k =
  aIf (decide (i < 32)) (aIf (decide (0 ≤ IntKind.i64.wrap (i.tdiv 8))) (aIf (decide (IntKind.i64.wrap (i.tdiv 8) < 4)) (aIf (decide (0 + (IntKind.i64.wrap (i.tdiv 8)).toNat * 1 + 1 ≤ xs.length)) (aIf ((xs.getD (0 + (IntKind.i64.wrap (i.tdiv 8)).toNat * 1) AV.junk).isInt IntKind.u8) (aIf (decide (IntKind.i64.wrap (7 - i.tmod 8) < 0)) none (aIf (decide (0 ≤ IntKind.i64.wrap (i.tdiv 8))) (aIf (decide (IntKind.i64.wrap (i.tdiv 8) < 4)) (aIf (decide (0 + (IntKind.i64.wrap (i.tdiv 8)).toNat * 1 + 1 ≤ xs.length)) (k AExit.normal [(1, AV.int IntKind.i64 n), (2, AV.ptr 0 0 0), (4, AV.ptr 1 0 0), (6, AV.int IntKind.i64 (IntKind.i64.wrap (i + 1)))] [AO.cells 0 (xs.set (0 + (IntKind.i64.wrap (i.tdiv 8)).toNat * 1) (AV.int IntKind.u8 (IntKind.u8.wrap (↑(BitVec.ofInt 8 (xs.getD (0 + (IntKind.i64.wrap (i.tdiv 8)).toNat * 1) AV.junk).toInt &&& ~~~BitVec.ofInt 8 (IntKind.u8.wrap (1 * 2 ^ min (IntKind.i64.wrap (7 - i.tmod 8)).toNat 8))).toNat : Int)))), AO.cells 0 zs]) none) none) none)) none) none) none) none) (k (AExit.exit 0) [(1, AV.int IntKind.i64 n), (2, AV.ptr 0 0 0), (4, AV.ptr 1 0 0), (6, AV.int IntKind.i64 i), (16, AV.bool (decide (i < 32)))] [AO.cells 0 xs, AO.cells 0 zs]) := by kernel_rfl
theorem L69_4_ok : LoopSum C69 (loopB Tryd.f69 0) L69_4 := LoopSum.of C69_ok L69_4_in (fun ts H => by
  unfold L69_4
  split
  · rename_i n i xs zs
    rcases Bool.eq_false_or_eq_true (intsB .u8 xs && xs.length == 4 && decide (0 ≤ i) && decide (i ≤ 32)) with hp | hp
    · refine .inr ?_
      simp only [aIf_pos hp]
      simp only [Bool.and_eq_true, decide_eq_true_eq, beq_iff_eq] at hp
      obtain ⟨⟨⟨hu, hL⟩, h0⟩, h1⟩ := hp
      obtain ⟨i, rfl⟩ := Int.eq_ofNat_of_zero_le h0
      have key : ∀ (j : Nat) (ys : List AV), j < 32 → (intsB .u8 ys = true ∧ ys.length = 4) → (intsB .u8 (setV ys j 0) = true ∧ (setV ys j 0).length = 4) ∧ ∀ k, headedK C69 (loopB Tryd.f69 0) [(1, .int .i64 n), (2, .ptr 0 0 0), (4, .ptr 1 0 0), (6, .int .i64 (j : Int))] [.cells 0 ys, .cells 0 zs] k = k .normal [(1, .int .i64 n), (2, .ptr 0 0 0), (4, .ptr 1 0 0), (6, .int .i64 ((j + 1 : Nat) : Int))] [.cells 0 (setV ys j 0), .cells 0 zs] := by
        intro j ys hj hys
        obtain ⟨hu, hL⟩ := hys
        refine ⟨⟨setV_u8 hu (.inl rfl), by rw [setV_length, hL]⟩, fun k => ?_⟩
        obtain ⟨x, hx, he⟩ := u8_get hu (j / 8) (by omega)
        rw [M69_4a]
        simp only [decide_eq_true (show (j : Int) < 32 by omega), div8 (show j < 9223372036854775808 by omega), sh7 j, decide_eq_true (show ((j / 8 : Nat) : Int) < 4 by omega), decide_eq_true (show j / 8 + 1 ≤ ys.length by omega), show min (7 - j % 8) 8 = 7 - j % 8 by omega, he, clr8 hx (show 7 - j % 8 < 8 by omega), u8pow (show 7 - j % 8 < 8 by omega), i64s (show j + 1 < 9223372036854775808 by omega), Int.toNat_natCast, Nat.zero_add, Nat.mul_one, Int.one_mul, isInt_self, AV.toInt, dnn, dnn', aIf_true, aIf_false, setV]
      have hl : cutX xs (i : Int).toNat = foldF (fun j ys => setV ys j 0) (32 - i) i xs := by rw [Int.toNat_natCast]; unfold cutX; rw [hL]
      rw [hl]
      exact (iter_fold (N := 32) (ts := fun j _ => [(1, .int .i64 n), (2, .ptr 0 0 0), (4, .ptr 1 0 0), (6, .int .i64 (j : Int))]) (H := fun _ ys => [.cells 0 ys, .cells 0 zs]) (f := fun j ys => setV ys j 0) (I := fun _ ys => intsB .u8 ys = true ∧ ys.length = 4) (te := fun _ => [(1, .int .i64 n), (2, .ptr 0 0 0), (4, .ptr 1 0 0), (6, .int .i64 32), (16, .bool false)]) (He := fun ys => [.cells 0 [.int .u8 (byteAt ys 0), .int .u8 (byteAt ys 1), .int .u8 (byteAt ys 2), .int .u8 (byteAt ys 3)], .cells 0 zs])
        key (fun ys hI k => by rw [M69_4a]; exact congrArg (fun c => k (.exit 0) [(1, .int .i64 n), (2, .ptr 0 0 0), (4, .ptr 1 0 0), (6, .int .i64 32), (16, .bool false)] [.cells 0 c, .cells 0 zs]) (bytes4 hI.1 hI.2)) (by intro h; cases h) (32 - i) i xs (by omega) ⟨hu, hL⟩).imp fun m hm k => (hm k).symm
    · exact .inl fun k => by rw [aIf_neg hp]
  · exact .inl fun k => rfl)
theorem C69_loops : ∀ c, Tryd.f69.body = some c → LoopsOK C69 c := LoopsOK.of 1 (by kernel_rfl) (fun j hj S hS => by
  match j, hj with
  | 0, _ => rw [C69_l0] at hS; cases hS; exact L69_4_ok
  | n + 1, hj => omega)
noncomputable def S69 : FSpec := inlineK C69 Tryd.f69
theorem S69_ok : SpecOK Tryd.prog 69 S69 := inlineK_ok C69_ok Tryd.func69 C69_loops
theorem En69 : Enters Tryd.prog 69 := ⟨_, Tryd.func69, by decide, rfl⟩
noncomputable def R69 (args : List AV) : Res := S69 args [] encK
noncomputable def V69 : FSpec := leafK (.tup [.agg [.int .u8, .int .u8, .int .u8, .int .u8, .int .i64], .int .i64]) R69
theorem V69_ok : SpecOK Tryd.prog 69 V69 := leafK_ok S69_ok (fun _ => rfl)
theorem N69 (x : Nat → Int) (n : Int) : S69 [.agg [.int .u8 (x 0), .int .u8 (x 1), .int .u8 (x 2), .int .u8 (x 3)], .int .i64 n] [] encK =
  aIf (decide (n < 0)) (some (AEnd.ret (AV.tup [AV.agg [AV.int IntKind.u8 0, AV.int IntKind.u8 0, AV.int IntKind.u8 0, AV.int IntKind.u8 0, AV.int IntKind.i64 0], AV.int IntKind.i64 5]), [])) (aIf (decide (n > 32)) (some (AEnd.ret (AV.tup [AV.agg [AV.int IntKind.u8 0, AV.int IntKind.u8 0, AV.int IntKind.u8 0, AV.int IntKind.u8 0, AV.int IntKind.i64 0], AV.int IntKind.i64 5]), [])) (aIf (true && (decide (0 ≤ x 0) && decide (x 0 ≤ 255)) && (true && (decide (0 ≤ x 1) && decide (x 1 ≤ 255)) && (true && (decide (0 ≤ x 2) && decide (x 2 ≤ 255)) && (true && (decide (0 ≤ x 3) && decide (x 3 ≤ 255)) && true))) && true && decide (0 ≤ n) && decide (n ≤ 32)) (some (AEnd.ret (AV.tup [AV.agg [AV.int IntKind.u8 (Pl.byteAt (Pl.cutX [AV.int IntKind.u8 (x 0), AV.int IntKind.u8 (x 1), AV.int IntKind.u8 (x 2), AV.int IntKind.u8 (x 3)] n.toNat) 0), AV.int IntKind.u8 (Pl.byteAt (Pl.cutX [AV.int IntKind.u8 (x 0), AV.int IntKind.u8 (x 1), AV.int IntKind.u8 (x 2), AV.int IntKind.u8 (x 3)] n.toNat) 1), AV.int IntKind.u8 (Pl.byteAt (Pl.cutX [AV.int IntKind.u8 (x 0), AV.int IntKind.u8 (x 1), AV.int IntKind.u8 (x 2), AV.int IntKind.u8 (x 3)] n.toNat) 2), AV.int IntKind.u8 (Pl.byteAt (Pl.cutX [AV.int IntKind.u8 (x 0), AV.int IntKind.u8 (x 1), AV.int IntKind.u8 (x 2), AV.int IntKind.u8 (x 3)] n.toNat) 3), AV.int IntKind.i64 n], AV.int IntKind.i64 0]), [])) none)) := by kernel_rfl
theorem R69_is {x : Nat → Int} {n : Int} (hx : b8 x) (h0 : 0 ≤ n) (h1 : n ≤ 32) : R69 [.agg [.int .u8 (x 0), .int .u8 (x 1), .int .u8 (x 2), .int .u8 (x 3)], .int .i64 n] = some (.ret (.tup [.agg [.int .u8 (byteAt (cutX [.int .u8 (x 0), .int .u8 (x 1), .int .u8 (x 2), .int .u8 (x 3)] n.toNat) 0), .int .u8 (byteAt (cutX [.int .u8 (x 0), .int .u8 (x 1), .int .u8 (x 2), .int .u8 (x 3)] n.toNat) 1), .int .u8 (byteAt (cutX [.int .u8 (x 0), .int .u8 (x 1), .int .u8 (x 2), .int .u8 (x 3)] n.toNat) 2), .int .u8 (byteAt (cutX [.int .u8 (x 0), .int .u8 (x 1), .int .u8 (x 2), .int .u8 (x 3)] n.toNat) 3), .int .i64 n], .int .i64 0]), []) := by
  show S69 _ [] encK = _
  rw [N69, decide_eq_false (show ¬ n < 0 by omega), decide_eq_false (show ¬ n > 32 by omega)]
  refine (aIf_neg rfl).trans ((aIf_neg rfl).trans (aIf_pos ?_))
  have : (intsB .u8 [.int .u8 (x 0), .int .u8 (x 1), .int .u8 (x 2), .int .u8 (x 3)] && ([.int .u8 (x 0), .int .u8 (x 1), .int .u8 (x 2), .int .u8 (x 3)] : List AV).length == 4 && decide (0 ≤ n) && decide (n ≤ 32)) = true := by rw [b8_4 hx, decide_eq_true h0, decide_eq_true h1]; rfl
  exact this

/-- ferryman/ferrymanref02.Has4 -/
noncomputable def T50 : List (FuncId × FSpec) := [(31, V31), (69, V69)]
theorem T50_ok : TabOK Tryd.prog T50 := TabOK.cons En31 V31_ok (TabOK.cons En69 V69_ok (TabOK.nil _))
noncomputable def C50 : Ctx := (ctx E T50 [] [(0, [2, 3]), (1, [2, 3, 10]), (2, [4, 5]), (3, [2, 6]), (4, [4, 5])] [] 21 70)
theorem C50_ok : CtxOK Tryd.prog C50 := ctx_ok E_ok E_flds mixed T50_ok
noncomputable def S50 : FSpec := inlineK C50 Tryd.f50
theorem S50_ok : SpecOK Tryd.prog 50 S50 := inlineK_ok C50_ok Tryd.func50 (fun _ _ => LoopsOK.none _)
theorem En50 : Enters Tryd.prog 50 := ⟨_, Tryd.func50, by decide, rfl⟩
noncomputable def R50 (args : List AV) : Res := S50 args [] encK
noncomputable def V50 : FSpec := leafK (.tup [.bool, .int .i64]) R50
theorem V50_ok : SpecOK Tryd.prog 50 V50 := leafK_ok S50_ok (fun _ => rfl)
theorem N50 (x y : Nat → Int) (n : Int) : S50 [.agg [.int .u8 (x 0), .int .u8 (x 1), .int .u8 (x 2), .int .u8 (x 3), .int .i64 n], .agg [.int .u8 (y 0), .int .u8 (y 1), .int .u8 (y 2), .int .u8 (y 3)]] [] encK =
  aIf (shOK (Sh.int IntKind.i64) (R31 [AV.agg [AV.int IntKind.u8 (x 0), AV.int IntKind.u8 (x 1), AV.int IntKind.u8 (x 2), AV.int IntKind.u8 (x 3), AV.int IntKind.i64 n]])) (aIf ((sel (R31 [AV.agg [AV.int IntKind.u8 (x 0), AV.int IntKind.u8 (x 1), AV.int IntKind.u8 (x 2), AV.int IntKind.u8 (x 3), AV.int IntKind.i64 n]]) []).toInt != 0) (some (AEnd.ret (AV.tup [AV.bool false, AV.int IntKind.i64 22]), [])) (aIf (shOK (Sh.tup [Sh.agg [Sh.int IntKind.u8, Sh.int IntKind.u8, Sh.int IntKind.u8, Sh.int IntKind.u8, Sh.int IntKind.i64], Sh.int IntKind.i64]) (R69 [AV.agg [AV.int IntKind.u8 (y 0), AV.int IntKind.u8 (y 1), AV.int IntKind.u8 (y 2), AV.int IntKind.u8 (y 3)], AV.int IntKind.i64 n])) (some (AEnd.ret (AV.tup [AV.bool ((sel (R69 [AV.agg [AV.int IntKind.u8 (y 0), AV.int IntKind.u8 (y 1), AV.int IntKind.u8 (y 2), AV.int IntKind.u8 (y 3)], AV.int IntKind.i64 n]) [0, 0]).toInt == x 0 && ((sel (R69 [AV.agg [AV.int IntKind.u8 (y 0), AV.int IntKind.u8 (y 1), AV.int IntKind.u8 (y 2), AV.int IntKind.u8 (y 3)], AV.int IntKind.i64 n]) [0, 1]).toInt == x 1 && ((sel (R69 [AV.agg [AV.int IntKind.u8 (y 0), AV.int IntKind.u8 (y 1), AV.int IntKind.u8 (y 2), AV.int IntKind.u8 (y 3)], AV.int IntKind.i64 n]) [0, 2]).toInt == x 2 && ((sel (R69 [AV.agg [AV.int IntKind.u8 (y 0), AV.int IntKind.u8 (y 1), AV.int IntKind.u8 (y 2), AV.int IntKind.u8 (y 3)], AV.int IntKind.i64 n]) [0, 3]).toInt == x 3 && true))) && ((sel (R69 [AV.agg [AV.int IntKind.u8 (y 0), AV.int IntKind.u8 (y 1), AV.int IntKind.u8 (y 2), AV.int IntKind.u8 (y 3)], AV.int IntKind.i64 n]) [0, 4]).toInt == n && true)), AV.int IntKind.i64 0]), [])) none)) none := by kernel_rfl
theorem R50_is {x y : Nat → Int} {n : Int} (hx : b8 x) (hy : b8 y) : R50 [.agg [.int .u8 (x 0), .int .u8 (x 1), .int .u8 (x 2), .int .u8 (x 3), .int .i64 n], .agg [.int .u8 (y 0), .int .u8 (y 1), .int .u8 (y 2), .int .u8 (y 3)]] = some (.ret (.tup [.bool (inB 32 [.int .u8 (x 0), .int .u8 (x 1), .int .u8 (x 2), .int .u8 (x 3)] [.int .u8 (y 0), .int .u8 (y 1), .int .u8 (y 2), .int .u8 (y 3)] n), .int .i64 (chkE 32 [.int .u8 (x 0), .int .u8 (x 1), .int .u8 (x 2), .int .u8 (x 3)] n)]), []) := by
  show S50 _ [] encK = _
  have ti : ∀ k n, (AV.int k n).toInt = n := fun _ _ => rfl
  have tb : ∀ b, (AV.bool b).toBool = b := fun _ => rfl
  have si : ∀ k n, sel (some (AEnd.ret (AV.int k n), [])) [] = .int k n := fun _ _ => rfl
  have sb : ∀ b, sel (some (AEnd.ret (AV.bool b), [])) [] = .bool b := fun _ => rfl
  rw [N50]
  simp only [R31_is hx, shOK_ret, has_int, chkE_in, si, ti, aIf_true]
  rcases chkE_or 32 [.int .u8 (x 0), .int .u8 (x 1), .int .u8 (x 2), .int .u8 (x 3)] n with ⟨h1, h2, h3, h4⟩ | h1
  · have e := R69_is hy h2 h3
    have hcu := cutX_u8 (b8_4 hy) n.toNat
    have hcl : (cutX [.int .u8 (y 0), .int .u8 (y 1), .int .u8 (y 2), .int .u8 (y 3)] n.toNat).length = 4 := cutX_length _ _
    have hin : ∀ k, inK .u8 (byteAt (cutX [.int .u8 (y 0), .int .u8 (y 1), .int .u8 (y 2), .int .u8 (y 3)] n.toNat) k) = true := fun k => byteAt_in hcu k
    have g : ∀ l : List AV, sel (some (AEnd.ret (AV.tup [.agg l, .int .i64 0]), [])) [0] = .agg l := fun _ => rfl
    have hn : inK .i64 n = true := by rw [inK_i64, decide_eq_true (show -9223372036854775808 ≤ n by omega), decide_eq_true (show n ≤ 9223372036854775807 by omega)]; rfl
    rw [h1, e, aIf_neg (b := ((0 : Int) != 0)) rfl]
    refine (aIf_pos ?_).trans ?_
    · simp only [shOK_ret, has_tup, has_agg, hasL_cons, hasL_nil, has_int, List.getD_cons_zero, List.getD_cons_succ, List.length_cons, List.length_nil, beq_self_eq_true, hin, hn, Bool.and_self]
      rfl
    · unfold inB
      rw [h1]
      refine congrArg (fun u => some (AEnd.ret (AV.tup [AV.bool u, AV.int .i64 0]), [])) ?_
      show _ = sameB [.int .u8 (x 0), .int .u8 (x 1), .int .u8 (x 2), .int .u8 (x 3)] [.int .u8 (y 0), .int .u8 (y 1), .int .u8 (y 2), .int .u8 (y 3)] n.toNat
      rw [Bool.eq_iff_iff, ← cut_same (b8_4 hx) (b8_4 hy) rfl (show n.toNat ≤ 32 by omega) h4]
      have hb := bytes4 hcu hcl
      constructor
      · intro h
        have h' : ((byteAt (cutX [.int .u8 (y 0), .int .u8 (y 1), .int .u8 (y 2), .int .u8 (y 3)] n.toNat) 0 == x 0 && (byteAt (cutX [.int .u8 (y 0), .int .u8 (y 1), .int .u8 (y 2), .int .u8 (y 3)] n.toNat) 1 == x 1 && (byteAt (cutX [.int .u8 (y 0), .int .u8 (y 1), .int .u8 (y 2), .int .u8 (y 3)] n.toNat) 2 == x 2 && (byteAt (cutX [.int .u8 (y 0), .int .u8 (y 1), .int .u8 (y 2), .int .u8 (y 3)] n.toNat) 3 == x 3 && true)))) && (n == n && true)) = true := h
        simp only [Bool.and_eq_true, beq_iff_eq] at h'
        obtain ⟨⟨q0, q1, q2, q3, _⟩, _⟩ := h'
        rw [hb]
        simp only [q0, q1, q2, q3]
      · intro h
        show ((byteAt (cutX [.int .u8 (y 0), .int .u8 (y 1), .int .u8 (y 2), .int .u8 (y 3)] n.toNat) 0 == x 0 && (byteAt (cutX [.int .u8 (y 0), .int .u8 (y 1), .int .u8 (y 2), .int .u8 (y 3)] n.toNat) 1 == x 1 && (byteAt (cutX [.int .u8 (y 0), .int .u8 (y 1), .int .u8 (y 2), .int .u8 (y 3)] n.toNat) 2 == x 2 && (byteAt (cutX [.int .u8 (y 0), .int .u8 (y 1), .int .u8 (y 2), .int .u8 (y 3)] n.toNat) 3 == x 3 && true)))) && (n == n && true)) = true
        rw [h]
        show ((x 0 == x 0 && (x 1 == x 1 && (x 2 == x 2 && (x 3 == x 3 && true)))) && (n == n && true)) = true
        simp only [beq_self_eq_true, Bool.and_self]
  · rw [h1]
    unfold inB
    rw [h1]
    rfl

/-- ferryman/ferrymanref09.Right -/
noncomputable def T70 : List (FuncId × FSpec) := []
theorem T70_ok : TabOK Tryd.prog T70 := TabOK.nil _
noncomputable def C70 : Ctx := (ctx E T70 [] [(0, [1]), (1, [2])] [] 33 70)
theorem C70_ok : CtxOK Tryd.prog C70 := ctx_ok E_ok E_flds mixed T70_ok
noncomputable def B70 : FSpec := inlineK C70 Tryd.f70
noncomputable def S70 : FSpec := fun args H k => match args, H with
  | [.agg [.int .i64 a, .int .i64 b, .int .u16 x]], [] => aIf (psetB a b x) (k (.ret (.bool (right a b x))) []) none
  | _, _ => none
theorem B70_ok : SpecOK Tryd.prog 70 B70 := inlineK_ok C70_ok Tryd.func70 (fun _ _ => LoopsOK.none _)
theorem N70 (a b x : Int) (k : KE) : B70 [.agg [.int .i64 a, .int .i64 b, .int .u16 x]] [] k =
    aIf (decide (a ≥ 0))
  (aIf (decide (a ≤ 15))
    (aIf (decide (b ≥ 0))
      (aIf (decide (b ≤ IntKind.i64.wrap (16 - a)))
        (aIf (decide (b < 0)) none
          (k (AEnd.ret (AV.bool (decide (IntKind.i64.wrap x < IntKind.i64.wrap (1 * 2 ^ min b.toNat 64))))) []))
        (k (AEnd.ret (AV.bool false)) []))
      (k (AEnd.ret (AV.bool false)) []))
    (k (AEnd.ret (AV.bool false)) []))
  (k (AEnd.ret (AV.bool false)) []) := by kernel_rfl
theorem S70_ok : SpecOK Tryd.prog 70 S70 := by
  refine B70_ok.turn fun args H => ?_
  unfold S70
  split
  · rename_i a b x
    rcases Bool.eq_false_or_eq_true (psetB a b x) with hp | hp
    · refine .inr fun k => ?_
      rw [aIf_pos hp, N70]
      exact right_law hp k
    · exact .inl fun k => by rw [aIf_neg hp]
  · exact .inl fun k => rfl
theorem En70 : Enters Tryd.prog 70 := ⟨_, Tryd.func70, by decide, rfl⟩

/-- ferryman/ferrymanref09.a -/
noncomputable def T71 : List (FuncId × FSpec) := []
theorem T71_ok : TabOK Tryd.prog T71 := TabOK.nil _
noncomputable def C71 : Ctx := (ctx E T71 [] [(0, [0, 1]), (1, [4])] [] 10 70)
theorem C71_ok : CtxOK Tryd.prog C71 := ctx_ok E_ok E_flds mixed T71_ok
noncomputable def B71 : FSpec := inlineK C71 Tryd.f71
noncomputable def S71 : FSpec := fun args H k => match args, H with
  | [.int .i64 a, .int .u16 x], [] => aIf (offB a x) (k (.ret (.int .i64 (x / 2 ^ (16 - a).toNat))) []) none
  | _, _ => none
theorem B71_ok : SpecOK Tryd.prog 71 B71 := inlineK_ok C71_ok Tryd.func71 (fun _ _ => LoopsOK.none _)
theorem N71 (a x : Int) (k : KE) : B71 [.int .i64 a, .int .u16 x] [] k =
    aIf (decide (IntKind.i64.wrap (16 - a) < 0)) none
  (k (AEnd.ret (AV.int IntKind.i64 ((IntKind.i64.wrap x).fdiv (2 ^ min (IntKind.i64.wrap (16 - a)).toNat 64)))) []) := by kernel_rfl
theorem S71_ok : SpecOK Tryd.prog 71 S71 := by
  refine B71_ok.turn fun args H => ?_
  unfold S71
  split
  · rename_i a x
    rcases Bool.eq_false_or_eq_true (offB a x) with hp | hp
    · refine .inr fun k => ?_
      rw [aIf_pos hp, N71]
      exact a_law hp k
    · exact .inl fun k => by rw [aIf_neg hp]
  · exact .inl fun k => rfl
theorem En71 : Enters Tryd.prog 71 := ⟨_, Tryd.func71, by decide, rfl⟩

/-- ferryman/ferrymanref09.Of -/
noncomputable def T51 : List (FuncId × FSpec) := [(70, S70), (71, S71)]
theorem T51_ok : TabOK Tryd.prog T51 := TabOK.cons En70 S70_ok (TabOK.cons En71 S71_ok (TabOK.nil _))
noncomputable def C51 : Ctx := (ctx E T51 [] [(0, [0, 1, 2]), (1, [0, 1, 2, 13]), (2, [6, 7, 8]), (3, [0, 1, 2, 21]), (4, [6, 7, 8]), (5, [6, 7, 8])] [] 33 70)
theorem C51_ok : CtxOK Tryd.prog C51 := ctx_ok E_ok E_flds mixed T51_ok
noncomputable def B51 : FSpec := inlineK C51 Tryd.f51
noncomputable def S51 : FSpec := fun args H k => match args, H with
  | [.int .i64 a, .int .i64 b, .int .u16 x], [] => aIf (psetB a b x) (aIf (right a b 0) (aIf (mine a x) (k (.ret (.tup [.int .u16 (psid a b x), .bool true, .int .i64 0])) []) (k (.ret (.tup [.int .u16 0, .bool false, .int .i64 0])) [])) (k (.ret (.tup [.int .u16 0, .bool false, .int .i64 90])) [])) none
  | _, _ => none
theorem B51_ok : SpecOK Tryd.prog 51 B51 := inlineK_ok C51_ok Tryd.func51 (fun _ _ => LoopsOK.none _)
theorem N51 (a b x : Int) (k : KE) : B51 [.int .i64 a, .int .i64 b, .int .u16 x] [] k =
    aIf (Pl.psetB a b 0)
  (aIf (!Pl.right a b 0) (k (AEnd.ret (AV.tup [AV.int IntKind.u16 0, AV.bool false, AV.int IntKind.i64 90])) [])
    (aIf (decide (a > 0))
      (aIf (Pl.offB a x)
        (aIf (x / 2 ^ (16 - a).toNat == 0)
          (k (AEnd.ret (AV.tup [AV.int IntKind.u16 0, AV.bool false, AV.int IntKind.i64 0])) [])
          (aIf (decide (IntKind.i64.wrap (IntKind.i64.wrap (16 - a) - b) < 0)) none
            (aIf (decide (b < 0)) none
              (aIf (IntKind.i64.wrap (1 * 2 ^ min b.toNat 64) == 0) none
                (k
                  (AEnd.ret
                    (AV.tup
                      [AV.int IntKind.u16
                          (IntKind.u16.wrap
                            (((IntKind.i64.wrap x).fdiv
                                  (2 ^ min (IntKind.i64.wrap (IntKind.i64.wrap (16 - a) - b)).toNat 64)).tmod
                              (IntKind.i64.wrap (1 * 2 ^ min b.toNat 64)))),
                        AV.bool true, AV.int IntKind.i64 0]))
                  [])))))
        none)
      (aIf (decide (IntKind.i64.wrap (IntKind.i64.wrap (16 - a) - b) < 0)) none
        (aIf (decide (b < 0)) none
          (aIf (IntKind.i64.wrap (1 * 2 ^ min b.toNat 64) == 0) none
            (k
              (AEnd.ret
                (AV.tup
                  [AV.int IntKind.u16
                      (IntKind.u16.wrap
                        (((IntKind.i64.wrap x).fdiv
                              (2 ^ min (IntKind.i64.wrap (IntKind.i64.wrap (16 - a) - b)).toNat 64)).tmod
                          (IntKind.i64.wrap (1 * 2 ^ min b.toNat 64)))),
                    AV.bool true, AV.int IntKind.i64 0]))
              []))))))
  none := by kernel_rfl
theorem S51_ok : SpecOK Tryd.prog 51 S51 := by
  refine B51_ok.turn fun args H => ?_
  unfold S51
  split
  · rename_i a b x
    rcases Bool.eq_false_or_eq_true (psetB a b x) with hp | hp
    · refine .inr fun k => ?_
      rw [aIf_pos hp, N51]
      exact of_ref hp k
    · exact .inl fun k => by rw [aIf_neg hp]
  · exact .inl fun k => rfl
theorem En51 : Enters Tryd.prog 51 := ⟨_, Tryd.func51, by decide, rfl⟩
noncomputable def R51 (args : List AV) : Res := S51 args [] encK
noncomputable def V51 : FSpec := leafK (.tup [.int .u16, .bool, .int .i64]) R51
theorem V51_ok : SpecOK Tryd.prog 51 V51 := leafK_ok S51_ok (fun _ => rfl)
theorem R51_is {a b x : Int} (hp : psetB a b x = true) : R51 [.int .i64 a, .int .i64 b, .int .u16 x] = some (.ret (.tup [.int .u16 (ofN a b x), .bool (ofB a b x), .int .i64 (ofE a b 0)]), []) := by
  refine (aIf_pos hp).trans ?_
  unfold ofN ofB ofE
  cases right a b 0
  · rfl
  · cases mine a x <;> rfl

/-- ferryman/ferrymanref10.Of -/
noncomputable def T24 : List (FuncId × FSpec) := [(18, V18), (41, S41), (44, S44), (50, V50), (51, V51)]
theorem T24_ok : TabOK Tryd.prog T24 := TabOK.cons En18 V18_ok (TabOK.cons En41 S41_ok (TabOK.cons En44 S44_ok (TabOK.cons En50 V50_ok (TabOK.cons En51 V51_ok (TabOK.nil _)))))
noncomputable def L24_11 : ATs → AH → KC → Res := fun ts H k => match ts, H with
  | [(2, .int .u16 p), (3, .ptr 0 0 0), (4, .ptr 1 0 0), (11, .int .i64 q), (12, .bool b), (13, .int .i64 n), (14, .int .u64 v), (15, .int .i64 i)], [.cells 0 rs, .cells 0 xs] => aIf (intsB .u8 xs && xs.length == 4 && (decide (22 ≤ rs.length) && (rs.getD 21 .junk).isInt .i64) && v == 0 && i == (rs.getD 21 .junk).toInt && decide (0 ≤ (rs.getD 21 .junk).toInt) && decide (0 ≤ n) && decide (n ≤ 64) && decide ((rs.getD 21 .junk).toInt + n ≤ 32)) (k (.exit 0) [(2, .int .u16 p), (3, .ptr 0 0 0), (4, .ptr 1 0 0), (11, .int .i64 q), (12, .bool b), (13, .int .i64 n), (14, .int .u64 (getN xs ((rs.getD 21 .junk).toInt).toNat (n).toNat)), (15, .int .i64 ((rs.getD 21 .junk).toInt + n)), (52, .bool false)] [.cells 0 rs, .cells 0 xs]) none
  | _, _ => none
noncomputable def C24 : Ctx := (ctx E T24 [(11, L24_11)] [(0, [2, 3, 4]), (1, [2, 3, 4, 8]), (2, [2, 3, 4, 8, 22]), (3, [6, 7]), (4, [2, 3, 4, 9]), (5, [2, 3, 4, 32]), (6, [6, 7]), (7, [2, 3, 4, 11, 12]), (8, [2, 3, 4, 11, 12, 13]), (9, [2, 3, 4, 11, 12, 13, 14]), (10, [2, 3, 4, 11, 12, 13, 14, 15]), (11, [2, 3, 4, 11, 12, 13, 14, 15, 52]), (12, [2, 3, 4, 11, 12, 13, 14, 15]), (13, [2, 3, 4, 11, 12, 13, 14, 15]), (14, [2, 3, 11, 14, 70]), (15, [6, 7]), (16, [11, 14, 16, 17]), (17, [11, 14, 16, 82]), (18, [6, 7]), (19, [6, 7]), (1000011, [2, 3, 4, 11, 12, 13, 14, 15])] [] 90 70)
theorem C24_ok : CtxOK Tryd.prog C24 := ctx_ok E_ok E_flds mixed T24_ok
theorem C24_l0 : C24.loop (loopId (loopB Tryd.f24 0)) = some L24_11 := by kernel_rfl
theorem L24_11_in : LoopsOK C24 (loopB Tryd.f24 0) := LoopsOK.within 0 (by kernel_rfl) (fun j hj S hS => by
  omega)
theorem M24_11a (p q : Int) (b : Bool) (n v i : Int) (rs xs : List AV) (k : KC) : headedK C24 (loopB Tryd.f24 0) [(2, .int .u16 p), (3, .ptr 0 0 0), (4, .ptr 1 0 0), (11, .int .i64 q), (12, .bool b), (13, .int .i64 n), (14, .int .u64 v), (15, .int .i64 i)] [.cells 0 rs, .cells 0 xs] k =
  aIf (decide (22 ≤ rs.length)) (aIf ((rs.getD 21 AV.junk).isInt IntKind.i64) (aIf (decide (i < IntKind.i64.wrap ((rs.getD 21 AV.junk).toInt + n))) (aIf (decide (0 ≤ IntKind.i64.wrap (i.tdiv 8))) (aIf (decide (IntKind.i64.wrap (i.tdiv 8) < 4)) (aIf (decide (0 + (IntKind.i64.wrap (i.tdiv 8)).toNat * 1 + 1 ≤ xs.length)) (aIf ((xs.getD (0 + (IntKind.i64.wrap (i.tdiv 8)).toNat * 1) AV.junk).isInt IntKind.u8) (aIf (decide (IntKind.u64.wrap (IntKind.i64.wrap (7 - i.tmod 8)) < 0)) none (k AExit.normal [(2, AV.int IntKind.u16 p), (3, AV.ptr 0 0 0), (4, AV.ptr 1 0 0), (11, AV.int IntKind.i64 q), (12, AV.bool b), (13, AV.int IntKind.i64 n), (14, AV.int IntKind.u64 (IntKind.u64.wrap (↑(BitVec.ofInt 64 (IntKind.u64.wrap (v * 2)) ||| BitVec.ofInt 64 (IntKind.u64.wrap (IntKind.u8.wrap (↑(BitVec.ofInt 8 ((xs.getD (0 + (IntKind.i64.wrap (i.tdiv 8)).toNat * 1) AV.junk).toInt.fdiv (2 ^ min (IntKind.u64.wrap (IntKind.i64.wrap (7 - i.tmod 8))).toNat 8)) &&& BitVec.ofInt 8 1).toNat : Int)))).toNat : Int))), (15, AV.int IntKind.i64 (IntKind.i64.wrap (i + 1)))] [AO.cells 0 rs, AO.cells 0 xs])) none) none) none) none) (k (AExit.exit 0) [(2, AV.int IntKind.u16 p), (3, AV.ptr 0 0 0), (4, AV.ptr 1 0 0), (11, AV.int IntKind.i64 q), (12, AV.bool b), (13, AV.int IntKind.i64 n), (14, AV.int IntKind.u64 v), (15, AV.int IntKind.i64 i), (52, AV.bool (decide (i < IntKind.i64.wrap ((rs.getD 21 AV.junk).toInt + n))))] [AO.cells 0 rs, AO.cells 0 xs])) none) none := by kernel_rfl
theorem L24_11_ok : LoopSum C24 (loopB Tryd.f24 0) L24_11 := LoopSum.of C24_ok L24_11_in (fun ts H => by
  unfold L24_11
  split
  · rename_i p q b n v i rs xs
    rcases Bool.eq_false_or_eq_true (intsB .u8 xs && xs.length == 4 && (decide (22 ≤ rs.length) && (rs.getD 21 .junk).isInt .i64) && v == 0 && i == (rs.getD 21 .junk).toInt && decide (0 ≤ (rs.getD 21 .junk).toInt) && decide (0 ≤ n) && decide (n ≤ 64) && decide ((rs.getD 21 .junk).toInt + n ≤ 32)) with hp | hp
    · refine .inr ?_
      simp only [aIf_pos hp]
      simp only [Bool.and_eq_true, decide_eq_true_eq, beq_iff_eq] at hp
      obtain ⟨⟨⟨⟨⟨⟨⟨⟨hu, hL⟩, r1, r2⟩, rfl⟩, rfl⟩, n0⟩, e0⟩, e1⟩, ne⟩ := hp
      have ti : ∀ k n, (AV.int k n).toInt = n := fun _ _ => rfl
      generalize hN : (rs.getD 21 .junk).toInt = N at *
      obtain ⟨E, rfl⟩ := Int.eq_ofNat_of_zero_le e0
      obtain ⟨N, rfl⟩ := Int.eq_ofNat_of_zero_le n0
      
      have key : ∀ (j : Nat), j < E → ∀ k, headedK C24 (loopB Tryd.f24 0) [(2, .int .u16 p), (3, .ptr 0 0 0), (4, .ptr 1 0 0), (11, .int .i64 q), (12, .bool b), (13, .int .i64 (E : Int)), (14, .int .u64 (getN xs N j)), (15, .int .i64 ((N + j : Nat) : Int))] [.cells 0 rs, .cells 0 xs] k = k .normal [(2, .int .u16 p), (3, .ptr 0 0 0), (4, .ptr 1 0 0), (11, .int .i64 q), (12, .bool b), (13, .int .i64 (E : Int)), (14, .int .u64 (getN xs N (j + 1))), (15, .int .i64 ((N + (j + 1) : Nat) : Int))] [.cells 0 rs, .cells 0 xs] := by
        intro j hj k
        obtain ⟨x, hx, he⟩ := u8_get hu ((N + j) / 8) (by omega)
        have b1 := bitV_01 xs (N + j)
        have b2 := getN_range xs N j
        have b3 := pow2_le (show j ≤ 63 by omega)
        have b4 : (2 : Int) ^ 63 = 9223372036854775808 := rfl
        have hb : (x : Int) / 2 ^ (7 - (N + j) % 8) % 2 = bitV xs (N + j) := by unfold bitV; rw [he]; rfl
        have e3 : IntKind.u64.wrap (getN xs N j * 2) = 2 * getN xs N j := by rw [Int.mul_comm]; exact u64n (by omega) (by omega)
        have e5 := u64n (x := bitV xs (N + j)) (by omega) (by omega)
        have e6 : IntKind.u64.wrap (2 * getN xs N j + bitV xs (N + j)) = 2 * getN xs N j + bitV xs (N + j) := u64n (by omega) (by omega)
        have hor := or1 (v := getN xs N j) (b := bitV xs (N + j)) b2.1 (by omega) b1.1 b1.2
        rw [M24_11a]
        simp only [r2, decide_eq_true r1, hN, i64a (show N + E < 9223372036854775808 by omega), decide_eq_true (show ((N + j : Nat) : Int) < ((N + E : Nat) : Int) by omega), div8 (show N + j < 9223372036854775808 by omega), sh7 (N + j), u64nn (show 7 - (N + j) % 8 < 18446744073709551616 by omega),
          decide_eq_true (show (((N + j) / 8 : Nat) : Int) < 4 by omega), decide_eq_true (show (N + j) / 8 + 1 ≤ xs.length by omega), show min (7 - (N + j) % 8) 8 = 7 - (N + j) % 8 by omega, he, bit8 hx (show 7 - (N + j) % 8 < 8 by omega), hb, shr_eq, e3, e5, hor, e6, i64s (show N + j + 1 < 9223372036854775808 by omega), Int.toNat_natCast, Nat.zero_add, Nat.mul_one, isInt_self, ti, dnn, dnn', aIf_true, aIf_false]
        rfl
      exact (iter_fold (δ := Unit) (N := E) (ts := fun j _ => [(2, .int .u16 p), (3, .ptr 0 0 0), (4, .ptr 1 0 0), (11, .int .i64 q), (12, .bool b), (13, .int .i64 (E : Int)), (14, .int .u64 (getN xs N j)), (15, .int .i64 ((N + j : Nat) : Int))]) (H := fun _ _ => [.cells 0 rs, .cells 0 xs]) (f := fun _ u => u) (I := fun _ _ => True) (te := fun _ => [(2, .int .u16 p), (3, .ptr 0 0 0), (4, .ptr 1 0 0), (11, .int .i64 q), (12, .bool b), (13, .int .i64 (E : Int)), (14, .int .u64 (getN xs N E)), (15, .int .i64 ((N + E : Nat) : Int)), (52, .bool false)]) (He := fun _ => [.cells 0 rs, .cells 0 xs])
        (fun j d hj _ => ⟨trivial, key j hj⟩) (fun _ _ k => by rw [M24_11a]; simp only [r2, decide_eq_true r1, hN, i64a (show N + E < 9223372036854775808 by omega), dltf, aIf_true, aIf_false]) (by intro h; cases h) E 0 () (by omega) trivial).imp fun m hm k => (hm k).symm
    · exact .inl fun k => by rw [aIf_neg hp]
  · exact .inl fun k => rfl)
theorem C24_loops : ∀ c, Tryd.f24.body = some c → LoopsOK C24 c := LoopsOK.of 1 (by kernel_rfl) (fun j hj S hS => by
  match j, hj with
  | 0, _ => rw [C24_l0] at hS; cases hS; exact L24_11_ok
  | n + 1, hj => omega)
noncomputable def S24 : FSpec := inlineK C24 Tryd.f24
theorem S24_ok : SpecOK Tryd.prog 24 S24 := inlineK_ok C24_ok Tryd.func24 C24_loops
theorem En24 : Enters Tryd.prog 24 := ⟨_, Tryd.func24, by decide, rfl⟩
noncomputable def R24 (args : List AV) : Res := S24 args [] encK
noncomputable def V24 : FSpec := leafK (.tup [.int .u64, .int .i64]) R24
theorem V24_ok : SpecOK Tryd.prog 24 V24 := leafK_ok S24_ok (fun _ => rfl)
theorem N24 (x z : Nat → Int) (n m e o : Int) (f : Bool) (w : Nat → Int) (p : Int)
    {r0 : _} (h0 : r0 = R18 [AV.agg [AV.int IntKind.u8 (x 0), AV.int IntKind.u8 (x 1), AV.int IntKind.u8 (x 2), AV.int IntKind.u8 (x 3), AV.int IntKind.u8 (x 4), AV.int IntKind.u8 (x 5), AV.int IntKind.u8 (x 6), AV.int IntKind.u8 (x 7), AV.int IntKind.u8 (x 8), AV.int IntKind.u8 (x 9), AV.int IntKind.u8 (x 10), AV.int IntKind.u8 (x 11), AV.int IntKind.u8 (x 12), AV.int IntKind.u8 (x 13), AV.int IntKind.u8 (x 14), AV.int IntKind.u8 (x 15), AV.int IntKind.i64 n, AV.int IntKind.u8 (z 0), AV.int IntKind.u8 (z 1), AV.int IntKind.u8 (z 2), AV.int IntKind.u8 (z 3), AV.int IntKind.i64 m, AV.int IntKind.i64 e, AV.int IntKind.i64 o, AV.bool f]])
    {r1 : _} (h1 : r1 = R50 [AV.agg [AV.int IntKind.u8 (z 0), AV.int IntKind.u8 (z 1), AV.int IntKind.u8 (z 2), AV.int IntKind.u8 (z 3), AV.int IntKind.i64 m], AV.agg [AV.int IntKind.u8 (w 0), AV.int IntKind.u8 (w 1), AV.int IntKind.u8 (w 2), AV.int IntKind.u8 (w 3)]])
    {r4 : _} (h4 : r4 = R51 [AV.int IntKind.i64 o, AV.int IntKind.i64 (if 0 > IntKind.i64.wrap (e - IntKind.i64.wrap (32 - m)) then 0 else IntKind.i64.wrap (e - IntKind.i64.wrap (32 - m))), AV.int IntKind.u16 p]) :
  S24 [.agg [.int .u8 (x 0), .int .u8 (x 1), .int .u8 (x 2), .int .u8 (x 3), .int .u8 (x 4), .int .u8 (x 5), .int .u8 (x 6), .int .u8 (x 7), .int .u8 (x 8), .int .u8 (x 9), .int .u8 (x 10), .int .u8 (x 11), .int .u8 (x 12), .int .u8 (x 13), .int .u8 (x 14), .int .u8 (x 15), .int .i64 n, .int .u8 (z 0), .int .u8 (z 1), .int .u8 (z 2), .int .u8 (z 3), .int .i64 m, .int .i64 e, .int .i64 o, .bool f], .agg [.int .u8 (w 0), .int .u8 (w 1), .int .u8 (w 2), .int .u8 (w 3)], .int .u16 p] [] encK =
  aIf (shOK (Sh.int IntKind.i64) r0) (aIf ((sel r0 []).toInt != 0) (some (AEnd.ret (AV.tup [AV.int IntKind.u64 0, AV.int IntKind.i64 (sel r0 []).toInt]), [])) (aIf (shOK (Sh.tup [Sh.bool, Sh.int IntKind.i64]) r1) (aIf (!(sel r1 [0]).toBool) (some (AEnd.ret (AV.tup [AV.int IntKind.u64 0, AV.int IntKind.i64 82]), [])) (aIf (true && (decide (0 ≤ w 0) && decide (w 0 ≤ 255)) && (true && (decide (0 ≤ w 1) && decide (w 1 ≤ 255)) && (true && (decide (0 ≤ w 2) && decide (w 2 ≤ 255)) && (true && (decide (0 ≤ w 3) && decide (w 3 ≤ 255)) && true))) && true && true && true && m == m && decide (0 ≤ m) && decide (0 ≤ if IntKind.i64.wrap (32 - m) < e then IntKind.i64.wrap (32 - m) else e) && decide ((if IntKind.i64.wrap (32 - m) < e then IntKind.i64.wrap (32 - m) else e) ≤ 64) && decide ((m + if IntKind.i64.wrap (32 - m) < e then IntKind.i64.wrap (32 - m) else e) ≤ 32)) (aIf (!decide (IntKind.i64.wrap (e - IntKind.i64.wrap (32 - m)) > 0)) (some (AEnd.ret (AV.tup [AV.int IntKind.u64 (Pl.getN [AV.int IntKind.u8 (w 0), AV.int IntKind.u8 (w 1), AV.int IntKind.u8 (w 2), AV.int IntKind.u8 (w 3)] m.toNat (if IntKind.i64.wrap (32 - m) < e then IntKind.i64.wrap (32 - m) else e).toNat), AV.int IntKind.i64 0]), [])) (aIf (shOK (Sh.tup [Sh.int IntKind.u16, Sh.bool, Sh.int IntKind.i64]) r4) (aIf (!(sel r4 [1]).toBool) (some (AEnd.ret (AV.tup [AV.int IntKind.u64 0, AV.int IntKind.i64 91]), [])) (aIf (decide (IntKind.u64.wrap (if 0 > IntKind.i64.wrap (e - IntKind.i64.wrap (32 - m)) then 0 else IntKind.i64.wrap (e - IntKind.i64.wrap (32 - m))) < 0)) none (some (AEnd.ret (AV.tup [AV.int IntKind.u64 (IntKind.u64.wrap (↑(BitVec.ofInt 64 (IntKind.u64.wrap (Pl.getN [AV.int IntKind.u8 (w 0), AV.int IntKind.u8 (w 1), AV.int IntKind.u8 (w 2), AV.int IntKind.u8 (w 3)] m.toNat (if IntKind.i64.wrap (32 - m) < e then IntKind.i64.wrap (32 - m) else e).toNat * 2 ^ min (IntKind.u64.wrap (if 0 > IntKind.i64.wrap (e - IntKind.i64.wrap (32 - m)) then 0 else IntKind.i64.wrap (e - IntKind.i64.wrap (32 - m)))).toNat 64)) ||| BitVec.ofInt 64 (IntKind.u64.wrap (sel r4 [0]).toInt)).toNat : Int)), AV.int IntKind.i64 0]), [])))) none)) none)) none)) none := by subst h0 h1 h4; kernel_rfl
set_option maxRecDepth 20000 in
set_option maxHeartbeats 1000000 in
theorem R24_is {x z : Nat → Int} {n m e o : Int} {f : Bool} {w : Nat → Int} {p : Int} (hx : b8 x) (hz : b8 z) (hw : b8 w) (hp : 0 ≤ p ∧ p ≤ 65535) : R24 [.agg [.int .u8 (x 0), .int .u8 (x 1), .int .u8 (x 2), .int .u8 (x 3), .int .u8 (x 4), .int .u8 (x 5), .int .u8 (x 6), .int .u8 (x 7), .int .u8 (x 8), .int .u8 (x 9), .int .u8 (x 10), .int .u8 (x 11), .int .u8 (x 12), .int .u8 (x 13), .int .u8 (x 14), .int .u8 (x 15), .int .i64 n, .int .u8 (z 0), .int .u8 (z 1), .int .u8 (z 2), .int .u8 (z 3), .int .i64 m, .int .i64 e, .int .i64 o, .bool f], .agg [.int .u8 (w 0), .int .u8 (w 1), .int .u8 (w 2), .int .u8 (w 3)], .int .u16 p] = some (.ret (.tup [.int .u64 (ofV [.int .u8 (x 0), .int .u8 (x 1), .int .u8 (x 2), .int .u8 (x 3), .int .u8 (x 4), .int .u8 (x 5), .int .u8 (x 6), .int .u8 (x 7), .int .u8 (x 8), .int .u8 (x 9), .int .u8 (x 10), .int .u8 (x 11), .int .u8 (x 12), .int .u8 (x 13), .int .u8 (x 14), .int .u8 (x 15)] [.int .u8 (z 0), .int .u8 (z 1), .int .u8 (z 2), .int .u8 (z 3)] [.int .u8 (w 0), .int .u8 (w 1), .int .u8 (w 2), .int .u8 (w 3)] n m e o p), .int .i64 (ofR [.int .u8 (x 0), .int .u8 (x 1), .int .u8 (x 2), .int .u8 (x 3), .int .u8 (x 4), .int .u8 (x 5), .int .u8 (x 6), .int .u8 (x 7), .int .u8 (x 8), .int .u8 (x 9), .int .u8 (x 10), .int .u8 (x 11), .int .u8 (x 12), .int .u8 (x 13), .int .u8 (x 14), .int .u8 (x 15)] [.int .u8 (z 0), .int .u8 (z 1), .int .u8 (z 2), .int .u8 (z 3)] [.int .u8 (w 0), .int .u8 (w 1), .int .u8 (w 2), .int .u8 (w 3)] n m e o p)]), []) := by
  show S24 _ [] encK = _
  have e0 := R18_is (n := n) (m := m) (e := e) (o := o) (f := f) hx hz
  rcases chkR_or [.int .u8 (x 0), .int .u8 (x 1), .int .u8 (x 2), .int .u8 (x 3), .int .u8 (x 4), .int .u8 (x 5), .int .u8 (x 6), .int .u8 (x 7), .int .u8 (x 8), .int .u8 (x 9), .int .u8 (x 10), .int .u8 (x 11), .int .u8 (x 12), .int .u8 (x 13), .int .u8 (x 14), .int .u8 (x 15)] [.int .u8 (z 0), .int .u8 (z 1), .int .u8 (z 2), .int .u8 (z 3)] n m e o with ⟨hc, ⟨a1, a2, a3⟩, ⟨b1, b2, b3⟩, c1, c2, c3, c4, c5⟩ | hc
  rotate_left
  · rw [N24 x z n m e o f w p e0.symm rfl rfl]
    rcases hc with hc | hc <;> (unfold ofV ofR; rw [hc]; rfl)
  have w1 : IntKind.i64.wrap (32 - m) = 32 - m := i64_of (by omega) (by omega)
  have w2 : IntKind.i64.wrap (e - (32 - m)) = e - (32 - m) := i64_of (by omega) (by omega)
  have w3 : (if e - (32 - m) > 0 then e - (32 - m) else 0) = qR m e := rfl
  have w3' : (if 0 > e - (32 - m) then 0 else e - (32 - m)) = qR m e := by unfold qR; split <;> split <;> omega
  have hqd : decide (e - (32 - m) > 0) = decide (qR m e > 0) := by
    unfold qR
    by_cases hh : e - (32 - m) > 0
    · rw [if_pos hh]
    · rw [if_neg hh, decide_eq_false hh]; rfl
  have hq0 : 0 ≤ qR m e ∧ qR m e ≤ 16 ∧ qR m e ≤ e ∧ e - qR m e ≤ 32 - m := by unfold qR; split <;> omega
  have hps := psetB_q hc hp
  have wu : IntKind.u64.wrap (qR m e) = qR m e := u64_of (by omega) (by omega)
  have w4 : IntKind.i64.wrap (e - qR m e) = e - qR m e := i64_of (by omega) (by omega)
  have hI := R50_is (n := m) hz hw
  have hG : getX [.int .u8 (w 0), .int .u8 (w 1), .int .u8 (w 2), .int .u8 (w 3)] m (e - qR m e) = getN [.int .u8 (w 0), .int .u8 (w 1), .int .u8 (w 2), .int .u8 (w 3)] m.toNat (e - qR m e).toNat := by
    unfold getX
    rw [decide_eq_false (show ¬ e - qR m e > 64 by omega), show thereB ([.int .u8 (w 0), .int .u8 (w 1), .int .u8 (w 2), .int .u8 (w 3)] : List AV).length m (e - qR m e) = true from by simp only [thereB, Bool.and_eq_true, decide_eq_true_eq, List.length_cons, List.length_nil]; omega]
    rfl
  have s1 : shOK (.tup [.bool, .int .i64]) (some (.ret (.tup [.bool (inB 32 [.int .u8 (z 0), .int .u8 (z 1), .int .u8 (z 2), .int .u8 (z 3)] [.int .u8 (w 0), .int .u8 (w 1), .int .u8 (w 2), .int .u8 (w 3)] m), .int .i64 (chkE 32 [.int .u8 (z 0), .int .u8 (z 1), .int .u8 (z 2), .int .u8 (z 3)] m)]), [])) = true := by
    simp only [shOK_ret, has_tup, hasL_cons, hasL_nil, has_bool, has_int, List.getD_cons_zero, List.getD_cons_succ, List.length_cons, List.length_nil, beq_self_eq_true, Bool.and_self, chkE_in]
  have hO : R51 [.int .i64 o, .int .i64 (if 0 > IntKind.i64.wrap (e - IntKind.i64.wrap (32 - m)) then 0 else IntKind.i64.wrap (e - IntKind.i64.wrap (32 - m))), .int .u16 p] = some (.ret (.tup [.int .u16 (ofN o (qR m e) p), .bool (ofB o (qR m e) p), .int .i64 (ofE o (qR m e) 0)]), []) := by
    rw [w1, w2, w3']; exact R51_is hps.1
  have hid : 0 ≤ ofN o (qR m e) p ∧ ofN o (qR m e) p ≤ 65535 := by
    unfold ofN
    cases right o (qR m e) 0 && mine o p
    · exact ⟨by show (0 : Int) ≤ 0; omega, by show (0 : Int) ≤ 65535; omega⟩
    · have := psid_bounds hps.1 hps.2
      exact ⟨this.1, this.2.1⟩
  have s5 : shOK (.tup [.int .u16, .bool, .int .i64]) (some (.ret (.tup [.int .u16 (ofN o (qR m e) p), .bool (ofB o (qR m e) p), .int .i64 (ofE o (qR m e) 0)]), [])) = true := by
    have i1 : inK .u16 (ofN o (qR m e) p) = true := by rw [inK_u16, decide_eq_true hid.1, decide_eq_true hid.2]; rfl
    have i2 : inK .i64 (ofE o (qR m e) 0) = true := by unfold ofE; rw [hps.2]; rfl
    simp only [shOK_ret, has_tup, hasL_cons, hasL_nil, has_bool, has_int, List.getD_cons_zero, List.getD_cons_succ, List.length_cons, List.length_nil, beq_self_eq_true, Bool.and_self, i1, i2]
  have wmin : (if 32 - m < e then 32 - m else e) = e - qR m e := by unfold qR; split <;> split <;> omega
  rw [N24 x z n m e o f w p e0.symm hI.symm hO.symm]
  refine (aIf_pos (by rw [hc]; rfl)).trans ((aIf_neg (by rw [hc]; rfl)).trans ((aIf_pos s1).trans ?_))
  cases hi : inB 32 [.int .u8 (z 0), .int .u8 (z 1), .int .u8 (z 2), .int .u8 (z 3)] [.int .u8 (w 0), .int .u8 (w 1), .int .u8 (w 2), .int .u8 (w 3)] m
  · have hr : ofR [.int .u8 (x 0), .int .u8 (x 1), .int .u8 (x 2), .int .u8 (x 3), .int .u8 (x 4), .int .u8 (x 5), .int .u8 (x 6), .int .u8 (x 7), .int .u8 (x 8), .int .u8 (x 9), .int .u8 (x 10), .int .u8 (x 11), .int .u8 (x 12), .int .u8 (x 13), .int .u8 (x 14), .int .u8 (x 15)] [.int .u8 (z 0), .int .u8 (z 1), .int .u8 (z 2), .int .u8 (z 3)] [.int .u8 (w 0), .int .u8 (w 1), .int .u8 (w 2), .int .u8 (w 3)] n m e o p = 82 := by unfold ofR; rw [hc, hi]; rfl
    have hv : ofV [.int .u8 (x 0), .int .u8 (x 1), .int .u8 (x 2), .int .u8 (x 3), .int .u8 (x 4), .int .u8 (x 5), .int .u8 (x 6), .int .u8 (x 7), .int .u8 (x 8), .int .u8 (x 9), .int .u8 (x 10), .int .u8 (x 11), .int .u8 (x 12), .int .u8 (x 13), .int .u8 (x 14), .int .u8 (x 15)] [.int .u8 (z 0), .int .u8 (z 1), .int .u8 (z 2), .int .u8 (z 3)] [.int .u8 (w 0), .int .u8 (w 1), .int .u8 (w 2), .int .u8 (w 3)] n m e o p = 0 := by unfold ofV; rw [hr]; rfl
    rw [hr, hv]
    rfl
  refine (aIf_neg rfl).trans ?_
  refine (aIf_pos ?_).trans ?_
  · rw [w1, wmin]
    have : (intsB .u8 [.int .u8 (w 0), .int .u8 (w 1), .int .u8 (w 2), .int .u8 (w 3)] && true && true && true && m == m && decide (0 ≤ m) && decide (0 ≤ e - qR m e) && decide (e - qR m e ≤ 64) && decide (m + (e - qR m e) ≤ 32)) = true := by
      rw [b8_4 hw, beq_self_eq_true, decide_eq_true (show 0 ≤ m by omega), decide_eq_true (show 0 ≤ e - qR m e by omega), decide_eq_true (show e - qR m e ≤ 64 by omega), decide_eq_true (show m + (e - qR m e) ≤ 32 by omega)]; rfl
    exact this
  rw [w1, w2, w3', wmin, ← hG]
  have sg : ∀ g : Int, (sel (some (AEnd.ret (AV.tup [AV.int .u64 g, AV.int .i64 0]), [])) [0]).toInt = g := fun _ => rfl
  have sn : (sel (some (AEnd.ret (AV.tup [AV.int .u16 (ofN o (qR m e) p), AV.bool (ofB o (qR m e) p), AV.int .i64 (ofE o (qR m e) 0)]), [])) [0]).toInt = ofN o (qR m e) p := rfl
  by_cases hz0 : qR m e = 0
  · have hr : ofR [.int .u8 (x 0), .int .u8 (x 1), .int .u8 (x 2), .int .u8 (x 3), .int .u8 (x 4), .int .u8 (x 5), .int .u8 (x 6), .int .u8 (x 7), .int .u8 (x 8), .int .u8 (x 9), .int .u8 (x 10), .int .u8 (x 11), .int .u8 (x 12), .int .u8 (x 13), .int .u8 (x 14), .int .u8 (x 15)] [.int .u8 (z 0), .int .u8 (z 1), .int .u8 (z 2), .int .u8 (z 3)] [.int .u8 (w 0), .int .u8 (w 1), .int .u8 (w 2), .int .u8 (w 3)] n m e o p = 0 := by unfold ofR; rw [hc, hi, show (qR m e == 0) = true from by simpa using hz0]; rfl
    have hv : ofV [.int .u8 (x 0), .int .u8 (x 1), .int .u8 (x 2), .int .u8 (x 3), .int .u8 (x 4), .int .u8 (x 5), .int .u8 (x 6), .int .u8 (x 7), .int .u8 (x 8), .int .u8 (x 9), .int .u8 (x 10), .int .u8 (x 11), .int .u8 (x 12), .int .u8 (x 13), .int .u8 (x 14), .int .u8 (x 15)] [.int .u8 (z 0), .int .u8 (z 1), .int .u8 (z 2), .int .u8 (z 3)] [.int .u8 (w 0), .int .u8 (w 1), .int .u8 (w 2), .int .u8 (w 3)] n m e o p = getX [.int .u8 (w 0), .int .u8 (w 1), .int .u8 (w 2), .int .u8 (w 3)] m (e - qR m e) := by
      unfold ofV
      rw [hr, show (qR m e == 0) = true from by simpa using hz0]
      show getX [.int .u8 (w 0), .int .u8 (w 1), .int .u8 (w 2), .int .u8 (w 3)] m (e - qR m e) * 2 ^ (qR m e).toNat + 0 = _
      rw [show (qR m e).toNat = 0 by omega, Int.pow_zero, Int.mul_one, Int.add_zero]
    refine (aIf_pos ?_).trans ?_
    · rw [hqd]; simpa using (show ¬ qR m e > 0 by omega)
    · rw [hr, hv]
  · have hzf : (qR m e == 0) = false := beq_eq_false_iff_ne.2 hz0
    refine (aIf_neg ?_).trans ((aIf_pos s5).trans ?_)
    · rw [hqd]; simpa using (show qR m e > 0 by omega)
    cases hb : ofB o (qR m e) p
    · have hr : ofR [.int .u8 (x 0), .int .u8 (x 1), .int .u8 (x 2), .int .u8 (x 3), .int .u8 (x 4), .int .u8 (x 5), .int .u8 (x 6), .int .u8 (x 7), .int .u8 (x 8), .int .u8 (x 9), .int .u8 (x 10), .int .u8 (x 11), .int .u8 (x 12), .int .u8 (x 13), .int .u8 (x 14), .int .u8 (x 15)] [.int .u8 (z 0), .int .u8 (z 1), .int .u8 (z 2), .int .u8 (z 3)] [.int .u8 (w 0), .int .u8 (w 1), .int .u8 (w 2), .int .u8 (w 3)] n m e o p = 91 := by unfold ofR; rw [hc, hi, hzf, hb]; rfl
      have hv : ofV [.int .u8 (x 0), .int .u8 (x 1), .int .u8 (x 2), .int .u8 (x 3), .int .u8 (x 4), .int .u8 (x 5), .int .u8 (x 6), .int .u8 (x 7), .int .u8 (x 8), .int .u8 (x 9), .int .u8 (x 10), .int .u8 (x 11), .int .u8 (x 12), .int .u8 (x 13), .int .u8 (x 14), .int .u8 (x 15)] [.int .u8 (z 0), .int .u8 (z 1), .int .u8 (z 2), .int .u8 (z 3)] [.int .u8 (w 0), .int .u8 (w 1), .int .u8 (w 2), .int .u8 (w 3)] n m e o p = 0 := by unfold ofV; rw [hr]; rfl
      rw [hr, hv]
      rfl
    · have hr : ofR [.int .u8 (x 0), .int .u8 (x 1), .int .u8 (x 2), .int .u8 (x 3), .int .u8 (x 4), .int .u8 (x 5), .int .u8 (x 6), .int .u8 (x 7), .int .u8 (x 8), .int .u8 (x 9), .int .u8 (x 10), .int .u8 (x 11), .int .u8 (x 12), .int .u8 (x 13), .int .u8 (x 14), .int .u8 (x 15)] [.int .u8 (z 0), .int .u8 (z 1), .int .u8 (z 2), .int .u8 (z 3)] [.int .u8 (w 0), .int .u8 (w 1), .int .u8 (w 2), .int .u8 (w 3)] n m e o p = 0 := by unfold ofR; rw [hc, hi, hzf, hb]; rfl
      have hk := ofV_ok (X := [.int .u8 (x 0), .int .u8 (x 1), .int .u8 (x 2), .int .u8 (x 3), .int .u8 (x 4), .int .u8 (x 5), .int .u8 (x 6), .int .u8 (x 7), .int .u8 (x 8), .int .u8 (x 9), .int .u8 (x 10), .int .u8 (x 11), .int .u8 (x 12), .int .u8 (x 13), .int .u8 (x 14), .int .u8 (x 15)]) (Z := [.int .u8 (z 0), .int .u8 (z 1), .int .u8 (z 2), .int .u8 (z 3)]) (W := [.int .u8 (w 0), .int .u8 (w 1), .int .u8 (w 2), .int .u8 (w 3)]) rfl hp hr
      have hv : ofV [.int .u8 (x 0), .int .u8 (x 1), .int .u8 (x 2), .int .u8 (x 3), .int .u8 (x 4), .int .u8 (x 5), .int .u8 (x 6), .int .u8 (x 7), .int .u8 (x 8), .int .u8 (x 9), .int .u8 (x 10), .int .u8 (x 11), .int .u8 (x 12), .int .u8 (x 13), .int .u8 (x 14), .int .u8 (x 15)] [.int .u8 (z 0), .int .u8 (z 1), .int .u8 (z 2), .int .u8 (z 3)] [.int .u8 (w 0), .int .u8 (w 1), .int .u8 (w 2), .int .u8 (w 3)] n m e o p = getX [.int .u8 (w 0), .int .u8 (w 1), .int .u8 (w 2), .int .u8 (w 3)] m (e - qR m e) * 2 ^ (qR m e).toNat + ofN o (qR m e) p := by
        unfold ofV
        rw [hr, hzf]; rfl
      have hlt : ofN o (qR m e) p < 2 ^ (qR m e).toNat := by
        unfold ofN
        unfold ofB at hb
        rw [hb]
        exact (psid_bounds hps.1 hps.2).2.2
      have h64 := hk.2.2.1
      obtain ⟨_, _, _, _, _, _, _, _, _, _, h64, _⟩ := h64
      refine (aIf_neg rfl).trans ((aIf_neg ?_).trans ?_)
      · rw [wu]; exact decide_eq_false (by omega)
      · rw [hr, hv, wu, show min (qR m e).toNat 64 = (qR m e).toNat by omega]
        try simp only [sg]
        have hor := or_shift (g := getX [.int .u8 (w 0), .int .u8 (w 1), .int .u8 (w 2), .int .u8 (w 3)] m (e - qR m e)) (b := ofN o (qR m e) p) (q := (qR m e).toNat) (getX_range _ _ _).1 hid.1 hlt (by rw [← hv]; exact h64)
        exact congrArg (fun c => some (AEnd.ret (AV.tup [AV.int .u64 c, AV.int .i64 0]), [])) hor

/-- ferryman/mapping.Map -/
noncomputable def T25 : List (FuncId × FSpec) := [(10, V10), (23, V23)]
theorem T25_ok : TabOK Tryd.prog T25 := TabOK.cons En10 V10_ok (TabOK.cons En23 V23_ok (TabOK.nil _))
noncomputable def C25 : Ctx := (ctx E T25 [] [(0, [2, 3, 4, 6]), (1, [3, 6, 8, 9]), (2, [3, 6, 8, 9, 20]), (3, [6, 7]), (4, [6, 10]), (5, [6, 7])] [] 31 70)
theorem C25_ok : CtxOK Tryd.prog C25 := ctx_ok E_ok E_flds mixed T25_ok
noncomputable def S25 : FSpec := inlineK C25 Tryd.f25
theorem S25_ok : SpecOK Tryd.prog 25 S25 := inlineK_ok C25_ok Tryd.func25 (fun _ _ => LoopsOK.none _)
theorem En25 : Enters Tryd.prog 25 := ⟨_, Tryd.func25, by decide, rfl⟩
noncomputable def R25 (args : List AV) : Res := S25 args [] encK
noncomputable def V25 : FSpec := leafK (.tup [.agg [.int .u8, .int .u8, .int .u8, .int .u8, .int .u8, .int .u8, .int .u8, .int .u8, .int .u8, .int .u8, .int .u8, .int .u8, .int .u8, .int .u8, .int .u8, .int .u8], .int .i64]) R25
theorem V25_ok : SpecOK Tryd.prog 25 V25 := leafK_ok S25_ok (fun _ => rfl)
theorem N25 (x z : Nat → Int) (n m e o : Int) (f : Bool) (w : Nat → Int) (p : Int)
    {r0 : _} (h0 : r0 = R23 [AV.agg [AV.int IntKind.u8 (x 0), AV.int IntKind.u8 (x 1), AV.int IntKind.u8 (x 2), AV.int IntKind.u8 (x 3), AV.int IntKind.u8 (x 4), AV.int IntKind.u8 (x 5), AV.int IntKind.u8 (x 6), AV.int IntKind.u8 (x 7), AV.int IntKind.u8 (x 8), AV.int IntKind.u8 (x 9), AV.int IntKind.u8 (x 10), AV.int IntKind.u8 (x 11), AV.int IntKind.u8 (x 12), AV.int IntKind.u8 (x 13), AV.int IntKind.u8 (x 14), AV.int IntKind.u8 (x 15), AV.int IntKind.i64 n, AV.int IntKind.u8 (z 0), AV.int IntKind.u8 (z 1), AV.int IntKind.u8 (z 2), AV.int IntKind.u8 (z 3), AV.int IntKind.i64 m, AV.int IntKind.i64 e, AV.int IntKind.i64 o, AV.bool f], AV.agg [AV.int IntKind.u8 (w 0), AV.int IntKind.u8 (w 1), AV.int IntKind.u8 (w 2), AV.int IntKind.u8 (w 3)], AV.int IntKind.u16 p])
    {r1 : _} (h1 : r1 = R10 [AV.agg [AV.int IntKind.u8 (x 0), AV.int IntKind.u8 (x 1), AV.int IntKind.u8 (x 2), AV.int IntKind.u8 (x 3), AV.int IntKind.u8 (x 4), AV.int IntKind.u8 (x 5), AV.int IntKind.u8 (x 6), AV.int IntKind.u8 (x 7), AV.int IntKind.u8 (x 8), AV.int IntKind.u8 (x 9), AV.int IntKind.u8 (x 10), AV.int IntKind.u8 (x 11), AV.int IntKind.u8 (x 12), AV.int IntKind.u8 (x 13), AV.int IntKind.u8 (x 14), AV.int IntKind.u8 (x 15), AV.int IntKind.i64 n, AV.int IntKind.u8 (z 0), AV.int IntKind.u8 (z 1), AV.int IntKind.u8 (z 2), AV.int IntKind.u8 (z 3), AV.int IntKind.i64 m, AV.int IntKind.i64 e, AV.int IntKind.i64 o, AV.bool f], AV.int IntKind.u64 (sel r0 [0]).toInt]) :
  S25 [.agg [.int .u8 (x 0), .int .u8 (x 1), .int .u8 (x 2), .int .u8 (x 3), .int .u8 (x 4), .int .u8 (x 5), .int .u8 (x 6), .int .u8 (x 7), .int .u8 (x 8), .int .u8 (x 9), .int .u8 (x 10), .int .u8 (x 11), .int .u8 (x 12), .int .u8 (x 13), .int .u8 (x 14), .int .u8 (x 15), .int .i64 n, .int .u8 (z 0), .int .u8 (z 1), .int .u8 (z 2), .int .u8 (z 3), .int .i64 m, .int .i64 e, .int .i64 o, .bool f], .agg [.int .u8 (w 0), .int .u8 (w 1), .int .u8 (w 2), .int .u8 (w 3)], .int .u16 p] [] encK =
  aIf (shOK (Sh.tup [Sh.int IntKind.u64, Sh.int IntKind.i64]) r0) (aIf ((sel r0 [1]).toInt != 0) (some (AEnd.ret (AV.tup [AV.agg [AV.int IntKind.u8 0, AV.int IntKind.u8 0, AV.int IntKind.u8 0, AV.int IntKind.u8 0, AV.int IntKind.u8 0, AV.int IntKind.u8 0, AV.int IntKind.u8 0, AV.int IntKind.u8 0, AV.int IntKind.u8 0, AV.int IntKind.u8 0, AV.int IntKind.u8 0, AV.int IntKind.u8 0, AV.int IntKind.u8 0, AV.int IntKind.u8 0, AV.int IntKind.u8 0, AV.int IntKind.u8 0], AV.int IntKind.i64 (sel r0 [1]).toInt]), [])) (aIf (shOK (Sh.tup [Sh.agg [Sh.int IntKind.u8, Sh.int IntKind.u8, Sh.int IntKind.u8, Sh.int IntKind.u8, Sh.int IntKind.i64, Sh.int IntKind.i64, Sh.int IntKind.i64, Sh.int IntKind.u16, Sh.int IntKind.u8, Sh.int IntKind.u8, Sh.int IntKind.u8, Sh.int IntKind.u8, Sh.int IntKind.u8, Sh.int IntKind.u8, Sh.int IntKind.u8, Sh.int IntKind.u8, Sh.int IntKind.u8, Sh.int IntKind.u8, Sh.int IntKind.u8, Sh.int IntKind.u8, Sh.int IntKind.u8, Sh.int IntKind.u8, Sh.int IntKind.u8, Sh.int IntKind.u8, Sh.int IntKind.i64, Sh.int IntKind.u8, Sh.int IntKind.u8, Sh.int IntKind.u8, Sh.int IntKind.u8, Sh.int IntKind.u8, Sh.int IntKind.u8, Sh.int IntKind.u8, Sh.int IntKind.u8, Sh.int IntKind.u8, Sh.int IntKind.u8, Sh.int IntKind.u8, Sh.int IntKind.u8, Sh.int IntKind.u8, Sh.int IntKind.u8, Sh.int IntKind.u8, Sh.int IntKind.u8], Sh.int IntKind.i64]) r1) (some (AEnd.ret (AV.tup [AV.agg [AV.int IntKind.u8 (sel r1 [0, 25]).toInt, AV.int IntKind.u8 (sel r1 [0, 26]).toInt, AV.int IntKind.u8 (sel r1 [0, 27]).toInt, AV.int IntKind.u8 (sel r1 [0, 28]).toInt, AV.int IntKind.u8 (sel r1 [0, 29]).toInt, AV.int IntKind.u8 (sel r1 [0, 30]).toInt, AV.int IntKind.u8 (sel r1 [0, 31]).toInt, AV.int IntKind.u8 (sel r1 [0, 32]).toInt, AV.int IntKind.u8 (sel r1 [0, 33]).toInt, AV.int IntKind.u8 (sel r1 [0, 34]).toInt, AV.int IntKind.u8 (sel r1 [0, 35]).toInt, AV.int IntKind.u8 (sel r1 [0, 36]).toInt, AV.int IntKind.u8 (sel r1 [0, 37]).toInt, AV.int IntKind.u8 (sel r1 [0, 38]).toInt, AV.int IntKind.u8 (sel r1 [0, 39]).toInt, AV.int IntKind.u8 (sel r1 [0, 40]).toInt], AV.int IntKind.i64 0]), [])) none)) none := by subst h0 h1; kernel_rfl
set_option maxRecDepth 20000 in
set_option maxHeartbeats 1000000 in
theorem R25_is {x z : Nat → Int} {n m e o : Int} {f : Bool} {w : Nat → Int} {p : Int} (hx : b8 x) (hz : b8 z) (hw : b8 w) (ho : inK .i64 o = true) (hp : 0 ≤ p ∧ p ≤ 65535) : R25 [.agg [.int .u8 (x 0), .int .u8 (x 1), .int .u8 (x 2), .int .u8 (x 3), .int .u8 (x 4), .int .u8 (x 5), .int .u8 (x 6), .int .u8 (x 7), .int .u8 (x 8), .int .u8 (x 9), .int .u8 (x 10), .int .u8 (x 11), .int .u8 (x 12), .int .u8 (x 13), .int .u8 (x 14), .int .u8 (x 15), .int .i64 n, .int .u8 (z 0), .int .u8 (z 1), .int .u8 (z 2), .int .u8 (z 3), .int .i64 m, .int .i64 e, .int .i64 o, .bool f], .agg [.int .u8 (w 0), .int .u8 (w 1), .int .u8 (w 2), .int .u8 (w 3)], .int .u16 p] = some (.ret (.tup [.agg [.int .u8 (byteAt (mapW [.int .u8 (x 0), .int .u8 (x 1), .int .u8 (x 2), .int .u8 (x 3), .int .u8 (x 4), .int .u8 (x 5), .int .u8 (x 6), .int .u8 (x 7), .int .u8 (x 8), .int .u8 (x 9), .int .u8 (x 10), .int .u8 (x 11), .int .u8 (x 12), .int .u8 (x 13), .int .u8 (x 14), .int .u8 (x 15)] [.int .u8 (z 0), .int .u8 (z 1), .int .u8 (z 2), .int .u8 (z 3)] [.int .u8 (w 0), .int .u8 (w 1), .int .u8 (w 2), .int .u8 (w 3)] n m e o p) 0), .int .u8 (byteAt (mapW [.int .u8 (x 0), .int .u8 (x 1), .int .u8 (x 2), .int .u8 (x 3), .int .u8 (x 4), .int .u8 (x 5), .int .u8 (x 6), .int .u8 (x 7), .int .u8 (x 8), .int .u8 (x 9), .int .u8 (x 10), .int .u8 (x 11), .int .u8 (x 12), .int .u8 (x 13), .int .u8 (x 14), .int .u8 (x 15)] [.int .u8 (z 0), .int .u8 (z 1), .int .u8 (z 2), .int .u8 (z 3)] [.int .u8 (w 0), .int .u8 (w 1), .int .u8 (w 2), .int .u8 (w 3)] n m e o p) 1), .int .u8 (byteAt (mapW [.int .u8 (x 0), .int .u8 (x 1), .int .u8 (x 2), .int .u8 (x 3), .int .u8 (x 4), .int .u8 (x 5), .int .u8 (x 6), .int .u8 (x 7), .int .u8 (x 8), .int .u8 (x 9), .int .u8 (x 10), .int .u8 (x 11), .int .u8 (x 12), .int .u8 (x 13), .int .u8 (x 14), .int .u8 (x 15)] [.int .u8 (z 0), .int .u8 (z 1), .int .u8 (z 2), .int .u8 (z 3)] [.int .u8 (w 0), .int .u8 (w 1), .int .u8 (w 2), .int .u8 (w 3)] n m e o p) 2), .int .u8 (byteAt (mapW [.int .u8 (x 0), .int .u8 (x 1), .int .u8 (x 2), .int .u8 (x 3), .int .u8 (x 4), .int .u8 (x 5), .int .u8 (x 6), .int .u8 (x 7), .int .u8 (x 8), .int .u8 (x 9), .int .u8 (x 10), .int .u8 (x 11), .int .u8 (x 12), .int .u8 (x 13), .int .u8 (x 14), .int .u8 (x 15)] [.int .u8 (z 0), .int .u8 (z 1), .int .u8 (z 2), .int .u8 (z 3)] [.int .u8 (w 0), .int .u8 (w 1), .int .u8 (w 2), .int .u8 (w 3)] n m e o p) 3), .int .u8 (byteAt (mapW [.int .u8 (x 0), .int .u8 (x 1), .int .u8 (x 2), .int .u8 (x 3), .int .u8 (x 4), .int .u8 (x 5), .int .u8 (x 6), .int .u8 (x 7), .int .u8 (x 8), .int .u8 (x 9), .int .u8 (x 10), .int .u8 (x 11), .int .u8 (x 12), .int .u8 (x 13), .int .u8 (x 14), .int .u8 (x 15)] [.int .u8 (z 0), .int .u8 (z 1), .int .u8 (z 2), .int .u8 (z 3)] [.int .u8 (w 0), .int .u8 (w 1), .int .u8 (w 2), .int .u8 (w 3)] n m e o p) 4), .int .u8 (byteAt (mapW [.int .u8 (x 0), .int .u8 (x 1), .int .u8 (x 2), .int .u8 (x 3), .int .u8 (x 4), .int .u8 (x 5), .int .u8 (x 6), .int .u8 (x 7), .int .u8 (x 8), .int .u8 (x 9), .int .u8 (x 10), .int .u8 (x 11), .int .u8 (x 12), .int .u8 (x 13), .int .u8 (x 14), .int .u8 (x 15)] [.int .u8 (z 0), .int .u8 (z 1), .int .u8 (z 2), .int .u8 (z 3)] [.int .u8 (w 0), .int .u8 (w 1), .int .u8 (w 2), .int .u8 (w 3)] n m e o p) 5), .int .u8 (byteAt (mapW [.int .u8 (x 0), .int .u8 (x 1), .int .u8 (x 2), .int .u8 (x 3), .int .u8 (x 4), .int .u8 (x 5), .int .u8 (x 6), .int .u8 (x 7), .int .u8 (x 8), .int .u8 (x 9), .int .u8 (x 10), .int .u8 (x 11), .int .u8 (x 12), .int .u8 (x 13), .int .u8 (x 14), .int .u8 (x 15)] [.int .u8 (z 0), .int .u8 (z 1), .int .u8 (z 2), .int .u8 (z 3)] [.int .u8 (w 0), .int .u8 (w 1), .int .u8 (w 2), .int .u8 (w 3)] n m e o p) 6), .int .u8 (byteAt (mapW [.int .u8 (x 0), .int .u8 (x 1), .int .u8 (x 2), .int .u8 (x 3), .int .u8 (x 4), .int .u8 (x 5), .int .u8 (x 6), .int .u8 (x 7), .int .u8 (x 8), .int .u8 (x 9), .int .u8 (x 10), .int .u8 (x 11), .int .u8 (x 12), .int .u8 (x 13), .int .u8 (x 14), .int .u8 (x 15)] [.int .u8 (z 0), .int .u8 (z 1), .int .u8 (z 2), .int .u8 (z 3)] [.int .u8 (w 0), .int .u8 (w 1), .int .u8 (w 2), .int .u8 (w 3)] n m e o p) 7), .int .u8 (byteAt (mapW [.int .u8 (x 0), .int .u8 (x 1), .int .u8 (x 2), .int .u8 (x 3), .int .u8 (x 4), .int .u8 (x 5), .int .u8 (x 6), .int .u8 (x 7), .int .u8 (x 8), .int .u8 (x 9), .int .u8 (x 10), .int .u8 (x 11), .int .u8 (x 12), .int .u8 (x 13), .int .u8 (x 14), .int .u8 (x 15)] [.int .u8 (z 0), .int .u8 (z 1), .int .u8 (z 2), .int .u8 (z 3)] [.int .u8 (w 0), .int .u8 (w 1), .int .u8 (w 2), .int .u8 (w 3)] n m e o p) 8), .int .u8 (byteAt (mapW [.int .u8 (x 0), .int .u8 (x 1), .int .u8 (x 2), .int .u8 (x 3), .int .u8 (x 4), .int .u8 (x 5), .int .u8 (x 6), .int .u8 (x 7), .int .u8 (x 8), .int .u8 (x 9), .int .u8 (x 10), .int .u8 (x 11), .int .u8 (x 12), .int .u8 (x 13), .int .u8 (x 14), .int .u8 (x 15)] [.int .u8 (z 0), .int .u8 (z 1), .int .u8 (z 2), .int .u8 (z 3)] [.int .u8 (w 0), .int .u8 (w 1), .int .u8 (w 2), .int .u8 (w 3)] n m e o p) 9), .int .u8 (byteAt (mapW [.int .u8 (x 0), .int .u8 (x 1), .int .u8 (x 2), .int .u8 (x 3), .int .u8 (x 4), .int .u8 (x 5), .int .u8 (x 6), .int .u8 (x 7), .int .u8 (x 8), .int .u8 (x 9), .int .u8 (x 10), .int .u8 (x 11), .int .u8 (x 12), .int .u8 (x 13), .int .u8 (x 14), .int .u8 (x 15)] [.int .u8 (z 0), .int .u8 (z 1), .int .u8 (z 2), .int .u8 (z 3)] [.int .u8 (w 0), .int .u8 (w 1), .int .u8 (w 2), .int .u8 (w 3)] n m e o p) 10), .int .u8 (byteAt (mapW [.int .u8 (x 0), .int .u8 (x 1), .int .u8 (x 2), .int .u8 (x 3), .int .u8 (x 4), .int .u8 (x 5), .int .u8 (x 6), .int .u8 (x 7), .int .u8 (x 8), .int .u8 (x 9), .int .u8 (x 10), .int .u8 (x 11), .int .u8 (x 12), .int .u8 (x 13), .int .u8 (x 14), .int .u8 (x 15)] [.int .u8 (z 0), .int .u8 (z 1), .int .u8 (z 2), .int .u8 (z 3)] [.int .u8 (w 0), .int .u8 (w 1), .int .u8 (w 2), .int .u8 (w 3)] n m e o p) 11), .int .u8 (byteAt (mapW [.int .u8 (x 0), .int .u8 (x 1), .int .u8 (x 2), .int .u8 (x 3), .int .u8 (x 4), .int .u8 (x 5), .int .u8 (x 6), .int .u8 (x 7), .int .u8 (x 8), .int .u8 (x 9), .int .u8 (x 10), .int .u8 (x 11), .int .u8 (x 12), .int .u8 (x 13), .int .u8 (x 14), .int .u8 (x 15)] [.int .u8 (z 0), .int .u8 (z 1), .int .u8 (z 2), .int .u8 (z 3)] [.int .u8 (w 0), .int .u8 (w 1), .int .u8 (w 2), .int .u8 (w 3)] n m e o p) 12), .int .u8 (byteAt (mapW [.int .u8 (x 0), .int .u8 (x 1), .int .u8 (x 2), .int .u8 (x 3), .int .u8 (x 4), .int .u8 (x 5), .int .u8 (x 6), .int .u8 (x 7), .int .u8 (x 8), .int .u8 (x 9), .int .u8 (x 10), .int .u8 (x 11), .int .u8 (x 12), .int .u8 (x 13), .int .u8 (x 14), .int .u8 (x 15)] [.int .u8 (z 0), .int .u8 (z 1), .int .u8 (z 2), .int .u8 (z 3)] [.int .u8 (w 0), .int .u8 (w 1), .int .u8 (w 2), .int .u8 (w 3)] n m e o p) 13), .int .u8 (byteAt (mapW [.int .u8 (x 0), .int .u8 (x 1), .int .u8 (x 2), .int .u8 (x 3), .int .u8 (x 4), .int .u8 (x 5), .int .u8 (x 6), .int .u8 (x 7), .int .u8 (x 8), .int .u8 (x 9), .int .u8 (x 10), .int .u8 (x 11), .int .u8 (x 12), .int .u8 (x 13), .int .u8 (x 14), .int .u8 (x 15)] [.int .u8 (z 0), .int .u8 (z 1), .int .u8 (z 2), .int .u8 (z 3)] [.int .u8 (w 0), .int .u8 (w 1), .int .u8 (w 2), .int .u8 (w 3)] n m e o p) 14), .int .u8 (byteAt (mapW [.int .u8 (x 0), .int .u8 (x 1), .int .u8 (x 2), .int .u8 (x 3), .int .u8 (x 4), .int .u8 (x 5), .int .u8 (x 6), .int .u8 (x 7), .int .u8 (x 8), .int .u8 (x 9), .int .u8 (x 10), .int .u8 (x 11), .int .u8 (x 12), .int .u8 (x 13), .int .u8 (x 14), .int .u8 (x 15)] [.int .u8 (z 0), .int .u8 (z 1), .int .u8 (z 2), .int .u8 (z 3)] [.int .u8 (w 0), .int .u8 (w 1), .int .u8 (w 2), .int .u8 (w 3)] n m e o p) 15)], .int .i64 (ofR [.int .u8 (x 0), .int .u8 (x 1), .int .u8 (x 2), .int .u8 (x 3), .int .u8 (x 4), .int .u8 (x 5), .int .u8 (x 6), .int .u8 (x 7), .int .u8 (x 8), .int .u8 (x 9), .int .u8 (x 10), .int .u8 (x 11), .int .u8 (x 12), .int .u8 (x 13), .int .u8 (x 14), .int .u8 (x 15)] [.int .u8 (z 0), .int .u8 (z 1), .int .u8 (z 2), .int .u8 (z 3)] [.int .u8 (w 0), .int .u8 (w 1), .int .u8 (w 2), .int .u8 (w 3)] n m e o p)]), []) := by
  show S25 _ [] encK = _
  have e0 := R23_is (n := n) (m := m) (e := e) (o := o) (f := f) hx hz hw hp
  have s0 : shOK (.tup [.int .u64, .int .i64]) (some (.ret (.tup [.int .u64 (ofV [.int .u8 (x 0), .int .u8 (x 1), .int .u8 (x 2), .int .u8 (x 3), .int .u8 (x 4), .int .u8 (x 5), .int .u8 (x 6), .int .u8 (x 7), .int .u8 (x 8), .int .u8 (x 9), .int .u8 (x 10), .int .u8 (x 11), .int .u8 (x 12), .int .u8 (x 13), .int .u8 (x 14), .int .u8 (x 15)] [.int .u8 (z 0), .int .u8 (z 1), .int .u8 (z 2), .int .u8 (z 3)] [.int .u8 (w 0), .int .u8 (w 1), .int .u8 (w 2), .int .u8 (w 3)] n m e o p), .int .i64 (ofR [.int .u8 (x 0), .int .u8 (x 1), .int .u8 (x 2), .int .u8 (x 3), .int .u8 (x 4), .int .u8 (x 5), .int .u8 (x 6), .int .u8 (x 7), .int .u8 (x 8), .int .u8 (x 9), .int .u8 (x 10), .int .u8 (x 11), .int .u8 (x 12), .int .u8 (x 13), .int .u8 (x 14), .int .u8 (x 15)] [.int .u8 (z 0), .int .u8 (z 1), .int .u8 (z 2), .int .u8 (z 3)] [.int .u8 (w 0), .int .u8 (w 1), .int .u8 (w 2), .int .u8 (w 3)] n m e o p)]), [])) = true := by
    have h1 : inK .u64 (ofV [.int .u8 (x 0), .int .u8 (x 1), .int .u8 (x 2), .int .u8 (x 3), .int .u8 (x 4), .int .u8 (x 5), .int .u8 (x 6), .int .u8 (x 7), .int .u8 (x 8), .int .u8 (x 9), .int .u8 (x 10), .int .u8 (x 11), .int .u8 (x 12), .int .u8 (x 13), .int .u8 (x 14), .int .u8 (x 15)] [.int .u8 (z 0), .int .u8 (z 1), .int .u8 (z 2), .int .u8 (z 3)] [.int .u8 (w 0), .int .u8 (w 1), .int .u8 (w 2), .int .u8 (w 3)] n m e o p) = true := ofV_in rfl hp
    simp only [shOK_ret, has_tup, hasL_cons, hasL_nil, has_int, h1, ofR_in, List.getD_cons_zero, List.getD_cons_succ, List.length_cons, List.length_nil, beq_self_eq_true, Bool.and_self]
  by_cases hr : ofR [.int .u8 (x 0), .int .u8 (x 1), .int .u8 (x 2), .int .u8 (x 3), .int .u8 (x 4), .int .u8 (x 5), .int .u8 (x 6), .int .u8 (x 7), .int .u8 (x 8), .int .u8 (x 9), .int .u8 (x 10), .int .u8 (x 11), .int .u8 (x 12), .int .u8 (x 13), .int .u8 (x 14), .int .u8 (x 15)] [.int .u8 (z 0), .int .u8 (z 1), .int .u8 (z 2), .int .u8 (z 3)] [.int .u8 (w 0), .int .u8 (w 1), .int .u8 (w 2), .int .u8 (w 3)] n m e o p = 0
  · have hk := ofV_ok (X := [.int .u8 (x 0), .int .u8 (x 1), .int .u8 (x 2), .int .u8 (x 3), .int .u8 (x 4), .int .u8 (x 5), .int .u8 (x 6), .int .u8 (x 7), .int .u8 (x 8), .int .u8 (x 9), .int .u8 (x 10), .int .u8 (x 11), .int .u8 (x 12), .int .u8 (x 13), .int .u8 (x 14), .int .u8 (x 15)]) (Z := [.int .u8 (z 0), .int .u8 (z 1), .int .u8 (z 2), .int .u8 (z 3)]) (W := [.int .u8 (w 0), .int .u8 (w 1), .int .u8 (w 2), .int .u8 (w 3)]) rfl hp hr
    have hk2 := hk.2.2.1
    obtain ⟨_, _, _, _, _, _, _, _, _, h0, h64, _⟩ := hk2
    have hm : (mapW [.int .u8 (x 0), .int .u8 (x 1), .int .u8 (x 2), .int .u8 (x 3), .int .u8 (x 4), .int .u8 (x 5), .int .u8 (x 6), .int .u8 (x 7), .int .u8 (x 8), .int .u8 (x 9), .int .u8 (x 10), .int .u8 (x 11), .int .u8 (x 12), .int .u8 (x 13), .int .u8 (x 14), .int .u8 (x 15)] [.int .u8 (z 0), .int .u8 (z 1), .int .u8 (z 2), .int .u8 (z 3)] [.int .u8 (w 0), .int .u8 (w 1), .int .u8 (w 2), .int .u8 (w 3)] n m e o p) = ownB [.int .u8 (x 0), .int .u8 (x 1), .int .u8 (x 2), .int .u8 (x 3), .int .u8 (x 4), .int .u8 (x 5), .int .u8 (x 6), .int .u8 (x 7), .int .u8 (x 8), .int .u8 (x 9), .int .u8 (x 10), .int .u8 (x 11), .int .u8 (x 12), .int .u8 (x 13), .int .u8 (x 14), .int .u8 (x 15)] [.int .u8 (z 0), .int .u8 (z 1), .int .u8 (z 2), .int .u8 (z 3)] n m e (ofV [.int .u8 (x 0), .int .u8 (x 1), .int .u8 (x 2), .int .u8 (x 3), .int .u8 (x 4), .int .u8 (x 5), .int .u8 (x 6), .int .u8 (x 7), .int .u8 (x 8), .int .u8 (x 9), .int .u8 (x 10), .int .u8 (x 11), .int .u8 (x 12), .int .u8 (x 13), .int .u8 (x 14), .int .u8 (x 15)] [.int .u8 (z 0), .int .u8 (z 1), .int .u8 (z 2), .int .u8 (z 3)] [.int .u8 (w 0), .int .u8 (w 1), .int .u8 (w 2), .int .u8 (w 3)] n m e o p) := by unfold mapW; rw [hr]; simp only [beq_self_eq_true, cond_true]
    have hl := chkR_or [.int .u8 (x 0), .int .u8 (x 1), .int .u8 (x 2), .int .u8 (x 3), .int .u8 (x 4), .int .u8 (x 5), .int .u8 (x 6), .int .u8 (x 7), .int .u8 (x 8), .int .u8 (x 9), .int .u8 (x 10), .int .u8 (x 11), .int .u8 (x 12), .int .u8 (x 13), .int .u8 (x 14), .int .u8 (x 15)] [.int .u8 (z 0), .int .u8 (z 1), .int .u8 (z 2), .int .u8 (z 3)] n m e o
    rw [hm]
    have e1 := R10_is (n := n) (m := m) (e := e) (f := f) hx hz ho h0 h64
    have hW : edgW [.int .u8 (x 0), .int .u8 (x 1), .int .u8 (x 2), .int .u8 (x 3), .int .u8 (x 4), .int .u8 (x 5), .int .u8 (x 6), .int .u8 (x 7), .int .u8 (x 8), .int .u8 (x 9), .int .u8 (x 10), .int .u8 (x 11), .int .u8 (x 12), .int .u8 (x 13), .int .u8 (x 14), .int .u8 (x 15)] [.int .u8 (z 0), .int .u8 (z 1), .int .u8 (z 2), .int .u8 (z 3)] n m e o (ofV [.int .u8 (x 0), .int .u8 (x 1), .int .u8 (x 2), .int .u8 (x 3), .int .u8 (x 4), .int .u8 (x 5), .int .u8 (x 6), .int .u8 (x 7), .int .u8 (x 8), .int .u8 (x 9), .int .u8 (x 10), .int .u8 (x 11), .int .u8 (x 12), .int .u8 (x 13), .int .u8 (x 14), .int .u8 (x 15)] [.int .u8 (z 0), .int .u8 (z 1), .int .u8 (z 2), .int .u8 (z 3)] [.int .u8 (w 0), .int .u8 (w 1), .int .u8 (w 2), .int .u8 (w 3)] n m e o p) = edgV [.int .u8 (x 0), .int .u8 (x 1), .int .u8 (x 2), .int .u8 (x 3), .int .u8 (x 4), .int .u8 (x 5), .int .u8 (x 6), .int .u8 (x 7), .int .u8 (x 8), .int .u8 (x 9), .int .u8 (x 10), .int .u8 (x 11), .int .u8 (x 12), .int .u8 (x 13), .int .u8 (x 14), .int .u8 (x 15)] [.int .u8 (z 0), .int .u8 (z 1), .int .u8 (z 2), .int .u8 (z 3)] n m e o (ofV [.int .u8 (x 0), .int .u8 (x 1), .int .u8 (x 2), .int .u8 (x 3), .int .u8 (x 4), .int .u8 (x 5), .int .u8 (x 6), .int .u8 (x 7), .int .u8 (x 8), .int .u8 (x 9), .int .u8 (x 10), .int .u8 (x 11), .int .u8 (x 12), .int .u8 (x 13), .int .u8 (x 14), .int .u8 (x 15)] [.int .u8 (z 0), .int .u8 (z 1), .int .u8 (z 2), .int .u8 (z 3)] [.int .u8 (w 0), .int .u8 (w 1), .int .u8 (w 2), .int .u8 (w 3)] n m e o p) := by unfold edgW; rw [hk.2.2.2]; simp only [beq_self_eq_true, cond_true]
    rw [hW, hk.2.2.2] at e1
    have s1 : shOK (.tup [edgS, .int .i64]) (some (.ret (.tup [edgV [.int .u8 (x 0), .int .u8 (x 1), .int .u8 (x 2), .int .u8 (x 3), .int .u8 (x 4), .int .u8 (x 5), .int .u8 (x 6), .int .u8 (x 7), .int .u8 (x 8), .int .u8 (x 9), .int .u8 (x 10), .int .u8 (x 11), .int .u8 (x 12), .int .u8 (x 13), .int .u8 (x 14), .int .u8 (x 15)] [.int .u8 (z 0), .int .u8 (z 1), .int .u8 (z 2), .int .u8 (z 3)] n m e o (ofV [.int .u8 (x 0), .int .u8 (x 1), .int .u8 (x 2), .int .u8 (x 3), .int .u8 (x 4), .int .u8 (x 5), .int .u8 (x 6), .int .u8 (x 7), .int .u8 (x 8), .int .u8 (x 9), .int .u8 (x 10), .int .u8 (x 11), .int .u8 (x 12), .int .u8 (x 13), .int .u8 (x 14), .int .u8 (x 15)] [.int .u8 (z 0), .int .u8 (z 1), .int .u8 (z 2), .int .u8 (z 3)] [.int .u8 (w 0), .int .u8 (w 1), .int .u8 (w 2), .int .u8 (w 3)] n m e o p), .int .i64 0]), [])) = true := by
      rw [shOK_ret, has_tup, hasL_cons, hasL_cons, hasL_nil, List.getD_cons_zero, List.getD_cons_succ, List.getD_cons_zero, edgV_has hk.2.2.1, has_int]; rfl
    have hsel : ∀ (cs : List AV) t k, sel (some (AEnd.ret (AV.tup [AV.agg cs, t]), [])) [0, k] = cs.getD k .junk := fun _ _ _ => rfl
    have ti : ∀ k n, (AV.int k n).toInt = n := fun _ _ => rfl
    rw [N25 x z n m e o f w p e0.symm e1.symm]
    refine (aIf_pos s0).trans ((aIf_neg (by rw [hr]; rfl)).trans ((aIf_pos s1).trans ?_))
    rw [hr]
    unfold edgV
    simp only [hsel, List.getD_cons_zero, List.getD_cons_succ, ti]
  · have hm : (mapW [.int .u8 (x 0), .int .u8 (x 1), .int .u8 (x 2), .int .u8 (x 3), .int .u8 (x 4), .int .u8 (x 5), .int .u8 (x 6), .int .u8 (x 7), .int .u8 (x 8), .int .u8 (x 9), .int .u8 (x 10), .int .u8 (x 11), .int .u8 (x 12), .int .u8 (x 13), .int .u8 (x 14), .int .u8 (x 15)] [.int .u8 (z 0), .int .u8 (z 1), .int .u8 (z 2), .int .u8 (z 3)] [.int .u8 (w 0), .int .u8 (w 1), .int .u8 (w 2), .int .u8 (w 3)] n m e o p) = z16 := by unfold mapW; rw [show ((ofR [.int .u8 (x 0), .int .u8 (x 1), .int .u8 (x 2), .int .u8 (x 3), .int .u8 (x 4), .int .u8 (x 5), .int .u8 (x 6), .int .u8 (x 7), .int .u8 (x 8), .int .u8 (x 9), .int .u8 (x 10), .int .u8 (x 11), .int .u8 (x 12), .int .u8 (x 13), .int .u8 (x 14), .int .u8 (x 15)] [.int .u8 (z 0), .int .u8 (z 1), .int .u8 (z 2), .int .u8 (z 3)] [.int .u8 (w 0), .int .u8 (w 1), .int .u8 (w 2), .int .u8 (w 3)] n m e o p) == 0) = false from beq_eq_false_iff_ne.2 hr]; simp only [cond_false]
    rw [N25 x z n m e o f w p e0.symm rfl, hm]
    refine (aIf_pos s0).trans ((aIf_pos (show ((ofR [.int .u8 (x 0), .int .u8 (x 1), .int .u8 (x 2), .int .u8 (x 3), .int .u8 (x 4), .int .u8 (x 5), .int .u8 (x 6), .int .u8 (x 7), .int .u8 (x 8), .int .u8 (x 9), .int .u8 (x 10), .int .u8 (x 11), .int .u8 (x 12), .int .u8 (x 13), .int .u8 (x 14), .int .u8 (x 15)] [.int .u8 (z 0), .int .u8 (z 1), .int .u8 (z 2), .int .u8 (z 3)] [.int .u8 (w 0), .int .u8 (w 1), .int .u8 (w 2), .int .u8 (w 3)] n m e o p) != 0) = true by simpa using hr)).trans ?_)
    rfl

/-- ferryman/ferrymanref10.set6 -/
noncomputable def T59 : List (FuncId × FSpec) := []
theorem T59_ok : TabOK Tryd.prog T59 := TabOK.nil _
noncomputable def L59_2 : ATs → AH → KC → Res := fun ts H k => match ts, H with
  | [(1, .int .i64 a), (2, .int .i64 n), (3, .int .u64 v), (4, .ptr 0 0 0), (8, .ptr 1 0 0), (9, .int .i64 j)], [.cells 0 xs, .cells 0 zs] => aIf (intsB .u8 xs && xs.length == 16 && j == 0 && decide (0 ≤ a) && decide (0 ≤ n) && decide (n ≤ 64) && decide (a + n ≤ 128) && decide (0 ≤ v) && decide (v < 18446744073709551616)) (k (.exit 0) [(1, .int .i64 a), (2, .int .i64 n), (3, .int .u64 v), (4, .ptr 0 0 0), (8, .ptr 1 0 0), (9, .int .i64 n), (13, .bool false)] [.cells 0 [.int .u8 (byteAt (orX v n.toNat a.toNat xs) 0), .int .u8 (byteAt (orX v n.toNat a.toNat xs) 1), .int .u8 (byteAt (orX v n.toNat a.toNat xs) 2), .int .u8 (byteAt (orX v n.toNat a.toNat xs) 3), .int .u8 (byteAt (orX v n.toNat a.toNat xs) 4), .int .u8 (byteAt (orX v n.toNat a.toNat xs) 5), .int .u8 (byteAt (orX v n.toNat a.toNat xs) 6), .int .u8 (byteAt (orX v n.toNat a.toNat xs) 7), .int .u8 (byteAt (orX v n.toNat a.toNat xs) 8), .int .u8 (byteAt (orX v n.toNat a.toNat xs) 9), .int .u8 (byteAt (orX v n.toNat a.toNat xs) 10), .int .u8 (byteAt (orX v n.toNat a.toNat xs) 11), .int .u8 (byteAt (orX v n.toNat a.toNat xs) 12), .int .u8 (byteAt (orX v n.toNat a.toNat xs) 13), .int .u8 (byteAt (orX v n.toNat a.toNat xs) 14), .int .u8 (byteAt (orX v n.toNat a.toNat xs) 15)], .cells 0 zs]) none
  | _, _ => none
noncomputable def C59 : Ctx := (ctx E T59 [(2, L59_2)] [(0, [1, 2, 3, 4, 8]), (1, [1, 2, 3, 4, 8, 9]), (2, [1, 2, 3, 4, 8, 9, 13]), (3, [1, 2, 3, 4, 8, 9]), (4, [1, 2, 3, 4, 8, 9, 24]), (5, [1, 2, 3, 4, 8, 9, 10]), (6, [1, 2, 3, 4, 8, 9]), (7, [8]), (1000002, [1, 2, 3, 4, 8, 9])] [] 42 70)
theorem C59_ok : CtxOK Tryd.prog C59 := ctx_ok E_ok E_flds mixed T59_ok
theorem C59_l0 : C59.loop (loopId (loopB Tryd.f59 0)) = some L59_2 := by kernel_rfl
theorem L59_2_in : LoopsOK C59 (loopB Tryd.f59 0) := LoopsOK.within 0 (by kernel_rfl) (fun j hj S hS => by
  omega)
theorem M59_2a (a n v j : Int) (xs zs : List AV) (k : KC) : headedK C59 (loopB Tryd.f59 0) [(1, .int .i64 a), (2, .int .i64 n), (3, .int .u64 v), (4, .ptr 0 0 0), (8, .ptr 1 0 0), (9, .int .i64 j)] [.cells 0 xs, .cells 0 zs] k =
  aIf (decide (j < n)) (aIf (decide (IntKind.u64.wrap (IntKind.i64.wrap (IntKind.i64.wrap (n - 1) - j)) < 0)) none (aIf (IntKind.u64.wrap (↑(BitVec.ofInt 64 (v.fdiv (2 ^ min (IntKind.u64.wrap (IntKind.i64.wrap (IntKind.i64.wrap (n - 1) - j))).toNat 64)) &&& BitVec.ofInt 64 1).toNat : Int) == 1) (aIf (decide (0 ≤ IntKind.i64.wrap ((IntKind.i64.wrap (a + j)).tdiv 8))) (aIf (decide (IntKind.i64.wrap ((IntKind.i64.wrap (a + j)).tdiv 8) < 16)) (aIf (decide (0 + (IntKind.i64.wrap ((IntKind.i64.wrap (a + j)).tdiv 8)).toNat * 1 + 1 ≤ xs.length)) (aIf ((xs.getD (0 + (IntKind.i64.wrap ((IntKind.i64.wrap (a + j)).tdiv 8)).toNat * 1) AV.junk).isInt IntKind.u8) (aIf (decide (IntKind.u64.wrap (IntKind.i64.wrap (7 - (IntKind.i64.wrap (a + j)).tmod 8)) < 0)) none (aIf (decide (0 ≤ IntKind.i64.wrap ((IntKind.i64.wrap (a + j)).tdiv 8))) (aIf (decide (IntKind.i64.wrap ((IntKind.i64.wrap (a + j)).tdiv 8) < 16)) (aIf (decide (0 + (IntKind.i64.wrap ((IntKind.i64.wrap (a + j)).tdiv 8)).toNat * 1 + 1 ≤ xs.length)) (k AExit.normal [(1, AV.int IntKind.i64 a), (2, AV.int IntKind.i64 n), (3, AV.int IntKind.u64 v), (4, AV.ptr 0 0 0), (8, AV.ptr 1 0 0), (9, AV.int IntKind.i64 (IntKind.i64.wrap (j + 1)))] [AO.cells 0 (xs.set (0 + (IntKind.i64.wrap ((IntKind.i64.wrap (a + j)).tdiv 8)).toNat * 1) (AV.int IntKind.u8 (IntKind.u8.wrap (↑(BitVec.ofInt 8 (xs.getD (0 + (IntKind.i64.wrap ((IntKind.i64.wrap (a + j)).tdiv 8)).toNat * 1) AV.junk).toInt ||| BitVec.ofInt 8 (IntKind.u8.wrap (1 * 2 ^ min (IntKind.u64.wrap (IntKind.i64.wrap (7 - (IntKind.i64.wrap (a + j)).tmod 8))).toNat 8))).toNat : Int)))), AO.cells 0 zs]) none) none) none)) none) none) none) none) (k AExit.normal [(1, AV.int IntKind.i64 a), (2, AV.int IntKind.i64 n), (3, AV.int IntKind.u64 v), (4, AV.ptr 0 0 0), (8, AV.ptr 1 0 0), (9, AV.int IntKind.i64 (IntKind.i64.wrap (j + 1)))] [AO.cells 0 xs, AO.cells 0 zs]))) (k (AExit.exit 0) [(1, AV.int IntKind.i64 a), (2, AV.int IntKind.i64 n), (3, AV.int IntKind.u64 v), (4, AV.ptr 0 0 0), (8, AV.ptr 1 0 0), (9, AV.int IntKind.i64 j), (13, AV.bool (decide (j < n)))] [AO.cells 0 xs, AO.cells 0 zs]) := by kernel_rfl
theorem L59_2_ok : LoopSum C59 (loopB Tryd.f59 0) L59_2 := LoopSum.of C59_ok L59_2_in (fun ts H => by
  unfold L59_2
  split
  · rename_i a n v j xs zs
    rcases Bool.eq_false_or_eq_true (intsB .u8 xs && xs.length == 16 && j == 0 && decide (0 ≤ a) && decide (0 ≤ n) && decide (n ≤ 64) && decide (a + n ≤ 128) && decide (0 ≤ v) && decide (v < 18446744073709551616)) with hp | hp
    · refine .inr ?_
      simp only [aIf_pos hp]
      simp only [Bool.and_eq_true, decide_eq_true_eq, beq_iff_eq] at hp
      obtain ⟨⟨⟨⟨⟨⟨⟨⟨hu, hL⟩, rfl⟩, a0⟩, n0⟩, n1⟩, an⟩, v0⟩, v1⟩ := hp
      obtain ⟨a, rfl⟩ := Int.eq_ofNat_of_zero_le a0
      obtain ⟨n, rfl⟩ := Int.eq_ofNat_of_zero_le n0
      have key : ∀ (j : Nat) (ys : List AV), j < n → (intsB .u8 ys = true ∧ ys.length = 16) → (intsB .u8 (orV v n a j ys) = true ∧ (orV v n a j ys).length = 16) ∧ ∀ k, headedK C59 (loopB Tryd.f59 0) [(1, .int .i64 (a : Int)), (2, .int .i64 (n : Int)), (3, .int .u64 v), (4, .ptr 0 0 0), (8, .ptr 1 0 0), (9, .int .i64 (j : Int))] [.cells 0 ys, .cells 0 zs] k = k .normal [(1, .int .i64 (a : Int)), (2, .int .i64 (n : Int)), (3, .int .u64 v), (4, .ptr 0 0 0), (8, .ptr 1 0 0), (9, .int .i64 ((j + 1 : Nat) : Int))] [.cells 0 (orV v n a j ys), .cells 0 zs] := by
        intro j ys hj hys
        obtain ⟨hu, hL⟩ := hys
        have hor := orV_ok v n a j hu
        refine ⟨⟨hor.1, hor.2.trans hL⟩, fun k => ?_⟩
        obtain ⟨x, hx, he⟩ := u8_get hu ((a + j) / 8) (by omega)
        have h2 : 0 ≤ v / 2 ^ (n - 1 - j) := Int.ediv_nonneg v0 (Int.le_of_lt (Int.pow_pos (by decide)))
        have h3 : v / 2 ^ (n - 1 - j) < 18446744073709551616 := (shr_range v0 v1 (n - 1 - j)).2
        have h4 : IntKind.u64.wrap (v / 2 ^ (n - 1 - j) % 2) = vbit v n j := u64n (by omega) (by omega)
        rw [M59_2a]
        simp only [decide_eq_true (show (j : Int) < n by omega), sh_n1 hj (by omega), u64nn (show n - 1 - j < 18446744073709551616 by omega), show min (n - 1 - j) 64 = n - 1 - j by omega, shr_eq, and1 h2 h3, h4, i64a (show a + j < 9223372036854775808 by omega), div8 (show a + j < 9223372036854775808 by omega), sh7 (a + j), u64nn (show 7 - (a + j) % 8 < 18446744073709551616 by omega),
          decide_eq_true (show (((a + j) / 8 : Nat) : Int) < 16 by omega), decide_eq_true (show (a + j) / 8 + 1 ≤ ys.length by omega), show min (7 - (a + j) % 8) 8 = 7 - (a + j) % 8 by omega, he, or8 hx (show 7 - (a + j) % 8 < 8 by omega), u8pow (show 7 - (a + j) % 8 < 8 by omega), i64s (show j + 1 < 9223372036854775808 by omega), Int.toNat_natCast, Nat.zero_add, Nat.mul_one, Int.one_mul, isInt_self, AV.toInt, dnn, dnn', aIf_true, aIf_false]
        unfold orV
        cases hv : vbit v n j == 1
        · rfl
        · simp only [aIf_true, cond_true, setV, he, AV.toInt]
      have hl : orX v n a xs = foldF (orV v n a) n 0 xs := rfl
      simp only [Int.toNat_natCast]
      rw [hl]
      exact (iter_fold (N := n) (ts := fun j _ => [(1, .int .i64 (a : Int)), (2, .int .i64 (n : Int)), (3, .int .u64 v), (4, .ptr 0 0 0), (8, .ptr 1 0 0), (9, .int .i64 (j : Int))]) (H := fun _ ys => [.cells 0 ys, .cells 0 zs]) (f := orV v n a) (I := fun _ ys => intsB .u8 ys = true ∧ ys.length = 16) (te := fun _ => [(1, .int .i64 (a : Int)), (2, .int .i64 (n : Int)), (3, .int .u64 v), (4, .ptr 0 0 0), (8, .ptr 1 0 0), (9, .int .i64 (n : Int)), (13, .bool false)]) (He := fun ys => [.cells 0 [.int .u8 (byteAt ys 0), .int .u8 (byteAt ys 1), .int .u8 (byteAt ys 2), .int .u8 (byteAt ys 3), .int .u8 (byteAt ys 4), .int .u8 (byteAt ys 5), .int .u8 (byteAt ys 6), .int .u8 (byteAt ys 7), .int .u8 (byteAt ys 8), .int .u8 (byteAt ys 9), .int .u8 (byteAt ys 10), .int .u8 (byteAt ys 11), .int .u8 (byteAt ys 12), .int .u8 (byteAt ys 13), .int .u8 (byteAt ys 14), .int .u8 (byteAt ys 15)], .cells 0 zs])
        key (fun ys hI k => by rw [M59_2a, dltf]; exact congrArg (fun c => k (.exit 0) [(1, .int .i64 (a : Int)), (2, .int .i64 (n : Int)), (3, .int .u64 v), (4, .ptr 0 0 0), (8, .ptr 1 0 0), (9, .int .i64 (n : Int)), (13, .bool false)] [.cells 0 c, .cells 0 zs]) (bytes16 hI.1 hI.2)) (by intro h; cases h) n 0 xs (by omega) ⟨hu, hL⟩).imp fun m hm k => (hm k).symm
    · exact .inl fun k => by rw [aIf_neg hp]
  · exact .inl fun k => rfl)
theorem C59_loops : ∀ c, Tryd.f59.body = some c → LoopsOK C59 c := LoopsOK.of 1 (by kernel_rfl) (fun j hj S hS => by
  match j, hj with
  | 0, _ => rw [C59_l0] at hS; cases hS; exact L59_2_ok
  | n + 1, hj => omega)
noncomputable def S59 : FSpec := inlineK C59 Tryd.f59
theorem S59_ok : SpecOK Tryd.prog 59 S59 := inlineK_ok C59_ok Tryd.func59 C59_loops
theorem En59 : Enters Tryd.prog 59 := ⟨_, Tryd.func59, by decide, rfl⟩
theorem R59_ex : ∃ R : List AV → Res, ∀ args, R args = S59 args [] encK := ⟨_, fun _ => rfl⟩
noncomputable def R59 : List AV → Res := Classical.choose R59_ex
theorem R59_eq (args : List AV) : R59 args = S59 args [] encK := Classical.choose_spec R59_ex args
noncomputable def V59 : FSpec := leafK (.agg [.int .u8, .int .u8, .int .u8, .int .u8, .int .u8, .int .u8, .int .u8, .int .u8, .int .u8, .int .u8, .int .u8, .int .u8, .int .u8, .int .u8, .int .u8, .int .u8]) R59
theorem V59_ok : SpecOK Tryd.prog 59 V59 := leafK_ok S59_ok R59_eq
theorem N59 (x : Nat → Int) (a n v : Int) : S59 [.agg [.int .u8 (x 0), .int .u8 (x 1), .int .u8 (x 2), .int .u8 (x 3), .int .u8 (x 4), .int .u8 (x 5), .int .u8 (x 6), .int .u8 (x 7), .int .u8 (x 8), .int .u8 (x 9), .int .u8 (x 10), .int .u8 (x 11), .int .u8 (x 12), .int .u8 (x 13), .int .u8 (x 14), .int .u8 (x 15)], .int .i64 a, .int .i64 n, .int .u64 v] [] encK =
  aIf (true && (decide (0 ≤ x 0) && decide (x 0 ≤ 255)) && (true && (decide (0 ≤ x 1) && decide (x 1 ≤ 255)) && (true && (decide (0 ≤ x 2) && decide (x 2 ≤ 255)) && (true && (decide (0 ≤ x 3) && decide (x 3 ≤ 255)) && (true && (decide (0 ≤ x 4) && decide (x 4 ≤ 255)) && (true && (decide (0 ≤ x 5) && decide (x 5 ≤ 255)) && (true && (decide (0 ≤ x 6) && decide (x 6 ≤ 255)) && (true && (decide (0 ≤ x 7) && decide (x 7 ≤ 255)) && (true && (decide (0 ≤ x 8) && decide (x 8 ≤ 255)) && (true && (decide (0 ≤ x 9) && decide (x 9 ≤ 255)) && (true && (decide (0 ≤ x 10) && decide (x 10 ≤ 255)) && (true && (decide (0 ≤ x 11) && decide (x 11 ≤ 255)) && (true && (decide (0 ≤ x 12) && decide (x 12 ≤ 255)) && (true && (decide (0 ≤ x 13) && decide (x 13 ≤ 255)) && (true && (decide (0 ≤ x 14) && decide (x 14 ≤ 255)) && (true && (decide (0 ≤ x 15) && decide (x 15 ≤ 255)) && true))))))))))))))) && true && true && decide (0 ≤ a) && decide (0 ≤ n) && decide (n ≤ 64) && decide (a + n ≤ 128) && decide (0 ≤ v) && decide (v < 18446744073709551616)) (some (AEnd.ret (AV.agg [AV.int IntKind.u8 (Pl.byteAt (Pl.orX v n.toNat a.toNat [AV.int IntKind.u8 (x 0), AV.int IntKind.u8 (x 1), AV.int IntKind.u8 (x 2), AV.int IntKind.u8 (x 3), AV.int IntKind.u8 (x 4), AV.int IntKind.u8 (x 5), AV.int IntKind.u8 (x 6), AV.int IntKind.u8 (x 7), AV.int IntKind.u8 (x 8), AV.int IntKind.u8 (x 9), AV.int IntKind.u8 (x 10), AV.int IntKind.u8 (x 11), AV.int IntKind.u8 (x 12), AV.int IntKind.u8 (x 13), AV.int IntKind.u8 (x 14), AV.int IntKind.u8 (x 15)]) 0), AV.int IntKind.u8 (Pl.byteAt (Pl.orX v n.toNat a.toNat [AV.int IntKind.u8 (x 0), AV.int IntKind.u8 (x 1), AV.int IntKind.u8 (x 2), AV.int IntKind.u8 (x 3), AV.int IntKind.u8 (x 4), AV.int IntKind.u8 (x 5), AV.int IntKind.u8 (x 6), AV.int IntKind.u8 (x 7), AV.int IntKind.u8 (x 8), AV.int IntKind.u8 (x 9), AV.int IntKind.u8 (x 10), AV.int IntKind.u8 (x 11), AV.int IntKind.u8 (x 12), AV.int IntKind.u8 (x 13), AV.int IntKind.u8 (x 14), AV.int IntKind.u8 (x 15)]) 1), AV.int IntKind.u8 (Pl.byteAt (Pl.orX v n.toNat a.toNat [AV.int IntKind.u8 (x 0), AV.int IntKind.u8 (x 1), AV.int IntKind.u8 (x 2), AV.int IntKind.u8 (x 3), AV.int IntKind.u8 (x 4), AV.int IntKind.u8 (x 5), AV.int IntKind.u8 (x 6), AV.int IntKind.u8 (x 7), AV.int IntKind.u8 (x 8), AV.int IntKind.u8 (x 9), AV.int IntKind.u8 (x 10), AV.int IntKind.u8 (x 11), AV.int IntKind.u8 (x 12), AV.int IntKind.u8 (x 13), AV.int IntKind.u8 (x 14), AV.int IntKind.u8 (x 15)]) 2), AV.int IntKind.u8 (Pl.byteAt (Pl.orX v n.toNat a.toNat [AV.int IntKind.u8 (x 0), AV.int IntKind.u8 (x 1), AV.int IntKind.u8 (x 2), AV.int IntKind.u8 (x 3), AV.int IntKind.u8 (x 4), AV.int IntKind.u8 (x 5), AV.int IntKind.u8 (x 6), AV.int IntKind.u8 (x 7), AV.int IntKind.u8 (x 8), AV.int IntKind.u8 (x 9), AV.int IntKind.u8 (x 10), AV.int IntKind.u8 (x 11), AV.int IntKind.u8 (x 12), AV.int IntKind.u8 (x 13), AV.int IntKind.u8 (x 14), AV.int IntKind.u8 (x 15)]) 3), AV.int IntKind.u8 (Pl.byteAt (Pl.orX v n.toNat a.toNat [AV.int IntKind.u8 (x 0), AV.int IntKind.u8 (x 1), AV.int IntKind.u8 (x 2), AV.int IntKind.u8 (x 3), AV.int IntKind.u8 (x 4), AV.int IntKind.u8 (x 5), AV.int IntKind.u8 (x 6), AV.int IntKind.u8 (x 7), AV.int IntKind.u8 (x 8), AV.int IntKind.u8 (x 9), AV.int IntKind.u8 (x 10), AV.int IntKind.u8 (x 11), AV.int IntKind.u8 (x 12), AV.int IntKind.u8 (x 13), AV.int IntKind.u8 (x 14), AV.int IntKind.u8 (x 15)]) 4), AV.int IntKind.u8 (Pl.byteAt (Pl.orX v n.toNat a.toNat [AV.int IntKind.u8 (x 0), AV.int IntKind.u8 (x 1), AV.int IntKind.u8 (x 2), AV.int IntKind.u8 (x 3), AV.int IntKind.u8 (x 4), AV.int IntKind.u8 (x 5), AV.int IntKind.u8 (x 6), AV.int IntKind.u8 (x 7), AV.int IntKind.u8 (x 8), AV.int IntKind.u8 (x 9), AV.int IntKind.u8 (x 10), AV.int IntKind.u8 (x 11), AV.int IntKind.u8 (x 12), AV.int IntKind.u8 (x 13), AV.int IntKind.u8 (x 14), AV.int IntKind.u8 (x 15)]) 5), AV.int IntKind.u8 (Pl.byteAt (Pl.orX v n.toNat a.toNat [AV.int IntKind.u8 (x 0), AV.int IntKind.u8 (x 1), AV.int IntKind.u8 (x 2), AV.int IntKind.u8 (x 3), AV.int IntKind.u8 (x 4), AV.int IntKind.u8 (x 5), AV.int IntKind.u8 (x 6), AV.int IntKind.u8 (x 7), AV.int IntKind.u8 (x 8), AV.int IntKind.u8 (x 9), AV.int IntKind.u8 (x 10), AV.int IntKind.u8 (x 11), AV.int IntKind.u8 (x 12), AV.int IntKind.u8 (x 13), AV.int IntKind.u8 (x 14), AV.int IntKind.u8 (x 15)]) 6), AV.int IntKind.u8 (Pl.byteAt (Pl.orX v n.toNat a.toNat [AV.int IntKind.u8 (x 0), AV.int IntKind.u8 (x 1), AV.int IntKind.u8 (x 2), AV.int IntKind.u8 (x 3), AV.int IntKind.u8 (x 4), AV.int IntKind.u8 (x 5), AV.int IntKind.u8 (x 6), AV.int IntKind.u8 (x 7), AV.int IntKind.u8 (x 8), AV.int IntKind.u8 (x 9), AV.int IntKind.u8 (x 10), AV.int IntKind.u8 (x 11), AV.int IntKind.u8 (x 12), AV.int IntKind.u8 (x 13), AV.int IntKind.u8 (x 14), AV.int IntKind.u8 (x 15)]) 7), AV.int IntKind.u8 (Pl.byteAt (Pl.orX v n.toNat a.toNat [AV.int IntKind.u8 (x 0), AV.int IntKind.u8 (x 1), AV.int IntKind.u8 (x 2), AV.int IntKind.u8 (x 3), AV.int IntKind.u8 (x 4), AV.int IntKind.u8 (x 5), AV.int IntKind.u8 (x 6), AV.int IntKind.u8 (x 7), AV.int IntKind.u8 (x 8), AV.int IntKind.u8 (x 9), AV.int IntKind.u8 (x 10), AV.int IntKind.u8 (x 11), AV.int IntKind.u8 (x 12), AV.int IntKind.u8 (x 13), AV.int IntKind.u8 (x 14), AV.int IntKind.u8 (x 15)]) 8), AV.int IntKind.u8 (Pl.byteAt (Pl.orX v n.toNat a.toNat [AV.int IntKind.u8 (x 0), AV.int IntKind.u8 (x 1), AV.int IntKind.u8 (x 2), AV.int IntKind.u8 (x 3), AV.int IntKind.u8 (x 4), AV.int IntKind.u8 (x 5), AV.int IntKind.u8 (x 6), AV.int IntKind.u8 (x 7), AV.int IntKind.u8 (x 8), AV.int IntKind.u8 (x 9), AV.int IntKind.u8 (x 10), AV.int IntKind.u8 (x 11), AV.int IntKind.u8 (x 12), AV.int IntKind.u8 (x 13), AV.int IntKind.u8 (x 14), AV.int IntKind.u8 (x 15)]) 9), AV.int IntKind.u8 (Pl.byteAt (Pl.orX v n.toNat a.toNat [AV.int IntKind.u8 (x 0), AV.int IntKind.u8 (x 1), AV.int IntKind.u8 (x 2), AV.int IntKind.u8 (x 3), AV.int IntKind.u8 (x 4), AV.int IntKind.u8 (x 5), AV.int IntKind.u8 (x 6), AV.int IntKind.u8 (x 7), AV.int IntKind.u8 (x 8), AV.int IntKind.u8 (x 9), AV.int IntKind.u8 (x 10), AV.int IntKind.u8 (x 11), AV.int IntKind.u8 (x 12), AV.int IntKind.u8 (x 13), AV.int IntKind.u8 (x 14), AV.int IntKind.u8 (x 15)]) 10), AV.int IntKind.u8 (Pl.byteAt (Pl.orX v n.toNat a.toNat [AV.int IntKind.u8 (x 0), AV.int IntKind.u8 (x 1), AV.int IntKind.u8 (x 2), AV.int IntKind.u8 (x 3), AV.int IntKind.u8 (x 4), AV.int IntKind.u8 (x 5), AV.int IntKind.u8 (x 6), AV.int IntKind.u8 (x 7), AV.int IntKind.u8 (x 8), AV.int IntKind.u8 (x 9), AV.int IntKind.u8 (x 10), AV.int IntKind.u8 (x 11), AV.int IntKind.u8 (x 12), AV.int IntKind.u8 (x 13), AV.int IntKind.u8 (x 14), AV.int IntKind.u8 (x 15)]) 11), AV.int IntKind.u8 (Pl.byteAt (Pl.orX v n.toNat a.toNat [AV.int IntKind.u8 (x 0), AV.int IntKind.u8 (x 1), AV.int IntKind.u8 (x 2), AV.int IntKind.u8 (x 3), AV.int IntKind.u8 (x 4), AV.int IntKind.u8 (x 5), AV.int IntKind.u8 (x 6), AV.int IntKind.u8 (x 7), AV.int IntKind.u8 (x 8), AV.int IntKind.u8 (x 9), AV.int IntKind.u8 (x 10), AV.int IntKind.u8 (x 11), AV.int IntKind.u8 (x 12), AV.int IntKind.u8 (x 13), AV.int IntKind.u8 (x 14), AV.int IntKind.u8 (x 15)]) 12), AV.int IntKind.u8 (Pl.byteAt (Pl.orX v n.toNat a.toNat [AV.int IntKind.u8 (x 0), AV.int IntKind.u8 (x 1), AV.int IntKind.u8 (x 2), AV.int IntKind.u8 (x 3), AV.int IntKind.u8 (x 4), AV.int IntKind.u8 (x 5), AV.int IntKind.u8 (x 6), AV.int IntKind.u8 (x 7), AV.int IntKind.u8 (x 8), AV.int IntKind.u8 (x 9), AV.int IntKind.u8 (x 10), AV.int IntKind.u8 (x 11), AV.int IntKind.u8 (x 12), AV.int IntKind.u8 (x 13), AV.int IntKind.u8 (x 14), AV.int IntKind.u8 (x 15)]) 13), AV.int IntKind.u8 (Pl.byteAt (Pl.orX v n.toNat a.toNat [AV.int IntKind.u8 (x 0), AV.int IntKind.u8 (x 1), AV.int IntKind.u8 (x 2), AV.int IntKind.u8 (x 3), AV.int IntKind.u8 (x 4), AV.int IntKind.u8 (x 5), AV.int IntKind.u8 (x 6), AV.int IntKind.u8 (x 7), AV.int IntKind.u8 (x 8), AV.int IntKind.u8 (x 9), AV.int IntKind.u8 (x 10), AV.int IntKind.u8 (x 11), AV.int IntKind.u8 (x 12), AV.int IntKind.u8 (x 13), AV.int IntKind.u8 (x 14), AV.int IntKind.u8 (x 15)]) 14), AV.int IntKind.u8 (Pl.byteAt (Pl.orX v n.toNat a.toNat [AV.int IntKind.u8 (x 0), AV.int IntKind.u8 (x 1), AV.int IntKind.u8 (x 2), AV.int IntKind.u8 (x 3), AV.int IntKind.u8 (x 4), AV.int IntKind.u8 (x 5), AV.int IntKind.u8 (x 6), AV.int IntKind.u8 (x 7), AV.int IntKind.u8 (x 8), AV.int IntKind.u8 (x 9), AV.int IntKind.u8 (x 10), AV.int IntKind.u8 (x 11), AV.int IntKind.u8 (x 12), AV.int IntKind.u8 (x 13), AV.int IntKind.u8 (x 14), AV.int IntKind.u8 (x 15)]) 15)]), [])) none := by kernel_rfl
theorem R59_is {x : Nat → Int} {a n v : Int} (hx : b8 x) (a0 : 0 ≤ a) (n0 : 0 ≤ n) (n1 : n ≤ 64) (an : a + n ≤ 128) (v0 : 0 ≤ v) (v1 : v < 18446744073709551616) : R59 [.agg [.int .u8 (x 0), .int .u8 (x 1), .int .u8 (x 2), .int .u8 (x 3), .int .u8 (x 4), .int .u8 (x 5), .int .u8 (x 6), .int .u8 (x 7), .int .u8 (x 8), .int .u8 (x 9), .int .u8 (x 10), .int .u8 (x 11), .int .u8 (x 12), .int .u8 (x 13), .int .u8 (x 14), .int .u8 (x 15)], .int .i64 a, .int .i64 n, .int .u64 v] = some (.ret (.agg [.int .u8 (byteAt (orX v n.toNat a.toNat [.int .u8 (x 0), .int .u8 (x 1), .int .u8 (x 2), .int .u8 (x 3), .int .u8 (x 4), .int .u8 (x 5), .int .u8 (x 6), .int .u8 (x 7), .int .u8 (x 8), .int .u8 (x 9), .int .u8 (x 10), .int .u8 (x 11), .int .u8 (x 12), .int .u8 (x 13), .int .u8 (x 14), .int .u8 (x 15)]) 0), .int .u8 (byteAt (orX v n.toNat a.toNat [.int .u8 (x 0), .int .u8 (x 1), .int .u8 (x 2), .int .u8 (x 3), .int .u8 (x 4), .int .u8 (x 5), .int .u8 (x 6), .int .u8 (x 7), .int .u8 (x 8), .int .u8 (x 9), .int .u8 (x 10), .int .u8 (x 11), .int .u8 (x 12), .int .u8 (x 13), .int .u8 (x 14), .int .u8 (x 15)]) 1), .int .u8 (byteAt (orX v n.toNat a.toNat [.int .u8 (x 0), .int .u8 (x 1), .int .u8 (x 2), .int .u8 (x 3), .int .u8 (x 4), .int .u8 (x 5), .int .u8 (x 6), .int .u8 (x 7), .int .u8 (x 8), .int .u8 (x 9), .int .u8 (x 10), .int .u8 (x 11), .int .u8 (x 12), .int .u8 (x 13), .int .u8 (x 14), .int .u8 (x 15)]) 2), .int .u8 (byteAt (orX v n.toNat a.toNat [.int .u8 (x 0), .int .u8 (x 1), .int .u8 (x 2), .int .u8 (x 3), .int .u8 (x 4), .int .u8 (x 5), .int .u8 (x 6), .int .u8 (x 7), .int .u8 (x 8), .int .u8 (x 9), .int .u8 (x 10), .int .u8 (x 11), .int .u8 (x 12), .int .u8 (x 13), .int .u8 (x 14), .int .u8 (x 15)]) 3), .int .u8 (byteAt (orX v n.toNat a.toNat [.int .u8 (x 0), .int .u8 (x 1), .int .u8 (x 2), .int .u8 (x 3), .int .u8 (x 4), .int .u8 (x 5), .int .u8 (x 6), .int .u8 (x 7), .int .u8 (x 8), .int .u8 (x 9), .int .u8 (x 10), .int .u8 (x 11), .int .u8 (x 12), .int .u8 (x 13), .int .u8 (x 14), .int .u8 (x 15)]) 4), .int .u8 (byteAt (orX v n.toNat a.toNat [.int .u8 (x 0), .int .u8 (x 1), .int .u8 (x 2), .int .u8 (x 3), .int .u8 (x 4), .int .u8 (x 5), .int .u8 (x 6), .int .u8 (x 7), .int .u8 (x 8), .int .u8 (x 9), .int .u8 (x 10), .int .u8 (x 11), .int .u8 (x 12), .int .u8 (x 13), .int .u8 (x 14), .int .u8 (x 15)]) 5), .int .u8 (byteAt (orX v n.toNat a.toNat [.int .u8 (x 0), .int .u8 (x 1), .int .u8 (x 2), .int .u8 (x 3), .int .u8 (x 4), .int .u8 (x 5), .int .u8 (x 6), .int .u8 (x 7), .int .u8 (x 8), .int .u8 (x 9), .int .u8 (x 10), .int .u8 (x 11), .int .u8 (x 12), .int .u8 (x 13), .int .u8 (x 14), .int .u8 (x 15)]) 6), .int .u8 (byteAt (orX v n.toNat a.toNat [.int .u8 (x 0), .int .u8 (x 1), .int .u8 (x 2), .int .u8 (x 3), .int .u8 (x 4), .int .u8 (x 5), .int .u8 (x 6), .int .u8 (x 7), .int .u8 (x 8), .int .u8 (x 9), .int .u8 (x 10), .int .u8 (x 11), .int .u8 (x 12), .int .u8 (x 13), .int .u8 (x 14), .int .u8 (x 15)]) 7), .int .u8 (byteAt (orX v n.toNat a.toNat [.int .u8 (x 0), .int .u8 (x 1), .int .u8 (x 2), .int .u8 (x 3), .int .u8 (x 4), .int .u8 (x 5), .int .u8 (x 6), .int .u8 (x 7), .int .u8 (x 8), .int .u8 (x 9), .int .u8 (x 10), .int .u8 (x 11), .int .u8 (x 12), .int .u8 (x 13), .int .u8 (x 14), .int .u8 (x 15)]) 8), .int .u8 (byteAt (orX v n.toNat a.toNat [.int .u8 (x 0), .int .u8 (x 1), .int .u8 (x 2), .int .u8 (x 3), .int .u8 (x 4), .int .u8 (x 5), .int .u8 (x 6), .int .u8 (x 7), .int .u8 (x 8), .int .u8 (x 9), .int .u8 (x 10), .int .u8 (x 11), .int .u8 (x 12), .int .u8 (x 13), .int .u8 (x 14), .int .u8 (x 15)]) 9), .int .u8 (byteAt (orX v n.toNat a.toNat [.int .u8 (x 0), .int .u8 (x 1), .int .u8 (x 2), .int .u8 (x 3), .int .u8 (x 4), .int .u8 (x 5), .int .u8 (x 6), .int .u8 (x 7), .int .u8 (x 8), .int .u8 (x 9), .int .u8 (x 10), .int .u8 (x 11), .int .u8 (x 12), .int .u8 (x 13), .int .u8 (x 14), .int .u8 (x 15)]) 10), .int .u8 (byteAt (orX v n.toNat a.toNat [.int .u8 (x 0), .int .u8 (x 1), .int .u8 (x 2), .int .u8 (x 3), .int .u8 (x 4), .int .u8 (x 5), .int .u8 (x 6), .int .u8 (x 7), .int .u8 (x 8), .int .u8 (x 9), .int .u8 (x 10), .int .u8 (x 11), .int .u8 (x 12), .int .u8 (x 13), .int .u8 (x 14), .int .u8 (x 15)]) 11), .int .u8 (byteAt (orX v n.toNat a.toNat [.int .u8 (x 0), .int .u8 (x 1), .int .u8 (x 2), .int .u8 (x 3), .int .u8 (x 4), .int .u8 (x 5), .int .u8 (x 6), .int .u8 (x 7), .int .u8 (x 8), .int .u8 (x 9), .int .u8 (x 10), .int .u8 (x 11), .int .u8 (x 12), .int .u8 (x 13), .int .u8 (x 14), .int .u8 (x 15)]) 12), .int .u8 (byteAt (orX v n.toNat a.toNat [.int .u8 (x 0), .int .u8 (x 1), .int .u8 (x 2), .int .u8 (x 3), .int .u8 (x 4), .int .u8 (x 5), .int .u8 (x 6), .int .u8 (x 7), .int .u8 (x 8), .int .u8 (x 9), .int .u8 (x 10), .int .u8 (x 11), .int .u8 (x 12), .int .u8 (x 13), .int .u8 (x 14), .int .u8 (x 15)]) 13), .int .u8 (byteAt (orX v n.toNat a.toNat [.int .u8 (x 0), .int .u8 (x 1), .int .u8 (x 2), .int .u8 (x 3), .int .u8 (x 4), .int .u8 (x 5), .int .u8 (x 6), .int .u8 (x 7), .int .u8 (x 8), .int .u8 (x 9), .int .u8 (x 10), .int .u8 (x 11), .int .u8 (x 12), .int .u8 (x 13), .int .u8 (x 14), .int .u8 (x 15)]) 14), .int .u8 (byteAt (orX v n.toNat a.toNat [.int .u8 (x 0), .int .u8 (x 1), .int .u8 (x 2), .int .u8 (x 3), .int .u8 (x 4), .int .u8 (x 5), .int .u8 (x 6), .int .u8 (x 7), .int .u8 (x 8), .int .u8 (x 9), .int .u8 (x 10), .int .u8 (x 11), .int .u8 (x 12), .int .u8 (x 13), .int .u8 (x 14), .int .u8 (x 15)]) 15)]), []) := by
  refine (R59_eq _).trans ?_
  rw [N59]
  refine aIf_pos ?_
  have : (intsB .u8 [.int .u8 (x 0), .int .u8 (x 1), .int .u8 (x 2), .int .u8 (x 3), .int .u8 (x 4), .int .u8 (x 5), .int .u8 (x 6), .int .u8 (x 7), .int .u8 (x 8), .int .u8 (x 9), .int .u8 (x 10), .int .u8 (x 11), .int .u8 (x 12), .int .u8 (x 13), .int .u8 (x 14), .int .u8 (x 15)] && ([.int .u8 (x 0), .int .u8 (x 1), .int .u8 (x 2), .int .u8 (x 3), .int .u8 (x 4), .int .u8 (x 5), .int .u8 (x 6), .int .u8 (x 7), .int .u8 (x 8), .int .u8 (x 9), .int .u8 (x 10), .int .u8 (x 11), .int .u8 (x 12), .int .u8 (x 13), .int .u8 (x 14), .int .u8 (x 15)] : List AV).length == 16 && (0 : Int) == 0 && decide (0 ≤ a) && decide (0 ≤ n) && decide (n ≤ 64) && decide (a + n ≤ 128) && decide (0 ≤ v) && decide (v < 18446744073709551616)) = true := by rw [b8_16 hx, decide_eq_true a0, decide_eq_true n0, decide_eq_true n1, decide_eq_true an, decide_eq_true v0, decide_eq_true v1]; rfl
  exact this
theorem R59_at {x : Nat → Int} {xs : List AV} {a n v : Int} (e : xs = [.int .u8 (x 0), .int .u8 (x 1), .int .u8 (x 2), .int .u8 (x 3), .int .u8 (x 4), .int .u8 (x 5), .int .u8 (x 6), .int .u8 (x 7), .int .u8 (x 8), .int .u8 (x 9), .int .u8 (x 10), .int .u8 (x 11), .int .u8 (x 12), .int .u8 (x 13), .int .u8 (x 14), .int .u8 (x 15)]) (hx : b8 x) (a0 : 0 ≤ a) (n0 : 0 ≤ n) (n1 : n ≤ 64) (an : a + n ≤ 128) (v0 : 0 ≤ v) (v1 : v < 18446744073709551616) : R59 [.agg xs, .int .i64 a, .int .i64 n, .int .u64 v] = some (.ret (.agg (orX v n.toNat a.toNat xs)), []) := by
  subst e
  rw [R59_is hx a0 n0 n1 an v0 v1]
  have h := orF_bit v n.toNat a.toNat n.toNat 0 [.int .u8 (x 0), .int .u8 (x 1), .int .u8 (x 2), .int .u8 (x 3), .int .u8 (x 4), .int .u8 (x 5), .int .u8 (x 6), .int .u8 (x 7), .int .u8 (x 8), .int .u8 (x 9), .int .u8 (x 10), .int .u8 (x 11), .int .u8 (x 12), .int .u8 (x 13), .int .u8 (x 14), .int .u8 (x 15)] (b8_16 hx) (by show _ ≤ 8 * 16; omega)
  exact congrArg (fun c => some (AEnd.ret (AV.agg c), [])) (bytes16 h.1 h.2.1).symm
theorem R59_by {xs : List AV} {a n v : Int} (hu : intsB .u8 xs = true) (hl : xs.length = 16) (a0 : 0 ≤ a) (n0 : 0 ≤ n) (n1 : n ≤ 64) (an : a + n ≤ 128) (v0 : 0 ≤ v) (v1 : v < 18446744073709551616) : R59 [.agg [.int .u8 (byteAt xs 0), .int .u8 (byteAt xs 1), .int .u8 (byteAt xs 2), .int .u8 (byteAt xs 3), .int .u8 (byteAt xs 4), .int .u8 (byteAt xs 5), .int .u8 (byteAt xs 6), .int .u8 (byteAt xs 7), .int .u8 (byteAt xs 8), .int .u8 (byteAt xs 9), .int .u8 (byteAt xs 10), .int .u8 (byteAt xs 11), .int .u8 (byteAt xs 12), .int .u8 (byteAt xs 13), .int .u8 (byteAt xs 14), .int .u8 (byteAt xs 15)], .int .i64 a, .int .i64 n, .int .u64 v] = some (.ret (.agg (orX v n.toNat a.toNat xs)), []) :=
  Eq.trans (congrArg (fun c => R59 [.agg c, .int .i64 a, .int .i64 n, .int .u64 v]) (bytes16 hu hl).symm) (R59_at (x := byteAt xs) (bytes16 hu hl) (byteAt_b8 hu) a0 n0 n1 an v0 v1)
end Go.Proofs.YtlfhkoajmjfbpaaDoor
