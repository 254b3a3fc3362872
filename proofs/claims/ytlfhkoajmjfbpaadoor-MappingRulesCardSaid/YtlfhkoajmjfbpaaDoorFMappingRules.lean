import Derived.Test.YtlfhkoajmjfbpaaDoorFMappingRulesa
namespace Go.Proofs.YtlfhkoajmjfbpaaDoor
open Go.Abs Go.Pl

/-- ferryman/ferrymanref10.Ports -/
noncomputable def T14 : List (FuncId × FSpec) := [(18, V18), (41, S41)]
theorem T14_ok : TabOK Tryd.prog T14 := TabOK.cons En18 V18_ok (TabOK.cons En41 S41_ok (TabOK.nil _))
noncomputable def C14 : Ctx := (ctx E T14 [] [(0, [1, 2]), (1, [1, 2, 5]), (2, [1, 2, 5, 11]), (3, [2, 3, 4]), (4, [1, 2, 6, 7]), (5, [1, 2, 6, 20]), (6, [2, 3, 4]), (7, [2, 3, 4])] [] 26 70)
theorem C14_ok : CtxOK Tryd.prog C14 := ctx_ok E_ok E_flds mixed T14_ok
noncomputable def S14 : FSpec := inlineK C14 Tryd.f14
theorem S14_ok : SpecOK Tryd.prog 14 S14 := inlineK_ok C14_ok Tryd.func14 (fun _ _ => LoopsOK.none _)
theorem En14 : Enters Tryd.prog 14 := ⟨_, Tryd.func14, by decide, rfl⟩
noncomputable def R14 (args : List AV) : Res := S14 args [] encK
noncomputable def V14 : FSpec := leafK (.tup [.agg [.int .i64, .int .i64, .int .u16], .bool, .int .i64]) R14
theorem V14_ok : SpecOK Tryd.prog 14 V14 := leafK_ok S14_ok (fun _ => rfl)
theorem N14 (x z : Nat → Int) (n m e o : Int) (f : Bool)
    {r0 : _} (h0 : r0 = R18 [AV.agg [AV.int IntKind.u8 (x 0), AV.int IntKind.u8 (x 1), AV.int IntKind.u8 (x 2), AV.int IntKind.u8 (x 3), AV.int IntKind.u8 (x 4), AV.int IntKind.u8 (x 5), AV.int IntKind.u8 (x 6), AV.int IntKind.u8 (x 7), AV.int IntKind.u8 (x 8), AV.int IntKind.u8 (x 9), AV.int IntKind.u8 (x 10), AV.int IntKind.u8 (x 11), AV.int IntKind.u8 (x 12), AV.int IntKind.u8 (x 13), AV.int IntKind.u8 (x 14), AV.int IntKind.u8 (x 15), AV.int IntKind.i64 n, AV.int IntKind.u8 (z 0), AV.int IntKind.u8 (z 1), AV.int IntKind.u8 (z 2), AV.int IntKind.u8 (z 3), AV.int IntKind.i64 m, AV.int IntKind.i64 e, AV.int IntKind.i64 o, AV.bool f]]) :
  S14 [.agg [.int .u8 (x 0), .int .u8 (x 1), .int .u8 (x 2), .int .u8 (x 3), .int .u8 (x 4), .int .u8 (x 5), .int .u8 (x 6), .int .u8 (x 7), .int .u8 (x 8), .int .u8 (x 9), .int .u8 (x 10), .int .u8 (x 11), .int .u8 (x 12), .int .u8 (x 13), .int .u8 (x 14), .int .u8 (x 15), .int .i64 n, .int .u8 (z 0), .int .u8 (z 1), .int .u8 (z 2), .int .u8 (z 3), .int .i64 m, .int .i64 e, .int .i64 o, .bool f]] [] encK =
  aIf (shOK (Sh.int IntKind.i64) r0) (aIf ((sel r0 []).toInt != 0) (some (AEnd.ret (AV.tup [AV.agg [AV.int IntKind.i64 0, AV.int IntKind.i64 0, AV.int IntKind.u16 0], AV.bool false, AV.int IntKind.i64 (sel r0 []).toInt]), [])) (aIf (!decide (IntKind.i64.wrap (e - IntKind.i64.wrap (32 - m)) > 0)) (some (AEnd.ret (AV.tup [AV.agg [AV.int IntKind.i64 0, AV.int IntKind.i64 0, AV.int IntKind.u16 0], AV.bool false, AV.int IntKind.i64 0]), [])) (some (AEnd.ret (AV.tup [AV.agg [AV.int IntKind.i64 o, AV.int IntKind.i64 (if 0 > IntKind.i64.wrap (e - IntKind.i64.wrap (32 - m)) then 0 else IntKind.i64.wrap (e - IntKind.i64.wrap (32 - m))), AV.int IntKind.u16 0], AV.bool true, AV.int IntKind.i64 0]), [])))) none := by subst h0; kernel_rfl
theorem R14_is {x z : Nat → Int} {n m e o : Int} {f : Bool} (hx : b8 x) (hz : b8 z) : R14 [.agg [.int .u8 (x 0), .int .u8 (x 1), .int .u8 (x 2), .int .u8 (x 3), .int .u8 (x 4), .int .u8 (x 5), .int .u8 (x 6), .int .u8 (x 7), .int .u8 (x 8), .int .u8 (x 9), .int .u8 (x 10), .int .u8 (x 11), .int .u8 (x 12), .int .u8 (x 13), .int .u8 (x 14), .int .u8 (x 15), .int .i64 n, .int .u8 (z 0), .int .u8 (z 1), .int .u8 (z 2), .int .u8 (z 3), .int .i64 m, .int .i64 e, .int .i64 o, .bool f]] = some (.ret (portsA (chkR [.int .u8 (x 0), .int .u8 (x 1), .int .u8 (x 2), .int .u8 (x 3), .int .u8 (x 4), .int .u8 (x 5), .int .u8 (x 6), .int .u8 (x 7), .int .u8 (x 8), .int .u8 (x 9), .int .u8 (x 10), .int .u8 (x 11), .int .u8 (x 12), .int .u8 (x 13), .int .u8 (x 14), .int .u8 (x 15)] [.int .u8 (z 0), .int .u8 (z 1), .int .u8 (z 2), .int .u8 (z 3)] n m e o) m e o), []) := by
  show S14 _ [] encK = _
  have e0 := R18_is (n := n) (m := m) (e := e) (o := o) (f := f) hx hz
  rcases chkR_or [.int .u8 (x 0), .int .u8 (x 1), .int .u8 (x 2), .int .u8 (x 3), .int .u8 (x 4), .int .u8 (x 5), .int .u8 (x 6), .int .u8 (x 7), .int .u8 (x 8), .int .u8 (x 9), .int .u8 (x 10), .int .u8 (x 11), .int .u8 (x 12), .int .u8 (x 13), .int .u8 (x 14), .int .u8 (x 15)] [.int .u8 (z 0), .int .u8 (z 1), .int .u8 (z 2), .int .u8 (z 3)] n m e o with ⟨hc, ⟨a1, a2, a3⟩, ⟨b1, b2, b3⟩, c1, c2, c3, c4, c5⟩ | hc
  rotate_left
  · rw [N14 x z n m e o f e0.symm]
    rcases hc with hc | hc <;> (unfold portsA; rw [hc]; rfl)
  have w1 : IntKind.i64.wrap (32 - m) = 32 - m := i64_of (by omega) (by omega)
  have w2 : IntKind.i64.wrap (e - (32 - m)) = e - (32 - m) := i64_of (by omega) (by omega)
  have w3 : (if e - (32 - m) > 0 then e - (32 - m) else 0) = qR m e := rfl
  have w3' : (if 0 > e - (32 - m) then 0 else e - (32 - m)) = qR m e := by unfold qR; split <;> split <;> omega
  have hqd : decide (e - (32 - m) > 0) = decide (qR m e > 0) := by
    unfold qR
    by_cases hh : e - (32 - m) > 0
    · rw [if_pos hh]
    · rw [if_neg hh, decide_eq_false hh]; rfl
  have hq0 : 0 ≤ qR m e ∧ qR m e ≤ 16 ∧ qR m e ≤ e ∧ e - qR m e ≤ 32 - m := by unfold qR; split <;> omega
  rw [N14 x z n m e o f e0.symm]
  refine (aIf_pos (by rw [hc]; rfl)).trans ((aIf_neg (by rw [hc]; rfl)).trans ?_)
  unfold portsA
  rw [hc, w1, w2, w3', hqd]
  cases decide (qR m e > 0) <;> rfl

/-- ferryman/mapping.Count -/
noncomputable def T15 : List (FuncId × FSpec) := [(17, V17)]
theorem T15_ok : TabOK Tryd.prog T15 := TabOK.cons En17 V17_ok (TabOK.nil _)
noncomputable def C15 : Ctx := (ctx E T15 [] [(0, [1]), (1, [1, 4]), (2, [1, 4, 8]), (3, [2, 3]), (4, [2, 3])] [] 13 70)
theorem C15_ok : CtxOK Tryd.prog C15 := ctx_ok E_ok E_flds mixed T15_ok
noncomputable def S15 : FSpec := inlineK C15 Tryd.f15
theorem S15_ok : SpecOK Tryd.prog 15 S15 := inlineK_ok C15_ok Tryd.func15 (fun _ _ => LoopsOK.none _)
theorem En15 : Enters Tryd.prog 15 := ⟨_, Tryd.func15, by decide, rfl⟩
noncomputable def R15 (args : List AV) : Res := S15 args [] encK
noncomputable def V15 : FSpec := leafK (.tup [.int .u64, .int .i64]) R15
theorem V15_ok : SpecOK Tryd.prog 15 V15 := leafK_ok S15_ok (fun _ => rfl)
theorem N15 (x z : Nat → Int) (n m e o : Int) (f : Bool)
    {r0 : _} (h0 : r0 = R17 [AV.agg [AV.int IntKind.u8 (x 0), AV.int IntKind.u8 (x 1), AV.int IntKind.u8 (x 2), AV.int IntKind.u8 (x 3), AV.int IntKind.u8 (x 4), AV.int IntKind.u8 (x 5), AV.int IntKind.u8 (x 6), AV.int IntKind.u8 (x 7), AV.int IntKind.u8 (x 8), AV.int IntKind.u8 (x 9), AV.int IntKind.u8 (x 10), AV.int IntKind.u8 (x 11), AV.int IntKind.u8 (x 12), AV.int IntKind.u8 (x 13), AV.int IntKind.u8 (x 14), AV.int IntKind.u8 (x 15), AV.int IntKind.i64 n, AV.int IntKind.u8 (z 0), AV.int IntKind.u8 (z 1), AV.int IntKind.u8 (z 2), AV.int IntKind.u8 (z 3), AV.int IntKind.i64 m, AV.int IntKind.i64 e, AV.int IntKind.i64 o, AV.bool f]]) :
  S15 [.agg [.int .u8 (x 0), .int .u8 (x 1), .int .u8 (x 2), .int .u8 (x 3), .int .u8 (x 4), .int .u8 (x 5), .int .u8 (x 6), .int .u8 (x 7), .int .u8 (x 8), .int .u8 (x 9), .int .u8 (x 10), .int .u8 (x 11), .int .u8 (x 12), .int .u8 (x 13), .int .u8 (x 14), .int .u8 (x 15), .int .i64 n, .int .u8 (z 0), .int .u8 (z 1), .int .u8 (z 2), .int .u8 (z 3), .int .i64 m, .int .i64 e, .int .i64 o, .bool f]] [] encK =
  aIf (shOK (Sh.int IntKind.i64) r0) (aIf ((sel r0 []).toInt != 0) (some (AEnd.ret (AV.tup [AV.int IntKind.u64 0, AV.int IntKind.i64 (sel r0 []).toInt]), [])) (aIf (decide (e < 0)) none (some (AEnd.ret (AV.tup [AV.int IntKind.u64 (IntKind.u64.wrap (1 * 2 ^ min e.toNat 64)), AV.int IntKind.i64 0]), [])))) none := by subst h0; kernel_rfl
theorem R15_is {x z : Nat → Int} {n m e o : Int} {f : Bool} (hx : b8 x) (hz : b8 z) : R15 [.agg [.int .u8 (x 0), .int .u8 (x 1), .int .u8 (x 2), .int .u8 (x 3), .int .u8 (x 4), .int .u8 (x 5), .int .u8 (x 6), .int .u8 (x 7), .int .u8 (x 8), .int .u8 (x 9), .int .u8 (x 10), .int .u8 (x 11), .int .u8 (x 12), .int .u8 (x 13), .int .u8 (x 14), .int .u8 (x 15), .int .i64 n, .int .u8 (z 0), .int .u8 (z 1), .int .u8 (z 2), .int .u8 (z 3), .int .i64 m, .int .i64 e, .int .i64 o, .bool f]] = some (.ret (cntA (chkR [.int .u8 (x 0), .int .u8 (x 1), .int .u8 (x 2), .int .u8 (x 3), .int .u8 (x 4), .int .u8 (x 5), .int .u8 (x 6), .int .u8 (x 7), .int .u8 (x 8), .int .u8 (x 9), .int .u8 (x 10), .int .u8 (x 11), .int .u8 (x 12), .int .u8 (x 13), .int .u8 (x 14), .int .u8 (x 15)] [.int .u8 (z 0), .int .u8 (z 1), .int .u8 (z 2), .int .u8 (z 3)] n m e o) e), []) := by
  show S15 _ [] encK = _
  have e0 := R17_is (n := n) (m := m) (e := e) (o := o) (f := f) hx hz
  rcases chkR_or [.int .u8 (x 0), .int .u8 (x 1), .int .u8 (x 2), .int .u8 (x 3), .int .u8 (x 4), .int .u8 (x 5), .int .u8 (x 6), .int .u8 (x 7), .int .u8 (x 8), .int .u8 (x 9), .int .u8 (x 10), .int .u8 (x 11), .int .u8 (x 12), .int .u8 (x 13), .int .u8 (x 14), .int .u8 (x 15)] [.int .u8 (z 0), .int .u8 (z 1), .int .u8 (z 2), .int .u8 (z 3)] n m e o with ⟨hc, ⟨a1, a2, a3⟩, ⟨b1, b2, b3⟩, c1, c2, c3, c4, c5⟩ | hc
  rotate_left
  · rw [N15 x z n m e o f e0.symm]
    rcases hc with hc | hc <;> (unfold cntA; rw [hc]; rfl)
  rw [N15 x z n m e o f e0.symm]
  have hu : IntKind.u64.wrap e = e := u64_of (by omega) (by omega)
  have h1 : (0 : Int) < 2 ^ e.toNat := Int.pow_pos (by decide)
  have h2 := pow2_le (show e.toNat ≤ 63 by omega)
  have h3 : (2 : Int) ^ 63 = 9223372036854775808 := rfl
  have hw : IntKind.u64.wrap (1 * 2 ^ min e.toNat 64) = 2 ^ e.toNat := by rw [show min e.toNat 64 = e.toNat by omega, Int.one_mul, u64_of (by omega) (by omega)]
  refine (aIf_pos (by rw [hc]; rfl)).trans ((aIf_neg (by rw [hc]; rfl)).trans ((aIf_neg (by exact decide_eq_false (by omega))).trans ?_))
  unfold cntA
  rw [hc, hw]; rfl

/-- ferryman/ferrymanref10.Count -/
noncomputable def T16 : List (FuncId × FSpec) := [(18, V18)]
theorem T16_ok : TabOK Tryd.prog T16 := TabOK.cons En18 V18_ok (TabOK.nil _)
noncomputable def C16 : Ctx := (ctx E T16 [] [(0, [1]), (1, [1, 4]), (2, [1, 4, 8]), (3, [2, 3]), (4, [2, 3])] [] 14 70)
theorem C16_ok : CtxOK Tryd.prog C16 := ctx_ok E_ok E_flds mixed T16_ok
noncomputable def S16 : FSpec := inlineK C16 Tryd.f16
theorem S16_ok : SpecOK Tryd.prog 16 S16 := inlineK_ok C16_ok Tryd.func16 (fun _ _ => LoopsOK.none _)
theorem En16 : Enters Tryd.prog 16 := ⟨_, Tryd.func16, by decide, rfl⟩
noncomputable def R16 (args : List AV) : Res := S16 args [] encK
noncomputable def V16 : FSpec := leafK (.tup [.int .u64, .int .i64]) R16
theorem V16_ok : SpecOK Tryd.prog 16 V16 := leafK_ok S16_ok (fun _ => rfl)
theorem N16 (x z : Nat → Int) (n m e o : Int) (f : Bool)
    {r0 : _} (h0 : r0 = R18 [AV.agg [AV.int IntKind.u8 (x 0), AV.int IntKind.u8 (x 1), AV.int IntKind.u8 (x 2), AV.int IntKind.u8 (x 3), AV.int IntKind.u8 (x 4), AV.int IntKind.u8 (x 5), AV.int IntKind.u8 (x 6), AV.int IntKind.u8 (x 7), AV.int IntKind.u8 (x 8), AV.int IntKind.u8 (x 9), AV.int IntKind.u8 (x 10), AV.int IntKind.u8 (x 11), AV.int IntKind.u8 (x 12), AV.int IntKind.u8 (x 13), AV.int IntKind.u8 (x 14), AV.int IntKind.u8 (x 15), AV.int IntKind.i64 n, AV.int IntKind.u8 (z 0), AV.int IntKind.u8 (z 1), AV.int IntKind.u8 (z 2), AV.int IntKind.u8 (z 3), AV.int IntKind.i64 m, AV.int IntKind.i64 e, AV.int IntKind.i64 o, AV.bool f]]) :
  S16 [.agg [.int .u8 (x 0), .int .u8 (x 1), .int .u8 (x 2), .int .u8 (x 3), .int .u8 (x 4), .int .u8 (x 5), .int .u8 (x 6), .int .u8 (x 7), .int .u8 (x 8), .int .u8 (x 9), .int .u8 (x 10), .int .u8 (x 11), .int .u8 (x 12), .int .u8 (x 13), .int .u8 (x 14), .int .u8 (x 15), .int .i64 n, .int .u8 (z 0), .int .u8 (z 1), .int .u8 (z 2), .int .u8 (z 3), .int .i64 m, .int .i64 e, .int .i64 o, .bool f]] [] encK =
  aIf (shOK (Sh.int IntKind.i64) r0) (aIf ((sel r0 []).toInt != 0) (some (AEnd.ret (AV.tup [AV.int IntKind.u64 0, AV.int IntKind.i64 (sel r0 []).toInt]), [])) (aIf (decide (IntKind.u64.wrap e < 0)) none (some (AEnd.ret (AV.tup [AV.int IntKind.u64 (IntKind.u64.wrap (1 * 2 ^ min (IntKind.u64.wrap e).toNat 64)), AV.int IntKind.i64 0]), [])))) none := by subst h0; kernel_rfl
theorem R16_is {x z : Nat → Int} {n m e o : Int} {f : Bool} (hx : b8 x) (hz : b8 z) : R16 [.agg [.int .u8 (x 0), .int .u8 (x 1), .int .u8 (x 2), .int .u8 (x 3), .int .u8 (x 4), .int .u8 (x 5), .int .u8 (x 6), .int .u8 (x 7), .int .u8 (x 8), .int .u8 (x 9), .int .u8 (x 10), .int .u8 (x 11), .int .u8 (x 12), .int .u8 (x 13), .int .u8 (x 14), .int .u8 (x 15), .int .i64 n, .int .u8 (z 0), .int .u8 (z 1), .int .u8 (z 2), .int .u8 (z 3), .int .i64 m, .int .i64 e, .int .i64 o, .bool f]] = some (.ret (cntA (chkR [.int .u8 (x 0), .int .u8 (x 1), .int .u8 (x 2), .int .u8 (x 3), .int .u8 (x 4), .int .u8 (x 5), .int .u8 (x 6), .int .u8 (x 7), .int .u8 (x 8), .int .u8 (x 9), .int .u8 (x 10), .int .u8 (x 11), .int .u8 (x 12), .int .u8 (x 13), .int .u8 (x 14), .int .u8 (x 15)] [.int .u8 (z 0), .int .u8 (z 1), .int .u8 (z 2), .int .u8 (z 3)] n m e o) e), []) := by
  show S16 _ [] encK = _
  have e0 := R18_is (n := n) (m := m) (e := e) (o := o) (f := f) hx hz
  rcases chkR_or [.int .u8 (x 0), .int .u8 (x 1), .int .u8 (x 2), .int .u8 (x 3), .int .u8 (x 4), .int .u8 (x 5), .int .u8 (x 6), .int .u8 (x 7), .int .u8 (x 8), .int .u8 (x 9), .int .u8 (x 10), .int .u8 (x 11), .int .u8 (x 12), .int .u8 (x 13), .int .u8 (x 14), .int .u8 (x 15)] [.int .u8 (z 0), .int .u8 (z 1), .int .u8 (z 2), .int .u8 (z 3)] n m e o with ⟨hc, ⟨a1, a2, a3⟩, ⟨b1, b2, b3⟩, c1, c2, c3, c4, c5⟩ | hc
  rotate_left
  · rw [N16 x z n m e o f e0.symm]
    rcases hc with hc | hc <;> (unfold cntA; rw [hc]; rfl)
  rw [N16 x z n m e o f e0.symm]
  have hu : IntKind.u64.wrap e = e := u64_of (by omega) (by omega)
  have h1 : (0 : Int) < 2 ^ e.toNat := Int.pow_pos (by decide)
  have h2 := pow2_le (show e.toNat ≤ 63 by omega)
  have h3 : (2 : Int) ^ 63 = 9223372036854775808 := rfl
  have hw : IntKind.u64.wrap (1 * 2 ^ min e.toNat 64) = 2 ^ e.toNat := by rw [show min e.toNat 64 = e.toNat by omega, Int.one_mul, u64_of (by omega) (by omega)]
  refine (aIf_pos (by rw [hc]; rfl)).trans ((aIf_neg (by rw [hc]; rfl)).trans ((aIf_neg (by rw [hu]; exact decide_eq_false (by omega))).trans ?_))
  unfold cntA
  rw [hc, hu, hw]; rfl

/-- ferryman/ferrymanlaw10.MappingRules -/
noncomputable def T4 : List (FuncId × FSpec) := [(12, S12), (13, V13), (14, V14), (15, V15), (16, V16), (17, V17), (18, V18)]
theorem T4_ok : TabOK Tryd.prog T4 := TabOK.cons En12 S12_ok (TabOK.cons En13 V13_ok (TabOK.cons En14 V14_ok (TabOK.cons En15 V15_ok (TabOK.cons En16 V16_ok (TabOK.cons En17 V17_ok (TabOK.cons En18 V18_ok (TabOK.nil _)))))))
noncomputable def C4 : Ctx := (ctx E T4 [] [(0, [1]), (1, [1, 3, 4, 5]), (2, [1, 3, 4, 5, 6, 7, 8]), (3, [1, 3, 4, 5, 6, 7, 8, 9, 10]), (4, [1, 3, 4, 5, 6, 7, 8, 9, 10, 11, 12]), (5, [2])] [] 68 70)
theorem C4_ok : CtxOK Tryd.prog C4 := ctx_ok E_ok E_flds mixed T4_ok
noncomputable def S4 : FSpec := inlineK C4 Tryd.f4
theorem S4_ok : SpecOK Tryd.prog 4 S4 := inlineK_ok C4_ok Tryd.func4 (fun _ _ => LoopsOK.none _)
theorem En4 : Enters Tryd.prog 4 := ⟨_, Tryd.func4, by decide, rfl⟩
end Go.Proofs.YtlfhkoajmjfbpaaDoor
