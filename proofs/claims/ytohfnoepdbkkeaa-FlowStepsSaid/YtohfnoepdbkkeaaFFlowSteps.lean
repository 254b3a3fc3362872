import Derived.Test.YtohfnoepdbkkeaaA20
import Derived.Test.YtohfnoepdbkkeaaRows
namespace Go.Proofs.Ytohfnoepdbkkeaa
open Go.Abs

noncomputable def E : Env := envOf Try.prog
theorem E_ok : EnvOK Try.prog E := envOf_ok _
theorem E_flds : FieldsOK E := fieldsB_ok (by kernel_rfl)
theorem mixed : Try.prog.follows .mixedOrders = true := by kernel_rfl
/-- ferryman/flow.has -/
noncomputable def T44 : List (FuncId × FSpec) := []
theorem T44_ok : TabOK Try.prog T44 := TabOK.nil _
noncomputable def C44 : Ctx := (ctx E T44 [] [(0, [0, 1]), (1, [4])] [] 9 70)
theorem C44_ok : CtxOK Try.prog C44 := ctx_ok E_ok E_flds mixed T44_ok
noncomputable def S44 : FSpec := inlineK C44 Try.f44
theorem S44_ok : SpecOK Try.prog 44 S44 := inlineK_ok C44_ok Try.func44 (fun _ _ => LoopsOK.none _)
theorem En44 : Enters Try.prog 44 := ⟨_, Try.func44, by decide, rfl⟩

/-- ferryman/flow.opens -/
noncomputable def T45 : List (FuncId × FSpec) := [(44, S44)]
theorem T45_ok : TabOK Try.prog T45 := TabOK.cons En44 S44_ok (TabOK.nil _)
noncomputable def C45 : Ctx := (ctx E T45 [] [(0, [0]), (1, [2])] [] 10 70)
theorem C45_ok : CtxOK Try.prog C45 := ctx_ok E_ok E_flds mixed T45_ok
noncomputable def S45 : FSpec := inlineK C45 Try.f45
theorem S45_ok : SpecOK Try.prog 45 S45 := inlineK_ok C45_ok Try.func45 (fun _ _ => LoopsOK.none _)
theorem En45 : Enters Try.prog 45 := ⟨_, Try.func45, by decide, rfl⟩

/-- ferryman/flow.Step -/
noncomputable def T26 : List (FuncId × FSpec) := [(44, S44), (45, S45)]
theorem T26_ok : TabOK Try.prog T26 := TabOK.cons En44 S44_ok (TabOK.cons En45 S45_ok (TabOK.nil _))
noncomputable def C26 : Ctx := (ctx E T26 [] [(0, [0, 1, 2]), (1, [0, 1, 2, 8, 9]), (2, [0, 1, 2, 8, 9, 14]), (3, [0, 1, 2, 8, 9, 14, 15]), (4, [0, 1, 2, 8, 9, 14, 17]), (5, [0, 1, 2, 8, 9, 14, 19]), (6, [0, 1, 8, 9, 14, 21]), (7, [0, 1, 8, 9, 14, 23]), (8, [0, 1, 8, 9, 14, 25]), (9, [0, 9, 27]), (10, [6, 7]), (11, [0, 2, 35]), (12, [6, 7]), (13, [6, 7]), (14, [0, 1, 8, 39]), (15, [6, 7]), (16, [0, 8, 41]), (17, [6, 7]), (18, [0, 46]), (19, [6, 7]), (20, [6, 7]), (21, [0, 1, 8, 49]), (22, [6, 7]), (23, [0, 51]), (24, [6, 7]), (25, [6, 7]), (26, [0, 61]), (27, [6, 7]), (28, [6, 7])] [] 63 70)
theorem C26_ok : CtxOK Try.prog C26 := ctx_ok E_ok E_flds mixed T26_ok
noncomputable def S26 : FSpec := inlineK C26 Try.f26
theorem S26_ok : SpecOK Try.prog 26 S26 := inlineK_ok C26_ok Try.func26 (fun _ _ => LoopsOK.none _)
theorem En26 : Enters Try.prog 26 := ⟨_, Try.func26, by decide, rfl⟩
noncomputable def R26 (args : List AV) : Res := S26 args [] encK
noncomputable def V26 : FSpec := leafK (.tup [.int .i64, .bool]) R26
theorem V26_ok : SpecOK Try.prog 26 V26 := leafK_ok S26_ok (fun _ => rfl)

/-- ferryman/ferrymanref19.has -/
noncomputable def T48 : List (FuncId × FSpec) := []
theorem T48_ok : TabOK Try.prog T48 := TabOK.nil _
noncomputable def C48 : Ctx := (ctx E T48 [] [(0, [0, 1]), (1, [4])] [] 9 70)
theorem C48_ok : CtxOK Try.prog C48 := ctx_ok E_ok E_flds mixed T48_ok
noncomputable def S48 : FSpec := inlineK C48 Try.f48
theorem S48_ok : SpecOK Try.prog 48 S48 := inlineK_ok C48_ok Try.func48 (fun _ _ => LoopsOK.none _)
theorem En48 : Enters Try.prog 48 := ⟨_, Try.func48, by decide, rfl⟩

/-- ferryman/ferrymanref19.open -/
noncomputable def T46 : List (FuncId × FSpec) := [(48, S48)]
theorem T46_ok : TabOK Try.prog T46 := TabOK.cons En48 S48_ok (TabOK.nil _)
noncomputable def C46 : Ctx := (ctx E T46 [] [(0, [0]), (1, [2])] [] 10 70)
theorem C46_ok : CtxOK Try.prog C46 := ctx_ok E_ok E_flds mixed T46_ok
noncomputable def S46 : FSpec := inlineK C46 Try.f46
theorem S46_ok : SpecOK Try.prog 46 S46 := inlineK_ok C46_ok Try.func46 (fun _ _ => LoopsOK.none _)
theorem En46 : Enters Try.prog 46 := ⟨_, Try.func46, by decide, rfl⟩

/-- ferryman/ferrymanref19.going -/
noncomputable def T47 : List (FuncId × FSpec) := [(48, S48)]
theorem T47_ok : TabOK Try.prog T47 := TabOK.cons En48 S48_ok (TabOK.nil _)
noncomputable def C47 : Ctx := (ctx E T47 [] [(0, [0, 1, 2]), (1, [0, 1, 2, 8]), (2, [6]), (3, [0, 1, 11]), (4, [6]), (5, [0, 1, 13]), (6, [0, 1, 13, 14]), (7, [16]), (8, [6]), (9, [6]), (10, [0, 1, 13, 17]), (11, [0, 20]), (12, [6]), (13, [0, 1, 21]), (14, [0, 23]), (15, [6]), (16, [6])] [] 25 70)
theorem C47_ok : CtxOK Try.prog C47 := ctx_ok E_ok E_flds mixed T47_ok
noncomputable def S47 : FSpec := inlineK C47 Try.f47
theorem S47_ok : SpecOK Try.prog 47 S47 := inlineK_ok C47_ok Try.func47 (fun _ _ => LoopsOK.none _)
theorem En47 : Enters Try.prog 47 := ⟨_, Try.func47, by decide, rfl⟩

/-- ferryman/ferrymanref19.Step -/
noncomputable def T27 : List (FuncId × FSpec) := [(46, S46), (47, S47), (48, S48)]
theorem T27_ok : TabOK Try.prog T27 := TabOK.cons En46 S46_ok (TabOK.cons En47 S47_ok (TabOK.cons En48 S48_ok (TabOK.nil _)))
noncomputable def C27 : Ctx := (ctx E T27 [] [(0, [0, 1, 2]), (1, [0, 1, 2, 8]), (2, [0, 1, 2, 8, 9]), (3, [0, 1, 2, 8, 9]), (4, [6, 7]), (5, [0, 1, 2, 8, 13]), (6, [0, 2, 20]), (7, [6, 7]), (8, [6, 7]), (9, [0, 1, 2, 8, 24]), (10, [0, 1, 2, 8, 24]), (11, [0, 1, 2, 8, 24]), (12, [6, 7]), (13, [0, 2, 32]), (14, [0, 35]), (15, [6, 7]), (16, [6, 7]), (17, [6, 7])] [] 38 70)
theorem C27_ok : CtxOK Try.prog C27 := ctx_ok E_ok E_flds mixed T27_ok
noncomputable def S27 : FSpec := inlineK C27 Try.f27
theorem S27_ok : SpecOK Try.prog 27 S27 := inlineK_ok C27_ok Try.func27 (fun _ _ => LoopsOK.none _)
theorem En27 : Enters Try.prog 27 := ⟨_, Try.func27, by decide, rfl⟩
noncomputable def R27 (args : List AV) : Res := S27 args [] encK
noncomputable def V27 : FSpec := leafK (.tup [.int .i64, .bool]) R27
theorem V27_ok : SpecOK Try.prog 27 V27 := leafK_ok S27_ok (fun _ => rfl)

/-- ferryman/flow.Begin -/
noncomputable def T28 : List (FuncId × FSpec) := [(45, S45)]
theorem T28_ok : TabOK Try.prog T28 := TabOK.cons En45 S45_ok (TabOK.nil _)
noncomputable def C28 : Ctx := (ctx E T28 [] [(0, [0, 1]), (1, [1, 6]), (2, [1, 6, 7]), (3, [1, 6, 9]), (4, [1, 6, 11]), (5, [1, 13]), (6, [4, 5]), (7, [4, 5]), (8, [17]), (9, [4, 5]), (10, [4, 5]), (11, [4, 5])] [] 18 70)
theorem C28_ok : CtxOK Try.prog C28 := ctx_ok E_ok E_flds mixed T28_ok
noncomputable def S28 : FSpec := inlineK C28 Try.f28
theorem S28_ok : SpecOK Try.prog 28 S28 := inlineK_ok C28_ok Try.func28 (fun _ _ => LoopsOK.none _)
theorem En28 : Enters Try.prog 28 := ⟨_, Try.func28, by decide, rfl⟩
noncomputable def R28 (args : List AV) : Res := S28 args [] encK
noncomputable def V28 : FSpec := leafK (.tup [.int .i64, .int .i64]) R28
theorem V28_ok : SpecOK Try.prog 28 V28 := leafK_ok S28_ok (fun _ => rfl)

/-- ferryman/ferrymanref19.Begin -/
noncomputable def T29 : List (FuncId × FSpec) := [(46, S46)]
theorem T29_ok : TabOK Try.prog T29 := TabOK.cons En46 S46_ok (TabOK.nil _)
noncomputable def C29 : Ctx := (ctx E T29 [] [(0, [0, 1]), (1, [1, 6]), (2, [1, 6, 7]), (3, [4, 5]), (4, [1, 6, 9]), (5, [1, 6, 9]), (6, [4, 5]), (7, [1, 12]), (8, [15]), (9, [4, 5]), (10, [4, 5]), (11, [4, 5])] [] 16 70)
theorem C29_ok : CtxOK Try.prog C29 := ctx_ok E_ok E_flds mixed T29_ok
noncomputable def S29 : FSpec := inlineK C29 Try.f29
theorem S29_ok : SpecOK Try.prog 29 S29 := inlineK_ok C29_ok Try.func29 (fun _ _ => LoopsOK.none _)
theorem En29 : Enters Try.prog 29 := ⟨_, Try.func29, by decide, rfl⟩
noncomputable def R29 (args : List AV) : Res := S29 args [] encK
noncomputable def V29 : FSpec := leafK (.tup [.int .i64, .int .i64]) R29
theorem V29_ok : SpecOK Try.prog 29 V29 := leafK_ok S29_ok (fun _ => rfl)

/-- ferryman/flow.Check -/
noncomputable def T33 : List (FuncId × FSpec) := []
theorem T33_ok : TabOK Try.prog T33 := TabOK.nil _
noncomputable def C33 : Ctx := (ctx E T33 [] [(0, [1]), (1, [15, 16]), (2, [15, 16, 17]), (3, [4, 15, 16]), (4, [15, 16, 24]), (5, [2]), (6, [15, 16]), (7, [2]), (1000002, [15, 16])] [] 26 70)
theorem C33_ok : CtxOK Try.prog C33 := ctx_ok E_ok E_flds mixed T33_ok
noncomputable def S33 : FSpec := inlineK C33 Try.f33
theorem S33_ok : SpecOK Try.prog 33 S33 := inlineK_ok C33_ok Try.func33 (fun _ _ => LoopsOK.none _)
theorem En33 : Enters Try.prog 33 := ⟨_, Try.func33, by decide, rfl⟩
noncomputable def R33 (args : List AV) : Res := S33 args [] encK
noncomputable def V33 : FSpec := leafK (.int .i64) R33
theorem V33_ok : SpecOK Try.prog 33 V33 := leafK_ok S33_ok (fun _ => rfl)

/-- ferryman/flow.Life -/
noncomputable def T31 : List (FuncId × FSpec) := [(33, V33)]
theorem T31_ok : TabOK Try.prog T31 := TabOK.cons En33 V33_ok (TabOK.nil _)
noncomputable def C31 : Ctx := (ctx E T31 [] [(0, [1, 2]), (1, [1, 2, 6]), (2, [1, 2, 6, 10]), (3, [4, 5]), (4, [2, 12]), (5, [2, 12, 13]), (6, [4, 5]), (7, [2, 12, 17]), (8, [4, 5]), (9, [2, 12, 21]), (10, [4, 5]), (11, [2, 12, 25]), (12, [2, 12, 25]), (13, [2, 12, 25]), (14, [4, 5]), (15, [2, 12, 31]), (16, [2, 31]), (17, [4, 5]), (18, [4, 5])] [] 36 70)
theorem C31_ok : CtxOK Try.prog C31 := ctx_ok E_ok E_flds mixed T31_ok
noncomputable def S31 : FSpec := inlineK C31 Try.f31
theorem S31_ok : SpecOK Try.prog 31 S31 := inlineK_ok C31_ok Try.func31 (fun _ _ => LoopsOK.none _)
theorem En31 : Enters Try.prog 31 := ⟨_, Try.func31, by decide, rfl⟩
noncomputable def R31 (args : List AV) : Res := S31 args [] encK
noncomputable def V31 : FSpec := leafK (.tup [.int .i64, .int .i64]) R31
theorem V31_ok : SpecOK Try.prog 31 V31 := leafK_ok S31_ok (fun _ => rfl)

/-- ferryman/flow.times -/
noncomputable def T51 : List (FuncId × FSpec) := []
theorem T51_ok : TabOK Try.prog T51 := TabOK.nil _
noncomputable def C51 : Ctx := (ctx E T51 [] [(0, [0]), (1, [0, 3]), (2, [0, 3, 6, 7, 8]), (3, [0, 3, 6, 7, 8, 9]), (4, [0, 3, 5, 6, 7, 8]), (5, [0, 5, 6, 7, 8, 20]), (6, [2]), (7, [0, 3, 6, 7, 8]), (8, [0, 3, 6, 7, 8]), (9, [2]), (1000003, [0, 3, 6, 7, 8])] [] 27 70)
theorem C51_ok : CtxOK Try.prog C51 := ctx_ok E_ok E_flds mixed T51_ok
noncomputable def S51 : FSpec := inlineK C51 Try.f51
theorem S51_ok : SpecOK Try.prog 51 S51 := inlineK_ok C51_ok Try.func51 (fun _ _ => LoopsOK.none _)
theorem En51 : Enters Try.prog 51 := ⟨_, Try.func51, by decide, rfl⟩

/-- ferryman/flow.Run -/
noncomputable def T36 : List (FuncId × FSpec) := [(26, V26), (28, V28), (31, V31), (33, V33), (51, S51)]
theorem T36_ok : TabOK Try.prog T36 := TabOK.cons En26 V26_ok (TabOK.cons En28 V28_ok (TabOK.cons En31 V31_ok (TabOK.cons En33 V33_ok (TabOK.cons En51 S51_ok (TabOK.nil _)))))
noncomputable def C36 : Ctx := (ctx E T36 [] [(0, [1, 2, 3]), (1, [1, 2, 3, 9]), (2, [1, 2, 3, 9, 24]), (3, [6, 7, 8]), (4, [1, 2, 3, 28]), (5, [6, 7, 8]), (6, [1, 2, 3, 33]), (7, [6, 7, 8]), (8, [2, 3, 10, 11]), (9, [2, 3, 10, 11, 44]), (10, [6, 7, 8]), (11, [2, 3, 10, 12]), (12, [2, 3, 10, 14]), (13, [3, 10, 14, 59, 60, 61]), (14, [3, 10, 14, 59, 60, 61, 62]), (15, [3, 10, 14, 16, 59, 60, 61]), (16, [3, 10, 14, 16, 59, 60, 61, 68]), (17, [3, 14, 16, 17, 18, 59, 60, 61]), (18, [3, 10, 14, 16, 18, 59, 60, 61]), (19, [3, 10, 14, 16, 59, 60, 61, 79]), (20, [3, 10, 16, 19, 59, 60, 61]), (21, [3, 10, 14, 59, 60, 61]), (22, [3, 10, 14, 59, 60, 61]), (23, [6, 7, 8]), (1000014, [3, 10, 14, 59, 60, 61])] [] 93 70)
theorem C36_ok : CtxOK Try.prog C36 := ctx_ok E_ok E_flds mixed T36_ok
noncomputable def S36 : FSpec := inlineK C36 Try.f36
theorem S36_ok : SpecOK Try.prog 36 S36 := inlineK_ok C36_ok Try.func36 (fun _ _ => LoopsOK.none _)
theorem En36 : Enters Try.prog 36 := ⟨_, Try.func36, by decide, rfl⟩

/-- ferryman/ferrymanlaw19.lives -/
noncomputable def T49 : List (FuncId × FSpec) := []
theorem T49_ok : TabOK Try.prog T49 := TabOK.nil _
noncomputable def C49 : Ctx := (ctx E T49 [] [(0, [0]), (1, [0])] [] 2 70)
theorem C49_ok : CtxOK Try.prog C49 := ctx_ok E_ok E_flds mixed T49_ok
noncomputable def S49 : FSpec := inlineK C49 Try.f49
theorem S49_ok : SpecOK Try.prog 49 S49 := inlineK_ok C49_ok Try.func49 (fun _ _ => LoopsOK.none _)
theorem En49 : Enters Try.prog 49 := ⟨_, Try.func49, by decide, rfl⟩

/-- ferryman/ferrymanlaw19.alive -/
noncomputable def T30 : List (FuncId × FSpec) := [(26, V26), (36, S36), (49, S49)]
theorem T30_ok : TabOK Try.prog T30 := TabOK.cons En26 V26_ok (TabOK.cons En36 S36_ok (TabOK.cons En49 S49_ok (TabOK.nil _)))
noncomputable def C30 : Ctx := (ctx E T30 [] [(0, []), (1, [1, 2, 3]), (2, [1, 2, 3, 4, 5]), (3, [0])] [] 36 70)
theorem C30_ok : CtxOK Try.prog C30 := ctx_ok E_ok E_flds mixed T30_ok
noncomputable def B30 : FSpec := inlineK C30 Try.f30
noncomputable def S30 : FSpec := constK (AV.bool true)
theorem B30_ok : SpecOK Try.prog 30 B30 := inlineK_ok C30_ok Try.func30 (fun _ _ => LoopsOK.none _)
theorem B30_is (k : KE) : B30 [] [] k = k (.ret (AV.bool true)) [] := by kernel_rfl
theorem S30_ok : SpecOK Try.prog 30 S30 := constK_ok B30_ok B30_is
theorem En30 : Enters Try.prog 30 := ⟨_, Try.func30, by decide, rfl⟩

/-- ferryman/ferrymanlaw19.FlowSteps -/
noncomputable def T8 : List (FuncId × FSpec) := [(26, V26), (27, V27), (28, V28), (29, V29), (30, S30)]
theorem T8_ok : TabOK Try.prog T8 := TabOK.cons En26 V26_ok (TabOK.cons En27 V27_ok (TabOK.cons En28 V28_ok (TabOK.cons En29 V29_ok (TabOK.cons En30 S30_ok (TabOK.nil _)))))
noncomputable def C8 : Ctx := (ctx E T8 [] [(0, [0, 1, 2, 3]), (1, [0, 1, 2, 3, 9, 10]), (2, [2, 3, 9, 10, 11, 12]), (3, [2, 3, 9, 10, 11, 12, 13, 14]), (4, [9, 10, 11, 12, 13, 14, 15, 16]), (5, [8])] [] 64 70)
theorem C8_ok : CtxOK Try.prog C8 := ctx_ok E_ok E_flds mixed T8_ok
noncomputable def S8 : FSpec := inlineK C8 Try.f8
theorem S8_ok : SpecOK Try.prog 8 S8 := inlineK_ok C8_ok Try.func8 (fun _ _ => LoopsOK.none _)
theorem En8 : Enters Try.prog 8 := ⟨_, Try.func8, by decide, rfl⟩

end Go.Proofs.Ytohfnoepdbkkeaa
