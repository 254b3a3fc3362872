import Derived.Test.YtohfnoepdbkkeaaA20
import Derived.Test.YtohfnoepdbkkeaaRows
namespace Go.Proofs.Ytohfnoepdbkkeaa
open Go.Abs

noncomputable def E : Env := envOf Try.prog
theorem E_ok : EnvOK Try.prog E := envOf_ok _
theorem E_flds : FieldsOK E := fieldsB_ok (by kernel_rfl)
theorem mixed : Try.prog.follows .mixedOrders = true := by kernel_rfl
/-- ferryman/flow.has -/
noncomputable def T44 : List (FuncId × FSpec) := []
theorem T44_ok : TabOK Try.prog T44 := TabOK.nil _
noncomputable def C44 : Ctx := (ctx E T44 [] [(0, [0, 1]), (1, [4])] [] 9 70)
theorem C44_ok : CtxOK Try.prog C44 := ctx_ok E_ok E_flds mixed T44_ok
noncomputable def S44 : FSpec := inlineK C44 Try.f44
theorem S44_ok : SpecOK Try.prog 44 S44 := inlineK_ok C44_ok Try.func44 (fun _ _ => LoopsOK.none _)
theorem En44 : Enters Try.prog 44 := ⟨_, Try.func44, by decide, rfl⟩

/-- ferryman/flow.opens -/
noncomputable def T45 : List (FuncId × FSpec) := [(44, S44)]
theorem T45_ok : TabOK Try.prog T45 := TabOK.cons En44 S44_ok (TabOK.nil _)
noncomputable def C45 : Ctx := (ctx E T45 [] [(0, [0]), (1, [2])] [] 10 70)
theorem C45_ok : CtxOK Try.prog C45 := ctx_ok E_ok E_flds mixed T45_ok
noncomputable def S45 : FSpec := inlineK C45 Try.f45
theorem S45_ok : SpecOK Try.prog 45 S45 := inlineK_ok C45_ok Try.func45 (fun _ _ => LoopsOK.none _)
theorem En45 : Enters Try.prog 45 := ⟨_, Try.func45, by decide, rfl⟩

/-- ferryman/flow.Step -/
noncomputable def T26 : List (FuncId × FSpec) := [(44, S44), (45, S45)]
theorem T26_ok : TabOK Try.prog T26 := TabOK.cons En44 S44_ok (TabOK.cons En45 S45_ok (TabOK.nil _))
noncomputable def C26 : Ctx := (ctx E T26 [] [(0, [0, 1, 2]), (1, [0, 1, 2, 8, 9]), (2, [0, 1, 2, 8, 9, 14]), (3, [0, 1, 2, 8, 9, 14, 15]), (4, [0, 1, 2, 8, 9, 14, 17]), (5, [0, 1, 2, 8, 9, 14, 19]), (6, [0, 1, 8, 9, 14, 21]), (7, [0, 1, 8, 9, 14, 23]), (8, [0, 1, 8, 9, 14, 25]), (9, [0, 9, 27]), (10, [6, 7]), (11, [0, 2, 35]), (12, [6, 7]), (13, [6, 7]), (14, [0, 1, 8, 39]), (15, [6, 7]), (16, [0, 8, 41]), (17, [6, 7]), (18, [0, 46]), (19, [6, 7]), (20, [6, 7]), (21, [0, 1, 8, 49]), (22, [6, 7]), (23, [0, 51]), (24, [6, 7]), (25, [6, 7]), (26, [0, 61]), (27, [6, 7]), (28, [6, 7])] [] 63 70)
theorem C26_ok : CtxOK Try.prog C26 := ctx_ok E_ok E_flds mixed T26_ok
noncomputable def S26 : FSpec := inlineK C26 Try.f26
theorem S26_ok : SpecOK Try.prog 26 S26 := inlineK_ok C26_ok Try.func26 (fun _ _ => LoopsOK.none _)
theorem En26 : Enters Try.prog 26 := ⟨_, Try.func26, by decide, rfl⟩
noncomputable def R26 (args : List AV) : Res := S26 args [] encK
noncomputable def V26 : FSpec := leafK (.tup [.int .i64, .bool]) R26
theorem V26_ok : SpecOK Try.prog 26 V26 := leafK_ok S26_ok (fun _ => rfl)

/-- ferryman/flow.Begin -/
noncomputable def T28 : List (FuncId × FSpec) := [(45, S45)]
theorem T28_ok : TabOK Try.prog T28 := TabOK.cons En45 S45_ok (TabOK.nil _)
noncomputable def C28 : Ctx := (ctx E T28 [] [(0, [0, 1]), (1, [1, 6]), (2, [1, 6, 7]), (3, [1, 6, 9]), (4, [1, 6, 11]), (5, [1, 13]), (6, [4, 5]), (7, [4, 5]), (8, [17]), (9, [4, 5]), (10, [4, 5]), (11, [4, 5])] [] 18 70)
theorem C28_ok : CtxOK Try.prog C28 := ctx_ok E_ok E_flds mixed T28_ok
noncomputable def S28 : FSpec := inlineK C28 Try.f28
theorem S28_ok : SpecOK Try.prog 28 S28 := inlineK_ok C28_ok Try.func28 (fun _ _ => LoopsOK.none _)
theorem En28 : Enters Try.prog 28 := ⟨_, Try.func28, by decide, rfl⟩
noncomputable def R28 (args : List AV) : Res := S28 args [] encK
noncomputable def V28 : FSpec := leafK (.tup [.int .i64, .int .i64]) R28
theorem V28_ok : SpecOK Try.prog 28 V28 := leafK_ok S28_ok (fun _ => rfl)

/-- ferryman/flow.Check -/
noncomputable def T33 : List (FuncId × FSpec) := []
theorem T33_ok : TabOK Try.prog T33 := TabOK.nil _
noncomputable def C33 : Ctx := (ctx E T33 [] [(0, [1]), (1, [15, 16]), (2, [15, 16, 17]), (3, [4, 15, 16]), (4, [15, 16, 24]), (5, [2]), (6, [15, 16]), (7, [2]), (1000002, [15, 16])] [] 26 70)
theorem C33_ok : CtxOK Try.prog C33 := ctx_ok E_ok E_flds mixed T33_ok
noncomputable def S33 : FSpec := inlineK C33 Try.f33
theorem S33_ok : SpecOK Try.prog 33 S33 := inlineK_ok C33_ok Try.func33 (fun _ _ => LoopsOK.none _)
theorem En33 : Enters Try.prog 33 := ⟨_, Try.func33, by decide, rfl⟩
noncomputable def R33 (args : List AV) : Res := S33 args [] encK
noncomputable def V33 : FSpec := leafK (.int .i64) R33
theorem V33_ok : SpecOK Try.prog 33 V33 := leafK_ok S33_ok (fun _ => rfl)

/-- ferryman/flow.Life -/
noncomputable def T31 : List (FuncId × FSpec) := [(33, V33)]
theorem T31_ok : TabOK Try.prog T31 := TabOK.cons En33 V33_ok (TabOK.nil _)
noncomputable def C31 : Ctx := (ctx E T31 [] [(0, [1, 2]), (1, [1, 2, 6]), (2, [1, 2, 6, 10]), (3, [4, 5]), (4, [2, 12]), (5, [2, 12, 13]), (6, [4, 5]), (7, [2, 12, 17]), (8, [4, 5]), (9, [2, 12, 21]), (10, [4, 5]), (11, [2, 12, 25]), (12, [2, 12, 25]), (13, [2, 12, 25]), (14, [4, 5]), (15, [2, 12, 31]), (16, [2, 31]), (17, [4, 5]), (18, [4, 5])] [] 36 70)
theorem C31_ok : CtxOK Try.prog C31 := ctx_ok E_ok E_flds mixed T31_ok
noncomputable def S31 : FSpec := inlineK C31 Try.f31
theorem S31_ok : SpecOK Try.prog 31 S31 := inlineK_ok C31_ok Try.func31 (fun _ _ => LoopsOK.none _)
theorem En31 : Enters Try.prog 31 := ⟨_, Try.func31, by decide, rfl⟩
noncomputable def R31 (args : List AV) : Res := S31 args [] encK
noncomputable def V31 : FSpec := leafK (.tup [.int .i64, .int .i64]) R31
theorem V31_ok : SpecOK Try.prog 31 V31 := leafK_ok S31_ok (fun _ => rfl)

/-- ferryman/flow.times -/
noncomputable def T51 : List (FuncId × FSpec) := []
theorem T51_ok : TabOK Try.prog T51 := TabOK.nil _
noncomputable def C51 : Ctx := (ctx E T51 [] [(0, [0]), (1, [0, 3]), (2, [0, 3, 6, 7, 8]), (3, [0, 3, 6, 7, 8, 9]), (4, [0, 3, 5, 6, 7, 8]), (5, [0, 5, 6, 7, 8, 20]), (6, [2]), (7, [0, 3, 6, 7, 8]), (8, [0, 3, 6, 7, 8]), (9, [2]), (1000003, [0, 3, 6, 7, 8])] [] 27 70)
theorem C51_ok : CtxOK Try.prog C51 := ctx_ok E_ok E_flds mixed T51_ok
noncomputable def S51 : FSpec := inlineK C51 Try.f51
theorem S51_ok : SpecOK Try.prog 51 S51 := inlineK_ok C51_ok Try.func51 (fun _ _ => LoopsOK.none _)
theorem En51 : Enters Try.prog 51 := ⟨_, Try.func51, by decide, rfl⟩

/-- ferryman/flow.Run -/
noncomputable def T36 : List (FuncId × FSpec) := [(26, V26), (28, V28), (31, V31), (33, V33), (51, S51)]
theorem T36_ok : TabOK Try.prog T36 := TabOK.cons En26 V26_ok (TabOK.cons En28 V28_ok (TabOK.cons En31 V31_ok (TabOK.cons En33 V33_ok (TabOK.cons En51 S51_ok (TabOK.nil _)))))
noncomputable def C36 : Ctx := (ctx E T36 [] [(0, [1, 2, 3]), (1, [1, 2, 3, 9]), (2, [1, 2, 3, 9, 24]), (3, [6, 7, 8]), (4, [1, 2, 3, 28]), (5, [6, 7, 8]), (6, [1, 2, 3, 33]), (7, [6, 7, 8]), (8, [2, 3, 10, 11]), (9, [2, 3, 10, 11, 44]), (10, [6, 7, 8]), (11, [2, 3, 10, 12]), (12, [2, 3, 10, 14]), (13, [3, 10, 14, 59, 60, 61]), (14, [3, 10, 14, 59, 60, 61, 62]), (15, [3, 10, 14, 16, 59, 60, 61]), (16, [3, 10, 14, 16, 59, 60, 61, 68]), (17, [3, 14, 16, 17, 18, 59, 60, 61]), (18, [3, 10, 14, 16, 18, 59, 60, 61]), (19, [3, 10, 14, 16, 59, 60, 61, 79]), (20, [3, 10, 16, 19, 59, 60, 61]), (21, [3, 10, 14, 59, 60, 61]), (22, [3, 10, 14, 59, 60, 61]), (23, [6, 7, 8]), (1000014, [3, 10, 14, 59, 60, 61])] [] 93 70)
theorem C36_ok : CtxOK Try.prog C36 := ctx_ok E_ok E_flds mixed T36_ok
noncomputable def S36 : FSpec := inlineK C36 Try.f36
theorem S36_ok : SpecOK Try.prog 36 S36 := inlineK_ok C36_ok Try.func36 (fun _ _ => LoopsOK.none _)
theorem En36 : Enters Try.prog 36 := ⟨_, Try.func36, by decide, rfl⟩

/-- ferryman/ferrymanlaw19.lives -/
noncomputable def T49 : List (FuncId × FSpec) := []
theorem T49_ok : TabOK Try.prog T49 := TabOK.nil _
noncomputable def C49 : Ctx := (ctx E T49 [] [(0, [0]), (1, [0])] [] 2 70)
theorem C49_ok : CtxOK Try.prog C49 := ctx_ok E_ok E_flds mixed T49_ok
noncomputable def S49 : FSpec := inlineK C49 Try.f49
theorem S49_ok : SpecOK Try.prog 49 S49 := inlineK_ok C49_ok Try.func49 (fun _ _ => LoopsOK.none _)
theorem En49 : Enters Try.prog 49 := ⟨_, Try.func49, by decide, rfl⟩

/-- ferryman/ferrymanlaw19.alive -/
noncomputable def T30 : List (FuncId × FSpec) := [(26, V26), (36, S36), (49, S49)]
theorem T30_ok : TabOK Try.prog T30 := TabOK.cons En26 V26_ok (TabOK.cons En36 S36_ok (TabOK.cons En49 S49_ok (TabOK.nil _)))
noncomputable def C30 : Ctx := (ctx E T30 [] [(0, []), (1, [1, 2, 3]), (2, [1, 2, 3, 4, 5]), (3, [0])] [] 36 70)
theorem C30_ok : CtxOK Try.prog C30 := ctx_ok E_ok E_flds mixed T30_ok
noncomputable def B30 : FSpec := inlineK C30 Try.f30
noncomputable def S30 : FSpec := constK (AV.bool true)
theorem B30_ok : SpecOK Try.prog 30 B30 := inlineK_ok C30_ok Try.func30 (fun _ _ => LoopsOK.none _)
theorem B30_is (k : KE) : B30 [] [] k = k (.ret (AV.bool true)) [] := by kernel_rfl
theorem S30_ok : SpecOK Try.prog 30 S30 := constK_ok B30_ok B30_is
theorem En30 : Enters Try.prog 30 := ⟨_, Try.func30, by decide, rfl⟩

/-- ferryman/ferrymanlaw19.FlowBoths -/
noncomputable def T12 : List (FuncId × FSpec) := [(26, V26), (30, S30)]
theorem T12_ok : TabOK Try.prog T12 := TabOK.cons En26 V26_ok (TabOK.cons En30 S30_ok (TabOK.nil _))
noncomputable def C12 : Ctx := (ctx E T12 [] [(0, [0, 1, 2]), (1, [1, 2, 7]), (2, [1, 2, 7, 8]), (3, [1, 2, 7, 8, 28]), (4, [6]), (5, [1, 2, 7, 8, 59]), (6, [6]), (7, [87]), (8, [6]), (9, [6])] [] 89 70)
theorem C12_ok : CtxOK Try.prog C12 := ctx_ok E_ok E_flds mixed T12_ok
noncomputable def S12 : FSpec := inlineK C12 Try.f12
theorem S12_ok : SpecOK Try.prog 12 S12 := inlineK_ok C12_ok Try.func12 (fun _ _ => LoopsOK.none _)
theorem En12 : Enters Try.prog 12 := ⟨_, Try.func12, by decide, rfl⟩

end Go.Proofs.Ytohfnoepdbkkeaa
