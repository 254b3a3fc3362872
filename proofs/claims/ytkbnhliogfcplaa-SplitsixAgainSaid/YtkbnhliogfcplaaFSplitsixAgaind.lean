import Derived.Test.YtkbnhliogfcplaaFSplitsixAgainc
namespace Go.Proofs.Ytkbnhliogfcplaa
open Go.Abs Go.Pl

/-- ferryman/ferrymanlaw14.awake -/
noncomputable def W9 : FSpec := shareK S9z
theorem W9_ok : SpecOK Try.prog 9 W9 := S9z_ok.share
noncomputable def T8 : List (FuncId × FSpec) := [(9, W9)]
theorem T8_ok : TabOK Try.prog T8 := TabOK.cons En9 W9_ok (TabOK.nil _)
noncomputable def C8 : Ctx := (ctx E T8 [] [(0, []), (1, [1, 2]), (2, [0])] [] 59 70)
theorem C8_ok : CtxOK Try.prog C8 := ctx_ok E_ok E_flds mixed T8_ok
noncomputable def B8 : FSpec := inlineK C8 Try.f8
noncomputable def S8 : FSpec := constK (AV.bool true)
theorem B8_ok : SpecOK Try.prog 8 B8 := inlineK_ok C8_ok Try.func8 (fun _ _ => LoopsOK.none _)
theorem B8_is (k : KE) : B8 [] [] k = k (.ret (AV.bool true)) [] := by kernel_rfl
theorem S8_ok : SpecOK Try.prog 8 S8 := constK_ok B8_ok B8_is
theorem En8 : Enters Try.prog 8 := ⟨_, Try.func8, by decide, rfl⟩
end Go.Proofs.Ytkbnhliogfcplaa
