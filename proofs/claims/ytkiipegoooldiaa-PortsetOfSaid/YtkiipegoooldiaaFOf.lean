import Derived.Test.YtkiipegoooldiaaA18
import Derived.Test.YtkiipegoooldiaaRows
import Derived.Test.YtkiipegoooldiaaPPort
namespace Go.Proofs.Ytkiipegoooldiaa
open Go.Abs Go.Pl

noncomputable def E : Env := envOf Try.prog
theorem E_ok : EnvOK Try.prog E := envOf_ok _
theorem E_flds : FieldsOK E := fieldsB_ok (by kernel_rfl)
theorem mixed : Try.prog.follows .mixedOrders = true := by kernel_rfl
/-- ferryman/portset.Check -/
noncomputable def T47 : List (FuncId × FSpec) := []
noncomputable def C47 : Ctx := ctx E T47 [] [(0, [1]), (1, [33]), (2, [2]), (3, [2])] [] 34 70
noncomputable def B47 : FSpec := inlineK C47 Try.f47
noncomputable def S47 : FSpec := fun args H k => match args, H with
  | [.agg [.int .i64 a, .int .i64 b, .int .u16 x]], [] => aIf (psetB a b x) (aIf (right a b x) (k (.ret (.int .i64 0)) []) (k (.ret (.int .i64 90)) [])) none
  | _, _ => none
theorem T47_ok : TabOK Try.prog T47 := TabOK.nil _
theorem C47_ok : CtxOK Try.prog C47 := ctx_ok E_ok E_flds mixed T47_ok
theorem B47_ok : SpecOK Try.prog 47 B47 := inlineK_ok C47_ok Try.func47 (fun _ _ => LoopsOK.none _)
theorem N47 (a b x : Int) (k : KE) : B47 [.agg [.int .i64 a, .int .i64 b, .int .u16 x]] [] k =
    aIf (decide (a < 0)) (k (AEnd.ret (AV.int IntKind.i64 90)) [])
    (aIf (decide (a > 15)) (k (AEnd.ret (AV.int IntKind.i64 90)) [])
      (aIf (decide (b < 0)) (k (AEnd.ret (AV.int IntKind.i64 90)) [])
        (aIf (decide (b > IntKind.i64.wrap (16 - a))) (k (AEnd.ret (AV.int IntKind.i64 90)) [])
          (aIf (decide (IntKind.u64.wrap b < 0)) none
            (aIf ((IntKind.u32.wrap x).fdiv (2 ^ min (IntKind.u64.wrap b).toNat 32) != 0)
              (k (AEnd.ret (AV.int IntKind.i64 90)) []) (k (AEnd.ret (AV.int IntKind.i64 0)) [])))))) := by kernel_rfl
theorem S47_ok : SpecOK Try.prog 47 S47 := by
  refine B47_ok.turn fun args H => ?_
  unfold S47
  split
  · rename_i a b x
    rcases Bool.eq_false_or_eq_true (psetB a b x) with hp | hp
    · refine .inr fun k => ?_
      rw [aIf_pos hp, N47]
      exact check_law hp _ _
    · exact .inl fun k => by rw [aIf_neg hp]
  · exact .inl fun k => rfl
theorem En47 : Enters Try.prog 47 := ⟨_, Try.func47, by decide, rfl⟩

/-- ferryman/portset.low -/
noncomputable def T62 : List (FuncId × FSpec) := []
noncomputable def C62 : Ctx := ctx E T62 [] [(0, [1]), (1, [2])] [] 9 70
noncomputable def S62 : FSpec := inlineK C62 Try.f62
theorem T62_ok : TabOK Try.prog T62 := TabOK.nil _
theorem C62_ok : CtxOK Try.prog C62 := ctx_ok E_ok E_flds mixed T62_ok
theorem S62_ok : SpecOK Try.prog 62 S62 := inlineK_ok C62_ok Try.func62 (fun _ _ => LoopsOK.none _)
theorem En62 : Enters Try.prog 62 := ⟨_, Try.func62, by decide, rfl⟩

/-- ferryman/portset.Of -/
noncomputable def T36 : List (FuncId × FSpec) := [(47, S47), (62, S62)]
noncomputable def C36 : Ctx := ctx E T36 [] [(0, [0, 1, 2]), (1, [0, 1, 2, 9]), (2, [0, 1, 2, 9, 10]), (3, [0, 1, 2, 9, 10, 18]), (4, [6, 7, 8]), (5, [0, 1, 9, 11]), (6, [1, 9, 11, 31]), (7, [6, 7, 8]), (8, [6, 7, 8])] [] 43 70
noncomputable def B36 : FSpec := inlineK C36 Try.f36
noncomputable def S36 : FSpec := fun args H k => match args, H with
  | [.int .i64 a, .int .i64 b, .int .u16 x], [] => aIf (psetB a b x) (aIf (right a b 0) (aIf (mine a x) (k (.ret (.tup [.int .u16 (psid a b x), .bool true, .int .i64 0])) []) (k (.ret (.tup [.int .u16 0, .bool false, .int .i64 0])) [])) (k (.ret (.tup [.int .u16 0, .bool false, .int .i64 90])) [])) none
  | _, _ => none
theorem T36_ok : TabOK Try.prog T36 := TabOK.cons En47 S47_ok (TabOK.cons En62 S62_ok (TabOK.nil _))
theorem C36_ok : CtxOK Try.prog C36 := ctx_ok E_ok E_flds mixed T36_ok
theorem B36_ok : SpecOK Try.prog 36 B36 := inlineK_ok C36_ok Try.func36 (fun _ _ => LoopsOK.none _)
theorem N36 (a b x : Int) (k : KE) : B36 [.int .i64 a, .int .i64 b, .int .u16 x] [] k =
    aIf (Pl.psetB a b 0)
  (aIf (Pl.right a b 0)
    (aIf (decide (a > 0))
      (aIf (decide (IntKind.u64.wrap (IntKind.i64.wrap (16 - a)) < 0)) none
        (aIf ((IntKind.u32.wrap x).fdiv (2 ^ min (IntKind.u64.wrap (IntKind.i64.wrap (16 - a))).toNat 32) == 0)
          (k (AEnd.ret (AV.tup [AV.int IntKind.u16 0, AV.bool false, AV.int IntKind.i64 0])) [])
          (aIf (decide (IntKind.u64.wrap (IntKind.i64.wrap (IntKind.i64.wrap (16 - a) - b)) < 0)) none
            (aIf (decide (IntKind.u64.wrap b < 0)) none
              (k
                (AEnd.ret
                  (AV.tup
                    [AV.int IntKind.u16
                        (IntKind.u16.wrap
                          (IntKind.u32.wrap
                            ↑(BitVec.ofInt 32
                                    ((IntKind.u32.wrap x).fdiv
                                      (2 ^
                                        min (IntKind.u64.wrap (IntKind.i64.wrap (IntKind.i64.wrap (16 - a) - b))).toNat
                                          32)) &&&
                                  BitVec.ofInt 32
                                    (IntKind.u32.wrap
                                      (IntKind.u32.wrap (1 * 2 ^ min (IntKind.u64.wrap b).toNat 32) - 1))).toNat)),
                      AV.bool true, AV.int IntKind.i64 0]))
                [])))))
      (aIf (decide (IntKind.u64.wrap (IntKind.i64.wrap (IntKind.i64.wrap (16 - a) - b)) < 0)) none
        (aIf (decide (IntKind.u64.wrap b < 0)) none
          (k
            (AEnd.ret
              (AV.tup
                [AV.int IntKind.u16
                    (IntKind.u16.wrap
                      (IntKind.u32.wrap
                        ↑(BitVec.ofInt 32
                                ((IntKind.u32.wrap x).fdiv
                                  (2 ^
                                    min (IntKind.u64.wrap (IntKind.i64.wrap (IntKind.i64.wrap (16 - a) - b))).toNat
                                      32)) &&&
                              BitVec.ofInt 32
                                (IntKind.u32.wrap
                                  (IntKind.u32.wrap (1 * 2 ^ min (IntKind.u64.wrap b).toNat 32) - 1))).toNat)),
                  AV.bool true, AV.int IntKind.i64 0]))
            []))))
    (k (AEnd.ret (AV.tup [AV.int IntKind.u16 0, AV.bool false, AV.int IntKind.i64 90])) []))
  none := by kernel_rfl
theorem S36_ok : SpecOK Try.prog 36 S36 := by
  refine B36_ok.turn fun args H => ?_
  unfold S36
  split
  · rename_i a b x
    rcases Bool.eq_false_or_eq_true (psetB a b x) with hp | hp
    · refine .inr fun k => ?_
      rw [aIf_pos hp, N36]
      exact of_law hp k
    · exact .inl fun k => by rw [aIf_neg hp]
  · exact .inl fun k => rfl
theorem En36 : Enters Try.prog 36 := ⟨_, Try.func36, by decide, rfl⟩

/-- ferryman/portset.Has -/
noncomputable def T34 : List (FuncId × FSpec) := [(36, S36), (47, S47)]
noncomputable def C34 : Ctx := ctx E T34 [] [(0, [1, 2]), (1, [1, 2, 6]), (2, [1, 2, 6, 13]), (3, [4, 5]), (4, [2, 7, 8, 9]), (5, [4, 5])] [] 33 70
noncomputable def B34 : FSpec := inlineK C34 Try.f34
noncomputable def S34 : FSpec := fun args H k => match args, H with
  | [.agg [.int .i64 a, .int .i64 b, .int .u16 p], .int .u16 x], [] => aIf (psetB a b p && psetB a b x) (aIf (right a b p) (k (.ret (.tup [.bool (mine a x && (psid a b x == p)), .int .i64 0])) []) (k (.ret (.tup [.bool false, .int .i64 90])) [])) none
  | _, _ => none
theorem T34_ok : TabOK Try.prog T34 := TabOK.cons En36 S36_ok (TabOK.cons En47 S47_ok (TabOK.nil _))
theorem C34_ok : CtxOK Try.prog C34 := ctx_ok E_ok E_flds mixed T34_ok
theorem B34_ok : SpecOK Try.prog 34 B34 := inlineK_ok C34_ok Try.func34 (fun _ _ => LoopsOK.none _)
theorem N34 (a b p x : Int) (k : KE) : B34 [.agg [.int .i64 a, .int .i64 b, .int .u16 p], .int .u16 x] [] k =
    aIf (Pl.psetB a b p)
  (aIf (Pl.right a b p)
    (aIf (Pl.psetB a b x)
      (aIf (Pl.right a b 0)
        (aIf (Pl.mine a x) (k (AEnd.ret (AV.tup [AV.bool (Pl.psid a b x == p), AV.int IntKind.i64 0])) [])
          (k (AEnd.ret (AV.tup [AV.bool false, AV.int IntKind.i64 0])) []))
        (k (AEnd.ret (AV.tup [AV.bool false, AV.int IntKind.i64 90])) []))
      none)
    (k (AEnd.ret (AV.tup [AV.bool false, AV.int IntKind.i64 90])) []))
  none := by kernel_rfl
theorem S34_ok : SpecOK Try.prog 34 S34 := by
  refine B34_ok.turn fun args H => ?_
  unfold S34
  split
  · rename_i a b p x
    rcases Bool.eq_false_or_eq_true (psetB a b p && psetB a b x) with hp | hp
    · refine .inr fun k => ?_
      rw [aIf_pos hp, N34]
      exact has_law hp k
    · exact .inl fun k => by rw [aIf_neg hp]
  · exact .inl fun k => rfl
theorem En34 : Enters Try.prog 34 := ⟨_, Try.func34, by decide, rfl⟩

/-- ferryman/portset.size -/
noncomputable def T63 : List (FuncId × FSpec) := [(62, S62)]
noncomputable def C63 : Ctx := ctx E T63 [] [(0, [1]), (1, [2])] [] 6 70
noncomputable def S63 : FSpec := inlineK C63 Try.f63
theorem T63_ok : TabOK Try.prog T63 := TabOK.cons En62 S62_ok (TabOK.nil _)
theorem C63_ok : CtxOK Try.prog C63 := ctx_ok E_ok E_flds mixed T63_ok
theorem S63_ok : SpecOK Try.prog 63 S63 := inlineK_ok C63_ok Try.func63 (fun _ _ => LoopsOK.none _)
theorem En63 : Enters Try.prog 63 := ⟨_, Try.func63, by decide, rfl⟩

/-- ferryman/portset.Count -/
noncomputable def T37 : List (FuncId × FSpec) := [(47, S47), (63, S63)]
noncomputable def C37 : Ctx := ctx E T37 [] [(0, [1]), (1, [1, 4]), (2, [1, 4, 9]), (3, [2, 3]), (4, [1, 5]), (5, [1, 5, 13]), (6, [1, 5]), (7, [2, 3])] [] 22 70
noncomputable def B37 : FSpec := inlineK C37 Try.f37
noncomputable def S37 : FSpec := fun args H k => match args, H with
  | [.agg [.int .i64 a, .int .i64 b, .int .u16 x]], [] => aIf (psetB a b x) (aIf (right a b x) (k (.ret (.tup [.int .i64 (count a b), .int .i64 0])) []) (k (.ret (.tup [.int .i64 0, .int .i64 90])) [])) none
  | _, _ => none
theorem T37_ok : TabOK Try.prog T37 := TabOK.cons En47 S47_ok (TabOK.cons En63 S63_ok (TabOK.nil _))
theorem C37_ok : CtxOK Try.prog C37 := ctx_ok E_ok E_flds mixed T37_ok
theorem B37_ok : SpecOK Try.prog 37 B37 := inlineK_ok C37_ok Try.func37 (fun _ _ => LoopsOK.none _)
theorem N37 (a b x : Int) (k : KE) : B37 [.agg [.int .i64 a, .int .i64 b, .int .u16 x]] [] k =
    aIf (Pl.psetB a b x)
  (aIf (Pl.right a b x)
    (aIf (decide (a > 0))
      (aIf (decide (a < 0)) none
        (aIf (decide (IntKind.i64.wrap (IntKind.i64.wrap (16 - a) - b) < 0)) none
          (k
            (AEnd.ret
              (AV.tup
                [AV.int IntKind.i64
                    (IntKind.i64.wrap
                      (IntKind.i64.wrap (IntKind.i64.wrap (1 * 2 ^ min a.toNat 64) - 1) *
                        IntKind.i64.wrap (1 * 2 ^ min (IntKind.i64.wrap (IntKind.i64.wrap (16 - a) - b)).toNat 64))),
                  AV.int IntKind.i64 0]))
            [])))
      (aIf (decide (IntKind.i64.wrap (IntKind.i64.wrap (16 - a) - b) < 0)) none
        (k
          (AEnd.ret
            (AV.tup
              [AV.int IntKind.i64
                  (IntKind.i64.wrap
                    (1 * IntKind.i64.wrap (1 * 2 ^ min (IntKind.i64.wrap (IntKind.i64.wrap (16 - a) - b)).toNat 64))),
                AV.int IntKind.i64 0]))
          [])))
    (k (AEnd.ret (AV.tup [AV.int IntKind.i64 0, AV.int IntKind.i64 90])) []))
  none := by kernel_rfl
theorem S37_ok : SpecOK Try.prog 37 S37 := by
  refine B37_ok.turn fun args H => ?_
  unfold S37
  split
  · rename_i a b x
    rcases Bool.eq_false_or_eq_true (psetB a b x) with hp | hp
    · refine .inr fun k => ?_
      rw [aIf_pos hp, N37]
      exact count_law hp k
    · exact .inl fun k => by rw [aIf_neg hp]
  · exact .inl fun k => rfl
theorem En37 : Enters Try.prog 37 := ⟨_, Try.func37, by decide, rfl⟩

/-- ferryman/portset.At -/
noncomputable def T39 : List (FuncId × FSpec) := [(37, S37), (62, S62), (63, S63)]
noncomputable def C39 : Ctx := ctx E T39 [] [(0, [1, 2]), (1, [1, 2, 6, 7]), (2, [1, 2, 6, 7, 15]), (3, [4, 5]), (4, [1, 2, 23]), (5, [4, 5]), (6, [1, 2, 8]), (7, [1, 2, 8, 30]), (8, [1, 2, 8]), (9, [4, 5])] [] 55 70
noncomputable def S39 : FSpec := inlineK C39 Try.f39
theorem T39_ok : TabOK Try.prog T39 := TabOK.cons En37 S37_ok (TabOK.cons En62 S62_ok (TabOK.cons En63 S63_ok (TabOK.nil _)))
theorem C39_ok : CtxOK Try.prog C39 := ctx_ok E_ok E_flds mixed T39_ok
theorem S39_ok : SpecOK Try.prog 39 S39 := inlineK_ok C39_ok Try.func39 (fun _ _ => LoopsOK.none _)
theorem En39 : Enters Try.prog 39 := ⟨_, Try.func39, by decide, rfl⟩

/-- ferryman/ferrymanlaw09.alive -/
noncomputable def T35 : List (FuncId × FSpec) := [(36, S36), (37, S37), (39, S39)]
noncomputable def C35 : Ctx := ctx E T35 [] [(0, []), (1, [1]), (2, [1, 2, 3]), (3, [2, 3, 4, 5]), (4, [2, 3, 4, 5, 6, 7, 8]), (5, [0])] [] 50 70
noncomputable def B35 : FSpec := inlineK C35 Try.f35
noncomputable def S35 : FSpec := constK (AV.bool true)
theorem T35_ok : TabOK Try.prog T35 := TabOK.cons En36 S36_ok (TabOK.cons En37 S37_ok (TabOK.cons En39 S39_ok (TabOK.nil _)))
theorem C35_ok : CtxOK Try.prog C35 := ctx_ok E_ok E_flds mixed T35_ok
theorem B35_ok : SpecOK Try.prog 35 B35 := inlineK_ok C35_ok Try.func35 (fun _ _ => LoopsOK.none _)
theorem B35_is (k : KE) : B35 [] [] k = k (.ret (AV.bool true)) [] := by kernel_rfl
theorem S35_ok : SpecOK Try.prog 35 S35 := constK_ok B35_ok B35_is
theorem En35 : Enters Try.prog 35 := ⟨_, Try.func35, by decide, rfl⟩

/-- ferryman/ferrymanref09.Right -/
noncomputable def T64 : List (FuncId × FSpec) := []
noncomputable def C64 : Ctx := ctx E T64 [] [(0, [1]), (1, [2])] [] 33 70
noncomputable def B64 : FSpec := inlineK C64 Try.f64
noncomputable def S64 : FSpec := fun args H k => match args, H with
  | [.agg [.int .i64 a, .int .i64 b, .int .u16 x]], [] => aIf (psetB a b x) (k (.ret (.bool (right a b x))) []) none
  | _, _ => none
theorem T64_ok : TabOK Try.prog T64 := TabOK.nil _
theorem C64_ok : CtxOK Try.prog C64 := ctx_ok E_ok E_flds mixed T64_ok
theorem B64_ok : SpecOK Try.prog 64 B64 := inlineK_ok C64_ok Try.func64 (fun _ _ => LoopsOK.none _)
theorem N64 (a b x : Int) (k : KE) : B64 [.agg [.int .i64 a, .int .i64 b, .int .u16 x]] [] k =
    aIf (decide (a ≥ 0))
  (aIf (decide (a ≤ 15))
    (aIf (decide (b ≥ 0))
      (aIf (decide (b ≤ IntKind.i64.wrap (16 - a)))
        (aIf (decide (b < 0)) none
          (k (AEnd.ret (AV.bool (decide (IntKind.i64.wrap x < IntKind.i64.wrap (1 * 2 ^ min b.toNat 64))))) []))
        (k (AEnd.ret (AV.bool false)) []))
      (k (AEnd.ret (AV.bool false)) []))
    (k (AEnd.ret (AV.bool false)) []))
  (k (AEnd.ret (AV.bool false)) []) := by kernel_rfl
theorem S64_ok : SpecOK Try.prog 64 S64 := by
  refine B64_ok.turn fun args H => ?_
  unfold S64
  split
  · rename_i a b x
    rcases Bool.eq_false_or_eq_true (psetB a b x) with hp | hp
    · refine .inr fun k => ?_
      rw [aIf_pos hp, N64]
      exact right_law hp k
    · exact .inl fun k => by rw [aIf_neg hp]
  · exact .inl fun k => rfl
theorem En64 : Enters Try.prog 64 := ⟨_, Try.func64, by decide, rfl⟩

/-- ferryman/ferrymanref09.a -/
noncomputable def T66 : List (FuncId × FSpec) := []
noncomputable def C66 : Ctx := ctx E T66 [] [(0, [0, 1]), (1, [4])] [] 10 70
noncomputable def B66 : FSpec := inlineK C66 Try.f66
noncomputable def S66 : FSpec := fun args H k => match args, H with
  | [.int .i64 a, .int .u16 x], [] => aIf (offB a x) (k (.ret (.int .i64 (x / 2 ^ (16 - a).toNat))) []) none
  | _, _ => none
theorem T66_ok : TabOK Try.prog T66 := TabOK.nil _
theorem C66_ok : CtxOK Try.prog C66 := ctx_ok E_ok E_flds mixed T66_ok
theorem B66_ok : SpecOK Try.prog 66 B66 := inlineK_ok C66_ok Try.func66 (fun _ _ => LoopsOK.none _)
theorem N66 (a x : Int) (k : KE) : B66 [.int .i64 a, .int .u16 x] [] k =
    aIf (decide (IntKind.i64.wrap (16 - a) < 0)) none
  (k (AEnd.ret (AV.int IntKind.i64 ((IntKind.i64.wrap x).fdiv (2 ^ min (IntKind.i64.wrap (16 - a)).toNat 64)))) []) := by kernel_rfl
theorem S66_ok : SpecOK Try.prog 66 S66 := by
  refine B66_ok.turn fun args H => ?_
  unfold S66
  split
  · rename_i a x
    rcases Bool.eq_false_or_eq_true (offB a x) with hp | hp
    · refine .inr fun k => ?_
      rw [aIf_pos hp, N66]
      exact a_law hp k
    · exact .inl fun k => by rw [aIf_neg hp]
  · exact .inl fun k => rfl
theorem En66 : Enters Try.prog 66 := ⟨_, Try.func66, by decide, rfl⟩

/-- ferryman/ferrymanref09.Of -/
noncomputable def T45 : List (FuncId × FSpec) := [(64, S64), (66, S66)]
noncomputable def C45 : Ctx := ctx E T45 [] [(0, [0, 1, 2]), (1, [0, 1, 2, 13]), (2, [6, 7, 8]), (3, [0, 1, 2, 21]), (4, [6, 7, 8]), (5, [6, 7, 8])] [] 33 70
noncomputable def B45 : FSpec := inlineK C45 Try.f45
noncomputable def S45 : FSpec := fun args H k => match args, H with
  | [.int .i64 a, .int .i64 b, .int .u16 x], [] => aIf (psetB a b x) (aIf (right a b 0) (aIf (mine a x) (k (.ret (.tup [.int .u16 (psid a b x), .bool true, .int .i64 0])) []) (k (.ret (.tup [.int .u16 0, .bool false, .int .i64 0])) [])) (k (.ret (.tup [.int .u16 0, .bool false, .int .i64 90])) [])) none
  | _, _ => none
theorem T45_ok : TabOK Try.prog T45 := TabOK.cons En64 S64_ok (TabOK.cons En66 S66_ok (TabOK.nil _))
theorem C45_ok : CtxOK Try.prog C45 := ctx_ok E_ok E_flds mixed T45_ok
theorem B45_ok : SpecOK Try.prog 45 B45 := inlineK_ok C45_ok Try.func45 (fun _ _ => LoopsOK.none _)
theorem N45 (a b x : Int) (k : KE) : B45 [.int .i64 a, .int .i64 b, .int .u16 x] [] k =
    aIf (Pl.psetB a b 0)
  (aIf (!Pl.right a b 0) (k (AEnd.ret (AV.tup [AV.int IntKind.u16 0, AV.bool false, AV.int IntKind.i64 90])) [])
    (aIf (decide (a > 0))
      (aIf (Pl.offB a x)
        (aIf (x / 2 ^ (16 - a).toNat == 0)
          (k (AEnd.ret (AV.tup [AV.int IntKind.u16 0, AV.bool false, AV.int IntKind.i64 0])) [])
          (aIf (decide (IntKind.i64.wrap (IntKind.i64.wrap (16 - a) - b) < 0)) none
            (aIf (decide (b < 0)) none
              (aIf (IntKind.i64.wrap (1 * 2 ^ min b.toNat 64) == 0) none
                (k
                  (AEnd.ret
                    (AV.tup
                      [AV.int IntKind.u16
                          (IntKind.u16.wrap
                            (((IntKind.i64.wrap x).fdiv
                                  (2 ^ min (IntKind.i64.wrap (IntKind.i64.wrap (16 - a) - b)).toNat 64)).tmod
                              (IntKind.i64.wrap (1 * 2 ^ min b.toNat 64)))),
                        AV.bool true, AV.int IntKind.i64 0]))
                  [])))))
        none)
      (aIf (decide (IntKind.i64.wrap (IntKind.i64.wrap (16 - a) - b) < 0)) none
        (aIf (decide (b < 0)) none
          (aIf (IntKind.i64.wrap (1 * 2 ^ min b.toNat 64) == 0) none
            (k
              (AEnd.ret
                (AV.tup
                  [AV.int IntKind.u16
                      (IntKind.u16.wrap
                        (((IntKind.i64.wrap x).fdiv
                              (2 ^ min (IntKind.i64.wrap (IntKind.i64.wrap (16 - a) - b)).toNat 64)).tmod
                          (IntKind.i64.wrap (1 * 2 ^ min b.toNat 64)))),
                    AV.bool true, AV.int IntKind.i64 0]))
              []))))))
  none := by kernel_rfl
theorem S45_ok : SpecOK Try.prog 45 S45 := by
  refine B45_ok.turn fun args H => ?_
  unfold S45
  split
  · rename_i a b x
    rcases Bool.eq_false_or_eq_true (psetB a b x) with hp | hp
    · refine .inr fun k => ?_
      rw [aIf_pos hp, N45]
      exact of_ref hp k
    · exact .inl fun k => by rw [aIf_neg hp]
  · exact .inl fun k => rfl
theorem En45 : Enters Try.prog 45 := ⟨_, Try.func45, by decide, rfl⟩

/-- ferryman/ferrymanref09.Has -/
noncomputable def T46 : List (FuncId × FSpec) := [(45, S45), (64, S64)]
noncomputable def C46 : Ctx := ctx E T46 [] [(0, [1, 2]), (1, [1, 2, 11]), (2, [4, 5]), (3, [2, 6, 7]), (4, [4, 5])] [] 29 70
noncomputable def B46 : FSpec := inlineK C46 Try.f46
noncomputable def S46 : FSpec := fun args H k => match args, H with
  | [.agg [.int .i64 a, .int .i64 b, .int .u16 p], .int .u16 x], [] => aIf (psetB a b p && psetB a b x) (aIf (right a b p) (k (.ret (.tup [.bool (mine a x && (psid a b x == p)), .int .i64 0])) []) (k (.ret (.tup [.bool false, .int .i64 90])) [])) none
  | _, _ => none
theorem T46_ok : TabOK Try.prog T46 := TabOK.cons En45 S45_ok (TabOK.cons En64 S64_ok (TabOK.nil _))
theorem C46_ok : CtxOK Try.prog C46 := ctx_ok E_ok E_flds mixed T46_ok
theorem B46_ok : SpecOK Try.prog 46 B46 := inlineK_ok C46_ok Try.func46 (fun _ _ => LoopsOK.none _)
theorem N46 (a b p x : Int) (k : KE) : B46 [.agg [.int .i64 a, .int .i64 b, .int .u16 p], .int .u16 x] [] k =
    aIf (Pl.psetB a b p)
  (aIf (!Pl.right a b p) (k (AEnd.ret (AV.tup [AV.bool false, AV.int IntKind.i64 90])) [])
    (aIf (Pl.psetB a b x)
      (aIf (Pl.right a b 0)
        (aIf (Pl.mine a x) (k (AEnd.ret (AV.tup [AV.bool (Pl.psid a b x == p), AV.int IntKind.i64 0])) [])
          (k (AEnd.ret (AV.tup [AV.bool false, AV.int IntKind.i64 0])) []))
        (k (AEnd.ret (AV.tup [AV.bool false, AV.int IntKind.i64 0])) []))
      none))
  none := by kernel_rfl
theorem S46_ok : SpecOK Try.prog 46 S46 := by
  refine B46_ok.turn fun args H => ?_
  unfold S46
  split
  · rename_i a b p x
    rcases Bool.eq_false_or_eq_true (psetB a b p && psetB a b x) with hp | hp
    · refine .inr fun k => ?_
      rw [aIf_pos hp, N46]
      exact has_ref hp k
    · exact .inl fun k => by rw [aIf_neg hp]
  · exact .inl fun k => rfl
theorem En46 : Enters Try.prog 46 := ⟨_, Try.func46, by decide, rfl⟩

/-- ferryman/ferrymanref09.Check -/
noncomputable def T48 : List (FuncId × FSpec) := [(64, S64)]
noncomputable def C48 : Ctx := ctx E T48 [] [(0, [1]), (1, [5]), (2, [2]), (3, [2])] [] 6 70
noncomputable def B48 : FSpec := inlineK C48 Try.f48
noncomputable def S48 : FSpec := fun args H k => match args, H with
  | [.agg [.int .i64 a, .int .i64 b, .int .u16 x]], [] => aIf (psetB a b x) (aIf (right a b x) (k (.ret (.int .i64 0)) []) (k (.ret (.int .i64 90)) [])) none
  | _, _ => none
theorem T48_ok : TabOK Try.prog T48 := TabOK.cons En64 S64_ok (TabOK.nil _)
theorem C48_ok : CtxOK Try.prog C48 := ctx_ok E_ok E_flds mixed T48_ok
theorem B48_ok : SpecOK Try.prog 48 B48 := inlineK_ok C48_ok Try.func48 (fun _ _ => LoopsOK.none _)
theorem N48 (a b x : Int) (k : KE) : B48 [.agg [.int .i64 a, .int .i64 b, .int .u16 x]] [] k =
    aIf (Pl.psetB a b x)
  (aIf (!Pl.right a b x) (k (AEnd.ret (AV.int IntKind.i64 90)) []) (k (AEnd.ret (AV.int IntKind.i64 0)) [])) none := by kernel_rfl
theorem S48_ok : SpecOK Try.prog 48 S48 := by
  refine B48_ok.turn fun args H => ?_
  unfold S48
  split
  · rename_i a b x
    rcases Bool.eq_false_or_eq_true (psetB a b x) with hp | hp
    · refine .inr fun k => ?_
      rw [aIf_pos hp, N48]
      exact check_ref hp k
    · exact .inl fun k => by rw [aIf_neg hp]
  · exact .inl fun k => rfl
theorem En48 : Enters Try.prog 48 := ⟨_, Try.func48, by decide, rfl⟩

/-- ferryman/ferrymanlaw09.PortsetOf -/
noncomputable def V36 : FSpec := fun args H k => match args, H with
  | [.int .i64 a, .int .i64 b, .int .u16 x], [] => aIf (psetB a b x) (k (.ret (.tup [.int .u16 (ofN a b x), .bool (ofB a b x), .int .i64 (ofE a b 0)])) []) none
  | _, _ => none
theorem V36_ok : SpecOK Try.prog 36 V36 := by
  refine S36_ok.turn fun args H => ?_
  unfold V36
  split
  · rename_i a b x
    rcases Bool.eq_false_or_eq_true (psetB a b x) with hp | hp
    · refine .inr fun k => ?_
      unfold S36
      simp only [hp, aIf_true]
      unfold ofN ofB ofE; cases right a b 0 <;> cases mine a x <;> rfl
    · exact .inl fun k => by rw [aIf_neg hp]
  · exact .inl fun k => rfl
noncomputable def V45 : FSpec := fun args H k => match args, H with
  | [.int .i64 a, .int .i64 b, .int .u16 x], [] => aIf (psetB a b x) (k (.ret (.tup [.int .u16 (ofN a b x), .bool (ofB a b x), .int .i64 (ofE a b 0)])) []) none
  | _, _ => none
theorem V45_ok : SpecOK Try.prog 45 V45 := by
  refine S45_ok.turn fun args H => ?_
  unfold V45
  split
  · rename_i a b x
    rcases Bool.eq_false_or_eq_true (psetB a b x) with hp | hp
    · refine .inr fun k => ?_
      unfold S45
      simp only [hp, aIf_true]
      unfold ofN ofB ofE; cases right a b 0 <;> cases mine a x <;> rfl
    · exact .inl fun k => by rw [aIf_neg hp]
  · exact .inl fun k => rfl
noncomputable def V34 : FSpec := fun args H k => match args, H with
  | [.agg [.int .i64 a, .int .i64 b, .int .u16 p], .int .u16 x], [] => aIf (psetB a b p && psetB a b x) (k (.ret (.tup [.bool (hasB a b p x), .int .i64 (ofE a b p)])) []) none
  | _, _ => none
theorem V34_ok : SpecOK Try.prog 34 V34 := by
  refine S34_ok.turn fun args H => ?_
  unfold V34
  split
  · rename_i a b p x
    rcases Bool.eq_false_or_eq_true (psetB a b p && psetB a b x) with hp | hp
    · refine .inr fun k => ?_
      unfold S34
      simp only [hp, aIf_true]
      unfold hasB ofE; cases right a b p <;> rfl
    · exact .inl fun k => by rw [aIf_neg hp]
  · exact .inl fun k => rfl
noncomputable def V46 : FSpec := fun args H k => match args, H with
  | [.agg [.int .i64 a, .int .i64 b, .int .u16 p], .int .u16 x], [] => aIf (psetB a b p && psetB a b x) (k (.ret (.tup [.bool (hasB a b p x), .int .i64 (ofE a b p)])) []) none
  | _, _ => none
theorem V46_ok : SpecOK Try.prog 46 V46 := by
  refine S46_ok.turn fun args H => ?_
  unfold V46
  split
  · rename_i a b p x
    rcases Bool.eq_false_or_eq_true (psetB a b p && psetB a b x) with hp | hp
    · refine .inr fun k => ?_
      unfold S46
      simp only [hp, aIf_true]
      unfold hasB ofE; cases right a b p <;> rfl
    · exact .inl fun k => by rw [aIf_neg hp]
  · exact .inl fun k => rfl
noncomputable def V47 : FSpec := fun args H k => match args, H with
  | [.agg [.int .i64 a, .int .i64 b, .int .u16 x]], [] => aIf (psetB a b x) (k (.ret (.int .i64 (ofE a b x))) []) none
  | _, _ => none
theorem V47_ok : SpecOK Try.prog 47 V47 := by
  refine S47_ok.turn fun args H => ?_
  unfold V47
  split
  · rename_i a b x
    rcases Bool.eq_false_or_eq_true (psetB a b x) with hp | hp
    · refine .inr fun k => ?_
      unfold S47
      simp only [hp, aIf_true]
      unfold ofE; cases right a b x <;> rfl
    · exact .inl fun k => by rw [aIf_neg hp]
  · exact .inl fun k => rfl
noncomputable def V48 : FSpec := fun args H k => match args, H with
  | [.agg [.int .i64 a, .int .i64 b, .int .u16 x]], [] => aIf (psetB a b x) (k (.ret (.int .i64 (ofE a b x))) []) none
  | _, _ => none
theorem V48_ok : SpecOK Try.prog 48 V48 := by
  refine S48_ok.turn fun args H => ?_
  unfold V48
  split
  · rename_i a b x
    rcases Bool.eq_false_or_eq_true (psetB a b x) with hp | hp
    · refine .inr fun k => ?_
      unfold S48
      simp only [hp, aIf_true]
      unfold ofE; cases right a b x <;> rfl
    · exact .inl fun k => by rw [aIf_neg hp]
  · exact .inl fun k => rfl
noncomputable def T13 : List (FuncId × FSpec) := [(34, V34), (35, S35), (36, V36), (45, V45), (46, V46), (47, V47), (48, V48)]
noncomputable def C13 : Ctx := ctx E T13 [] [(0, [1, 2]), (1, [1, 2, 5, 6, 7]), (2, [1, 2, 5, 6, 7, 8, 9, 10]), (3, [1, 2, 5, 6, 7, 8, 9, 10, 11, 12]), (4, [2, 5, 6, 7, 8, 9, 10, 11, 12, 13, 14]), (5, [4])] [] 80 70
noncomputable def S13 : FSpec := inlineK C13 Try.f13
theorem T13_ok : TabOK Try.prog T13 := TabOK.cons En34 V34_ok (TabOK.cons En35 S35_ok (TabOK.cons En36 V36_ok (TabOK.cons En45 V45_ok (TabOK.cons En46 V46_ok (TabOK.cons En47 V47_ok (TabOK.cons En48 V48_ok (TabOK.nil _)))))))
theorem C13_ok : CtxOK Try.prog C13 := ctx_ok E_ok E_flds mixed T13_ok
theorem S13_ok : SpecOK Try.prog 13 S13 := inlineK_ok C13_ok Try.func13 (fun _ _ => LoopsOK.none _)
theorem En13 : Enters Try.prog 13 := ⟨_, Try.func13, by decide, rfl⟩

end Go.Proofs.Ytkiipegoooldiaa
