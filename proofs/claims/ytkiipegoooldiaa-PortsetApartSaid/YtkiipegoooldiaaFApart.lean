import Derived.Test.YtkiipegoooldiaaA18
import Derived.Test.YtkiipegoooldiaaRows
import Derived.Test.YtkiipegoooldiaaPPort
namespace Go.Proofs.Ytkiipegoooldiaa
open Go.Abs Go.Pl

noncomputable def E : Env := envOf Try.prog
theorem E_ok : EnvOK Try.prog E := envOf_ok _
theorem E_flds : FieldsOK E := fieldsB_ok (by kernel_rfl)
theorem mixed : Try.prog.follows .mixedOrders = true := by kernel_rfl
/-- ferryman/portset.Check -/
noncomputable def T47 : List (FuncId × FSpec) := []
noncomputable def C47 : Ctx := ctx E T47 [] [(0, [1]), (1, [33]), (2, [2]), (3, [2])] [] 34 70
noncomputable def B47 : FSpec := inlineK C47 Try.f47
noncomputable def S47 : FSpec := fun args H k => match args, H with
  | [.agg [.int .i64 a, .int .i64 b, .int .u16 x]], [] => aIf (psetB a b x) (aIf (right a b x) (k (.ret (.int .i64 0)) []) (k (.ret (.int .i64 90)) [])) none
  | _, _ => none
theorem T47_ok : TabOK Try.prog T47 := TabOK.nil _
theorem C47_ok : CtxOK Try.prog C47 := ctx_ok E_ok E_flds mixed T47_ok
theorem B47_ok : SpecOK Try.prog 47 B47 := inlineK_ok C47_ok Try.func47 (fun _ _ => LoopsOK.none _)
theorem N47 (a b x : Int) (k : KE) : B47 [.agg [.int .i64 a, .int .i64 b, .int .u16 x]] [] k =
    aIf (decide (a < 0)) (k (AEnd.ret (AV.int IntKind.i64 90)) [])
    (aIf (decide (a > 15)) (k (AEnd.ret (AV.int IntKind.i64 90)) [])
      (aIf (decide (b < 0)) (k (AEnd.ret (AV.int IntKind.i64 90)) [])
        (aIf (decide (b > IntKind.i64.wrap (16 - a))) (k (AEnd.ret (AV.int IntKind.i64 90)) [])
          (aIf (decide (IntKind.u64.wrap b < 0)) none
            (aIf ((IntKind.u32.wrap x).fdiv (2 ^ min (IntKind.u64.wrap b).toNat 32) != 0)
              (k (AEnd.ret (AV.int IntKind.i64 90)) []) (k (AEnd.ret (AV.int IntKind.i64 0)) [])))))) := by kernel_rfl
theorem S47_ok : SpecOK Try.prog 47 S47 := by
  refine B47_ok.turn fun args H => ?_
  unfold S47
  split
  · rename_i a b x
    rcases Bool.eq_false_or_eq_true (psetB a b x) with hp | hp
    · refine .inr fun k => ?_
      rw [aIf_pos hp, N47]
      exact check_law hp _ _
    · exact .inl fun k => by rw [aIf_neg hp]
  · exact .inl fun k => rfl
theorem En47 : Enters Try.prog 47 := ⟨_, Try.func47, by decide, rfl⟩

/-- ferryman/portset.low -/
noncomputable def T62 : List (FuncId × FSpec) := []
noncomputable def C62 : Ctx := ctx E T62 [] [(0, [1]), (1, [2])] [] 9 70
noncomputable def S62 : FSpec := inlineK C62 Try.f62
theorem T62_ok : TabOK Try.prog T62 := TabOK.nil _
theorem C62_ok : CtxOK Try.prog C62 := ctx_ok E_ok E_flds mixed T62_ok
theorem S62_ok : SpecOK Try.prog 62 S62 := inlineK_ok C62_ok Try.func62 (fun _ _ => LoopsOK.none _)
theorem En62 : Enters Try.prog 62 := ⟨_, Try.func62, by decide, rfl⟩

/-- ferryman/portset.Of -/
noncomputable def T36 : List (FuncId × FSpec) := [(47, S47), (62, S62)]
noncomputable def C36 : Ctx := ctx E T36 [] [(0, [0, 1, 2]), (1, [0, 1, 2, 9]), (2, [0, 1, 2, 9, 10]), (3, [0, 1, 2, 9, 10, 18]), (4, [6, 7, 8]), (5, [0, 1, 9, 11]), (6, [1, 9, 11, 31]), (7, [6, 7, 8]), (8, [6, 7, 8])] [] 43 70
noncomputable def B36 : FSpec := inlineK C36 Try.f36
noncomputable def S36 : FSpec := fun args H k => match args, H with
  | [.int .i64 a, .int .i64 b, .int .u16 x], [] => aIf (psetB a b x) (aIf (right a b 0) (aIf (mine a x) (k (.ret (.tup [.int .u16 (psid a b x), .bool true, .int .i64 0])) []) (k (.ret (.tup [.int .u16 0, .bool false, .int .i64 0])) [])) (k (.ret (.tup [.int .u16 0, .bool false, .int .i64 90])) [])) none
  | _, _ => none
theorem T36_ok : TabOK Try.prog T36 := TabOK.cons En47 S47_ok (TabOK.cons En62 S62_ok (TabOK.nil _))
theorem C36_ok : CtxOK Try.prog C36 := ctx_ok E_ok E_flds mixed T36_ok
theorem B36_ok : SpecOK Try.prog 36 B36 := inlineK_ok C36_ok Try.func36 (fun _ _ => LoopsOK.none _)
theorem N36 (a b x : Int) (k : KE) : B36 [.int .i64 a, .int .i64 b, .int .u16 x] [] k =
    aIf (Pl.psetB a b 0)
  (aIf (Pl.right a b 0)
    (aIf (decide (a > 0))
      (aIf (decide (IntKind.u64.wrap (IntKind.i64.wrap (16 - a)) < 0)) none
        (aIf ((IntKind.u32.wrap x).fdiv (2 ^ min (IntKind.u64.wrap (IntKind.i64.wrap (16 - a))).toNat 32) == 0)
          (k (AEnd.ret (AV.tup [AV.int IntKind.u16 0, AV.bool false, AV.int IntKind.i64 0])) [])
          (aIf (decide (IntKind.u64.wrap (IntKind.i64.wrap (IntKind.i64.wrap (16 - a) - b)) < 0)) none
            (aIf (decide (IntKind.u64.wrap b < 0)) none
              (k
                (AEnd.ret
                  (AV.tup
                    [AV.int IntKind.u16
                        (IntKind.u16.wrap
                          (IntKind.u32.wrap
                            ↑(BitVec.ofInt 32
                                    ((IntKind.u32.wrap x).fdiv
                                      (2 ^
                                        min (IntKind.u64.wrap (IntKind.i64.wrap (IntKind.i64.wrap (16 - a) - b))).toNat
                                          32)) &&&
                                  BitVec.ofInt 32
                                    (IntKind.u32.wrap
                                      (IntKind.u32.wrap (1 * 2 ^ min (IntKind.u64.wrap b).toNat 32) - 1))).toNat)),
                      AV.bool true, AV.int IntKind.i64 0]))
                [])))))
      (aIf (decide (IntKind.u64.wrap (IntKind.i64.wrap (IntKind.i64.wrap (16 - a) - b)) < 0)) none
        (aIf (decide (IntKind.u64.wrap b < 0)) none
          (k
            (AEnd.ret
              (AV.tup
                [AV.int IntKind.u16
                    (IntKind.u16.wrap
                      (IntKind.u32.wrap
                        ↑(BitVec.ofInt 32
                                ((IntKind.u32.wrap x).fdiv
                                  (2 ^
                                    min (IntKind.u64.wrap (IntKind.i64.wrap (IntKind.i64.wrap (16 - a) - b))).toNat
                                      32)) &&&
                              BitVec.ofInt 32
                                (IntKind.u32.wrap
                                  (IntKind.u32.wrap (1 * 2 ^ min (IntKind.u64.wrap b).toNat 32) - 1))).toNat)),
                  AV.bool true, AV.int IntKind.i64 0]))
            []))))
    (k (AEnd.ret (AV.tup [AV.int IntKind.u16 0, AV.bool false, AV.int IntKind.i64 90])) []))
  none := by kernel_rfl
theorem S36_ok : SpecOK Try.prog 36 S36 := by
  refine B36_ok.turn fun args H => ?_
  unfold S36
  split
  · rename_i a b x
    rcases Bool.eq_false_or_eq_true (psetB a b x) with hp | hp
    · refine .inr fun k => ?_
      rw [aIf_pos hp, N36]
      exact of_law hp k
    · exact .inl fun k => by rw [aIf_neg hp]
  · exact .inl fun k => rfl
theorem En36 : Enters Try.prog 36 := ⟨_, Try.func36, by decide, rfl⟩

/-- ferryman/portset.Has -/
noncomputable def T34 : List (FuncId × FSpec) := [(36, S36), (47, S47)]
noncomputable def C34 : Ctx := ctx E T34 [] [(0, [1, 2]), (1, [1, 2, 6]), (2, [1, 2, 6, 13]), (3, [4, 5]), (4, [2, 7, 8, 9]), (5, [4, 5])] [] 33 70
noncomputable def B34 : FSpec := inlineK C34 Try.f34
noncomputable def S34 : FSpec := fun args H k => match args, H with
  | [.agg [.int .i64 a, .int .i64 b, .int .u16 p], .int .u16 x], [] => aIf (psetB a b p && psetB a b x) (aIf (right a b p) (k (.ret (.tup [.bool (mine a x && (psid a b x == p)), .int .i64 0])) []) (k (.ret (.tup [.bool false, .int .i64 90])) [])) none
  | _, _ => none
theorem T34_ok : TabOK Try.prog T34 := TabOK.cons En36 S36_ok (TabOK.cons En47 S47_ok (TabOK.nil _))
theorem C34_ok : CtxOK Try.prog C34 := ctx_ok E_ok E_flds mixed T34_ok
theorem B34_ok : SpecOK Try.prog 34 B34 := inlineK_ok C34_ok Try.func34 (fun _ _ => LoopsOK.none _)
theorem N34 (a b p x : Int) (k : KE) : B34 [.agg [.int .i64 a, .int .i64 b, .int .u16 p], .int .u16 x] [] k =
    aIf (Pl.psetB a b p)
  (aIf (Pl.right a b p)
    (aIf (Pl.psetB a b x)
      (aIf (Pl.right a b 0)
        (aIf (Pl.mine a x) (k (AEnd.ret (AV.tup [AV.bool (Pl.psid a b x == p), AV.int IntKind.i64 0])) [])
          (k (AEnd.ret (AV.tup [AV.bool false, AV.int IntKind.i64 0])) []))
        (k (AEnd.ret (AV.tup [AV.bool false, AV.int IntKind.i64 90])) []))
      none)
    (k (AEnd.ret (AV.tup [AV.bool false, AV.int IntKind.i64 90])) []))
  none := by kernel_rfl
theorem S34_ok : SpecOK Try.prog 34 S34 := by
  refine B34_ok.turn fun args H => ?_
  unfold S34
  split
  · rename_i a b p x
    rcases Bool.eq_false_or_eq_true (psetB a b p && psetB a b x) with hp | hp
    · refine .inr fun k => ?_
      rw [aIf_pos hp, N34]
      exact has_law hp k
    · exact .inl fun k => by rw [aIf_neg hp]
  · exact .inl fun k => rfl
theorem En34 : Enters Try.prog 34 := ⟨_, Try.func34, by decide, rfl⟩

/-- ferryman/portset.size -/
noncomputable def T63 : List (FuncId × FSpec) := [(62, S62)]
noncomputable def C63 : Ctx := ctx E T63 [] [(0, [1]), (1, [2])] [] 6 70
noncomputable def S63 : FSpec := inlineK C63 Try.f63
theorem T63_ok : TabOK Try.prog T63 := TabOK.cons En62 S62_ok (TabOK.nil _)
theorem C63_ok : CtxOK Try.prog C63 := ctx_ok E_ok E_flds mixed T63_ok
theorem S63_ok : SpecOK Try.prog 63 S63 := inlineK_ok C63_ok Try.func63 (fun _ _ => LoopsOK.none _)
theorem En63 : Enters Try.prog 63 := ⟨_, Try.func63, by decide, rfl⟩

/-- ferryman/portset.Count -/
noncomputable def T37 : List (FuncId × FSpec) := [(47, S47), (63, S63)]
noncomputable def C37 : Ctx := ctx E T37 [] [(0, [1]), (1, [1, 4]), (2, [1, 4, 9]), (3, [2, 3]), (4, [1, 5]), (5, [1, 5, 13]), (6, [1, 5]), (7, [2, 3])] [] 22 70
noncomputable def B37 : FSpec := inlineK C37 Try.f37
noncomputable def S37 : FSpec := fun args H k => match args, H with
  | [.agg [.int .i64 a, .int .i64 b, .int .u16 x]], [] => aIf (psetB a b x) (aIf (right a b x) (k (.ret (.tup [.int .i64 (count a b), .int .i64 0])) []) (k (.ret (.tup [.int .i64 0, .int .i64 90])) [])) none
  | _, _ => none
theorem T37_ok : TabOK Try.prog T37 := TabOK.cons En47 S47_ok (TabOK.cons En63 S63_ok (TabOK.nil _))
theorem C37_ok : CtxOK Try.prog C37 := ctx_ok E_ok E_flds mixed T37_ok
theorem B37_ok : SpecOK Try.prog 37 B37 := inlineK_ok C37_ok Try.func37 (fun _ _ => LoopsOK.none _)
theorem N37 (a b x : Int) (k : KE) : B37 [.agg [.int .i64 a, .int .i64 b, .int .u16 x]] [] k =
    aIf (Pl.psetB a b x)
  (aIf (Pl.right a b x)
    (aIf (decide (a > 0))
      (aIf (decide (a < 0)) none
        (aIf (decide (IntKind.i64.wrap (IntKind.i64.wrap (16 - a) - b) < 0)) none
          (k
            (AEnd.ret
              (AV.tup
                [AV.int IntKind.i64
                    (IntKind.i64.wrap
                      (IntKind.i64.wrap (IntKind.i64.wrap (1 * 2 ^ min a.toNat 64) - 1) *
                        IntKind.i64.wrap (1 * 2 ^ min (IntKind.i64.wrap (IntKind.i64.wrap (16 - a) - b)).toNat 64))),
                  AV.int IntKind.i64 0]))
            [])))
      (aIf (decide (IntKind.i64.wrap (IntKind.i64.wrap (16 - a) - b) < 0)) none
        (k
          (AEnd.ret
            (AV.tup
              [AV.int IntKind.i64
                  (IntKind.i64.wrap
                    (1 * IntKind.i64.wrap (1 * 2 ^ min (IntKind.i64.wrap (IntKind.i64.wrap (16 - a) - b)).toNat 64))),
                AV.int IntKind.i64 0]))
          [])))
    (k (AEnd.ret (AV.tup [AV.int IntKind.i64 0, AV.int IntKind.i64 90])) []))
  none := by kernel_rfl
theorem S37_ok : SpecOK Try.prog 37 S37 := by
  refine B37_ok.turn fun args H => ?_
  unfold S37
  split
  · rename_i a b x
    rcases Bool.eq_false_or_eq_true (psetB a b x) with hp | hp
    · refine .inr fun k => ?_
      rw [aIf_pos hp, N37]
      exact count_law hp k
    · exact .inl fun k => by rw [aIf_neg hp]
  · exact .inl fun k => rfl
theorem En37 : Enters Try.prog 37 := ⟨_, Try.func37, by decide, rfl⟩

/-- ferryman/portset.At -/
noncomputable def T39 : List (FuncId × FSpec) := [(37, S37), (62, S62), (63, S63)]
noncomputable def C39 : Ctx := ctx E T39 [] [(0, [1, 2]), (1, [1, 2, 6, 7]), (2, [1, 2, 6, 7, 15]), (3, [4, 5]), (4, [1, 2, 23]), (5, [4, 5]), (6, [1, 2, 8]), (7, [1, 2, 8, 30]), (8, [1, 2, 8]), (9, [4, 5])] [] 55 70
noncomputable def S39 : FSpec := inlineK C39 Try.f39
theorem T39_ok : TabOK Try.prog T39 := TabOK.cons En37 S37_ok (TabOK.cons En62 S62_ok (TabOK.cons En63 S63_ok (TabOK.nil _)))
theorem C39_ok : CtxOK Try.prog C39 := ctx_ok E_ok E_flds mixed T39_ok
theorem S39_ok : SpecOK Try.prog 39 S39 := inlineK_ok C39_ok Try.func39 (fun _ _ => LoopsOK.none _)
theorem En39 : Enters Try.prog 39 := ⟨_, Try.func39, by decide, rfl⟩

/-- ferryman/ferrymanlaw09.alive -/
noncomputable def T35 : List (FuncId × FSpec) := [(36, S36), (37, S37), (39, S39)]
noncomputable def C35 : Ctx := ctx E T35 [] [(0, []), (1, [1]), (2, [1, 2, 3]), (3, [2, 3, 4, 5]), (4, [2, 3, 4, 5, 6, 7, 8]), (5, [0])] [] 50 70
noncomputable def B35 : FSpec := inlineK C35 Try.f35
noncomputable def S35 : FSpec := constK (AV.bool true)
theorem T35_ok : TabOK Try.prog T35 := TabOK.cons En36 S36_ok (TabOK.cons En37 S37_ok (TabOK.cons En39 S39_ok (TabOK.nil _)))
theorem C35_ok : CtxOK Try.prog C35 := ctx_ok E_ok E_flds mixed T35_ok
theorem B35_ok : SpecOK Try.prog 35 B35 := inlineK_ok C35_ok Try.func35 (fun _ _ => LoopsOK.none _)
theorem B35_is (k : KE) : B35 [] [] k = k (.ret (AV.bool true)) [] := by kernel_rfl
theorem S35_ok : SpecOK Try.prog 35 S35 := constK_ok B35_ok B35_is
theorem En35 : Enters Try.prog 35 := ⟨_, Try.func35, by decide, rfl⟩

/-- ferryman/ferrymanlaw09.PortsetApart -/
noncomputable def T9 : List (FuncId × FSpec) := [(34, S34), (35, S35), (36, S36)]
noncomputable def C9 : Ctx := ctx E T9 [] [(0, [1, 2, 3]), (1, [1, 2, 3, 7, 8]), (2, [1, 2, 3, 7, 8, 9]), (3, [1, 2, 3, 7, 8, 9]), (4, [1, 2, 3, 7, 8, 10, 11]), (5, [1, 2, 3, 7, 10, 35]), (6, [6]), (7, [1, 3, 7, 10, 12, 13, 14]), (8, [6])] [] 77 70
noncomputable def S9 : FSpec := inlineK C9 Try.f9
theorem T9_ok : TabOK Try.prog T9 := TabOK.cons En34 S34_ok (TabOK.cons En35 S35_ok (TabOK.cons En36 S36_ok (TabOK.nil _)))
theorem C9_ok : CtxOK Try.prog C9 := ctx_ok E_ok E_flds mixed T9_ok
theorem S9_ok : SpecOK Try.prog 9 S9 := inlineK_ok C9_ok Try.func9 (fun _ _ => LoopsOK.none _)
theorem En9 : Enters Try.prog 9 := ⟨_, Try.func9, by decide, rfl⟩

end Go.Proofs.Ytkiipegoooldiaa
