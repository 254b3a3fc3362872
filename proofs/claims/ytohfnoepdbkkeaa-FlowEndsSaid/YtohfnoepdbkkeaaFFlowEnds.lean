import Derived.Test.YtohfnoepdbkkeaaA20
import Derived.Test.YtohfnoepdbkkeaaRows
import Derived.Test.YtohfnoepdbkkeaaPFlow
namespace Go.Proofs.Ytohfnoepdbkkeaa
open Go.Abs Go.Pl

noncomputable def E : Env := envOf Try.prog
theorem E_ok : EnvOK Try.prog E := envOf_ok _
theorem E_flds : FieldsOK E := fieldsB_ok (by kernel_rfl)
theorem mixed : Try.prog.follows .mixedOrders = true := by kernel_rfl
/-- ferryman/flow.has -/
noncomputable def T44 : List (FuncId × FSpec) := []
theorem T44_ok : TabOK Try.prog T44 := TabOK.nil _
noncomputable def C44 : Ctx := (ctx E T44 [] [(0, [0, 1]), (1, [4])] [] 9 70)
theorem C44_ok : CtxOK Try.prog C44 := ctx_ok E_ok E_flds mixed T44_ok
noncomputable def S44 : FSpec := inlineK C44 Try.f44
theorem S44_ok : SpecOK Try.prog 44 S44 := inlineK_ok C44_ok Try.func44 (fun _ _ => LoopsOK.none _)
theorem En44 : Enters Try.prog 44 := ⟨_, Try.func44, by decide, rfl⟩

/-- ferryman/flow.opens -/
noncomputable def T45 : List (FuncId × FSpec) := [(44, S44)]
theorem T45_ok : TabOK Try.prog T45 := TabOK.cons En44 S44_ok (TabOK.nil _)
noncomputable def C45 : Ctx := (ctx E T45 [] [(0, [0]), (1, [2])] [] 10 70)
theorem C45_ok : CtxOK Try.prog C45 := ctx_ok E_ok E_flds mixed T45_ok
noncomputable def S45 : FSpec := inlineK C45 Try.f45
theorem S45_ok : SpecOK Try.prog 45 S45 := inlineK_ok C45_ok Try.func45 (fun _ _ => LoopsOK.none _)
theorem En45 : Enters Try.prog 45 := ⟨_, Try.func45, by decide, rfl⟩

/-- ferryman/flow.Step -/
noncomputable def T26 : List (FuncId × FSpec) := [(44, S44), (45, S45)]
theorem T26_ok : TabOK Try.prog T26 := TabOK.cons En44 S44_ok (TabOK.cons En45 S45_ok (TabOK.nil _))
noncomputable def C26 : Ctx := (ctx E T26 [] [(0, [0, 1, 2]), (1, [0, 1, 2, 8, 9]), (2, [0, 1, 2, 8, 9, 14]), (3, [0, 1, 2, 8, 9, 14, 15]), (4, [0, 1, 2, 8, 9, 14, 17]), (5, [0, 1, 2, 8, 9, 14, 19]), (6, [0, 1, 8, 9, 14, 21]), (7, [0, 1, 8, 9, 14, 23]), (8, [0, 1, 8, 9, 14, 25]), (9, [0, 9, 27]), (10, [6, 7]), (11, [0, 2, 35]), (12, [6, 7]), (13, [6, 7]), (14, [0, 1, 8, 39]), (15, [6, 7]), (16, [0, 8, 41]), (17, [6, 7]), (18, [0, 46]), (19, [6, 7]), (20, [6, 7]), (21, [0, 1, 8, 49]), (22, [6, 7]), (23, [0, 51]), (24, [6, 7]), (25, [6, 7]), (26, [0, 61]), (27, [6, 7]), (28, [6, 7])] [] 63 70)
theorem C26_ok : CtxOK Try.prog C26 := ctx_ok E_ok E_flds mixed T26_ok
noncomputable def S26 : FSpec := inlineK C26 Try.f26
theorem S26_ok : SpecOK Try.prog 26 S26 := inlineK_ok C26_ok Try.func26 (fun _ _ => LoopsOK.none _)
theorem En26 : Enters Try.prog 26 := ⟨_, Try.func26, by decide, rfl⟩
noncomputable def R26 (args : List AV) : Res := S26 args [] encK
noncomputable def V26 : FSpec := leafK (.tup [.int .i64, .bool]) R26
theorem V26_ok : SpecOK Try.prog 26 V26 := leafK_ok S26_ok (fun _ => rfl)
theorem Q26 (s f : Int) (b : Bool) : S26 [.int .i64 s, .bool b, .int .u8 f] [] encK =
  aIf (s == 1) (some (AEnd.ret (AV.tup [AV.int IntKind.i64 s, AV.bool true]), []))
  (aIf (s == 2) (some (AEnd.ret (AV.tup [AV.int IntKind.i64 s, AV.bool true]), []))
    (aIf (s == 3)
      (aIf (IntKind.u8.wrap (↑(BitVec.ofInt 8 f &&& BitVec.ofInt 8 2).toNat : Int) != 0)
        (aIf (!IntKind.u8.wrap (↑(BitVec.ofInt 8 f &&& BitVec.ofInt 8 4).toNat : Int) != 0)
          (aIf (!b) (some (AEnd.ret (AV.tup [AV.int IntKind.i64 4, AV.bool true]), []))
            (aIf (IntKind.u8.wrap (↑(BitVec.ofInt 8 f &&& BitVec.ofInt 8 2).toNat : Int) != 0)
              (some
                (AEnd.ret
                    (AV.tup
                      [AV.int IntKind.i64 s,
                        AV.bool !IntKind.u8.wrap (↑(BitVec.ofInt 8 f &&& BitVec.ofInt 8 4).toNat : Int) != 0]),
                  []))
              (some (AEnd.ret (AV.tup [AV.int IntKind.i64 s, AV.bool false]), []))))
          (aIf (IntKind.u8.wrap (↑(BitVec.ofInt 8 f &&& BitVec.ofInt 8 2).toNat : Int) != 0)
            (some
              (AEnd.ret
                  (AV.tup
                    [AV.int IntKind.i64 s,
                      AV.bool !IntKind.u8.wrap (↑(BitVec.ofInt 8 f &&& BitVec.ofInt 8 4).toNat : Int) != 0]),
                []))
            (some (AEnd.ret (AV.tup [AV.int IntKind.i64 s, AV.bool false]), []))))
        (aIf (IntKind.u8.wrap (↑(BitVec.ofInt 8 f &&& BitVec.ofInt 8 2).toNat : Int) != 0)
          (some
            (AEnd.ret
                (AV.tup
                  [AV.int IntKind.i64 s,
                    AV.bool !IntKind.u8.wrap (↑(BitVec.ofInt 8 f &&& BitVec.ofInt 8 4).toNat : Int) != 0]),
              []))
          (some (AEnd.ret (AV.tup [AV.int IntKind.i64 s, AV.bool false]), []))))
      (aIf (s == 4)
        (aIf (IntKind.u8.wrap (↑(BitVec.ofInt 8 f &&& BitVec.ofInt 8 4).toNat : Int) != 0)
          (some (AEnd.ret (AV.tup [AV.int IntKind.i64 8, AV.bool true]), []))
          (aIf (IntKind.u8.wrap (↑(BitVec.ofInt 8 f &&& BitVec.ofInt 8 1).toNat : Int) != 0)
            (aIf b (some (AEnd.ret (AV.tup [AV.int IntKind.i64 5, AV.bool true]), []))
              (aIf (IntKind.u8.wrap (↑(BitVec.ofInt 8 f &&& BitVec.ofInt 8 1).toNat : Int) != 0)
                (some (AEnd.ret (AV.tup [AV.int IntKind.i64 6, AV.bool true]), []))
                (some (AEnd.ret (AV.tup [AV.int IntKind.i64 s, AV.bool true]), []))))
            (aIf (IntKind.u8.wrap (↑(BitVec.ofInt 8 f &&& BitVec.ofInt 8 1).toNat : Int) != 0)
              (some (AEnd.ret (AV.tup [AV.int IntKind.i64 6, AV.bool true]), []))
              (some (AEnd.ret (AV.tup [AV.int IntKind.i64 s, AV.bool true]), [])))))
        (aIf (s == 5)
          (aIf (IntKind.u8.wrap (↑(BitVec.ofInt 8 f &&& BitVec.ofInt 8 4).toNat : Int) != 0)
            (some (AEnd.ret (AV.tup [AV.int IntKind.i64 8, AV.bool true]), []))
            (aIf (IntKind.u8.wrap (↑(BitVec.ofInt 8 f &&& BitVec.ofInt 8 1).toNat : Int) != 0)
              (aIf (b == (s == 6)) (some (AEnd.ret (AV.tup [AV.int IntKind.i64 7, AV.bool true]), []))
                (some (AEnd.ret (AV.tup [AV.int IntKind.i64 s, AV.bool true]), [])))
              (some (AEnd.ret (AV.tup [AV.int IntKind.i64 s, AV.bool true]), []))))
          (aIf (s == 6)
            (aIf (IntKind.u8.wrap (↑(BitVec.ofInt 8 f &&& BitVec.ofInt 8 4).toNat : Int) != 0)
              (some (AEnd.ret (AV.tup [AV.int IntKind.i64 8, AV.bool true]), []))
              (aIf (IntKind.u8.wrap (↑(BitVec.ofInt 8 f &&& BitVec.ofInt 8 1).toNat : Int) != 0)
                (aIf (b == (s == 6)) (some (AEnd.ret (AV.tup [AV.int IntKind.i64 7, AV.bool true]), []))
                  (some (AEnd.ret (AV.tup [AV.int IntKind.i64 s, AV.bool true]), [])))
                (some (AEnd.ret (AV.tup [AV.int IntKind.i64 s, AV.bool true]), []))))
            (aIf (s == 8)
              (aIf (!IntKind.u8.wrap (↑(BitVec.ofInt 8 f &&& BitVec.ofInt 8 4).toNat : Int) != 0)
                (some (AEnd.ret (AV.tup [AV.int IntKind.i64 4, AV.bool true]), []))
                (some (AEnd.ret (AV.tup [AV.int IntKind.i64 s, AV.bool false]), [])))
              (some (AEnd.ret (AV.tup [AV.int IntKind.i64 s, AV.bool false]), [])))))))) := by kernel_rfl
theorem R26_ok (s f : Int) (b : Bool) (h : inK .i64 s = true) : shOK (.tup [.int .i64, .bool]) (R26 [.int .i64 s, .bool b, .int .u8 f]) = true := by
  show shOK _ (S26 _ [] encK) = true
  rw [Q26]
  simp only [shOK_aIf, shOK_ret, has_tup, hasL_cons, hasL_nil, List.getD_cons_zero, List.getD_cons_succ, has_int, has_bool, h]
  simp [inK_i64]
theorem R26_val (s f : Int) (b : Bool) (h : inK .i64 s = true) : ∃ t l, R26 [.int .i64 s, .bool b, .int .u8 f] = some (.ret (.tup [.int .i64 t, .bool l]), []) ∧ inK .i64 t = true := val_ib (R26_ok s f b h)

/-- ferryman/flow.Begin -/
noncomputable def T28 : List (FuncId × FSpec) := [(45, S45)]
theorem T28_ok : TabOK Try.prog T28 := TabOK.cons En45 S45_ok (TabOK.nil _)
noncomputable def C28 : Ctx := (ctx E T28 [] [(0, [0, 1]), (1, [1, 6]), (2, [1, 6, 7]), (3, [1, 6, 9]), (4, [1, 6, 11]), (5, [1, 13]), (6, [4, 5]), (7, [4, 5]), (8, [17]), (9, [4, 5]), (10, [4, 5]), (11, [4, 5])] [] 18 70)
theorem C28_ok : CtxOK Try.prog C28 := ctx_ok E_ok E_flds mixed T28_ok
noncomputable def S28 : FSpec := inlineK C28 Try.f28
theorem S28_ok : SpecOK Try.prog 28 S28 := inlineK_ok C28_ok Try.func28 (fun _ _ => LoopsOK.none _)
theorem En28 : Enters Try.prog 28 := ⟨_, Try.func28, by decide, rfl⟩
noncomputable def R28 (args : List AV) : Res := S28 args [] encK
noncomputable def V28 : FSpec := leafK (.tup [.int .i64, .int .i64]) R28
theorem V28_ok : SpecOK Try.prog 28 V28 := leafK_ok S28_ok (fun _ => rfl)
theorem Q28 (p f : Int) : S28 [.int .u8 p, .int .u8 f] [] encK =
  aIf (p == 17) (some (AEnd.ret (AV.tup [AV.int IntKind.i64 1, AV.int IntKind.i64 0]), []))
  (aIf (p == 1) (some (AEnd.ret (AV.tup [AV.int IntKind.i64 2, AV.int IntKind.i64 0]), []))
    (aIf (p == 58) (some (AEnd.ret (AV.tup [AV.int IntKind.i64 2, AV.int IntKind.i64 0]), []))
      (aIf (p == 6)
        (aIf (IntKind.u8.wrap (↑(BitVec.ofInt 8 f &&& BitVec.ofInt 8 2).toNat : Int) != 0)
          (aIf (!!IntKind.u8.wrap (↑(BitVec.ofInt 8 f &&& BitVec.ofInt 8 4).toNat : Int) != 0)
            (some (AEnd.ret (AV.tup [AV.int IntKind.i64 0, AV.int IntKind.i64 191]), []))
            (some (AEnd.ret (AV.tup [AV.int IntKind.i64 3, AV.int IntKind.i64 0]), [])))
          (some (AEnd.ret (AV.tup [AV.int IntKind.i64 0, AV.int IntKind.i64 191]), [])))
        (some (AEnd.ret (AV.tup [AV.int IntKind.i64 0, AV.int IntKind.i64 64]), []))))) := by kernel_rfl
theorem R28_ok (p f : Int) : shOK (.tup [.int .i64, .int .i64]) (R28 [.int .u8 p, .int .u8 f]) = true := by
  show shOK _ (S28 _ [] encK) = true
  rw [Q28]
  simp only [shOK_aIf, shOK_ret, has_tup, hasL_cons, hasL_nil, List.getD_cons_zero, List.getD_cons_succ, has_int]
  simp [inK_i64]

/-- ferryman/flow.Check -/
noncomputable def T33 : List (FuncId × FSpec) := []
theorem T33_ok : TabOK Try.prog T33 := TabOK.nil _
noncomputable def C33 : Ctx := (ctx E T33 [] [(0, [1]), (1, [15, 16]), (2, [15, 16, 17]), (3, [4, 15, 16]), (4, [15, 16, 24]), (5, [2]), (6, [15, 16]), (7, [2]), (1000002, [15, 16])] [] 26 70)
theorem C33_ok : CtxOK Try.prog C33 := ctx_ok E_ok E_flds mixed T33_ok
noncomputable def S33 : FSpec := inlineK C33 Try.f33
theorem S33_ok : SpecOK Try.prog 33 S33 := inlineK_ok C33_ok Try.func33 (fun _ _ => LoopsOK.none _)
theorem En33 : Enters Try.prog 33 := ⟨_, Try.func33, by decide, rfl⟩
noncomputable def R33 (args : List AV) : Res := S33 args [] encK
noncomputable def V33 : FSpec := leafK (.int .i64) R33
theorem V33_ok : SpecOK Try.prog 33 V33 := leafK_ok S33_ok (fun _ => rfl)
theorem Q33 (a b c d e : Int) : S33 [.agg [.int .i64 a, .int .i64 b, .int .i64 c, .int .i64 d, .int .i64 e]] [] encK =
  aIf (decide (a < 1)) (some (AEnd.ret (AV.int IntKind.i64 190), []))
  (aIf (decide (a > 2147483648)) (some (AEnd.ret (AV.int IntKind.i64 190), []))
    (aIf (decide (b < 1)) (some (AEnd.ret (AV.int IntKind.i64 190), []))
      (aIf (decide (b > 2147483648)) (some (AEnd.ret (AV.int IntKind.i64 190), []))
        (aIf (decide (c < 1)) (some (AEnd.ret (AV.int IntKind.i64 190), []))
          (aIf (decide (c > 2147483648)) (some (AEnd.ret (AV.int IntKind.i64 190), []))
            (aIf (decide (d < 1)) (some (AEnd.ret (AV.int IntKind.i64 190), []))
              (aIf (decide (d > 2147483648)) (some (AEnd.ret (AV.int IntKind.i64 190), []))
                (aIf (decide (e < 1)) (some (AEnd.ret (AV.int IntKind.i64 190), []))
                  (aIf (decide (e > 2147483648)) (some (AEnd.ret (AV.int IntKind.i64 190), []))
                    (some (AEnd.ret (AV.int IntKind.i64 0), []))))))))))) := by kernel_rfl
theorem R33_is (a b c d e : Int) : ∃ n, (n = 0 ∨ n = 190) ∧ R33 [.agg [.int .i64 a, .int .i64 b, .int .i64 c, .int .i64 d, .int .i64 e]] = some (.ret (.int .i64 n), []) := by
  have step : ∀ (b : Bool) (x : Res), (∃ n, (n = 0 ∨ n = 190) ∧ x = some (.ret (.int .i64 n), [])) → ∃ n, (n = 0 ∨ n = 190) ∧ aIf b (some (.ret (.int .i64 190), [])) x = some (.ret (.int .i64 n), []) := by
    intro b x h
    cases b
    · exact h
    · exact ⟨190, .inr rfl, rfl⟩
  show ∃ n, (n = 0 ∨ n = 190) ∧ S33 _ [] encK = some (.ret (.int .i64 n), [])
  rw [Q33]
  iterate 10 refine step _ _ ?_
  exact ⟨0, .inl rfl, rfl⟩
theorem R33_ok (a b c d e : Int) : shOK (.int .i64) (R33 [.agg [.int .i64 a, .int .i64 b, .int .i64 c, .int .i64 d, .int .i64 e]]) = true := by
  obtain ⟨n, hn, hr⟩ := R33_is a b c d e
  rw [hr, shOK_ret, has_int]
  rcases hn with rfl | rfl <;> rfl

/-- ferryman/flow.Life -/
noncomputable def T31 : List (FuncId × FSpec) := [(33, V33)]
theorem T31_ok : TabOK Try.prog T31 := TabOK.cons En33 V33_ok (TabOK.nil _)
noncomputable def C31 : Ctx := (ctx E T31 [] [(0, [1, 2]), (1, [1, 2, 6]), (2, [1, 2, 6, 10]), (3, [4, 5]), (4, [2, 12]), (5, [2, 12, 13]), (6, [4, 5]), (7, [2, 12, 17]), (8, [4, 5]), (9, [2, 12, 21]), (10, [4, 5]), (11, [2, 12, 25]), (12, [2, 12, 25]), (13, [2, 12, 25]), (14, [4, 5]), (15, [2, 12, 31]), (16, [2, 31]), (17, [4, 5]), (18, [4, 5])] [] 36 70)
theorem C31_ok : CtxOK Try.prog C31 := ctx_ok E_ok E_flds mixed T31_ok
noncomputable def S31 : FSpec := inlineK C31 Try.f31
theorem S31_ok : SpecOK Try.prog 31 S31 := inlineK_ok C31_ok Try.func31 (fun _ _ => LoopsOK.none _)
theorem En31 : Enters Try.prog 31 := ⟨_, Try.func31, by decide, rfl⟩
noncomputable def R31 (args : List AV) : Res := S31 args [] encK
noncomputable def V31 : FSpec := leafK (.tup [.int .i64, .int .i64]) R31
theorem V31_ok : SpecOK Try.prog 31 V31 := leafK_ok S31_ok (fun _ => rfl)
theorem Q31 (a b c d e s : Int) : S31 [.agg [.int .i64 a, .int .i64 b, .int .i64 c, .int .i64 d, .int .i64 e], .int .i64 s] [] encK =
  aIf
  (shOK (Sh.int IntKind.i64)
    (R33
      [AV.agg
          [AV.int IntKind.i64 a, AV.int IntKind.i64 b, AV.int IntKind.i64 c, AV.int IntKind.i64 d,
            AV.int IntKind.i64 e]]))
  (aIf
    ((sel
          (R33
            [AV.agg
                [AV.int IntKind.i64 a, AV.int IntKind.i64 b, AV.int IntKind.i64 c, AV.int IntKind.i64 d,
                  AV.int IntKind.i64 e]])
          []).toInt !=
      0)
    (some
      (AEnd.ret
          (AV.tup
            [AV.int IntKind.i64 0,
              AV.int IntKind.i64
                (sel
                    (R33
                      [AV.agg
                          [AV.int IntKind.i64 a, AV.int IntKind.i64 b, AV.int IntKind.i64 c, AV.int IntKind.i64 d,
                            AV.int IntKind.i64 e]])
                    []).toInt]),
        []))
    (aIf (s == 1) (some (AEnd.ret (AV.tup [AV.int IntKind.i64 a, AV.int IntKind.i64 0]), []))
      (aIf (s == 2) (some (AEnd.ret (AV.tup [AV.int IntKind.i64 b, AV.int IntKind.i64 0]), []))
        (aIf (s == 3) (some (AEnd.ret (AV.tup [AV.int IntKind.i64 c, AV.int IntKind.i64 0]), []))
          (aIf (s == 4)
            (aIf (s == 4) (some (AEnd.ret (AV.tup [AV.int IntKind.i64 d, AV.int IntKind.i64 0]), []))
              (aIf (s == 7)
                (aIf (s == 7) (some (AEnd.ret (AV.tup [AV.int IntKind.i64 e, AV.int IntKind.i64 0]), []))
                  (some (AEnd.ret (AV.tup [AV.int IntKind.i64 0, AV.int IntKind.i64 1]), [])))
                (aIf (s == 8) (some (AEnd.ret (AV.tup [AV.int IntKind.i64 e, AV.int IntKind.i64 0]), []))
                  (some (AEnd.ret (AV.tup [AV.int IntKind.i64 0, AV.int IntKind.i64 1]), [])))))
            (aIf (s == 5)
              (aIf (s == 5) (some (AEnd.ret (AV.tup [AV.int IntKind.i64 d, AV.int IntKind.i64 0]), []))
                (aIf (s == 7)
                  (aIf (s == 7) (some (AEnd.ret (AV.tup [AV.int IntKind.i64 e, AV.int IntKind.i64 0]), []))
                    (some (AEnd.ret (AV.tup [AV.int IntKind.i64 0, AV.int IntKind.i64 1]), [])))
                  (aIf (s == 8) (some (AEnd.ret (AV.tup [AV.int IntKind.i64 e, AV.int IntKind.i64 0]), []))
                    (some (AEnd.ret (AV.tup [AV.int IntKind.i64 0, AV.int IntKind.i64 1]), [])))))
              (aIf (s == 6) (some (AEnd.ret (AV.tup [AV.int IntKind.i64 d, AV.int IntKind.i64 0]), []))
                (aIf (s == 7)
                  (aIf (s == 7) (some (AEnd.ret (AV.tup [AV.int IntKind.i64 e, AV.int IntKind.i64 0]), []))
                    (some (AEnd.ret (AV.tup [AV.int IntKind.i64 0, AV.int IntKind.i64 1]), [])))
                  (aIf (s == 8) (some (AEnd.ret (AV.tup [AV.int IntKind.i64 e, AV.int IntKind.i64 0]), []))
                    (some (AEnd.ret (AV.tup [AV.int IntKind.i64 0, AV.int IntKind.i64 1]), [])))))))))))
  none := by kernel_rfl
theorem R31_ok (a b c d e s : Int) (ha : inK .i64 a = true) (hb : inK .i64 b = true) (hc : inK .i64 c = true) (hd : inK .i64 d = true) (he : inK .i64 e = true) :
    shOK (.tup [.int .i64, .int .i64]) (R31 [.agg [.int .i64 a, .int .i64 b, .int .i64 c, .int .i64 d, .int .i64 e], .int .i64 s]) = true := by
  show shOK _ (S31 _ [] encK) = true
  rw [Q31]
  obtain ⟨n, hn, hr⟩ := R33_is a b c d e
  rw [hr]
  have h0 : inK .i64 0 = true := rfl
  have h1 : inK .i64 1 = true := rfl
  have hk : inK .i64 n = true := by rcases hn with rfl | rfl <;> rfl
  have hs : (sel (some (AEnd.ret (AV.int IntKind.i64 n), [])) []).toInt = n := rfl
  simp only [hs, shOK_aIf, shOK_ret, has_tup, hasL_cons, hasL_nil, List.getD_cons_zero, List.getD_cons_succ, has_int, ha, hb, hc, hd, he, h0, h1, hk]
  simp
theorem R31_val (u1 u2 u3 u4 u5 s : Int) (ha : inK .i64 u1 = true) (hb : inK .i64 u2 = true) (hc : inK .i64 u3 = true) (hd : inK .i64 u4 = true) (he : inK .i64 u5 = true) :
    ∃ t l, R31 [.agg [.int .i64 u1, .int .i64 u2, .int .i64 u3, .int .i64 u4, .int .i64 u5], .int .i64 s] = some (.ret (.tup [.int .i64 t, .int .i64 l]), []) ∧ inK .i64 t = true ∧ shOK (.tup [.int .i64, .int .i64]) (R31 [.agg [.int .i64 u1, .int .i64 u2, .int .i64 u3, .int .i64 u4, .int .i64 u5], .int .i64 s]) = true := by
  have h := R31_ok u1 u2 u3 u4 u5 s ha hb hc hd he
  obtain ⟨t, l, h1, h2⟩ := val_ii h
  exact ⟨t, l, h1, h2, h⟩

/-- ferryman/flow.times -/
noncomputable def T51 : List (FuncId × FSpec) := []
theorem T51_ok : TabOK Try.prog T51 := TabOK.nil _
noncomputable def L51_3 : ATs → AH → KC → Res := fun ts H k => match ts, H with
  | [(0, .fs 3 zs gl), (3, .int .i64 l), (6, .fs 3 xs fl), (7, .int .i64 n), (8, .int .i64 i)], [] => aIf (pksB xs && decide (xs.length ≤ 1000000) && n == (xs.length : Int) && l == 0 && i == 0) (aIf (timesB xs xs.length 0 0) (k (.exit 0) [(0, .fs 3 zs gl), (3, .int .i64 (lastT xs xs.length 0)), (6, .fs 3 xs fl), (7, .int .i64 n), (8, .int .i64 (xs.length : Int)), (9, .bool false)] []) (k .ret [(2, .bool false)] [])) none
  | _, _ => none
noncomputable def C51 : Ctx := (ctx E T51 [(3, L51_3)] [(0, [0]), (1, [0, 3]), (2, [0, 3, 6, 7, 8]), (3, [0, 3, 6, 7, 8, 9]), (4, [0, 3, 5, 6, 7, 8]), (5, [0, 5, 6, 7, 8, 20]), (6, [2]), (7, [0, 3, 6, 7, 8]), (8, [0, 3, 6, 7, 8]), (9, [2]), (1000003, [0, 3, 6, 7, 8])] [] 27 70)
theorem C51_ok : CtxOK Try.prog C51 := ctx_ok E_ok E_flds mixed T51_ok
theorem C51_l0 : C51.loop (loopId (loopB Try.f51 0)) = some L51_3 := by kernel_rfl
theorem L51_3_in : LoopsOK C51 (loopB Try.f51 0) := LoopsOK.within 0 (by kernel_rfl) (fun j hj S hS => by
  omega)
theorem M51_3a (zs : List AV) (gl : SF) (l : Int) (xs : List AV) (fl : SF) (n i : Int) (k : KC) : headedK C51 (loopB Try.f51 0) [(0, .fs 3 zs gl), (3, .int .i64 l), (6, .fs 3 xs fl), (7, .int .i64 n), (8, .int .i64 i)] [] k =
  aIf (decide (i < n))
  (aIf (decide (0 ≤ i))
    (aIf (decide (i < (↑xs.length : Int)))
      (aIf ((xs.getD i.toNat AV.junk).cells.length == 3)
        (aIf
          (([(xs.getD i.toNat AV.junk).cells.getD 0 AV.junk, (xs.getD i.toNat AV.junk).cells.getD 1 AV.junk,
                    (xs.getD i.toNat AV.junk).cells.getD 2 AV.junk].getD
                0 AV.junk).isInt
            IntKind.i64)
          (aIf
            ([(xs.getD i.toNat AV.junk).cells.getD 0 AV.junk, (xs.getD i.toNat AV.junk).cells.getD 1 AV.junk,
                    (xs.getD i.toNat AV.junk).cells.getD 2 AV.junk].getD
                1 AV.junk).isBool
            (aIf
              (([(xs.getD i.toNat AV.junk).cells.getD 0 AV.junk, (xs.getD i.toNat AV.junk).cells.getD 1 AV.junk,
                        (xs.getD i.toNat AV.junk).cells.getD 2 AV.junk].getD
                    2 AV.junk).isInt
                IntKind.u8)
              (aIf
                (decide
                  (([(xs.getD i.toNat AV.junk).cells.getD 0 AV.junk, (xs.getD i.toNat AV.junk).cells.getD 1 AV.junk,
                            (xs.getD i.toNat AV.junk).cells.getD 2 AV.junk].getD
                        0 AV.junk).toInt <
                    l))
                (k AExit.ret [(2, AV.bool false)] [])
                (aIf
                  (decide
                    (([(xs.getD i.toNat AV.junk).cells.getD 0 AV.junk, (xs.getD i.toNat AV.junk).cells.getD 1 AV.junk,
                              (xs.getD i.toNat AV.junk).cells.getD 2 AV.junk].getD
                          0 AV.junk).toInt >
                      1099511627776))
                  (k AExit.ret [(2, AV.bool false)] [])
                  (k AExit.normal
                    [(0, AV.fs 3 zs gl),
                      (3,
                        AV.int IntKind.i64
                          ([(xs.getD i.toNat AV.junk).cells.getD 0 AV.junk,
                                  (xs.getD i.toNat AV.junk).cells.getD 1 AV.junk,
                                  (xs.getD i.toNat AV.junk).cells.getD 2 AV.junk].getD
                              0 AV.junk).toInt),
                      (6, AV.fs 3 xs fl), (7, AV.int IntKind.i64 n), (8, AV.int IntKind.i64 (IntKind.i64.wrap (i + 1)))]
                    [])))
              none)
            none)
          none)
        none)
      none)
    none)
  (k (AExit.exit 0)
    [(0, AV.fs 3 zs gl), (3, AV.int IntKind.i64 l), (6, AV.fs 3 xs fl), (7, AV.int IntKind.i64 n),
      (8, AV.int IntKind.i64 i), (9, AV.bool (decide (i < n)))]
    []) := by kernel_rfl
theorem L51_3_ok : LoopSum C51 (loopB Try.f51 0) L51_3 := LoopSum.of C51_ok L51_3_in (fun ts H => by
  unfold L51_3
  split
  · rename_i zs gl l xs fl n i
    rcases Bool.eq_false_or_eq_true (pksB xs && decide (xs.length ≤ 1000000) && n == (xs.length : Int) && l == 0 && i == 0) with hp | hp
    · refine .inr ?_
      simp only [aIf_pos hp]
      simp only [Bool.and_eq_true, decide_eq_true_eq, beq_iff_eq] at hp
      obtain ⟨⟨⟨⟨hr, hL⟩, rfl⟩, rfl⟩, rfl⟩ := hp
      have main : ∀ d j : Nat, j + d = xs.length → timesB xs xs.length 0 0 = timesB xs d j (lastT xs j 0) → ∃ m, ∀ k, aIterK m (headedK C51 (loopB Try.f51 0)) [(0, .fs 3 zs gl), (3, .int .i64 (lastT xs j 0)), (6, .fs 3 xs fl), (7, .int .i64 (xs.length : Int)), (8, .int .i64 (j : Int))] [] k =
          aIf (timesB xs xs.length 0 0) (k (.exit 0) [(0, .fs 3 zs gl), (3, .int .i64 (lastT xs xs.length 0)), (6, .fs 3 xs fl), (7, .int .i64 (xs.length : Int)), (8, .int .i64 (xs.length : Int)), (9, .bool false)] []) (k .ret [(2, .bool false)] []) := by
        intro d
        induction d with
        | zero =>
          intro j hj hb
          obtain rfl : j = xs.length := by omega
          refine ⟨1, fun k => ?_⟩
          rw [hb, aIterK, M51_3a, dltf]; rfl
        | succ d ih =>
          intro j hj hb
          have hjl : j < xs.length := by omega
          obtain ⟨he, _, _⟩ := pks_get hr j hjl
          simp only [timesB] at hb
          cases c1 : decide (pT xs j < lastT xs j 0)
          · cases c2 : decide (pT xs j > 1099511627776)
            · rw [c1, c2] at hb
              obtain ⟨m, hm⟩ := ih (j + 1) (by omega) hb
              refine ⟨m + 1, fun k => ?_⟩
              rw [← hm k, aIterK, M51_3a]
              simp only [Int.toNat_natCast, he, AV.cells, List.length_cons, List.length_nil, List.getD_cons_zero, List.getD_cons_succ, Nat.reduceAdd, isInt_self, AV.isBool, AV.toInt, beq_self_eq_true, dlt hjl, dnn', aIf_true, i64s (show j + 1 < 9223372036854775808 by omega)]
              rw [c1, c2]; rfl
            · rw [c1, c2] at hb
              refine ⟨1, fun k => ?_⟩
              rw [hb, aIterK, M51_3a]
              simp only [Int.toNat_natCast, he, AV.cells, List.length_cons, List.length_nil, List.getD_cons_zero, List.getD_cons_succ, Nat.reduceAdd, isInt_self, AV.isBool, AV.toInt, beq_self_eq_true, dlt hjl, dnn', aIf_true, i64s (show j + 1 < 9223372036854775808 by omega)]
              rw [c1, c2]; rfl
          · rw [c1] at hb
            refine ⟨1, fun k => ?_⟩
            rw [hb, aIterK, M51_3a]
            simp only [Int.toNat_natCast, he, AV.cells, List.length_cons, List.length_nil, List.getD_cons_zero, List.getD_cons_succ, Nat.reduceAdd, isInt_self, AV.isBool, AV.toInt, beq_self_eq_true, dlt hjl, dnn', aIf_true, i64s (show j + 1 < 9223372036854775808 by omega)]
            rw [c1]; rfl
      exact (main xs.length 0 (by omega) rfl).imp fun m hm k => (hm k).symm
    · exact .inl fun k => by rw [aIf_neg hp]
  · exact .inl fun k => rfl)
theorem C51_loops : ∀ c, Try.f51.body = some c → LoopsOK C51 c := LoopsOK.of 1 (by kernel_rfl) (fun j hj S hS => by
  match j, hj with
  | 0, _ => rw [C51_l0] at hS; cases hS; exact L51_3_ok
  | n + 1, hj => omega)
noncomputable def S51 : FSpec := inlineK C51 Try.f51
theorem S51_ok : SpecOK Try.prog 51 S51 := inlineK_ok C51_ok Try.func51 C51_loops
theorem En51 : Enters Try.prog 51 := ⟨_, Try.func51, by decide, rfl⟩
noncomputable def R51 (args : List AV) : Res := S51 args [] encK
noncomputable def V51 : FSpec := leafK (.bool) R51
theorem V51_ok : SpecOK Try.prog 51 V51 := leafK_ok S51_ok (fun _ => rfl)
theorem Q51 (xs : List AV) (fl : SF) : S51 [.fs 3 xs fl] [] encK =
  aIf (Pl.pksB xs && decide (xs.length ≤ 1000000) && (↑xs.length : Int) == (↑xs.length : Int) && true && true)
  (aIf (Pl.timesB xs xs.length 0 0) (some (AEnd.ret (AV.bool (decide ((↑xs.length : Int) > 0))), []))
    (some (AEnd.ret (AV.bool false), [])))
  none := by kernel_rfl
theorem R51_is {xs : List AV} {fl : SF} (hr : pksB xs = true) (hL : xs.length ≤ 1000000) : R51 [.fs 3 xs fl] = some (.ret (.bool (timesB xs xs.length 0 0 && Nat.blt 0 xs.length)), []) := by
  show S51 _ [] encK = _
  rw [Q51, hr, decide_eq_true hL, beq_self_eq_true]
  cases timesB xs xs.length 0 0
  · rfl
  · rw [gt0_blt]
    rfl

/-- ferryman/flow.Run -/
noncomputable def T36 : List (FuncId × FSpec) := [(26, V26), (28, V28), (31, V31), (33, V33), (51, V51)]
theorem T36_ok : TabOK Try.prog T36 := TabOK.cons En26 V26_ok (TabOK.cons En28 V28_ok (TabOK.cons En31 V31_ok (TabOK.cons En33 V33_ok (TabOK.cons En51 V51_ok (TabOK.nil _)))))
noncomputable def L36_14 : ATs → AH → KC → Res := fun ts H k => match ts, H with
  | [(3, .ptr 0 0 0), (10, .int .i64 s), (14, .int .i64 t), (59, .fs 3 xs fl), (60, .int .i64 n), (61, .int .i64 i)], [.cells 0 [.int .i64 u1, .int .i64 u2, .int .i64 u3, .int .i64 u4, .int .i64 u5]] => aIf (pksB xs && decide (xs.length ≤ 1000000) && n == (xs.length : Int) && decide (0 ≤ i) && decide (i ≤ n) && inK .i64 s && inK .i64 u1 && inK .i64 u2 && inK .i64 u3 && inK .i64 u4 && inK .i64 u5) (aIf (Nat.blt (runF (fun s b f => (sel (R26 [.int .i64 s, .bool b, .int .u8 f]) [0]).toInt) (fun s b f => (sel (R26 [.int .i64 s, .bool b, .int .u8 f]) [1]).toBool) (fun s => (sel (R31 [.agg [.int .i64 u1, .int .i64 u2, .int .i64 u3, .int .i64 u4, .int .i64 u5], .int .i64 s]) [0]).toInt) xs (xs.length - i.toNat) i.toNat s t).2.2 xs.length) (k (.exit 0) [(3, .ptr 0 0 0), (10, .int .i64 (runF (fun s b f => (sel (R26 [.int .i64 s, .bool b, .int .u8 f]) [0]).toInt) (fun s b f => (sel (R26 [.int .i64 s, .bool b, .int .u8 f]) [1]).toBool) (fun s => (sel (R31 [.agg [.int .i64 u1, .int .i64 u2, .int .i64 u3, .int .i64 u4, .int .i64 u5], .int .i64 s]) [0]).toInt) xs (xs.length - i.toNat) i.toNat s t).1), (14, .int .i64 (runF (fun s b f => (sel (R26 [.int .i64 s, .bool b, .int .u8 f]) [0]).toInt) (fun s b f => (sel (R26 [.int .i64 s, .bool b, .int .u8 f]) [1]).toBool) (fun s => (sel (R31 [.agg [.int .i64 u1, .int .i64 u2, .int .i64 u3, .int .i64 u4, .int .i64 u5], .int .i64 s]) [0]).toInt) xs (xs.length - i.toNat) i.toNat s t).2.1), (16, .ptr 1 0 0), (59, .fs 3 xs fl), (60, .int .i64 n), (61, .int .i64 ((runF (fun s b f => (sel (R26 [.int .i64 s, .bool b, .int .u8 f]) [0]).toInt) (fun s b f => (sel (R26 [.int .i64 s, .bool b, .int .u8 f]) [1]).toBool) (fun s => (sel (R31 [.agg [.int .i64 u1, .int .i64 u2, .int .i64 u3, .int .i64 u4, .int .i64 u5], .int .i64 s]) [0]).toInt) xs (xs.length - i.toNat) i.toNat s t).2.2 : Int)), (68, .bool true)] [.cells 0 [.int .i64 u1, .int .i64 u2, .int .i64 u3, .int .i64 u4, .int .i64 u5], .cells 0 [.int .i64 (pT xs (runF (fun s b f => (sel (R26 [.int .i64 s, .bool b, .int .u8 f]) [0]).toInt) (fun s b f => (sel (R26 [.int .i64 s, .bool b, .int .u8 f]) [1]).toBool) (fun s => (sel (R31 [.agg [.int .i64 u1, .int .i64 u2, .int .i64 u3, .int .i64 u4, .int .i64 u5], .int .i64 s]) [0]).toInt) xs (xs.length - i.toNat) i.toNat s t).2.2), .bool (pI xs (runF (fun s b f => (sel (R26 [.int .i64 s, .bool b, .int .u8 f]) [0]).toInt) (fun s b f => (sel (R26 [.int .i64 s, .bool b, .int .u8 f]) [1]).toBool) (fun s => (sel (R31 [.agg [.int .i64 u1, .int .i64 u2, .int .i64 u3, .int .i64 u4, .int .i64 u5], .int .i64 s]) [0]).toInt) xs (xs.length - i.toNat) i.toNat s t).2.2), .int .u8 (pF xs (runF (fun s b f => (sel (R26 [.int .i64 s, .bool b, .int .u8 f]) [0]).toInt) (fun s b f => (sel (R26 [.int .i64 s, .bool b, .int .u8 f]) [1]).toBool) (fun s => (sel (R31 [.agg [.int .i64 u1, .int .i64 u2, .int .i64 u3, .int .i64 u4, .int .i64 u5], .int .i64 s]) [0]).toInt) xs (xs.length - i.toNat) i.toNat s t).2.2)]]) (k (.exit 0) [(3, .ptr 0 0 0), (10, .int .i64 (runF (fun s b f => (sel (R26 [.int .i64 s, .bool b, .int .u8 f]) [0]).toInt) (fun s b f => (sel (R26 [.int .i64 s, .bool b, .int .u8 f]) [1]).toBool) (fun s => (sel (R31 [.agg [.int .i64 u1, .int .i64 u2, .int .i64 u3, .int .i64 u4, .int .i64 u5], .int .i64 s]) [0]).toInt) xs (xs.length - i.toNat) i.toNat s t).1), (14, .int .i64 (runF (fun s b f => (sel (R26 [.int .i64 s, .bool b, .int .u8 f]) [0]).toInt) (fun s b f => (sel (R26 [.int .i64 s, .bool b, .int .u8 f]) [1]).toBool) (fun s => (sel (R31 [.agg [.int .i64 u1, .int .i64 u2, .int .i64 u3, .int .i64 u4, .int .i64 u5], .int .i64 s]) [0]).toInt) xs (xs.length - i.toNat) i.toNat s t).2.1), (59, .fs 3 xs fl), (60, .int .i64 n), (61, .int .i64 ((runF (fun s b f => (sel (R26 [.int .i64 s, .bool b, .int .u8 f]) [0]).toInt) (fun s b f => (sel (R26 [.int .i64 s, .bool b, .int .u8 f]) [1]).toBool) (fun s => (sel (R31 [.agg [.int .i64 u1, .int .i64 u2, .int .i64 u3, .int .i64 u4, .int .i64 u5], .int .i64 s]) [0]).toInt) xs (xs.length - i.toNat) i.toNat s t).2.2 : Int)), (62, .bool false)] [.cells 0 [.int .i64 u1, .int .i64 u2, .int .i64 u3, .int .i64 u4, .int .i64 u5]])) none
  | _, _ => none
noncomputable def C36 : Ctx := (ctx E T36 [(14, L36_14)] [(0, [1, 2, 3]), (1, [1, 2, 3, 9]), (2, [1, 2, 3, 9, 24]), (3, [6, 7, 8]), (4, [1, 2, 3, 28]), (5, [6, 7, 8]), (6, [1, 2, 3, 33]), (7, [6, 7, 8]), (8, [2, 3, 10, 11]), (9, [2, 3, 10, 11, 44]), (10, [6, 7, 8]), (11, [2, 3, 10, 12]), (12, [2, 3, 10, 14]), (13, [3, 10, 14, 59, 60, 61]), (14, [3, 10, 14, 59, 60, 61, 62]), (15, [3, 10, 14, 16, 59, 60, 61]), (16, [3, 10, 14, 16, 59, 60, 61, 68]), (17, [3, 14, 16, 17, 18, 59, 60, 61]), (18, [3, 10, 14, 16, 18, 59, 60, 61]), (19, [3, 10, 14, 16, 59, 60, 61, 79]), (20, [3, 10, 16, 19, 59, 60, 61]), (21, [3, 10, 14, 59, 60, 61]), (22, [3, 10, 14, 59, 60, 61]), (23, [6, 7, 8]), (1000014, [3, 10, 14, 59, 60, 61])] [] 93 70)
theorem C36_ok : CtxOK Try.prog C36 := ctx_ok E_ok E_flds mixed T36_ok
theorem C36_l0 : C36.loop (loopId (loopB Try.f36 0)) = some L36_14 := by kernel_rfl
theorem L36_14_in : LoopsOK C36 (loopB Try.f36 0) := LoopsOK.within 0 (by kernel_rfl) (fun j hj S hS => by
  omega)
theorem M36_14a (xs : List AV) (fl : SF) (n s t i u1 u2 u3 u4 u5 : Int) (k : KC) : headedK C36 (loopB Try.f36 0) [(3, .ptr 0 0 0), (10, .int .i64 s), (14, .int .i64 t), (59, .fs 3 xs fl), (60, .int .i64 n), (61, .int .i64 i)] [.cells 0 [.int .i64 u1, .int .i64 u2, .int .i64 u3, .int .i64 u4, .int .i64 u5]] k =
  aIf (decide (i < n))
  (aIf (decide (0 ≤ i))
    (aIf (decide (i < (↑xs.length : Int)))
      (aIf ((xs.getD i.toNat AV.junk).cells.length == 3)
        (aIf
          (([(xs.getD i.toNat AV.junk).cells.getD 0 AV.junk, (xs.getD i.toNat AV.junk).cells.getD 1 AV.junk,
                    (xs.getD i.toNat AV.junk).cells.getD 2 AV.junk].getD
                0 AV.junk).isInt
            IntKind.i64)
          (aIf
            ([(xs.getD i.toNat AV.junk).cells.getD 0 AV.junk, (xs.getD i.toNat AV.junk).cells.getD 1 AV.junk,
                    (xs.getD i.toNat AV.junk).cells.getD 2 AV.junk].getD
                1 AV.junk).isBool
            (aIf
              (([(xs.getD i.toNat AV.junk).cells.getD 0 AV.junk, (xs.getD i.toNat AV.junk).cells.getD 1 AV.junk,
                        (xs.getD i.toNat AV.junk).cells.getD 2 AV.junk].getD
                    2 AV.junk).isInt
                IntKind.u8)
              (aIf
                (decide
                  (([(xs.getD i.toNat AV.junk).cells.getD 0 AV.junk, (xs.getD i.toNat AV.junk).cells.getD 1 AV.junk,
                            (xs.getD i.toNat AV.junk).cells.getD 2 AV.junk].getD
                        0 AV.junk).toInt ≥
                    t))
                (k (AExit.exit 0)
                  [(3, AV.ptr 0 0 0), (10, AV.int IntKind.i64 s), (14, AV.int IntKind.i64 t), (16, AV.ptr 1 0 0),
                    (59, AV.fs 3 xs fl), (60, AV.int IntKind.i64 n), (61, AV.int IntKind.i64 i),
                    (68,
                      AV.bool
                        (decide
                          (([(xs.getD i.toNat AV.junk).cells.getD 0 AV.junk,
                                    (xs.getD i.toNat AV.junk).cells.getD 1 AV.junk,
                                    (xs.getD i.toNat AV.junk).cells.getD 2 AV.junk].getD
                                0 AV.junk).toInt ≥
                            t)))]
                  [AO.cells 0
                      [AV.int IntKind.i64 u1, AV.int IntKind.i64 u2, AV.int IntKind.i64 u3, AV.int IntKind.i64 u4,
                        AV.int IntKind.i64 u5],
                    AO.cells 0
                      [AV.int IntKind.i64
                          ([(xs.getD i.toNat AV.junk).cells.getD 0 AV.junk,
                                  (xs.getD i.toNat AV.junk).cells.getD 1 AV.junk,
                                  (xs.getD i.toNat AV.junk).cells.getD 2 AV.junk].getD
                              0 AV.junk).toInt,
                        AV.bool
                          ([(xs.getD i.toNat AV.junk).cells.getD 0 AV.junk,
                                  (xs.getD i.toNat AV.junk).cells.getD 1 AV.junk,
                                  (xs.getD i.toNat AV.junk).cells.getD 2 AV.junk].getD
                              1 AV.junk).toBool,
                        AV.int IntKind.u8
                          ([(xs.getD i.toNat AV.junk).cells.getD 0 AV.junk,
                                  (xs.getD i.toNat AV.junk).cells.getD 1 AV.junk,
                                  (xs.getD i.toNat AV.junk).cells.getD 2 AV.junk].getD
                              2 AV.junk).toInt]])
                (aIf
                  (shOK (Sh.tup [Sh.int IntKind.i64, Sh.bool])
                    (R26
                      [AV.int IntKind.i64 s,
                        AV.bool
                          ([(xs.getD i.toNat AV.junk).cells.getD 0 AV.junk,
                                  (xs.getD i.toNat AV.junk).cells.getD 1 AV.junk,
                                  (xs.getD i.toNat AV.junk).cells.getD 2 AV.junk].getD
                              1 AV.junk).toBool,
                        AV.int IntKind.u8
                          ([(xs.getD i.toNat AV.junk).cells.getD 0 AV.junk,
                                  (xs.getD i.toNat AV.junk).cells.getD 1 AV.junk,
                                  (xs.getD i.toNat AV.junk).cells.getD 2 AV.junk].getD
                              2 AV.junk).toInt]))
                  (aIf
                    (sel
                        (R26
                          [AV.int IntKind.i64 s,
                            AV.bool
                              ([(xs.getD i.toNat AV.junk).cells.getD 0 AV.junk,
                                      (xs.getD i.toNat AV.junk).cells.getD 1 AV.junk,
                                      (xs.getD i.toNat AV.junk).cells.getD 2 AV.junk].getD
                                  1 AV.junk).toBool,
                            AV.int IntKind.u8
                              ([(xs.getD i.toNat AV.junk).cells.getD 0 AV.junk,
                                      (xs.getD i.toNat AV.junk).cells.getD 1 AV.junk,
                                      (xs.getD i.toNat AV.junk).cells.getD 2 AV.junk].getD
                                  2 AV.junk).toInt])
                        [1]).toBool
                    (aIf
                      (shOK (Sh.tup [Sh.int IntKind.i64, Sh.int IntKind.i64])
                        (R31
                          [AV.agg
                              [AV.int IntKind.i64 u1, AV.int IntKind.i64 u2, AV.int IntKind.i64 u3,
                                AV.int IntKind.i64 u4, AV.int IntKind.i64 u5],
                            AV.int IntKind.i64
                              (sel
                                  (R26
                                    [AV.int IntKind.i64 s,
                                      AV.bool
                                        ([(xs.getD i.toNat AV.junk).cells.getD 0 AV.junk,
                                                (xs.getD i.toNat AV.junk).cells.getD 1 AV.junk,
                                                (xs.getD i.toNat AV.junk).cells.getD 2 AV.junk].getD
                                            1 AV.junk).toBool,
                                      AV.int IntKind.u8
                                        ([(xs.getD i.toNat AV.junk).cells.getD 0 AV.junk,
                                                (xs.getD i.toNat AV.junk).cells.getD 1 AV.junk,
                                                (xs.getD i.toNat AV.junk).cells.getD 2 AV.junk].getD
                                            2 AV.junk).toInt])
                                  [0]).toInt]))
                      (k AExit.normal
                        [(3, AV.ptr 0 0 0),
                          (10,
                            AV.int IntKind.i64
                              (sel
                                  (R26
                                    [AV.int IntKind.i64 s,
                                      AV.bool
                                        ([(xs.getD i.toNat AV.junk).cells.getD 0 AV.junk,
                                                (xs.getD i.toNat AV.junk).cells.getD 1 AV.junk,
                                                (xs.getD i.toNat AV.junk).cells.getD 2 AV.junk].getD
                                            1 AV.junk).toBool,
                                      AV.int IntKind.u8
                                        ([(xs.getD i.toNat AV.junk).cells.getD 0 AV.junk,
                                                (xs.getD i.toNat AV.junk).cells.getD 1 AV.junk,
                                                (xs.getD i.toNat AV.junk).cells.getD 2 AV.junk].getD
                                            2 AV.junk).toInt])
                                  [0]).toInt),
                          (14,
                            AV.int IntKind.i64
                              (IntKind.i64.wrap
                                (([(xs.getD i.toNat AV.junk).cells.getD 0 AV.junk,
                                          (xs.getD i.toNat AV.junk).cells.getD 1 AV.junk,
                                          (xs.getD i.toNat AV.junk).cells.getD 2 AV.junk].getD
                                      0 AV.junk).toInt +
                                  (sel
                                      (R31
                                        [AV.agg
                                            [AV.int IntKind.i64 u1, AV.int IntKind.i64 u2, AV.int IntKind.i64 u3,
                                              AV.int IntKind.i64 u4, AV.int IntKind.i64 u5],
                                          AV.int IntKind.i64
                                            (sel
                                                (R26
                                                  [AV.int IntKind.i64 s,
                                                    AV.bool
                                                      ([(xs.getD i.toNat AV.junk).cells.getD 0 AV.junk,
                                                              (xs.getD i.toNat AV.junk).cells.getD 1 AV.junk,
                                                              (xs.getD i.toNat AV.junk).cells.getD 2 AV.junk].getD
                                                          1 AV.junk).toBool,
                                                    AV.int IntKind.u8
                                                      ([(xs.getD i.toNat AV.junk).cells.getD 0 AV.junk,
                                                              (xs.getD i.toNat AV.junk).cells.getD 1 AV.junk,
                                                              (xs.getD i.toNat AV.junk).cells.getD 2 AV.junk].getD
                                                          2 AV.junk).toInt])
                                                [0]).toInt])
                                      [0]).toInt))),
                          (59, AV.fs 3 xs fl), (60, AV.int IntKind.i64 n),
                          (61, AV.int IntKind.i64 (IntKind.i64.wrap (i + 1)))]
                        [AO.cells 0
                            [AV.int IntKind.i64 u1, AV.int IntKind.i64 u2, AV.int IntKind.i64 u3, AV.int IntKind.i64 u4,
                              AV.int IntKind.i64 u5]])
                      none)
                    (k AExit.normal
                      [(3, AV.ptr 0 0 0),
                        (10,
                          AV.int IntKind.i64
                            (sel
                                (R26
                                  [AV.int IntKind.i64 s,
                                    AV.bool
                                      ([(xs.getD i.toNat AV.junk).cells.getD 0 AV.junk,
                                              (xs.getD i.toNat AV.junk).cells.getD 1 AV.junk,
                                              (xs.getD i.toNat AV.junk).cells.getD 2 AV.junk].getD
                                          1 AV.junk).toBool,
                                    AV.int IntKind.u8
                                      ([(xs.getD i.toNat AV.junk).cells.getD 0 AV.junk,
                                              (xs.getD i.toNat AV.junk).cells.getD 1 AV.junk,
                                              (xs.getD i.toNat AV.junk).cells.getD 2 AV.junk].getD
                                          2 AV.junk).toInt])
                                [0]).toInt),
                        (14, AV.int IntKind.i64 t), (59, AV.fs 3 xs fl), (60, AV.int IntKind.i64 n),
                        (61, AV.int IntKind.i64 (IntKind.i64.wrap (i + 1)))]
                      [AO.cells 0
                          [AV.int IntKind.i64 u1, AV.int IntKind.i64 u2, AV.int IntKind.i64 u3, AV.int IntKind.i64 u4,
                            AV.int IntKind.i64 u5]]))
                  none))
              none)
            none)
          none)
        none)
      none)
    none)
  (k (AExit.exit 0)
    [(3, AV.ptr 0 0 0), (10, AV.int IntKind.i64 s), (14, AV.int IntKind.i64 t), (59, AV.fs 3 xs fl),
      (60, AV.int IntKind.i64 n), (61, AV.int IntKind.i64 i), (62, AV.bool (decide (i < n)))]
    [AO.cells 0
        [AV.int IntKind.i64 u1, AV.int IntKind.i64 u2, AV.int IntKind.i64 u3, AV.int IntKind.i64 u4,
          AV.int IntKind.i64 u5]]) := by kernel_rfl
theorem L36_14_ok : LoopSum C36 (loopB Try.f36 0) L36_14 := LoopSum.of C36_ok L36_14_in (fun ts H => by
  unfold L36_14
  split
  · rename_i s t xs fl n i u1 u2 u3 u4 u5
    rcases Bool.eq_false_or_eq_true (pksB xs && decide (xs.length ≤ 1000000) && n == (xs.length : Int) && decide (0 ≤ i) && decide (i ≤ n) && inK .i64 s && inK .i64 u1 && inK .i64 u2 && inK .i64 u3 && inK .i64 u4 && inK .i64 u5) with hp | hp
    · refine .inr ?_
      simp only [aIf_pos hp]
      simp only [Bool.and_eq_true, decide_eq_true_eq, beq_iff_eq] at hp
      obtain ⟨⟨⟨⟨⟨⟨⟨⟨⟨⟨hr, hL⟩, hn⟩, hi0⟩, hi1⟩, hs⟩, h1⟩, h2⟩, h3⟩, h4⟩, h5⟩ := hp
      subst hn
      obtain ⟨i, rfl⟩ := Int.eq_ofNat_of_zero_le hi0
      have main : ∀ (d j : Nat) (s t : Int), j + d = xs.length → inK .i64 s = true → ∃ m, ∀ k, aIterK m (headedK C36 (loopB Try.f36 0)) [(3, .ptr 0 0 0), (10, .int .i64 s), (14, .int .i64 t), (59, .fs 3 xs fl), (60, .int .i64 (xs.length : Int)), (61, .int .i64 (j : Int))] [.cells 0 [.int .i64 u1, .int .i64 u2, .int .i64 u3, .int .i64 u4, .int .i64 u5]] k =
          aIf (Nat.blt (runF (fun s b f => (sel (R26 [.int .i64 s, .bool b, .int .u8 f]) [0]).toInt) (fun s b f => (sel (R26 [.int .i64 s, .bool b, .int .u8 f]) [1]).toBool) (fun s => (sel (R31 [.agg [.int .i64 u1, .int .i64 u2, .int .i64 u3, .int .i64 u4, .int .i64 u5], .int .i64 s]) [0]).toInt) xs d j s t).2.2 xs.length) (k (.exit 0) [(3, .ptr 0 0 0), (10, .int .i64 (runF (fun s b f => (sel (R26 [.int .i64 s, .bool b, .int .u8 f]) [0]).toInt) (fun s b f => (sel (R26 [.int .i64 s, .bool b, .int .u8 f]) [1]).toBool) (fun s => (sel (R31 [.agg [.int .i64 u1, .int .i64 u2, .int .i64 u3, .int .i64 u4, .int .i64 u5], .int .i64 s]) [0]).toInt) xs d j s t).1), (14, .int .i64 (runF (fun s b f => (sel (R26 [.int .i64 s, .bool b, .int .u8 f]) [0]).toInt) (fun s b f => (sel (R26 [.int .i64 s, .bool b, .int .u8 f]) [1]).toBool) (fun s => (sel (R31 [.agg [.int .i64 u1, .int .i64 u2, .int .i64 u3, .int .i64 u4, .int .i64 u5], .int .i64 s]) [0]).toInt) xs d j s t).2.1), (16, .ptr 1 0 0), (59, .fs 3 xs fl), (60, .int .i64 (xs.length : Int)), (61, .int .i64 ((runF (fun s b f => (sel (R26 [.int .i64 s, .bool b, .int .u8 f]) [0]).toInt) (fun s b f => (sel (R26 [.int .i64 s, .bool b, .int .u8 f]) [1]).toBool) (fun s => (sel (R31 [.agg [.int .i64 u1, .int .i64 u2, .int .i64 u3, .int .i64 u4, .int .i64 u5], .int .i64 s]) [0]).toInt) xs d j s t).2.2 : Int)), (68, .bool true)] [.cells 0 [.int .i64 u1, .int .i64 u2, .int .i64 u3, .int .i64 u4, .int .i64 u5], .cells 0 [.int .i64 (pT xs (runF (fun s b f => (sel (R26 [.int .i64 s, .bool b, .int .u8 f]) [0]).toInt) (fun s b f => (sel (R26 [.int .i64 s, .bool b, .int .u8 f]) [1]).toBool) (fun s => (sel (R31 [.agg [.int .i64 u1, .int .i64 u2, .int .i64 u3, .int .i64 u4, .int .i64 u5], .int .i64 s]) [0]).toInt) xs d j s t).2.2), .bool (pI xs (runF (fun s b f => (sel (R26 [.int .i64 s, .bool b, .int .u8 f]) [0]).toInt) (fun s b f => (sel (R26 [.int .i64 s, .bool b, .int .u8 f]) [1]).toBool) (fun s => (sel (R31 [.agg [.int .i64 u1, .int .i64 u2, .int .i64 u3, .int .i64 u4, .int .i64 u5], .int .i64 s]) [0]).toInt) xs d j s t).2.2), .int .u8 (pF xs (runF (fun s b f => (sel (R26 [.int .i64 s, .bool b, .int .u8 f]) [0]).toInt) (fun s b f => (sel (R26 [.int .i64 s, .bool b, .int .u8 f]) [1]).toBool) (fun s => (sel (R31 [.agg [.int .i64 u1, .int .i64 u2, .int .i64 u3, .int .i64 u4, .int .i64 u5], .int .i64 s]) [0]).toInt) xs d j s t).2.2)]]) (k (.exit 0) [(3, .ptr 0 0 0), (10, .int .i64 (runF (fun s b f => (sel (R26 [.int .i64 s, .bool b, .int .u8 f]) [0]).toInt) (fun s b f => (sel (R26 [.int .i64 s, .bool b, .int .u8 f]) [1]).toBool) (fun s => (sel (R31 [.agg [.int .i64 u1, .int .i64 u2, .int .i64 u3, .int .i64 u4, .int .i64 u5], .int .i64 s]) [0]).toInt) xs d j s t).1), (14, .int .i64 (runF (fun s b f => (sel (R26 [.int .i64 s, .bool b, .int .u8 f]) [0]).toInt) (fun s b f => (sel (R26 [.int .i64 s, .bool b, .int .u8 f]) [1]).toBool) (fun s => (sel (R31 [.agg [.int .i64 u1, .int .i64 u2, .int .i64 u3, .int .i64 u4, .int .i64 u5], .int .i64 s]) [0]).toInt) xs d j s t).2.1), (59, .fs 3 xs fl), (60, .int .i64 (xs.length : Int)), (61, .int .i64 ((runF (fun s b f => (sel (R26 [.int .i64 s, .bool b, .int .u8 f]) [0]).toInt) (fun s b f => (sel (R26 [.int .i64 s, .bool b, .int .u8 f]) [1]).toBool) (fun s => (sel (R31 [.agg [.int .i64 u1, .int .i64 u2, .int .i64 u3, .int .i64 u4, .int .i64 u5], .int .i64 s]) [0]).toInt) xs d j s t).2.2 : Int)), (62, .bool false)] [.cells 0 [.int .i64 u1, .int .i64 u2, .int .i64 u3, .int .i64 u4, .int .i64 u5]]) := by
        intro d
        induction d with
        | zero =>
          intro j s t hj _
          obtain rfl : j = xs.length := by omega
          refine ⟨1, fun k => ?_⟩
          simp only [runF]
          simp only [blt_f (Nat.lt_irrefl xs.length), aIf_false]
          rw [aIterK, M36_14a, dltf]; rfl
        | succ d ih =>
          intro j s t hj hs
          have hjl : j < xs.length := by omega
          obtain ⟨he, _, _⟩ := pks_get hr j hjl
          have ti : ∀ k n, (AV.int k n).toInt = n := fun _ _ => rfl
          have tb : ∀ b, (AV.bool b).toBool = b := fun _ => rfl
          simp only [runF]
          cases c1 : decide (pT xs j < t)
          · refine ⟨1, fun k => ?_⟩
            have c2 : decide (pT xs j ≥ t) = true := decide_eq_true (by have := of_decide_eq_false c1; omega)
            rw [aIterK, M36_14a]
            simp only [cond_false, blt_t hjl]
            simp only [Int.toNat_natCast, he, AV.cells, List.length_cons, List.length_nil, List.getD_cons_zero, List.getD_cons_succ, Nat.reduceAdd, isInt_self, AV.isBool, ti, tb, beq_self_eq_true, dlt hjl, dnn', aIf_true, i64s (show j + 1 < 9223372036854775808 by omega), c2]
          · have c2 : decide (pT xs j ≥ t) = false := decide_eq_false (by have := of_decide_eq_true c1; omega)
            obtain ⟨t1, l1, e1, k1⟩ := R26_val s (pF xs j) (pI xs j) hs
            obtain ⟨t2, l2, e2, _, k2⟩ := R31_val u1 u2 u3 u4 u5 t1 h1 h2 h3 h4 h5
            have s0 : sel (some (AEnd.ret (AV.tup [AV.int .i64 t1, AV.bool l1]), [])) [0] = .int .i64 t1 := rfl
            have s1 : sel (some (AEnd.ret (AV.tup [AV.int .i64 t1, AV.bool l1]), [])) [1] = .bool l1 := rfl
            have hsh := R26_ok s (pF xs j) (pI xs j) hs
            rw [e1] at hsh
            simp only [e1, s0, s1, ti, tb, cond_true]
            cases l1
            · obtain ⟨m, hm⟩ := ih (j + 1) t1 t (by omega) k1
              refine ⟨m + 1, fun k => ?_⟩
              have hk := hm k
              rw [aIterK, M36_14a]
              simp only [Int.toNat_natCast, he, AV.cells, List.length_cons, List.length_nil, List.getD_cons_zero, List.getD_cons_succ, Nat.reduceAdd, isInt_self, AV.isBool, ti, tb, beq_self_eq_true, dlt hjl, dnn', aIf_true, aIf_false, i64s (show j + 1 < 9223372036854775808 by omega), c2, hsh, e1, s0, s1]
              exact hk
            · obtain ⟨m, hm⟩ := ih (j + 1) t1 (IntKind.i64.wrap (pT xs j + (sel (R31 [.agg [.int .i64 u1, .int .i64 u2, .int .i64 u3, .int .i64 u4, .int .i64 u5], .int .i64 t1]) [0]).toInt)) (by omega) k1
              refine ⟨m + 1, fun k => ?_⟩
              have hk := hm k
              rw [aIterK, M36_14a]
              simp only [Int.toNat_natCast, he, AV.cells, List.length_cons, List.length_nil, List.getD_cons_zero, List.getD_cons_succ, Nat.reduceAdd, isInt_self, AV.isBool, ti, tb, beq_self_eq_true, dlt hjl, dnn', aIf_true, aIf_false, i64s (show j + 1 < 9223372036854775808 by omega), c2, hsh, k2, e1, s0, s1]
              exact hk
      rw [Int.toNat_natCast]
      exact (main (xs.length - i) i s t (by omega) hs).imp fun m hm k => (hm k).symm
    · exact .inl fun k => by rw [aIf_neg hp]
  · exact .inl fun k => rfl)
theorem C36_loops : ∀ c, Try.f36.body = some c → LoopsOK C36 c := LoopsOK.of 1 (by kernel_rfl) (fun j hj S hS => by
  match j, hj with
  | 0, _ => rw [C36_l0] at hS; cases hS; exact L36_14_ok
  | n + 1, hj => omega)
noncomputable def S36 : FSpec := inlineK C36 Try.f36
theorem S36_ok : SpecOK Try.prog 36 S36 := inlineK_ok C36_ok Try.func36 C36_loops
theorem En36 : Enters Try.prog 36 := ⟨_, Try.func36, by decide, rfl⟩
noncomputable def R36 (args : List AV) : Res := S36 args [] encK
noncomputable def V36 : FSpec := leafK (.tup [.int .i64, .int .i64, .int .i64]) R36
theorem V36_ok : SpecOK Try.prog 36 V36 := leafK_ok S36_ok (fun _ => rfl)
theorem Q36 (xs : List AV) (fl : SF) (p u1 u2 u3 u4 u5 : Int) : S36 [.agg [.int .i64 u1, .int .i64 u2, .int .i64 u3, .int .i64 u4, .int .i64 u5], .int .u8 p, .fs 3 xs fl] [] encK =
  aIf
  (shOK (Sh.int IntKind.i64)
    (R33
      [AV.agg
          [AV.int IntKind.i64 u1, AV.int IntKind.i64 u2, AV.int IntKind.i64 u3, AV.int IntKind.i64 u4,
            AV.int IntKind.i64 u5]]))
  (aIf
    ((sel
          (R33
            [AV.agg
                [AV.int IntKind.i64 u1, AV.int IntKind.i64 u2, AV.int IntKind.i64 u3, AV.int IntKind.i64 u4,
                  AV.int IntKind.i64 u5]])
          []).toInt !=
      0)
    (some
      (AEnd.ret
          (AV.tup
            [AV.int IntKind.i64 0, AV.int IntKind.i64 0,
              AV.int IntKind.i64
                (sel
                    (R33
                      [AV.agg
                          [AV.int IntKind.i64 u1, AV.int IntKind.i64 u2, AV.int IntKind.i64 u3, AV.int IntKind.i64 u4,
                            AV.int IntKind.i64 u5]])
                    []).toInt]),
        []))
    (aIf (shOK Sh.bool (R51 [AV.fs 3 xs fl]))
      (aIf (!(sel (R51 [AV.fs 3 xs fl]) []).toBool)
        (some (AEnd.ret (AV.tup [AV.int IntKind.i64 0, AV.int IntKind.i64 0, AV.int IntKind.i64 1]), []))
        (aIf (decide (0 < (↑xs.length : Int)))
          (aIf ((xs.getD 0 AV.junk).cells.length == 3)
            (aIf
              ([(xs.getD 0 AV.junk).cells.getD 1 AV.junk, (xs.getD 0 AV.junk).cells.getD 2 AV.junk].getD 0
                  AV.junk).isBool
              (aIf
                (!([(xs.getD 0 AV.junk).cells.getD 1 AV.junk, (xs.getD 0 AV.junk).cells.getD 2 AV.junk].getD 0
                      AV.junk).toBool)
                (some (AEnd.ret (AV.tup [AV.int IntKind.i64 0, AV.int IntKind.i64 0, AV.int IntKind.i64 191]), []))
                (aIf (decide (0 < (↑xs.length : Int)))
                  (aIf ((xs.getD 0 AV.junk).cells.length == 3)
                    (aIf (([(xs.getD 0 AV.junk).cells.getD 2 AV.junk].getD 0 AV.junk).isInt IntKind.u8)
                      (aIf
                        (shOK (Sh.tup [Sh.int IntKind.i64, Sh.int IntKind.i64])
                          (R28
                            [AV.int IntKind.u8 p,
                              AV.int IntKind.u8 ([(xs.getD 0 AV.junk).cells.getD 2 AV.junk].getD 0 AV.junk).toInt]))
                        (aIf
                          ((sel
                                (R28
                                  [AV.int IntKind.u8 p,
                                    AV.int IntKind.u8
                                      ([(xs.getD 0 AV.junk).cells.getD 2 AV.junk].getD 0 AV.junk).toInt])
                                [1]).toInt !=
                            0)
                          (some
                            (AEnd.ret
                                (AV.tup
                                  [AV.int IntKind.i64 0, AV.int IntKind.i64 0,
                                    AV.int IntKind.i64
                                      (sel
                                          (R28
                                            [AV.int IntKind.u8 p,
                                              AV.int IntKind.u8
                                                ([(xs.getD 0 AV.junk).cells.getD 2 AV.junk].getD 0 AV.junk).toInt])
                                          [1]).toInt]),
                              []))
                          (aIf
                            (shOK (Sh.tup [Sh.int IntKind.i64, Sh.int IntKind.i64])
                              (R31
                                [AV.agg
                                    [AV.int IntKind.i64 u1, AV.int IntKind.i64 u2, AV.int IntKind.i64 u3,
                                      AV.int IntKind.i64 u4, AV.int IntKind.i64 u5],
                                  AV.int IntKind.i64
                                    (sel
                                        (R28
                                          [AV.int IntKind.u8 p,
                                            AV.int IntKind.u8
                                              ([(xs.getD 0 AV.junk).cells.getD 2 AV.junk].getD 0 AV.junk).toInt])
                                        [0]).toInt]))
                            (aIf (decide (0 < (↑xs.length : Int)))
                              (aIf ((xs.getD 0 AV.junk).cells.length == 3)
                                (aIf
                                  (([(xs.getD 0 AV.junk).cells.getD 0 AV.junk, (xs.getD 0 AV.junk).cells.getD 1 AV.junk,
                                            (xs.getD 0 AV.junk).cells.getD 2 AV.junk].getD
                                        0 AV.junk).isInt
                                    IntKind.i64)
                                  (aIf (decide (1 ≤ (↑xs.length : Int)))
                                    (aIf
                                      (Pl.pksB (List.drop 1 (List.take xs.length xs)) &&
                                                          decide
                                                            ((List.drop 1 (List.take xs.length xs)).length ≤ 1000000) &&
                                                        (↑(List.drop 1 (List.take xs.length xs)).length : Int) ==
                                                          (↑(List.drop 1 (List.take xs.length xs)).length : Int) &&
                                                      true &&
                                                    true &&
                                                  (decide
                                                      (-9223372036854775808 ≤
                                                        (sel
                                                            (R28
                                                              [AV.int IntKind.u8 p,
                                                                AV.int IntKind.u8
                                                                  ([(xs.getD 0 AV.junk).cells.getD 2 AV.junk].getD 0
                                                                      AV.junk).toInt])
                                                            [0]).toInt) &&
                                                    decide
                                                      ((sel
                                                            (R28
                                                              [AV.int IntKind.u8 p,
                                                                AV.int IntKind.u8
                                                                  ([(xs.getD 0 AV.junk).cells.getD 2 AV.junk].getD 0
                                                                      AV.junk).toInt])
                                                            [0]).toInt ≤
                                                        9223372036854775807)) &&
                                                (decide (-9223372036854775808 ≤ u1) &&
                                                  decide (u1 ≤ 9223372036854775807)) &&
                                              (decide (-9223372036854775808 ≤ u2) &&
                                                decide (u2 ≤ 9223372036854775807)) &&
                                            (decide (-9223372036854775808 ≤ u3) && decide (u3 ≤ 9223372036854775807)) &&
                                          (decide (-9223372036854775808 ≤ u4) && decide (u4 ≤ 9223372036854775807)) &&
                                        (decide (-9223372036854775808 ≤ u5) && decide (u5 ≤ 9223372036854775807)))
                                      (aIf
                                        ((Pl.runF
                                                  (fun s b f =>
                                                    (sel (R26 [AV.int IntKind.i64 s, AV.bool b, AV.int IntKind.u8 f])
                                                        [0]).toInt)
                                                  (fun s b f =>
                                                    (sel (R26 [AV.int IntKind.i64 s, AV.bool b, AV.int IntKind.u8 f])
                                                        [1]).toBool)
                                                  (fun s =>
                                                    (sel
                                                        (R31
                                                          [AV.agg
                                                              [AV.int IntKind.i64 u1, AV.int IntKind.i64 u2,
                                                                AV.int IntKind.i64 u3, AV.int IntKind.i64 u4,
                                                                AV.int IntKind.i64 u5],
                                                            AV.int IntKind.i64 s])
                                                        [0]).toInt)
                                                  (List.drop 1 (List.take xs.length xs))
                                                  ((List.drop 1 (List.take xs.length xs)).length - 0) 0
                                                  (sel
                                                      (R28
                                                        [AV.int IntKind.u8 p,
                                                          AV.int IntKind.u8
                                                            ([(xs.getD 0 AV.junk).cells.getD 2 AV.junk].getD 0
                                                                AV.junk).toInt])
                                                      [0]).toInt
                                                  (IntKind.i64.wrap
                                                    (([(xs.getD 0 AV.junk).cells.getD 0 AV.junk,
                                                              (xs.getD 0 AV.junk).cells.getD 1 AV.junk,
                                                              (xs.getD 0 AV.junk).cells.getD 2 AV.junk].getD
                                                          0 AV.junk).toInt +
                                                      (sel
                                                          (R31
                                                            [AV.agg
                                                                [AV.int IntKind.i64 u1, AV.int IntKind.i64 u2,
                                                                  AV.int IntKind.i64 u3, AV.int IntKind.i64 u4,
                                                                  AV.int IntKind.i64 u5],
                                                              AV.int IntKind.i64
                                                                (sel
                                                                    (R28
                                                                      [AV.int IntKind.u8 p,
                                                                        AV.int IntKind.u8
                                                                          ([(xs.getD 0 AV.junk).cells.getD 2
                                                                                    AV.junk].getD
                                                                              0 AV.junk).toInt])
                                                                    [0]).toInt])
                                                          [0]).toInt))).snd.snd.blt
                                          (List.drop 1 (List.take xs.length xs)).length)
                                        (some
                                          (AEnd.ret
                                              (AV.tup
                                                [AV.int IntKind.i64
                                                    (Pl.runF
                                                        (fun s b f =>
                                                          (sel
                                                              (R26
                                                                [AV.int IntKind.i64 s, AV.bool b, AV.int IntKind.u8 f])
                                                              [0]).toInt)
                                                        (fun s b f =>
                                                          (sel
                                                              (R26
                                                                [AV.int IntKind.i64 s, AV.bool b, AV.int IntKind.u8 f])
                                                              [1]).toBool)
                                                        (fun s =>
                                                          (sel
                                                              (R31
                                                                [AV.agg
                                                                    [AV.int IntKind.i64 u1, AV.int IntKind.i64 u2,
                                                                      AV.int IntKind.i64 u3, AV.int IntKind.i64 u4,
                                                                      AV.int IntKind.i64 u5],
                                                                  AV.int IntKind.i64 s])
                                                              [0]).toInt)
                                                        (List.drop 1 (List.take xs.length xs))
                                                        ((List.drop 1 (List.take xs.length xs)).length - 0) 0
                                                        (sel
                                                            (R28
                                                              [AV.int IntKind.u8 p,
                                                                AV.int IntKind.u8
                                                                  ([(xs.getD 0 AV.junk).cells.getD 2 AV.junk].getD 0
                                                                      AV.junk).toInt])
                                                            [0]).toInt
                                                        (IntKind.i64.wrap
                                                          (([(xs.getD 0 AV.junk).cells.getD 0 AV.junk,
                                                                    (xs.getD 0 AV.junk).cells.getD 1 AV.junk,
                                                                    (xs.getD 0 AV.junk).cells.getD 2 AV.junk].getD
                                                                0 AV.junk).toInt +
                                                            (sel
                                                                (R31
                                                                  [AV.agg
                                                                      [AV.int IntKind.i64 u1, AV.int IntKind.i64 u2,
                                                                        AV.int IntKind.i64 u3, AV.int IntKind.i64 u4,
                                                                        AV.int IntKind.i64 u5],
                                                                    AV.int IntKind.i64
                                                                      (sel
                                                                          (R28
                                                                            [AV.int IntKind.u8 p,
                                                                              AV.int IntKind.u8
                                                                                ([(xs.getD 0 AV.junk).cells.getD 2
                                                                                          AV.junk].getD
                                                                                    0 AV.junk).toInt])
                                                                          [0]).toInt])
                                                                [0]).toInt))).fst,
                                                  AV.int IntKind.i64
                                                    (Pl.runF
                                                          (fun s b f =>
                                                            (sel
                                                                (R26
                                                                  [AV.int IntKind.i64 s, AV.bool b,
                                                                    AV.int IntKind.u8 f])
                                                                [0]).toInt)
                                                          (fun s b f =>
                                                            (sel
                                                                (R26
                                                                  [AV.int IntKind.i64 s, AV.bool b,
                                                                    AV.int IntKind.u8 f])
                                                                [1]).toBool)
                                                          (fun s =>
                                                            (sel
                                                                (R31
                                                                  [AV.agg
                                                                      [AV.int IntKind.i64 u1, AV.int IntKind.i64 u2,
                                                                        AV.int IntKind.i64 u3, AV.int IntKind.i64 u4,
                                                                        AV.int IntKind.i64 u5],
                                                                    AV.int IntKind.i64 s])
                                                                [0]).toInt)
                                                          (List.drop 1 (List.take xs.length xs))
                                                          ((List.drop 1 (List.take xs.length xs)).length - 0) 0
                                                          (sel
                                                              (R28
                                                                [AV.int IntKind.u8 p,
                                                                  AV.int IntKind.u8
                                                                    ([(xs.getD 0 AV.junk).cells.getD 2 AV.junk].getD 0
                                                                        AV.junk).toInt])
                                                              [0]).toInt
                                                          (IntKind.i64.wrap
                                                            (([(xs.getD 0 AV.junk).cells.getD 0 AV.junk,
                                                                      (xs.getD 0 AV.junk).cells.getD 1 AV.junk,
                                                                      (xs.getD 0 AV.junk).cells.getD 2 AV.junk].getD
                                                                  0 AV.junk).toInt +
                                                              (sel
                                                                  (R31
                                                                    [AV.agg
                                                                        [AV.int IntKind.i64 u1, AV.int IntKind.i64 u2,
                                                                          AV.int IntKind.i64 u3, AV.int IntKind.i64 u4,
                                                                          AV.int IntKind.i64 u5],
                                                                      AV.int IntKind.i64
                                                                        (sel
                                                                            (R28
                                                                              [AV.int IntKind.u8 p,
                                                                                AV.int IntKind.u8
                                                                                  ([(xs.getD 0 AV.junk).cells.getD 2
                                                                                            AV.junk].getD
                                                                                      0 AV.junk).toInt])
                                                                            [0]).toInt])
                                                                  [0]).toInt))).snd.fst,
                                                  AV.int IntKind.i64 0]),
                                            []))
                                        (some
                                          (AEnd.ret
                                              (AV.tup
                                                [AV.int IntKind.i64
                                                    (Pl.runF
                                                        (fun s b f =>
                                                          (sel
                                                              (R26
                                                                [AV.int IntKind.i64 s, AV.bool b, AV.int IntKind.u8 f])
                                                              [0]).toInt)
                                                        (fun s b f =>
                                                          (sel
                                                              (R26
                                                                [AV.int IntKind.i64 s, AV.bool b, AV.int IntKind.u8 f])
                                                              [1]).toBool)
                                                        (fun s =>
                                                          (sel
                                                              (R31
                                                                [AV.agg
                                                                    [AV.int IntKind.i64 u1, AV.int IntKind.i64 u2,
                                                                      AV.int IntKind.i64 u3, AV.int IntKind.i64 u4,
                                                                      AV.int IntKind.i64 u5],
                                                                  AV.int IntKind.i64 s])
                                                              [0]).toInt)
                                                        (List.drop 1 (List.take xs.length xs))
                                                        ((List.drop 1 (List.take xs.length xs)).length - 0) 0
                                                        (sel
                                                            (R28
                                                              [AV.int IntKind.u8 p,
                                                                AV.int IntKind.u8
                                                                  ([(xs.getD 0 AV.junk).cells.getD 2 AV.junk].getD 0
                                                                      AV.junk).toInt])
                                                            [0]).toInt
                                                        (IntKind.i64.wrap
                                                          (([(xs.getD 0 AV.junk).cells.getD 0 AV.junk,
                                                                    (xs.getD 0 AV.junk).cells.getD 1 AV.junk,
                                                                    (xs.getD 0 AV.junk).cells.getD 2 AV.junk].getD
                                                                0 AV.junk).toInt +
                                                            (sel
                                                                (R31
                                                                  [AV.agg
                                                                      [AV.int IntKind.i64 u1, AV.int IntKind.i64 u2,
                                                                        AV.int IntKind.i64 u3, AV.int IntKind.i64 u4,
                                                                        AV.int IntKind.i64 u5],
                                                                    AV.int IntKind.i64
                                                                      (sel
                                                                          (R28
                                                                            [AV.int IntKind.u8 p,
                                                                              AV.int IntKind.u8
                                                                                ([(xs.getD 0 AV.junk).cells.getD 2
                                                                                          AV.junk].getD
                                                                                    0 AV.junk).toInt])
                                                                          [0]).toInt])
                                                                [0]).toInt))).fst,
                                                  AV.int IntKind.i64
                                                    (Pl.runF
                                                          (fun s b f =>
                                                            (sel
                                                                (R26
                                                                  [AV.int IntKind.i64 s, AV.bool b,
                                                                    AV.int IntKind.u8 f])
                                                                [0]).toInt)
                                                          (fun s b f =>
                                                            (sel
                                                                (R26
                                                                  [AV.int IntKind.i64 s, AV.bool b,
                                                                    AV.int IntKind.u8 f])
                                                                [1]).toBool)
                                                          (fun s =>
                                                            (sel
                                                                (R31
                                                                  [AV.agg
                                                                      [AV.int IntKind.i64 u1, AV.int IntKind.i64 u2,
                                                                        AV.int IntKind.i64 u3, AV.int IntKind.i64 u4,
                                                                        AV.int IntKind.i64 u5],
                                                                    AV.int IntKind.i64 s])
                                                                [0]).toInt)
                                                          (List.drop 1 (List.take xs.length xs))
                                                          ((List.drop 1 (List.take xs.length xs)).length - 0) 0
                                                          (sel
                                                              (R28
                                                                [AV.int IntKind.u8 p,
                                                                  AV.int IntKind.u8
                                                                    ([(xs.getD 0 AV.junk).cells.getD 2 AV.junk].getD 0
                                                                        AV.junk).toInt])
                                                              [0]).toInt
                                                          (IntKind.i64.wrap
                                                            (([(xs.getD 0 AV.junk).cells.getD 0 AV.junk,
                                                                      (xs.getD 0 AV.junk).cells.getD 1 AV.junk,
                                                                      (xs.getD 0 AV.junk).cells.getD 2 AV.junk].getD
                                                                  0 AV.junk).toInt +
                                                              (sel
                                                                  (R31
                                                                    [AV.agg
                                                                        [AV.int IntKind.i64 u1, AV.int IntKind.i64 u2,
                                                                          AV.int IntKind.i64 u3, AV.int IntKind.i64 u4,
                                                                          AV.int IntKind.i64 u5],
                                                                      AV.int IntKind.i64
                                                                        (sel
                                                                            (R28
                                                                              [AV.int IntKind.u8 p,
                                                                                AV.int IntKind.u8
                                                                                  ([(xs.getD 0 AV.junk).cells.getD 2
                                                                                            AV.junk].getD
                                                                                      0 AV.junk).toInt])
                                                                            [0]).toInt])
                                                                  [0]).toInt))).snd.fst,
                                                  AV.int IntKind.i64 0]),
                                            [])))
                                      none)
                                    none)
                                  none)
                                none)
                              none)
                            none))
                        none)
                      none)
                    none)
                  none))
              none)
            none)
          none))
      none))
  none := by kernel_rfl

theorem R36_is {xs : List AV} {fl : SF} {p u1 u2 u3 u4 u5 : Int} (hr : pksB xs = true) (hL : xs.length ≤ 1000000) (h1 : inK .i64 u1 = true) (h2 : inK .i64 u2 = true) (h3 : inK .i64 u3 = true) (h4 : inK .i64 u4 = true) (h5 : inK .i64 u5 = true) :
    ∀ W, W = flowR (sel (R33 [.agg [.int .i64 u1, .int .i64 u2, .int .i64 u3, .int .i64 u4, .int .i64 u5]]) []).toInt (sel (R28 [.int .u8 p, .int .u8 (pF xs 0)]) [0]).toInt (sel (R28 [.int .u8 p, .int .u8 (pF xs 0)]) [1]).toInt
      (fun s b f => (sel (R26 [.int .i64 s, .bool b, .int .u8 f]) [0]).toInt) (fun s b f => (sel (R26 [.int .i64 s, .bool b, .int .u8 f]) [1]).toBool) (fun s => (sel (R31 [.agg [.int .i64 u1, .int .i64 u2, .int .i64 u3, .int .i64 u4, .int .i64 u5], .int .i64 s]) [0]).toInt) xs →
    R36 [.agg [.int .i64 u1, .int .i64 u2, .int .i64 u3, .int .i64 u4, .int .i64 u5], .int .u8 p, .fs 3 xs fl] = some (.ret (.tup [.int .i64 W.1, .int .i64 W.2.1, .int .i64 W.2.2]), []) := by
  rintro W rfl
  show S36 _ [] encK = _
  rw [Q36]
  obtain ⟨n, hn, e33⟩ := R33_is u1 u2 u3 u4 u5
  have hk : inK .i64 n = true := by rcases hn with rfl | rfl <;> rfl
  have hs : sel (some (AEnd.ret (AV.int IntKind.i64 n), [])) [] = .int .i64 n := rfl
  have ti : ∀ k n, (AV.int k n).toInt = n := fun _ _ => rfl
  have tb : ∀ b, (AV.bool b).toBool = b := fun _ => rfl
  have hb : ∀ b, sel (some (AEnd.ret (AV.bool b), [])) [] = .bool b := fun _ => rfl
  simp only [e33, shOK_ret, has_int, has_bool, hs, hk, aIf_true, ti, R51_is hr hL, hb, tb, flowR]
  cases c0 : (n != 0)
  · cases c1 : (timesB xs xs.length 0 0 && Nat.blt 0 xs.length)
    · rfl
    · have hl : 0 < xs.length := by
        simp only [Bool.and_eq_true] at c1
        exact Nat.le_of_ble_eq_true c1.2
      obtain ⟨he, _, _⟩ := pks_get hr 0 hl
      have hli : decide (0 < (xs.length : Int)) = true := decide_eq_true (by omega)
      have hl1 : decide (1 ≤ (xs.length : Int)) = true := decide_eq_true (by omega)
      obtain ⟨s0, b0, e28, k0⟩ := val_ii (R28_ok p (pF xs 0))
      have hsh := R28_ok p (pF xs 0)
      rw [e28] at hsh
      have a0 : sel (some (AEnd.ret (AV.tup [AV.int .i64 s0, AV.int .i64 b0]), [])) [0] = .int .i64 s0 := rfl
      have a1 : sel (some (AEnd.ret (AV.tup [AV.int .i64 s0, AV.int .i64 b0]), [])) [1] = .int .i64 b0 := rfl
      simp only [he, AV.cells, List.length_cons, List.length_nil, List.getD_cons_zero, List.getD_cons_succ, Nat.reduceAdd, beq_self_eq_true, hli, hl1, aIf_true, AV.isBool, isInt_self, ti, tb, cond_true, cond_false, Bool.not_true, aIf_false, e28, a0, a1, hsh]
      obtain ⟨t2, l2, e2, _, k2⟩ := R31_val u1 u2 u3 u4 u5 s0 h1 h2 h3 h4 h5
      have g : ∀ u : Int, inK .i64 u = true → (decide (-9223372036854775808 ≤ u) && decide (u ≤ 9223372036854775807)) = true := fun u h => by rw [← inK_i64]; exact h
      have hd : (xs.drop 1).length = xs.length - 1 := by simp
      simp only [k2, aIf_true, List.take_length, pksB_drop hr 1, hd, decide_eq_true (show xs.length - 1 ≤ 1000000 by omega), g _ k0, g _ h1, g _ h2, g _ h3, g _ h4, g _ h5, Bool.and_self, Nat.sub_zero, (runF_drop _ _ _ xs _ _ _ _).1, (runF_drop _ _ _ xs _ _ _ _).2, Nat.zero_add]
      cases pI xs 0
      · rfl
      · cases (b0 != 0)
        · exact (aIf_neg rfl).trans ((aIf_neg rfl).trans (aIf_cases (fun _ => rfl) (fun _ => rfl)))
        · rfl
  · rfl

/-- ferryman/ferrymanlaw19.lives -/
noncomputable def T49 : List (FuncId × FSpec) := []
theorem T49_ok : TabOK Try.prog T49 := TabOK.nil _
noncomputable def C49 : Ctx := (ctx E T49 [] [(0, [0]), (1, [0])] [] 2 70)
theorem C49_ok : CtxOK Try.prog C49 := ctx_ok E_ok E_flds mixed T49_ok
noncomputable def S49 : FSpec := inlineK C49 Try.f49
theorem S49_ok : SpecOK Try.prog 49 S49 := inlineK_ok C49_ok Try.func49 (fun _ _ => LoopsOK.none _)
theorem En49 : Enters Try.prog 49 := ⟨_, Try.func49, by decide, rfl⟩

/-- ferryman/ferrymanlaw19.alive -/
noncomputable def T30 : List (FuncId × FSpec) := [(26, V26), (36, V36), (49, S49)]
theorem T30_ok : TabOK Try.prog T30 := TabOK.cons En26 V26_ok (TabOK.cons En36 V36_ok (TabOK.cons En49 S49_ok (TabOK.nil _)))
noncomputable def C30 : Ctx := (ctx E T30 [] [(0, []), (1, [1, 2, 3]), (2, [1, 2, 3, 4, 5]), (3, [0])] [] 36 70)
theorem C30_ok : CtxOK Try.prog C30 := ctx_ok E_ok E_flds mixed T30_ok
noncomputable def B30 : FSpec := inlineK C30 Try.f30
noncomputable def S30 : FSpec := constK (AV.bool true)
theorem B30_ok : SpecOK Try.prog 30 B30 := inlineK_ok C30_ok Try.func30 (fun _ _ => LoopsOK.none _)
theorem B30_is (k : KE) : B30 [] [] k = k (.ret (AV.bool true)) [] := by kernel_rfl
theorem S30_ok : SpecOK Try.prog 30 S30 := constK_ok B30_ok B30_is
theorem En30 : Enters Try.prog 30 := ⟨_, Try.func30, by decide, rfl⟩

/-- ferryman/ferrymanlaw19.few -/
noncomputable def T35 : List (FuncId × FSpec) := []
theorem T35_ok : TabOK Try.prog T35 := TabOK.nil _
noncomputable def C35 : Ctx := (ctx E T35 [] [(0, [0]), (1, [0, 5]), (2, [2]), (3, [2])] [] 9 70)
theorem C35_ok : CtxOK Try.prog C35 := ctx_ok E_ok E_flds mixed T35_ok
noncomputable def S35 : FSpec := inlineK C35 Try.f35
theorem S35_ok : SpecOK Try.prog 35 S35 := inlineK_ok C35_ok Try.func35 (fun _ _ => LoopsOK.none _)
theorem En35 : Enters Try.prog 35 := ⟨_, Try.func35, by decide, rfl⟩

/-- ferryman/ferrymanlaw19.FlowEnds -/
noncomputable def T11 : List (FuncId × FSpec) := [(30, S30), (35, S35), (36, V36)]
theorem T11_ok : TabOK Try.prog T11 := TabOK.cons En30 S30_ok (TabOK.cons En35 S35_ok (TabOK.cons En36 V36_ok (TabOK.nil _)))
noncomputable def C11 : Ctx := (ctx E T11 [] [(0, [1, 2, 3]), (1, [1, 2, 3]), (2, [2, 3, 7, 8, 9]), (3, [2, 3, 7, 8, 24]), (4, [6]), (5, [2, 3, 8, 10]), (6, [2, 8, 10, 11]), (7, [2, 8, 10, 11, 12]), (8, [6])] [] 81 70)
theorem C11_ok : CtxOK Try.prog C11 := ctx_ok E_ok E_flds mixed T11_ok
noncomputable def S11 : FSpec := inlineK C11 Try.f11
theorem S11_ok : SpecOK Try.prog 11 S11 := inlineK_ok C11_ok Try.func11 (fun _ _ => LoopsOK.none _)
theorem En11 : Enters Try.prog 11 := ⟨_, Try.func11, by decide, rfl⟩

end Go.Proofs.Ytohfnoepdbkkeaa

