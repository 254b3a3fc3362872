import Derived.Test.YtlfhkoajmjfbpaaDoorFMappingAlla
namespace Go.Proofs.YtlfhkoajmjfbpaaDoor
open Go.Abs Go.Pl

/-- ferryman/portset.Of -/
noncomputable def T49 : List (FuncId × FSpec) := [(67, S67), (68, S68)]
theorem T49_ok : TabOK Tryd.prog T49 := TabOK.cons En67 S67_ok (TabOK.cons En68 S68_ok (TabOK.nil _))
noncomputable def C49 : Ctx := (ctx E T49 [] [(0, [0, 1, 2]), (1, [0, 1, 2, 9]), (2, [0, 1, 2, 9, 10]), (3, [0, 1, 2, 9, 10, 18]), (4, [6, 7, 8]), (5, [0, 1, 9, 11]), (6, [1, 9, 11, 31]), (7, [6, 7, 8]), (8, [6, 7, 8])] [] 43 70)
theorem C49_ok : CtxOK Tryd.prog C49 := ctx_ok E_ok E_flds mixed T49_ok
noncomputable def B49 : FSpec := inlineK C49 Tryd.f49
noncomputable def S49 : FSpec := fun args H k => match args, H with
  | [.int .i64 a, .int .i64 b, .int .u16 x], [] => aIf (psetB a b x) (aIf (right a b 0) (aIf (mine a x) (k (.ret (.tup [.int .u16 (psid a b x), .bool true, .int .i64 0])) []) (k (.ret (.tup [.int .u16 0, .bool false, .int .i64 0])) [])) (k (.ret (.tup [.int .u16 0, .bool false, .int .i64 90])) [])) none
  | _, _ => none
theorem B49_ok : SpecOK Tryd.prog 49 B49 := inlineK_ok C49_ok Tryd.func49 (fun _ _ => LoopsOK.none _)
theorem N49 (a b x : Int) (k : KE) : B49 [.int .i64 a, .int .i64 b, .int .u16 x] [] k =
    aIf (Pl.psetB a b 0)
  (aIf (Pl.right a b 0)
    (aIf (decide (a > 0))
      (aIf (decide (IntKind.u64.wrap (IntKind.i64.wrap (16 - a)) < 0)) none
        (aIf ((IntKind.u32.wrap x).fdiv (2 ^ min (IntKind.u64.wrap (IntKind.i64.wrap (16 - a))).toNat 32) == 0)
          (k (AEnd.ret (AV.tup [AV.int IntKind.u16 0, AV.bool false, AV.int IntKind.i64 0])) [])
          (aIf (decide (IntKind.u64.wrap (IntKind.i64.wrap (IntKind.i64.wrap (16 - a) - b)) < 0)) none
            (aIf (decide (IntKind.u64.wrap b < 0)) none
              (k
                (AEnd.ret
                  (AV.tup
                    [AV.int IntKind.u16
                        (IntKind.u16.wrap
                          (IntKind.u32.wrap
                            ↑(BitVec.ofInt 32
                                    ((IntKind.u32.wrap x).fdiv
                                      (2 ^
                                        min (IntKind.u64.wrap (IntKind.i64.wrap (IntKind.i64.wrap (16 - a) - b))).toNat
                                          32)) &&&
                                  BitVec.ofInt 32
                                    (IntKind.u32.wrap
                                      (IntKind.u32.wrap (1 * 2 ^ min (IntKind.u64.wrap b).toNat 32) - 1))).toNat)),
                      AV.bool true, AV.int IntKind.i64 0]))
                [])))))
      (aIf (decide (IntKind.u64.wrap (IntKind.i64.wrap (IntKind.i64.wrap (16 - a) - b)) < 0)) none
        (aIf (decide (IntKind.u64.wrap b < 0)) none
          (k
            (AEnd.ret
              (AV.tup
                [AV.int IntKind.u16
                    (IntKind.u16.wrap
                      (IntKind.u32.wrap
                        ↑(BitVec.ofInt 32
                                ((IntKind.u32.wrap x).fdiv
                                  (2 ^
                                    min (IntKind.u64.wrap (IntKind.i64.wrap (IntKind.i64.wrap (16 - a) - b))).toNat
                                      32)) &&&
                              BitVec.ofInt 32
                                (IntKind.u32.wrap
                                  (IntKind.u32.wrap (1 * 2 ^ min (IntKind.u64.wrap b).toNat 32) - 1))).toNat)),
                  AV.bool true, AV.int IntKind.i64 0]))
            []))))
    (k (AEnd.ret (AV.tup [AV.int IntKind.u16 0, AV.bool false, AV.int IntKind.i64 90])) []))
  none := by kernel_rfl
theorem S49_ok : SpecOK Tryd.prog 49 S49 := by
  refine B49_ok.turn fun args H => ?_
  unfold S49
  split
  · rename_i a b x
    rcases Bool.eq_false_or_eq_true (psetB a b x) with hp | hp
    · refine .inr fun k => ?_
      rw [aIf_pos hp, N49]
      exact of_law hp k
    · exact .inl fun k => by rw [aIf_neg hp]
  · exact .inl fun k => rfl
theorem En49 : Enters Tryd.prog 49 := ⟨_, Tryd.func49, by decide, rfl⟩
noncomputable def R49 (args : List AV) : Res := S49 args [] encK
noncomputable def V49 : FSpec := leafK (.tup [.int .u16, .bool, .int .i64]) R49
theorem V49_ok : SpecOK Tryd.prog 49 V49 := leafK_ok S49_ok (fun _ => rfl)
theorem R49_is {a b x : Int} (hp : psetB a b x = true) : R49 [.int .i64 a, .int .i64 b, .int .u16 x] = some (.ret (.tup [.int .u16 (ofN a b x), .bool (ofB a b x), .int .i64 (ofE a b 0)]), []) := by
  refine (aIf_pos hp).trans ?_
  unfold ofN ofB ofE
  cases right a b 0
  · rfl
  · cases mine a x <;> rfl

/-- ferryman/portset.Has -/
noncomputable def T46 : List (FuncId × FSpec) := [(49, S49), (67, S67)]
theorem T46_ok : TabOK Tryd.prog T46 := TabOK.cons En49 S49_ok (TabOK.cons En67 S67_ok (TabOK.nil _))
noncomputable def C46 : Ctx := (ctx E T46 [] [(0, [1, 2]), (1, [1, 2, 6]), (2, [1, 2, 6, 13]), (3, [4, 5]), (4, [2, 7, 8, 9]), (5, [4, 5])] [] 33 70)
theorem C46_ok : CtxOK Tryd.prog C46 := ctx_ok E_ok E_flds mixed T46_ok
noncomputable def B46 : FSpec := inlineK C46 Tryd.f46
noncomputable def S46 : FSpec := fun args H k => match args, H with
  | [.agg [.int .i64 a, .int .i64 b, .int .u16 p], .int .u16 x], [] => aIf (psetB a b p && psetB a b x) (aIf (right a b p) (k (.ret (.tup [.bool (mine a x && (psid a b x == p)), .int .i64 0])) []) (k (.ret (.tup [.bool false, .int .i64 90])) [])) none
  | _, _ => none
theorem B46_ok : SpecOK Tryd.prog 46 B46 := inlineK_ok C46_ok Tryd.func46 (fun _ _ => LoopsOK.none _)
theorem N46 (a b p x : Int) (k : KE) : B46 [.agg [.int .i64 a, .int .i64 b, .int .u16 p], .int .u16 x] [] k =
    aIf (Pl.psetB a b p)
  (aIf (Pl.right a b p)
    (aIf (Pl.psetB a b x)
      (aIf (Pl.right a b 0)
        (aIf (Pl.mine a x) (k (AEnd.ret (AV.tup [AV.bool (Pl.psid a b x == p), AV.int IntKind.i64 0])) [])
          (k (AEnd.ret (AV.tup [AV.bool false, AV.int IntKind.i64 0])) []))
        (k (AEnd.ret (AV.tup [AV.bool false, AV.int IntKind.i64 90])) []))
      none)
    (k (AEnd.ret (AV.tup [AV.bool false, AV.int IntKind.i64 90])) []))
  none := by kernel_rfl
theorem S46_ok : SpecOK Tryd.prog 46 S46 := by
  refine B46_ok.turn fun args H => ?_
  unfold S46
  split
  · rename_i a b p x
    rcases Bool.eq_false_or_eq_true (psetB a b p && psetB a b x) with hp | hp
    · refine .inr fun k => ?_
      rw [aIf_pos hp, N46]
      exact has_law hp k
    · exact .inl fun k => by rw [aIf_neg hp]
  · exact .inl fun k => rfl
theorem En46 : Enters Tryd.prog 46 := ⟨_, Tryd.func46, by decide, rfl⟩
noncomputable def R46 (args : List AV) : Res := S46 args [] encK
noncomputable def V46 : FSpec := leafK (.tup [.bool, .int .i64]) R46
theorem V46_ok : SpecOK Tryd.prog 46 V46 := leafK_ok S46_ok (fun _ => rfl)
theorem R46_is {a b p x : Int} (hp : psetB a b p = true) (hx : psetB a b x = true) : R46 [.agg [.int .i64 a, .int .i64 b, .int .u16 p], .int .u16 x] = some (.ret (.tup [.bool (hasB a b p x), .int .i64 (ofE a b p)]), []) := by
  refine (aIf_pos (by rw [hp, hx]; rfl)).trans ?_
  unfold hasB ofE
  cases right a b p
  · rfl
  · rfl

/-- ferryman/mapping.Owns -/
noncomputable def T19 : List (FuncId × FSpec) := [(45, V45), (46, V46)]
theorem T19_ok : TabOK Tryd.prog T19 := TabOK.cons En45 V45_ok (TabOK.cons En46 V46_ok (TabOK.nil _))
noncomputable def C19 : Ctx := (ctx E T19 [] [(0, [2, 3, 4]), (1, [2, 3, 8, 9]), (2, [2, 3, 8, 9, 19]), (3, [6, 7]), (4, [3, 8, 9, 10]), (5, [3, 8, 9, 10, 29]), (6, [6, 7]), (7, [6, 7])] [] 41 70)
theorem C19_ok : CtxOK Tryd.prog C19 := ctx_ok E_ok E_flds mixed T19_ok
noncomputable def S19 : FSpec := inlineK C19 Tryd.f19
theorem S19_ok : SpecOK Tryd.prog 19 S19 := inlineK_ok C19_ok Tryd.func19 (fun _ _ => LoopsOK.none _)
theorem En19 : Enters Tryd.prog 19 := ⟨_, Tryd.func19, by decide, rfl⟩
noncomputable def R19 (args : List AV) : Res := S19 args [] encK
noncomputable def V19 : FSpec := leafK (.tup [.bool, .int .i64]) R19
theorem V19_ok : SpecOK Tryd.prog 19 V19 := leafK_ok S19_ok (fun _ => rfl)
theorem N19 (z x u w : Nat → Int) (m n a b p q : Int)
    {r0 : _} (h0 : r0 = R45 [AV.agg [AV.int IntKind.u8 (z 0), AV.int IntKind.u8 (z 1), AV.int IntKind.u8 (z 2), AV.int IntKind.u8 (z 3), AV.int IntKind.i64 m], AV.agg [AV.int IntKind.u8 (w 0), AV.int IntKind.u8 (w 1), AV.int IntKind.u8 (w 2), AV.int IntKind.u8 (w 3)]])
    {r1 : _} (h1 : r1 = R46 [AV.agg [AV.int IntKind.i64 a, AV.int IntKind.i64 b, AV.int IntKind.u16 p], AV.int IntKind.u16 q]) :
  S19 [.agg [.int .u8 (z 0), .int .u8 (z 1), .int .u8 (z 2), .int .u8 (z 3), .int .i64 m, .int .i64 a, .int .i64 b, .int .u16 p, .int .u8 (x 0), .int .u8 (x 1), .int .u8 (x 2), .int .u8 (x 3), .int .u8 (x 4), .int .u8 (x 5), .int .u8 (x 6), .int .u8 (x 7), .int .u8 (x 8), .int .u8 (x 9), .int .u8 (x 10), .int .u8 (x 11), .int .u8 (x 12), .int .u8 (x 13), .int .u8 (x 14), .int .u8 (x 15), .int .i64 n, .int .u8 (u 0), .int .u8 (u 1), .int .u8 (u 2), .int .u8 (u 3), .int .u8 (u 4), .int .u8 (u 5), .int .u8 (u 6), .int .u8 (u 7), .int .u8 (u 8), .int .u8 (u 9), .int .u8 (u 10), .int .u8 (u 11), .int .u8 (u 12), .int .u8 (u 13), .int .u8 (u 14), .int .u8 (u 15)], .agg [.int .u8 (w 0), .int .u8 (w 1), .int .u8 (w 2), .int .u8 (w 3)], .int .u16 q] [] encK =
  aIf (shOK (Sh.tup [Sh.bool, Sh.int IntKind.i64]) r0) (aIf ((sel r0 [1]).toInt != 0) (some (AEnd.ret (AV.tup [AV.bool false, AV.int IntKind.i64 (sel r0 [1]).toInt]), [])) (aIf (shOK (Sh.tup [Sh.bool, Sh.int IntKind.i64]) r1) (aIf ((sel r1 [1]).toInt != 0) (some (AEnd.ret (AV.tup [AV.bool false, AV.int IntKind.i64 (sel r1 [1]).toInt]), [])) (aIf (sel r0 [0]).toBool (aIf (b == 0) (some (AEnd.ret (AV.tup [AV.bool true, AV.int IntKind.i64 0]), [])) (some (AEnd.ret (AV.tup [AV.bool (sel r1 [0]).toBool, AV.int IntKind.i64 0]), []))) (some (AEnd.ret (AV.tup [AV.bool false, AV.int IntKind.i64 0]), [])))) none)) none := by subst h0 h1; kernel_rfl
set_option maxRecDepth 20000 in
theorem R19_is {z x u w : Nat → Int} {m n a b p q : Int} (hz : b8 z) (hw : b8 w) (hs : psetB a b p = true) (hq : 0 ≤ q ∧ q ≤ 65535) : R19 [.agg [.int .u8 (z 0), .int .u8 (z 1), .int .u8 (z 2), .int .u8 (z 3), .int .i64 m, .int .i64 a, .int .i64 b, .int .u16 p, .int .u8 (x 0), .int .u8 (x 1), .int .u8 (x 2), .int .u8 (x 3), .int .u8 (x 4), .int .u8 (x 5), .int .u8 (x 6), .int .u8 (x 7), .int .u8 (x 8), .int .u8 (x 9), .int .u8 (x 10), .int .u8 (x 11), .int .u8 (x 12), .int .u8 (x 13), .int .u8 (x 14), .int .u8 (x 15), .int .i64 n, .int .u8 (u 0), .int .u8 (u 1), .int .u8 (u 2), .int .u8 (u 3), .int .u8 (u 4), .int .u8 (u 5), .int .u8 (u 6), .int .u8 (u 7), .int .u8 (u 8), .int .u8 (u 9), .int .u8 (u 10), .int .u8 (u 11), .int .u8 (u 12), .int .u8 (u 13), .int .u8 (u 14), .int .u8 (u 15)], .agg [.int .u8 (w 0), .int .u8 (w 1), .int .u8 (w 2), .int .u8 (w 3)], .int .u16 q] = some (.ret (.tup [.bool (ownsB [.int .u8 (z 0), .int .u8 (z 1), .int .u8 (z 2), .int .u8 (z 3)] [.int .u8 (w 0), .int .u8 (w 1), .int .u8 (w 2), .int .u8 (w 3)] m a b p q), .int .i64 (ownsE [.int .u8 (z 0), .int .u8 (z 1), .int .u8 (z 2), .int .u8 (z 3)] m a b p)]), []) := by
  show S19 _ [] encK = _
  have e0 := R45_is (n := m) hz hw
  have hs2 : psetB a b q = true := by
    obtain ⟨s1, s2, s3, s4, _⟩ := psetB_iff.1 hs
    exact psetB_iff.2 ⟨s1, s2, s3, s4, hq.1, hq.2⟩
  have e1 := R46_is hs hs2
  have iE : inK .i64 (ofE a b p) = true := by unfold ofE; cases right a b p <;> rfl
  have s0 : ∀ (t : Bool) (c : Int), inK .i64 c = true → shOK (.tup [.bool, .int .i64]) (some (.ret (.tup [.bool t, .int .i64 c]), [])) = true := by
    intro t c hc
    simp only [shOK_ret, has_tup, hasL_cons, hasL_nil, has_bool, has_int, hc, List.getD_cons_zero, List.getD_cons_succ, List.length_cons, List.length_nil, beq_self_eq_true, Bool.and_self]
  rw [N19 z x u w m n a b p q e0.symm e1.symm]
  refine (aIf_pos (s0 _ _ (chkE_in _ _ _))).trans ?_
  unfold ownsB ownsE
  rcases chkE_or 32 [.int .u8 (z 0), .int .u8 (z 1), .int .u8 (z 2), .int .u8 (z 3)] m with ⟨hc, _⟩ | hc
  · rw [hc]
    refine (aIf_neg rfl).trans ((aIf_pos (s0 _ _ iE)).trans ?_)
    simp only [bne_self_eq_false, cond_false]
    have hor : ofE a b p = 0 ∨ ofE a b p = 90 := by unfold ofE; cases right a b p <;> first | exact .inl rfl | exact .inr rfl
    rcases hor with hE | hE
    · rw [hE]
      refine (aIf_neg rfl).trans ?_
      cases inB 32 [.int .u8 (z 0), .int .u8 (z 1), .int .u8 (z 2), .int .u8 (z 3)] [.int .u8 (w 0), .int .u8 (w 1), .int .u8 (w 2), .int .u8 (w 3)] m <;> cases b == 0 <;> rfl
    · rw [hE]; rfl
  · rw [hc]; rfl

/-- ferryman/mapping.Of -/
noncomputable def T23 : List (FuncId × FSpec) := [(17, V17), (33, S33), (37, V37), (45, V45), (49, V49)]
theorem T23_ok : TabOK Tryd.prog T23 := TabOK.cons En17 V17_ok (TabOK.cons En33 S33_ok (TabOK.cons En37 V37_ok (TabOK.cons En45 V45_ok (TabOK.cons En49 V49_ok (TabOK.nil _)))))
noncomputable def C23 : Ctx := (ctx E T23 [] [(0, [2, 3, 4]), (1, [2, 3, 4, 8]), (2, [2, 3, 4, 8, 21]), (3, [6, 7]), (4, [2, 3, 4, 9]), (5, [2, 3, 4, 31]), (6, [6, 7]), (7, [2, 3, 4, 12]), (8, [2, 3, 12, 13]), (9, [2, 3, 12, 13, 50]), (10, [6, 7]), (11, [12, 13, 15, 16]), (12, [12, 13, 15, 62]), (13, [6, 7]), (14, [6, 7])] [1000037] 69 70)
theorem C23_ok : CtxOK Tryd.prog C23 := ctx_ok E_ok E_flds mixed T23_ok
noncomputable def S23 : FSpec := inlineK C23 Tryd.f23
theorem S23_ok : SpecOK Tryd.prog 23 S23 := inlineK_ok C23_ok Tryd.func23 (fun _ _ => LoopsOK.none _)
theorem En23 : Enters Tryd.prog 23 := ⟨_, Tryd.func23, by decide, rfl⟩
noncomputable def R23 (args : List AV) : Res := S23 args [] encK
noncomputable def V23 : FSpec := leafK (.tup [.int .u64, .int .i64]) R23
theorem V23_ok : SpecOK Tryd.prog 23 V23 := leafK_ok S23_ok (fun _ => rfl)
theorem N23 (x z : Nat → Int) (n m e o : Int) (f : Bool) (w : Nat → Int) (p : Int)
    {r0 : _} (h0 : r0 = R17 [AV.agg [AV.int IntKind.u8 (x 0), AV.int IntKind.u8 (x 1), AV.int IntKind.u8 (x 2), AV.int IntKind.u8 (x 3), AV.int IntKind.u8 (x 4), AV.int IntKind.u8 (x 5), AV.int IntKind.u8 (x 6), AV.int IntKind.u8 (x 7), AV.int IntKind.u8 (x 8), AV.int IntKind.u8 (x 9), AV.int IntKind.u8 (x 10), AV.int IntKind.u8 (x 11), AV.int IntKind.u8 (x 12), AV.int IntKind.u8 (x 13), AV.int IntKind.u8 (x 14), AV.int IntKind.u8 (x 15), AV.int IntKind.i64 n, AV.int IntKind.u8 (z 0), AV.int IntKind.u8 (z 1), AV.int IntKind.u8 (z 2), AV.int IntKind.u8 (z 3), AV.int IntKind.i64 m, AV.int IntKind.i64 e, AV.int IntKind.i64 o, AV.bool f]])
    {r1 : _} (h1 : r1 = R45 [AV.agg [AV.int IntKind.u8 (z 0), AV.int IntKind.u8 (z 1), AV.int IntKind.u8 (z 2), AV.int IntKind.u8 (z 3), AV.int IntKind.i64 m], AV.agg [AV.int IntKind.u8 (w 0), AV.int IntKind.u8 (w 1), AV.int IntKind.u8 (w 2), AV.int IntKind.u8 (w 3)]])
    {r4 : _} (h4 : r4 = R37 [AV.fs 1 [AV.int IntKind.u8 (w 0), AV.int IntKind.u8 (w 1), AV.int IntKind.u8 (w 2), AV.int IntKind.u8 (w 3)] SF.any, AV.int IntKind.i64 m, AV.int IntKind.i64 (IntKind.i64.wrap (e - if IntKind.i64.wrap (e - IntKind.i64.wrap (32 - m)) > 0 then IntKind.i64.wrap (e - IntKind.i64.wrap (32 - m)) else 0))])
    {r5 : _} (h5 : r5 = R49 [AV.int IntKind.i64 o, AV.int IntKind.i64 (if IntKind.i64.wrap (e - IntKind.i64.wrap (32 - m)) > 0 then IntKind.i64.wrap (e - IntKind.i64.wrap (32 - m)) else 0), AV.int IntKind.u16 p]) :
  S23 [.agg [.int .u8 (x 0), .int .u8 (x 1), .int .u8 (x 2), .int .u8 (x 3), .int .u8 (x 4), .int .u8 (x 5), .int .u8 (x 6), .int .u8 (x 7), .int .u8 (x 8), .int .u8 (x 9), .int .u8 (x 10), .int .u8 (x 11), .int .u8 (x 12), .int .u8 (x 13), .int .u8 (x 14), .int .u8 (x 15), .int .i64 n, .int .u8 (z 0), .int .u8 (z 1), .int .u8 (z 2), .int .u8 (z 3), .int .i64 m, .int .i64 e, .int .i64 o, .bool f], .agg [.int .u8 (w 0), .int .u8 (w 1), .int .u8 (w 2), .int .u8 (w 3)], .int .u16 p] [] encK =
  aIf (shOK (Sh.int IntKind.i64) r0) (aIf ((sel r0 []).toInt != 0) (some (AEnd.ret (AV.tup [AV.int IntKind.u64 0, AV.int IntKind.i64 (sel r0 []).toInt]), [])) (aIf (shOK (Sh.tup [Sh.bool, Sh.int IntKind.i64]) r1) (aIf (!(sel r1 [0]).toBool) (some (AEnd.ret (AV.tup [AV.int IntKind.u64 0, AV.int IntKind.i64 82]), [])) (aIf (shOK (Sh.tup [Sh.int IntKind.u64, Sh.int IntKind.i64]) r4) (aIf ((if IntKind.i64.wrap (e - IntKind.i64.wrap (32 - m)) > 0 then IntKind.i64.wrap (e - IntKind.i64.wrap (32 - m)) else 0) == 0) (some (AEnd.ret (AV.tup [AV.int IntKind.u64 (sel r4 [0]).toInt, AV.int IntKind.i64 0]), [])) (aIf (shOK (Sh.tup [Sh.int IntKind.u16, Sh.bool, Sh.int IntKind.i64]) r5) (aIf (!(sel r5 [1]).toBool) (some (AEnd.ret (AV.tup [AV.int IntKind.u64 0, AV.int IntKind.i64 91]), [])) (aIf (decide ((if IntKind.i64.wrap (e - IntKind.i64.wrap (32 - m)) > 0 then IntKind.i64.wrap (e - IntKind.i64.wrap (32 - m)) else 0) < 0)) none (some (AEnd.ret (AV.tup [AV.int IntKind.u64 (IntKind.u64.wrap (↑(BitVec.ofInt 64 (IntKind.u64.wrap ((sel r4 [0]).toInt * 2 ^ min (if IntKind.i64.wrap (e - IntKind.i64.wrap (32 - m)) > 0 then IntKind.i64.wrap (e - IntKind.i64.wrap (32 - m)) else 0).toNat 64)) ||| BitVec.ofInt 64 (IntKind.u64.wrap (sel r5 [0]).toInt)).toNat : Int)), AV.int IntKind.i64 0]), [])))) none)) none)) none)) none := by subst h0 h1 h4 h5; kernel_rfl
set_option maxRecDepth 20000 in
set_option maxHeartbeats 1000000 in
theorem R23_is {x z : Nat → Int} {n m e o : Int} {f : Bool} {w : Nat → Int} {p : Int} (hx : b8 x) (hz : b8 z) (hw : b8 w) (hp : 0 ≤ p ∧ p ≤ 65535) : R23 [.agg [.int .u8 (x 0), .int .u8 (x 1), .int .u8 (x 2), .int .u8 (x 3), .int .u8 (x 4), .int .u8 (x 5), .int .u8 (x 6), .int .u8 (x 7), .int .u8 (x 8), .int .u8 (x 9), .int .u8 (x 10), .int .u8 (x 11), .int .u8 (x 12), .int .u8 (x 13), .int .u8 (x 14), .int .u8 (x 15), .int .i64 n, .int .u8 (z 0), .int .u8 (z 1), .int .u8 (z 2), .int .u8 (z 3), .int .i64 m, .int .i64 e, .int .i64 o, .bool f], .agg [.int .u8 (w 0), .int .u8 (w 1), .int .u8 (w 2), .int .u8 (w 3)], .int .u16 p] = some (.ret (.tup [.int .u64 (ofV [.int .u8 (x 0), .int .u8 (x 1), .int .u8 (x 2), .int .u8 (x 3), .int .u8 (x 4), .int .u8 (x 5), .int .u8 (x 6), .int .u8 (x 7), .int .u8 (x 8), .int .u8 (x 9), .int .u8 (x 10), .int .u8 (x 11), .int .u8 (x 12), .int .u8 (x 13), .int .u8 (x 14), .int .u8 (x 15)] [.int .u8 (z 0), .int .u8 (z 1), .int .u8 (z 2), .int .u8 (z 3)] [.int .u8 (w 0), .int .u8 (w 1), .int .u8 (w 2), .int .u8 (w 3)] n m e o p), .int .i64 (ofR [.int .u8 (x 0), .int .u8 (x 1), .int .u8 (x 2), .int .u8 (x 3), .int .u8 (x 4), .int .u8 (x 5), .int .u8 (x 6), .int .u8 (x 7), .int .u8 (x 8), .int .u8 (x 9), .int .u8 (x 10), .int .u8 (x 11), .int .u8 (x 12), .int .u8 (x 13), .int .u8 (x 14), .int .u8 (x 15)] [.int .u8 (z 0), .int .u8 (z 1), .int .u8 (z 2), .int .u8 (z 3)] [.int .u8 (w 0), .int .u8 (w 1), .int .u8 (w 2), .int .u8 (w 3)] n m e o p)]), []) := by
  show S23 _ [] encK = _
  have e0 := R17_is (n := n) (m := m) (e := e) (o := o) (f := f) hx hz
  rcases chkR_or [.int .u8 (x 0), .int .u8 (x 1), .int .u8 (x 2), .int .u8 (x 3), .int .u8 (x 4), .int .u8 (x 5), .int .u8 (x 6), .int .u8 (x 7), .int .u8 (x 8), .int .u8 (x 9), .int .u8 (x 10), .int .u8 (x 11), .int .u8 (x 12), .int .u8 (x 13), .int .u8 (x 14), .int .u8 (x 15)] [.int .u8 (z 0), .int .u8 (z 1), .int .u8 (z 2), .int .u8 (z 3)] n m e o with ⟨hc, ⟨a1, a2, a3⟩, ⟨b1, b2, b3⟩, c1, c2, c3, c4, c5⟩ | hc
  rotate_left
  · rw [N23 x z n m e o f w p e0.symm rfl rfl rfl]
    rcases hc with hc | hc <;> (unfold ofV ofR; rw [hc]; rfl)
  have w1 : IntKind.i64.wrap (32 - m) = 32 - m := i64_of (by omega) (by omega)
  have w2 : IntKind.i64.wrap (e - (32 - m)) = e - (32 - m) := i64_of (by omega) (by omega)
  have w3 : (if e - (32 - m) > 0 then e - (32 - m) else 0) = qR m e := rfl
  have w3' : (if 0 > e - (32 - m) then 0 else e - (32 - m)) = qR m e := by unfold qR; split <;> split <;> omega
  have hqd : decide (e - (32 - m) > 0) = decide (qR m e > 0) := by
    unfold qR
    by_cases hh : e - (32 - m) > 0
    · rw [if_pos hh]
    · rw [if_neg hh, decide_eq_false hh]; rfl
  have hq0 : 0 ≤ qR m e ∧ qR m e ≤ 16 ∧ qR m e ≤ e ∧ e - qR m e ≤ 32 - m := by unfold qR; split <;> omega
  have hps := psetB_q hc hp
  have wu : IntKind.u64.wrap (qR m e) = qR m e := u64_of (by omega) (by omega)
  have w4 : IntKind.i64.wrap (e - qR m e) = e - qR m e := i64_of (by omega) (by omega)
  have hI := R45_is (n := m) hz hw
  have hG : getX [.int .u8 (w 0), .int .u8 (w 1), .int .u8 (w 2), .int .u8 (w 3)] m (e - qR m e) = getN [.int .u8 (w 0), .int .u8 (w 1), .int .u8 (w 2), .int .u8 (w 3)] m.toNat (e - qR m e).toNat := by
    unfold getX
    rw [decide_eq_false (show ¬ e - qR m e > 64 by omega), show thereB ([.int .u8 (w 0), .int .u8 (w 1), .int .u8 (w 2), .int .u8 (w 3)] : List AV).length m (e - qR m e) = true from by simp only [thereB, Bool.and_eq_true, decide_eq_true_eq, List.length_cons, List.length_nil]; omega]
    rfl
  have s1 : shOK (.tup [.bool, .int .i64]) (some (.ret (.tup [.bool (inB 32 [.int .u8 (z 0), .int .u8 (z 1), .int .u8 (z 2), .int .u8 (z 3)] [.int .u8 (w 0), .int .u8 (w 1), .int .u8 (w 2), .int .u8 (w 3)] m), .int .i64 (chkE 32 [.int .u8 (z 0), .int .u8 (z 1), .int .u8 (z 2), .int .u8 (z 3)] m)]), [])) = true := by
    simp only [shOK_ret, has_tup, hasL_cons, hasL_nil, has_bool, has_int, List.getD_cons_zero, List.getD_cons_succ, List.length_cons, List.length_nil, beq_self_eq_true, Bool.and_self, chkE_in]
  have hO : R49 [.int .i64 o, .int .i64 (if IntKind.i64.wrap (e - IntKind.i64.wrap (32 - m)) > 0 then IntKind.i64.wrap (e - IntKind.i64.wrap (32 - m)) else 0), .int .u16 p] = some (.ret (.tup [.int .u16 (ofN o (qR m e) p), .bool (ofB o (qR m e) p), .int .i64 (ofE o (qR m e) 0)]), []) := by
    rw [w1, w2, w3]; exact R49_is hps.1
  have hid : 0 ≤ ofN o (qR m e) p ∧ ofN o (qR m e) p ≤ 65535 := by
    unfold ofN
    cases right o (qR m e) 0 && mine o p
    · exact ⟨by show (0 : Int) ≤ 0; omega, by show (0 : Int) ≤ 65535; omega⟩
    · have := psid_bounds hps.1 hps.2
      exact ⟨this.1, this.2.1⟩
  have s5 : shOK (.tup [.int .u16, .bool, .int .i64]) (some (.ret (.tup [.int .u16 (ofN o (qR m e) p), .bool (ofB o (qR m e) p), .int .i64 (ofE o (qR m e) 0)]), [])) = true := by
    have i1 : inK .u16 (ofN o (qR m e) p) = true := by rw [inK_u16, decide_eq_true hid.1, decide_eq_true hid.2]; rfl
    have i2 : inK .i64 (ofE o (qR m e) 0) = true := by unfold ofE; rw [hps.2]; rfl
    simp only [shOK_ret, has_tup, hasL_cons, hasL_nil, has_bool, has_int, List.getD_cons_zero, List.getD_cons_succ, List.length_cons, List.length_nil, beq_self_eq_true, Bool.and_self, i1, i2]
  have e4 : R37 [.fs 1 [.int .u8 (w 0), .int .u8 (w 1), .int .u8 (w 2), .int .u8 (w 3)] .any, .int .i64 m, .int .i64 (IntKind.i64.wrap (e - (if IntKind.i64.wrap (e - IntKind.i64.wrap (32 - m)) > 0 then IntKind.i64.wrap (e - IntKind.i64.wrap (32 - m)) else 0)))] = some (.ret (.tup [.int .u64 (getX [.int .u8 (w 0), .int .u8 (w 1), .int .u8 (w 2), .int .u8 (w 3)] m (e - qR m e)), .int .i64 0]), []) := by
    rw [w1, w2, w3, w4, R37_is (b8_4 hw) (show (4 : Nat) ≤ 1000000 by decide)]
    have : getE ([.int .u8 (w 0), .int .u8 (w 1), .int .u8 (w 2), .int .u8 (w 3)] : List AV).length m (e - qR m e) = 0 := by
      unfold getE
      rw [decide_eq_false (show ¬ e - qR m e > 64 by omega), show thereB ([.int .u8 (w 0), .int .u8 (w 1), .int .u8 (w 2), .int .u8 (w 3)] : List AV).length m (e - qR m e) = true from by simp only [thereB, Bool.and_eq_true, decide_eq_true_eq, List.length_cons, List.length_nil]; omega]
      rfl
    rw [this]
  have s4 : shOK (.tup [.int .u64, .int .i64]) (some (.ret (.tup [.int .u64 (getX [.int .u8 (w 0), .int .u8 (w 1), .int .u8 (w 2), .int .u8 (w 3)] m (e - qR m e)), .int .i64 0]), [])) = true := by
    simp only [shOK_ret, has_tup, hasL_cons, hasL_nil, has_bool, has_int, List.getD_cons_zero, List.getD_cons_succ, List.length_cons, List.length_nil, beq_self_eq_true, Bool.and_self, getX_inK]; rfl
  rw [N23 x z n m e o f w p e0.symm hI.symm e4.symm hO.symm]
  refine (aIf_pos (by rw [hc]; rfl)).trans ((aIf_neg (by rw [hc]; rfl)).trans ((aIf_pos s1).trans ?_))
  cases hi : inB 32 [.int .u8 (z 0), .int .u8 (z 1), .int .u8 (z 2), .int .u8 (z 3)] [.int .u8 (w 0), .int .u8 (w 1), .int .u8 (w 2), .int .u8 (w 3)] m
  · have hr : ofR [.int .u8 (x 0), .int .u8 (x 1), .int .u8 (x 2), .int .u8 (x 3), .int .u8 (x 4), .int .u8 (x 5), .int .u8 (x 6), .int .u8 (x 7), .int .u8 (x 8), .int .u8 (x 9), .int .u8 (x 10), .int .u8 (x 11), .int .u8 (x 12), .int .u8 (x 13), .int .u8 (x 14), .int .u8 (x 15)] [.int .u8 (z 0), .int .u8 (z 1), .int .u8 (z 2), .int .u8 (z 3)] [.int .u8 (w 0), .int .u8 (w 1), .int .u8 (w 2), .int .u8 (w 3)] n m e o p = 82 := by unfold ofR; rw [hc, hi]; rfl
    have hv : ofV [.int .u8 (x 0), .int .u8 (x 1), .int .u8 (x 2), .int .u8 (x 3), .int .u8 (x 4), .int .u8 (x 5), .int .u8 (x 6), .int .u8 (x 7), .int .u8 (x 8), .int .u8 (x 9), .int .u8 (x 10), .int .u8 (x 11), .int .u8 (x 12), .int .u8 (x 13), .int .u8 (x 14), .int .u8 (x 15)] [.int .u8 (z 0), .int .u8 (z 1), .int .u8 (z 2), .int .u8 (z 3)] [.int .u8 (w 0), .int .u8 (w 1), .int .u8 (w 2), .int .u8 (w 3)] n m e o p = 0 := by unfold ofV; rw [hr]; rfl
    rw [hr, hv]
    rfl
  refine (aIf_neg rfl).trans ?_
  refine (aIf_pos s4).trans ?_
  rw [w1, w2, w3]
  have sg : ∀ g : Int, (sel (some (AEnd.ret (AV.tup [AV.int .u64 g, AV.int .i64 0]), [])) [0]).toInt = g := fun _ => rfl
  have sn : (sel (some (AEnd.ret (AV.tup [AV.int .u16 (ofN o (qR m e) p), AV.bool (ofB o (qR m e) p), AV.int .i64 (ofE o (qR m e) 0)]), [])) [0]).toInt = ofN o (qR m e) p := rfl
  by_cases hz0 : qR m e = 0
  · have hr : ofR [.int .u8 (x 0), .int .u8 (x 1), .int .u8 (x 2), .int .u8 (x 3), .int .u8 (x 4), .int .u8 (x 5), .int .u8 (x 6), .int .u8 (x 7), .int .u8 (x 8), .int .u8 (x 9), .int .u8 (x 10), .int .u8 (x 11), .int .u8 (x 12), .int .u8 (x 13), .int .u8 (x 14), .int .u8 (x 15)] [.int .u8 (z 0), .int .u8 (z 1), .int .u8 (z 2), .int .u8 (z 3)] [.int .u8 (w 0), .int .u8 (w 1), .int .u8 (w 2), .int .u8 (w 3)] n m e o p = 0 := by unfold ofR; rw [hc, hi, show (qR m e == 0) = true from by simpa using hz0]; rfl
    have hv : ofV [.int .u8 (x 0), .int .u8 (x 1), .int .u8 (x 2), .int .u8 (x 3), .int .u8 (x 4), .int .u8 (x 5), .int .u8 (x 6), .int .u8 (x 7), .int .u8 (x 8), .int .u8 (x 9), .int .u8 (x 10), .int .u8 (x 11), .int .u8 (x 12), .int .u8 (x 13), .int .u8 (x 14), .int .u8 (x 15)] [.int .u8 (z 0), .int .u8 (z 1), .int .u8 (z 2), .int .u8 (z 3)] [.int .u8 (w 0), .int .u8 (w 1), .int .u8 (w 2), .int .u8 (w 3)] n m e o p = getX [.int .u8 (w 0), .int .u8 (w 1), .int .u8 (w 2), .int .u8 (w 3)] m (e - qR m e) := by
      unfold ofV
      rw [hr, show (qR m e == 0) = true from by simpa using hz0]
      show getX [.int .u8 (w 0), .int .u8 (w 1), .int .u8 (w 2), .int .u8 (w 3)] m (e - qR m e) * 2 ^ (qR m e).toNat + 0 = _
      rw [show (qR m e).toNat = 0 by omega, Int.pow_zero, Int.mul_one, Int.add_zero]
    refine (aIf_pos ?_).trans ?_
    · simpa using hz0
    · rw [hr, hv]; simp only [sg]
  · have hzf : (qR m e == 0) = false := beq_eq_false_iff_ne.2 hz0
    refine (aIf_neg ?_).trans ((aIf_pos s5).trans ?_)
    · exact hzf
    cases hb : ofB o (qR m e) p
    · have hr : ofR [.int .u8 (x 0), .int .u8 (x 1), .int .u8 (x 2), .int .u8 (x 3), .int .u8 (x 4), .int .u8 (x 5), .int .u8 (x 6), .int .u8 (x 7), .int .u8 (x 8), .int .u8 (x 9), .int .u8 (x 10), .int .u8 (x 11), .int .u8 (x 12), .int .u8 (x 13), .int .u8 (x 14), .int .u8 (x 15)] [.int .u8 (z 0), .int .u8 (z 1), .int .u8 (z 2), .int .u8 (z 3)] [.int .u8 (w 0), .int .u8 (w 1), .int .u8 (w 2), .int .u8 (w 3)] n m e o p = 91 := by unfold ofR; rw [hc, hi, hzf, hb]; rfl
      have hv : ofV [.int .u8 (x 0), .int .u8 (x 1), .int .u8 (x 2), .int .u8 (x 3), .int .u8 (x 4), .int .u8 (x 5), .int .u8 (x 6), .int .u8 (x 7), .int .u8 (x 8), .int .u8 (x 9), .int .u8 (x 10), .int .u8 (x 11), .int .u8 (x 12), .int .u8 (x 13), .int .u8 (x 14), .int .u8 (x 15)] [.int .u8 (z 0), .int .u8 (z 1), .int .u8 (z 2), .int .u8 (z 3)] [.int .u8 (w 0), .int .u8 (w 1), .int .u8 (w 2), .int .u8 (w 3)] n m e o p = 0 := by unfold ofV; rw [hr]; rfl
      rw [hr, hv]
      rfl
    · have hr : ofR [.int .u8 (x 0), .int .u8 (x 1), .int .u8 (x 2), .int .u8 (x 3), .int .u8 (x 4), .int .u8 (x 5), .int .u8 (x 6), .int .u8 (x 7), .int .u8 (x 8), .int .u8 (x 9), .int .u8 (x 10), .int .u8 (x 11), .int .u8 (x 12), .int .u8 (x 13), .int .u8 (x 14), .int .u8 (x 15)] [.int .u8 (z 0), .int .u8 (z 1), .int .u8 (z 2), .int .u8 (z 3)] [.int .u8 (w 0), .int .u8 (w 1), .int .u8 (w 2), .int .u8 (w 3)] n m e o p = 0 := by unfold ofR; rw [hc, hi, hzf, hb]; rfl
      have hk := ofV_ok (X := [.int .u8 (x 0), .int .u8 (x 1), .int .u8 (x 2), .int .u8 (x 3), .int .u8 (x 4), .int .u8 (x 5), .int .u8 (x 6), .int .u8 (x 7), .int .u8 (x 8), .int .u8 (x 9), .int .u8 (x 10), .int .u8 (x 11), .int .u8 (x 12), .int .u8 (x 13), .int .u8 (x 14), .int .u8 (x 15)]) (Z := [.int .u8 (z 0), .int .u8 (z 1), .int .u8 (z 2), .int .u8 (z 3)]) (W := [.int .u8 (w 0), .int .u8 (w 1), .int .u8 (w 2), .int .u8 (w 3)]) rfl hp hr
      have hv : ofV [.int .u8 (x 0), .int .u8 (x 1), .int .u8 (x 2), .int .u8 (x 3), .int .u8 (x 4), .int .u8 (x 5), .int .u8 (x 6), .int .u8 (x 7), .int .u8 (x 8), .int .u8 (x 9), .int .u8 (x 10), .int .u8 (x 11), .int .u8 (x 12), .int .u8 (x 13), .int .u8 (x 14), .int .u8 (x 15)] [.int .u8 (z 0), .int .u8 (z 1), .int .u8 (z 2), .int .u8 (z 3)] [.int .u8 (w 0), .int .u8 (w 1), .int .u8 (w 2), .int .u8 (w 3)] n m e o p = getX [.int .u8 (w 0), .int .u8 (w 1), .int .u8 (w 2), .int .u8 (w 3)] m (e - qR m e) * 2 ^ (qR m e).toNat + ofN o (qR m e) p := by
        unfold ofV
        rw [hr, hzf]; rfl
      have hlt : ofN o (qR m e) p < 2 ^ (qR m e).toNat := by
        unfold ofN
        unfold ofB at hb
        rw [hb]
        exact (psid_bounds hps.1 hps.2).2.2
      have h64 := hk.2.2.1
      obtain ⟨_, _, _, _, _, _, _, _, _, _, h64, _⟩ := h64
      refine (aIf_neg rfl).trans ((aIf_neg ?_).trans ?_)
      · exact decide_eq_false (by omega)
      · rw [hr, hv, show min (qR m e).toNat 64 = (qR m e).toNat by omega]
        try simp only [sg]
        have hor := or_shift (g := getX [.int .u8 (w 0), .int .u8 (w 1), .int .u8 (w 2), .int .u8 (w 3)] m (e - qR m e)) (b := ofN o (qR m e) p) (q := (qR m e).toNat) (getX_range _ _ _).1 hid.1 hlt (by rw [← hv]; exact h64)
        exact congrArg (fun c => some (AEnd.ret (AV.tup [AV.int .u64 c, AV.int .i64 0]), [])) hor

/-- ferryman/mapping.Map -/
noncomputable def T25 : List (FuncId × FSpec) := [(10, V10), (23, V23)]
theorem T25_ok : TabOK Tryd.prog T25 := TabOK.cons En10 V10_ok (TabOK.cons En23 V23_ok (TabOK.nil _))
noncomputable def C25 : Ctx := (ctx E T25 [] [(0, [2, 3, 4, 6]), (1, [3, 6, 8, 9]), (2, [3, 6, 8, 9, 20]), (3, [6, 7]), (4, [6, 10]), (5, [6, 7])] [] 31 70)
theorem C25_ok : CtxOK Tryd.prog C25 := ctx_ok E_ok E_flds mixed T25_ok
noncomputable def S25 : FSpec := inlineK C25 Tryd.f25
theorem S25_ok : SpecOK Tryd.prog 25 S25 := inlineK_ok C25_ok Tryd.func25 (fun _ _ => LoopsOK.none _)
theorem En25 : Enters Tryd.prog 25 := ⟨_, Tryd.func25, by decide, rfl⟩
noncomputable def R25 (args : List AV) : Res := S25 args [] encK
noncomputable def V25 : FSpec := leafK (.tup [.agg [.int .u8, .int .u8, .int .u8, .int .u8, .int .u8, .int .u8, .int .u8, .int .u8, .int .u8, .int .u8, .int .u8, .int .u8, .int .u8, .int .u8, .int .u8, .int .u8], .int .i64]) R25
theorem V25_ok : SpecOK Tryd.prog 25 V25 := leafK_ok S25_ok (fun _ => rfl)
theorem N25 (x z : Nat → Int) (n m e o : Int) (f : Bool) (w : Nat → Int) (p : Int)
    {r0 : _} (h0 : r0 = R23 [AV.agg [AV.int IntKind.u8 (x 0), AV.int IntKind.u8 (x 1), AV.int IntKind.u8 (x 2), AV.int IntKind.u8 (x 3), AV.int IntKind.u8 (x 4), AV.int IntKind.u8 (x 5), AV.int IntKind.u8 (x 6), AV.int IntKind.u8 (x 7), AV.int IntKind.u8 (x 8), AV.int IntKind.u8 (x 9), AV.int IntKind.u8 (x 10), AV.int IntKind.u8 (x 11), AV.int IntKind.u8 (x 12), AV.int IntKind.u8 (x 13), AV.int IntKind.u8 (x 14), AV.int IntKind.u8 (x 15), AV.int IntKind.i64 n, AV.int IntKind.u8 (z 0), AV.int IntKind.u8 (z 1), AV.int IntKind.u8 (z 2), AV.int IntKind.u8 (z 3), AV.int IntKind.i64 m, AV.int IntKind.i64 e, AV.int IntKind.i64 o, AV.bool f], AV.agg [AV.int IntKind.u8 (w 0), AV.int IntKind.u8 (w 1), AV.int IntKind.u8 (w 2), AV.int IntKind.u8 (w 3)], AV.int IntKind.u16 p])
    {r1 : _} (h1 : r1 = R10 [AV.agg [AV.int IntKind.u8 (x 0), AV.int IntKind.u8 (x 1), AV.int IntKind.u8 (x 2), AV.int IntKind.u8 (x 3), AV.int IntKind.u8 (x 4), AV.int IntKind.u8 (x 5), AV.int IntKind.u8 (x 6), AV.int IntKind.u8 (x 7), AV.int IntKind.u8 (x 8), AV.int IntKind.u8 (x 9), AV.int IntKind.u8 (x 10), AV.int IntKind.u8 (x 11), AV.int IntKind.u8 (x 12), AV.int IntKind.u8 (x 13), AV.int IntKind.u8 (x 14), AV.int IntKind.u8 (x 15), AV.int IntKind.i64 n, AV.int IntKind.u8 (z 0), AV.int IntKind.u8 (z 1), AV.int IntKind.u8 (z 2), AV.int IntKind.u8 (z 3), AV.int IntKind.i64 m, AV.int IntKind.i64 e, AV.int IntKind.i64 o, AV.bool f], AV.int IntKind.u64 (sel r0 [0]).toInt]) :
  S25 [.agg [.int .u8 (x 0), .int .u8 (x 1), .int .u8 (x 2), .int .u8 (x 3), .int .u8 (x 4), .int .u8 (x 5), .int .u8 (x 6), .int .u8 (x 7), .int .u8 (x 8), .int .u8 (x 9), .int .u8 (x 10), .int .u8 (x 11), .int .u8 (x 12), .int .u8 (x 13), .int .u8 (x 14), .int .u8 (x 15), .int .i64 n, .int .u8 (z 0), .int .u8 (z 1), .int .u8 (z 2), .int .u8 (z 3), .int .i64 m, .int .i64 e, .int .i64 o, .bool f], .agg [.int .u8 (w 0), .int .u8 (w 1), .int .u8 (w 2), .int .u8 (w 3)], .int .u16 p] [] encK =
  aIf (shOK (Sh.tup [Sh.int IntKind.u64, Sh.int IntKind.i64]) r0) (aIf ((sel r0 [1]).toInt != 0) (some (AEnd.ret (AV.tup [AV.agg [AV.int IntKind.u8 0, AV.int IntKind.u8 0, AV.int IntKind.u8 0, AV.int IntKind.u8 0, AV.int IntKind.u8 0, AV.int IntKind.u8 0, AV.int IntKind.u8 0, AV.int IntKind.u8 0, AV.int IntKind.u8 0, AV.int IntKind.u8 0, AV.int IntKind.u8 0, AV.int IntKind.u8 0, AV.int IntKind.u8 0, AV.int IntKind.u8 0, AV.int IntKind.u8 0, AV.int IntKind.u8 0], AV.int IntKind.i64 (sel r0 [1]).toInt]), [])) (aIf (shOK (Sh.tup [Sh.agg [Sh.int IntKind.u8, Sh.int IntKind.u8, Sh.int IntKind.u8, Sh.int IntKind.u8, Sh.int IntKind.i64, Sh.int IntKind.i64, Sh.int IntKind.i64, Sh.int IntKind.u16, Sh.int IntKind.u8, Sh.int IntKind.u8, Sh.int IntKind.u8, Sh.int IntKind.u8, Sh.int IntKind.u8, Sh.int IntKind.u8, Sh.int IntKind.u8, Sh.int IntKind.u8, Sh.int IntKind.u8, Sh.int IntKind.u8, Sh.int IntKind.u8, Sh.int IntKind.u8, Sh.int IntKind.u8, Sh.int IntKind.u8, Sh.int IntKind.u8, Sh.int IntKind.u8, Sh.int IntKind.i64, Sh.int IntKind.u8, Sh.int IntKind.u8, Sh.int IntKind.u8, Sh.int IntKind.u8, Sh.int IntKind.u8, Sh.int IntKind.u8, Sh.int IntKind.u8, Sh.int IntKind.u8, Sh.int IntKind.u8, Sh.int IntKind.u8, Sh.int IntKind.u8, Sh.int IntKind.u8, Sh.int IntKind.u8, Sh.int IntKind.u8, Sh.int IntKind.u8, Sh.int IntKind.u8], Sh.int IntKind.i64]) r1) (some (AEnd.ret (AV.tup [AV.agg [AV.int IntKind.u8 (sel r1 [0, 25]).toInt, AV.int IntKind.u8 (sel r1 [0, 26]).toInt, AV.int IntKind.u8 (sel r1 [0, 27]).toInt, AV.int IntKind.u8 (sel r1 [0, 28]).toInt, AV.int IntKind.u8 (sel r1 [0, 29]).toInt, AV.int IntKind.u8 (sel r1 [0, 30]).toInt, AV.int IntKind.u8 (sel r1 [0, 31]).toInt, AV.int IntKind.u8 (sel r1 [0, 32]).toInt, AV.int IntKind.u8 (sel r1 [0, 33]).toInt, AV.int IntKind.u8 (sel r1 [0, 34]).toInt, AV.int IntKind.u8 (sel r1 [0, 35]).toInt, AV.int IntKind.u8 (sel r1 [0, 36]).toInt, AV.int IntKind.u8 (sel r1 [0, 37]).toInt, AV.int IntKind.u8 (sel r1 [0, 38]).toInt, AV.int IntKind.u8 (sel r1 [0, 39]).toInt, AV.int IntKind.u8 (sel r1 [0, 40]).toInt], AV.int IntKind.i64 0]), [])) none)) none := by subst h0 h1; kernel_rfl
set_option maxRecDepth 20000 in
set_option maxHeartbeats 1000000 in
theorem R25_is {x z : Nat → Int} {n m e o : Int} {f : Bool} {w : Nat → Int} {p : Int} (hx : b8 x) (hz : b8 z) (hw : b8 w) (ho : inK .i64 o = true) (hp : 0 ≤ p ∧ p ≤ 65535) : R25 [.agg [.int .u8 (x 0), .int .u8 (x 1), .int .u8 (x 2), .int .u8 (x 3), .int .u8 (x 4), .int .u8 (x 5), .int .u8 (x 6), .int .u8 (x 7), .int .u8 (x 8), .int .u8 (x 9), .int .u8 (x 10), .int .u8 (x 11), .int .u8 (x 12), .int .u8 (x 13), .int .u8 (x 14), .int .u8 (x 15), .int .i64 n, .int .u8 (z 0), .int .u8 (z 1), .int .u8 (z 2), .int .u8 (z 3), .int .i64 m, .int .i64 e, .int .i64 o, .bool f], .agg [.int .u8 (w 0), .int .u8 (w 1), .int .u8 (w 2), .int .u8 (w 3)], .int .u16 p] = some (.ret (.tup [.agg [.int .u8 (byteAt (mapW [.int .u8 (x 0), .int .u8 (x 1), .int .u8 (x 2), .int .u8 (x 3), .int .u8 (x 4), .int .u8 (x 5), .int .u8 (x 6), .int .u8 (x 7), .int .u8 (x 8), .int .u8 (x 9), .int .u8 (x 10), .int .u8 (x 11), .int .u8 (x 12), .int .u8 (x 13), .int .u8 (x 14), .int .u8 (x 15)] [.int .u8 (z 0), .int .u8 (z 1), .int .u8 (z 2), .int .u8 (z 3)] [.int .u8 (w 0), .int .u8 (w 1), .int .u8 (w 2), .int .u8 (w 3)] n m e o p) 0), .int .u8 (byteAt (mapW [.int .u8 (x 0), .int .u8 (x 1), .int .u8 (x 2), .int .u8 (x 3), .int .u8 (x 4), .int .u8 (x 5), .int .u8 (x 6), .int .u8 (x 7), .int .u8 (x 8), .int .u8 (x 9), .int .u8 (x 10), .int .u8 (x 11), .int .u8 (x 12), .int .u8 (x 13), .int .u8 (x 14), .int .u8 (x 15)] [.int .u8 (z 0), .int .u8 (z 1), .int .u8 (z 2), .int .u8 (z 3)] [.int .u8 (w 0), .int .u8 (w 1), .int .u8 (w 2), .int .u8 (w 3)] n m e o p) 1), .int .u8 (byteAt (mapW [.int .u8 (x 0), .int .u8 (x 1), .int .u8 (x 2), .int .u8 (x 3), .int .u8 (x 4), .int .u8 (x 5), .int .u8 (x 6), .int .u8 (x 7), .int .u8 (x 8), .int .u8 (x 9), .int .u8 (x 10), .int .u8 (x 11), .int .u8 (x 12), .int .u8 (x 13), .int .u8 (x 14), .int .u8 (x 15)] [.int .u8 (z 0), .int .u8 (z 1), .int .u8 (z 2), .int .u8 (z 3)] [.int .u8 (w 0), .int .u8 (w 1), .int .u8 (w 2), .int .u8 (w 3)] n m e o p) 2), .int .u8 (byteAt (mapW [.int .u8 (x 0), .int .u8 (x 1), .int .u8 (x 2), .int .u8 (x 3), .int .u8 (x 4), .int .u8 (x 5), .int .u8 (x 6), .int .u8 (x 7), .int .u8 (x 8), .int .u8 (x 9), .int .u8 (x 10), .int .u8 (x 11), .int .u8 (x 12), .int .u8 (x 13), .int .u8 (x 14), .int .u8 (x 15)] [.int .u8 (z 0), .int .u8 (z 1), .int .u8 (z 2), .int .u8 (z 3)] [.int .u8 (w 0), .int .u8 (w 1), .int .u8 (w 2), .int .u8 (w 3)] n m e o p) 3), .int .u8 (byteAt (mapW [.int .u8 (x 0), .int .u8 (x 1), .int .u8 (x 2), .int .u8 (x 3), .int .u8 (x 4), .int .u8 (x 5), .int .u8 (x 6), .int .u8 (x 7), .int .u8 (x 8), .int .u8 (x 9), .int .u8 (x 10), .int .u8 (x 11), .int .u8 (x 12), .int .u8 (x 13), .int .u8 (x 14), .int .u8 (x 15)] [.int .u8 (z 0), .int .u8 (z 1), .int .u8 (z 2), .int .u8 (z 3)] [.int .u8 (w 0), .int .u8 (w 1), .int .u8 (w 2), .int .u8 (w 3)] n m e o p) 4), .int .u8 (byteAt (mapW [.int .u8 (x 0), .int .u8 (x 1), .int .u8 (x 2), .int .u8 (x 3), .int .u8 (x 4), .int .u8 (x 5), .int .u8 (x 6), .int .u8 (x 7), .int .u8 (x 8), .int .u8 (x 9), .int .u8 (x 10), .int .u8 (x 11), .int .u8 (x 12), .int .u8 (x 13), .int .u8 (x 14), .int .u8 (x 15)] [.int .u8 (z 0), .int .u8 (z 1), .int .u8 (z 2), .int .u8 (z 3)] [.int .u8 (w 0), .int .u8 (w 1), .int .u8 (w 2), .int .u8 (w 3)] n m e o p) 5), .int .u8 (byteAt (mapW [.int .u8 (x 0), .int .u8 (x 1), .int .u8 (x 2), .int .u8 (x 3), .int .u8 (x 4), .int .u8 (x 5), .int .u8 (x 6), .int .u8 (x 7), .int .u8 (x 8), .int .u8 (x 9), .int .u8 (x 10), .int .u8 (x 11), .int .u8 (x 12), .int .u8 (x 13), .int .u8 (x 14), .int .u8 (x 15)] [.int .u8 (z 0), .int .u8 (z 1), .int .u8 (z 2), .int .u8 (z 3)] [.int .u8 (w 0), .int .u8 (w 1), .int .u8 (w 2), .int .u8 (w 3)] n m e o p) 6), .int .u8 (byteAt (mapW [.int .u8 (x 0), .int .u8 (x 1), .int .u8 (x 2), .int .u8 (x 3), .int .u8 (x 4), .int .u8 (x 5), .int .u8 (x 6), .int .u8 (x 7), .int .u8 (x 8), .int .u8 (x 9), .int .u8 (x 10), .int .u8 (x 11), .int .u8 (x 12), .int .u8 (x 13), .int .u8 (x 14), .int .u8 (x 15)] [.int .u8 (z 0), .int .u8 (z 1), .int .u8 (z 2), .int .u8 (z 3)] [.int .u8 (w 0), .int .u8 (w 1), .int .u8 (w 2), .int .u8 (w 3)] n m e o p) 7), .int .u8 (byteAt (mapW [.int .u8 (x 0), .int .u8 (x 1), .int .u8 (x 2), .int .u8 (x 3), .int .u8 (x 4), .int .u8 (x 5), .int .u8 (x 6), .int .u8 (x 7), .int .u8 (x 8), .int .u8 (x 9), .int .u8 (x 10), .int .u8 (x 11), .int .u8 (x 12), .int .u8 (x 13), .int .u8 (x 14), .int .u8 (x 15)] [.int .u8 (z 0), .int .u8 (z 1), .int .u8 (z 2), .int .u8 (z 3)] [.int .u8 (w 0), .int .u8 (w 1), .int .u8 (w 2), .int .u8 (w 3)] n m e o p) 8), .int .u8 (byteAt (mapW [.int .u8 (x 0), .int .u8 (x 1), .int .u8 (x 2), .int .u8 (x 3), .int .u8 (x 4), .int .u8 (x 5), .int .u8 (x 6), .int .u8 (x 7), .int .u8 (x 8), .int .u8 (x 9), .int .u8 (x 10), .int .u8 (x 11), .int .u8 (x 12), .int .u8 (x 13), .int .u8 (x 14), .int .u8 (x 15)] [.int .u8 (z 0), .int .u8 (z 1), .int .u8 (z 2), .int .u8 (z 3)] [.int .u8 (w 0), .int .u8 (w 1), .int .u8 (w 2), .int .u8 (w 3)] n m e o p) 9), .int .u8 (byteAt (mapW [.int .u8 (x 0), .int .u8 (x 1), .int .u8 (x 2), .int .u8 (x 3), .int .u8 (x 4), .int .u8 (x 5), .int .u8 (x 6), .int .u8 (x 7), .int .u8 (x 8), .int .u8 (x 9), .int .u8 (x 10), .int .u8 (x 11), .int .u8 (x 12), .int .u8 (x 13), .int .u8 (x 14), .int .u8 (x 15)] [.int .u8 (z 0), .int .u8 (z 1), .int .u8 (z 2), .int .u8 (z 3)] [.int .u8 (w 0), .int .u8 (w 1), .int .u8 (w 2), .int .u8 (w 3)] n m e o p) 10), .int .u8 (byteAt (mapW [.int .u8 (x 0), .int .u8 (x 1), .int .u8 (x 2), .int .u8 (x 3), .int .u8 (x 4), .int .u8 (x 5), .int .u8 (x 6), .int .u8 (x 7), .int .u8 (x 8), .int .u8 (x 9), .int .u8 (x 10), .int .u8 (x 11), .int .u8 (x 12), .int .u8 (x 13), .int .u8 (x 14), .int .u8 (x 15)] [.int .u8 (z 0), .int .u8 (z 1), .int .u8 (z 2), .int .u8 (z 3)] [.int .u8 (w 0), .int .u8 (w 1), .int .u8 (w 2), .int .u8 (w 3)] n m e o p) 11), .int .u8 (byteAt (mapW [.int .u8 (x 0), .int .u8 (x 1), .int .u8 (x 2), .int .u8 (x 3), .int .u8 (x 4), .int .u8 (x 5), .int .u8 (x 6), .int .u8 (x 7), .int .u8 (x 8), .int .u8 (x 9), .int .u8 (x 10), .int .u8 (x 11), .int .u8 (x 12), .int .u8 (x 13), .int .u8 (x 14), .int .u8 (x 15)] [.int .u8 (z 0), .int .u8 (z 1), .int .u8 (z 2), .int .u8 (z 3)] [.int .u8 (w 0), .int .u8 (w 1), .int .u8 (w 2), .int .u8 (w 3)] n m e o p) 12), .int .u8 (byteAt (mapW [.int .u8 (x 0), .int .u8 (x 1), .int .u8 (x 2), .int .u8 (x 3), .int .u8 (x 4), .int .u8 (x 5), .int .u8 (x 6), .int .u8 (x 7), .int .u8 (x 8), .int .u8 (x 9), .int .u8 (x 10), .int .u8 (x 11), .int .u8 (x 12), .int .u8 (x 13), .int .u8 (x 14), .int .u8 (x 15)] [.int .u8 (z 0), .int .u8 (z 1), .int .u8 (z 2), .int .u8 (z 3)] [.int .u8 (w 0), .int .u8 (w 1), .int .u8 (w 2), .int .u8 (w 3)] n m e o p) 13), .int .u8 (byteAt (mapW [.int .u8 (x 0), .int .u8 (x 1), .int .u8 (x 2), .int .u8 (x 3), .int .u8 (x 4), .int .u8 (x 5), .int .u8 (x 6), .int .u8 (x 7), .int .u8 (x 8), .int .u8 (x 9), .int .u8 (x 10), .int .u8 (x 11), .int .u8 (x 12), .int .u8 (x 13), .int .u8 (x 14), .int .u8 (x 15)] [.int .u8 (z 0), .int .u8 (z 1), .int .u8 (z 2), .int .u8 (z 3)] [.int .u8 (w 0), .int .u8 (w 1), .int .u8 (w 2), .int .u8 (w 3)] n m e o p) 14), .int .u8 (byteAt (mapW [.int .u8 (x 0), .int .u8 (x 1), .int .u8 (x 2), .int .u8 (x 3), .int .u8 (x 4), .int .u8 (x 5), .int .u8 (x 6), .int .u8 (x 7), .int .u8 (x 8), .int .u8 (x 9), .int .u8 (x 10), .int .u8 (x 11), .int .u8 (x 12), .int .u8 (x 13), .int .u8 (x 14), .int .u8 (x 15)] [.int .u8 (z 0), .int .u8 (z 1), .int .u8 (z 2), .int .u8 (z 3)] [.int .u8 (w 0), .int .u8 (w 1), .int .u8 (w 2), .int .u8 (w 3)] n m e o p) 15)], .int .i64 (ofR [.int .u8 (x 0), .int .u8 (x 1), .int .u8 (x 2), .int .u8 (x 3), .int .u8 (x 4), .int .u8 (x 5), .int .u8 (x 6), .int .u8 (x 7), .int .u8 (x 8), .int .u8 (x 9), .int .u8 (x 10), .int .u8 (x 11), .int .u8 (x 12), .int .u8 (x 13), .int .u8 (x 14), .int .u8 (x 15)] [.int .u8 (z 0), .int .u8 (z 1), .int .u8 (z 2), .int .u8 (z 3)] [.int .u8 (w 0), .int .u8 (w 1), .int .u8 (w 2), .int .u8 (w 3)] n m e o p)]), []) := by
  show S25 _ [] encK = _
  have e0 := R23_is (n := n) (m := m) (e := e) (o := o) (f := f) hx hz hw hp
  have s0 : shOK (.tup [.int .u64, .int .i64]) (some (.ret (.tup [.int .u64 (ofV [.int .u8 (x 0), .int .u8 (x 1), .int .u8 (x 2), .int .u8 (x 3), .int .u8 (x 4), .int .u8 (x 5), .int .u8 (x 6), .int .u8 (x 7), .int .u8 (x 8), .int .u8 (x 9), .int .u8 (x 10), .int .u8 (x 11), .int .u8 (x 12), .int .u8 (x 13), .int .u8 (x 14), .int .u8 (x 15)] [.int .u8 (z 0), .int .u8 (z 1), .int .u8 (z 2), .int .u8 (z 3)] [.int .u8 (w 0), .int .u8 (w 1), .int .u8 (w 2), .int .u8 (w 3)] n m e o p), .int .i64 (ofR [.int .u8 (x 0), .int .u8 (x 1), .int .u8 (x 2), .int .u8 (x 3), .int .u8 (x 4), .int .u8 (x 5), .int .u8 (x 6), .int .u8 (x 7), .int .u8 (x 8), .int .u8 (x 9), .int .u8 (x 10), .int .u8 (x 11), .int .u8 (x 12), .int .u8 (x 13), .int .u8 (x 14), .int .u8 (x 15)] [.int .u8 (z 0), .int .u8 (z 1), .int .u8 (z 2), .int .u8 (z 3)] [.int .u8 (w 0), .int .u8 (w 1), .int .u8 (w 2), .int .u8 (w 3)] n m e o p)]), [])) = true := by
    have h1 : inK .u64 (ofV [.int .u8 (x 0), .int .u8 (x 1), .int .u8 (x 2), .int .u8 (x 3), .int .u8 (x 4), .int .u8 (x 5), .int .u8 (x 6), .int .u8 (x 7), .int .u8 (x 8), .int .u8 (x 9), .int .u8 (x 10), .int .u8 (x 11), .int .u8 (x 12), .int .u8 (x 13), .int .u8 (x 14), .int .u8 (x 15)] [.int .u8 (z 0), .int .u8 (z 1), .int .u8 (z 2), .int .u8 (z 3)] [.int .u8 (w 0), .int .u8 (w 1), .int .u8 (w 2), .int .u8 (w 3)] n m e o p) = true := ofV_in rfl hp
    simp only [shOK_ret, has_tup, hasL_cons, hasL_nil, has_int, h1, ofR_in, List.getD_cons_zero, List.getD_cons_succ, List.length_cons, List.length_nil, beq_self_eq_true, Bool.and_self]
  by_cases hr : ofR [.int .u8 (x 0), .int .u8 (x 1), .int .u8 (x 2), .int .u8 (x 3), .int .u8 (x 4), .int .u8 (x 5), .int .u8 (x 6), .int .u8 (x 7), .int .u8 (x 8), .int .u8 (x 9), .int .u8 (x 10), .int .u8 (x 11), .int .u8 (x 12), .int .u8 (x 13), .int .u8 (x 14), .int .u8 (x 15)] [.int .u8 (z 0), .int .u8 (z 1), .int .u8 (z 2), .int .u8 (z 3)] [.int .u8 (w 0), .int .u8 (w 1), .int .u8 (w 2), .int .u8 (w 3)] n m e o p = 0
  · have hk := ofV_ok (X := [.int .u8 (x 0), .int .u8 (x 1), .int .u8 (x 2), .int .u8 (x 3), .int .u8 (x 4), .int .u8 (x 5), .int .u8 (x 6), .int .u8 (x 7), .int .u8 (x 8), .int .u8 (x 9), .int .u8 (x 10), .int .u8 (x 11), .int .u8 (x 12), .int .u8 (x 13), .int .u8 (x 14), .int .u8 (x 15)]) (Z := [.int .u8 (z 0), .int .u8 (z 1), .int .u8 (z 2), .int .u8 (z 3)]) (W := [.int .u8 (w 0), .int .u8 (w 1), .int .u8 (w 2), .int .u8 (w 3)]) rfl hp hr
    have hk2 := hk.2.2.1
    obtain ⟨_, _, _, _, _, _, _, _, _, h0, h64, _⟩ := hk2
    have hm : (mapW [.int .u8 (x 0), .int .u8 (x 1), .int .u8 (x 2), .int .u8 (x 3), .int .u8 (x 4), .int .u8 (x 5), .int .u8 (x 6), .int .u8 (x 7), .int .u8 (x 8), .int .u8 (x 9), .int .u8 (x 10), .int .u8 (x 11), .int .u8 (x 12), .int .u8 (x 13), .int .u8 (x 14), .int .u8 (x 15)] [.int .u8 (z 0), .int .u8 (z 1), .int .u8 (z 2), .int .u8 (z 3)] [.int .u8 (w 0), .int .u8 (w 1), .int .u8 (w 2), .int .u8 (w 3)] n m e o p) = ownB [.int .u8 (x 0), .int .u8 (x 1), .int .u8 (x 2), .int .u8 (x 3), .int .u8 (x 4), .int .u8 (x 5), .int .u8 (x 6), .int .u8 (x 7), .int .u8 (x 8), .int .u8 (x 9), .int .u8 (x 10), .int .u8 (x 11), .int .u8 (x 12), .int .u8 (x 13), .int .u8 (x 14), .int .u8 (x 15)] [.int .u8 (z 0), .int .u8 (z 1), .int .u8 (z 2), .int .u8 (z 3)] n m e (ofV [.int .u8 (x 0), .int .u8 (x 1), .int .u8 (x 2), .int .u8 (x 3), .int .u8 (x 4), .int .u8 (x 5), .int .u8 (x 6), .int .u8 (x 7), .int .u8 (x 8), .int .u8 (x 9), .int .u8 (x 10), .int .u8 (x 11), .int .u8 (x 12), .int .u8 (x 13), .int .u8 (x 14), .int .u8 (x 15)] [.int .u8 (z 0), .int .u8 (z 1), .int .u8 (z 2), .int .u8 (z 3)] [.int .u8 (w 0), .int .u8 (w 1), .int .u8 (w 2), .int .u8 (w 3)] n m e o p) := by unfold mapW; rw [hr]; simp only [beq_self_eq_true, cond_true]
    have hl := chkR_or [.int .u8 (x 0), .int .u8 (x 1), .int .u8 (x 2), .int .u8 (x 3), .int .u8 (x 4), .int .u8 (x 5), .int .u8 (x 6), .int .u8 (x 7), .int .u8 (x 8), .int .u8 (x 9), .int .u8 (x 10), .int .u8 (x 11), .int .u8 (x 12), .int .u8 (x 13), .int .u8 (x 14), .int .u8 (x 15)] [.int .u8 (z 0), .int .u8 (z 1), .int .u8 (z 2), .int .u8 (z 3)] n m e o
    rw [hm]
    have e1 := R10_is (n := n) (m := m) (e := e) (f := f) hx hz ho h0 h64
    have hW : edgW [.int .u8 (x 0), .int .u8 (x 1), .int .u8 (x 2), .int .u8 (x 3), .int .u8 (x 4), .int .u8 (x 5), .int .u8 (x 6), .int .u8 (x 7), .int .u8 (x 8), .int .u8 (x 9), .int .u8 (x 10), .int .u8 (x 11), .int .u8 (x 12), .int .u8 (x 13), .int .u8 (x 14), .int .u8 (x 15)] [.int .u8 (z 0), .int .u8 (z 1), .int .u8 (z 2), .int .u8 (z 3)] n m e o (ofV [.int .u8 (x 0), .int .u8 (x 1), .int .u8 (x 2), .int .u8 (x 3), .int .u8 (x 4), .int .u8 (x 5), .int .u8 (x 6), .int .u8 (x 7), .int .u8 (x 8), .int .u8 (x 9), .int .u8 (x 10), .int .u8 (x 11), .int .u8 (x 12), .int .u8 (x 13), .int .u8 (x 14), .int .u8 (x 15)] [.int .u8 (z 0), .int .u8 (z 1), .int .u8 (z 2), .int .u8 (z 3)] [.int .u8 (w 0), .int .u8 (w 1), .int .u8 (w 2), .int .u8 (w 3)] n m e o p) = edgV [.int .u8 (x 0), .int .u8 (x 1), .int .u8 (x 2), .int .u8 (x 3), .int .u8 (x 4), .int .u8 (x 5), .int .u8 (x 6), .int .u8 (x 7), .int .u8 (x 8), .int .u8 (x 9), .int .u8 (x 10), .int .u8 (x 11), .int .u8 (x 12), .int .u8 (x 13), .int .u8 (x 14), .int .u8 (x 15)] [.int .u8 (z 0), .int .u8 (z 1), .int .u8 (z 2), .int .u8 (z 3)] n m e o (ofV [.int .u8 (x 0), .int .u8 (x 1), .int .u8 (x 2), .int .u8 (x 3), .int .u8 (x 4), .int .u8 (x 5), .int .u8 (x 6), .int .u8 (x 7), .int .u8 (x 8), .int .u8 (x 9), .int .u8 (x 10), .int .u8 (x 11), .int .u8 (x 12), .int .u8 (x 13), .int .u8 (x 14), .int .u8 (x 15)] [.int .u8 (z 0), .int .u8 (z 1), .int .u8 (z 2), .int .u8 (z 3)] [.int .u8 (w 0), .int .u8 (w 1), .int .u8 (w 2), .int .u8 (w 3)] n m e o p) := by unfold edgW; rw [hk.2.2.2]; simp only [beq_self_eq_true, cond_true]
    rw [hW, hk.2.2.2] at e1
    have s1 : shOK (.tup [edgS, .int .i64]) (some (.ret (.tup [edgV [.int .u8 (x 0), .int .u8 (x 1), .int .u8 (x 2), .int .u8 (x 3), .int .u8 (x 4), .int .u8 (x 5), .int .u8 (x 6), .int .u8 (x 7), .int .u8 (x 8), .int .u8 (x 9), .int .u8 (x 10), .int .u8 (x 11), .int .u8 (x 12), .int .u8 (x 13), .int .u8 (x 14), .int .u8 (x 15)] [.int .u8 (z 0), .int .u8 (z 1), .int .u8 (z 2), .int .u8 (z 3)] n m e o (ofV [.int .u8 (x 0), .int .u8 (x 1), .int .u8 (x 2), .int .u8 (x 3), .int .u8 (x 4), .int .u8 (x 5), .int .u8 (x 6), .int .u8 (x 7), .int .u8 (x 8), .int .u8 (x 9), .int .u8 (x 10), .int .u8 (x 11), .int .u8 (x 12), .int .u8 (x 13), .int .u8 (x 14), .int .u8 (x 15)] [.int .u8 (z 0), .int .u8 (z 1), .int .u8 (z 2), .int .u8 (z 3)] [.int .u8 (w 0), .int .u8 (w 1), .int .u8 (w 2), .int .u8 (w 3)] n m e o p), .int .i64 0]), [])) = true := by
      rw [shOK_ret, has_tup, hasL_cons, hasL_cons, hasL_nil, List.getD_cons_zero, List.getD_cons_succ, List.getD_cons_zero, edgV_has hk.2.2.1, has_int]; rfl
    have hsel : ∀ (cs : List AV) t k, sel (some (AEnd.ret (AV.tup [AV.agg cs, t]), [])) [0, k] = cs.getD k .junk := fun _ _ _ => rfl
    have ti : ∀ k n, (AV.int k n).toInt = n := fun _ _ => rfl
    rw [N25 x z n m e o f w p e0.symm e1.symm]
    refine (aIf_pos s0).trans ((aIf_neg (by rw [hr]; rfl)).trans ((aIf_pos s1).trans ?_))
    rw [hr]
    unfold edgV
    simp only [hsel, List.getD_cons_zero, List.getD_cons_succ, ti]
  · have hm : (mapW [.int .u8 (x 0), .int .u8 (x 1), .int .u8 (x 2), .int .u8 (x 3), .int .u8 (x 4), .int .u8 (x 5), .int .u8 (x 6), .int .u8 (x 7), .int .u8 (x 8), .int .u8 (x 9), .int .u8 (x 10), .int .u8 (x 11), .int .u8 (x 12), .int .u8 (x 13), .int .u8 (x 14), .int .u8 (x 15)] [.int .u8 (z 0), .int .u8 (z 1), .int .u8 (z 2), .int .u8 (z 3)] [.int .u8 (w 0), .int .u8 (w 1), .int .u8 (w 2), .int .u8 (w 3)] n m e o p) = z16 := by unfold mapW; rw [show ((ofR [.int .u8 (x 0), .int .u8 (x 1), .int .u8 (x 2), .int .u8 (x 3), .int .u8 (x 4), .int .u8 (x 5), .int .u8 (x 6), .int .u8 (x 7), .int .u8 (x 8), .int .u8 (x 9), .int .u8 (x 10), .int .u8 (x 11), .int .u8 (x 12), .int .u8 (x 13), .int .u8 (x 14), .int .u8 (x 15)] [.int .u8 (z 0), .int .u8 (z 1), .int .u8 (z 2), .int .u8 (z 3)] [.int .u8 (w 0), .int .u8 (w 1), .int .u8 (w 2), .int .u8 (w 3)] n m e o p) == 0) = false from beq_eq_false_iff_ne.2 hr]; simp only [cond_false]
    rw [N25 x z n m e o f w p e0.symm rfl, hm]
    refine (aIf_pos s0).trans ((aIf_pos (show ((ofR [.int .u8 (x 0), .int .u8 (x 1), .int .u8 (x 2), .int .u8 (x 3), .int .u8 (x 4), .int .u8 (x 5), .int .u8 (x 6), .int .u8 (x 7), .int .u8 (x 8), .int .u8 (x 9), .int .u8 (x 10), .int .u8 (x 11), .int .u8 (x 12), .int .u8 (x 13), .int .u8 (x 14), .int .u8 (x 15)] [.int .u8 (z 0), .int .u8 (z 1), .int .u8 (z 2), .int .u8 (z 3)] [.int .u8 (w 0), .int .u8 (w 1), .int .u8 (w 2), .int .u8 (w 3)] n m e o p) != 0) = true by simpa using hr)).trans ?_)
    rfl

/-- ferryman/mapping.Comes -/
noncomputable def T28 : List (FuncId × FSpec) := [(25, V25)]
theorem T28_ok : TabOK Tryd.prog T28 := TabOK.cons En25 V25_ok (TabOK.nil _)
noncomputable def C28 : Ctx := (ctx E T28 [] [(0, [3, 4, 5, 6]), (1, [5, 10, 11]), (2, [5, 10, 11, 19]), (3, [5, 10, 11, 19, 20]), (4, [5, 10, 11, 20]), (5, [8, 9]), (6, [8, 9])] [] 31 70)
theorem C28_ok : CtxOK Tryd.prog C28 := ctx_ok E_ok E_flds mixed T28_ok
noncomputable def S28 : FSpec := inlineK C28 Tryd.f28
theorem S28_ok : SpecOK Tryd.prog 28 S28 := inlineK_ok C28_ok Tryd.func28 (fun _ _ => LoopsOK.none _)
theorem En28 : Enters Tryd.prog 28 := ⟨_, Tryd.func28, by decide, rfl⟩
noncomputable def R28 (args : List AV) : Res := S28 args [] encK
noncomputable def V28 : FSpec := leafK (.tup [.bool, .int .i64]) R28
theorem V28_ok : SpecOK Tryd.prog 28 V28 := leafK_ok S28_ok (fun _ => rfl)
theorem N28 (x z : Nat → Int) (n m e o : Int) (f : Bool) (y w : Nat → Int) (p : Int)
    {r0 : _} (h0 : r0 = R25 [AV.agg [AV.int IntKind.u8 (x 0), AV.int IntKind.u8 (x 1), AV.int IntKind.u8 (x 2), AV.int IntKind.u8 (x 3), AV.int IntKind.u8 (x 4), AV.int IntKind.u8 (x 5), AV.int IntKind.u8 (x 6), AV.int IntKind.u8 (x 7), AV.int IntKind.u8 (x 8), AV.int IntKind.u8 (x 9), AV.int IntKind.u8 (x 10), AV.int IntKind.u8 (x 11), AV.int IntKind.u8 (x 12), AV.int IntKind.u8 (x 13), AV.int IntKind.u8 (x 14), AV.int IntKind.u8 (x 15), AV.int IntKind.i64 n, AV.int IntKind.u8 (z 0), AV.int IntKind.u8 (z 1), AV.int IntKind.u8 (z 2), AV.int IntKind.u8 (z 3), AV.int IntKind.i64 m, AV.int IntKind.i64 e, AV.int IntKind.i64 o, AV.bool f], AV.agg [AV.int IntKind.u8 (w 0), AV.int IntKind.u8 (w 1), AV.int IntKind.u8 (w 2), AV.int IntKind.u8 (w 3)], AV.int IntKind.u16 p]) :
  S28 [.agg [.int .u8 (x 0), .int .u8 (x 1), .int .u8 (x 2), .int .u8 (x 3), .int .u8 (x 4), .int .u8 (x 5), .int .u8 (x 6), .int .u8 (x 7), .int .u8 (x 8), .int .u8 (x 9), .int .u8 (x 10), .int .u8 (x 11), .int .u8 (x 12), .int .u8 (x 13), .int .u8 (x 14), .int .u8 (x 15), .int .i64 n, .int .u8 (z 0), .int .u8 (z 1), .int .u8 (z 2), .int .u8 (z 3), .int .i64 m, .int .i64 e, .int .i64 o, .bool f], .agg [.int .u8 (y 0), .int .u8 (y 1), .int .u8 (y 2), .int .u8 (y 3), .int .u8 (y 4), .int .u8 (y 5), .int .u8 (y 6), .int .u8 (y 7), .int .u8 (y 8), .int .u8 (y 9), .int .u8 (y 10), .int .u8 (y 11), .int .u8 (y 12), .int .u8 (y 13), .int .u8 (y 14), .int .u8 (y 15)], .agg [.int .u8 (w 0), .int .u8 (w 1), .int .u8 (w 2), .int .u8 (w 3)], .int .u16 p] [] encK =
  aIf (shOK (Sh.tup [Sh.agg [Sh.int IntKind.u8, Sh.int IntKind.u8, Sh.int IntKind.u8, Sh.int IntKind.u8, Sh.int IntKind.u8, Sh.int IntKind.u8, Sh.int IntKind.u8, Sh.int IntKind.u8, Sh.int IntKind.u8, Sh.int IntKind.u8, Sh.int IntKind.u8, Sh.int IntKind.u8, Sh.int IntKind.u8, Sh.int IntKind.u8, Sh.int IntKind.u8, Sh.int IntKind.u8], Sh.int IntKind.i64]) r0) (aIf ((sel r0 [1]).toInt == 82) (aIf ((sel r0 [1]).toInt == 82) (some (AEnd.ret (AV.tup [AV.bool false, AV.int IntKind.i64 0]), [])) (aIf ((sel r0 [1]).toInt == 0) (some (AEnd.ret (AV.tup [AV.bool ((sel r0 [0, 0]).toInt == y 0 && ((sel r0 [0, 1]).toInt == y 1 && ((sel r0 [0, 2]).toInt == y 2 && ((sel r0 [0, 3]).toInt == y 3 && ((sel r0 [0, 4]).toInt == y 4 && ((sel r0 [0, 5]).toInt == y 5 && ((sel r0 [0, 6]).toInt == y 6 && ((sel r0 [0, 7]).toInt == y 7 && ((sel r0 [0, 8]).toInt == y 8 && ((sel r0 [0, 9]).toInt == y 9 && ((sel r0 [0, 10]).toInt == y 10 && ((sel r0 [0, 11]).toInt == y 11 && ((sel r0 [0, 12]).toInt == y 12 && ((sel r0 [0, 13]).toInt == y 13 && ((sel r0 [0, 14]).toInt == y 14 && ((sel r0 [0, 15]).toInt == y 15 && true)))))))))))))))), AV.int IntKind.i64 (sel r0 [1]).toInt]), [])) (some (AEnd.ret (AV.tup [AV.bool false, AV.int IntKind.i64 (sel r0 [1]).toInt]), [])))) (aIf ((sel r0 [1]).toInt == 91) (some (AEnd.ret (AV.tup [AV.bool false, AV.int IntKind.i64 0]), [])) (aIf ((sel r0 [1]).toInt == 0) (some (AEnd.ret (AV.tup [AV.bool ((sel r0 [0, 0]).toInt == y 0 && ((sel r0 [0, 1]).toInt == y 1 && ((sel r0 [0, 2]).toInt == y 2 && ((sel r0 [0, 3]).toInt == y 3 && ((sel r0 [0, 4]).toInt == y 4 && ((sel r0 [0, 5]).toInt == y 5 && ((sel r0 [0, 6]).toInt == y 6 && ((sel r0 [0, 7]).toInt == y 7 && ((sel r0 [0, 8]).toInt == y 8 && ((sel r0 [0, 9]).toInt == y 9 && ((sel r0 [0, 10]).toInt == y 10 && ((sel r0 [0, 11]).toInt == y 11 && ((sel r0 [0, 12]).toInt == y 12 && ((sel r0 [0, 13]).toInt == y 13 && ((sel r0 [0, 14]).toInt == y 14 && ((sel r0 [0, 15]).toInt == y 15 && true)))))))))))))))), AV.int IntKind.i64 (sel r0 [1]).toInt]), [])) (some (AEnd.ret (AV.tup [AV.bool false, AV.int IntKind.i64 (sel r0 [1]).toInt]), []))))) none := by subst h0; kernel_rfl
set_option maxRecDepth 20000 in
set_option maxHeartbeats 1000000 in
theorem R28_is {x z : Nat → Int} {n m e o : Int} {f : Bool} {y w : Nat → Int} {p : Int} (hx : b8 x) (hz : b8 z) (hw : b8 w) (ho : inK .i64 o = true) (hp : 0 ≤ p ∧ p ≤ 65535) : R28 [.agg [.int .u8 (x 0), .int .u8 (x 1), .int .u8 (x 2), .int .u8 (x 3), .int .u8 (x 4), .int .u8 (x 5), .int .u8 (x 6), .int .u8 (x 7), .int .u8 (x 8), .int .u8 (x 9), .int .u8 (x 10), .int .u8 (x 11), .int .u8 (x 12), .int .u8 (x 13), .int .u8 (x 14), .int .u8 (x 15), .int .i64 n, .int .u8 (z 0), .int .u8 (z 1), .int .u8 (z 2), .int .u8 (z 3), .int .i64 m, .int .i64 e, .int .i64 o, .bool f], .agg [.int .u8 (y 0), .int .u8 (y 1), .int .u8 (y 2), .int .u8 (y 3), .int .u8 (y 4), .int .u8 (y 5), .int .u8 (y 6), .int .u8 (y 7), .int .u8 (y 8), .int .u8 (y 9), .int .u8 (y 10), .int .u8 (y 11), .int .u8 (y 12), .int .u8 (y 13), .int .u8 (y 14), .int .u8 (y 15)], .agg [.int .u8 (w 0), .int .u8 (w 1), .int .u8 (w 2), .int .u8 (w 3)], .int .u16 p] = some (.ret (.tup [.bool (comB [.int .u8 (x 0), .int .u8 (x 1), .int .u8 (x 2), .int .u8 (x 3), .int .u8 (x 4), .int .u8 (x 5), .int .u8 (x 6), .int .u8 (x 7), .int .u8 (x 8), .int .u8 (x 9), .int .u8 (x 10), .int .u8 (x 11), .int .u8 (x 12), .int .u8 (x 13), .int .u8 (x 14), .int .u8 (x 15)] [.int .u8 (z 0), .int .u8 (z 1), .int .u8 (z 2), .int .u8 (z 3)] [.int .u8 (w 0), .int .u8 (w 1), .int .u8 (w 2), .int .u8 (w 3)] n m e o p y), .int .i64 (comE (ofR [.int .u8 (x 0), .int .u8 (x 1), .int .u8 (x 2), .int .u8 (x 3), .int .u8 (x 4), .int .u8 (x 5), .int .u8 (x 6), .int .u8 (x 7), .int .u8 (x 8), .int .u8 (x 9), .int .u8 (x 10), .int .u8 (x 11), .int .u8 (x 12), .int .u8 (x 13), .int .u8 (x 14), .int .u8 (x 15)] [.int .u8 (z 0), .int .u8 (z 1), .int .u8 (z 2), .int .u8 (z 3)] [.int .u8 (w 0), .int .u8 (w 1), .int .u8 (w 2), .int .u8 (w 3)] n m e o p))]), []) := by
  show S28 _ [] encK = _
  have e0 := R25_is (n := n) (m := m) (e := e) (f := f) hx hz hw ho hp
  have hu := mapW_ok [.int .u8 (x 0), .int .u8 (x 1), .int .u8 (x 2), .int .u8 (x 3), .int .u8 (x 4), .int .u8 (x 5), .int .u8 (x 6), .int .u8 (x 7), .int .u8 (x 8), .int .u8 (x 9), .int .u8 (x 10), .int .u8 (x 11), .int .u8 (x 12), .int .u8 (x 13), .int .u8 (x 14), .int .u8 (x 15)] [.int .u8 (z 0), .int .u8 (z 1), .int .u8 (z 2), .int .u8 (z 3)] [.int .u8 (w 0), .int .u8 (w 1), .int .u8 (w 2), .int .u8 (w 3)] n m e o p
  have s0 : shOK (.tup [.agg [.int .u8, .int .u8, .int .u8, .int .u8, .int .u8, .int .u8, .int .u8, .int .u8, .int .u8, .int .u8, .int .u8, .int .u8, .int .u8, .int .u8, .int .u8, .int .u8], .int .i64]) (some (.ret (.tup [.agg [.int .u8 (byteAt (mapW [.int .u8 (x 0), .int .u8 (x 1), .int .u8 (x 2), .int .u8 (x 3), .int .u8 (x 4), .int .u8 (x 5), .int .u8 (x 6), .int .u8 (x 7), .int .u8 (x 8), .int .u8 (x 9), .int .u8 (x 10), .int .u8 (x 11), .int .u8 (x 12), .int .u8 (x 13), .int .u8 (x 14), .int .u8 (x 15)] [.int .u8 (z 0), .int .u8 (z 1), .int .u8 (z 2), .int .u8 (z 3)] [.int .u8 (w 0), .int .u8 (w 1), .int .u8 (w 2), .int .u8 (w 3)] n m e o p) 0), .int .u8 (byteAt (mapW [.int .u8 (x 0), .int .u8 (x 1), .int .u8 (x 2), .int .u8 (x 3), .int .u8 (x 4), .int .u8 (x 5), .int .u8 (x 6), .int .u8 (x 7), .int .u8 (x 8), .int .u8 (x 9), .int .u8 (x 10), .int .u8 (x 11), .int .u8 (x 12), .int .u8 (x 13), .int .u8 (x 14), .int .u8 (x 15)] [.int .u8 (z 0), .int .u8 (z 1), .int .u8 (z 2), .int .u8 (z 3)] [.int .u8 (w 0), .int .u8 (w 1), .int .u8 (w 2), .int .u8 (w 3)] n m e o p) 1), .int .u8 (byteAt (mapW [.int .u8 (x 0), .int .u8 (x 1), .int .u8 (x 2), .int .u8 (x 3), .int .u8 (x 4), .int .u8 (x 5), .int .u8 (x 6), .int .u8 (x 7), .int .u8 (x 8), .int .u8 (x 9), .int .u8 (x 10), .int .u8 (x 11), .int .u8 (x 12), .int .u8 (x 13), .int .u8 (x 14), .int .u8 (x 15)] [.int .u8 (z 0), .int .u8 (z 1), .int .u8 (z 2), .int .u8 (z 3)] [.int .u8 (w 0), .int .u8 (w 1), .int .u8 (w 2), .int .u8 (w 3)] n m e o p) 2), .int .u8 (byteAt (mapW [.int .u8 (x 0), .int .u8 (x 1), .int .u8 (x 2), .int .u8 (x 3), .int .u8 (x 4), .int .u8 (x 5), .int .u8 (x 6), .int .u8 (x 7), .int .u8 (x 8), .int .u8 (x 9), .int .u8 (x 10), .int .u8 (x 11), .int .u8 (x 12), .int .u8 (x 13), .int .u8 (x 14), .int .u8 (x 15)] [.int .u8 (z 0), .int .u8 (z 1), .int .u8 (z 2), .int .u8 (z 3)] [.int .u8 (w 0), .int .u8 (w 1), .int .u8 (w 2), .int .u8 (w 3)] n m e o p) 3), .int .u8 (byteAt (mapW [.int .u8 (x 0), .int .u8 (x 1), .int .u8 (x 2), .int .u8 (x 3), .int .u8 (x 4), .int .u8 (x 5), .int .u8 (x 6), .int .u8 (x 7), .int .u8 (x 8), .int .u8 (x 9), .int .u8 (x 10), .int .u8 (x 11), .int .u8 (x 12), .int .u8 (x 13), .int .u8 (x 14), .int .u8 (x 15)] [.int .u8 (z 0), .int .u8 (z 1), .int .u8 (z 2), .int .u8 (z 3)] [.int .u8 (w 0), .int .u8 (w 1), .int .u8 (w 2), .int .u8 (w 3)] n m e o p) 4), .int .u8 (byteAt (mapW [.int .u8 (x 0), .int .u8 (x 1), .int .u8 (x 2), .int .u8 (x 3), .int .u8 (x 4), .int .u8 (x 5), .int .u8 (x 6), .int .u8 (x 7), .int .u8 (x 8), .int .u8 (x 9), .int .u8 (x 10), .int .u8 (x 11), .int .u8 (x 12), .int .u8 (x 13), .int .u8 (x 14), .int .u8 (x 15)] [.int .u8 (z 0), .int .u8 (z 1), .int .u8 (z 2), .int .u8 (z 3)] [.int .u8 (w 0), .int .u8 (w 1), .int .u8 (w 2), .int .u8 (w 3)] n m e o p) 5), .int .u8 (byteAt (mapW [.int .u8 (x 0), .int .u8 (x 1), .int .u8 (x 2), .int .u8 (x 3), .int .u8 (x 4), .int .u8 (x 5), .int .u8 (x 6), .int .u8 (x 7), .int .u8 (x 8), .int .u8 (x 9), .int .u8 (x 10), .int .u8 (x 11), .int .u8 (x 12), .int .u8 (x 13), .int .u8 (x 14), .int .u8 (x 15)] [.int .u8 (z 0), .int .u8 (z 1), .int .u8 (z 2), .int .u8 (z 3)] [.int .u8 (w 0), .int .u8 (w 1), .int .u8 (w 2), .int .u8 (w 3)] n m e o p) 6), .int .u8 (byteAt (mapW [.int .u8 (x 0), .int .u8 (x 1), .int .u8 (x 2), .int .u8 (x 3), .int .u8 (x 4), .int .u8 (x 5), .int .u8 (x 6), .int .u8 (x 7), .int .u8 (x 8), .int .u8 (x 9), .int .u8 (x 10), .int .u8 (x 11), .int .u8 (x 12), .int .u8 (x 13), .int .u8 (x 14), .int .u8 (x 15)] [.int .u8 (z 0), .int .u8 (z 1), .int .u8 (z 2), .int .u8 (z 3)] [.int .u8 (w 0), .int .u8 (w 1), .int .u8 (w 2), .int .u8 (w 3)] n m e o p) 7), .int .u8 (byteAt (mapW [.int .u8 (x 0), .int .u8 (x 1), .int .u8 (x 2), .int .u8 (x 3), .int .u8 (x 4), .int .u8 (x 5), .int .u8 (x 6), .int .u8 (x 7), .int .u8 (x 8), .int .u8 (x 9), .int .u8 (x 10), .int .u8 (x 11), .int .u8 (x 12), .int .u8 (x 13), .int .u8 (x 14), .int .u8 (x 15)] [.int .u8 (z 0), .int .u8 (z 1), .int .u8 (z 2), .int .u8 (z 3)] [.int .u8 (w 0), .int .u8 (w 1), .int .u8 (w 2), .int .u8 (w 3)] n m e o p) 8), .int .u8 (byteAt (mapW [.int .u8 (x 0), .int .u8 (x 1), .int .u8 (x 2), .int .u8 (x 3), .int .u8 (x 4), .int .u8 (x 5), .int .u8 (x 6), .int .u8 (x 7), .int .u8 (x 8), .int .u8 (x 9), .int .u8 (x 10), .int .u8 (x 11), .int .u8 (x 12), .int .u8 (x 13), .int .u8 (x 14), .int .u8 (x 15)] [.int .u8 (z 0), .int .u8 (z 1), .int .u8 (z 2), .int .u8 (z 3)] [.int .u8 (w 0), .int .u8 (w 1), .int .u8 (w 2), .int .u8 (w 3)] n m e o p) 9), .int .u8 (byteAt (mapW [.int .u8 (x 0), .int .u8 (x 1), .int .u8 (x 2), .int .u8 (x 3), .int .u8 (x 4), .int .u8 (x 5), .int .u8 (x 6), .int .u8 (x 7), .int .u8 (x 8), .int .u8 (x 9), .int .u8 (x 10), .int .u8 (x 11), .int .u8 (x 12), .int .u8 (x 13), .int .u8 (x 14), .int .u8 (x 15)] [.int .u8 (z 0), .int .u8 (z 1), .int .u8 (z 2), .int .u8 (z 3)] [.int .u8 (w 0), .int .u8 (w 1), .int .u8 (w 2), .int .u8 (w 3)] n m e o p) 10), .int .u8 (byteAt (mapW [.int .u8 (x 0), .int .u8 (x 1), .int .u8 (x 2), .int .u8 (x 3), .int .u8 (x 4), .int .u8 (x 5), .int .u8 (x 6), .int .u8 (x 7), .int .u8 (x 8), .int .u8 (x 9), .int .u8 (x 10), .int .u8 (x 11), .int .u8 (x 12), .int .u8 (x 13), .int .u8 (x 14), .int .u8 (x 15)] [.int .u8 (z 0), .int .u8 (z 1), .int .u8 (z 2), .int .u8 (z 3)] [.int .u8 (w 0), .int .u8 (w 1), .int .u8 (w 2), .int .u8 (w 3)] n m e o p) 11), .int .u8 (byteAt (mapW [.int .u8 (x 0), .int .u8 (x 1), .int .u8 (x 2), .int .u8 (x 3), .int .u8 (x 4), .int .u8 (x 5), .int .u8 (x 6), .int .u8 (x 7), .int .u8 (x 8), .int .u8 (x 9), .int .u8 (x 10), .int .u8 (x 11), .int .u8 (x 12), .int .u8 (x 13), .int .u8 (x 14), .int .u8 (x 15)] [.int .u8 (z 0), .int .u8 (z 1), .int .u8 (z 2), .int .u8 (z 3)] [.int .u8 (w 0), .int .u8 (w 1), .int .u8 (w 2), .int .u8 (w 3)] n m e o p) 12), .int .u8 (byteAt (mapW [.int .u8 (x 0), .int .u8 (x 1), .int .u8 (x 2), .int .u8 (x 3), .int .u8 (x 4), .int .u8 (x 5), .int .u8 (x 6), .int .u8 (x 7), .int .u8 (x 8), .int .u8 (x 9), .int .u8 (x 10), .int .u8 (x 11), .int .u8 (x 12), .int .u8 (x 13), .int .u8 (x 14), .int .u8 (x 15)] [.int .u8 (z 0), .int .u8 (z 1), .int .u8 (z 2), .int .u8 (z 3)] [.int .u8 (w 0), .int .u8 (w 1), .int .u8 (w 2), .int .u8 (w 3)] n m e o p) 13), .int .u8 (byteAt (mapW [.int .u8 (x 0), .int .u8 (x 1), .int .u8 (x 2), .int .u8 (x 3), .int .u8 (x 4), .int .u8 (x 5), .int .u8 (x 6), .int .u8 (x 7), .int .u8 (x 8), .int .u8 (x 9), .int .u8 (x 10), .int .u8 (x 11), .int .u8 (x 12), .int .u8 (x 13), .int .u8 (x 14), .int .u8 (x 15)] [.int .u8 (z 0), .int .u8 (z 1), .int .u8 (z 2), .int .u8 (z 3)] [.int .u8 (w 0), .int .u8 (w 1), .int .u8 (w 2), .int .u8 (w 3)] n m e o p) 14), .int .u8 (byteAt (mapW [.int .u8 (x 0), .int .u8 (x 1), .int .u8 (x 2), .int .u8 (x 3), .int .u8 (x 4), .int .u8 (x 5), .int .u8 (x 6), .int .u8 (x 7), .int .u8 (x 8), .int .u8 (x 9), .int .u8 (x 10), .int .u8 (x 11), .int .u8 (x 12), .int .u8 (x 13), .int .u8 (x 14), .int .u8 (x 15)] [.int .u8 (z 0), .int .u8 (z 1), .int .u8 (z 2), .int .u8 (z 3)] [.int .u8 (w 0), .int .u8 (w 1), .int .u8 (w 2), .int .u8 (w 3)] n m e o p) 15)], .int .i64 (ofR [.int .u8 (x 0), .int .u8 (x 1), .int .u8 (x 2), .int .u8 (x 3), .int .u8 (x 4), .int .u8 (x 5), .int .u8 (x 6), .int .u8 (x 7), .int .u8 (x 8), .int .u8 (x 9), .int .u8 (x 10), .int .u8 (x 11), .int .u8 (x 12), .int .u8 (x 13), .int .u8 (x 14), .int .u8 (x 15)] [.int .u8 (z 0), .int .u8 (z 1), .int .u8 (z 2), .int .u8 (z 3)] [.int .u8 (w 0), .int .u8 (w 1), .int .u8 (w 2), .int .u8 (w 3)] n m e o p)]), [])) = true := by
    have h1 : (Sh.agg [.int .u8, .int .u8, .int .u8, .int .u8, .int .u8, .int .u8, .int .u8, .int .u8, .int .u8, .int .u8, .int .u8, .int .u8, .int .u8, .int .u8, .int .u8, .int .u8]).has (.agg [.int .u8 (byteAt (mapW [.int .u8 (x 0), .int .u8 (x 1), .int .u8 (x 2), .int .u8 (x 3), .int .u8 (x 4), .int .u8 (x 5), .int .u8 (x 6), .int .u8 (x 7), .int .u8 (x 8), .int .u8 (x 9), .int .u8 (x 10), .int .u8 (x 11), .int .u8 (x 12), .int .u8 (x 13), .int .u8 (x 14), .int .u8 (x 15)] [.int .u8 (z 0), .int .u8 (z 1), .int .u8 (z 2), .int .u8 (z 3)] [.int .u8 (w 0), .int .u8 (w 1), .int .u8 (w 2), .int .u8 (w 3)] n m e o p) 0), .int .u8 (byteAt (mapW [.int .u8 (x 0), .int .u8 (x 1), .int .u8 (x 2), .int .u8 (x 3), .int .u8 (x 4), .int .u8 (x 5), .int .u8 (x 6), .int .u8 (x 7), .int .u8 (x 8), .int .u8 (x 9), .int .u8 (x 10), .int .u8 (x 11), .int .u8 (x 12), .int .u8 (x 13), .int .u8 (x 14), .int .u8 (x 15)] [.int .u8 (z 0), .int .u8 (z 1), .int .u8 (z 2), .int .u8 (z 3)] [.int .u8 (w 0), .int .u8 (w 1), .int .u8 (w 2), .int .u8 (w 3)] n m e o p) 1), .int .u8 (byteAt (mapW [.int .u8 (x 0), .int .u8 (x 1), .int .u8 (x 2), .int .u8 (x 3), .int .u8 (x 4), .int .u8 (x 5), .int .u8 (x 6), .int .u8 (x 7), .int .u8 (x 8), .int .u8 (x 9), .int .u8 (x 10), .int .u8 (x 11), .int .u8 (x 12), .int .u8 (x 13), .int .u8 (x 14), .int .u8 (x 15)] [.int .u8 (z 0), .int .u8 (z 1), .int .u8 (z 2), .int .u8 (z 3)] [.int .u8 (w 0), .int .u8 (w 1), .int .u8 (w 2), .int .u8 (w 3)] n m e o p) 2), .int .u8 (byteAt (mapW [.int .u8 (x 0), .int .u8 (x 1), .int .u8 (x 2), .int .u8 (x 3), .int .u8 (x 4), .int .u8 (x 5), .int .u8 (x 6), .int .u8 (x 7), .int .u8 (x 8), .int .u8 (x 9), .int .u8 (x 10), .int .u8 (x 11), .int .u8 (x 12), .int .u8 (x 13), .int .u8 (x 14), .int .u8 (x 15)] [.int .u8 (z 0), .int .u8 (z 1), .int .u8 (z 2), .int .u8 (z 3)] [.int .u8 (w 0), .int .u8 (w 1), .int .u8 (w 2), .int .u8 (w 3)] n m e o p) 3), .int .u8 (byteAt (mapW [.int .u8 (x 0), .int .u8 (x 1), .int .u8 (x 2), .int .u8 (x 3), .int .u8 (x 4), .int .u8 (x 5), .int .u8 (x 6), .int .u8 (x 7), .int .u8 (x 8), .int .u8 (x 9), .int .u8 (x 10), .int .u8 (x 11), .int .u8 (x 12), .int .u8 (x 13), .int .u8 (x 14), .int .u8 (x 15)] [.int .u8 (z 0), .int .u8 (z 1), .int .u8 (z 2), .int .u8 (z 3)] [.int .u8 (w 0), .int .u8 (w 1), .int .u8 (w 2), .int .u8 (w 3)] n m e o p) 4), .int .u8 (byteAt (mapW [.int .u8 (x 0), .int .u8 (x 1), .int .u8 (x 2), .int .u8 (x 3), .int .u8 (x 4), .int .u8 (x 5), .int .u8 (x 6), .int .u8 (x 7), .int .u8 (x 8), .int .u8 (x 9), .int .u8 (x 10), .int .u8 (x 11), .int .u8 (x 12), .int .u8 (x 13), .int .u8 (x 14), .int .u8 (x 15)] [.int .u8 (z 0), .int .u8 (z 1), .int .u8 (z 2), .int .u8 (z 3)] [.int .u8 (w 0), .int .u8 (w 1), .int .u8 (w 2), .int .u8 (w 3)] n m e o p) 5), .int .u8 (byteAt (mapW [.int .u8 (x 0), .int .u8 (x 1), .int .u8 (x 2), .int .u8 (x 3), .int .u8 (x 4), .int .u8 (x 5), .int .u8 (x 6), .int .u8 (x 7), .int .u8 (x 8), .int .u8 (x 9), .int .u8 (x 10), .int .u8 (x 11), .int .u8 (x 12), .int .u8 (x 13), .int .u8 (x 14), .int .u8 (x 15)] [.int .u8 (z 0), .int .u8 (z 1), .int .u8 (z 2), .int .u8 (z 3)] [.int .u8 (w 0), .int .u8 (w 1), .int .u8 (w 2), .int .u8 (w 3)] n m e o p) 6), .int .u8 (byteAt (mapW [.int .u8 (x 0), .int .u8 (x 1), .int .u8 (x 2), .int .u8 (x 3), .int .u8 (x 4), .int .u8 (x 5), .int .u8 (x 6), .int .u8 (x 7), .int .u8 (x 8), .int .u8 (x 9), .int .u8 (x 10), .int .u8 (x 11), .int .u8 (x 12), .int .u8 (x 13), .int .u8 (x 14), .int .u8 (x 15)] [.int .u8 (z 0), .int .u8 (z 1), .int .u8 (z 2), .int .u8 (z 3)] [.int .u8 (w 0), .int .u8 (w 1), .int .u8 (w 2), .int .u8 (w 3)] n m e o p) 7), .int .u8 (byteAt (mapW [.int .u8 (x 0), .int .u8 (x 1), .int .u8 (x 2), .int .u8 (x 3), .int .u8 (x 4), .int .u8 (x 5), .int .u8 (x 6), .int .u8 (x 7), .int .u8 (x 8), .int .u8 (x 9), .int .u8 (x 10), .int .u8 (x 11), .int .u8 (x 12), .int .u8 (x 13), .int .u8 (x 14), .int .u8 (x 15)] [.int .u8 (z 0), .int .u8 (z 1), .int .u8 (z 2), .int .u8 (z 3)] [.int .u8 (w 0), .int .u8 (w 1), .int .u8 (w 2), .int .u8 (w 3)] n m e o p) 8), .int .u8 (byteAt (mapW [.int .u8 (x 0), .int .u8 (x 1), .int .u8 (x 2), .int .u8 (x 3), .int .u8 (x 4), .int .u8 (x 5), .int .u8 (x 6), .int .u8 (x 7), .int .u8 (x 8), .int .u8 (x 9), .int .u8 (x 10), .int .u8 (x 11), .int .u8 (x 12), .int .u8 (x 13), .int .u8 (x 14), .int .u8 (x 15)] [.int .u8 (z 0), .int .u8 (z 1), .int .u8 (z 2), .int .u8 (z 3)] [.int .u8 (w 0), .int .u8 (w 1), .int .u8 (w 2), .int .u8 (w 3)] n m e o p) 9), .int .u8 (byteAt (mapW [.int .u8 (x 0), .int .u8 (x 1), .int .u8 (x 2), .int .u8 (x 3), .int .u8 (x 4), .int .u8 (x 5), .int .u8 (x 6), .int .u8 (x 7), .int .u8 (x 8), .int .u8 (x 9), .int .u8 (x 10), .int .u8 (x 11), .int .u8 (x 12), .int .u8 (x 13), .int .u8 (x 14), .int .u8 (x 15)] [.int .u8 (z 0), .int .u8 (z 1), .int .u8 (z 2), .int .u8 (z 3)] [.int .u8 (w 0), .int .u8 (w 1), .int .u8 (w 2), .int .u8 (w 3)] n m e o p) 10), .int .u8 (byteAt (mapW [.int .u8 (x 0), .int .u8 (x 1), .int .u8 (x 2), .int .u8 (x 3), .int .u8 (x 4), .int .u8 (x 5), .int .u8 (x 6), .int .u8 (x 7), .int .u8 (x 8), .int .u8 (x 9), .int .u8 (x 10), .int .u8 (x 11), .int .u8 (x 12), .int .u8 (x 13), .int .u8 (x 14), .int .u8 (x 15)] [.int .u8 (z 0), .int .u8 (z 1), .int .u8 (z 2), .int .u8 (z 3)] [.int .u8 (w 0), .int .u8 (w 1), .int .u8 (w 2), .int .u8 (w 3)] n m e o p) 11), .int .u8 (byteAt (mapW [.int .u8 (x 0), .int .u8 (x 1), .int .u8 (x 2), .int .u8 (x 3), .int .u8 (x 4), .int .u8 (x 5), .int .u8 (x 6), .int .u8 (x 7), .int .u8 (x 8), .int .u8 (x 9), .int .u8 (x 10), .int .u8 (x 11), .int .u8 (x 12), .int .u8 (x 13), .int .u8 (x 14), .int .u8 (x 15)] [.int .u8 (z 0), .int .u8 (z 1), .int .u8 (z 2), .int .u8 (z 3)] [.int .u8 (w 0), .int .u8 (w 1), .int .u8 (w 2), .int .u8 (w 3)] n m e o p) 12), .int .u8 (byteAt (mapW [.int .u8 (x 0), .int .u8 (x 1), .int .u8 (x 2), .int .u8 (x 3), .int .u8 (x 4), .int .u8 (x 5), .int .u8 (x 6), .int .u8 (x 7), .int .u8 (x 8), .int .u8 (x 9), .int .u8 (x 10), .int .u8 (x 11), .int .u8 (x 12), .int .u8 (x 13), .int .u8 (x 14), .int .u8 (x 15)] [.int .u8 (z 0), .int .u8 (z 1), .int .u8 (z 2), .int .u8 (z 3)] [.int .u8 (w 0), .int .u8 (w 1), .int .u8 (w 2), .int .u8 (w 3)] n m e o p) 13), .int .u8 (byteAt (mapW [.int .u8 (x 0), .int .u8 (x 1), .int .u8 (x 2), .int .u8 (x 3), .int .u8 (x 4), .int .u8 (x 5), .int .u8 (x 6), .int .u8 (x 7), .int .u8 (x 8), .int .u8 (x 9), .int .u8 (x 10), .int .u8 (x 11), .int .u8 (x 12), .int .u8 (x 13), .int .u8 (x 14), .int .u8 (x 15)] [.int .u8 (z 0), .int .u8 (z 1), .int .u8 (z 2), .int .u8 (z 3)] [.int .u8 (w 0), .int .u8 (w 1), .int .u8 (w 2), .int .u8 (w 3)] n m e o p) 14), .int .u8 (byteAt (mapW [.int .u8 (x 0), .int .u8 (x 1), .int .u8 (x 2), .int .u8 (x 3), .int .u8 (x 4), .int .u8 (x 5), .int .u8 (x 6), .int .u8 (x 7), .int .u8 (x 8), .int .u8 (x 9), .int .u8 (x 10), .int .u8 (x 11), .int .u8 (x 12), .int .u8 (x 13), .int .u8 (x 14), .int .u8 (x 15)] [.int .u8 (z 0), .int .u8 (z 1), .int .u8 (z 2), .int .u8 (z 3)] [.int .u8 (w 0), .int .u8 (w 1), .int .u8 (w 2), .int .u8 (w 3)] n m e o p) 15)]) = true := by rw [← bytes16 hu.1 hu.2]; exact hasU16 hu.1 hu.2
    rw [shOK_ret, has_tup, hasL_cons, hasL_cons, hasL_nil, List.getD_cons_zero, List.getD_cons_succ, List.getD_cons_zero, h1, has_int, ofR_in]; rfl
  have hsel : ∀ (cs : List AV) t k, sel (some (AEnd.ret (AV.tup [AV.agg cs, t]), [])) [0, k] = cs.getD k .junk := fun _ _ _ => rfl
  have h1s : ∀ (cs : AV) r, (sel (some (AEnd.ret (AV.tup [cs, AV.int .i64 r]), [])) [1]).toInt = r := fun _ _ => rfl
  have ti : ∀ k n, (AV.int k n).toInt = n := fun _ _ => rfl
  rw [N28 x z n m e o f y w p e0.symm]
  refine (aIf_pos s0).trans ?_
  simp only [h1s, hsel, List.getD_cons_zero, List.getD_cons_succ, ti]
  generalize hM : (mapW [.int .u8 (x 0), .int .u8 (x 1), .int .u8 (x 2), .int .u8 (x 3), .int .u8 (x 4), .int .u8 (x 5), .int .u8 (x 6), .int .u8 (x 7), .int .u8 (x 8), .int .u8 (x 9), .int .u8 (x 10), .int .u8 (x 11), .int .u8 (x 12), .int .u8 (x 13), .int .u8 (x 14), .int .u8 (x 15)] [.int .u8 (z 0), .int .u8 (z 1), .int .u8 (z 2), .int .u8 (z 3)] [.int .u8 (w 0), .int .u8 (w 1), .int .u8 (w 2), .int .u8 (w 3)] n m e o p) = M at *
  unfold comB
  rw [hM]
  rcases ofR_cases [.int .u8 (x 0), .int .u8 (x 1), .int .u8 (x 2), .int .u8 (x 3), .int .u8 (x 4), .int .u8 (x 5), .int .u8 (x 6), .int .u8 (x 7), .int .u8 (x 8), .int .u8 (x 9), .int .u8 (x 10), .int .u8 (x 11), .int .u8 (x 12), .int .u8 (x 13), .int .u8 (x 14), .int .u8 (x 15)] [.int .u8 (z 0), .int .u8 (z 1), .int .u8 (z 2), .int .u8 (z 3)] [.int .u8 (w 0), .int .u8 (w 1), .int .u8 (w 2), .int .u8 (w 3)] n m e o p with hr | hr | hr | hr | hr <;> (rw [hr]; rfl)

/-- ferryman/ferrymanref10.suffix -/
noncomputable def T44 : List (FuncId × FSpec) := []
theorem T44_ok : TabOK Tryd.prog T44 := TabOK.nil _
noncomputable def C44 : Ctx := (ctx E T44 [] [(0, [1]), (1, [2])] [] 7 70)
theorem C44_ok : CtxOK Tryd.prog C44 := ctx_ok E_ok E_flds mixed T44_ok
noncomputable def S44 : FSpec := inlineK C44 Tryd.f44
theorem S44_ok : SpecOK Tryd.prog 44 S44 := inlineK_ok C44_ok Tryd.func44 (fun _ _ => LoopsOK.none _)
theorem En44 : Enters Tryd.prog 44 := ⟨_, Tryd.func44, by decide, rfl⟩

/-- ferryman/ferrymanref10.Shared -/
noncomputable def T41 : List (FuncId × FSpec) := [(44, S44)]
theorem T41_ok : TabOK Tryd.prog T41 := TabOK.cons En44 S44_ok (TabOK.nil _)
noncomputable def C41 : Ctx := (ctx E T41 [] [(0, [1]), (1, [4]), (2, [2, 3])] [] 14 70)
theorem C41_ok : CtxOK Tryd.prog C41 := ctx_ok E_ok E_flds mixed T41_ok
noncomputable def S41 : FSpec := inlineK C41 Tryd.f41
theorem S41_ok : SpecOK Tryd.prog 41 S41 := inlineK_ok C41_ok Tryd.func41 (fun _ _ => LoopsOK.none _)
theorem En41 : Enters Tryd.prog 41 := ⟨_, Tryd.func41, by decide, rfl⟩

/-- ferryman/ferrymanref09.Right -/
noncomputable def T70 : List (FuncId × FSpec) := []
theorem T70_ok : TabOK Tryd.prog T70 := TabOK.nil _
noncomputable def C70 : Ctx := (ctx E T70 [] [(0, [1]), (1, [2])] [] 33 70)
theorem C70_ok : CtxOK Tryd.prog C70 := ctx_ok E_ok E_flds mixed T70_ok
noncomputable def B70 : FSpec := inlineK C70 Tryd.f70
noncomputable def S70 : FSpec := fun args H k => match args, H with
  | [.agg [.int .i64 a, .int .i64 b, .int .u16 x]], [] => aIf (psetB a b x) (k (.ret (.bool (right a b x))) []) none
  | _, _ => none
theorem B70_ok : SpecOK Tryd.prog 70 B70 := inlineK_ok C70_ok Tryd.func70 (fun _ _ => LoopsOK.none _)
theorem N70 (a b x : Int) (k : KE) : B70 [.agg [.int .i64 a, .int .i64 b, .int .u16 x]] [] k =
    aIf (decide (a ≥ 0))
  (aIf (decide (a ≤ 15))
    (aIf (decide (b ≥ 0))
      (aIf (decide (b ≤ IntKind.i64.wrap (16 - a)))
        (aIf (decide (b < 0)) none
          (k (AEnd.ret (AV.bool (decide (IntKind.i64.wrap x < IntKind.i64.wrap (1 * 2 ^ min b.toNat 64))))) []))
        (k (AEnd.ret (AV.bool false)) []))
      (k (AEnd.ret (AV.bool false)) []))
    (k (AEnd.ret (AV.bool false)) []))
  (k (AEnd.ret (AV.bool false)) []) := by kernel_rfl
theorem S70_ok : SpecOK Tryd.prog 70 S70 := by
  refine B70_ok.turn fun args H => ?_
  unfold S70
  split
  · rename_i a b x
    rcases Bool.eq_false_or_eq_true (psetB a b x) with hp | hp
    · refine .inr fun k => ?_
      rw [aIf_pos hp, N70]
      exact right_law hp k
    · exact .inl fun k => by rw [aIf_neg hp]
  · exact .inl fun k => rfl
theorem En70 : Enters Tryd.prog 70 := ⟨_, Tryd.func70, by decide, rfl⟩

/-- ferryman/ferrymanref09.a -/
noncomputable def T71 : List (FuncId × FSpec) := []
theorem T71_ok : TabOK Tryd.prog T71 := TabOK.nil _
noncomputable def C71 : Ctx := (ctx E T71 [] [(0, [0, 1]), (1, [4])] [] 10 70)
theorem C71_ok : CtxOK Tryd.prog C71 := ctx_ok E_ok E_flds mixed T71_ok
noncomputable def B71 : FSpec := inlineK C71 Tryd.f71
noncomputable def S71 : FSpec := fun args H k => match args, H with
  | [.int .i64 a, .int .u16 x], [] => aIf (offB a x) (k (.ret (.int .i64 (x / 2 ^ (16 - a).toNat))) []) none
  | _, _ => none
theorem B71_ok : SpecOK Tryd.prog 71 B71 := inlineK_ok C71_ok Tryd.func71 (fun _ _ => LoopsOK.none _)
theorem N71 (a x : Int) (k : KE) : B71 [.int .i64 a, .int .u16 x] [] k =
    aIf (decide (IntKind.i64.wrap (16 - a) < 0)) none
  (k (AEnd.ret (AV.int IntKind.i64 ((IntKind.i64.wrap x).fdiv (2 ^ min (IntKind.i64.wrap (16 - a)).toNat 64)))) []) := by kernel_rfl
theorem S71_ok : SpecOK Tryd.prog 71 S71 := by
  refine B71_ok.turn fun args H => ?_
  unfold S71
  split
  · rename_i a x
    rcases Bool.eq_false_or_eq_true (offB a x) with hp | hp
    · refine .inr fun k => ?_
      rw [aIf_pos hp, N71]
      exact a_law hp k
    · exact .inl fun k => by rw [aIf_neg hp]
  · exact .inl fun k => rfl
theorem En71 : Enters Tryd.prog 71 := ⟨_, Tryd.func71, by decide, rfl⟩

/-- ferryman/ferrymanref09.Of -/
noncomputable def T51 : List (FuncId × FSpec) := [(70, S70), (71, S71)]
theorem T51_ok : TabOK Tryd.prog T51 := TabOK.cons En70 S70_ok (TabOK.cons En71 S71_ok (TabOK.nil _))
noncomputable def C51 : Ctx := (ctx E T51 [] [(0, [0, 1, 2]), (1, [0, 1, 2, 13]), (2, [6, 7, 8]), (3, [0, 1, 2, 21]), (4, [6, 7, 8]), (5, [6, 7, 8])] [] 33 70)
theorem C51_ok : CtxOK Tryd.prog C51 := ctx_ok E_ok E_flds mixed T51_ok
noncomputable def B51 : FSpec := inlineK C51 Tryd.f51
noncomputable def S51 : FSpec := fun args H k => match args, H with
  | [.int .i64 a, .int .i64 b, .int .u16 x], [] => aIf (psetB a b x) (aIf (right a b 0) (aIf (mine a x) (k (.ret (.tup [.int .u16 (psid a b x), .bool true, .int .i64 0])) []) (k (.ret (.tup [.int .u16 0, .bool false, .int .i64 0])) [])) (k (.ret (.tup [.int .u16 0, .bool false, .int .i64 90])) [])) none
  | _, _ => none
theorem B51_ok : SpecOK Tryd.prog 51 B51 := inlineK_ok C51_ok Tryd.func51 (fun _ _ => LoopsOK.none _)
theorem N51 (a b x : Int) (k : KE) : B51 [.int .i64 a, .int .i64 b, .int .u16 x] [] k =
    aIf (Pl.psetB a b 0)
  (aIf (!Pl.right a b 0) (k (AEnd.ret (AV.tup [AV.int IntKind.u16 0, AV.bool false, AV.int IntKind.i64 90])) [])
    (aIf (decide (a > 0))
      (aIf (Pl.offB a x)
        (aIf (x / 2 ^ (16 - a).toNat == 0)
          (k (AEnd.ret (AV.tup [AV.int IntKind.u16 0, AV.bool false, AV.int IntKind.i64 0])) [])
          (aIf (decide (IntKind.i64.wrap (IntKind.i64.wrap (16 - a) - b) < 0)) none
            (aIf (decide (b < 0)) none
              (aIf (IntKind.i64.wrap (1 * 2 ^ min b.toNat 64) == 0) none
                (k
                  (AEnd.ret
                    (AV.tup
                      [AV.int IntKind.u16
                          (IntKind.u16.wrap
                            (((IntKind.i64.wrap x).fdiv
                                  (2 ^ min (IntKind.i64.wrap (IntKind.i64.wrap (16 - a) - b)).toNat 64)).tmod
                              (IntKind.i64.wrap (1 * 2 ^ min b.toNat 64)))),
                        AV.bool true, AV.int IntKind.i64 0]))
                  [])))))
        none)
      (aIf (decide (IntKind.i64.wrap (IntKind.i64.wrap (16 - a) - b) < 0)) none
        (aIf (decide (b < 0)) none
          (aIf (IntKind.i64.wrap (1 * 2 ^ min b.toNat 64) == 0) none
            (k
              (AEnd.ret
                (AV.tup
                  [AV.int IntKind.u16
                      (IntKind.u16.wrap
                        (((IntKind.i64.wrap x).fdiv
                              (2 ^ min (IntKind.i64.wrap (IntKind.i64.wrap (16 - a) - b)).toNat 64)).tmod
                          (IntKind.i64.wrap (1 * 2 ^ min b.toNat 64)))),
                    AV.bool true, AV.int IntKind.i64 0]))
              []))))))
  none := by kernel_rfl
theorem S51_ok : SpecOK Tryd.prog 51 S51 := by
  refine B51_ok.turn fun args H => ?_
  unfold S51
  split
  · rename_i a b x
    rcases Bool.eq_false_or_eq_true (psetB a b x) with hp | hp
    · refine .inr fun k => ?_
      rw [aIf_pos hp, N51]
      exact of_ref hp k
    · exact .inl fun k => by rw [aIf_neg hp]
  · exact .inl fun k => rfl
theorem En51 : Enters Tryd.prog 51 := ⟨_, Tryd.func51, by decide, rfl⟩
noncomputable def R51 (args : List AV) : Res := S51 args [] encK
noncomputable def V51 : FSpec := leafK (.tup [.int .u16, .bool, .int .i64]) R51
theorem V51_ok : SpecOK Tryd.prog 51 V51 := leafK_ok S51_ok (fun _ => rfl)
theorem R51_is {a b x : Int} (hp : psetB a b x = true) : R51 [.int .i64 a, .int .i64 b, .int .u16 x] = some (.ret (.tup [.int .u16 (ofN a b x), .bool (ofB a b x), .int .i64 (ofE a b 0)]), []) := by
  refine (aIf_pos hp).trans ?_
  unfold ofN ofB ofE
  cases right a b 0
  · rfl
  · cases mine a x <;> rfl

/-- ferryman/ferrymanlaw10.nobody -/
noncomputable def T32 : List (FuncId × FSpec) := [(41, S41), (51, V51)]
theorem T32_ok : TabOK Tryd.prog T32 := TabOK.cons En41 S41_ok (TabOK.cons En51 V51_ok (TabOK.nil _))
noncomputable def C32 : Ctx := (ctx E T32 [] [(0, [1, 2]), (1, [1, 2, 5, 6]), (2, [6, 8]), (3, [4])] [] 29 70)
theorem C32_ok : CtxOK Tryd.prog C32 := ctx_ok E_ok E_flds mixed T32_ok
noncomputable def S32 : FSpec := inlineK C32 Tryd.f32
theorem S32_ok : SpecOK Tryd.prog 32 S32 := inlineK_ok C32_ok Tryd.func32 (fun _ _ => LoopsOK.none _)
theorem En32 : Enters Tryd.prog 32 := ⟨_, Tryd.func32, by decide, rfl⟩
noncomputable def R32 (args : List AV) : Res := S32 args [] encK
noncomputable def V32 : FSpec := leafK (.bool) R32
theorem V32_ok : SpecOK Tryd.prog 32 V32 := leafK_ok S32_ok (fun _ => rfl)
theorem N32 (x z : Nat → Int) (n m e o : Int) (f : Bool) (p : Int)
    {r0 : _} (h0 : r0 = R51 [AV.int IntKind.i64 o, AV.int IntKind.i64 (if 0 > IntKind.i64.wrap (e - IntKind.i64.wrap (32 - m)) then 0 else IntKind.i64.wrap (e - IntKind.i64.wrap (32 - m))), AV.int IntKind.u16 p]) :
  S32 [.agg [.int .u8 (x 0), .int .u8 (x 1), .int .u8 (x 2), .int .u8 (x 3), .int .u8 (x 4), .int .u8 (x 5), .int .u8 (x 6), .int .u8 (x 7), .int .u8 (x 8), .int .u8 (x 9), .int .u8 (x 10), .int .u8 (x 11), .int .u8 (x 12), .int .u8 (x 13), .int .u8 (x 14), .int .u8 (x 15), .int .i64 n, .int .u8 (z 0), .int .u8 (z 1), .int .u8 (z 2), .int .u8 (z 3), .int .i64 m, .int .i64 e, .int .i64 o, .bool f], .int .u16 p] [] encK =
  aIf (shOK (Sh.tup [Sh.int IntKind.u16, Sh.bool, Sh.int IntKind.i64]) r0) (aIf (decide (IntKind.i64.wrap (e - IntKind.i64.wrap (32 - m)) > 0)) (some (AEnd.ret (AV.bool !(sel r0 [1]).toBool), [])) (some (AEnd.ret (AV.bool false), []))) none := by subst h0; kernel_rfl
theorem R32_is {x z : Nat → Int} {n m e o : Int} {f : Bool} {p : Int} (hc : chkR [.int .u8 (x 0), .int .u8 (x 1), .int .u8 (x 2), .int .u8 (x 3), .int .u8 (x 4), .int .u8 (x 5), .int .u8 (x 6), .int .u8 (x 7), .int .u8 (x 8), .int .u8 (x 9), .int .u8 (x 10), .int .u8 (x 11), .int .u8 (x 12), .int .u8 (x 13), .int .u8 (x 14), .int .u8 (x 15)] [.int .u8 (z 0), .int .u8 (z 1), .int .u8 (z 2), .int .u8 (z 3)] n m e o = 0) (hp : 0 ≤ p ∧ p ≤ 65535) : R32 [.agg [.int .u8 (x 0), .int .u8 (x 1), .int .u8 (x 2), .int .u8 (x 3), .int .u8 (x 4), .int .u8 (x 5), .int .u8 (x 6), .int .u8 (x 7), .int .u8 (x 8), .int .u8 (x 9), .int .u8 (x 10), .int .u8 (x 11), .int .u8 (x 12), .int .u8 (x 13), .int .u8 (x 14), .int .u8 (x 15), .int .i64 n, .int .u8 (z 0), .int .u8 (z 1), .int .u8 (z 2), .int .u8 (z 3), .int .i64 m, .int .i64 e, .int .i64 o, .bool f], .int .u16 p] = some (.ret (.bool (decide (qR m e > 0) && !ofB o (qR m e) p)), []) := by
  show S32 _ [] encK = _
  have hps := psetB_q hc hp
  rcases chkR_or [.int .u8 (x 0), .int .u8 (x 1), .int .u8 (x 2), .int .u8 (x 3), .int .u8 (x 4), .int .u8 (x 5), .int .u8 (x 6), .int .u8 (x 7), .int .u8 (x 8), .int .u8 (x 9), .int .u8 (x 10), .int .u8 (x 11), .int .u8 (x 12), .int .u8 (x 13), .int .u8 (x 14), .int .u8 (x 15)] [.int .u8 (z 0), .int .u8 (z 1), .int .u8 (z 2), .int .u8 (z 3)] n m e o with ⟨_, ⟨a1, a2, a3⟩, ⟨b1, b2, b3⟩, c1, c2, c3, c4, c5⟩ | hh | hh
  rotate_left
  · rw [hc] at hh; cases hh
  · rw [hc] at hh; cases hh
  have w1 : IntKind.i64.wrap (32 - m) = 32 - m := i64_of (by omega) (by omega)
  have w2 : IntKind.i64.wrap (e - (32 - m)) = e - (32 - m) := i64_of (by omega) (by omega)
  have w3 : (if e - (32 - m) > 0 then e - (32 - m) else 0) = qR m e := rfl
  have w3' : (if 0 > e - (32 - m) then 0 else e - (32 - m)) = qR m e := by unfold qR; split <;> split <;> omega
  have hqd : decide (e - (32 - m) > 0) = decide (qR m e > 0) := by
    unfold qR
    by_cases hh : e - (32 - m) > 0
    · rw [if_pos hh]
    · rw [if_neg hh, decide_eq_false hh]; rfl
  have hq0 : 0 ≤ qR m e ∧ qR m e ≤ 16 ∧ qR m e ≤ e ∧ e - qR m e ≤ 32 - m := by unfold qR; split <;> omega
  have hO : R51 [.int .i64 o, .int .i64 (if 0 > IntKind.i64.wrap (e - IntKind.i64.wrap (32 - m)) then 0 else IntKind.i64.wrap (e - IntKind.i64.wrap (32 - m))), .int .u16 p] = some (.ret (.tup [.int .u16 (ofN o (qR m e) p), .bool (ofB o (qR m e) p), .int .i64 (ofE o (qR m e) 0)]), []) := by
    rw [w1, w2, w3']; exact R51_is hps.1
  have hid : 0 ≤ ofN o (qR m e) p ∧ ofN o (qR m e) p ≤ 65535 := by
    unfold ofN
    cases right o (qR m e) 0 && mine o p
    · exact ⟨by show (0 : Int) ≤ 0; omega, by show (0 : Int) ≤ 65535; omega⟩
    · have := psid_bounds hps.1 hps.2
      exact ⟨this.1, this.2.1⟩
  have s5 : shOK (.tup [.int .u16, .bool, .int .i64]) (some (.ret (.tup [.int .u16 (ofN o (qR m e) p), .bool (ofB o (qR m e) p), .int .i64 (ofE o (qR m e) 0)]), [])) = true := by
    have i1 : inK .u16 (ofN o (qR m e) p) = true := by rw [inK_u16, decide_eq_true hid.1, decide_eq_true hid.2]; rfl
    have i2 : inK .i64 (ofE o (qR m e) 0) = true := by unfold ofE; rw [hps.2]; rfl
    simp only [shOK_ret, has_tup, hasL_cons, hasL_nil, has_bool, has_int, List.getD_cons_zero, List.getD_cons_succ, List.length_cons, List.length_nil, beq_self_eq_true, Bool.and_self, i1, i2]
  rw [N32 x z n m e o f p hO.symm]
  refine (aIf_pos s5).trans ?_
  rw [w1, w2, hqd]
  cases decide (qR m e > 0) <;> rfl

/-- ferryman/ferrymanlaw10.MappingAll -/
noncomputable def T9 : List (FuncId × FSpec) := [(10, V10), (12, S12), (19, V19), (23, V23), (25, V25), (28, V28), (32, V32)]
theorem T9_ok : TabOK Tryd.prog T9 := TabOK.cons En10 V10_ok (TabOK.cons En12 S12_ok (TabOK.cons En19 V19_ok (TabOK.cons En23 V23_ok (TabOK.cons En25 V25_ok (TabOK.cons En28 V28_ok (TabOK.cons En32 V32_ok (TabOK.nil _)))))))
noncomputable def C9 : Ctx := (ctx E T9 [] [(0, [2, 3, 4]), (1, [2, 3, 4, 18]), (2, [6]), (3, [2, 3, 4, 7, 8]), (4, [2, 3, 4, 7, 8, 27]), (5, [6]), (6, [2, 3, 4, 9, 10]), (7, [2, 3, 4, 9, 10, 11, 12]), (8, [2, 3, 4, 9, 10, 11, 12, 13, 14]), (9, [9, 10, 11, 12, 13, 14, 15, 16]), (10, [6])] [] 93 70)
theorem C9_ok : CtxOK Tryd.prog C9 := ctx_ok E_ok E_flds mixed T9_ok
noncomputable def S9 : FSpec := inlineK C9 Tryd.f9
theorem S9_ok : SpecOK Tryd.prog 9 S9 := inlineK_ok C9_ok Tryd.func9 (fun _ _ => LoopsOK.none _)
theorem En9 : Enters Tryd.prog 9 := ⟨_, Tryd.func9, by decide, rfl⟩
end Go.Proofs.YtlfhkoajmjfbpaaDoor
