import Derived.Test.YtlfhkoajmjfbpaaDoorFMappingOwnsa
namespace Go.Proofs.YtlfhkoajmjfbpaaDoor
open Go.Abs Go.Pl

/-- ferryman/portset.Of -/
noncomputable def T49 : List (FuncId × FSpec) := [(67, S67), (68, S68)]
theorem T49_ok : TabOK Tryd.prog T49 := TabOK.cons En67 S67_ok (TabOK.cons En68 S68_ok (TabOK.nil _))
noncomputable def C49 : Ctx := (ctx E T49 [] [(0, [0, 1, 2]), (1, [0, 1, 2, 9]), (2, [0, 1, 2, 9, 10]), (3, [0, 1, 2, 9, 10, 18]), (4, [6, 7, 8]), (5, [0, 1, 9, 11]), (6, [1, 9, 11, 31]), (7, [6, 7, 8]), (8, [6, 7, 8])] [] 43 70)
theorem C49_ok : CtxOK Tryd.prog C49 := ctx_ok E_ok E_flds mixed T49_ok
noncomputable def B49 : FSpec := inlineK C49 Tryd.f49
noncomputable def S49 : FSpec := fun args H k => match args, H with
  | [.int .i64 a, .int .i64 b, .int .u16 x], [] => aIf (psetB a b x) (aIf (right a b 0) (aIf (mine a x) (k (.ret (.tup [.int .u16 (psid a b x), .bool true, .int .i64 0])) []) (k (.ret (.tup [.int .u16 0, .bool false, .int .i64 0])) [])) (k (.ret (.tup [.int .u16 0, .bool false, .int .i64 90])) [])) none
  | _, _ => none
theorem B49_ok : SpecOK Tryd.prog 49 B49 := inlineK_ok C49_ok Tryd.func49 (fun _ _ => LoopsOK.none _)
theorem N49 (a b x : Int) (k : KE) : B49 [.int .i64 a, .int .i64 b, .int .u16 x] [] k =
    aIf (Pl.psetB a b 0)
  (aIf (Pl.right a b 0)
    (aIf (decide (a > 0))
      (aIf (decide (IntKind.u64.wrap (IntKind.i64.wrap (16 - a)) < 0)) none
        (aIf ((IntKind.u32.wrap x).fdiv (2 ^ min (IntKind.u64.wrap (IntKind.i64.wrap (16 - a))).toNat 32) == 0)
          (k (AEnd.ret (AV.tup [AV.int IntKind.u16 0, AV.bool false, AV.int IntKind.i64 0])) [])
          (aIf (decide (IntKind.u64.wrap (IntKind.i64.wrap (IntKind.i64.wrap (16 - a) - b)) < 0)) none
            (aIf (decide (IntKind.u64.wrap b < 0)) none
              (k
                (AEnd.ret
                  (AV.tup
                    [AV.int IntKind.u16
                        (IntKind.u16.wrap
                          (IntKind.u32.wrap
                            ↑(BitVec.ofInt 32
                                    ((IntKind.u32.wrap x).fdiv
                                      (2 ^
                                        min (IntKind.u64.wrap (IntKind.i64.wrap (IntKind.i64.wrap (16 - a) - b))).toNat
                                          32)) &&&
                                  BitVec.ofInt 32
                                    (IntKind.u32.wrap
                                      (IntKind.u32.wrap (1 * 2 ^ min (IntKind.u64.wrap b).toNat 32) - 1))).toNat)),
                      AV.bool true, AV.int IntKind.i64 0]))
                [])))))
      (aIf (decide (IntKind.u64.wrap (IntKind.i64.wrap (IntKind.i64.wrap (16 - a) - b)) < 0)) none
        (aIf (decide (IntKind.u64.wrap b < 0)) none
          (k
            (AEnd.ret
              (AV.tup
                [AV.int IntKind.u16
                    (IntKind.u16.wrap
                      (IntKind.u32.wrap
                        ↑(BitVec.ofInt 32
                                ((IntKind.u32.wrap x).fdiv
                                  (2 ^
                                    min (IntKind.u64.wrap (IntKind.i64.wrap (IntKind.i64.wrap (16 - a) - b))).toNat
                                      32)) &&&
                              BitVec.ofInt 32
                                (IntKind.u32.wrap
                                  (IntKind.u32.wrap (1 * 2 ^ min (IntKind.u64.wrap b).toNat 32) - 1))).toNat)),
                  AV.bool true, AV.int IntKind.i64 0]))
            []))))
    (k (AEnd.ret (AV.tup [AV.int IntKind.u16 0, AV.bool false, AV.int IntKind.i64 90])) []))
  none := by kernel_rfl
theorem S49_ok : SpecOK Tryd.prog 49 S49 := by
  refine B49_ok.turn fun args H => ?_
  unfold S49
  split
  · rename_i a b x
    rcases Bool.eq_false_or_eq_true (psetB a b x) with hp | hp
    · refine .inr fun k => ?_
      rw [aIf_pos hp, N49]
      exact of_law hp k
    · exact .inl fun k => by rw [aIf_neg hp]
  · exact .inl fun k => rfl
theorem En49 : Enters Tryd.prog 49 := ⟨_, Tryd.func49, by decide, rfl⟩
noncomputable def R49 (args : List AV) : Res := S49 args [] encK
noncomputable def V49 : FSpec := leafK (.tup [.int .u16, .bool, .int .i64]) R49
theorem V49_ok : SpecOK Tryd.prog 49 V49 := leafK_ok S49_ok (fun _ => rfl)
theorem R49_is {a b x : Int} (hp : psetB a b x = true) : R49 [.int .i64 a, .int .i64 b, .int .u16 x] = some (.ret (.tup [.int .u16 (ofN a b x), .bool (ofB a b x), .int .i64 (ofE a b 0)]), []) := by
  refine (aIf_pos hp).trans ?_
  unfold ofN ofB ofE
  cases right a b 0
  · rfl
  · cases mine a x <;> rfl

/-- ferryman/portset.Has -/
noncomputable def T46 : List (FuncId × FSpec) := [(49, S49), (67, S67)]
theorem T46_ok : TabOK Tryd.prog T46 := TabOK.cons En49 S49_ok (TabOK.cons En67 S67_ok (TabOK.nil _))
noncomputable def C46 : Ctx := (ctx E T46 [] [(0, [1, 2]), (1, [1, 2, 6]), (2, [1, 2, 6, 13]), (3, [4, 5]), (4, [2, 7, 8, 9]), (5, [4, 5])] [] 33 70)
theorem C46_ok : CtxOK Tryd.prog C46 := ctx_ok E_ok E_flds mixed T46_ok
noncomputable def B46 : FSpec := inlineK C46 Tryd.f46
noncomputable def S46 : FSpec := fun args H k => match args, H with
  | [.agg [.int .i64 a, .int .i64 b, .int .u16 p], .int .u16 x], [] => aIf (psetB a b p && psetB a b x) (aIf (right a b p) (k (.ret (.tup [.bool (mine a x && (psid a b x == p)), .int .i64 0])) []) (k (.ret (.tup [.bool false, .int .i64 90])) [])) none
  | _, _ => none
theorem B46_ok : SpecOK Tryd.prog 46 B46 := inlineK_ok C46_ok Tryd.func46 (fun _ _ => LoopsOK.none _)
theorem N46 (a b p x : Int) (k : KE) : B46 [.agg [.int .i64 a, .int .i64 b, .int .u16 p], .int .u16 x] [] k =
    aIf (Pl.psetB a b p)
  (aIf (Pl.right a b p)
    (aIf (Pl.psetB a b x)
      (aIf (Pl.right a b 0)
        (aIf (Pl.mine a x) (k (AEnd.ret (AV.tup [AV.bool (Pl.psid a b x == p), AV.int IntKind.i64 0])) [])
          (k (AEnd.ret (AV.tup [AV.bool false, AV.int IntKind.i64 0])) []))
        (k (AEnd.ret (AV.tup [AV.bool false, AV.int IntKind.i64 90])) []))
      none)
    (k (AEnd.ret (AV.tup [AV.bool false, AV.int IntKind.i64 90])) []))
  none := by kernel_rfl
theorem S46_ok : SpecOK Tryd.prog 46 S46 := by
  refine B46_ok.turn fun args H => ?_
  unfold S46
  split
  · rename_i a b p x
    rcases Bool.eq_false_or_eq_true (psetB a b p && psetB a b x) with hp | hp
    · refine .inr fun k => ?_
      rw [aIf_pos hp, N46]
      exact has_law hp k
    · exact .inl fun k => by rw [aIf_neg hp]
  · exact .inl fun k => rfl
theorem En46 : Enters Tryd.prog 46 := ⟨_, Tryd.func46, by decide, rfl⟩
noncomputable def R46 (args : List AV) : Res := S46 args [] encK
noncomputable def V46 : FSpec := leafK (.tup [.bool, .int .i64]) R46
theorem V46_ok : SpecOK Tryd.prog 46 V46 := leafK_ok S46_ok (fun _ => rfl)
theorem R46_is {a b p x : Int} (hp : psetB a b p = true) (hx : psetB a b x = true) : R46 [.agg [.int .i64 a, .int .i64 b, .int .u16 p], .int .u16 x] = some (.ret (.tup [.bool (hasB a b p x), .int .i64 (ofE a b p)]), []) := by
  refine (aIf_pos (by rw [hp, hx]; rfl)).trans ?_
  unfold hasB ofE
  cases right a b p
  · rfl
  · rfl

/-- ferryman/mapping.Owns -/
noncomputable def T19 : List (FuncId × FSpec) := [(45, V45), (46, V46)]
theorem T19_ok : TabOK Tryd.prog T19 := TabOK.cons En45 V45_ok (TabOK.cons En46 V46_ok (TabOK.nil _))
noncomputable def C19 : Ctx := (ctx E T19 [] [(0, [2, 3, 4]), (1, [2, 3, 8, 9]), (2, [2, 3, 8, 9, 19]), (3, [6, 7]), (4, [3, 8, 9, 10]), (5, [3, 8, 9, 10, 29]), (6, [6, 7]), (7, [6, 7])] [] 41 70)
theorem C19_ok : CtxOK Tryd.prog C19 := ctx_ok E_ok E_flds mixed T19_ok
noncomputable def S19 : FSpec := inlineK C19 Tryd.f19
theorem S19_ok : SpecOK Tryd.prog 19 S19 := inlineK_ok C19_ok Tryd.func19 (fun _ _ => LoopsOK.none _)
theorem En19 : Enters Tryd.prog 19 := ⟨_, Tryd.func19, by decide, rfl⟩
noncomputable def R19 (args : List AV) : Res := S19 args [] encK
noncomputable def V19 : FSpec := leafK (.tup [.bool, .int .i64]) R19
theorem V19_ok : SpecOK Tryd.prog 19 V19 := leafK_ok S19_ok (fun _ => rfl)
theorem N19 (z x u w : Nat → Int) (m n a b p q : Int)
    {r0 : _} (h0 : r0 = R45 [AV.agg [AV.int IntKind.u8 (z 0), AV.int IntKind.u8 (z 1), AV.int IntKind.u8 (z 2), AV.int IntKind.u8 (z 3), AV.int IntKind.i64 m], AV.agg [AV.int IntKind.u8 (w 0), AV.int IntKind.u8 (w 1), AV.int IntKind.u8 (w 2), AV.int IntKind.u8 (w 3)]])
    {r1 : _} (h1 : r1 = R46 [AV.agg [AV.int IntKind.i64 a, AV.int IntKind.i64 b, AV.int IntKind.u16 p], AV.int IntKind.u16 q]) :
  S19 [.agg [.int .u8 (z 0), .int .u8 (z 1), .int .u8 (z 2), .int .u8 (z 3), .int .i64 m, .int .i64 a, .int .i64 b, .int .u16 p, .int .u8 (x 0), .int .u8 (x 1), .int .u8 (x 2), .int .u8 (x 3), .int .u8 (x 4), .int .u8 (x 5), .int .u8 (x 6), .int .u8 (x 7), .int .u8 (x 8), .int .u8 (x 9), .int .u8 (x 10), .int .u8 (x 11), .int .u8 (x 12), .int .u8 (x 13), .int .u8 (x 14), .int .u8 (x 15), .int .i64 n, .int .u8 (u 0), .int .u8 (u 1), .int .u8 (u 2), .int .u8 (u 3), .int .u8 (u 4), .int .u8 (u 5), .int .u8 (u 6), .int .u8 (u 7), .int .u8 (u 8), .int .u8 (u 9), .int .u8 (u 10), .int .u8 (u 11), .int .u8 (u 12), .int .u8 (u 13), .int .u8 (u 14), .int .u8 (u 15)], .agg [.int .u8 (w 0), .int .u8 (w 1), .int .u8 (w 2), .int .u8 (w 3)], .int .u16 q] [] encK =
  aIf (shOK (Sh.tup [Sh.bool, Sh.int IntKind.i64]) r0) (aIf ((sel r0 [1]).toInt != 0) (some (AEnd.ret (AV.tup [AV.bool false, AV.int IntKind.i64 (sel r0 [1]).toInt]), [])) (aIf (shOK (Sh.tup [Sh.bool, Sh.int IntKind.i64]) r1) (aIf ((sel r1 [1]).toInt != 0) (some (AEnd.ret (AV.tup [AV.bool false, AV.int IntKind.i64 (sel r1 [1]).toInt]), [])) (aIf (sel r0 [0]).toBool (aIf (b == 0) (some (AEnd.ret (AV.tup [AV.bool true, AV.int IntKind.i64 0]), [])) (some (AEnd.ret (AV.tup [AV.bool (sel r1 [0]).toBool, AV.int IntKind.i64 0]), []))) (some (AEnd.ret (AV.tup [AV.bool false, AV.int IntKind.i64 0]), [])))) none)) none := by subst h0 h1; kernel_rfl
set_option maxRecDepth 20000 in
theorem R19_is {z x u w : Nat → Int} {m n a b p q : Int} (hz : b8 z) (hw : b8 w) (hs : psetB a b p = true) (hq : 0 ≤ q ∧ q ≤ 65535) : R19 [.agg [.int .u8 (z 0), .int .u8 (z 1), .int .u8 (z 2), .int .u8 (z 3), .int .i64 m, .int .i64 a, .int .i64 b, .int .u16 p, .int .u8 (x 0), .int .u8 (x 1), .int .u8 (x 2), .int .u8 (x 3), .int .u8 (x 4), .int .u8 (x 5), .int .u8 (x 6), .int .u8 (x 7), .int .u8 (x 8), .int .u8 (x 9), .int .u8 (x 10), .int .u8 (x 11), .int .u8 (x 12), .int .u8 (x 13), .int .u8 (x 14), .int .u8 (x 15), .int .i64 n, .int .u8 (u 0), .int .u8 (u 1), .int .u8 (u 2), .int .u8 (u 3), .int .u8 (u 4), .int .u8 (u 5), .int .u8 (u 6), .int .u8 (u 7), .int .u8 (u 8), .int .u8 (u 9), .int .u8 (u 10), .int .u8 (u 11), .int .u8 (u 12), .int .u8 (u 13), .int .u8 (u 14), .int .u8 (u 15)], .agg [.int .u8 (w 0), .int .u8 (w 1), .int .u8 (w 2), .int .u8 (w 3)], .int .u16 q] = some (.ret (.tup [.bool (ownsB [.int .u8 (z 0), .int .u8 (z 1), .int .u8 (z 2), .int .u8 (z 3)] [.int .u8 (w 0), .int .u8 (w 1), .int .u8 (w 2), .int .u8 (w 3)] m a b p q), .int .i64 (ownsE [.int .u8 (z 0), .int .u8 (z 1), .int .u8 (z 2), .int .u8 (z 3)] m a b p)]), []) := by
  show S19 _ [] encK = _
  have e0 := R45_is (n := m) hz hw
  have hs2 : psetB a b q = true := by
    obtain ⟨s1, s2, s3, s4, _⟩ := psetB_iff.1 hs
    exact psetB_iff.2 ⟨s1, s2, s3, s4, hq.1, hq.2⟩
  have e1 := R46_is hs hs2
  have iE : inK .i64 (ofE a b p) = true := by unfold ofE; cases right a b p <;> rfl
  have s0 : ∀ (t : Bool) (c : Int), inK .i64 c = true → shOK (.tup [.bool, .int .i64]) (some (.ret (.tup [.bool t, .int .i64 c]), [])) = true := by
    intro t c hc
    simp only [shOK_ret, has_tup, hasL_cons, hasL_nil, has_bool, has_int, hc, List.getD_cons_zero, List.getD_cons_succ, List.length_cons, List.length_nil, beq_self_eq_true, Bool.and_self]
  rw [N19 z x u w m n a b p q e0.symm e1.symm]
  refine (aIf_pos (s0 _ _ (chkE_in _ _ _))).trans ?_
  unfold ownsB ownsE
  rcases chkE_or 32 [.int .u8 (z 0), .int .u8 (z 1), .int .u8 (z 2), .int .u8 (z 3)] m with ⟨hc, _⟩ | hc
  · rw [hc]
    refine (aIf_neg rfl).trans ((aIf_pos (s0 _ _ iE)).trans ?_)
    simp only [bne_self_eq_false, cond_false]
    have hor : ofE a b p = 0 ∨ ofE a b p = 90 := by unfold ofE; cases right a b p <;> first | exact .inl rfl | exact .inr rfl
    rcases hor with hE | hE
    · rw [hE]
      refine (aIf_neg rfl).trans ?_
      cases inB 32 [.int .u8 (z 0), .int .u8 (z 1), .int .u8 (z 2), .int .u8 (z 3)] [.int .u8 (w 0), .int .u8 (w 1), .int .u8 (w 2), .int .u8 (w 3)] m <;> cases b == 0 <;> rfl
    · rw [hE]; rfl
  · rw [hc]; rfl

/-- ferryman/ferrymanref02.Cut4 -/
noncomputable def T69 : List (FuncId × FSpec) := []
theorem T69_ok : TabOK Tryd.prog T69 := TabOK.nil _
noncomputable def L69_4 : ATs → AH → KC → Res := fun ts H k => match ts, H with
  | [(1, .int .i64 n), (2, .ptr 0 0 0), (4, .ptr 1 0 0), (6, .int .i64 i)], [.cells 0 xs, .cells 0 zs] => aIf (intsB .u8 xs && xs.length == 4 && decide (0 ≤ i) && decide (i ≤ 32)) (k (.exit 0) [(1, .int .i64 n), (2, .ptr 0 0 0), (4, .ptr 1 0 0), (6, .int .i64 32), (16, .bool false)] [.cells 0 [.int .u8 (byteAt (cutX xs i.toNat) 0), .int .u8 (byteAt (cutX xs i.toNat) 1), .int .u8 (byteAt (cutX xs i.toNat) 2), .int .u8 (byteAt (cutX xs i.toNat) 3)], .cells 0 zs]) none
  | _, _ => none
noncomputable def C69 : Ctx := (ctx E T69 [(4, L69_4)] [(0, [1, 2, 4]), (1, [1, 2, 4, 12]), (2, [4, 5]), (3, [1, 2, 4, 6]), (4, [1, 2, 4, 6, 16]), (5, [1, 2, 4, 6]), (6, [1, 2, 4, 6]), (7, [4, 5]), (1000004, [1, 2, 4, 6])] [] 34 70)
theorem C69_ok : CtxOK Tryd.prog C69 := ctx_ok E_ok E_flds mixed T69_ok
theorem C69_l0 : C69.loop (loopId (loopB Tryd.f69 0)) = some L69_4 := by kernel_rfl
theorem L69_4_in : LoopsOK C69 (loopB Tryd.f69 0) := LoopsOK.within 0 (by kernel_rfl) (fun j hj S hS => by
  omega)
theorem M69_4a (n i : Int) (xs zs : List AV) (k : KC) : headedK C69 (loopB Tryd.f69 0) [(1, .int .i64 n), (2, .ptr 0 0 0), (4, .ptr 1 0 0), (6, .int .i64 i)] [.cells 0 xs, .cells 0 zs] k =
  aIf (decide (i < 32)) (aIf (decide (0 ≤ IntKind.i64.wrap (i.tdiv 8))) (aIf (decide (IntKind.i64.wrap (i.tdiv 8) < 4)) (aIf (decide (0 + (IntKind.i64.wrap (i.tdiv 8)).toNat * 1 + 1 ≤ xs.length)) (aIf ((xs.getD (0 + (IntKind.i64.wrap (i.tdiv 8)).toNat * 1) AV.junk).isInt IntKind.u8) (aIf (decide (IntKind.i64.wrap (7 - i.tmod 8) < 0)) none (aIf (decide (0 ≤ IntKind.i64.wrap (i.tdiv 8))) (aIf (decide (IntKind.i64.wrap (i.tdiv 8) < 4)) (aIf (decide (0 + (IntKind.i64.wrap (i.tdiv 8)).toNat * 1 + 1 ≤ xs.length)) (k AExit.normal [(1, AV.int IntKind.i64 n), (2, AV.ptr 0 0 0), (4, AV.ptr 1 0 0), (6, AV.int IntKind.i64 (IntKind.i64.wrap (i + 1)))] [AO.cells 0 (xs.set (0 + (IntKind.i64.wrap (i.tdiv 8)).toNat * 1) (AV.int IntKind.u8 (IntKind.u8.wrap (↑(BitVec.ofInt 8 (xs.getD (0 + (IntKind.i64.wrap (i.tdiv 8)).toNat * 1) AV.junk).toInt &&& ~~~BitVec.ofInt 8 (IntKind.u8.wrap (1 * 2 ^ min (IntKind.i64.wrap (7 - i.tmod 8)).toNat 8))).toNat : Int)))), AO.cells 0 zs]) none) none) none)) none) none) none) none) (k (AExit.exit 0) [(1, AV.int IntKind.i64 n), (2, AV.ptr 0 0 0), (4, AV.ptr 1 0 0), (6, AV.int IntKind.i64 i), (16, AV.bool (decide (i < 32)))] [AO.cells 0 xs, AO.cells 0 zs]) := by kernel_rfl
theorem L69_4_ok : LoopSum C69 (loopB Tryd.f69 0) L69_4 := LoopSum.of C69_ok L69_4_in (fun ts H => by
  unfold L69_4
  split
  · rename_i n i xs zs
    rcases Bool.eq_false_or_eq_true (intsB .u8 xs && xs.length == 4 && decide (0 ≤ i) && decide (i ≤ 32)) with hp | hp
    · refine .inr ?_
      simp only [aIf_pos hp]
      simp only [Bool.and_eq_true, decide_eq_true_eq, beq_iff_eq] at hp
      obtain ⟨⟨⟨hu, hL⟩, h0⟩, h1⟩ := hp
      obtain ⟨i, rfl⟩ := Int.eq_ofNat_of_zero_le h0
      have key : ∀ (j : Nat) (ys : List AV), j < 32 → (intsB .u8 ys = true ∧ ys.length = 4) → (intsB .u8 (setV ys j 0) = true ∧ (setV ys j 0).length = 4) ∧ ∀ k, headedK C69 (loopB Tryd.f69 0) [(1, .int .i64 n), (2, .ptr 0 0 0), (4, .ptr 1 0 0), (6, .int .i64 (j : Int))] [.cells 0 ys, .cells 0 zs] k = k .normal [(1, .int .i64 n), (2, .ptr 0 0 0), (4, .ptr 1 0 0), (6, .int .i64 ((j + 1 : Nat) : Int))] [.cells 0 (setV ys j 0), .cells 0 zs] := by
        intro j ys hj hys
        obtain ⟨hu, hL⟩ := hys
        refine ⟨⟨setV_u8 hu (.inl rfl), by rw [setV_length, hL]⟩, fun k => ?_⟩
        obtain ⟨x, hx, he⟩ := u8_get hu (j / 8) (by omega)
        rw [M69_4a]
        simp only [decide_eq_true (show (j : Int) < 32 by omega), div8 (show j < 9223372036854775808 by omega), sh7 j, decide_eq_true (show ((j / 8 : Nat) : Int) < 4 by omega), decide_eq_true (show j / 8 + 1 ≤ ys.length by omega), show min (7 - j % 8) 8 = 7 - j % 8 by omega, he, clr8 hx (show 7 - j % 8 < 8 by omega), u8pow (show 7 - j % 8 < 8 by omega), i64s (show j + 1 < 9223372036854775808 by omega), Int.toNat_natCast, Nat.zero_add, Nat.mul_one, Int.one_mul, isInt_self, AV.toInt, dnn, dnn', aIf_true, aIf_false, setV]
      have hl : cutX xs (i : Int).toNat = foldF (fun j ys => setV ys j 0) (32 - i) i xs := by rw [Int.toNat_natCast]; unfold cutX; rw [hL]
      rw [hl]
      exact (iter_fold (N := 32) (ts := fun j _ => [(1, .int .i64 n), (2, .ptr 0 0 0), (4, .ptr 1 0 0), (6, .int .i64 (j : Int))]) (H := fun _ ys => [.cells 0 ys, .cells 0 zs]) (f := fun j ys => setV ys j 0) (I := fun _ ys => intsB .u8 ys = true ∧ ys.length = 4) (te := fun _ => [(1, .int .i64 n), (2, .ptr 0 0 0), (4, .ptr 1 0 0), (6, .int .i64 32), (16, .bool false)]) (He := fun ys => [.cells 0 [.int .u8 (byteAt ys 0), .int .u8 (byteAt ys 1), .int .u8 (byteAt ys 2), .int .u8 (byteAt ys 3)], .cells 0 zs])
        key (fun ys hI k => by rw [M69_4a]; exact congrArg (fun c => k (.exit 0) [(1, .int .i64 n), (2, .ptr 0 0 0), (4, .ptr 1 0 0), (6, .int .i64 32), (16, .bool false)] [.cells 0 c, .cells 0 zs]) (bytes4 hI.1 hI.2)) (by intro h; cases h) (32 - i) i xs (by omega) ⟨hu, hL⟩).imp fun m hm k => (hm k).symm
    · exact .inl fun k => by rw [aIf_neg hp]
  · exact .inl fun k => rfl)
theorem C69_loops : ∀ c, Tryd.f69.body = some c → LoopsOK C69 c := LoopsOK.of 1 (by kernel_rfl) (fun j hj S hS => by
  match j, hj with
  | 0, _ => rw [C69_l0] at hS; cases hS; exact L69_4_ok
  | n + 1, hj => omega)
noncomputable def S69 : FSpec := inlineK C69 Tryd.f69
theorem S69_ok : SpecOK Tryd.prog 69 S69 := inlineK_ok C69_ok Tryd.func69 C69_loops
theorem En69 : Enters Tryd.prog 69 := ⟨_, Tryd.func69, by decide, rfl⟩
noncomputable def R69 (args : List AV) : Res := S69 args [] encK
noncomputable def V69 : FSpec := leafK (.tup [.agg [.int .u8, .int .u8, .int .u8, .int .u8, .int .i64], .int .i64]) R69
theorem V69_ok : SpecOK Tryd.prog 69 V69 := leafK_ok S69_ok (fun _ => rfl)
theorem N69 (x : Nat → Int) (n : Int) : S69 [.agg [.int .u8 (x 0), .int .u8 (x 1), .int .u8 (x 2), .int .u8 (x 3)], .int .i64 n] [] encK =
  aIf (decide (n < 0)) (some (AEnd.ret (AV.tup [AV.agg [AV.int IntKind.u8 0, AV.int IntKind.u8 0, AV.int IntKind.u8 0, AV.int IntKind.u8 0, AV.int IntKind.i64 0], AV.int IntKind.i64 5]), [])) (aIf (decide (n > 32)) (some (AEnd.ret (AV.tup [AV.agg [AV.int IntKind.u8 0, AV.int IntKind.u8 0, AV.int IntKind.u8 0, AV.int IntKind.u8 0, AV.int IntKind.i64 0], AV.int IntKind.i64 5]), [])) (aIf (true && (decide (0 ≤ x 0) && decide (x 0 ≤ 255)) && (true && (decide (0 ≤ x 1) && decide (x 1 ≤ 255)) && (true && (decide (0 ≤ x 2) && decide (x 2 ≤ 255)) && (true && (decide (0 ≤ x 3) && decide (x 3 ≤ 255)) && true))) && true && decide (0 ≤ n) && decide (n ≤ 32)) (some (AEnd.ret (AV.tup [AV.agg [AV.int IntKind.u8 (Pl.byteAt (Pl.cutX [AV.int IntKind.u8 (x 0), AV.int IntKind.u8 (x 1), AV.int IntKind.u8 (x 2), AV.int IntKind.u8 (x 3)] n.toNat) 0), AV.int IntKind.u8 (Pl.byteAt (Pl.cutX [AV.int IntKind.u8 (x 0), AV.int IntKind.u8 (x 1), AV.int IntKind.u8 (x 2), AV.int IntKind.u8 (x 3)] n.toNat) 1), AV.int IntKind.u8 (Pl.byteAt (Pl.cutX [AV.int IntKind.u8 (x 0), AV.int IntKind.u8 (x 1), AV.int IntKind.u8 (x 2), AV.int IntKind.u8 (x 3)] n.toNat) 2), AV.int IntKind.u8 (Pl.byteAt (Pl.cutX [AV.int IntKind.u8 (x 0), AV.int IntKind.u8 (x 1), AV.int IntKind.u8 (x 2), AV.int IntKind.u8 (x 3)] n.toNat) 3), AV.int IntKind.i64 n], AV.int IntKind.i64 0]), [])) none)) := by kernel_rfl
theorem R69_is {x : Nat → Int} {n : Int} (hx : b8 x) (h0 : 0 ≤ n) (h1 : n ≤ 32) : R69 [.agg [.int .u8 (x 0), .int .u8 (x 1), .int .u8 (x 2), .int .u8 (x 3)], .int .i64 n] = some (.ret (.tup [.agg [.int .u8 (byteAt (cutX [.int .u8 (x 0), .int .u8 (x 1), .int .u8 (x 2), .int .u8 (x 3)] n.toNat) 0), .int .u8 (byteAt (cutX [.int .u8 (x 0), .int .u8 (x 1), .int .u8 (x 2), .int .u8 (x 3)] n.toNat) 1), .int .u8 (byteAt (cutX [.int .u8 (x 0), .int .u8 (x 1), .int .u8 (x 2), .int .u8 (x 3)] n.toNat) 2), .int .u8 (byteAt (cutX [.int .u8 (x 0), .int .u8 (x 1), .int .u8 (x 2), .int .u8 (x 3)] n.toNat) 3), .int .i64 n], .int .i64 0]), []) := by
  show S69 _ [] encK = _
  rw [N69, decide_eq_false (show ¬ n < 0 by omega), decide_eq_false (show ¬ n > 32 by omega)]
  refine (aIf_neg rfl).trans ((aIf_neg rfl).trans (aIf_pos ?_))
  have : (intsB .u8 [.int .u8 (x 0), .int .u8 (x 1), .int .u8 (x 2), .int .u8 (x 3)] && ([.int .u8 (x 0), .int .u8 (x 1), .int .u8 (x 2), .int .u8 (x 3)] : List AV).length == 4 && decide (0 ≤ n) && decide (n ≤ 32)) = true := by rw [b8_4 hx, decide_eq_true h0, decide_eq_true h1]; rfl
  exact this

/-- ferryman/ferrymanref02.Has4 -/
noncomputable def T50 : List (FuncId × FSpec) := [(31, V31), (69, V69)]
theorem T50_ok : TabOK Tryd.prog T50 := TabOK.cons En31 V31_ok (TabOK.cons En69 V69_ok (TabOK.nil _))
noncomputable def C50 : Ctx := (ctx E T50 [] [(0, [2, 3]), (1, [2, 3, 10]), (2, [4, 5]), (3, [2, 6]), (4, [4, 5])] [] 21 70)
theorem C50_ok : CtxOK Tryd.prog C50 := ctx_ok E_ok E_flds mixed T50_ok
noncomputable def S50 : FSpec := inlineK C50 Tryd.f50
theorem S50_ok : SpecOK Tryd.prog 50 S50 := inlineK_ok C50_ok Tryd.func50 (fun _ _ => LoopsOK.none _)
theorem En50 : Enters Tryd.prog 50 := ⟨_, Tryd.func50, by decide, rfl⟩
noncomputable def R50 (args : List AV) : Res := S50 args [] encK
noncomputable def V50 : FSpec := leafK (.tup [.bool, .int .i64]) R50
theorem V50_ok : SpecOK Tryd.prog 50 V50 := leafK_ok S50_ok (fun _ => rfl)
theorem N50 (x y : Nat → Int) (n : Int) : S50 [.agg [.int .u8 (x 0), .int .u8 (x 1), .int .u8 (x 2), .int .u8 (x 3), .int .i64 n], .agg [.int .u8 (y 0), .int .u8 (y 1), .int .u8 (y 2), .int .u8 (y 3)]] [] encK =
  aIf (shOK (Sh.int IntKind.i64) (R31 [AV.agg [AV.int IntKind.u8 (x 0), AV.int IntKind.u8 (x 1), AV.int IntKind.u8 (x 2), AV.int IntKind.u8 (x 3), AV.int IntKind.i64 n]])) (aIf ((sel (R31 [AV.agg [AV.int IntKind.u8 (x 0), AV.int IntKind.u8 (x 1), AV.int IntKind.u8 (x 2), AV.int IntKind.u8 (x 3), AV.int IntKind.i64 n]]) []).toInt != 0) (some (AEnd.ret (AV.tup [AV.bool false, AV.int IntKind.i64 22]), [])) (aIf (shOK (Sh.tup [Sh.agg [Sh.int IntKind.u8, Sh.int IntKind.u8, Sh.int IntKind.u8, Sh.int IntKind.u8, Sh.int IntKind.i64], Sh.int IntKind.i64]) (R69 [AV.agg [AV.int IntKind.u8 (y 0), AV.int IntKind.u8 (y 1), AV.int IntKind.u8 (y 2), AV.int IntKind.u8 (y 3)], AV.int IntKind.i64 n])) (some (AEnd.ret (AV.tup [AV.bool ((sel (R69 [AV.agg [AV.int IntKind.u8 (y 0), AV.int IntKind.u8 (y 1), AV.int IntKind.u8 (y 2), AV.int IntKind.u8 (y 3)], AV.int IntKind.i64 n]) [0, 0]).toInt == x 0 && ((sel (R69 [AV.agg [AV.int IntKind.u8 (y 0), AV.int IntKind.u8 (y 1), AV.int IntKind.u8 (y 2), AV.int IntKind.u8 (y 3)], AV.int IntKind.i64 n]) [0, 1]).toInt == x 1 && ((sel (R69 [AV.agg [AV.int IntKind.u8 (y 0), AV.int IntKind.u8 (y 1), AV.int IntKind.u8 (y 2), AV.int IntKind.u8 (y 3)], AV.int IntKind.i64 n]) [0, 2]).toInt == x 2 && ((sel (R69 [AV.agg [AV.int IntKind.u8 (y 0), AV.int IntKind.u8 (y 1), AV.int IntKind.u8 (y 2), AV.int IntKind.u8 (y 3)], AV.int IntKind.i64 n]) [0, 3]).toInt == x 3 && true))) && ((sel (R69 [AV.agg [AV.int IntKind.u8 (y 0), AV.int IntKind.u8 (y 1), AV.int IntKind.u8 (y 2), AV.int IntKind.u8 (y 3)], AV.int IntKind.i64 n]) [0, 4]).toInt == n && true)), AV.int IntKind.i64 0]), [])) none)) none := by kernel_rfl
theorem R50_is {x y : Nat → Int} {n : Int} (hx : b8 x) (hy : b8 y) : R50 [.agg [.int .u8 (x 0), .int .u8 (x 1), .int .u8 (x 2), .int .u8 (x 3), .int .i64 n], .agg [.int .u8 (y 0), .int .u8 (y 1), .int .u8 (y 2), .int .u8 (y 3)]] = some (.ret (.tup [.bool (inB 32 [.int .u8 (x 0), .int .u8 (x 1), .int .u8 (x 2), .int .u8 (x 3)] [.int .u8 (y 0), .int .u8 (y 1), .int .u8 (y 2), .int .u8 (y 3)] n), .int .i64 (chkE 32 [.int .u8 (x 0), .int .u8 (x 1), .int .u8 (x 2), .int .u8 (x 3)] n)]), []) := by
  show S50 _ [] encK = _
  have ti : ∀ k n, (AV.int k n).toInt = n := fun _ _ => rfl
  have tb : ∀ b, (AV.bool b).toBool = b := fun _ => rfl
  have si : ∀ k n, sel (some (AEnd.ret (AV.int k n), [])) [] = .int k n := fun _ _ => rfl
  have sb : ∀ b, sel (some (AEnd.ret (AV.bool b), [])) [] = .bool b := fun _ => rfl
  rw [N50]
  simp only [R31_is hx, shOK_ret, has_int, chkE_in, si, ti, aIf_true]
  rcases chkE_or 32 [.int .u8 (x 0), .int .u8 (x 1), .int .u8 (x 2), .int .u8 (x 3)] n with ⟨h1, h2, h3, h4⟩ | h1
  · have e := R69_is hy h2 h3
    have hcu := cutX_u8 (b8_4 hy) n.toNat
    have hcl : (cutX [.int .u8 (y 0), .int .u8 (y 1), .int .u8 (y 2), .int .u8 (y 3)] n.toNat).length = 4 := cutX_length _ _
    have hin : ∀ k, inK .u8 (byteAt (cutX [.int .u8 (y 0), .int .u8 (y 1), .int .u8 (y 2), .int .u8 (y 3)] n.toNat) k) = true := fun k => byteAt_in hcu k
    have g : ∀ l : List AV, sel (some (AEnd.ret (AV.tup [.agg l, .int .i64 0]), [])) [0] = .agg l := fun _ => rfl
    have hn : inK .i64 n = true := by rw [inK_i64, decide_eq_true (show -9223372036854775808 ≤ n by omega), decide_eq_true (show n ≤ 9223372036854775807 by omega)]; rfl
    rw [h1, e, aIf_neg (b := ((0 : Int) != 0)) rfl]
    refine (aIf_pos ?_).trans ?_
    · simp only [shOK_ret, has_tup, has_agg, hasL_cons, hasL_nil, has_int, List.getD_cons_zero, List.getD_cons_succ, List.length_cons, List.length_nil, beq_self_eq_true, hin, hn, Bool.and_self]
      rfl
    · unfold inB
      rw [h1]
      refine congrArg (fun u => some (AEnd.ret (AV.tup [AV.bool u, AV.int .i64 0]), [])) ?_
      show _ = sameB [.int .u8 (x 0), .int .u8 (x 1), .int .u8 (x 2), .int .u8 (x 3)] [.int .u8 (y 0), .int .u8 (y 1), .int .u8 (y 2), .int .u8 (y 3)] n.toNat
      rw [Bool.eq_iff_iff, ← cut_same (b8_4 hx) (b8_4 hy) rfl (show n.toNat ≤ 32 by omega) h4]
      have hb := bytes4 hcu hcl
      constructor
      · intro h
        have h' : ((byteAt (cutX [.int .u8 (y 0), .int .u8 (y 1), .int .u8 (y 2), .int .u8 (y 3)] n.toNat) 0 == x 0 && (byteAt (cutX [.int .u8 (y 0), .int .u8 (y 1), .int .u8 (y 2), .int .u8 (y 3)] n.toNat) 1 == x 1 && (byteAt (cutX [.int .u8 (y 0), .int .u8 (y 1), .int .u8 (y 2), .int .u8 (y 3)] n.toNat) 2 == x 2 && (byteAt (cutX [.int .u8 (y 0), .int .u8 (y 1), .int .u8 (y 2), .int .u8 (y 3)] n.toNat) 3 == x 3 && true)))) && (n == n && true)) = true := h
        simp only [Bool.and_eq_true, beq_iff_eq] at h'
        obtain ⟨⟨q0, q1, q2, q3, _⟩, _⟩ := h'
        rw [hb]
        simp only [q0, q1, q2, q3]
      · intro h
        show ((byteAt (cutX [.int .u8 (y 0), .int .u8 (y 1), .int .u8 (y 2), .int .u8 (y 3)] n.toNat) 0 == x 0 && (byteAt (cutX [.int .u8 (y 0), .int .u8 (y 1), .int .u8 (y 2), .int .u8 (y 3)] n.toNat) 1 == x 1 && (byteAt (cutX [.int .u8 (y 0), .int .u8 (y 1), .int .u8 (y 2), .int .u8 (y 3)] n.toNat) 2 == x 2 && (byteAt (cutX [.int .u8 (y 0), .int .u8 (y 1), .int .u8 (y 2), .int .u8 (y 3)] n.toNat) 3 == x 3 && true)))) && (n == n && true)) = true
        rw [h]
        show ((x 0 == x 0 && (x 1 == x 1 && (x 2 == x 2 && (x 3 == x 3 && true)))) && (n == n && true)) = true
        simp only [beq_self_eq_true, Bool.and_self]
  · rw [h1]
    unfold inB
    rw [h1]
    rfl

/-- ferryman/ferrymanref09.Right -/
noncomputable def T70 : List (FuncId × FSpec) := []
theorem T70_ok : TabOK Tryd.prog T70 := TabOK.nil _
noncomputable def C70 : Ctx := (ctx E T70 [] [(0, [1]), (1, [2])] [] 33 70)
theorem C70_ok : CtxOK Tryd.prog C70 := ctx_ok E_ok E_flds mixed T70_ok
noncomputable def B70 : FSpec := inlineK C70 Tryd.f70
noncomputable def S70 : FSpec := fun args H k => match args, H with
  | [.agg [.int .i64 a, .int .i64 b, .int .u16 x]], [] => aIf (psetB a b x) (k (.ret (.bool (right a b x))) []) none
  | _, _ => none
theorem B70_ok : SpecOK Tryd.prog 70 B70 := inlineK_ok C70_ok Tryd.func70 (fun _ _ => LoopsOK.none _)
theorem N70 (a b x : Int) (k : KE) : B70 [.agg [.int .i64 a, .int .i64 b, .int .u16 x]] [] k =
    aIf (decide (a ≥ 0))
  (aIf (decide (a ≤ 15))
    (aIf (decide (b ≥ 0))
      (aIf (decide (b ≤ IntKind.i64.wrap (16 - a)))
        (aIf (decide (b < 0)) none
          (k (AEnd.ret (AV.bool (decide (IntKind.i64.wrap x < IntKind.i64.wrap (1 * 2 ^ min b.toNat 64))))) []))
        (k (AEnd.ret (AV.bool false)) []))
      (k (AEnd.ret (AV.bool false)) []))
    (k (AEnd.ret (AV.bool false)) []))
  (k (AEnd.ret (AV.bool false)) []) := by kernel_rfl
theorem S70_ok : SpecOK Tryd.prog 70 S70 := by
  refine B70_ok.turn fun args H => ?_
  unfold S70
  split
  · rename_i a b x
    rcases Bool.eq_false_or_eq_true (psetB a b x) with hp | hp
    · refine .inr fun k => ?_
      rw [aIf_pos hp, N70]
      exact right_law hp k
    · exact .inl fun k => by rw [aIf_neg hp]
  · exact .inl fun k => rfl
theorem En70 : Enters Tryd.prog 70 := ⟨_, Tryd.func70, by decide, rfl⟩

/-- ferryman/ferrymanref09.a -/
noncomputable def T71 : List (FuncId × FSpec) := []
theorem T71_ok : TabOK Tryd.prog T71 := TabOK.nil _
noncomputable def C71 : Ctx := (ctx E T71 [] [(0, [0, 1]), (1, [4])] [] 10 70)
theorem C71_ok : CtxOK Tryd.prog C71 := ctx_ok E_ok E_flds mixed T71_ok
noncomputable def B71 : FSpec := inlineK C71 Tryd.f71
noncomputable def S71 : FSpec := fun args H k => match args, H with
  | [.int .i64 a, .int .u16 x], [] => aIf (offB a x) (k (.ret (.int .i64 (x / 2 ^ (16 - a).toNat))) []) none
  | _, _ => none
theorem B71_ok : SpecOK Tryd.prog 71 B71 := inlineK_ok C71_ok Tryd.func71 (fun _ _ => LoopsOK.none _)
theorem N71 (a x : Int) (k : KE) : B71 [.int .i64 a, .int .u16 x] [] k =
    aIf (decide (IntKind.i64.wrap (16 - a) < 0)) none
  (k (AEnd.ret (AV.int IntKind.i64 ((IntKind.i64.wrap x).fdiv (2 ^ min (IntKind.i64.wrap (16 - a)).toNat 64)))) []) := by kernel_rfl
theorem S71_ok : SpecOK Tryd.prog 71 S71 := by
  refine B71_ok.turn fun args H => ?_
  unfold S71
  split
  · rename_i a x
    rcases Bool.eq_false_or_eq_true (offB a x) with hp | hp
    · refine .inr fun k => ?_
      rw [aIf_pos hp, N71]
      exact a_law hp k
    · exact .inl fun k => by rw [aIf_neg hp]
  · exact .inl fun k => rfl
theorem En71 : Enters Tryd.prog 71 := ⟨_, Tryd.func71, by decide, rfl⟩

/-- ferryman/ferrymanref09.Of -/
noncomputable def T51 : List (FuncId × FSpec) := [(70, S70), (71, S71)]
theorem T51_ok : TabOK Tryd.prog T51 := TabOK.cons En70 S70_ok (TabOK.cons En71 S71_ok (TabOK.nil _))
noncomputable def C51 : Ctx := (ctx E T51 [] [(0, [0, 1, 2]), (1, [0, 1, 2, 13]), (2, [6, 7, 8]), (3, [0, 1, 2, 21]), (4, [6, 7, 8]), (5, [6, 7, 8])] [] 33 70)
theorem C51_ok : CtxOK Tryd.prog C51 := ctx_ok E_ok E_flds mixed T51_ok
noncomputable def B51 : FSpec := inlineK C51 Tryd.f51
noncomputable def S51 : FSpec := fun args H k => match args, H with
  | [.int .i64 a, .int .i64 b, .int .u16 x], [] => aIf (psetB a b x) (aIf (right a b 0) (aIf (mine a x) (k (.ret (.tup [.int .u16 (psid a b x), .bool true, .int .i64 0])) []) (k (.ret (.tup [.int .u16 0, .bool false, .int .i64 0])) [])) (k (.ret (.tup [.int .u16 0, .bool false, .int .i64 90])) [])) none
  | _, _ => none
theorem B51_ok : SpecOK Tryd.prog 51 B51 := inlineK_ok C51_ok Tryd.func51 (fun _ _ => LoopsOK.none _)
theorem N51 (a b x : Int) (k : KE) : B51 [.int .i64 a, .int .i64 b, .int .u16 x] [] k =
    aIf (Pl.psetB a b 0)
  (aIf (!Pl.right a b 0) (k (AEnd.ret (AV.tup [AV.int IntKind.u16 0, AV.bool false, AV.int IntKind.i64 90])) [])
    (aIf (decide (a > 0))
      (aIf (Pl.offB a x)
        (aIf (x / 2 ^ (16 - a).toNat == 0)
          (k (AEnd.ret (AV.tup [AV.int IntKind.u16 0, AV.bool false, AV.int IntKind.i64 0])) [])
          (aIf (decide (IntKind.i64.wrap (IntKind.i64.wrap (16 - a) - b) < 0)) none
            (aIf (decide (b < 0)) none
              (aIf (IntKind.i64.wrap (1 * 2 ^ min b.toNat 64) == 0) none
                (k
                  (AEnd.ret
                    (AV.tup
                      [AV.int IntKind.u16
                          (IntKind.u16.wrap
                            (((IntKind.i64.wrap x).fdiv
                                  (2 ^ min (IntKind.i64.wrap (IntKind.i64.wrap (16 - a) - b)).toNat 64)).tmod
                              (IntKind.i64.wrap (1 * 2 ^ min b.toNat 64)))),
                        AV.bool true, AV.int IntKind.i64 0]))
                  [])))))
        none)
      (aIf (decide (IntKind.i64.wrap (IntKind.i64.wrap (16 - a) - b) < 0)) none
        (aIf (decide (b < 0)) none
          (aIf (IntKind.i64.wrap (1 * 2 ^ min b.toNat 64) == 0) none
            (k
              (AEnd.ret
                (AV.tup
                  [AV.int IntKind.u16
                      (IntKind.u16.wrap
                        (((IntKind.i64.wrap x).fdiv
                              (2 ^ min (IntKind.i64.wrap (IntKind.i64.wrap (16 - a) - b)).toNat 64)).tmod
                          (IntKind.i64.wrap (1 * 2 ^ min b.toNat 64)))),
                    AV.bool true, AV.int IntKind.i64 0]))
              []))))))
  none := by kernel_rfl
theorem S51_ok : SpecOK Tryd.prog 51 S51 := by
  refine B51_ok.turn fun args H => ?_
  unfold S51
  split
  · rename_i a b x
    rcases Bool.eq_false_or_eq_true (psetB a b x) with hp | hp
    · refine .inr fun k => ?_
      rw [aIf_pos hp, N51]
      exact of_ref hp k
    · exact .inl fun k => by rw [aIf_neg hp]
  · exact .inl fun k => rfl
theorem En51 : Enters Tryd.prog 51 := ⟨_, Tryd.func51, by decide, rfl⟩
noncomputable def R51 (args : List AV) : Res := S51 args [] encK
noncomputable def V51 : FSpec := leafK (.tup [.int .u16, .bool, .int .i64]) R51
theorem V51_ok : SpecOK Tryd.prog 51 V51 := leafK_ok S51_ok (fun _ => rfl)
theorem R51_is {a b x : Int} (hp : psetB a b x = true) : R51 [.int .i64 a, .int .i64 b, .int .u16 x] = some (.ret (.tup [.int .u16 (ofN a b x), .bool (ofB a b x), .int .i64 (ofE a b 0)]), []) := by
  refine (aIf_pos hp).trans ?_
  unfold ofN ofB ofE
  cases right a b 0
  · rfl
  · cases mine a x <;> rfl

/-- ferryman/ferrymanref09.Has -/
noncomputable def T52 : List (FuncId × FSpec) := [(51, S51), (70, S70)]
theorem T52_ok : TabOK Tryd.prog T52 := TabOK.cons En51 S51_ok (TabOK.cons En70 S70_ok (TabOK.nil _))
noncomputable def C52 : Ctx := (ctx E T52 [] [(0, [1, 2]), (1, [1, 2, 11]), (2, [4, 5]), (3, [2, 6, 7]), (4, [4, 5])] [] 29 70)
theorem C52_ok : CtxOK Tryd.prog C52 := ctx_ok E_ok E_flds mixed T52_ok
noncomputable def B52 : FSpec := inlineK C52 Tryd.f52
noncomputable def S52 : FSpec := fun args H k => match args, H with
  | [.agg [.int .i64 a, .int .i64 b, .int .u16 p], .int .u16 x], [] => aIf (psetB a b p && psetB a b x) (aIf (right a b p) (k (.ret (.tup [.bool (mine a x && (psid a b x == p)), .int .i64 0])) []) (k (.ret (.tup [.bool false, .int .i64 90])) [])) none
  | _, _ => none
theorem B52_ok : SpecOK Tryd.prog 52 B52 := inlineK_ok C52_ok Tryd.func52 (fun _ _ => LoopsOK.none _)
theorem N52 (a b p x : Int) (k : KE) : B52 [.agg [.int .i64 a, .int .i64 b, .int .u16 p], .int .u16 x] [] k =
    aIf (Pl.psetB a b p)
  (aIf (!Pl.right a b p) (k (AEnd.ret (AV.tup [AV.bool false, AV.int IntKind.i64 90])) [])
    (aIf (Pl.psetB a b x)
      (aIf (Pl.right a b 0)
        (aIf (Pl.mine a x) (k (AEnd.ret (AV.tup [AV.bool (Pl.psid a b x == p), AV.int IntKind.i64 0])) [])
          (k (AEnd.ret (AV.tup [AV.bool false, AV.int IntKind.i64 0])) []))
        (k (AEnd.ret (AV.tup [AV.bool false, AV.int IntKind.i64 0])) []))
      none))
  none := by kernel_rfl
theorem S52_ok : SpecOK Tryd.prog 52 S52 := by
  refine B52_ok.turn fun args H => ?_
  unfold S52
  split
  · rename_i a b p x
    rcases Bool.eq_false_or_eq_true (psetB a b p && psetB a b x) with hp | hp
    · refine .inr fun k => ?_
      rw [aIf_pos hp, N52]
      exact has_ref hp k
    · exact .inl fun k => by rw [aIf_neg hp]
  · exact .inl fun k => rfl
theorem En52 : Enters Tryd.prog 52 := ⟨_, Tryd.func52, by decide, rfl⟩
noncomputable def R52 (args : List AV) : Res := S52 args [] encK
noncomputable def V52 : FSpec := leafK (.tup [.bool, .int .i64]) R52
theorem V52_ok : SpecOK Tryd.prog 52 V52 := leafK_ok S52_ok (fun _ => rfl)
theorem R52_is {a b p x : Int} (hp : psetB a b p = true) (hx : psetB a b x = true) : R52 [.agg [.int .i64 a, .int .i64 b, .int .u16 p], .int .u16 x] = some (.ret (.tup [.bool (hasB a b p x), .int .i64 (ofE a b p)]), []) := by
  refine (aIf_pos (by rw [hp, hx]; rfl)).trans ?_
  unfold hasB ofE
  cases right a b p
  · rfl
  · rfl

/-- ferryman/ferrymanref10.Owns -/
noncomputable def T27 : List (FuncId × FSpec) := [(50, V50), (52, V52)]
theorem T27_ok : TabOK Tryd.prog T27 := TabOK.cons En50 V50_ok (TabOK.cons En52 V52_ok (TabOK.nil _))
noncomputable def C27 : Ctx := (ctx E T27 [] [(0, [2, 3, 4]), (1, [2, 3, 8, 9]), (2, [2, 3, 8, 9, 20]), (3, [6, 7]), (4, [3, 8, 10, 11]), (5, [3, 8, 10, 11, 30]), (6, [6, 7]), (7, [6, 7])] [] 42 70)
theorem C27_ok : CtxOK Tryd.prog C27 := ctx_ok E_ok E_flds mixed T27_ok
noncomputable def S27 : FSpec := inlineK C27 Tryd.f27
theorem S27_ok : SpecOK Tryd.prog 27 S27 := inlineK_ok C27_ok Tryd.func27 (fun _ _ => LoopsOK.none _)
theorem En27 : Enters Tryd.prog 27 := ⟨_, Tryd.func27, by decide, rfl⟩
noncomputable def R27 (args : List AV) : Res := S27 args [] encK
noncomputable def V27 : FSpec := leafK (.tup [.bool, .int .i64]) R27
theorem V27_ok : SpecOK Tryd.prog 27 V27 := leafK_ok S27_ok (fun _ => rfl)
theorem N27 (z x u w : Nat → Int) (m n a b p q : Int)
    {r0 : _} (h0 : r0 = R50 [AV.agg [AV.int IntKind.u8 (z 0), AV.int IntKind.u8 (z 1), AV.int IntKind.u8 (z 2), AV.int IntKind.u8 (z 3), AV.int IntKind.i64 m], AV.agg [AV.int IntKind.u8 (w 0), AV.int IntKind.u8 (w 1), AV.int IntKind.u8 (w 2), AV.int IntKind.u8 (w 3)]])
    {r1 : _} (h1 : r1 = R52 [AV.agg [AV.int IntKind.i64 a, AV.int IntKind.i64 b, AV.int IntKind.u16 p], AV.int IntKind.u16 q]) :
  S27 [.agg [.int .u8 (z 0), .int .u8 (z 1), .int .u8 (z 2), .int .u8 (z 3), .int .i64 m, .int .i64 a, .int .i64 b, .int .u16 p, .int .u8 (x 0), .int .u8 (x 1), .int .u8 (x 2), .int .u8 (x 3), .int .u8 (x 4), .int .u8 (x 5), .int .u8 (x 6), .int .u8 (x 7), .int .u8 (x 8), .int .u8 (x 9), .int .u8 (x 10), .int .u8 (x 11), .int .u8 (x 12), .int .u8 (x 13), .int .u8 (x 14), .int .u8 (x 15), .int .i64 n, .int .u8 (u 0), .int .u8 (u 1), .int .u8 (u 2), .int .u8 (u 3), .int .u8 (u 4), .int .u8 (u 5), .int .u8 (u 6), .int .u8 (u 7), .int .u8 (u 8), .int .u8 (u 9), .int .u8 (u 10), .int .u8 (u 11), .int .u8 (u 12), .int .u8 (u 13), .int .u8 (u 14), .int .u8 (u 15)], .agg [.int .u8 (w 0), .int .u8 (w 1), .int .u8 (w 2), .int .u8 (w 3)], .int .u16 q] [] encK =
  aIf (shOK (Sh.tup [Sh.bool, Sh.int IntKind.i64]) r0) (aIf ((sel r0 [1]).toInt != 0) (some (AEnd.ret (AV.tup [AV.bool false, AV.int IntKind.i64 (sel r0 [1]).toInt]), [])) (aIf (shOK (Sh.tup [Sh.bool, Sh.int IntKind.i64]) r1) (aIf ((sel r1 [1]).toInt != 0) (some (AEnd.ret (AV.tup [AV.bool false, AV.int IntKind.i64 (sel r1 [1]).toInt]), [])) (aIf (sel r0 [0]).toBool (aIf (b == 0) (some (AEnd.ret (AV.tup [AV.bool true, AV.int IntKind.i64 0]), [])) (some (AEnd.ret (AV.tup [AV.bool (sel r1 [0]).toBool, AV.int IntKind.i64 0]), []))) (some (AEnd.ret (AV.tup [AV.bool false, AV.int IntKind.i64 0]), [])))) none)) none := by subst h0 h1; kernel_rfl
set_option maxRecDepth 20000 in
theorem R27_is {z x u w : Nat → Int} {m n a b p q : Int} (hz : b8 z) (hw : b8 w) (hs : psetB a b p = true) (hq : 0 ≤ q ∧ q ≤ 65535) : R27 [.agg [.int .u8 (z 0), .int .u8 (z 1), .int .u8 (z 2), .int .u8 (z 3), .int .i64 m, .int .i64 a, .int .i64 b, .int .u16 p, .int .u8 (x 0), .int .u8 (x 1), .int .u8 (x 2), .int .u8 (x 3), .int .u8 (x 4), .int .u8 (x 5), .int .u8 (x 6), .int .u8 (x 7), .int .u8 (x 8), .int .u8 (x 9), .int .u8 (x 10), .int .u8 (x 11), .int .u8 (x 12), .int .u8 (x 13), .int .u8 (x 14), .int .u8 (x 15), .int .i64 n, .int .u8 (u 0), .int .u8 (u 1), .int .u8 (u 2), .int .u8 (u 3), .int .u8 (u 4), .int .u8 (u 5), .int .u8 (u 6), .int .u8 (u 7), .int .u8 (u 8), .int .u8 (u 9), .int .u8 (u 10), .int .u8 (u 11), .int .u8 (u 12), .int .u8 (u 13), .int .u8 (u 14), .int .u8 (u 15)], .agg [.int .u8 (w 0), .int .u8 (w 1), .int .u8 (w 2), .int .u8 (w 3)], .int .u16 q] = some (.ret (.tup [.bool (ownsB [.int .u8 (z 0), .int .u8 (z 1), .int .u8 (z 2), .int .u8 (z 3)] [.int .u8 (w 0), .int .u8 (w 1), .int .u8 (w 2), .int .u8 (w 3)] m a b p q), .int .i64 (ownsE [.int .u8 (z 0), .int .u8 (z 1), .int .u8 (z 2), .int .u8 (z 3)] m a b p)]), []) := by
  show S27 _ [] encK = _
  have e0 := R50_is (n := m) hz hw
  have hs2 : psetB a b q = true := by
    obtain ⟨s1, s2, s3, s4, _⟩ := psetB_iff.1 hs
    exact psetB_iff.2 ⟨s1, s2, s3, s4, hq.1, hq.2⟩
  have e1 := R52_is hs hs2
  have iE : inK .i64 (ofE a b p) = true := by unfold ofE; cases right a b p <;> rfl
  have s0 : ∀ (t : Bool) (c : Int), inK .i64 c = true → shOK (.tup [.bool, .int .i64]) (some (.ret (.tup [.bool t, .int .i64 c]), [])) = true := by
    intro t c hc
    simp only [shOK_ret, has_tup, hasL_cons, hasL_nil, has_bool, has_int, hc, List.getD_cons_zero, List.getD_cons_succ, List.length_cons, List.length_nil, beq_self_eq_true, Bool.and_self]
  rw [N27 z x u w m n a b p q e0.symm e1.symm]
  refine (aIf_pos (s0 _ _ (chkE_in _ _ _))).trans ?_
  unfold ownsB ownsE
  rcases chkE_or 32 [.int .u8 (z 0), .int .u8 (z 1), .int .u8 (z 2), .int .u8 (z 3)] m with ⟨hc, _⟩ | hc
  · rw [hc]
    refine (aIf_neg rfl).trans ((aIf_pos (s0 _ _ iE)).trans ?_)
    simp only [bne_self_eq_false, cond_false]
    have hor : ofE a b p = 0 ∨ ofE a b p = 90 := by unfold ofE; cases right a b p <;> first | exact .inl rfl | exact .inr rfl
    rcases hor with hE | hE
    · rw [hE]
      refine (aIf_neg rfl).trans ?_
      cases inB 32 [.int .u8 (z 0), .int .u8 (z 1), .int .u8 (z 2), .int .u8 (z 3)] [.int .u8 (w 0), .int .u8 (w 1), .int .u8 (w 2), .int .u8 (w 3)] m <;> cases b == 0 <;> rfl
    · rw [hE]; rfl
  · rw [hc]; rfl

/-- ferryman/mapping.Of -/
noncomputable def T23 : List (FuncId × FSpec) := [(17, V17), (33, S33), (37, V37), (45, V45), (49, V49)]
theorem T23_ok : TabOK Tryd.prog T23 := TabOK.cons En17 V17_ok (TabOK.cons En33 S33_ok (TabOK.cons En37 V37_ok (TabOK.cons En45 V45_ok (TabOK.cons En49 V49_ok (TabOK.nil _)))))
noncomputable def C23 : Ctx := (ctx E T23 [] [(0, [2, 3, 4]), (1, [2, 3, 4, 8]), (2, [2, 3, 4, 8, 21]), (3, [6, 7]), (4, [2, 3, 4, 9]), (5, [2, 3, 4, 31]), (6, [6, 7]), (7, [2, 3, 4, 12]), (8, [2, 3, 12, 13]), (9, [2, 3, 12, 13, 50]), (10, [6, 7]), (11, [12, 13, 15, 16]), (12, [12, 13, 15, 62]), (13, [6, 7]), (14, [6, 7])] [1000037] 69 70)
theorem C23_ok : CtxOK Tryd.prog C23 := ctx_ok E_ok E_flds mixed T23_ok
noncomputable def S23 : FSpec := inlineK C23 Tryd.f23
theorem S23_ok : SpecOK Tryd.prog 23 S23 := inlineK_ok C23_ok Tryd.func23 (fun _ _ => LoopsOK.none _)
theorem En23 : Enters Tryd.prog 23 := ⟨_, Tryd.func23, by decide, rfl⟩
noncomputable def R23 (args : List AV) : Res := S23 args [] encK
noncomputable def V23 : FSpec := leafK (.tup [.int .u64, .int .i64]) R23
theorem V23_ok : SpecOK Tryd.prog 23 V23 := leafK_ok S23_ok (fun _ => rfl)
theorem N23 (x z : Nat → Int) (n m e o : Int) (f : Bool) (w : Nat → Int) (p : Int)
    {r0 : _} (h0 : r0 = R17 [AV.agg [AV.int IntKind.u8 (x 0), AV.int IntKind.u8 (x 1), AV.int IntKind.u8 (x 2), AV.int IntKind.u8 (x 3), AV.int IntKind.u8 (x 4), AV.int IntKind.u8 (x 5), AV.int IntKind.u8 (x 6), AV.int IntKind.u8 (x 7), AV.int IntKind.u8 (x 8), AV.int IntKind.u8 (x 9), AV.int IntKind.u8 (x 10), AV.int IntKind.u8 (x 11), AV.int IntKind.u8 (x 12), AV.int IntKind.u8 (x 13), AV.int IntKind.u8 (x 14), AV.int IntKind.u8 (x 15), AV.int IntKind.i64 n, AV.int IntKind.u8 (z 0), AV.int IntKind.u8 (z 1), AV.int IntKind.u8 (z 2), AV.int IntKind.u8 (z 3), AV.int IntKind.i64 m, AV.int IntKind.i64 e, AV.int IntKind.i64 o, AV.bool f]])
    {r1 : _} (h1 : r1 = R45 [AV.agg [AV.int IntKind.u8 (z 0), AV.int IntKind.u8 (z 1), AV.int IntKind.u8 (z 2), AV.int IntKind.u8 (z 3), AV.int IntKind.i64 m], AV.agg [AV.int IntKind.u8 (w 0), AV.int IntKind.u8 (w 1), AV.int IntKind.u8 (w 2), AV.int IntKind.u8 (w 3)]])
    {r4 : _} (h4 : r4 = R37 [AV.fs 1 [AV.int IntKind.u8 (w 0), AV.int IntKind.u8 (w 1), AV.int IntKind.u8 (w 2), AV.int IntKind.u8 (w 3)] SF.any, AV.int IntKind.i64 m, AV.int IntKind.i64 (IntKind.i64.wrap (e - if IntKind.i64.wrap (e - IntKind.i64.wrap (32 - m)) > 0 then IntKind.i64.wrap (e - IntKind.i64.wrap (32 - m)) else 0))])
    {r5 : _} (h5 : r5 = R49 [AV.int IntKind.i64 o, AV.int IntKind.i64 (if IntKind.i64.wrap (e - IntKind.i64.wrap (32 - m)) > 0 then IntKind.i64.wrap (e - IntKind.i64.wrap (32 - m)) else 0), AV.int IntKind.u16 p]) :
  S23 [.agg [.int .u8 (x 0), .int .u8 (x 1), .int .u8 (x 2), .int .u8 (x 3), .int .u8 (x 4), .int .u8 (x 5), .int .u8 (x 6), .int .u8 (x 7), .int .u8 (x 8), .int .u8 (x 9), .int .u8 (x 10), .int .u8 (x 11), .int .u8 (x 12), .int .u8 (x 13), .int .u8 (x 14), .int .u8 (x 15), .int .i64 n, .int .u8 (z 0), .int .u8 (z 1), .int .u8 (z 2), .int .u8 (z 3), .int .i64 m, .int .i64 e, .int .i64 o, .bool f], .agg [.int .u8 (w 0), .int .u8 (w 1), .int .u8 (w 2), .int .u8 (w 3)], .int .u16 p] [] encK =
  aIf (shOK (Sh.int IntKind.i64) r0) (aIf ((sel r0 []).toInt != 0) (some (AEnd.ret (AV.tup [AV.int IntKind.u64 0, AV.int IntKind.i64 (sel r0 []).toInt]), [])) (aIf (shOK (Sh.tup [Sh.bool, Sh.int IntKind.i64]) r1) (aIf (!(sel r1 [0]).toBool) (some (AEnd.ret (AV.tup [AV.int IntKind.u64 0, AV.int IntKind.i64 82]), [])) (aIf (shOK (Sh.tup [Sh.int IntKind.u64, Sh.int IntKind.i64]) r4) (aIf ((if IntKind.i64.wrap (e - IntKind.i64.wrap (32 - m)) > 0 then IntKind.i64.wrap (e - IntKind.i64.wrap (32 - m)) else 0) == 0) (some (AEnd.ret (AV.tup [AV.int IntKind.u64 (sel r4 [0]).toInt, AV.int IntKind.i64 0]), [])) (aIf (shOK (Sh.tup [Sh.int IntKind.u16, Sh.bool, Sh.int IntKind.i64]) r5) (aIf (!(sel r5 [1]).toBool) (some (AEnd.ret (AV.tup [AV.int IntKind.u64 0, AV.int IntKind.i64 91]), [])) (aIf (decide ((if IntKind.i64.wrap (e - IntKind.i64.wrap (32 - m)) > 0 then IntKind.i64.wrap (e - IntKind.i64.wrap (32 - m)) else 0) < 0)) none (some (AEnd.ret (AV.tup [AV.int IntKind.u64 (IntKind.u64.wrap (↑(BitVec.ofInt 64 (IntKind.u64.wrap ((sel r4 [0]).toInt * 2 ^ min (if IntKind.i64.wrap (e - IntKind.i64.wrap (32 - m)) > 0 then IntKind.i64.wrap (e - IntKind.i64.wrap (32 - m)) else 0).toNat 64)) ||| BitVec.ofInt 64 (IntKind.u64.wrap (sel r5 [0]).toInt)).toNat : Int)), AV.int IntKind.i64 0]), [])))) none)) none)) none)) none := by subst h0 h1 h4 h5; kernel_rfl
set_option maxRecDepth 20000 in
set_option maxHeartbeats 1000000 in
theorem R23_is {x z : Nat → Int} {n m e o : Int} {f : Bool} {w : Nat → Int} {p : Int} (hx : b8 x) (hz : b8 z) (hw : b8 w) (hp : 0 ≤ p ∧ p ≤ 65535) : R23 [.agg [.int .u8 (x 0), .int .u8 (x 1), .int .u8 (x 2), .int .u8 (x 3), .int .u8 (x 4), .int .u8 (x 5), .int .u8 (x 6), .int .u8 (x 7), .int .u8 (x 8), .int .u8 (x 9), .int .u8 (x 10), .int .u8 (x 11), .int .u8 (x 12), .int .u8 (x 13), .int .u8 (x 14), .int .u8 (x 15), .int .i64 n, .int .u8 (z 0), .int .u8 (z 1), .int .u8 (z 2), .int .u8 (z 3), .int .i64 m, .int .i64 e, .int .i64 o, .bool f], .agg [.int .u8 (w 0), .int .u8 (w 1), .int .u8 (w 2), .int .u8 (w 3)], .int .u16 p] = some (.ret (.tup [.int .u64 (ofV [.int .u8 (x 0), .int .u8 (x 1), .int .u8 (x 2), .int .u8 (x 3), .int .u8 (x 4), .int .u8 (x 5), .int .u8 (x 6), .int .u8 (x 7), .int .u8 (x 8), .int .u8 (x 9), .int .u8 (x 10), .int .u8 (x 11), .int .u8 (x 12), .int .u8 (x 13), .int .u8 (x 14), .int .u8 (x 15)] [.int .u8 (z 0), .int .u8 (z 1), .int .u8 (z 2), .int .u8 (z 3)] [.int .u8 (w 0), .int .u8 (w 1), .int .u8 (w 2), .int .u8 (w 3)] n m e o p), .int .i64 (ofR [.int .u8 (x 0), .int .u8 (x 1), .int .u8 (x 2), .int .u8 (x 3), .int .u8 (x 4), .int .u8 (x 5), .int .u8 (x 6), .int .u8 (x 7), .int .u8 (x 8), .int .u8 (x 9), .int .u8 (x 10), .int .u8 (x 11), .int .u8 (x 12), .int .u8 (x 13), .int .u8 (x 14), .int .u8 (x 15)] [.int .u8 (z 0), .int .u8 (z 1), .int .u8 (z 2), .int .u8 (z 3)] [.int .u8 (w 0), .int .u8 (w 1), .int .u8 (w 2), .int .u8 (w 3)] n m e o p)]), []) := by
  show S23 _ [] encK = _
  have e0 := R17_is (n := n) (m := m) (e := e) (o := o) (f := f) hx hz
  rcases chkR_or [.int .u8 (x 0), .int .u8 (x 1), .int .u8 (x 2), .int .u8 (x 3), .int .u8 (x 4), .int .u8 (x 5), .int .u8 (x 6), .int .u8 (x 7), .int .u8 (x 8), .int .u8 (x 9), .int .u8 (x 10), .int .u8 (x 11), .int .u8 (x 12), .int .u8 (x 13), .int .u8 (x 14), .int .u8 (x 15)] [.int .u8 (z 0), .int .u8 (z 1), .int .u8 (z 2), .int .u8 (z 3)] n m e o with ⟨hc, ⟨a1, a2, a3⟩, ⟨b1, b2, b3⟩, c1, c2, c3, c4, c5⟩ | hc
  rotate_left
  · rw [N23 x z n m e o f w p e0.symm rfl rfl rfl]
    rcases hc with hc | hc <;> (unfold ofV ofR; rw [hc]; rfl)
  have w1 : IntKind.i64.wrap (32 - m) = 32 - m := i64_of (by omega) (by omega)
  have w2 : IntKind.i64.wrap (e - (32 - m)) = e - (32 - m) := i64_of (by omega) (by omega)
  have w3 : (if e - (32 - m) > 0 then e - (32 - m) else 0) = qR m e := rfl
  have w3' : (if 0 > e - (32 - m) then 0 else e - (32 - m)) = qR m e := by unfold qR; split <;> split <;> omega
  have hqd : decide (e - (32 - m) > 0) = decide (qR m e > 0) := by
    unfold qR
    by_cases hh : e - (32 - m) > 0
    · rw [if_pos hh]
    · rw [if_neg hh, decide_eq_false hh]; rfl
  have hq0 : 0 ≤ qR m e ∧ qR m e ≤ 16 ∧ qR m e ≤ e ∧ e - qR m e ≤ 32 - m := by unfold qR; split <;> omega
  have hps := psetB_q hc hp
  have wu : IntKind.u64.wrap (qR m e) = qR m e := u64_of (by omega) (by omega)
  have w4 : IntKind.i64.wrap (e - qR m e) = e - qR m e := i64_of (by omega) (by omega)
  have hI := R45_is (n := m) hz hw
  have hG : getX [.int .u8 (w 0), .int .u8 (w 1), .int .u8 (w 2), .int .u8 (w 3)] m (e - qR m e) = getN [.int .u8 (w 0), .int .u8 (w 1), .int .u8 (w 2), .int .u8 (w 3)] m.toNat (e - qR m e).toNat := by
    unfold getX
    rw [decide_eq_false (show ¬ e - qR m e > 64 by omega), show thereB ([.int .u8 (w 0), .int .u8 (w 1), .int .u8 (w 2), .int .u8 (w 3)] : List AV).length m (e - qR m e) = true from by simp only [thereB, Bool.and_eq_true, decide_eq_true_eq, List.length_cons, List.length_nil]; omega]
    rfl
  have s1 : shOK (.tup [.bool, .int .i64]) (some (.ret (.tup [.bool (inB 32 [.int .u8 (z 0), .int .u8 (z 1), .int .u8 (z 2), .int .u8 (z 3)] [.int .u8 (w 0), .int .u8 (w 1), .int .u8 (w 2), .int .u8 (w 3)] m), .int .i64 (chkE 32 [.int .u8 (z 0), .int .u8 (z 1), .int .u8 (z 2), .int .u8 (z 3)] m)]), [])) = true := by
    simp only [shOK_ret, has_tup, hasL_cons, hasL_nil, has_bool, has_int, List.getD_cons_zero, List.getD_cons_succ, List.length_cons, List.length_nil, beq_self_eq_true, Bool.and_self, chkE_in]
  have hO : R49 [.int .i64 o, .int .i64 (if IntKind.i64.wrap (e - IntKind.i64.wrap (32 - m)) > 0 then IntKind.i64.wrap (e - IntKind.i64.wrap (32 - m)) else 0), .int .u16 p] = some (.ret (.tup [.int .u16 (ofN o (qR m e) p), .bool (ofB o (qR m e) p), .int .i64 (ofE o (qR m e) 0)]), []) := by
    rw [w1, w2, w3]; exact R49_is hps.1
  have hid : 0 ≤ ofN o (qR m e) p ∧ ofN o (qR m e) p ≤ 65535 := by
    unfold ofN
    cases right o (qR m e) 0 && mine o p
    · exact ⟨by show (0 : Int) ≤ 0; omega, by show (0 : Int) ≤ 65535; omega⟩
    · have := psid_bounds hps.1 hps.2
      exact ⟨this.1, this.2.1⟩
  have s5 : shOK (.tup [.int .u16, .bool, .int .i64]) (some (.ret (.tup [.int .u16 (ofN o (qR m e) p), .bool (ofB o (qR m e) p), .int .i64 (ofE o (qR m e) 0)]), [])) = true := by
    have i1 : inK .u16 (ofN o (qR m e) p) = true := by rw [inK_u16, decide_eq_true hid.1, decide_eq_true hid.2]; rfl
    have i2 : inK .i64 (ofE o (qR m e) 0) = true := by unfold ofE; rw [hps.2]; rfl
    simp only [shOK_ret, has_tup, hasL_cons, hasL_nil, has_bool, has_int, List.getD_cons_zero, List.getD_cons_succ, List.length_cons, List.length_nil, beq_self_eq_true, Bool.and_self, i1, i2]
  have e4 : R37 [.fs 1 [.int .u8 (w 0), .int .u8 (w 1), .int .u8 (w 2), .int .u8 (w 3)] .any, .int .i64 m, .int .i64 (IntKind.i64.wrap (e - (if IntKind.i64.wrap (e - IntKind.i64.wrap (32 - m)) > 0 then IntKind.i64.wrap (e - IntKind.i64.wrap (32 - m)) else 0)))] = some (.ret (.tup [.int .u64 (getX [.int .u8 (w 0), .int .u8 (w 1), .int .u8 (w 2), .int .u8 (w 3)] m (e - qR m e)), .int .i64 0]), []) := by
    rw [w1, w2, w3, w4, R37_is (b8_4 hw) (show (4 : Nat) ≤ 1000000 by decide)]
    have : getE ([.int .u8 (w 0), .int .u8 (w 1), .int .u8 (w 2), .int .u8 (w 3)] : List AV).length m (e - qR m e) = 0 := by
      unfold getE
      rw [decide_eq_false (show ¬ e - qR m e > 64 by omega), show thereB ([.int .u8 (w 0), .int .u8 (w 1), .int .u8 (w 2), .int .u8 (w 3)] : List AV).length m (e - qR m e) = true from by simp only [thereB, Bool.and_eq_true, decide_eq_true_eq, List.length_cons, List.length_nil]; omega]
      rfl
    rw [this]
  have s4 : shOK (.tup [.int .u64, .int .i64]) (some (.ret (.tup [.int .u64 (getX [.int .u8 (w 0), .int .u8 (w 1), .int .u8 (w 2), .int .u8 (w 3)] m (e - qR m e)), .int .i64 0]), [])) = true := by
    simp only [shOK_ret, has_tup, hasL_cons, hasL_nil, has_bool, has_int, List.getD_cons_zero, List.getD_cons_succ, List.length_cons, List.length_nil, beq_self_eq_true, Bool.and_self, getX_inK]; rfl
  rw [N23 x z n m e o f w p e0.symm hI.symm e4.symm hO.symm]
  refine (aIf_pos (by rw [hc]; rfl)).trans ((aIf_neg (by rw [hc]; rfl)).trans ((aIf_pos s1).trans ?_))
  cases hi : inB 32 [.int .u8 (z 0), .int .u8 (z 1), .int .u8 (z 2), .int .u8 (z 3)] [.int .u8 (w 0), .int .u8 (w 1), .int .u8 (w 2), .int .u8 (w 3)] m
  · have hr : ofR [.int .u8 (x 0), .int .u8 (x 1), .int .u8 (x 2), .int .u8 (x 3), .int .u8 (x 4), .int .u8 (x 5), .int .u8 (x 6), .int .u8 (x 7), .int .u8 (x 8), .int .u8 (x 9), .int .u8 (x 10), .int .u8 (x 11), .int .u8 (x 12), .int .u8 (x 13), .int .u8 (x 14), .int .u8 (x 15)] [.int .u8 (z 0), .int .u8 (z 1), .int .u8 (z 2), .int .u8 (z 3)] [.int .u8 (w 0), .int .u8 (w 1), .int .u8 (w 2), .int .u8 (w 3)] n m e o p = 82 := by unfold ofR; rw [hc, hi]; rfl
    have hv : ofV [.int .u8 (x 0), .int .u8 (x 1), .int .u8 (x 2), .int .u8 (x 3), .int .u8 (x 4), .int .u8 (x 5), .int .u8 (x 6), .int .u8 (x 7), .int .u8 (x 8), .int .u8 (x 9), .int .u8 (x 10), .int .u8 (x 11), .int .u8 (x 12), .int .u8 (x 13), .int .u8 (x 14), .int .u8 (x 15)] [.int .u8 (z 0), .int .u8 (z 1), .int .u8 (z 2), .int .u8 (z 3)] [.int .u8 (w 0), .int .u8 (w 1), .int .u8 (w 2), .int .u8 (w 3)] n m e o p = 0 := by unfold ofV; rw [hr]; rfl
    rw [hr, hv]
    rfl
  refine (aIf_neg rfl).trans ?_
  refine (aIf_pos s4).trans ?_
  rw [w1, w2, w3]
  have sg : ∀ g : Int, (sel (some (AEnd.ret (AV.tup [AV.int .u64 g, AV.int .i64 0]), [])) [0]).toInt = g := fun _ => rfl
  have sn : (sel (some (AEnd.ret (AV.tup [AV.int .u16 (ofN o (qR m e) p), AV.bool (ofB o (qR m e) p), AV.int .i64 (ofE o (qR m e) 0)]), [])) [0]).toInt = ofN o (qR m e) p := rfl
  by_cases hz0 : qR m e = 0
  · have hr : ofR [.int .u8 (x 0), .int .u8 (x 1), .int .u8 (x 2), .int .u8 (x 3), .int .u8 (x 4), .int .u8 (x 5), .int .u8 (x 6), .int .u8 (x 7), .int .u8 (x 8), .int .u8 (x 9), .int .u8 (x 10), .int .u8 (x 11), .int .u8 (x 12), .int .u8 (x 13), .int .u8 (x 14), .int .u8 (x 15)] [.int .u8 (z 0), .int .u8 (z 1), .int .u8 (z 2), .int .u8 (z 3)] [.int .u8 (w 0), .int .u8 (w 1), .int .u8 (w 2), .int .u8 (w 3)] n m e o p = 0 := by unfold ofR; rw [hc, hi, show (qR m e == 0) = true from by simpa using hz0]; rfl
    have hv : ofV [.int .u8 (x 0), .int .u8 (x 1), .int .u8 (x 2), .int .u8 (x 3), .int .u8 (x 4), .int .u8 (x 5), .int .u8 (x 6), .int .u8 (x 7), .int .u8 (x 8), .int .u8 (x 9), .int .u8 (x 10), .int .u8 (x 11), .int .u8 (x 12), .int .u8 (x 13), .int .u8 (x 14), .int .u8 (x 15)] [.int .u8 (z 0), .int .u8 (z 1), .int .u8 (z 2), .int .u8 (z 3)] [.int .u8 (w 0), .int .u8 (w 1), .int .u8 (w 2), .int .u8 (w 3)] n m e o p = getX [.int .u8 (w 0), .int .u8 (w 1), .int .u8 (w 2), .int .u8 (w 3)] m (e - qR m e) := by
      unfold ofV
      rw [hr, show (qR m e == 0) = true from by simpa using hz0]
      show getX [.int .u8 (w 0), .int .u8 (w 1), .int .u8 (w 2), .int .u8 (w 3)] m (e - qR m e) * 2 ^ (qR m e).toNat + 0 = _
      rw [show (qR m e).toNat = 0 by omega, Int.pow_zero, Int.mul_one, Int.add_zero]
    refine (aIf_pos ?_).trans ?_
    · simpa using hz0
    · rw [hr, hv]; simp only [sg]
  · have hzf : (qR m e == 0) = false := beq_eq_false_iff_ne.2 hz0
    refine (aIf_neg ?_).trans ((aIf_pos s5).trans ?_)
    · exact hzf
    cases hb : ofB o (qR m e) p
    · have hr : ofR [.int .u8 (x 0), .int .u8 (x 1), .int .u8 (x 2), .int .u8 (x 3), .int .u8 (x 4), .int .u8 (x 5), .int .u8 (x 6), .int .u8 (x 7), .int .u8 (x 8), .int .u8 (x 9), .int .u8 (x 10), .int .u8 (x 11), .int .u8 (x 12), .int .u8 (x 13), .int .u8 (x 14), .int .u8 (x 15)] [.int .u8 (z 0), .int .u8 (z 1), .int .u8 (z 2), .int .u8 (z 3)] [.int .u8 (w 0), .int .u8 (w 1), .int .u8 (w 2), .int .u8 (w 3)] n m e o p = 91 := by unfold ofR; rw [hc, hi, hzf, hb]; rfl
      have hv : ofV [.int .u8 (x 0), .int .u8 (x 1), .int .u8 (x 2), .int .u8 (x 3), .int .u8 (x 4), .int .u8 (x 5), .int .u8 (x 6), .int .u8 (x 7), .int .u8 (x 8), .int .u8 (x 9), .int .u8 (x 10), .int .u8 (x 11), .int .u8 (x 12), .int .u8 (x 13), .int .u8 (x 14), .int .u8 (x 15)] [.int .u8 (z 0), .int .u8 (z 1), .int .u8 (z 2), .int .u8 (z 3)] [.int .u8 (w 0), .int .u8 (w 1), .int .u8 (w 2), .int .u8 (w 3)] n m e o p = 0 := by unfold ofV; rw [hr]; rfl
      rw [hr, hv]
      rfl
    · have hr : ofR [.int .u8 (x 0), .int .u8 (x 1), .int .u8 (x 2), .int .u8 (x 3), .int .u8 (x 4), .int .u8 (x 5), .int .u8 (x 6), .int .u8 (x 7), .int .u8 (x 8), .int .u8 (x 9), .int .u8 (x 10), .int .u8 (x 11), .int .u8 (x 12), .int .u8 (x 13), .int .u8 (x 14), .int .u8 (x 15)] [.int .u8 (z 0), .int .u8 (z 1), .int .u8 (z 2), .int .u8 (z 3)] [.int .u8 (w 0), .int .u8 (w 1), .int .u8 (w 2), .int .u8 (w 3)] n m e o p = 0 := by unfold ofR; rw [hc, hi, hzf, hb]; rfl
      have hk := ofV_ok (X := [.int .u8 (x 0), .int .u8 (x 1), .int .u8 (x 2), .int .u8 (x 3), .int .u8 (x 4), .int .u8 (x 5), .int .u8 (x 6), .int .u8 (x 7), .int .u8 (x 8), .int .u8 (x 9), .int .u8 (x 10), .int .u8 (x 11), .int .u8 (x 12), .int .u8 (x 13), .int .u8 (x 14), .int .u8 (x 15)]) (Z := [.int .u8 (z 0), .int .u8 (z 1), .int .u8 (z 2), .int .u8 (z 3)]) (W := [.int .u8 (w 0), .int .u8 (w 1), .int .u8 (w 2), .int .u8 (w 3)]) rfl hp hr
      have hv : ofV [.int .u8 (x 0), .int .u8 (x 1), .int .u8 (x 2), .int .u8 (x 3), .int .u8 (x 4), .int .u8 (x 5), .int .u8 (x 6), .int .u8 (x 7), .int .u8 (x 8), .int .u8 (x 9), .int .u8 (x 10), .int .u8 (x 11), .int .u8 (x 12), .int .u8 (x 13), .int .u8 (x 14), .int .u8 (x 15)] [.int .u8 (z 0), .int .u8 (z 1), .int .u8 (z 2), .int .u8 (z 3)] [.int .u8 (w 0), .int .u8 (w 1), .int .u8 (w 2), .int .u8 (w 3)] n m e o p = getX [.int .u8 (w 0), .int .u8 (w 1), .int .u8 (w 2), .int .u8 (w 3)] m (e - qR m e) * 2 ^ (qR m e).toNat + ofN o (qR m e) p := by
        unfold ofV
        rw [hr, hzf]; rfl
      have hlt : ofN o (qR m e) p < 2 ^ (qR m e).toNat := by
        unfold ofN
        unfold ofB at hb
        rw [hb]
        exact (psid_bounds hps.1 hps.2).2.2
      have h64 := hk.2.2.1
      obtain ⟨_, _, _, _, _, _, _, _, _, _, h64, _⟩ := h64
      refine (aIf_neg rfl).trans ((aIf_neg ?_).trans ?_)
      · exact decide_eq_false (by omega)
      · rw [hr, hv, show min (qR m e).toNat 64 = (qR m e).toNat by omega]
        try simp only [sg]
        have hor := or_shift (g := getX [.int .u8 (w 0), .int .u8 (w 1), .int .u8 (w 2), .int .u8 (w 3)] m (e - qR m e)) (b := ofN o (qR m e) p) (q := (qR m e).toNat) (getX_range _ _ _).1 hid.1 hlt (by rw [← hv]; exact h64)
        exact congrArg (fun c => some (AEnd.ret (AV.tup [AV.int .u64 c, AV.int .i64 0]), [])) hor

/-- ferryman/mapping.Map -/
noncomputable def T25 : List (FuncId × FSpec) := [(10, V10), (23, V23)]
theorem T25_ok : TabOK Tryd.prog T25 := TabOK.cons En10 V10_ok (TabOK.cons En23 V23_ok (TabOK.nil _))
noncomputable def C25 : Ctx := (ctx E T25 [] [(0, [2, 3, 4, 6]), (1, [3, 6, 8, 9]), (2, [3, 6, 8, 9, 20]), (3, [6, 7]), (4, [6, 10]), (5, [6, 7])] [] 31 70)
theorem C25_ok : CtxOK Tryd.prog C25 := ctx_ok E_ok E_flds mixed T25_ok
noncomputable def S25 : FSpec := inlineK C25 Tryd.f25
theorem S25_ok : SpecOK Tryd.prog 25 S25 := inlineK_ok C25_ok Tryd.func25 (fun _ _ => LoopsOK.none _)
theorem En25 : Enters Tryd.prog 25 := ⟨_, Tryd.func25, by decide, rfl⟩
noncomputable def R25 (args : List AV) : Res := S25 args [] encK
noncomputable def V25 : FSpec := leafK (.tup [.agg [.int .u8, .int .u8, .int .u8, .int .u8, .int .u8, .int .u8, .int .u8, .int .u8, .int .u8, .int .u8, .int .u8, .int .u8, .int .u8, .int .u8, .int .u8, .int .u8], .int .i64]) R25
theorem V25_ok : SpecOK Tryd.prog 25 V25 := leafK_ok S25_ok (fun _ => rfl)
theorem N25 (x z : Nat → Int) (n m e o : Int) (f : Bool) (w : Nat → Int) (p : Int)
    {r0 : _} (h0 : r0 = R23 [AV.agg [AV.int IntKind.u8 (x 0), AV.int IntKind.u8 (x 1), AV.int IntKind.u8 (x 2), AV.int IntKind.u8 (x 3), AV.int IntKind.u8 (x 4), AV.int IntKind.u8 (x 5), AV.int IntKind.u8 (x 6), AV.int IntKind.u8 (x 7), AV.int IntKind.u8 (x 8), AV.int IntKind.u8 (x 9), AV.int IntKind.u8 (x 10), AV.int IntKind.u8 (x 11), AV.int IntKind.u8 (x 12), AV.int IntKind.u8 (x 13), AV.int IntKind.u8 (x 14), AV.int IntKind.u8 (x 15), AV.int IntKind.i64 n, AV.int IntKind.u8 (z 0), AV.int IntKind.u8 (z 1), AV.int IntKind.u8 (z 2), AV.int IntKind.u8 (z 3), AV.int IntKind.i64 m, AV.int IntKind.i64 e, AV.int IntKind.i64 o, AV.bool f], AV.agg [AV.int IntKind.u8 (w 0), AV.int IntKind.u8 (w 1), AV.int IntKind.u8 (w 2), AV.int IntKind.u8 (w 3)], AV.int IntKind.u16 p])
    {r1 : _} (h1 : r1 = R10 [AV.agg [AV.int IntKind.u8 (x 0), AV.int IntKind.u8 (x 1), AV.int IntKind.u8 (x 2), AV.int IntKind.u8 (x 3), AV.int IntKind.u8 (x 4), AV.int IntKind.u8 (x 5), AV.int IntKind.u8 (x 6), AV.int IntKind.u8 (x 7), AV.int IntKind.u8 (x 8), AV.int IntKind.u8 (x 9), AV.int IntKind.u8 (x 10), AV.int IntKind.u8 (x 11), AV.int IntKind.u8 (x 12), AV.int IntKind.u8 (x 13), AV.int IntKind.u8 (x 14), AV.int IntKind.u8 (x 15), AV.int IntKind.i64 n, AV.int IntKind.u8 (z 0), AV.int IntKind.u8 (z 1), AV.int IntKind.u8 (z 2), AV.int IntKind.u8 (z 3), AV.int IntKind.i64 m, AV.int IntKind.i64 e, AV.int IntKind.i64 o, AV.bool f], AV.int IntKind.u64 (sel r0 [0]).toInt]) :
  S25 [.agg [.int .u8 (x 0), .int .u8 (x 1), .int .u8 (x 2), .int .u8 (x 3), .int .u8 (x 4), .int .u8 (x 5), .int .u8 (x 6), .int .u8 (x 7), .int .u8 (x 8), .int .u8 (x 9), .int .u8 (x 10), .int .u8 (x 11), .int .u8 (x 12), .int .u8 (x 13), .int .u8 (x 14), .int .u8 (x 15), .int .i64 n, .int .u8 (z 0), .int .u8 (z 1), .int .u8 (z 2), .int .u8 (z 3), .int .i64 m, .int .i64 e, .int .i64 o, .bool f], .agg [.int .u8 (w 0), .int .u8 (w 1), .int .u8 (w 2), .int .u8 (w 3)], .int .u16 p] [] encK =
  aIf (shOK (Sh.tup [Sh.int IntKind.u64, Sh.int IntKind.i64]) r0) (aIf ((sel r0 [1]).toInt != 0) (some (AEnd.ret (AV.tup [AV.agg [AV.int IntKind.u8 0, AV.int IntKind.u8 0, AV.int IntKind.u8 0, AV.int IntKind.u8 0, AV.int IntKind.u8 0, AV.int IntKind.u8 0, AV.int IntKind.u8 0, AV.int IntKind.u8 0, AV.int IntKind.u8 0, AV.int IntKind.u8 0, AV.int IntKind.u8 0, AV.int IntKind.u8 0, AV.int IntKind.u8 0, AV.int IntKind.u8 0, AV.int IntKind.u8 0, AV.int IntKind.u8 0], AV.int IntKind.i64 (sel r0 [1]).toInt]), [])) (aIf (shOK (Sh.tup [Sh.agg [Sh.int IntKind.u8, Sh.int IntKind.u8, Sh.int IntKind.u8, Sh.int IntKind.u8, Sh.int IntKind.i64, Sh.int IntKind.i64, Sh.int IntKind.i64, Sh.int IntKind.u16, Sh.int IntKind.u8, Sh.int IntKind.u8, Sh.int IntKind.u8, Sh.int IntKind.u8, Sh.int IntKind.u8, Sh.int IntKind.u8, Sh.int IntKind.u8, Sh.int IntKind.u8, Sh.int IntKind.u8, Sh.int IntKind.u8, Sh.int IntKind.u8, Sh.int IntKind.u8, Sh.int IntKind.u8, Sh.int IntKind.u8, Sh.int IntKind.u8, Sh.int IntKind.u8, Sh.int IntKind.i64, Sh.int IntKind.u8, Sh.int IntKind.u8, Sh.int IntKind.u8, Sh.int IntKind.u8, Sh.int IntKind.u8, Sh.int IntKind.u8, Sh.int IntKind.u8, Sh.int IntKind.u8, Sh.int IntKind.u8, Sh.int IntKind.u8, Sh.int IntKind.u8, Sh.int IntKind.u8, Sh.int IntKind.u8, Sh.int IntKind.u8, Sh.int IntKind.u8, Sh.int IntKind.u8], Sh.int IntKind.i64]) r1) (some (AEnd.ret (AV.tup [AV.agg [AV.int IntKind.u8 (sel r1 [0, 25]).toInt, AV.int IntKind.u8 (sel r1 [0, 26]).toInt, AV.int IntKind.u8 (sel r1 [0, 27]).toInt, AV.int IntKind.u8 (sel r1 [0, 28]).toInt, AV.int IntKind.u8 (sel r1 [0, 29]).toInt, AV.int IntKind.u8 (sel r1 [0, 30]).toInt, AV.int IntKind.u8 (sel r1 [0, 31]).toInt, AV.int IntKind.u8 (sel r1 [0, 32]).toInt, AV.int IntKind.u8 (sel r1 [0, 33]).toInt, AV.int IntKind.u8 (sel r1 [0, 34]).toInt, AV.int IntKind.u8 (sel r1 [0, 35]).toInt, AV.int IntKind.u8 (sel r1 [0, 36]).toInt, AV.int IntKind.u8 (sel r1 [0, 37]).toInt, AV.int IntKind.u8 (sel r1 [0, 38]).toInt, AV.int IntKind.u8 (sel r1 [0, 39]).toInt, AV.int IntKind.u8 (sel r1 [0, 40]).toInt], AV.int IntKind.i64 0]), [])) none)) none := by subst h0 h1; kernel_rfl
set_option maxRecDepth 20000 in
set_option maxHeartbeats 1000000 in
theorem R25_is {x z : Nat → Int} {n m e o : Int} {f : Bool} {w : Nat → Int} {p : Int} (hx : b8 x) (hz : b8 z) (hw : b8 w) (ho : inK .i64 o = true) (hp : 0 ≤ p ∧ p ≤ 65535) : R25 [.agg [.int .u8 (x 0), .int .u8 (x 1), .int .u8 (x 2), .int .u8 (x 3), .int .u8 (x 4), .int .u8 (x 5), .int .u8 (x 6), .int .u8 (x 7), .int .u8 (x 8), .int .u8 (x 9), .int .u8 (x 10), .int .u8 (x 11), .int .u8 (x 12), .int .u8 (x 13), .int .u8 (x 14), .int .u8 (x 15), .int .i64 n, .int .u8 (z 0), .int .u8 (z 1), .int .u8 (z 2), .int .u8 (z 3), .int .i64 m, .int .i64 e, .int .i64 o, .bool f], .agg [.int .u8 (w 0), .int .u8 (w 1), .int .u8 (w 2), .int .u8 (w 3)], .int .u16 p] = some (.ret (.tup [.agg [.int .u8 (byteAt (mapW [.int .u8 (x 0), .int .u8 (x 1), .int .u8 (x 2), .int .u8 (x 3), .int .u8 (x 4), .int .u8 (x 5), .int .u8 (x 6), .int .u8 (x 7), .int .u8 (x 8), .int .u8 (x 9), .int .u8 (x 10), .int .u8 (x 11), .int .u8 (x 12), .int .u8 (x 13), .int .u8 (x 14), .int .u8 (x 15)] [.int .u8 (z 0), .int .u8 (z 1), .int .u8 (z 2), .int .u8 (z 3)] [.int .u8 (w 0), .int .u8 (w 1), .int .u8 (w 2), .int .u8 (w 3)] n m e o p) 0), .int .u8 (byteAt (mapW [.int .u8 (x 0), .int .u8 (x 1), .int .u8 (x 2), .int .u8 (x 3), .int .u8 (x 4), .int .u8 (x 5), .int .u8 (x 6), .int .u8 (x 7), .int .u8 (x 8), .int .u8 (x 9), .int .u8 (x 10), .int .u8 (x 11), .int .u8 (x 12), .int .u8 (x 13), .int .u8 (x 14), .int .u8 (x 15)] [.int .u8 (z 0), .int .u8 (z 1), .int .u8 (z 2), .int .u8 (z 3)] [.int .u8 (w 0), .int .u8 (w 1), .int .u8 (w 2), .int .u8 (w 3)] n m e o p) 1), .int .u8 (byteAt (mapW [.int .u8 (x 0), .int .u8 (x 1), .int .u8 (x 2), .int .u8 (x 3), .int .u8 (x 4), .int .u8 (x 5), .int .u8 (x 6), .int .u8 (x 7), .int .u8 (x 8), .int .u8 (x 9), .int .u8 (x 10), .int .u8 (x 11), .int .u8 (x 12), .int .u8 (x 13), .int .u8 (x 14), .int .u8 (x 15)] [.int .u8 (z 0), .int .u8 (z 1), .int .u8 (z 2), .int .u8 (z 3)] [.int .u8 (w 0), .int .u8 (w 1), .int .u8 (w 2), .int .u8 (w 3)] n m e o p) 2), .int .u8 (byteAt (mapW [.int .u8 (x 0), .int .u8 (x 1), .int .u8 (x 2), .int .u8 (x 3), .int .u8 (x 4), .int .u8 (x 5), .int .u8 (x 6), .int .u8 (x 7), .int .u8 (x 8), .int .u8 (x 9), .int .u8 (x 10), .int .u8 (x 11), .int .u8 (x 12), .int .u8 (x 13), .int .u8 (x 14), .int .u8 (x 15)] [.int .u8 (z 0), .int .u8 (z 1), .int .u8 (z 2), .int .u8 (z 3)] [.int .u8 (w 0), .int .u8 (w 1), .int .u8 (w 2), .int .u8 (w 3)] n m e o p) 3), .int .u8 (byteAt (mapW [.int .u8 (x 0), .int .u8 (x 1), .int .u8 (x 2), .int .u8 (x 3), .int .u8 (x 4), .int .u8 (x 5), .int .u8 (x 6), .int .u8 (x 7), .int .u8 (x 8), .int .u8 (x 9), .int .u8 (x 10), .int .u8 (x 11), .int .u8 (x 12), .int .u8 (x 13), .int .u8 (x 14), .int .u8 (x 15)] [.int .u8 (z 0), .int .u8 (z 1), .int .u8 (z 2), .int .u8 (z 3)] [.int .u8 (w 0), .int .u8 (w 1), .int .u8 (w 2), .int .u8 (w 3)] n m e o p) 4), .int .u8 (byteAt (mapW [.int .u8 (x 0), .int .u8 (x 1), .int .u8 (x 2), .int .u8 (x 3), .int .u8 (x 4), .int .u8 (x 5), .int .u8 (x 6), .int .u8 (x 7), .int .u8 (x 8), .int .u8 (x 9), .int .u8 (x 10), .int .u8 (x 11), .int .u8 (x 12), .int .u8 (x 13), .int .u8 (x 14), .int .u8 (x 15)] [.int .u8 (z 0), .int .u8 (z 1), .int .u8 (z 2), .int .u8 (z 3)] [.int .u8 (w 0), .int .u8 (w 1), .int .u8 (w 2), .int .u8 (w 3)] n m e o p) 5), .int .u8 (byteAt (mapW [.int .u8 (x 0), .int .u8 (x 1), .int .u8 (x 2), .int .u8 (x 3), .int .u8 (x 4), .int .u8 (x 5), .int .u8 (x 6), .int .u8 (x 7), .int .u8 (x 8), .int .u8 (x 9), .int .u8 (x 10), .int .u8 (x 11), .int .u8 (x 12), .int .u8 (x 13), .int .u8 (x 14), .int .u8 (x 15)] [.int .u8 (z 0), .int .u8 (z 1), .int .u8 (z 2), .int .u8 (z 3)] [.int .u8 (w 0), .int .u8 (w 1), .int .u8 (w 2), .int .u8 (w 3)] n m e o p) 6), .int .u8 (byteAt (mapW [.int .u8 (x 0), .int .u8 (x 1), .int .u8 (x 2), .int .u8 (x 3), .int .u8 (x 4), .int .u8 (x 5), .int .u8 (x 6), .int .u8 (x 7), .int .u8 (x 8), .int .u8 (x 9), .int .u8 (x 10), .int .u8 (x 11), .int .u8 (x 12), .int .u8 (x 13), .int .u8 (x 14), .int .u8 (x 15)] [.int .u8 (z 0), .int .u8 (z 1), .int .u8 (z 2), .int .u8 (z 3)] [.int .u8 (w 0), .int .u8 (w 1), .int .u8 (w 2), .int .u8 (w 3)] n m e o p) 7), .int .u8 (byteAt (mapW [.int .u8 (x 0), .int .u8 (x 1), .int .u8 (x 2), .int .u8 (x 3), .int .u8 (x 4), .int .u8 (x 5), .int .u8 (x 6), .int .u8 (x 7), .int .u8 (x 8), .int .u8 (x 9), .int .u8 (x 10), .int .u8 (x 11), .int .u8 (x 12), .int .u8 (x 13), .int .u8 (x 14), .int .u8 (x 15)] [.int .u8 (z 0), .int .u8 (z 1), .int .u8 (z 2), .int .u8 (z 3)] [.int .u8 (w 0), .int .u8 (w 1), .int .u8 (w 2), .int .u8 (w 3)] n m e o p) 8), .int .u8 (byteAt (mapW [.int .u8 (x 0), .int .u8 (x 1), .int .u8 (x 2), .int .u8 (x 3), .int .u8 (x 4), .int .u8 (x 5), .int .u8 (x 6), .int .u8 (x 7), .int .u8 (x 8), .int .u8 (x 9), .int .u8 (x 10), .int .u8 (x 11), .int .u8 (x 12), .int .u8 (x 13), .int .u8 (x 14), .int .u8 (x 15)] [.int .u8 (z 0), .int .u8 (z 1), .int .u8 (z 2), .int .u8 (z 3)] [.int .u8 (w 0), .int .u8 (w 1), .int .u8 (w 2), .int .u8 (w 3)] n m e o p) 9), .int .u8 (byteAt (mapW [.int .u8 (x 0), .int .u8 (x 1), .int .u8 (x 2), .int .u8 (x 3), .int .u8 (x 4), .int .u8 (x 5), .int .u8 (x 6), .int .u8 (x 7), .int .u8 (x 8), .int .u8 (x 9), .int .u8 (x 10), .int .u8 (x 11), .int .u8 (x 12), .int .u8 (x 13), .int .u8 (x 14), .int .u8 (x 15)] [.int .u8 (z 0), .int .u8 (z 1), .int .u8 (z 2), .int .u8 (z 3)] [.int .u8 (w 0), .int .u8 (w 1), .int .u8 (w 2), .int .u8 (w 3)] n m e o p) 10), .int .u8 (byteAt (mapW [.int .u8 (x 0), .int .u8 (x 1), .int .u8 (x 2), .int .u8 (x 3), .int .u8 (x 4), .int .u8 (x 5), .int .u8 (x 6), .int .u8 (x 7), .int .u8 (x 8), .int .u8 (x 9), .int .u8 (x 10), .int .u8 (x 11), .int .u8 (x 12), .int .u8 (x 13), .int .u8 (x 14), .int .u8 (x 15)] [.int .u8 (z 0), .int .u8 (z 1), .int .u8 (z 2), .int .u8 (z 3)] [.int .u8 (w 0), .int .u8 (w 1), .int .u8 (w 2), .int .u8 (w 3)] n m e o p) 11), .int .u8 (byteAt (mapW [.int .u8 (x 0), .int .u8 (x 1), .int .u8 (x 2), .int .u8 (x 3), .int .u8 (x 4), .int .u8 (x 5), .int .u8 (x 6), .int .u8 (x 7), .int .u8 (x 8), .int .u8 (x 9), .int .u8 (x 10), .int .u8 (x 11), .int .u8 (x 12), .int .u8 (x 13), .int .u8 (x 14), .int .u8 (x 15)] [.int .u8 (z 0), .int .u8 (z 1), .int .u8 (z 2), .int .u8 (z 3)] [.int .u8 (w 0), .int .u8 (w 1), .int .u8 (w 2), .int .u8 (w 3)] n m e o p) 12), .int .u8 (byteAt (mapW [.int .u8 (x 0), .int .u8 (x 1), .int .u8 (x 2), .int .u8 (x 3), .int .u8 (x 4), .int .u8 (x 5), .int .u8 (x 6), .int .u8 (x 7), .int .u8 (x 8), .int .u8 (x 9), .int .u8 (x 10), .int .u8 (x 11), .int .u8 (x 12), .int .u8 (x 13), .int .u8 (x 14), .int .u8 (x 15)] [.int .u8 (z 0), .int .u8 (z 1), .int .u8 (z 2), .int .u8 (z 3)] [.int .u8 (w 0), .int .u8 (w 1), .int .u8 (w 2), .int .u8 (w 3)] n m e o p) 13), .int .u8 (byteAt (mapW [.int .u8 (x 0), .int .u8 (x 1), .int .u8 (x 2), .int .u8 (x 3), .int .u8 (x 4), .int .u8 (x 5), .int .u8 (x 6), .int .u8 (x 7), .int .u8 (x 8), .int .u8 (x 9), .int .u8 (x 10), .int .u8 (x 11), .int .u8 (x 12), .int .u8 (x 13), .int .u8 (x 14), .int .u8 (x 15)] [.int .u8 (z 0), .int .u8 (z 1), .int .u8 (z 2), .int .u8 (z 3)] [.int .u8 (w 0), .int .u8 (w 1), .int .u8 (w 2), .int .u8 (w 3)] n m e o p) 14), .int .u8 (byteAt (mapW [.int .u8 (x 0), .int .u8 (x 1), .int .u8 (x 2), .int .u8 (x 3), .int .u8 (x 4), .int .u8 (x 5), .int .u8 (x 6), .int .u8 (x 7), .int .u8 (x 8), .int .u8 (x 9), .int .u8 (x 10), .int .u8 (x 11), .int .u8 (x 12), .int .u8 (x 13), .int .u8 (x 14), .int .u8 (x 15)] [.int .u8 (z 0), .int .u8 (z 1), .int .u8 (z 2), .int .u8 (z 3)] [.int .u8 (w 0), .int .u8 (w 1), .int .u8 (w 2), .int .u8 (w 3)] n m e o p) 15)], .int .i64 (ofR [.int .u8 (x 0), .int .u8 (x 1), .int .u8 (x 2), .int .u8 (x 3), .int .u8 (x 4), .int .u8 (x 5), .int .u8 (x 6), .int .u8 (x 7), .int .u8 (x 8), .int .u8 (x 9), .int .u8 (x 10), .int .u8 (x 11), .int .u8 (x 12), .int .u8 (x 13), .int .u8 (x 14), .int .u8 (x 15)] [.int .u8 (z 0), .int .u8 (z 1), .int .u8 (z 2), .int .u8 (z 3)] [.int .u8 (w 0), .int .u8 (w 1), .int .u8 (w 2), .int .u8 (w 3)] n m e o p)]), []) := by
  show S25 _ [] encK = _
  have e0 := R23_is (n := n) (m := m) (e := e) (o := o) (f := f) hx hz hw hp
  have s0 : shOK (.tup [.int .u64, .int .i64]) (some (.ret (.tup [.int .u64 (ofV [.int .u8 (x 0), .int .u8 (x 1), .int .u8 (x 2), .int .u8 (x 3), .int .u8 (x 4), .int .u8 (x 5), .int .u8 (x 6), .int .u8 (x 7), .int .u8 (x 8), .int .u8 (x 9), .int .u8 (x 10), .int .u8 (x 11), .int .u8 (x 12), .int .u8 (x 13), .int .u8 (x 14), .int .u8 (x 15)] [.int .u8 (z 0), .int .u8 (z 1), .int .u8 (z 2), .int .u8 (z 3)] [.int .u8 (w 0), .int .u8 (w 1), .int .u8 (w 2), .int .u8 (w 3)] n m e o p), .int .i64 (ofR [.int .u8 (x 0), .int .u8 (x 1), .int .u8 (x 2), .int .u8 (x 3), .int .u8 (x 4), .int .u8 (x 5), .int .u8 (x 6), .int .u8 (x 7), .int .u8 (x 8), .int .u8 (x 9), .int .u8 (x 10), .int .u8 (x 11), .int .u8 (x 12), .int .u8 (x 13), .int .u8 (x 14), .int .u8 (x 15)] [.int .u8 (z 0), .int .u8 (z 1), .int .u8 (z 2), .int .u8 (z 3)] [.int .u8 (w 0), .int .u8 (w 1), .int .u8 (w 2), .int .u8 (w 3)] n m e o p)]), [])) = true := by
    have h1 : inK .u64 (ofV [.int .u8 (x 0), .int .u8 (x 1), .int .u8 (x 2), .int .u8 (x 3), .int .u8 (x 4), .int .u8 (x 5), .int .u8 (x 6), .int .u8 (x 7), .int .u8 (x 8), .int .u8 (x 9), .int .u8 (x 10), .int .u8 (x 11), .int .u8 (x 12), .int .u8 (x 13), .int .u8 (x 14), .int .u8 (x 15)] [.int .u8 (z 0), .int .u8 (z 1), .int .u8 (z 2), .int .u8 (z 3)] [.int .u8 (w 0), .int .u8 (w 1), .int .u8 (w 2), .int .u8 (w 3)] n m e o p) = true := ofV_in rfl hp
    simp only [shOK_ret, has_tup, hasL_cons, hasL_nil, has_int, h1, ofR_in, List.getD_cons_zero, List.getD_cons_succ, List.length_cons, List.length_nil, beq_self_eq_true, Bool.and_self]
  by_cases hr : ofR [.int .u8 (x 0), .int .u8 (x 1), .int .u8 (x 2), .int .u8 (x 3), .int .u8 (x 4), .int .u8 (x 5), .int .u8 (x 6), .int .u8 (x 7), .int .u8 (x 8), .int .u8 (x 9), .int .u8 (x 10), .int .u8 (x 11), .int .u8 (x 12), .int .u8 (x 13), .int .u8 (x 14), .int .u8 (x 15)] [.int .u8 (z 0), .int .u8 (z 1), .int .u8 (z 2), .int .u8 (z 3)] [.int .u8 (w 0), .int .u8 (w 1), .int .u8 (w 2), .int .u8 (w 3)] n m e o p = 0
  · have hk := ofV_ok (X := [.int .u8 (x 0), .int .u8 (x 1), .int .u8 (x 2), .int .u8 (x 3), .int .u8 (x 4), .int .u8 (x 5), .int .u8 (x 6), .int .u8 (x 7), .int .u8 (x 8), .int .u8 (x 9), .int .u8 (x 10), .int .u8 (x 11), .int .u8 (x 12), .int .u8 (x 13), .int .u8 (x 14), .int .u8 (x 15)]) (Z := [.int .u8 (z 0), .int .u8 (z 1), .int .u8 (z 2), .int .u8 (z 3)]) (W := [.int .u8 (w 0), .int .u8 (w 1), .int .u8 (w 2), .int .u8 (w 3)]) rfl hp hr
    have hk2 := hk.2.2.1
    obtain ⟨_, _, _, _, _, _, _, _, _, h0, h64, _⟩ := hk2
    have hm : (mapW [.int .u8 (x 0), .int .u8 (x 1), .int .u8 (x 2), .int .u8 (x 3), .int .u8 (x 4), .int .u8 (x 5), .int .u8 (x 6), .int .u8 (x 7), .int .u8 (x 8), .int .u8 (x 9), .int .u8 (x 10), .int .u8 (x 11), .int .u8 (x 12), .int .u8 (x 13), .int .u8 (x 14), .int .u8 (x 15)] [.int .u8 (z 0), .int .u8 (z 1), .int .u8 (z 2), .int .u8 (z 3)] [.int .u8 (w 0), .int .u8 (w 1), .int .u8 (w 2), .int .u8 (w 3)] n m e o p) = ownB [.int .u8 (x 0), .int .u8 (x 1), .int .u8 (x 2), .int .u8 (x 3), .int .u8 (x 4), .int .u8 (x 5), .int .u8 (x 6), .int .u8 (x 7), .int .u8 (x 8), .int .u8 (x 9), .int .u8 (x 10), .int .u8 (x 11), .int .u8 (x 12), .int .u8 (x 13), .int .u8 (x 14), .int .u8 (x 15)] [.int .u8 (z 0), .int .u8 (z 1), .int .u8 (z 2), .int .u8 (z 3)] n m e (ofV [.int .u8 (x 0), .int .u8 (x 1), .int .u8 (x 2), .int .u8 (x 3), .int .u8 (x 4), .int .u8 (x 5), .int .u8 (x 6), .int .u8 (x 7), .int .u8 (x 8), .int .u8 (x 9), .int .u8 (x 10), .int .u8 (x 11), .int .u8 (x 12), .int .u8 (x 13), .int .u8 (x 14), .int .u8 (x 15)] [.int .u8 (z 0), .int .u8 (z 1), .int .u8 (z 2), .int .u8 (z 3)] [.int .u8 (w 0), .int .u8 (w 1), .int .u8 (w 2), .int .u8 (w 3)] n m e o p) := by unfold mapW; rw [hr]; simp only [beq_self_eq_true, cond_true]
    have hl := chkR_or [.int .u8 (x 0), .int .u8 (x 1), .int .u8 (x 2), .int .u8 (x 3), .int .u8 (x 4), .int .u8 (x 5), .int .u8 (x 6), .int .u8 (x 7), .int .u8 (x 8), .int .u8 (x 9), .int .u8 (x 10), .int .u8 (x 11), .int .u8 (x 12), .int .u8 (x 13), .int .u8 (x 14), .int .u8 (x 15)] [.int .u8 (z 0), .int .u8 (z 1), .int .u8 (z 2), .int .u8 (z 3)] n m e o
    rw [hm]
    have e1 := R10_is (n := n) (m := m) (e := e) (f := f) hx hz ho h0 h64
    have hW : edgW [.int .u8 (x 0), .int .u8 (x 1), .int .u8 (x 2), .int .u8 (x 3), .int .u8 (x 4), .int .u8 (x 5), .int .u8 (x 6), .int .u8 (x 7), .int .u8 (x 8), .int .u8 (x 9), .int .u8 (x 10), .int .u8 (x 11), .int .u8 (x 12), .int .u8 (x 13), .int .u8 (x 14), .int .u8 (x 15)] [.int .u8 (z 0), .int .u8 (z 1), .int .u8 (z 2), .int .u8 (z 3)] n m e o (ofV [.int .u8 (x 0), .int .u8 (x 1), .int .u8 (x 2), .int .u8 (x 3), .int .u8 (x 4), .int .u8 (x 5), .int .u8 (x 6), .int .u8 (x 7), .int .u8 (x 8), .int .u8 (x 9), .int .u8 (x 10), .int .u8 (x 11), .int .u8 (x 12), .int .u8 (x 13), .int .u8 (x 14), .int .u8 (x 15)] [.int .u8 (z 0), .int .u8 (z 1), .int .u8 (z 2), .int .u8 (z 3)] [.int .u8 (w 0), .int .u8 (w 1), .int .u8 (w 2), .int .u8 (w 3)] n m e o p) = edgV [.int .u8 (x 0), .int .u8 (x 1), .int .u8 (x 2), .int .u8 (x 3), .int .u8 (x 4), .int .u8 (x 5), .int .u8 (x 6), .int .u8 (x 7), .int .u8 (x 8), .int .u8 (x 9), .int .u8 (x 10), .int .u8 (x 11), .int .u8 (x 12), .int .u8 (x 13), .int .u8 (x 14), .int .u8 (x 15)] [.int .u8 (z 0), .int .u8 (z 1), .int .u8 (z 2), .int .u8 (z 3)] n m e o (ofV [.int .u8 (x 0), .int .u8 (x 1), .int .u8 (x 2), .int .u8 (x 3), .int .u8 (x 4), .int .u8 (x 5), .int .u8 (x 6), .int .u8 (x 7), .int .u8 (x 8), .int .u8 (x 9), .int .u8 (x 10), .int .u8 (x 11), .int .u8 (x 12), .int .u8 (x 13), .int .u8 (x 14), .int .u8 (x 15)] [.int .u8 (z 0), .int .u8 (z 1), .int .u8 (z 2), .int .u8 (z 3)] [.int .u8 (w 0), .int .u8 (w 1), .int .u8 (w 2), .int .u8 (w 3)] n m e o p) := by unfold edgW; rw [hk.2.2.2]; simp only [beq_self_eq_true, cond_true]
    rw [hW, hk.2.2.2] at e1
    have s1 : shOK (.tup [edgS, .int .i64]) (some (.ret (.tup [edgV [.int .u8 (x 0), .int .u8 (x 1), .int .u8 (x 2), .int .u8 (x 3), .int .u8 (x 4), .int .u8 (x 5), .int .u8 (x 6), .int .u8 (x 7), .int .u8 (x 8), .int .u8 (x 9), .int .u8 (x 10), .int .u8 (x 11), .int .u8 (x 12), .int .u8 (x 13), .int .u8 (x 14), .int .u8 (x 15)] [.int .u8 (z 0), .int .u8 (z 1), .int .u8 (z 2), .int .u8 (z 3)] n m e o (ofV [.int .u8 (x 0), .int .u8 (x 1), .int .u8 (x 2), .int .u8 (x 3), .int .u8 (x 4), .int .u8 (x 5), .int .u8 (x 6), .int .u8 (x 7), .int .u8 (x 8), .int .u8 (x 9), .int .u8 (x 10), .int .u8 (x 11), .int .u8 (x 12), .int .u8 (x 13), .int .u8 (x 14), .int .u8 (x 15)] [.int .u8 (z 0), .int .u8 (z 1), .int .u8 (z 2), .int .u8 (z 3)] [.int .u8 (w 0), .int .u8 (w 1), .int .u8 (w 2), .int .u8 (w 3)] n m e o p), .int .i64 0]), [])) = true := by
      rw [shOK_ret, has_tup, hasL_cons, hasL_cons, hasL_nil, List.getD_cons_zero, List.getD_cons_succ, List.getD_cons_zero, edgV_has hk.2.2.1, has_int]; rfl
    have hsel : ∀ (cs : List AV) t k, sel (some (AEnd.ret (AV.tup [AV.agg cs, t]), [])) [0, k] = cs.getD k .junk := fun _ _ _ => rfl
    have ti : ∀ k n, (AV.int k n).toInt = n := fun _ _ => rfl
    rw [N25 x z n m e o f w p e0.symm e1.symm]
    refine (aIf_pos s0).trans ((aIf_neg (by rw [hr]; rfl)).trans ((aIf_pos s1).trans ?_))
    rw [hr]
    unfold edgV
    simp only [hsel, List.getD_cons_zero, List.getD_cons_succ, ti]
  · have hm : (mapW [.int .u8 (x 0), .int .u8 (x 1), .int .u8 (x 2), .int .u8 (x 3), .int .u8 (x 4), .int .u8 (x 5), .int .u8 (x 6), .int .u8 (x 7), .int .u8 (x 8), .int .u8 (x 9), .int .u8 (x 10), .int .u8 (x 11), .int .u8 (x 12), .int .u8 (x 13), .int .u8 (x 14), .int .u8 (x 15)] [.int .u8 (z 0), .int .u8 (z 1), .int .u8 (z 2), .int .u8 (z 3)] [.int .u8 (w 0), .int .u8 (w 1), .int .u8 (w 2), .int .u8 (w 3)] n m e o p) = z16 := by unfold mapW; rw [show ((ofR [.int .u8 (x 0), .int .u8 (x 1), .int .u8 (x 2), .int .u8 (x 3), .int .u8 (x 4), .int .u8 (x 5), .int .u8 (x 6), .int .u8 (x 7), .int .u8 (x 8), .int .u8 (x 9), .int .u8 (x 10), .int .u8 (x 11), .int .u8 (x 12), .int .u8 (x 13), .int .u8 (x 14), .int .u8 (x 15)] [.int .u8 (z 0), .int .u8 (z 1), .int .u8 (z 2), .int .u8 (z 3)] [.int .u8 (w 0), .int .u8 (w 1), .int .u8 (w 2), .int .u8 (w 3)] n m e o p) == 0) = false from beq_eq_false_iff_ne.2 hr]; simp only [cond_false]
    rw [N25 x z n m e o f w p e0.symm rfl, hm]
    refine (aIf_pos s0).trans ((aIf_pos (show ((ofR [.int .u8 (x 0), .int .u8 (x 1), .int .u8 (x 2), .int .u8 (x 3), .int .u8 (x 4), .int .u8 (x 5), .int .u8 (x 6), .int .u8 (x 7), .int .u8 (x 8), .int .u8 (x 9), .int .u8 (x 10), .int .u8 (x 11), .int .u8 (x 12), .int .u8 (x 13), .int .u8 (x 14), .int .u8 (x 15)] [.int .u8 (z 0), .int .u8 (z 1), .int .u8 (z 2), .int .u8 (z 3)] [.int .u8 (w 0), .int .u8 (w 1), .int .u8 (w 2), .int .u8 (w 3)] n m e o p) != 0) = true by simpa using hr)).trans ?_)
    rfl

/-- ferryman/mapping.Comes -/
noncomputable def T28 : List (FuncId × FSpec) := [(25, V25)]
theorem T28_ok : TabOK Tryd.prog T28 := TabOK.cons En25 V25_ok (TabOK.nil _)
noncomputable def C28 : Ctx := (ctx E T28 [] [(0, [3, 4, 5, 6]), (1, [5, 10, 11]), (2, [5, 10, 11, 19]), (3, [5, 10, 11, 19, 20]), (4, [5, 10, 11, 20]), (5, [8, 9]), (6, [8, 9])] [] 31 70)
theorem C28_ok : CtxOK Tryd.prog C28 := ctx_ok E_ok E_flds mixed T28_ok
noncomputable def S28 : FSpec := inlineK C28 Tryd.f28
theorem S28_ok : SpecOK Tryd.prog 28 S28 := inlineK_ok C28_ok Tryd.func28 (fun _ _ => LoopsOK.none _)
theorem En28 : Enters Tryd.prog 28 := ⟨_, Tryd.func28, by decide, rfl⟩
noncomputable def R28 (args : List AV) : Res := S28 args [] encK
noncomputable def V28 : FSpec := leafK (.tup [.bool, .int .i64]) R28
theorem V28_ok : SpecOK Tryd.prog 28 V28 := leafK_ok S28_ok (fun _ => rfl)
theorem N28 (x z : Nat → Int) (n m e o : Int) (f : Bool) (y w : Nat → Int) (p : Int)
    {r0 : _} (h0 : r0 = R25 [AV.agg [AV.int IntKind.u8 (x 0), AV.int IntKind.u8 (x 1), AV.int IntKind.u8 (x 2), AV.int IntKind.u8 (x 3), AV.int IntKind.u8 (x 4), AV.int IntKind.u8 (x 5), AV.int IntKind.u8 (x 6), AV.int IntKind.u8 (x 7), AV.int IntKind.u8 (x 8), AV.int IntKind.u8 (x 9), AV.int IntKind.u8 (x 10), AV.int IntKind.u8 (x 11), AV.int IntKind.u8 (x 12), AV.int IntKind.u8 (x 13), AV.int IntKind.u8 (x 14), AV.int IntKind.u8 (x 15), AV.int IntKind.i64 n, AV.int IntKind.u8 (z 0), AV.int IntKind.u8 (z 1), AV.int IntKind.u8 (z 2), AV.int IntKind.u8 (z 3), AV.int IntKind.i64 m, AV.int IntKind.i64 e, AV.int IntKind.i64 o, AV.bool f], AV.agg [AV.int IntKind.u8 (w 0), AV.int IntKind.u8 (w 1), AV.int IntKind.u8 (w 2), AV.int IntKind.u8 (w 3)], AV.int IntKind.u16 p]) :
  S28 [.agg [.int .u8 (x 0), .int .u8 (x 1), .int .u8 (x 2), .int .u8 (x 3), .int .u8 (x 4), .int .u8 (x 5), .int .u8 (x 6), .int .u8 (x 7), .int .u8 (x 8), .int .u8 (x 9), .int .u8 (x 10), .int .u8 (x 11), .int .u8 (x 12), .int .u8 (x 13), .int .u8 (x 14), .int .u8 (x 15), .int .i64 n, .int .u8 (z 0), .int .u8 (z 1), .int .u8 (z 2), .int .u8 (z 3), .int .i64 m, .int .i64 e, .int .i64 o, .bool f], .agg [.int .u8 (y 0), .int .u8 (y 1), .int .u8 (y 2), .int .u8 (y 3), .int .u8 (y 4), .int .u8 (y 5), .int .u8 (y 6), .int .u8 (y 7), .int .u8 (y 8), .int .u8 (y 9), .int .u8 (y 10), .int .u8 (y 11), .int .u8 (y 12), .int .u8 (y 13), .int .u8 (y 14), .int .u8 (y 15)], .agg [.int .u8 (w 0), .int .u8 (w 1), .int .u8 (w 2), .int .u8 (w 3)], .int .u16 p] [] encK =
  aIf (shOK (Sh.tup [Sh.agg [Sh.int IntKind.u8, Sh.int IntKind.u8, Sh.int IntKind.u8, Sh.int IntKind.u8, Sh.int IntKind.u8, Sh.int IntKind.u8, Sh.int IntKind.u8, Sh.int IntKind.u8, Sh.int IntKind.u8, Sh.int IntKind.u8, Sh.int IntKind.u8, Sh.int IntKind.u8, Sh.int IntKind.u8, Sh.int IntKind.u8, Sh.int IntKind.u8, Sh.int IntKind.u8], Sh.int IntKind.i64]) r0) (aIf ((sel r0 [1]).toInt == 82) (aIf ((sel r0 [1]).toInt == 82) (some (AEnd.ret (AV.tup [AV.bool false, AV.int IntKind.i64 0]), [])) (aIf ((sel r0 [1]).toInt == 0) (some (AEnd.ret (AV.tup [AV.bool ((sel r0 [0, 0]).toInt == y 0 && ((sel r0 [0, 1]).toInt == y 1 && ((sel r0 [0, 2]).toInt == y 2 && ((sel r0 [0, 3]).toInt == y 3 && ((sel r0 [0, 4]).toInt == y 4 && ((sel r0 [0, 5]).toInt == y 5 && ((sel r0 [0, 6]).toInt == y 6 && ((sel r0 [0, 7]).toInt == y 7 && ((sel r0 [0, 8]).toInt == y 8 && ((sel r0 [0, 9]).toInt == y 9 && ((sel r0 [0, 10]).toInt == y 10 && ((sel r0 [0, 11]).toInt == y 11 && ((sel r0 [0, 12]).toInt == y 12 && ((sel r0 [0, 13]).toInt == y 13 && ((sel r0 [0, 14]).toInt == y 14 && ((sel r0 [0, 15]).toInt == y 15 && true)))))))))))))))), AV.int IntKind.i64 (sel r0 [1]).toInt]), [])) (some (AEnd.ret (AV.tup [AV.bool false, AV.int IntKind.i64 (sel r0 [1]).toInt]), [])))) (aIf ((sel r0 [1]).toInt == 91) (some (AEnd.ret (AV.tup [AV.bool false, AV.int IntKind.i64 0]), [])) (aIf ((sel r0 [1]).toInt == 0) (some (AEnd.ret (AV.tup [AV.bool ((sel r0 [0, 0]).toInt == y 0 && ((sel r0 [0, 1]).toInt == y 1 && ((sel r0 [0, 2]).toInt == y 2 && ((sel r0 [0, 3]).toInt == y 3 && ((sel r0 [0, 4]).toInt == y 4 && ((sel r0 [0, 5]).toInt == y 5 && ((sel r0 [0, 6]).toInt == y 6 && ((sel r0 [0, 7]).toInt == y 7 && ((sel r0 [0, 8]).toInt == y 8 && ((sel r0 [0, 9]).toInt == y 9 && ((sel r0 [0, 10]).toInt == y 10 && ((sel r0 [0, 11]).toInt == y 11 && ((sel r0 [0, 12]).toInt == y 12 && ((sel r0 [0, 13]).toInt == y 13 && ((sel r0 [0, 14]).toInt == y 14 && ((sel r0 [0, 15]).toInt == y 15 && true)))))))))))))))), AV.int IntKind.i64 (sel r0 [1]).toInt]), [])) (some (AEnd.ret (AV.tup [AV.bool false, AV.int IntKind.i64 (sel r0 [1]).toInt]), []))))) none := by subst h0; kernel_rfl
set_option maxRecDepth 20000 in
set_option maxHeartbeats 1000000 in
theorem R28_is {x z : Nat → Int} {n m e o : Int} {f : Bool} {y w : Nat → Int} {p : Int} (hx : b8 x) (hz : b8 z) (hw : b8 w) (ho : inK .i64 o = true) (hp : 0 ≤ p ∧ p ≤ 65535) : R28 [.agg [.int .u8 (x 0), .int .u8 (x 1), .int .u8 (x 2), .int .u8 (x 3), .int .u8 (x 4), .int .u8 (x 5), .int .u8 (x 6), .int .u8 (x 7), .int .u8 (x 8), .int .u8 (x 9), .int .u8 (x 10), .int .u8 (x 11), .int .u8 (x 12), .int .u8 (x 13), .int .u8 (x 14), .int .u8 (x 15), .int .i64 n, .int .u8 (z 0), .int .u8 (z 1), .int .u8 (z 2), .int .u8 (z 3), .int .i64 m, .int .i64 e, .int .i64 o, .bool f], .agg [.int .u8 (y 0), .int .u8 (y 1), .int .u8 (y 2), .int .u8 (y 3), .int .u8 (y 4), .int .u8 (y 5), .int .u8 (y 6), .int .u8 (y 7), .int .u8 (y 8), .int .u8 (y 9), .int .u8 (y 10), .int .u8 (y 11), .int .u8 (y 12), .int .u8 (y 13), .int .u8 (y 14), .int .u8 (y 15)], .agg [.int .u8 (w 0), .int .u8 (w 1), .int .u8 (w 2), .int .u8 (w 3)], .int .u16 p] = some (.ret (.tup [.bool (comB [.int .u8 (x 0), .int .u8 (x 1), .int .u8 (x 2), .int .u8 (x 3), .int .u8 (x 4), .int .u8 (x 5), .int .u8 (x 6), .int .u8 (x 7), .int .u8 (x 8), .int .u8 (x 9), .int .u8 (x 10), .int .u8 (x 11), .int .u8 (x 12), .int .u8 (x 13), .int .u8 (x 14), .int .u8 (x 15)] [.int .u8 (z 0), .int .u8 (z 1), .int .u8 (z 2), .int .u8 (z 3)] [.int .u8 (w 0), .int .u8 (w 1), .int .u8 (w 2), .int .u8 (w 3)] n m e o p y), .int .i64 (comE (ofR [.int .u8 (x 0), .int .u8 (x 1), .int .u8 (x 2), .int .u8 (x 3), .int .u8 (x 4), .int .u8 (x 5), .int .u8 (x 6), .int .u8 (x 7), .int .u8 (x 8), .int .u8 (x 9), .int .u8 (x 10), .int .u8 (x 11), .int .u8 (x 12), .int .u8 (x 13), .int .u8 (x 14), .int .u8 (x 15)] [.int .u8 (z 0), .int .u8 (z 1), .int .u8 (z 2), .int .u8 (z 3)] [.int .u8 (w 0), .int .u8 (w 1), .int .u8 (w 2), .int .u8 (w 3)] n m e o p))]), []) := by
  show S28 _ [] encK = _
  have e0 := R25_is (n := n) (m := m) (e := e) (f := f) hx hz hw ho hp
  have hu := mapW_ok [.int .u8 (x 0), .int .u8 (x 1), .int .u8 (x 2), .int .u8 (x 3), .int .u8 (x 4), .int .u8 (x 5), .int .u8 (x 6), .int .u8 (x 7), .int .u8 (x 8), .int .u8 (x 9), .int .u8 (x 10), .int .u8 (x 11), .int .u8 (x 12), .int .u8 (x 13), .int .u8 (x 14), .int .u8 (x 15)] [.int .u8 (z 0), .int .u8 (z 1), .int .u8 (z 2), .int .u8 (z 3)] [.int .u8 (w 0), .int .u8 (w 1), .int .u8 (w 2), .int .u8 (w 3)] n m e o p
  have s0 : shOK (.tup [.agg [.int .u8, .int .u8, .int .u8, .int .u8, .int .u8, .int .u8, .int .u8, .int .u8, .int .u8, .int .u8, .int .u8, .int .u8, .int .u8, .int .u8, .int .u8, .int .u8], .int .i64]) (some (.ret (.tup [.agg [.int .u8 (byteAt (mapW [.int .u8 (x 0), .int .u8 (x 1), .int .u8 (x 2), .int .u8 (x 3), .int .u8 (x 4), .int .u8 (x 5), .int .u8 (x 6), .int .u8 (x 7), .int .u8 (x 8), .int .u8 (x 9), .int .u8 (x 10), .int .u8 (x 11), .int .u8 (x 12), .int .u8 (x 13), .int .u8 (x 14), .int .u8 (x 15)] [.int .u8 (z 0), .int .u8 (z 1), .int .u8 (z 2), .int .u8 (z 3)] [.int .u8 (w 0), .int .u8 (w 1), .int .u8 (w 2), .int .u8 (w 3)] n m e o p) 0), .int .u8 (byteAt (mapW [.int .u8 (x 0), .int .u8 (x 1), .int .u8 (x 2), .int .u8 (x 3), .int .u8 (x 4), .int .u8 (x 5), .int .u8 (x 6), .int .u8 (x 7), .int .u8 (x 8), .int .u8 (x 9), .int .u8 (x 10), .int .u8 (x 11), .int .u8 (x 12), .int .u8 (x 13), .int .u8 (x 14), .int .u8 (x 15)] [.int .u8 (z 0), .int .u8 (z 1), .int .u8 (z 2), .int .u8 (z 3)] [.int .u8 (w 0), .int .u8 (w 1), .int .u8 (w 2), .int .u8 (w 3)] n m e o p) 1), .int .u8 (byteAt (mapW [.int .u8 (x 0), .int .u8 (x 1), .int .u8 (x 2), .int .u8 (x 3), .int .u8 (x 4), .int .u8 (x 5), .int .u8 (x 6), .int .u8 (x 7), .int .u8 (x 8), .int .u8 (x 9), .int .u8 (x 10), .int .u8 (x 11), .int .u8 (x 12), .int .u8 (x 13), .int .u8 (x 14), .int .u8 (x 15)] [.int .u8 (z 0), .int .u8 (z 1), .int .u8 (z 2), .int .u8 (z 3)] [.int .u8 (w 0), .int .u8 (w 1), .int .u8 (w 2), .int .u8 (w 3)] n m e o p) 2), .int .u8 (byteAt (mapW [.int .u8 (x 0), .int .u8 (x 1), .int .u8 (x 2), .int .u8 (x 3), .int .u8 (x 4), .int .u8 (x 5), .int .u8 (x 6), .int .u8 (x 7), .int .u8 (x 8), .int .u8 (x 9), .int .u8 (x 10), .int .u8 (x 11), .int .u8 (x 12), .int .u8 (x 13), .int .u8 (x 14), .int .u8 (x 15)] [.int .u8 (z 0), .int .u8 (z 1), .int .u8 (z 2), .int .u8 (z 3)] [.int .u8 (w 0), .int .u8 (w 1), .int .u8 (w 2), .int .u8 (w 3)] n m e o p) 3), .int .u8 (byteAt (mapW [.int .u8 (x 0), .int .u8 (x 1), .int .u8 (x 2), .int .u8 (x 3), .int .u8 (x 4), .int .u8 (x 5), .int .u8 (x 6), .int .u8 (x 7), .int .u8 (x 8), .int .u8 (x 9), .int .u8 (x 10), .int .u8 (x 11), .int .u8 (x 12), .int .u8 (x 13), .int .u8 (x 14), .int .u8 (x 15)] [.int .u8 (z 0), .int .u8 (z 1), .int .u8 (z 2), .int .u8 (z 3)] [.int .u8 (w 0), .int .u8 (w 1), .int .u8 (w 2), .int .u8 (w 3)] n m e o p) 4), .int .u8 (byteAt (mapW [.int .u8 (x 0), .int .u8 (x 1), .int .u8 (x 2), .int .u8 (x 3), .int .u8 (x 4), .int .u8 (x 5), .int .u8 (x 6), .int .u8 (x 7), .int .u8 (x 8), .int .u8 (x 9), .int .u8 (x 10), .int .u8 (x 11), .int .u8 (x 12), .int .u8 (x 13), .int .u8 (x 14), .int .u8 (x 15)] [.int .u8 (z 0), .int .u8 (z 1), .int .u8 (z 2), .int .u8 (z 3)] [.int .u8 (w 0), .int .u8 (w 1), .int .u8 (w 2), .int .u8 (w 3)] n m e o p) 5), .int .u8 (byteAt (mapW [.int .u8 (x 0), .int .u8 (x 1), .int .u8 (x 2), .int .u8 (x 3), .int .u8 (x 4), .int .u8 (x 5), .int .u8 (x 6), .int .u8 (x 7), .int .u8 (x 8), .int .u8 (x 9), .int .u8 (x 10), .int .u8 (x 11), .int .u8 (x 12), .int .u8 (x 13), .int .u8 (x 14), .int .u8 (x 15)] [.int .u8 (z 0), .int .u8 (z 1), .int .u8 (z 2), .int .u8 (z 3)] [.int .u8 (w 0), .int .u8 (w 1), .int .u8 (w 2), .int .u8 (w 3)] n m e o p) 6), .int .u8 (byteAt (mapW [.int .u8 (x 0), .int .u8 (x 1), .int .u8 (x 2), .int .u8 (x 3), .int .u8 (x 4), .int .u8 (x 5), .int .u8 (x 6), .int .u8 (x 7), .int .u8 (x 8), .int .u8 (x 9), .int .u8 (x 10), .int .u8 (x 11), .int .u8 (x 12), .int .u8 (x 13), .int .u8 (x 14), .int .u8 (x 15)] [.int .u8 (z 0), .int .u8 (z 1), .int .u8 (z 2), .int .u8 (z 3)] [.int .u8 (w 0), .int .u8 (w 1), .int .u8 (w 2), .int .u8 (w 3)] n m e o p) 7), .int .u8 (byteAt (mapW [.int .u8 (x 0), .int .u8 (x 1), .int .u8 (x 2), .int .u8 (x 3), .int .u8 (x 4), .int .u8 (x 5), .int .u8 (x 6), .int .u8 (x 7), .int .u8 (x 8), .int .u8 (x 9), .int .u8 (x 10), .int .u8 (x 11), .int .u8 (x 12), .int .u8 (x 13), .int .u8 (x 14), .int .u8 (x 15)] [.int .u8 (z 0), .int .u8 (z 1), .int .u8 (z 2), .int .u8 (z 3)] [.int .u8 (w 0), .int .u8 (w 1), .int .u8 (w 2), .int .u8 (w 3)] n m e o p) 8), .int .u8 (byteAt (mapW [.int .u8 (x 0), .int .u8 (x 1), .int .u8 (x 2), .int .u8 (x 3), .int .u8 (x 4), .int .u8 (x 5), .int .u8 (x 6), .int .u8 (x 7), .int .u8 (x 8), .int .u8 (x 9), .int .u8 (x 10), .int .u8 (x 11), .int .u8 (x 12), .int .u8 (x 13), .int .u8 (x 14), .int .u8 (x 15)] [.int .u8 (z 0), .int .u8 (z 1), .int .u8 (z 2), .int .u8 (z 3)] [.int .u8 (w 0), .int .u8 (w 1), .int .u8 (w 2), .int .u8 (w 3)] n m e o p) 9), .int .u8 (byteAt (mapW [.int .u8 (x 0), .int .u8 (x 1), .int .u8 (x 2), .int .u8 (x 3), .int .u8 (x 4), .int .u8 (x 5), .int .u8 (x 6), .int .u8 (x 7), .int .u8 (x 8), .int .u8 (x 9), .int .u8 (x 10), .int .u8 (x 11), .int .u8 (x 12), .int .u8 (x 13), .int .u8 (x 14), .int .u8 (x 15)] [.int .u8 (z 0), .int .u8 (z 1), .int .u8 (z 2), .int .u8 (z 3)] [.int .u8 (w 0), .int .u8 (w 1), .int .u8 (w 2), .int .u8 (w 3)] n m e o p) 10), .int .u8 (byteAt (mapW [.int .u8 (x 0), .int .u8 (x 1), .int .u8 (x 2), .int .u8 (x 3), .int .u8 (x 4), .int .u8 (x 5), .int .u8 (x 6), .int .u8 (x 7), .int .u8 (x 8), .int .u8 (x 9), .int .u8 (x 10), .int .u8 (x 11), .int .u8 (x 12), .int .u8 (x 13), .int .u8 (x 14), .int .u8 (x 15)] [.int .u8 (z 0), .int .u8 (z 1), .int .u8 (z 2), .int .u8 (z 3)] [.int .u8 (w 0), .int .u8 (w 1), .int .u8 (w 2), .int .u8 (w 3)] n m e o p) 11), .int .u8 (byteAt (mapW [.int .u8 (x 0), .int .u8 (x 1), .int .u8 (x 2), .int .u8 (x 3), .int .u8 (x 4), .int .u8 (x 5), .int .u8 (x 6), .int .u8 (x 7), .int .u8 (x 8), .int .u8 (x 9), .int .u8 (x 10), .int .u8 (x 11), .int .u8 (x 12), .int .u8 (x 13), .int .u8 (x 14), .int .u8 (x 15)] [.int .u8 (z 0), .int .u8 (z 1), .int .u8 (z 2), .int .u8 (z 3)] [.int .u8 (w 0), .int .u8 (w 1), .int .u8 (w 2), .int .u8 (w 3)] n m e o p) 12), .int .u8 (byteAt (mapW [.int .u8 (x 0), .int .u8 (x 1), .int .u8 (x 2), .int .u8 (x 3), .int .u8 (x 4), .int .u8 (x 5), .int .u8 (x 6), .int .u8 (x 7), .int .u8 (x 8), .int .u8 (x 9), .int .u8 (x 10), .int .u8 (x 11), .int .u8 (x 12), .int .u8 (x 13), .int .u8 (x 14), .int .u8 (x 15)] [.int .u8 (z 0), .int .u8 (z 1), .int .u8 (z 2), .int .u8 (z 3)] [.int .u8 (w 0), .int .u8 (w 1), .int .u8 (w 2), .int .u8 (w 3)] n m e o p) 13), .int .u8 (byteAt (mapW [.int .u8 (x 0), .int .u8 (x 1), .int .u8 (x 2), .int .u8 (x 3), .int .u8 (x 4), .int .u8 (x 5), .int .u8 (x 6), .int .u8 (x 7), .int .u8 (x 8), .int .u8 (x 9), .int .u8 (x 10), .int .u8 (x 11), .int .u8 (x 12), .int .u8 (x 13), .int .u8 (x 14), .int .u8 (x 15)] [.int .u8 (z 0), .int .u8 (z 1), .int .u8 (z 2), .int .u8 (z 3)] [.int .u8 (w 0), .int .u8 (w 1), .int .u8 (w 2), .int .u8 (w 3)] n m e o p) 14), .int .u8 (byteAt (mapW [.int .u8 (x 0), .int .u8 (x 1), .int .u8 (x 2), .int .u8 (x 3), .int .u8 (x 4), .int .u8 (x 5), .int .u8 (x 6), .int .u8 (x 7), .int .u8 (x 8), .int .u8 (x 9), .int .u8 (x 10), .int .u8 (x 11), .int .u8 (x 12), .int .u8 (x 13), .int .u8 (x 14), .int .u8 (x 15)] [.int .u8 (z 0), .int .u8 (z 1), .int .u8 (z 2), .int .u8 (z 3)] [.int .u8 (w 0), .int .u8 (w 1), .int .u8 (w 2), .int .u8 (w 3)] n m e o p) 15)], .int .i64 (ofR [.int .u8 (x 0), .int .u8 (x 1), .int .u8 (x 2), .int .u8 (x 3), .int .u8 (x 4), .int .u8 (x 5), .int .u8 (x 6), .int .u8 (x 7), .int .u8 (x 8), .int .u8 (x 9), .int .u8 (x 10), .int .u8 (x 11), .int .u8 (x 12), .int .u8 (x 13), .int .u8 (x 14), .int .u8 (x 15)] [.int .u8 (z 0), .int .u8 (z 1), .int .u8 (z 2), .int .u8 (z 3)] [.int .u8 (w 0), .int .u8 (w 1), .int .u8 (w 2), .int .u8 (w 3)] n m e o p)]), [])) = true := by
    have h1 : (Sh.agg [.int .u8, .int .u8, .int .u8, .int .u8, .int .u8, .int .u8, .int .u8, .int .u8, .int .u8, .int .u8, .int .u8, .int .u8, .int .u8, .int .u8, .int .u8, .int .u8]).has (.agg [.int .u8 (byteAt (mapW [.int .u8 (x 0), .int .u8 (x 1), .int .u8 (x 2), .int .u8 (x 3), .int .u8 (x 4), .int .u8 (x 5), .int .u8 (x 6), .int .u8 (x 7), .int .u8 (x 8), .int .u8 (x 9), .int .u8 (x 10), .int .u8 (x 11), .int .u8 (x 12), .int .u8 (x 13), .int .u8 (x 14), .int .u8 (x 15)] [.int .u8 (z 0), .int .u8 (z 1), .int .u8 (z 2), .int .u8 (z 3)] [.int .u8 (w 0), .int .u8 (w 1), .int .u8 (w 2), .int .u8 (w 3)] n m e o p) 0), .int .u8 (byteAt (mapW [.int .u8 (x 0), .int .u8 (x 1), .int .u8 (x 2), .int .u8 (x 3), .int .u8 (x 4), .int .u8 (x 5), .int .u8 (x 6), .int .u8 (x 7), .int .u8 (x 8), .int .u8 (x 9), .int .u8 (x 10), .int .u8 (x 11), .int .u8 (x 12), .int .u8 (x 13), .int .u8 (x 14), .int .u8 (x 15)] [.int .u8 (z 0), .int .u8 (z 1), .int .u8 (z 2), .int .u8 (z 3)] [.int .u8 (w 0), .int .u8 (w 1), .int .u8 (w 2), .int .u8 (w 3)] n m e o p) 1), .int .u8 (byteAt (mapW [.int .u8 (x 0), .int .u8 (x 1), .int .u8 (x 2), .int .u8 (x 3), .int .u8 (x 4), .int .u8 (x 5), .int .u8 (x 6), .int .u8 (x 7), .int .u8 (x 8), .int .u8 (x 9), .int .u8 (x 10), .int .u8 (x 11), .int .u8 (x 12), .int .u8 (x 13), .int .u8 (x 14), .int .u8 (x 15)] [.int .u8 (z 0), .int .u8 (z 1), .int .u8 (z 2), .int .u8 (z 3)] [.int .u8 (w 0), .int .u8 (w 1), .int .u8 (w 2), .int .u8 (w 3)] n m e o p) 2), .int .u8 (byteAt (mapW [.int .u8 (x 0), .int .u8 (x 1), .int .u8 (x 2), .int .u8 (x 3), .int .u8 (x 4), .int .u8 (x 5), .int .u8 (x 6), .int .u8 (x 7), .int .u8 (x 8), .int .u8 (x 9), .int .u8 (x 10), .int .u8 (x 11), .int .u8 (x 12), .int .u8 (x 13), .int .u8 (x 14), .int .u8 (x 15)] [.int .u8 (z 0), .int .u8 (z 1), .int .u8 (z 2), .int .u8 (z 3)] [.int .u8 (w 0), .int .u8 (w 1), .int .u8 (w 2), .int .u8 (w 3)] n m e o p) 3), .int .u8 (byteAt (mapW [.int .u8 (x 0), .int .u8 (x 1), .int .u8 (x 2), .int .u8 (x 3), .int .u8 (x 4), .int .u8 (x 5), .int .u8 (x 6), .int .u8 (x 7), .int .u8 (x 8), .int .u8 (x 9), .int .u8 (x 10), .int .u8 (x 11), .int .u8 (x 12), .int .u8 (x 13), .int .u8 (x 14), .int .u8 (x 15)] [.int .u8 (z 0), .int .u8 (z 1), .int .u8 (z 2), .int .u8 (z 3)] [.int .u8 (w 0), .int .u8 (w 1), .int .u8 (w 2), .int .u8 (w 3)] n m e o p) 4), .int .u8 (byteAt (mapW [.int .u8 (x 0), .int .u8 (x 1), .int .u8 (x 2), .int .u8 (x 3), .int .u8 (x 4), .int .u8 (x 5), .int .u8 (x 6), .int .u8 (x 7), .int .u8 (x 8), .int .u8 (x 9), .int .u8 (x 10), .int .u8 (x 11), .int .u8 (x 12), .int .u8 (x 13), .int .u8 (x 14), .int .u8 (x 15)] [.int .u8 (z 0), .int .u8 (z 1), .int .u8 (z 2), .int .u8 (z 3)] [.int .u8 (w 0), .int .u8 (w 1), .int .u8 (w 2), .int .u8 (w 3)] n m e o p) 5), .int .u8 (byteAt (mapW [.int .u8 (x 0), .int .u8 (x 1), .int .u8 (x 2), .int .u8 (x 3), .int .u8 (x 4), .int .u8 (x 5), .int .u8 (x 6), .int .u8 (x 7), .int .u8 (x 8), .int .u8 (x 9), .int .u8 (x 10), .int .u8 (x 11), .int .u8 (x 12), .int .u8 (x 13), .int .u8 (x 14), .int .u8 (x 15)] [.int .u8 (z 0), .int .u8 (z 1), .int .u8 (z 2), .int .u8 (z 3)] [.int .u8 (w 0), .int .u8 (w 1), .int .u8 (w 2), .int .u8 (w 3)] n m e o p) 6), .int .u8 (byteAt (mapW [.int .u8 (x 0), .int .u8 (x 1), .int .u8 (x 2), .int .u8 (x 3), .int .u8 (x 4), .int .u8 (x 5), .int .u8 (x 6), .int .u8 (x 7), .int .u8 (x 8), .int .u8 (x 9), .int .u8 (x 10), .int .u8 (x 11), .int .u8 (x 12), .int .u8 (x 13), .int .u8 (x 14), .int .u8 (x 15)] [.int .u8 (z 0), .int .u8 (z 1), .int .u8 (z 2), .int .u8 (z 3)] [.int .u8 (w 0), .int .u8 (w 1), .int .u8 (w 2), .int .u8 (w 3)] n m e o p) 7), .int .u8 (byteAt (mapW [.int .u8 (x 0), .int .u8 (x 1), .int .u8 (x 2), .int .u8 (x 3), .int .u8 (x 4), .int .u8 (x 5), .int .u8 (x 6), .int .u8 (x 7), .int .u8 (x 8), .int .u8 (x 9), .int .u8 (x 10), .int .u8 (x 11), .int .u8 (x 12), .int .u8 (x 13), .int .u8 (x 14), .int .u8 (x 15)] [.int .u8 (z 0), .int .u8 (z 1), .int .u8 (z 2), .int .u8 (z 3)] [.int .u8 (w 0), .int .u8 (w 1), .int .u8 (w 2), .int .u8 (w 3)] n m e o p) 8), .int .u8 (byteAt (mapW [.int .u8 (x 0), .int .u8 (x 1), .int .u8 (x 2), .int .u8 (x 3), .int .u8 (x 4), .int .u8 (x 5), .int .u8 (x 6), .int .u8 (x 7), .int .u8 (x 8), .int .u8 (x 9), .int .u8 (x 10), .int .u8 (x 11), .int .u8 (x 12), .int .u8 (x 13), .int .u8 (x 14), .int .u8 (x 15)] [.int .u8 (z 0), .int .u8 (z 1), .int .u8 (z 2), .int .u8 (z 3)] [.int .u8 (w 0), .int .u8 (w 1), .int .u8 (w 2), .int .u8 (w 3)] n m e o p) 9), .int .u8 (byteAt (mapW [.int .u8 (x 0), .int .u8 (x 1), .int .u8 (x 2), .int .u8 (x 3), .int .u8 (x 4), .int .u8 (x 5), .int .u8 (x 6), .int .u8 (x 7), .int .u8 (x 8), .int .u8 (x 9), .int .u8 (x 10), .int .u8 (x 11), .int .u8 (x 12), .int .u8 (x 13), .int .u8 (x 14), .int .u8 (x 15)] [.int .u8 (z 0), .int .u8 (z 1), .int .u8 (z 2), .int .u8 (z 3)] [.int .u8 (w 0), .int .u8 (w 1), .int .u8 (w 2), .int .u8 (w 3)] n m e o p) 10), .int .u8 (byteAt (mapW [.int .u8 (x 0), .int .u8 (x 1), .int .u8 (x 2), .int .u8 (x 3), .int .u8 (x 4), .int .u8 (x 5), .int .u8 (x 6), .int .u8 (x 7), .int .u8 (x 8), .int .u8 (x 9), .int .u8 (x 10), .int .u8 (x 11), .int .u8 (x 12), .int .u8 (x 13), .int .u8 (x 14), .int .u8 (x 15)] [.int .u8 (z 0), .int .u8 (z 1), .int .u8 (z 2), .int .u8 (z 3)] [.int .u8 (w 0), .int .u8 (w 1), .int .u8 (w 2), .int .u8 (w 3)] n m e o p) 11), .int .u8 (byteAt (mapW [.int .u8 (x 0), .int .u8 (x 1), .int .u8 (x 2), .int .u8 (x 3), .int .u8 (x 4), .int .u8 (x 5), .int .u8 (x 6), .int .u8 (x 7), .int .u8 (x 8), .int .u8 (x 9), .int .u8 (x 10), .int .u8 (x 11), .int .u8 (x 12), .int .u8 (x 13), .int .u8 (x 14), .int .u8 (x 15)] [.int .u8 (z 0), .int .u8 (z 1), .int .u8 (z 2), .int .u8 (z 3)] [.int .u8 (w 0), .int .u8 (w 1), .int .u8 (w 2), .int .u8 (w 3)] n m e o p) 12), .int .u8 (byteAt (mapW [.int .u8 (x 0), .int .u8 (x 1), .int .u8 (x 2), .int .u8 (x 3), .int .u8 (x 4), .int .u8 (x 5), .int .u8 (x 6), .int .u8 (x 7), .int .u8 (x 8), .int .u8 (x 9), .int .u8 (x 10), .int .u8 (x 11), .int .u8 (x 12), .int .u8 (x 13), .int .u8 (x 14), .int .u8 (x 15)] [.int .u8 (z 0), .int .u8 (z 1), .int .u8 (z 2), .int .u8 (z 3)] [.int .u8 (w 0), .int .u8 (w 1), .int .u8 (w 2), .int .u8 (w 3)] n m e o p) 13), .int .u8 (byteAt (mapW [.int .u8 (x 0), .int .u8 (x 1), .int .u8 (x 2), .int .u8 (x 3), .int .u8 (x 4), .int .u8 (x 5), .int .u8 (x 6), .int .u8 (x 7), .int .u8 (x 8), .int .u8 (x 9), .int .u8 (x 10), .int .u8 (x 11), .int .u8 (x 12), .int .u8 (x 13), .int .u8 (x 14), .int .u8 (x 15)] [.int .u8 (z 0), .int .u8 (z 1), .int .u8 (z 2), .int .u8 (z 3)] [.int .u8 (w 0), .int .u8 (w 1), .int .u8 (w 2), .int .u8 (w 3)] n m e o p) 14), .int .u8 (byteAt (mapW [.int .u8 (x 0), .int .u8 (x 1), .int .u8 (x 2), .int .u8 (x 3), .int .u8 (x 4), .int .u8 (x 5), .int .u8 (x 6), .int .u8 (x 7), .int .u8 (x 8), .int .u8 (x 9), .int .u8 (x 10), .int .u8 (x 11), .int .u8 (x 12), .int .u8 (x 13), .int .u8 (x 14), .int .u8 (x 15)] [.int .u8 (z 0), .int .u8 (z 1), .int .u8 (z 2), .int .u8 (z 3)] [.int .u8 (w 0), .int .u8 (w 1), .int .u8 (w 2), .int .u8 (w 3)] n m e o p) 15)]) = true := by rw [← bytes16 hu.1 hu.2]; exact hasU16 hu.1 hu.2
    rw [shOK_ret, has_tup, hasL_cons, hasL_cons, hasL_nil, List.getD_cons_zero, List.getD_cons_succ, List.getD_cons_zero, h1, has_int, ofR_in]; rfl
  have hsel : ∀ (cs : List AV) t k, sel (some (AEnd.ret (AV.tup [AV.agg cs, t]), [])) [0, k] = cs.getD k .junk := fun _ _ _ => rfl
  have h1s : ∀ (cs : AV) r, (sel (some (AEnd.ret (AV.tup [cs, AV.int .i64 r]), [])) [1]).toInt = r := fun _ _ => rfl
  have ti : ∀ k n, (AV.int k n).toInt = n := fun _ _ => rfl
  rw [N28 x z n m e o f y w p e0.symm]
  refine (aIf_pos s0).trans ?_
  simp only [h1s, hsel, List.getD_cons_zero, List.getD_cons_succ, ti]
  generalize hM : (mapW [.int .u8 (x 0), .int .u8 (x 1), .int .u8 (x 2), .int .u8 (x 3), .int .u8 (x 4), .int .u8 (x 5), .int .u8 (x 6), .int .u8 (x 7), .int .u8 (x 8), .int .u8 (x 9), .int .u8 (x 10), .int .u8 (x 11), .int .u8 (x 12), .int .u8 (x 13), .int .u8 (x 14), .int .u8 (x 15)] [.int .u8 (z 0), .int .u8 (z 1), .int .u8 (z 2), .int .u8 (z 3)] [.int .u8 (w 0), .int .u8 (w 1), .int .u8 (w 2), .int .u8 (w 3)] n m e o p) = M at *
  unfold comB
  rw [hM]
  rcases ofR_cases [.int .u8 (x 0), .int .u8 (x 1), .int .u8 (x 2), .int .u8 (x 3), .int .u8 (x 4), .int .u8 (x 5), .int .u8 (x 6), .int .u8 (x 7), .int .u8 (x 8), .int .u8 (x 9), .int .u8 (x 10), .int .u8 (x 11), .int .u8 (x 12), .int .u8 (x 13), .int .u8 (x 14), .int .u8 (x 15)] [.int .u8 (z 0), .int .u8 (z 1), .int .u8 (z 2), .int .u8 (z 3)] [.int .u8 (w 0), .int .u8 (w 1), .int .u8 (w 2), .int .u8 (w 3)] n m e o p with hr | hr | hr | hr | hr <;> (rw [hr]; rfl)

/-- ferryman/ferrymanref10.suffix -/
noncomputable def T44 : List (FuncId × FSpec) := []
theorem T44_ok : TabOK Tryd.prog T44 := TabOK.nil _
noncomputable def C44 : Ctx := (ctx E T44 [] [(0, [1]), (1, [2])] [] 7 70)
theorem C44_ok : CtxOK Tryd.prog C44 := ctx_ok E_ok E_flds mixed T44_ok
noncomputable def S44 : FSpec := inlineK C44 Tryd.f44
theorem S44_ok : SpecOK Tryd.prog 44 S44 := inlineK_ok C44_ok Tryd.func44 (fun _ _ => LoopsOK.none _)
theorem En44 : Enters Tryd.prog 44 := ⟨_, Tryd.func44, by decide, rfl⟩

/-- ferryman/ferrymanref10.Check -/
noncomputable def T18 : List (FuncId × FSpec) := [(30, V30), (31, V31), (44, S44)]
theorem T18_ok : TabOK Tryd.prog T18 := TabOK.cons En30 V30_ok (TabOK.cons En31 V31_ok (TabOK.cons En44 S44_ok (TabOK.nil _)))
noncomputable def C18 : Ctx := (ctx E T18 [] [(0, [1]), (1, [1, 12]), (2, [2]), (3, [1, 39]), (4, [2]), (5, [55]), (6, [2]), (7, [2])] [] 56 70)
theorem C18_ok : CtxOK Tryd.prog C18 := ctx_ok E_ok E_flds mixed T18_ok
noncomputable def S18 : FSpec := inlineK C18 Tryd.f18
theorem S18_ok : SpecOK Tryd.prog 18 S18 := inlineK_ok C18_ok Tryd.func18 (fun _ _ => LoopsOK.none _)
theorem En18 : Enters Tryd.prog 18 := ⟨_, Tryd.func18, by decide, rfl⟩
noncomputable def R18 (args : List AV) : Res := S18 args [] encK
noncomputable def V18 : FSpec := leafK (.int .i64) R18
theorem V18_ok : SpecOK Tryd.prog 18 V18 := leafK_ok S18_ok (fun _ => rfl)
theorem N18 (x z : Nat → Int) (n m e o : Int) (f : Bool) : S18 [.agg [.int .u8 (x 0), .int .u8 (x 1), .int .u8 (x 2), .int .u8 (x 3), .int .u8 (x 4), .int .u8 (x 5), .int .u8 (x 6), .int .u8 (x 7), .int .u8 (x 8), .int .u8 (x 9), .int .u8 (x 10), .int .u8 (x 11), .int .u8 (x 12), .int .u8 (x 13), .int .u8 (x 14), .int .u8 (x 15), .int .i64 n, .int .u8 (z 0), .int .u8 (z 1), .int .u8 (z 2), .int .u8 (z 3), .int .i64 m, .int .i64 e, .int .i64 o, .bool f]] [] encK =
  aIf (shOK (Sh.int IntKind.i64) (R30 [AV.agg [AV.int IntKind.u8 (x 0), AV.int IntKind.u8 (x 1), AV.int IntKind.u8 (x 2), AV.int IntKind.u8 (x 3), AV.int IntKind.u8 (x 4), AV.int IntKind.u8 (x 5), AV.int IntKind.u8 (x 6), AV.int IntKind.u8 (x 7), AV.int IntKind.u8 (x 8), AV.int IntKind.u8 (x 9), AV.int IntKind.u8 (x 10), AV.int IntKind.u8 (x 11), AV.int IntKind.u8 (x 12), AV.int IntKind.u8 (x 13), AV.int IntKind.u8 (x 14), AV.int IntKind.u8 (x 15), AV.int IntKind.i64 n]])) (aIf ((sel (R30 [AV.agg [AV.int IntKind.u8 (x 0), AV.int IntKind.u8 (x 1), AV.int IntKind.u8 (x 2), AV.int IntKind.u8 (x 3), AV.int IntKind.u8 (x 4), AV.int IntKind.u8 (x 5), AV.int IntKind.u8 (x 6), AV.int IntKind.u8 (x 7), AV.int IntKind.u8 (x 8), AV.int IntKind.u8 (x 9), AV.int IntKind.u8 (x 10), AV.int IntKind.u8 (x 11), AV.int IntKind.u8 (x 12), AV.int IntKind.u8 (x 13), AV.int IntKind.u8 (x 14), AV.int IntKind.u8 (x 15), AV.int IntKind.i64 n]]) []).toInt != 0) (some (AEnd.ret (AV.int IntKind.i64 22), [])) (aIf (shOK (Sh.int IntKind.i64) (R31 [AV.agg [AV.int IntKind.u8 (z 0), AV.int IntKind.u8 (z 1), AV.int IntKind.u8 (z 2), AV.int IntKind.u8 (z 3), AV.int IntKind.i64 m]])) (aIf ((sel (R31 [AV.agg [AV.int IntKind.u8 (z 0), AV.int IntKind.u8 (z 1), AV.int IntKind.u8 (z 2), AV.int IntKind.u8 (z 3), AV.int IntKind.i64 m]]) []).toInt != 0) (some (AEnd.ret (AV.int IntKind.i64 22), [])) (aIf (decide (e < 0)) (some (AEnd.ret (AV.int IntKind.i64 100), [])) (aIf (decide (e > 48)) (some (AEnd.ret (AV.int IntKind.i64 100), [])) (aIf (decide (n > IntKind.i64.wrap (64 - e))) (some (AEnd.ret (AV.int IntKind.i64 100), [])) (aIf (decide (o < 0)) (some (AEnd.ret (AV.int IntKind.i64 100), [])) (aIf (decide (o > 15)) (some (AEnd.ret (AV.int IntKind.i64 100), [])) (aIf (decide (e > IntKind.i64.wrap (32 - m))) (aIf (decide (IntKind.i64.wrap (e - IntKind.i64.wrap (32 - m)) > IntKind.i64.wrap (16 - o))) (some (AEnd.ret (AV.int IntKind.i64 100), [])) (some (AEnd.ret (AV.int IntKind.i64 0), []))) (some (AEnd.ret (AV.int IntKind.i64 0), []))))))))) none)) none := by kernel_rfl
theorem R18_is {x z : Nat → Int} {n m e o : Int} {f : Bool} (hx : b8 x) (hz : b8 z) : R18 [.agg [.int .u8 (x 0), .int .u8 (x 1), .int .u8 (x 2), .int .u8 (x 3), .int .u8 (x 4), .int .u8 (x 5), .int .u8 (x 6), .int .u8 (x 7), .int .u8 (x 8), .int .u8 (x 9), .int .u8 (x 10), .int .u8 (x 11), .int .u8 (x 12), .int .u8 (x 13), .int .u8 (x 14), .int .u8 (x 15), .int .i64 n, .int .u8 (z 0), .int .u8 (z 1), .int .u8 (z 2), .int .u8 (z 3), .int .i64 m, .int .i64 e, .int .i64 o, .bool f]] = some (.ret (.int .i64 (chkR [.int .u8 (x 0), .int .u8 (x 1), .int .u8 (x 2), .int .u8 (x 3), .int .u8 (x 4), .int .u8 (x 5), .int .u8 (x 6), .int .u8 (x 7), .int .u8 (x 8), .int .u8 (x 9), .int .u8 (x 10), .int .u8 (x 11), .int .u8 (x 12), .int .u8 (x 13), .int .u8 (x 14), .int .u8 (x 15)] [.int .u8 (z 0), .int .u8 (z 1), .int .u8 (z 2), .int .u8 (z 3)] n m e o)), []) := by
  show S18 _ [] encK = _
  have ti : ∀ k n, (AV.int k n).toInt = n := fun _ _ => rfl
  have tb : ∀ b, (AV.bool b).toBool = b := fun _ => rfl
  have si : ∀ k n, sel (some (AEnd.ret (AV.int k n), [])) [] = .int k n := fun _ _ => rfl
  have sb : ∀ b, sel (some (AEnd.ret (AV.bool b), [])) [] = .bool b := fun _ => rfl
  rw [N18, R30_is hx, R31_is hz]
  simp only [shOK_ret, has_int, chkE_in, si, ti, aIf_true]
  unfold chkR
  rcases chkE_or 128 [.int .u8 (x 0), .int .u8 (x 1), .int .u8 (x 2), .int .u8 (x 3), .int .u8 (x 4), .int .u8 (x 5), .int .u8 (x 6), .int .u8 (x 7), .int .u8 (x 8), .int .u8 (x 9), .int .u8 (x 10), .int .u8 (x 11), .int .u8 (x 12), .int .u8 (x 13), .int .u8 (x 14), .int .u8 (x 15)] n with ⟨h1, a1, a2, a3⟩ | h1
  · rcases chkE_or 32 [.int .u8 (z 0), .int .u8 (z 1), .int .u8 (z 2), .int .u8 (z 3)] m with ⟨h2, b1, b2, b3⟩ | h2
    · rw [h1, h2, aIf_neg (b := ((0 : Int) != 0)) rfl, aIf_neg (b := ((0 : Int) != 0)) rfl, chk_tail' ⟨a1, a2⟩ ⟨b1, b2⟩]
      cases ruleB n m e o <;> rfl
    · rw [h1, h2]; rfl
  · rw [h1]; rfl

/-- ferryman/ferrymanref10.Shared -/
noncomputable def T41 : List (FuncId × FSpec) := [(44, S44)]
theorem T41_ok : TabOK Tryd.prog T41 := TabOK.cons En44 S44_ok (TabOK.nil _)
noncomputable def C41 : Ctx := (ctx E T41 [] [(0, [1]), (1, [4]), (2, [2, 3])] [] 14 70)
theorem C41_ok : CtxOK Tryd.prog C41 := ctx_ok E_ok E_flds mixed T41_ok
noncomputable def S41 : FSpec := inlineK C41 Tryd.f41
theorem S41_ok : SpecOK Tryd.prog 41 S41 := inlineK_ok C41_ok Tryd.func41 (fun _ _ => LoopsOK.none _)
theorem En41 : Enters Tryd.prog 41 := ⟨_, Tryd.func41, by decide, rfl⟩

/-- ferryman/ferrymanref10.Of -/
noncomputable def T24 : List (FuncId × FSpec) := [(18, V18), (41, S41), (44, S44), (50, V50), (51, V51)]
theorem T24_ok : TabOK Tryd.prog T24 := TabOK.cons En18 V18_ok (TabOK.cons En41 S41_ok (TabOK.cons En44 S44_ok (TabOK.cons En50 V50_ok (TabOK.cons En51 V51_ok (TabOK.nil _)))))
noncomputable def L24_11 : ATs → AH → KC → Res := fun ts H k => match ts, H with
  | [(2, .int .u16 p), (3, .ptr 0 0 0), (4, .ptr 1 0 0), (11, .int .i64 q), (12, .bool b), (13, .int .i64 n), (14, .int .u64 v), (15, .int .i64 i)], [.cells 0 rs, .cells 0 xs] => aIf (intsB .u8 xs && xs.length == 4 && (decide (22 ≤ rs.length) && (rs.getD 21 .junk).isInt .i64) && v == 0 && i == (rs.getD 21 .junk).toInt && decide (0 ≤ (rs.getD 21 .junk).toInt) && decide (0 ≤ n) && decide (n ≤ 64) && decide ((rs.getD 21 .junk).toInt + n ≤ 32)) (k (.exit 0) [(2, .int .u16 p), (3, .ptr 0 0 0), (4, .ptr 1 0 0), (11, .int .i64 q), (12, .bool b), (13, .int .i64 n), (14, .int .u64 (getN xs ((rs.getD 21 .junk).toInt).toNat (n).toNat)), (15, .int .i64 ((rs.getD 21 .junk).toInt + n)), (52, .bool false)] [.cells 0 rs, .cells 0 xs]) none
  | _, _ => none
noncomputable def C24 : Ctx := (ctx E T24 [(11, L24_11)] [(0, [2, 3, 4]), (1, [2, 3, 4, 8]), (2, [2, 3, 4, 8, 22]), (3, [6, 7]), (4, [2, 3, 4, 9]), (5, [2, 3, 4, 32]), (6, [6, 7]), (7, [2, 3, 4, 11, 12]), (8, [2, 3, 4, 11, 12, 13]), (9, [2, 3, 4, 11, 12, 13, 14]), (10, [2, 3, 4, 11, 12, 13, 14, 15]), (11, [2, 3, 4, 11, 12, 13, 14, 15, 52]), (12, [2, 3, 4, 11, 12, 13, 14, 15]), (13, [2, 3, 4, 11, 12, 13, 14, 15]), (14, [2, 3, 11, 14, 70]), (15, [6, 7]), (16, [11, 14, 16, 17]), (17, [11, 14, 16, 82]), (18, [6, 7]), (19, [6, 7]), (1000011, [2, 3, 4, 11, 12, 13, 14, 15])] [] 90 70)
theorem C24_ok : CtxOK Tryd.prog C24 := ctx_ok E_ok E_flds mixed T24_ok
theorem C24_l0 : C24.loop (loopId (loopB Tryd.f24 0)) = some L24_11 := by kernel_rfl
theorem L24_11_in : LoopsOK C24 (loopB Tryd.f24 0) := LoopsOK.within 0 (by kernel_rfl) (fun j hj S hS => by
  omega)
theorem M24_11a (p q : Int) (b : Bool) (n v i : Int) (rs xs : List AV) (k : KC) : headedK C24 (loopB Tryd.f24 0) [(2, .int .u16 p), (3, .ptr 0 0 0), (4, .ptr 1 0 0), (11, .int .i64 q), (12, .bool b), (13, .int .i64 n), (14, .int .u64 v), (15, .int .i64 i)] [.cells 0 rs, .cells 0 xs] k =
  aIf (decide (22 ≤ rs.length)) (aIf ((rs.getD 21 AV.junk).isInt IntKind.i64) (aIf (decide (i < IntKind.i64.wrap ((rs.getD 21 AV.junk).toInt + n))) (aIf (decide (0 ≤ IntKind.i64.wrap (i.tdiv 8))) (aIf (decide (IntKind.i64.wrap (i.tdiv 8) < 4)) (aIf (decide (0 + (IntKind.i64.wrap (i.tdiv 8)).toNat * 1 + 1 ≤ xs.length)) (aIf ((xs.getD (0 + (IntKind.i64.wrap (i.tdiv 8)).toNat * 1) AV.junk).isInt IntKind.u8) (aIf (decide (IntKind.u64.wrap (IntKind.i64.wrap (7 - i.tmod 8)) < 0)) none (k AExit.normal [(2, AV.int IntKind.u16 p), (3, AV.ptr 0 0 0), (4, AV.ptr 1 0 0), (11, AV.int IntKind.i64 q), (12, AV.bool b), (13, AV.int IntKind.i64 n), (14, AV.int IntKind.u64 (IntKind.u64.wrap (↑(BitVec.ofInt 64 (IntKind.u64.wrap (v * 2)) ||| BitVec.ofInt 64 (IntKind.u64.wrap (IntKind.u8.wrap (↑(BitVec.ofInt 8 ((xs.getD (0 + (IntKind.i64.wrap (i.tdiv 8)).toNat * 1) AV.junk).toInt.fdiv (2 ^ min (IntKind.u64.wrap (IntKind.i64.wrap (7 - i.tmod 8))).toNat 8)) &&& BitVec.ofInt 8 1).toNat : Int)))).toNat : Int))), (15, AV.int IntKind.i64 (IntKind.i64.wrap (i + 1)))] [AO.cells 0 rs, AO.cells 0 xs])) none) none) none) none) (k (AExit.exit 0) [(2, AV.int IntKind.u16 p), (3, AV.ptr 0 0 0), (4, AV.ptr 1 0 0), (11, AV.int IntKind.i64 q), (12, AV.bool b), (13, AV.int IntKind.i64 n), (14, AV.int IntKind.u64 v), (15, AV.int IntKind.i64 i), (52, AV.bool (decide (i < IntKind.i64.wrap ((rs.getD 21 AV.junk).toInt + n))))] [AO.cells 0 rs, AO.cells 0 xs])) none) none := by kernel_rfl
theorem L24_11_ok : LoopSum C24 (loopB Tryd.f24 0) L24_11 := LoopSum.of C24_ok L24_11_in (fun ts H => by
  unfold L24_11
  split
  · rename_i p q b n v i rs xs
    rcases Bool.eq_false_or_eq_true (intsB .u8 xs && xs.length == 4 && (decide (22 ≤ rs.length) && (rs.getD 21 .junk).isInt .i64) && v == 0 && i == (rs.getD 21 .junk).toInt && decide (0 ≤ (rs.getD 21 .junk).toInt) && decide (0 ≤ n) && decide (n ≤ 64) && decide ((rs.getD 21 .junk).toInt + n ≤ 32)) with hp | hp
    · refine .inr ?_
      simp only [aIf_pos hp]
      simp only [Bool.and_eq_true, decide_eq_true_eq, beq_iff_eq] at hp
      obtain ⟨⟨⟨⟨⟨⟨⟨⟨hu, hL⟩, r1, r2⟩, rfl⟩, rfl⟩, n0⟩, e0⟩, e1⟩, ne⟩ := hp
      have ti : ∀ k n, (AV.int k n).toInt = n := fun _ _ => rfl
      generalize hN : (rs.getD 21 .junk).toInt = N at *
      obtain ⟨E, rfl⟩ := Int.eq_ofNat_of_zero_le e0
      obtain ⟨N, rfl⟩ := Int.eq_ofNat_of_zero_le n0
      
      have key : ∀ (j : Nat), j < E → ∀ k, headedK C24 (loopB Tryd.f24 0) [(2, .int .u16 p), (3, .ptr 0 0 0), (4, .ptr 1 0 0), (11, .int .i64 q), (12, .bool b), (13, .int .i64 (E : Int)), (14, .int .u64 (getN xs N j)), (15, .int .i64 ((N + j : Nat) : Int))] [.cells 0 rs, .cells 0 xs] k = k .normal [(2, .int .u16 p), (3, .ptr 0 0 0), (4, .ptr 1 0 0), (11, .int .i64 q), (12, .bool b), (13, .int .i64 (E : Int)), (14, .int .u64 (getN xs N (j + 1))), (15, .int .i64 ((N + (j + 1) : Nat) : Int))] [.cells 0 rs, .cells 0 xs] := by
        intro j hj k
        obtain ⟨x, hx, he⟩ := u8_get hu ((N + j) / 8) (by omega)
        have b1 := bitV_01 xs (N + j)
        have b2 := getN_range xs N j
        have b3 := pow2_le (show j ≤ 63 by omega)
        have b4 : (2 : Int) ^ 63 = 9223372036854775808 := rfl
        have hb : (x : Int) / 2 ^ (7 - (N + j) % 8) % 2 = bitV xs (N + j) := by unfold bitV; rw [he]; rfl
        have e3 : IntKind.u64.wrap (getN xs N j * 2) = 2 * getN xs N j := by rw [Int.mul_comm]; exact u64n (by omega) (by omega)
        have e5 := u64n (x := bitV xs (N + j)) (by omega) (by omega)
        have e6 : IntKind.u64.wrap (2 * getN xs N j + bitV xs (N + j)) = 2 * getN xs N j + bitV xs (N + j) := u64n (by omega) (by omega)
        have hor := or1 (v := getN xs N j) (b := bitV xs (N + j)) b2.1 (by omega) b1.1 b1.2
        rw [M24_11a]
        simp only [r2, decide_eq_true r1, hN, i64a (show N + E < 9223372036854775808 by omega), decide_eq_true (show ((N + j : Nat) : Int) < ((N + E : Nat) : Int) by omega), div8 (show N + j < 9223372036854775808 by omega), sh7 (N + j), u64nn (show 7 - (N + j) % 8 < 18446744073709551616 by omega),
          decide_eq_true (show (((N + j) / 8 : Nat) : Int) < 4 by omega), decide_eq_true (show (N + j) / 8 + 1 ≤ xs.length by omega), show min (7 - (N + j) % 8) 8 = 7 - (N + j) % 8 by omega, he, bit8 hx (show 7 - (N + j) % 8 < 8 by omega), hb, shr_eq, e3, e5, hor, e6, i64s (show N + j + 1 < 9223372036854775808 by omega), Int.toNat_natCast, Nat.zero_add, Nat.mul_one, isInt_self, ti, dnn, dnn', aIf_true, aIf_false]
        rfl
      exact (iter_fold (δ := Unit) (N := E) (ts := fun j _ => [(2, .int .u16 p), (3, .ptr 0 0 0), (4, .ptr 1 0 0), (11, .int .i64 q), (12, .bool b), (13, .int .i64 (E : Int)), (14, .int .u64 (getN xs N j)), (15, .int .i64 ((N + j : Nat) : Int))]) (H := fun _ _ => [.cells 0 rs, .cells 0 xs]) (f := fun _ u => u) (I := fun _ _ => True) (te := fun _ => [(2, .int .u16 p), (3, .ptr 0 0 0), (4, .ptr 1 0 0), (11, .int .i64 q), (12, .bool b), (13, .int .i64 (E : Int)), (14, .int .u64 (getN xs N E)), (15, .int .i64 ((N + E : Nat) : Int)), (52, .bool false)]) (He := fun _ => [.cells 0 rs, .cells 0 xs])
        (fun j d hj _ => ⟨trivial, key j hj⟩) (fun _ _ k => by rw [M24_11a]; simp only [r2, decide_eq_true r1, hN, i64a (show N + E < 9223372036854775808 by omega), dltf, aIf_true, aIf_false]) (by intro h; cases h) E 0 () (by omega) trivial).imp fun m hm k => (hm k).symm
    · exact .inl fun k => by rw [aIf_neg hp]
  · exact .inl fun k => rfl)
theorem C24_loops : ∀ c, Tryd.f24.body = some c → LoopsOK C24 c := LoopsOK.of 1 (by kernel_rfl) (fun j hj S hS => by
  match j, hj with
  | 0, _ => rw [C24_l0] at hS; cases hS; exact L24_11_ok
  | n + 1, hj => omega)
noncomputable def S24 : FSpec := inlineK C24 Tryd.f24
theorem S24_ok : SpecOK Tryd.prog 24 S24 := inlineK_ok C24_ok Tryd.func24 C24_loops
theorem En24 : Enters Tryd.prog 24 := ⟨_, Tryd.func24, by decide, rfl⟩
noncomputable def R24 (args : List AV) : Res := S24 args [] encK
noncomputable def V24 : FSpec := leafK (.tup [.int .u64, .int .i64]) R24
theorem V24_ok : SpecOK Tryd.prog 24 V24 := leafK_ok S24_ok (fun _ => rfl)
theorem N24 (x z : Nat → Int) (n m e o : Int) (f : Bool) (w : Nat → Int) (p : Int)
    {r0 : _} (h0 : r0 = R18 [AV.agg [AV.int IntKind.u8 (x 0), AV.int IntKind.u8 (x 1), AV.int IntKind.u8 (x 2), AV.int IntKind.u8 (x 3), AV.int IntKind.u8 (x 4), AV.int IntKind.u8 (x 5), AV.int IntKind.u8 (x 6), AV.int IntKind.u8 (x 7), AV.int IntKind.u8 (x 8), AV.int IntKind.u8 (x 9), AV.int IntKind.u8 (x 10), AV.int IntKind.u8 (x 11), AV.int IntKind.u8 (x 12), AV.int IntKind.u8 (x 13), AV.int IntKind.u8 (x 14), AV.int IntKind.u8 (x 15), AV.int IntKind.i64 n, AV.int IntKind.u8 (z 0), AV.int IntKind.u8 (z 1), AV.int IntKind.u8 (z 2), AV.int IntKind.u8 (z 3), AV.int IntKind.i64 m, AV.int IntKind.i64 e, AV.int IntKind.i64 o, AV.bool f]])
    {r1 : _} (h1 : r1 = R50 [AV.agg [AV.int IntKind.u8 (z 0), AV.int IntKind.u8 (z 1), AV.int IntKind.u8 (z 2), AV.int IntKind.u8 (z 3), AV.int IntKind.i64 m], AV.agg [AV.int IntKind.u8 (w 0), AV.int IntKind.u8 (w 1), AV.int IntKind.u8 (w 2), AV.int IntKind.u8 (w 3)]])
    {r4 : _} (h4 : r4 = R51 [AV.int IntKind.i64 o, AV.int IntKind.i64 (if 0 > IntKind.i64.wrap (e - IntKind.i64.wrap (32 - m)) then 0 else IntKind.i64.wrap (e - IntKind.i64.wrap (32 - m))), AV.int IntKind.u16 p]) :
  S24 [.agg [.int .u8 (x 0), .int .u8 (x 1), .int .u8 (x 2), .int .u8 (x 3), .int .u8 (x 4), .int .u8 (x 5), .int .u8 (x 6), .int .u8 (x 7), .int .u8 (x 8), .int .u8 (x 9), .int .u8 (x 10), .int .u8 (x 11), .int .u8 (x 12), .int .u8 (x 13), .int .u8 (x 14), .int .u8 (x 15), .int .i64 n, .int .u8 (z 0), .int .u8 (z 1), .int .u8 (z 2), .int .u8 (z 3), .int .i64 m, .int .i64 e, .int .i64 o, .bool f], .agg [.int .u8 (w 0), .int .u8 (w 1), .int .u8 (w 2), .int .u8 (w 3)], .int .u16 p] [] encK =
  aIf (shOK (Sh.int IntKind.i64) r0) (aIf ((sel r0 []).toInt != 0) (some (AEnd.ret (AV.tup [AV.int IntKind.u64 0, AV.int IntKind.i64 (sel r0 []).toInt]), [])) (aIf (shOK (Sh.tup [Sh.bool, Sh.int IntKind.i64]) r1) (aIf (!(sel r1 [0]).toBool) (some (AEnd.ret (AV.tup [AV.int IntKind.u64 0, AV.int IntKind.i64 82]), [])) (aIf (true && (decide (0 ≤ w 0) && decide (w 0 ≤ 255)) && (true && (decide (0 ≤ w 1) && decide (w 1 ≤ 255)) && (true && (decide (0 ≤ w 2) && decide (w 2 ≤ 255)) && (true && (decide (0 ≤ w 3) && decide (w 3 ≤ 255)) && true))) && true && true && true && m == m && decide (0 ≤ m) && decide (0 ≤ if IntKind.i64.wrap (32 - m) < e then IntKind.i64.wrap (32 - m) else e) && decide ((if IntKind.i64.wrap (32 - m) < e then IntKind.i64.wrap (32 - m) else e) ≤ 64) && decide ((m + if IntKind.i64.wrap (32 - m) < e then IntKind.i64.wrap (32 - m) else e) ≤ 32)) (aIf (!decide (IntKind.i64.wrap (e - IntKind.i64.wrap (32 - m)) > 0)) (some (AEnd.ret (AV.tup [AV.int IntKind.u64 (Pl.getN [AV.int IntKind.u8 (w 0), AV.int IntKind.u8 (w 1), AV.int IntKind.u8 (w 2), AV.int IntKind.u8 (w 3)] m.toNat (if IntKind.i64.wrap (32 - m) < e then IntKind.i64.wrap (32 - m) else e).toNat), AV.int IntKind.i64 0]), [])) (aIf (shOK (Sh.tup [Sh.int IntKind.u16, Sh.bool, Sh.int IntKind.i64]) r4) (aIf (!(sel r4 [1]).toBool) (some (AEnd.ret (AV.tup [AV.int IntKind.u64 0, AV.int IntKind.i64 91]), [])) (aIf (decide (IntKind.u64.wrap (if 0 > IntKind.i64.wrap (e - IntKind.i64.wrap (32 - m)) then 0 else IntKind.i64.wrap (e - IntKind.i64.wrap (32 - m))) < 0)) none (some (AEnd.ret (AV.tup [AV.int IntKind.u64 (IntKind.u64.wrap (↑(BitVec.ofInt 64 (IntKind.u64.wrap (Pl.getN [AV.int IntKind.u8 (w 0), AV.int IntKind.u8 (w 1), AV.int IntKind.u8 (w 2), AV.int IntKind.u8 (w 3)] m.toNat (if IntKind.i64.wrap (32 - m) < e then IntKind.i64.wrap (32 - m) else e).toNat * 2 ^ min (IntKind.u64.wrap (if 0 > IntKind.i64.wrap (e - IntKind.i64.wrap (32 - m)) then 0 else IntKind.i64.wrap (e - IntKind.i64.wrap (32 - m)))).toNat 64)) ||| BitVec.ofInt 64 (IntKind.u64.wrap (sel r4 [0]).toInt)).toNat : Int)), AV.int IntKind.i64 0]), [])))) none)) none)) none)) none := by subst h0 h1 h4; kernel_rfl
set_option maxRecDepth 20000 in
set_option maxHeartbeats 1000000 in
theorem R24_is {x z : Nat → Int} {n m e o : Int} {f : Bool} {w : Nat → Int} {p : Int} (hx : b8 x) (hz : b8 z) (hw : b8 w) (hp : 0 ≤ p ∧ p ≤ 65535) : R24 [.agg [.int .u8 (x 0), .int .u8 (x 1), .int .u8 (x 2), .int .u8 (x 3), .int .u8 (x 4), .int .u8 (x 5), .int .u8 (x 6), .int .u8 (x 7), .int .u8 (x 8), .int .u8 (x 9), .int .u8 (x 10), .int .u8 (x 11), .int .u8 (x 12), .int .u8 (x 13), .int .u8 (x 14), .int .u8 (x 15), .int .i64 n, .int .u8 (z 0), .int .u8 (z 1), .int .u8 (z 2), .int .u8 (z 3), .int .i64 m, .int .i64 e, .int .i64 o, .bool f], .agg [.int .u8 (w 0), .int .u8 (w 1), .int .u8 (w 2), .int .u8 (w 3)], .int .u16 p] = some (.ret (.tup [.int .u64 (ofV [.int .u8 (x 0), .int .u8 (x 1), .int .u8 (x 2), .int .u8 (x 3), .int .u8 (x 4), .int .u8 (x 5), .int .u8 (x 6), .int .u8 (x 7), .int .u8 (x 8), .int .u8 (x 9), .int .u8 (x 10), .int .u8 (x 11), .int .u8 (x 12), .int .u8 (x 13), .int .u8 (x 14), .int .u8 (x 15)] [.int .u8 (z 0), .int .u8 (z 1), .int .u8 (z 2), .int .u8 (z 3)] [.int .u8 (w 0), .int .u8 (w 1), .int .u8 (w 2), .int .u8 (w 3)] n m e o p), .int .i64 (ofR [.int .u8 (x 0), .int .u8 (x 1), .int .u8 (x 2), .int .u8 (x 3), .int .u8 (x 4), .int .u8 (x 5), .int .u8 (x 6), .int .u8 (x 7), .int .u8 (x 8), .int .u8 (x 9), .int .u8 (x 10), .int .u8 (x 11), .int .u8 (x 12), .int .u8 (x 13), .int .u8 (x 14), .int .u8 (x 15)] [.int .u8 (z 0), .int .u8 (z 1), .int .u8 (z 2), .int .u8 (z 3)] [.int .u8 (w 0), .int .u8 (w 1), .int .u8 (w 2), .int .u8 (w 3)] n m e o p)]), []) := by
  show S24 _ [] encK = _
  have e0 := R18_is (n := n) (m := m) (e := e) (o := o) (f := f) hx hz
  rcases chkR_or [.int .u8 (x 0), .int .u8 (x 1), .int .u8 (x 2), .int .u8 (x 3), .int .u8 (x 4), .int .u8 (x 5), .int .u8 (x 6), .int .u8 (x 7), .int .u8 (x 8), .int .u8 (x 9), .int .u8 (x 10), .int .u8 (x 11), .int .u8 (x 12), .int .u8 (x 13), .int .u8 (x 14), .int .u8 (x 15)] [.int .u8 (z 0), .int .u8 (z 1), .int .u8 (z 2), .int .u8 (z 3)] n m e o with ⟨hc, ⟨a1, a2, a3⟩, ⟨b1, b2, b3⟩, c1, c2, c3, c4, c5⟩ | hc
  rotate_left
  · rw [N24 x z n m e o f w p e0.symm rfl rfl]
    rcases hc with hc | hc <;> (unfold ofV ofR; rw [hc]; rfl)
  have w1 : IntKind.i64.wrap (32 - m) = 32 - m := i64_of (by omega) (by omega)
  have w2 : IntKind.i64.wrap (e - (32 - m)) = e - (32 - m) := i64_of (by omega) (by omega)
  have w3 : (if e - (32 - m) > 0 then e - (32 - m) else 0) = qR m e := rfl
  have w3' : (if 0 > e - (32 - m) then 0 else e - (32 - m)) = qR m e := by unfold qR; split <;> split <;> omega
  have hqd : decide (e - (32 - m) > 0) = decide (qR m e > 0) := by
    unfold qR
    by_cases hh : e - (32 - m) > 0
    · rw [if_pos hh]
    · rw [if_neg hh, decide_eq_false hh]; rfl
  have hq0 : 0 ≤ qR m e ∧ qR m e ≤ 16 ∧ qR m e ≤ e ∧ e - qR m e ≤ 32 - m := by unfold qR; split <;> omega
  have hps := psetB_q hc hp
  have wu : IntKind.u64.wrap (qR m e) = qR m e := u64_of (by omega) (by omega)
  have w4 : IntKind.i64.wrap (e - qR m e) = e - qR m e := i64_of (by omega) (by omega)
  have hI := R50_is (n := m) hz hw
  have hG : getX [.int .u8 (w 0), .int .u8 (w 1), .int .u8 (w 2), .int .u8 (w 3)] m (e - qR m e) = getN [.int .u8 (w 0), .int .u8 (w 1), .int .u8 (w 2), .int .u8 (w 3)] m.toNat (e - qR m e).toNat := by
    unfold getX
    rw [decide_eq_false (show ¬ e - qR m e > 64 by omega), show thereB ([.int .u8 (w 0), .int .u8 (w 1), .int .u8 (w 2), .int .u8 (w 3)] : List AV).length m (e - qR m e) = true from by simp only [thereB, Bool.and_eq_true, decide_eq_true_eq, List.length_cons, List.length_nil]; omega]
    rfl
  have s1 : shOK (.tup [.bool, .int .i64]) (some (.ret (.tup [.bool (inB 32 [.int .u8 (z 0), .int .u8 (z 1), .int .u8 (z 2), .int .u8 (z 3)] [.int .u8 (w 0), .int .u8 (w 1), .int .u8 (w 2), .int .u8 (w 3)] m), .int .i64 (chkE 32 [.int .u8 (z 0), .int .u8 (z 1), .int .u8 (z 2), .int .u8 (z 3)] m)]), [])) = true := by
    simp only [shOK_ret, has_tup, hasL_cons, hasL_nil, has_bool, has_int, List.getD_cons_zero, List.getD_cons_succ, List.length_cons, List.length_nil, beq_self_eq_true, Bool.and_self, chkE_in]
  have hO : R51 [.int .i64 o, .int .i64 (if 0 > IntKind.i64.wrap (e - IntKind.i64.wrap (32 - m)) then 0 else IntKind.i64.wrap (e - IntKind.i64.wrap (32 - m))), .int .u16 p] = some (.ret (.tup [.int .u16 (ofN o (qR m e) p), .bool (ofB o (qR m e) p), .int .i64 (ofE o (qR m e) 0)]), []) := by
    rw [w1, w2, w3']; exact R51_is hps.1
  have hid : 0 ≤ ofN o (qR m e) p ∧ ofN o (qR m e) p ≤ 65535 := by
    unfold ofN
    cases right o (qR m e) 0 && mine o p
    · exact ⟨by show (0 : Int) ≤ 0; omega, by show (0 : Int) ≤ 65535; omega⟩
    · have := psid_bounds hps.1 hps.2
      exact ⟨this.1, this.2.1⟩
  have s5 : shOK (.tup [.int .u16, .bool, .int .i64]) (some (.ret (.tup [.int .u16 (ofN o (qR m e) p), .bool (ofB o (qR m e) p), .int .i64 (ofE o (qR m e) 0)]), [])) = true := by
    have i1 : inK .u16 (ofN o (qR m e) p) = true := by rw [inK_u16, decide_eq_true hid.1, decide_eq_true hid.2]; rfl
    have i2 : inK .i64 (ofE o (qR m e) 0) = true := by unfold ofE; rw [hps.2]; rfl
    simp only [shOK_ret, has_tup, hasL_cons, hasL_nil, has_bool, has_int, List.getD_cons_zero, List.getD_cons_succ, List.length_cons, List.length_nil, beq_self_eq_true, Bool.and_self, i1, i2]
  have wmin : (if 32 - m < e then 32 - m else e) = e - qR m e := by unfold qR; split <;> split <;> omega
  rw [N24 x z n m e o f w p e0.symm hI.symm hO.symm]
  refine (aIf_pos (by rw [hc]; rfl)).trans ((aIf_neg (by rw [hc]; rfl)).trans ((aIf_pos s1).trans ?_))
  cases hi : inB 32 [.int .u8 (z 0), .int .u8 (z 1), .int .u8 (z 2), .int .u8 (z 3)] [.int .u8 (w 0), .int .u8 (w 1), .int .u8 (w 2), .int .u8 (w 3)] m
  · have hr : ofR [.int .u8 (x 0), .int .u8 (x 1), .int .u8 (x 2), .int .u8 (x 3), .int .u8 (x 4), .int .u8 (x 5), .int .u8 (x 6), .int .u8 (x 7), .int .u8 (x 8), .int .u8 (x 9), .int .u8 (x 10), .int .u8 (x 11), .int .u8 (x 12), .int .u8 (x 13), .int .u8 (x 14), .int .u8 (x 15)] [.int .u8 (z 0), .int .u8 (z 1), .int .u8 (z 2), .int .u8 (z 3)] [.int .u8 (w 0), .int .u8 (w 1), .int .u8 (w 2), .int .u8 (w 3)] n m e o p = 82 := by unfold ofR; rw [hc, hi]; rfl
    have hv : ofV [.int .u8 (x 0), .int .u8 (x 1), .int .u8 (x 2), .int .u8 (x 3), .int .u8 (x 4), .int .u8 (x 5), .int .u8 (x 6), .int .u8 (x 7), .int .u8 (x 8), .int .u8 (x 9), .int .u8 (x 10), .int .u8 (x 11), .int .u8 (x 12), .int .u8 (x 13), .int .u8 (x 14), .int .u8 (x 15)] [.int .u8 (z 0), .int .u8 (z 1), .int .u8 (z 2), .int .u8 (z 3)] [.int .u8 (w 0), .int .u8 (w 1), .int .u8 (w 2), .int .u8 (w 3)] n m e o p = 0 := by unfold ofV; rw [hr]; rfl
    rw [hr, hv]
    rfl
  refine (aIf_neg rfl).trans ?_
  refine (aIf_pos ?_).trans ?_
  · rw [w1, wmin]
    have : (intsB .u8 [.int .u8 (w 0), .int .u8 (w 1), .int .u8 (w 2), .int .u8 (w 3)] && true && true && true && m == m && decide (0 ≤ m) && decide (0 ≤ e - qR m e) && decide (e - qR m e ≤ 64) && decide (m + (e - qR m e) ≤ 32)) = true := by
      rw [b8_4 hw, beq_self_eq_true, decide_eq_true (show 0 ≤ m by omega), decide_eq_true (show 0 ≤ e - qR m e by omega), decide_eq_true (show e - qR m e ≤ 64 by omega), decide_eq_true (show m + (e - qR m e) ≤ 32 by omega)]; rfl
    exact this
  rw [w1, w2, w3', wmin, ← hG]
  have sg : ∀ g : Int, (sel (some (AEnd.ret (AV.tup [AV.int .u64 g, AV.int .i64 0]), [])) [0]).toInt = g := fun _ => rfl
  have sn : (sel (some (AEnd.ret (AV.tup [AV.int .u16 (ofN o (qR m e) p), AV.bool (ofB o (qR m e) p), AV.int .i64 (ofE o (qR m e) 0)]), [])) [0]).toInt = ofN o (qR m e) p := rfl
  by_cases hz0 : qR m e = 0
  · have hr : ofR [.int .u8 (x 0), .int .u8 (x 1), .int .u8 (x 2), .int .u8 (x 3), .int .u8 (x 4), .int .u8 (x 5), .int .u8 (x 6), .int .u8 (x 7), .int .u8 (x 8), .int .u8 (x 9), .int .u8 (x 10), .int .u8 (x 11), .int .u8 (x 12), .int .u8 (x 13), .int .u8 (x 14), .int .u8 (x 15)] [.int .u8 (z 0), .int .u8 (z 1), .int .u8 (z 2), .int .u8 (z 3)] [.int .u8 (w 0), .int .u8 (w 1), .int .u8 (w 2), .int .u8 (w 3)] n m e o p = 0 := by unfold ofR; rw [hc, hi, show (qR m e == 0) = true from by simpa using hz0]; rfl
    have hv : ofV [.int .u8 (x 0), .int .u8 (x 1), .int .u8 (x 2), .int .u8 (x 3), .int .u8 (x 4), .int .u8 (x 5), .int .u8 (x 6), .int .u8 (x 7), .int .u8 (x 8), .int .u8 (x 9), .int .u8 (x 10), .int .u8 (x 11), .int .u8 (x 12), .int .u8 (x 13), .int .u8 (x 14), .int .u8 (x 15)] [.int .u8 (z 0), .int .u8 (z 1), .int .u8 (z 2), .int .u8 (z 3)] [.int .u8 (w 0), .int .u8 (w 1), .int .u8 (w 2), .int .u8 (w 3)] n m e o p = getX [.int .u8 (w 0), .int .u8 (w 1), .int .u8 (w 2), .int .u8 (w 3)] m (e - qR m e) := by
      unfold ofV
      rw [hr, show (qR m e == 0) = true from by simpa using hz0]
      show getX [.int .u8 (w 0), .int .u8 (w 1), .int .u8 (w 2), .int .u8 (w 3)] m (e - qR m e) * 2 ^ (qR m e).toNat + 0 = _
      rw [show (qR m e).toNat = 0 by omega, Int.pow_zero, Int.mul_one, Int.add_zero]
    refine (aIf_pos ?_).trans ?_
    · rw [hqd]; simpa using (show ¬ qR m e > 0 by omega)
    · rw [hr, hv]
  · have hzf : (qR m e == 0) = false := beq_eq_false_iff_ne.2 hz0
    refine (aIf_neg ?_).trans ((aIf_pos s5).trans ?_)
    · rw [hqd]; simpa using (show qR m e > 0 by omega)
    cases hb : ofB o (qR m e) p
    · have hr : ofR [.int .u8 (x 0), .int .u8 (x 1), .int .u8 (x 2), .int .u8 (x 3), .int .u8 (x 4), .int .u8 (x 5), .int .u8 (x 6), .int .u8 (x 7), .int .u8 (x 8), .int .u8 (x 9), .int .u8 (x 10), .int .u8 (x 11), .int .u8 (x 12), .int .u8 (x 13), .int .u8 (x 14), .int .u8 (x 15)] [.int .u8 (z 0), .int .u8 (z 1), .int .u8 (z 2), .int .u8 (z 3)] [.int .u8 (w 0), .int .u8 (w 1), .int .u8 (w 2), .int .u8 (w 3)] n m e o p = 91 := by unfold ofR; rw [hc, hi, hzf, hb]; rfl
      have hv : ofV [.int .u8 (x 0), .int .u8 (x 1), .int .u8 (x 2), .int .u8 (x 3), .int .u8 (x 4), .int .u8 (x 5), .int .u8 (x 6), .int .u8 (x 7), .int .u8 (x 8), .int .u8 (x 9), .int .u8 (x 10), .int .u8 (x 11), .int .u8 (x 12), .int .u8 (x 13), .int .u8 (x 14), .int .u8 (x 15)] [.int .u8 (z 0), .int .u8 (z 1), .int .u8 (z 2), .int .u8 (z 3)] [.int .u8 (w 0), .int .u8 (w 1), .int .u8 (w 2), .int .u8 (w 3)] n m e o p = 0 := by unfold ofV; rw [hr]; rfl
      rw [hr, hv]
      rfl
    · have hr : ofR [.int .u8 (x 0), .int .u8 (x 1), .int .u8 (x 2), .int .u8 (x 3), .int .u8 (x 4), .int .u8 (x 5), .int .u8 (x 6), .int .u8 (x 7), .int .u8 (x 8), .int .u8 (x 9), .int .u8 (x 10), .int .u8 (x 11), .int .u8 (x 12), .int .u8 (x 13), .int .u8 (x 14), .int .u8 (x 15)] [.int .u8 (z 0), .int .u8 (z 1), .int .u8 (z 2), .int .u8 (z 3)] [.int .u8 (w 0), .int .u8 (w 1), .int .u8 (w 2), .int .u8 (w 3)] n m e o p = 0 := by unfold ofR; rw [hc, hi, hzf, hb]; rfl
      have hk := ofV_ok (X := [.int .u8 (x 0), .int .u8 (x 1), .int .u8 (x 2), .int .u8 (x 3), .int .u8 (x 4), .int .u8 (x 5), .int .u8 (x 6), .int .u8 (x 7), .int .u8 (x 8), .int .u8 (x 9), .int .u8 (x 10), .int .u8 (x 11), .int .u8 (x 12), .int .u8 (x 13), .int .u8 (x 14), .int .u8 (x 15)]) (Z := [.int .u8 (z 0), .int .u8 (z 1), .int .u8 (z 2), .int .u8 (z 3)]) (W := [.int .u8 (w 0), .int .u8 (w 1), .int .u8 (w 2), .int .u8 (w 3)]) rfl hp hr
      have hv : ofV [.int .u8 (x 0), .int .u8 (x 1), .int .u8 (x 2), .int .u8 (x 3), .int .u8 (x 4), .int .u8 (x 5), .int .u8 (x 6), .int .u8 (x 7), .int .u8 (x 8), .int .u8 (x 9), .int .u8 (x 10), .int .u8 (x 11), .int .u8 (x 12), .int .u8 (x 13), .int .u8 (x 14), .int .u8 (x 15)] [.int .u8 (z 0), .int .u8 (z 1), .int .u8 (z 2), .int .u8 (z 3)] [.int .u8 (w 0), .int .u8 (w 1), .int .u8 (w 2), .int .u8 (w 3)] n m e o p = getX [.int .u8 (w 0), .int .u8 (w 1), .int .u8 (w 2), .int .u8 (w 3)] m (e - qR m e) * 2 ^ (qR m e).toNat + ofN o (qR m e) p := by
        unfold ofV
        rw [hr, hzf]; rfl
      have hlt : ofN o (qR m e) p < 2 ^ (qR m e).toNat := by
        unfold ofN
        unfold ofB at hb
        rw [hb]
        exact (psid_bounds hps.1 hps.2).2.2
      have h64 := hk.2.2.1
      obtain ⟨_, _, _, _, _, _, _, _, _, _, h64, _⟩ := h64
      refine (aIf_neg rfl).trans ((aIf_neg ?_).trans ?_)
      · rw [wu]; exact decide_eq_false (by omega)
      · rw [hr, hv, wu, show min (qR m e).toNat 64 = (qR m e).toNat by omega]
        try simp only [sg]
        have hor := or_shift (g := getX [.int .u8 (w 0), .int .u8 (w 1), .int .u8 (w 2), .int .u8 (w 3)] m (e - qR m e)) (b := ofN o (qR m e) p) (q := (qR m e).toNat) (getX_range _ _ _).1 hid.1 hlt (by rw [← hv]; exact h64)
        exact congrArg (fun c => some (AEnd.ret (AV.tup [AV.int .u64 c, AV.int .i64 0]), [])) hor

/-- ferryman/ferrymanref10.set6 -/
noncomputable def T59 : List (FuncId × FSpec) := []
theorem T59_ok : TabOK Tryd.prog T59 := TabOK.nil _
noncomputable def L59_2 : ATs → AH → KC → Res := fun ts H k => match ts, H with
  | [(1, .int .i64 a), (2, .int .i64 n), (3, .int .u64 v), (4, .ptr 0 0 0), (8, .ptr 1 0 0), (9, .int .i64 j)], [.cells 0 xs, .cells 0 zs] => aIf (intsB .u8 xs && xs.length == 16 && j == 0 && decide (0 ≤ a) && decide (0 ≤ n) && decide (n ≤ 64) && decide (a + n ≤ 128) && decide (0 ≤ v) && decide (v < 18446744073709551616)) (k (.exit 0) [(1, .int .i64 a), (2, .int .i64 n), (3, .int .u64 v), (4, .ptr 0 0 0), (8, .ptr 1 0 0), (9, .int .i64 n), (13, .bool false)] [.cells 0 [.int .u8 (byteAt (orX v n.toNat a.toNat xs) 0), .int .u8 (byteAt (orX v n.toNat a.toNat xs) 1), .int .u8 (byteAt (orX v n.toNat a.toNat xs) 2), .int .u8 (byteAt (orX v n.toNat a.toNat xs) 3), .int .u8 (byteAt (orX v n.toNat a.toNat xs) 4), .int .u8 (byteAt (orX v n.toNat a.toNat xs) 5), .int .u8 (byteAt (orX v n.toNat a.toNat xs) 6), .int .u8 (byteAt (orX v n.toNat a.toNat xs) 7), .int .u8 (byteAt (orX v n.toNat a.toNat xs) 8), .int .u8 (byteAt (orX v n.toNat a.toNat xs) 9), .int .u8 (byteAt (orX v n.toNat a.toNat xs) 10), .int .u8 (byteAt (orX v n.toNat a.toNat xs) 11), .int .u8 (byteAt (orX v n.toNat a.toNat xs) 12), .int .u8 (byteAt (orX v n.toNat a.toNat xs) 13), .int .u8 (byteAt (orX v n.toNat a.toNat xs) 14), .int .u8 (byteAt (orX v n.toNat a.toNat xs) 15)], .cells 0 zs]) none
  | _, _ => none
noncomputable def C59 : Ctx := (ctx E T59 [(2, L59_2)] [(0, [1, 2, 3, 4, 8]), (1, [1, 2, 3, 4, 8, 9]), (2, [1, 2, 3, 4, 8, 9, 13]), (3, [1, 2, 3, 4, 8, 9]), (4, [1, 2, 3, 4, 8, 9, 24]), (5, [1, 2, 3, 4, 8, 9, 10]), (6, [1, 2, 3, 4, 8, 9]), (7, [8]), (1000002, [1, 2, 3, 4, 8, 9])] [] 42 70)
theorem C59_ok : CtxOK Tryd.prog C59 := ctx_ok E_ok E_flds mixed T59_ok
theorem C59_l0 : C59.loop (loopId (loopB Tryd.f59 0)) = some L59_2 := by kernel_rfl
theorem L59_2_in : LoopsOK C59 (loopB Tryd.f59 0) := LoopsOK.within 0 (by kernel_rfl) (fun j hj S hS => by
  omega)
theorem M59_2a (a n v j : Int) (xs zs : List AV) (k : KC) : headedK C59 (loopB Tryd.f59 0) [(1, .int .i64 a), (2, .int .i64 n), (3, .int .u64 v), (4, .ptr 0 0 0), (8, .ptr 1 0 0), (9, .int .i64 j)] [.cells 0 xs, .cells 0 zs] k =
  aIf (decide (j < n)) (aIf (decide (IntKind.u64.wrap (IntKind.i64.wrap (IntKind.i64.wrap (n - 1) - j)) < 0)) none (aIf (IntKind.u64.wrap (↑(BitVec.ofInt 64 (v.fdiv (2 ^ min (IntKind.u64.wrap (IntKind.i64.wrap (IntKind.i64.wrap (n - 1) - j))).toNat 64)) &&& BitVec.ofInt 64 1).toNat : Int) == 1) (aIf (decide (0 ≤ IntKind.i64.wrap ((IntKind.i64.wrap (a + j)).tdiv 8))) (aIf (decide (IntKind.i64.wrap ((IntKind.i64.wrap (a + j)).tdiv 8) < 16)) (aIf (decide (0 + (IntKind.i64.wrap ((IntKind.i64.wrap (a + j)).tdiv 8)).toNat * 1 + 1 ≤ xs.length)) (aIf ((xs.getD (0 + (IntKind.i64.wrap ((IntKind.i64.wrap (a + j)).tdiv 8)).toNat * 1) AV.junk).isInt IntKind.u8) (aIf (decide (IntKind.u64.wrap (IntKind.i64.wrap (7 - (IntKind.i64.wrap (a + j)).tmod 8)) < 0)) none (aIf (decide (0 ≤ IntKind.i64.wrap ((IntKind.i64.wrap (a + j)).tdiv 8))) (aIf (decide (IntKind.i64.wrap ((IntKind.i64.wrap (a + j)).tdiv 8) < 16)) (aIf (decide (0 + (IntKind.i64.wrap ((IntKind.i64.wrap (a + j)).tdiv 8)).toNat * 1 + 1 ≤ xs.length)) (k AExit.normal [(1, AV.int IntKind.i64 a), (2, AV.int IntKind.i64 n), (3, AV.int IntKind.u64 v), (4, AV.ptr 0 0 0), (8, AV.ptr 1 0 0), (9, AV.int IntKind.i64 (IntKind.i64.wrap (j + 1)))] [AO.cells 0 (xs.set (0 + (IntKind.i64.wrap ((IntKind.i64.wrap (a + j)).tdiv 8)).toNat * 1) (AV.int IntKind.u8 (IntKind.u8.wrap (↑(BitVec.ofInt 8 (xs.getD (0 + (IntKind.i64.wrap ((IntKind.i64.wrap (a + j)).tdiv 8)).toNat * 1) AV.junk).toInt ||| BitVec.ofInt 8 (IntKind.u8.wrap (1 * 2 ^ min (IntKind.u64.wrap (IntKind.i64.wrap (7 - (IntKind.i64.wrap (a + j)).tmod 8))).toNat 8))).toNat : Int)))), AO.cells 0 zs]) none) none) none)) none) none) none) none) (k AExit.normal [(1, AV.int IntKind.i64 a), (2, AV.int IntKind.i64 n), (3, AV.int IntKind.u64 v), (4, AV.ptr 0 0 0), (8, AV.ptr 1 0 0), (9, AV.int IntKind.i64 (IntKind.i64.wrap (j + 1)))] [AO.cells 0 xs, AO.cells 0 zs]))) (k (AExit.exit 0) [(1, AV.int IntKind.i64 a), (2, AV.int IntKind.i64 n), (3, AV.int IntKind.u64 v), (4, AV.ptr 0 0 0), (8, AV.ptr 1 0 0), (9, AV.int IntKind.i64 j), (13, AV.bool (decide (j < n)))] [AO.cells 0 xs, AO.cells 0 zs]) := by kernel_rfl
theorem L59_2_ok : LoopSum C59 (loopB Tryd.f59 0) L59_2 := LoopSum.of C59_ok L59_2_in (fun ts H => by
  unfold L59_2
  split
  · rename_i a n v j xs zs
    rcases Bool.eq_false_or_eq_true (intsB .u8 xs && xs.length == 16 && j == 0 && decide (0 ≤ a) && decide (0 ≤ n) && decide (n ≤ 64) && decide (a + n ≤ 128) && decide (0 ≤ v) && decide (v < 18446744073709551616)) with hp | hp
    · refine .inr ?_
      simp only [aIf_pos hp]
      simp only [Bool.and_eq_true, decide_eq_true_eq, beq_iff_eq] at hp
      obtain ⟨⟨⟨⟨⟨⟨⟨⟨hu, hL⟩, rfl⟩, a0⟩, n0⟩, n1⟩, an⟩, v0⟩, v1⟩ := hp
      obtain ⟨a, rfl⟩ := Int.eq_ofNat_of_zero_le a0
      obtain ⟨n, rfl⟩ := Int.eq_ofNat_of_zero_le n0
      have key : ∀ (j : Nat) (ys : List AV), j < n → (intsB .u8 ys = true ∧ ys.length = 16) → (intsB .u8 (orV v n a j ys) = true ∧ (orV v n a j ys).length = 16) ∧ ∀ k, headedK C59 (loopB Tryd.f59 0) [(1, .int .i64 (a : Int)), (2, .int .i64 (n : Int)), (3, .int .u64 v), (4, .ptr 0 0 0), (8, .ptr 1 0 0), (9, .int .i64 (j : Int))] [.cells 0 ys, .cells 0 zs] k = k .normal [(1, .int .i64 (a : Int)), (2, .int .i64 (n : Int)), (3, .int .u64 v), (4, .ptr 0 0 0), (8, .ptr 1 0 0), (9, .int .i64 ((j + 1 : Nat) : Int))] [.cells 0 (orV v n a j ys), .cells 0 zs] := by
        intro j ys hj hys
        obtain ⟨hu, hL⟩ := hys
        have hor := orV_ok v n a j hu
        refine ⟨⟨hor.1, hor.2.trans hL⟩, fun k => ?_⟩
        obtain ⟨x, hx, he⟩ := u8_get hu ((a + j) / 8) (by omega)
        have h2 : 0 ≤ v / 2 ^ (n - 1 - j) := Int.ediv_nonneg v0 (Int.le_of_lt (Int.pow_pos (by decide)))
        have h3 : v / 2 ^ (n - 1 - j) < 18446744073709551616 := (shr_range v0 v1 (n - 1 - j)).2
        have h4 : IntKind.u64.wrap (v / 2 ^ (n - 1 - j) % 2) = vbit v n j := u64n (by omega) (by omega)
        rw [M59_2a]
        simp only [decide_eq_true (show (j : Int) < n by omega), sh_n1 hj (by omega), u64nn (show n - 1 - j < 18446744073709551616 by omega), show min (n - 1 - j) 64 = n - 1 - j by omega, shr_eq, and1 h2 h3, h4, i64a (show a + j < 9223372036854775808 by omega), div8 (show a + j < 9223372036854775808 by omega), sh7 (a + j), u64nn (show 7 - (a + j) % 8 < 18446744073709551616 by omega),
          decide_eq_true (show (((a + j) / 8 : Nat) : Int) < 16 by omega), decide_eq_true (show (a + j) / 8 + 1 ≤ ys.length by omega), show min (7 - (a + j) % 8) 8 = 7 - (a + j) % 8 by omega, he, or8 hx (show 7 - (a + j) % 8 < 8 by omega), u8pow (show 7 - (a + j) % 8 < 8 by omega), i64s (show j + 1 < 9223372036854775808 by omega), Int.toNat_natCast, Nat.zero_add, Nat.mul_one, Int.one_mul, isInt_self, AV.toInt, dnn, dnn', aIf_true, aIf_false]
        unfold orV
        cases hv : vbit v n j == 1
        · rfl
        · simp only [aIf_true, cond_true, setV, he, AV.toInt]
      have hl : orX v n a xs = foldF (orV v n a) n 0 xs := rfl
      simp only [Int.toNat_natCast]
      rw [hl]
      exact (iter_fold (N := n) (ts := fun j _ => [(1, .int .i64 (a : Int)), (2, .int .i64 (n : Int)), (3, .int .u64 v), (4, .ptr 0 0 0), (8, .ptr 1 0 0), (9, .int .i64 (j : Int))]) (H := fun _ ys => [.cells 0 ys, .cells 0 zs]) (f := orV v n a) (I := fun _ ys => intsB .u8 ys = true ∧ ys.length = 16) (te := fun _ => [(1, .int .i64 (a : Int)), (2, .int .i64 (n : Int)), (3, .int .u64 v), (4, .ptr 0 0 0), (8, .ptr 1 0 0), (9, .int .i64 (n : Int)), (13, .bool false)]) (He := fun ys => [.cells 0 [.int .u8 (byteAt ys 0), .int .u8 (byteAt ys 1), .int .u8 (byteAt ys 2), .int .u8 (byteAt ys 3), .int .u8 (byteAt ys 4), .int .u8 (byteAt ys 5), .int .u8 (byteAt ys 6), .int .u8 (byteAt ys 7), .int .u8 (byteAt ys 8), .int .u8 (byteAt ys 9), .int .u8 (byteAt ys 10), .int .u8 (byteAt ys 11), .int .u8 (byteAt ys 12), .int .u8 (byteAt ys 13), .int .u8 (byteAt ys 14), .int .u8 (byteAt ys 15)], .cells 0 zs])
        key (fun ys hI k => by rw [M59_2a, dltf]; exact congrArg (fun c => k (.exit 0) [(1, .int .i64 (a : Int)), (2, .int .i64 (n : Int)), (3, .int .u64 v), (4, .ptr 0 0 0), (8, .ptr 1 0 0), (9, .int .i64 (n : Int)), (13, .bool false)] [.cells 0 c, .cells 0 zs]) (bytes16 hI.1 hI.2)) (by intro h; cases h) n 0 xs (by omega) ⟨hu, hL⟩).imp fun m hm k => (hm k).symm
    · exact .inl fun k => by rw [aIf_neg hp]
  · exact .inl fun k => rfl)
theorem C59_loops : ∀ c, Tryd.f59.body = some c → LoopsOK C59 c := LoopsOK.of 1 (by kernel_rfl) (fun j hj S hS => by
  match j, hj with
  | 0, _ => rw [C59_l0] at hS; cases hS; exact L59_2_ok
  | n + 1, hj => omega)
noncomputable def S59 : FSpec := inlineK C59 Tryd.f59
theorem S59_ok : SpecOK Tryd.prog 59 S59 := inlineK_ok C59_ok Tryd.func59 C59_loops
theorem En59 : Enters Tryd.prog 59 := ⟨_, Tryd.func59, by decide, rfl⟩
theorem R59_ex : ∃ R : List AV → Res, ∀ args, R args = S59 args [] encK := ⟨_, fun _ => rfl⟩
noncomputable def R59 : List AV → Res := Classical.choose R59_ex
theorem R59_eq (args : List AV) : R59 args = S59 args [] encK := Classical.choose_spec R59_ex args
noncomputable def V59 : FSpec := leafK (.agg [.int .u8, .int .u8, .int .u8, .int .u8, .int .u8, .int .u8, .int .u8, .int .u8, .int .u8, .int .u8, .int .u8, .int .u8, .int .u8, .int .u8, .int .u8, .int .u8]) R59
theorem V59_ok : SpecOK Tryd.prog 59 V59 := leafK_ok S59_ok R59_eq
theorem N59 (x : Nat → Int) (a n v : Int) : S59 [.agg [.int .u8 (x 0), .int .u8 (x 1), .int .u8 (x 2), .int .u8 (x 3), .int .u8 (x 4), .int .u8 (x 5), .int .u8 (x 6), .int .u8 (x 7), .int .u8 (x 8), .int .u8 (x 9), .int .u8 (x 10), .int .u8 (x 11), .int .u8 (x 12), .int .u8 (x 13), .int .u8 (x 14), .int .u8 (x 15)], .int .i64 a, .int .i64 n, .int .u64 v] [] encK =
  aIf (true && (decide (0 ≤ x 0) && decide (x 0 ≤ 255)) && (true && (decide (0 ≤ x 1) && decide (x 1 ≤ 255)) && (true && (decide (0 ≤ x 2) && decide (x 2 ≤ 255)) && (true && (decide (0 ≤ x 3) && decide (x 3 ≤ 255)) && (true && (decide (0 ≤ x 4) && decide (x 4 ≤ 255)) && (true && (decide (0 ≤ x 5) && decide (x 5 ≤ 255)) && (true && (decide (0 ≤ x 6) && decide (x 6 ≤ 255)) && (true && (decide (0 ≤ x 7) && decide (x 7 ≤ 255)) && (true && (decide (0 ≤ x 8) && decide (x 8 ≤ 255)) && (true && (decide (0 ≤ x 9) && decide (x 9 ≤ 255)) && (true && (decide (0 ≤ x 10) && decide (x 10 ≤ 255)) && (true && (decide (0 ≤ x 11) && decide (x 11 ≤ 255)) && (true && (decide (0 ≤ x 12) && decide (x 12 ≤ 255)) && (true && (decide (0 ≤ x 13) && decide (x 13 ≤ 255)) && (true && (decide (0 ≤ x 14) && decide (x 14 ≤ 255)) && (true && (decide (0 ≤ x 15) && decide (x 15 ≤ 255)) && true))))))))))))))) && true && true && decide (0 ≤ a) && decide (0 ≤ n) && decide (n ≤ 64) && decide (a + n ≤ 128) && decide (0 ≤ v) && decide (v < 18446744073709551616)) (some (AEnd.ret (AV.agg [AV.int IntKind.u8 (Pl.byteAt (Pl.orX v n.toNat a.toNat [AV.int IntKind.u8 (x 0), AV.int IntKind.u8 (x 1), AV.int IntKind.u8 (x 2), AV.int IntKind.u8 (x 3), AV.int IntKind.u8 (x 4), AV.int IntKind.u8 (x 5), AV.int IntKind.u8 (x 6), AV.int IntKind.u8 (x 7), AV.int IntKind.u8 (x 8), AV.int IntKind.u8 (x 9), AV.int IntKind.u8 (x 10), AV.int IntKind.u8 (x 11), AV.int IntKind.u8 (x 12), AV.int IntKind.u8 (x 13), AV.int IntKind.u8 (x 14), AV.int IntKind.u8 (x 15)]) 0), AV.int IntKind.u8 (Pl.byteAt (Pl.orX v n.toNat a.toNat [AV.int IntKind.u8 (x 0), AV.int IntKind.u8 (x 1), AV.int IntKind.u8 (x 2), AV.int IntKind.u8 (x 3), AV.int IntKind.u8 (x 4), AV.int IntKind.u8 (x 5), AV.int IntKind.u8 (x 6), AV.int IntKind.u8 (x 7), AV.int IntKind.u8 (x 8), AV.int IntKind.u8 (x 9), AV.int IntKind.u8 (x 10), AV.int IntKind.u8 (x 11), AV.int IntKind.u8 (x 12), AV.int IntKind.u8 (x 13), AV.int IntKind.u8 (x 14), AV.int IntKind.u8 (x 15)]) 1), AV.int IntKind.u8 (Pl.byteAt (Pl.orX v n.toNat a.toNat [AV.int IntKind.u8 (x 0), AV.int IntKind.u8 (x 1), AV.int IntKind.u8 (x 2), AV.int IntKind.u8 (x 3), AV.int IntKind.u8 (x 4), AV.int IntKind.u8 (x 5), AV.int IntKind.u8 (x 6), AV.int IntKind.u8 (x 7), AV.int IntKind.u8 (x 8), AV.int IntKind.u8 (x 9), AV.int IntKind.u8 (x 10), AV.int IntKind.u8 (x 11), AV.int IntKind.u8 (x 12), AV.int IntKind.u8 (x 13), AV.int IntKind.u8 (x 14), AV.int IntKind.u8 (x 15)]) 2), AV.int IntKind.u8 (Pl.byteAt (Pl.orX v n.toNat a.toNat [AV.int IntKind.u8 (x 0), AV.int IntKind.u8 (x 1), AV.int IntKind.u8 (x 2), AV.int IntKind.u8 (x 3), AV.int IntKind.u8 (x 4), AV.int IntKind.u8 (x 5), AV.int IntKind.u8 (x 6), AV.int IntKind.u8 (x 7), AV.int IntKind.u8 (x 8), AV.int IntKind.u8 (x 9), AV.int IntKind.u8 (x 10), AV.int IntKind.u8 (x 11), AV.int IntKind.u8 (x 12), AV.int IntKind.u8 (x 13), AV.int IntKind.u8 (x 14), AV.int IntKind.u8 (x 15)]) 3), AV.int IntKind.u8 (Pl.byteAt (Pl.orX v n.toNat a.toNat [AV.int IntKind.u8 (x 0), AV.int IntKind.u8 (x 1), AV.int IntKind.u8 (x 2), AV.int IntKind.u8 (x 3), AV.int IntKind.u8 (x 4), AV.int IntKind.u8 (x 5), AV.int IntKind.u8 (x 6), AV.int IntKind.u8 (x 7), AV.int IntKind.u8 (x 8), AV.int IntKind.u8 (x 9), AV.int IntKind.u8 (x 10), AV.int IntKind.u8 (x 11), AV.int IntKind.u8 (x 12), AV.int IntKind.u8 (x 13), AV.int IntKind.u8 (x 14), AV.int IntKind.u8 (x 15)]) 4), AV.int IntKind.u8 (Pl.byteAt (Pl.orX v n.toNat a.toNat [AV.int IntKind.u8 (x 0), AV.int IntKind.u8 (x 1), AV.int IntKind.u8 (x 2), AV.int IntKind.u8 (x 3), AV.int IntKind.u8 (x 4), AV.int IntKind.u8 (x 5), AV.int IntKind.u8 (x 6), AV.int IntKind.u8 (x 7), AV.int IntKind.u8 (x 8), AV.int IntKind.u8 (x 9), AV.int IntKind.u8 (x 10), AV.int IntKind.u8 (x 11), AV.int IntKind.u8 (x 12), AV.int IntKind.u8 (x 13), AV.int IntKind.u8 (x 14), AV.int IntKind.u8 (x 15)]) 5), AV.int IntKind.u8 (Pl.byteAt (Pl.orX v n.toNat a.toNat [AV.int IntKind.u8 (x 0), AV.int IntKind.u8 (x 1), AV.int IntKind.u8 (x 2), AV.int IntKind.u8 (x 3), AV.int IntKind.u8 (x 4), AV.int IntKind.u8 (x 5), AV.int IntKind.u8 (x 6), AV.int IntKind.u8 (x 7), AV.int IntKind.u8 (x 8), AV.int IntKind.u8 (x 9), AV.int IntKind.u8 (x 10), AV.int IntKind.u8 (x 11), AV.int IntKind.u8 (x 12), AV.int IntKind.u8 (x 13), AV.int IntKind.u8 (x 14), AV.int IntKind.u8 (x 15)]) 6), AV.int IntKind.u8 (Pl.byteAt (Pl.orX v n.toNat a.toNat [AV.int IntKind.u8 (x 0), AV.int IntKind.u8 (x 1), AV.int IntKind.u8 (x 2), AV.int IntKind.u8 (x 3), AV.int IntKind.u8 (x 4), AV.int IntKind.u8 (x 5), AV.int IntKind.u8 (x 6), AV.int IntKind.u8 (x 7), AV.int IntKind.u8 (x 8), AV.int IntKind.u8 (x 9), AV.int IntKind.u8 (x 10), AV.int IntKind.u8 (x 11), AV.int IntKind.u8 (x 12), AV.int IntKind.u8 (x 13), AV.int IntKind.u8 (x 14), AV.int IntKind.u8 (x 15)]) 7), AV.int IntKind.u8 (Pl.byteAt (Pl.orX v n.toNat a.toNat [AV.int IntKind.u8 (x 0), AV.int IntKind.u8 (x 1), AV.int IntKind.u8 (x 2), AV.int IntKind.u8 (x 3), AV.int IntKind.u8 (x 4), AV.int IntKind.u8 (x 5), AV.int IntKind.u8 (x 6), AV.int IntKind.u8 (x 7), AV.int IntKind.u8 (x 8), AV.int IntKind.u8 (x 9), AV.int IntKind.u8 (x 10), AV.int IntKind.u8 (x 11), AV.int IntKind.u8 (x 12), AV.int IntKind.u8 (x 13), AV.int IntKind.u8 (x 14), AV.int IntKind.u8 (x 15)]) 8), AV.int IntKind.u8 (Pl.byteAt (Pl.orX v n.toNat a.toNat [AV.int IntKind.u8 (x 0), AV.int IntKind.u8 (x 1), AV.int IntKind.u8 (x 2), AV.int IntKind.u8 (x 3), AV.int IntKind.u8 (x 4), AV.int IntKind.u8 (x 5), AV.int IntKind.u8 (x 6), AV.int IntKind.u8 (x 7), AV.int IntKind.u8 (x 8), AV.int IntKind.u8 (x 9), AV.int IntKind.u8 (x 10), AV.int IntKind.u8 (x 11), AV.int IntKind.u8 (x 12), AV.int IntKind.u8 (x 13), AV.int IntKind.u8 (x 14), AV.int IntKind.u8 (x 15)]) 9), AV.int IntKind.u8 (Pl.byteAt (Pl.orX v n.toNat a.toNat [AV.int IntKind.u8 (x 0), AV.int IntKind.u8 (x 1), AV.int IntKind.u8 (x 2), AV.int IntKind.u8 (x 3), AV.int IntKind.u8 (x 4), AV.int IntKind.u8 (x 5), AV.int IntKind.u8 (x 6), AV.int IntKind.u8 (x 7), AV.int IntKind.u8 (x 8), AV.int IntKind.u8 (x 9), AV.int IntKind.u8 (x 10), AV.int IntKind.u8 (x 11), AV.int IntKind.u8 (x 12), AV.int IntKind.u8 (x 13), AV.int IntKind.u8 (x 14), AV.int IntKind.u8 (x 15)]) 10), AV.int IntKind.u8 (Pl.byteAt (Pl.orX v n.toNat a.toNat [AV.int IntKind.u8 (x 0), AV.int IntKind.u8 (x 1), AV.int IntKind.u8 (x 2), AV.int IntKind.u8 (x 3), AV.int IntKind.u8 (x 4), AV.int IntKind.u8 (x 5), AV.int IntKind.u8 (x 6), AV.int IntKind.u8 (x 7), AV.int IntKind.u8 (x 8), AV.int IntKind.u8 (x 9), AV.int IntKind.u8 (x 10), AV.int IntKind.u8 (x 11), AV.int IntKind.u8 (x 12), AV.int IntKind.u8 (x 13), AV.int IntKind.u8 (x 14), AV.int IntKind.u8 (x 15)]) 11), AV.int IntKind.u8 (Pl.byteAt (Pl.orX v n.toNat a.toNat [AV.int IntKind.u8 (x 0), AV.int IntKind.u8 (x 1), AV.int IntKind.u8 (x 2), AV.int IntKind.u8 (x 3), AV.int IntKind.u8 (x 4), AV.int IntKind.u8 (x 5), AV.int IntKind.u8 (x 6), AV.int IntKind.u8 (x 7), AV.int IntKind.u8 (x 8), AV.int IntKind.u8 (x 9), AV.int IntKind.u8 (x 10), AV.int IntKind.u8 (x 11), AV.int IntKind.u8 (x 12), AV.int IntKind.u8 (x 13), AV.int IntKind.u8 (x 14), AV.int IntKind.u8 (x 15)]) 12), AV.int IntKind.u8 (Pl.byteAt (Pl.orX v n.toNat a.toNat [AV.int IntKind.u8 (x 0), AV.int IntKind.u8 (x 1), AV.int IntKind.u8 (x 2), AV.int IntKind.u8 (x 3), AV.int IntKind.u8 (x 4), AV.int IntKind.u8 (x 5), AV.int IntKind.u8 (x 6), AV.int IntKind.u8 (x 7), AV.int IntKind.u8 (x 8), AV.int IntKind.u8 (x 9), AV.int IntKind.u8 (x 10), AV.int IntKind.u8 (x 11), AV.int IntKind.u8 (x 12), AV.int IntKind.u8 (x 13), AV.int IntKind.u8 (x 14), AV.int IntKind.u8 (x 15)]) 13), AV.int IntKind.u8 (Pl.byteAt (Pl.orX v n.toNat a.toNat [AV.int IntKind.u8 (x 0), AV.int IntKind.u8 (x 1), AV.int IntKind.u8 (x 2), AV.int IntKind.u8 (x 3), AV.int IntKind.u8 (x 4), AV.int IntKind.u8 (x 5), AV.int IntKind.u8 (x 6), AV.int IntKind.u8 (x 7), AV.int IntKind.u8 (x 8), AV.int IntKind.u8 (x 9), AV.int IntKind.u8 (x 10), AV.int IntKind.u8 (x 11), AV.int IntKind.u8 (x 12), AV.int IntKind.u8 (x 13), AV.int IntKind.u8 (x 14), AV.int IntKind.u8 (x 15)]) 14), AV.int IntKind.u8 (Pl.byteAt (Pl.orX v n.toNat a.toNat [AV.int IntKind.u8 (x 0), AV.int IntKind.u8 (x 1), AV.int IntKind.u8 (x 2), AV.int IntKind.u8 (x 3), AV.int IntKind.u8 (x 4), AV.int IntKind.u8 (x 5), AV.int IntKind.u8 (x 6), AV.int IntKind.u8 (x 7), AV.int IntKind.u8 (x 8), AV.int IntKind.u8 (x 9), AV.int IntKind.u8 (x 10), AV.int IntKind.u8 (x 11), AV.int IntKind.u8 (x 12), AV.int IntKind.u8 (x 13), AV.int IntKind.u8 (x 14), AV.int IntKind.u8 (x 15)]) 15)]), [])) none := by kernel_rfl
theorem R59_is {x : Nat → Int} {a n v : Int} (hx : b8 x) (a0 : 0 ≤ a) (n0 : 0 ≤ n) (n1 : n ≤ 64) (an : a + n ≤ 128) (v0 : 0 ≤ v) (v1 : v < 18446744073709551616) : R59 [.agg [.int .u8 (x 0), .int .u8 (x 1), .int .u8 (x 2), .int .u8 (x 3), .int .u8 (x 4), .int .u8 (x 5), .int .u8 (x 6), .int .u8 (x 7), .int .u8 (x 8), .int .u8 (x 9), .int .u8 (x 10), .int .u8 (x 11), .int .u8 (x 12), .int .u8 (x 13), .int .u8 (x 14), .int .u8 (x 15)], .int .i64 a, .int .i64 n, .int .u64 v] = some (.ret (.agg [.int .u8 (byteAt (orX v n.toNat a.toNat [.int .u8 (x 0), .int .u8 (x 1), .int .u8 (x 2), .int .u8 (x 3), .int .u8 (x 4), .int .u8 (x 5), .int .u8 (x 6), .int .u8 (x 7), .int .u8 (x 8), .int .u8 (x 9), .int .u8 (x 10), .int .u8 (x 11), .int .u8 (x 12), .int .u8 (x 13), .int .u8 (x 14), .int .u8 (x 15)]) 0), .int .u8 (byteAt (orX v n.toNat a.toNat [.int .u8 (x 0), .int .u8 (x 1), .int .u8 (x 2), .int .u8 (x 3), .int .u8 (x 4), .int .u8 (x 5), .int .u8 (x 6), .int .u8 (x 7), .int .u8 (x 8), .int .u8 (x 9), .int .u8 (x 10), .int .u8 (x 11), .int .u8 (x 12), .int .u8 (x 13), .int .u8 (x 14), .int .u8 (x 15)]) 1), .int .u8 (byteAt (orX v n.toNat a.toNat [.int .u8 (x 0), .int .u8 (x 1), .int .u8 (x 2), .int .u8 (x 3), .int .u8 (x 4), .int .u8 (x 5), .int .u8 (x 6), .int .u8 (x 7), .int .u8 (x 8), .int .u8 (x 9), .int .u8 (x 10), .int .u8 (x 11), .int .u8 (x 12), .int .u8 (x 13), .int .u8 (x 14), .int .u8 (x 15)]) 2), .int .u8 (byteAt (orX v n.toNat a.toNat [.int .u8 (x 0), .int .u8 (x 1), .int .u8 (x 2), .int .u8 (x 3), .int .u8 (x 4), .int .u8 (x 5), .int .u8 (x 6), .int .u8 (x 7), .int .u8 (x 8), .int .u8 (x 9), .int .u8 (x 10), .int .u8 (x 11), .int .u8 (x 12), .int .u8 (x 13), .int .u8 (x 14), .int .u8 (x 15)]) 3), .int .u8 (byteAt (orX v n.toNat a.toNat [.int .u8 (x 0), .int .u8 (x 1), .int .u8 (x 2), .int .u8 (x 3), .int .u8 (x 4), .int .u8 (x 5), .int .u8 (x 6), .int .u8 (x 7), .int .u8 (x 8), .int .u8 (x 9), .int .u8 (x 10), .int .u8 (x 11), .int .u8 (x 12), .int .u8 (x 13), .int .u8 (x 14), .int .u8 (x 15)]) 4), .int .u8 (byteAt (orX v n.toNat a.toNat [.int .u8 (x 0), .int .u8 (x 1), .int .u8 (x 2), .int .u8 (x 3), .int .u8 (x 4), .int .u8 (x 5), .int .u8 (x 6), .int .u8 (x 7), .int .u8 (x 8), .int .u8 (x 9), .int .u8 (x 10), .int .u8 (x 11), .int .u8 (x 12), .int .u8 (x 13), .int .u8 (x 14), .int .u8 (x 15)]) 5), .int .u8 (byteAt (orX v n.toNat a.toNat [.int .u8 (x 0), .int .u8 (x 1), .int .u8 (x 2), .int .u8 (x 3), .int .u8 (x 4), .int .u8 (x 5), .int .u8 (x 6), .int .u8 (x 7), .int .u8 (x 8), .int .u8 (x 9), .int .u8 (x 10), .int .u8 (x 11), .int .u8 (x 12), .int .u8 (x 13), .int .u8 (x 14), .int .u8 (x 15)]) 6), .int .u8 (byteAt (orX v n.toNat a.toNat [.int .u8 (x 0), .int .u8 (x 1), .int .u8 (x 2), .int .u8 (x 3), .int .u8 (x 4), .int .u8 (x 5), .int .u8 (x 6), .int .u8 (x 7), .int .u8 (x 8), .int .u8 (x 9), .int .u8 (x 10), .int .u8 (x 11), .int .u8 (x 12), .int .u8 (x 13), .int .u8 (x 14), .int .u8 (x 15)]) 7), .int .u8 (byteAt (orX v n.toNat a.toNat [.int .u8 (x 0), .int .u8 (x 1), .int .u8 (x 2), .int .u8 (x 3), .int .u8 (x 4), .int .u8 (x 5), .int .u8 (x 6), .int .u8 (x 7), .int .u8 (x 8), .int .u8 (x 9), .int .u8 (x 10), .int .u8 (x 11), .int .u8 (x 12), .int .u8 (x 13), .int .u8 (x 14), .int .u8 (x 15)]) 8), .int .u8 (byteAt (orX v n.toNat a.toNat [.int .u8 (x 0), .int .u8 (x 1), .int .u8 (x 2), .int .u8 (x 3), .int .u8 (x 4), .int .u8 (x 5), .int .u8 (x 6), .int .u8 (x 7), .int .u8 (x 8), .int .u8 (x 9), .int .u8 (x 10), .int .u8 (x 11), .int .u8 (x 12), .int .u8 (x 13), .int .u8 (x 14), .int .u8 (x 15)]) 9), .int .u8 (byteAt (orX v n.toNat a.toNat [.int .u8 (x 0), .int .u8 (x 1), .int .u8 (x 2), .int .u8 (x 3), .int .u8 (x 4), .int .u8 (x 5), .int .u8 (x 6), .int .u8 (x 7), .int .u8 (x 8), .int .u8 (x 9), .int .u8 (x 10), .int .u8 (x 11), .int .u8 (x 12), .int .u8 (x 13), .int .u8 (x 14), .int .u8 (x 15)]) 10), .int .u8 (byteAt (orX v n.toNat a.toNat [.int .u8 (x 0), .int .u8 (x 1), .int .u8 (x 2), .int .u8 (x 3), .int .u8 (x 4), .int .u8 (x 5), .int .u8 (x 6), .int .u8 (x 7), .int .u8 (x 8), .int .u8 (x 9), .int .u8 (x 10), .int .u8 (x 11), .int .u8 (x 12), .int .u8 (x 13), .int .u8 (x 14), .int .u8 (x 15)]) 11), .int .u8 (byteAt (orX v n.toNat a.toNat [.int .u8 (x 0), .int .u8 (x 1), .int .u8 (x 2), .int .u8 (x 3), .int .u8 (x 4), .int .u8 (x 5), .int .u8 (x 6), .int .u8 (x 7), .int .u8 (x 8), .int .u8 (x 9), .int .u8 (x 10), .int .u8 (x 11), .int .u8 (x 12), .int .u8 (x 13), .int .u8 (x 14), .int .u8 (x 15)]) 12), .int .u8 (byteAt (orX v n.toNat a.toNat [.int .u8 (x 0), .int .u8 (x 1), .int .u8 (x 2), .int .u8 (x 3), .int .u8 (x 4), .int .u8 (x 5), .int .u8 (x 6), .int .u8 (x 7), .int .u8 (x 8), .int .u8 (x 9), .int .u8 (x 10), .int .u8 (x 11), .int .u8 (x 12), .int .u8 (x 13), .int .u8 (x 14), .int .u8 (x 15)]) 13), .int .u8 (byteAt (orX v n.toNat a.toNat [.int .u8 (x 0), .int .u8 (x 1), .int .u8 (x 2), .int .u8 (x 3), .int .u8 (x 4), .int .u8 (x 5), .int .u8 (x 6), .int .u8 (x 7), .int .u8 (x 8), .int .u8 (x 9), .int .u8 (x 10), .int .u8 (x 11), .int .u8 (x 12), .int .u8 (x 13), .int .u8 (x 14), .int .u8 (x 15)]) 14), .int .u8 (byteAt (orX v n.toNat a.toNat [.int .u8 (x 0), .int .u8 (x 1), .int .u8 (x 2), .int .u8 (x 3), .int .u8 (x 4), .int .u8 (x 5), .int .u8 (x 6), .int .u8 (x 7), .int .u8 (x 8), .int .u8 (x 9), .int .u8 (x 10), .int .u8 (x 11), .int .u8 (x 12), .int .u8 (x 13), .int .u8 (x 14), .int .u8 (x 15)]) 15)]), []) := by
  refine (R59_eq _).trans ?_
  rw [N59]
  refine aIf_pos ?_
  have : (intsB .u8 [.int .u8 (x 0), .int .u8 (x 1), .int .u8 (x 2), .int .u8 (x 3), .int .u8 (x 4), .int .u8 (x 5), .int .u8 (x 6), .int .u8 (x 7), .int .u8 (x 8), .int .u8 (x 9), .int .u8 (x 10), .int .u8 (x 11), .int .u8 (x 12), .int .u8 (x 13), .int .u8 (x 14), .int .u8 (x 15)] && ([.int .u8 (x 0), .int .u8 (x 1), .int .u8 (x 2), .int .u8 (x 3), .int .u8 (x 4), .int .u8 (x 5), .int .u8 (x 6), .int .u8 (x 7), .int .u8 (x 8), .int .u8 (x 9), .int .u8 (x 10), .int .u8 (x 11), .int .u8 (x 12), .int .u8 (x 13), .int .u8 (x 14), .int .u8 (x 15)] : List AV).length == 16 && (0 : Int) == 0 && decide (0 ≤ a) && decide (0 ≤ n) && decide (n ≤ 64) && decide (a + n ≤ 128) && decide (0 ≤ v) && decide (v < 18446744073709551616)) = true := by rw [b8_16 hx, decide_eq_true a0, decide_eq_true n0, decide_eq_true n1, decide_eq_true an, decide_eq_true v0, decide_eq_true v1]; rfl
  exact this
theorem R59_at {x : Nat → Int} {xs : List AV} {a n v : Int} (e : xs = [.int .u8 (x 0), .int .u8 (x 1), .int .u8 (x 2), .int .u8 (x 3), .int .u8 (x 4), .int .u8 (x 5), .int .u8 (x 6), .int .u8 (x 7), .int .u8 (x 8), .int .u8 (x 9), .int .u8 (x 10), .int .u8 (x 11), .int .u8 (x 12), .int .u8 (x 13), .int .u8 (x 14), .int .u8 (x 15)]) (hx : b8 x) (a0 : 0 ≤ a) (n0 : 0 ≤ n) (n1 : n ≤ 64) (an : a + n ≤ 128) (v0 : 0 ≤ v) (v1 : v < 18446744073709551616) : R59 [.agg xs, .int .i64 a, .int .i64 n, .int .u64 v] = some (.ret (.agg (orX v n.toNat a.toNat xs)), []) := by
  subst e
  rw [R59_is hx a0 n0 n1 an v0 v1]
  have h := orF_bit v n.toNat a.toNat n.toNat 0 [.int .u8 (x 0), .int .u8 (x 1), .int .u8 (x 2), .int .u8 (x 3), .int .u8 (x 4), .int .u8 (x 5), .int .u8 (x 6), .int .u8 (x 7), .int .u8 (x 8), .int .u8 (x 9), .int .u8 (x 10), .int .u8 (x 11), .int .u8 (x 12), .int .u8 (x 13), .int .u8 (x 14), .int .u8 (x 15)] (b8_16 hx) (by show _ ≤ 8 * 16; omega)
  exact congrArg (fun c => some (AEnd.ret (AV.agg c), [])) (bytes16 h.1 h.2.1).symm
theorem R59_by {xs : List AV} {a n v : Int} (hu : intsB .u8 xs = true) (hl : xs.length = 16) (a0 : 0 ≤ a) (n0 : 0 ≤ n) (n1 : n ≤ 64) (an : a + n ≤ 128) (v0 : 0 ≤ v) (v1 : v < 18446744073709551616) : R59 [.agg [.int .u8 (byteAt xs 0), .int .u8 (byteAt xs 1), .int .u8 (byteAt xs 2), .int .u8 (byteAt xs 3), .int .u8 (byteAt xs 4), .int .u8 (byteAt xs 5), .int .u8 (byteAt xs 6), .int .u8 (byteAt xs 7), .int .u8 (byteAt xs 8), .int .u8 (byteAt xs 9), .int .u8 (byteAt xs 10), .int .u8 (byteAt xs 11), .int .u8 (byteAt xs 12), .int .u8 (byteAt xs 13), .int .u8 (byteAt xs 14), .int .u8 (byteAt xs 15)], .int .i64 a, .int .i64 n, .int .u64 v] = some (.ret (.agg (orX v n.toNat a.toNat xs)), []) :=
  Eq.trans (congrArg (fun c => R59 [.agg c, .int .i64 a, .int .i64 n, .int .u64 v]) (bytes16 hu hl).symm) (R59_at (x := byteAt xs) (bytes16 hu hl) (byteAt_b8 hu) a0 n0 n1 an v0 v1)

/-- ferryman/ferrymanref10.set4 -/
noncomputable def T60 : List (FuncId × FSpec) := []
theorem T60_ok : TabOK Tryd.prog T60 := TabOK.nil _
noncomputable def L60_2 : ATs → AH → KC → Res := fun ts H k => match ts, H with
  | [(1, .int .i64 a), (2, .int .i64 n), (3, .int .u64 v), (4, .ptr 0 0 0), (8, .ptr 1 0 0), (9, .int .i64 j)], [.cells 0 xs, .cells 0 zs] => aIf (intsB .u8 xs && xs.length == 4 && j == 0 && decide (0 ≤ a) && decide (0 ≤ n) && decide (n ≤ 64) && decide (a + n ≤ 32) && decide (0 ≤ v) && decide (v < 18446744073709551616)) (k (.exit 0) [(1, .int .i64 a), (2, .int .i64 n), (3, .int .u64 v), (4, .ptr 0 0 0), (8, .ptr 1 0 0), (9, .int .i64 n), (13, .bool false)] [.cells 0 [.int .u8 (byteAt (orX v n.toNat a.toNat xs) 0), .int .u8 (byteAt (orX v n.toNat a.toNat xs) 1), .int .u8 (byteAt (orX v n.toNat a.toNat xs) 2), .int .u8 (byteAt (orX v n.toNat a.toNat xs) 3)], .cells 0 zs]) none
  | _, _ => none
noncomputable def C60 : Ctx := (ctx E T60 [(2, L60_2)] [(0, [1, 2, 3, 4, 8]), (1, [1, 2, 3, 4, 8, 9]), (2, [1, 2, 3, 4, 8, 9, 13]), (3, [1, 2, 3, 4, 8, 9]), (4, [1, 2, 3, 4, 8, 9, 24]), (5, [1, 2, 3, 4, 8, 9, 10]), (6, [1, 2, 3, 4, 8, 9]), (7, [8]), (1000002, [1, 2, 3, 4, 8, 9])] [] 42 70)
theorem C60_ok : CtxOK Tryd.prog C60 := ctx_ok E_ok E_flds mixed T60_ok
theorem C60_l0 : C60.loop (loopId (loopB Tryd.f60 0)) = some L60_2 := by kernel_rfl
theorem L60_2_in : LoopsOK C60 (loopB Tryd.f60 0) := LoopsOK.within 0 (by kernel_rfl) (fun j hj S hS => by
  omega)
theorem M60_2a (a n v j : Int) (xs zs : List AV) (k : KC) : headedK C60 (loopB Tryd.f60 0) [(1, .int .i64 a), (2, .int .i64 n), (3, .int .u64 v), (4, .ptr 0 0 0), (8, .ptr 1 0 0), (9, .int .i64 j)] [.cells 0 xs, .cells 0 zs] k =
  aIf (decide (j < n)) (aIf (decide (IntKind.u64.wrap (IntKind.i64.wrap (IntKind.i64.wrap (n - 1) - j)) < 0)) none (aIf (IntKind.u64.wrap (↑(BitVec.ofInt 64 (v.fdiv (2 ^ min (IntKind.u64.wrap (IntKind.i64.wrap (IntKind.i64.wrap (n - 1) - j))).toNat 64)) &&& BitVec.ofInt 64 1).toNat : Int) == 1) (aIf (decide (0 ≤ IntKind.i64.wrap ((IntKind.i64.wrap (a + j)).tdiv 8))) (aIf (decide (IntKind.i64.wrap ((IntKind.i64.wrap (a + j)).tdiv 8) < 4)) (aIf (decide (0 + (IntKind.i64.wrap ((IntKind.i64.wrap (a + j)).tdiv 8)).toNat * 1 + 1 ≤ xs.length)) (aIf ((xs.getD (0 + (IntKind.i64.wrap ((IntKind.i64.wrap (a + j)).tdiv 8)).toNat * 1) AV.junk).isInt IntKind.u8) (aIf (decide (IntKind.u64.wrap (IntKind.i64.wrap (7 - (IntKind.i64.wrap (a + j)).tmod 8)) < 0)) none (aIf (decide (0 ≤ IntKind.i64.wrap ((IntKind.i64.wrap (a + j)).tdiv 8))) (aIf (decide (IntKind.i64.wrap ((IntKind.i64.wrap (a + j)).tdiv 8) < 4)) (aIf (decide (0 + (IntKind.i64.wrap ((IntKind.i64.wrap (a + j)).tdiv 8)).toNat * 1 + 1 ≤ xs.length)) (k AExit.normal [(1, AV.int IntKind.i64 a), (2, AV.int IntKind.i64 n), (3, AV.int IntKind.u64 v), (4, AV.ptr 0 0 0), (8, AV.ptr 1 0 0), (9, AV.int IntKind.i64 (IntKind.i64.wrap (j + 1)))] [AO.cells 0 (xs.set (0 + (IntKind.i64.wrap ((IntKind.i64.wrap (a + j)).tdiv 8)).toNat * 1) (AV.int IntKind.u8 (IntKind.u8.wrap (↑(BitVec.ofInt 8 (xs.getD (0 + (IntKind.i64.wrap ((IntKind.i64.wrap (a + j)).tdiv 8)).toNat * 1) AV.junk).toInt ||| BitVec.ofInt 8 (IntKind.u8.wrap (1 * 2 ^ min (IntKind.u64.wrap (IntKind.i64.wrap (7 - (IntKind.i64.wrap (a + j)).tmod 8))).toNat 8))).toNat : Int)))), AO.cells 0 zs]) none) none) none)) none) none) none) none) (k AExit.normal [(1, AV.int IntKind.i64 a), (2, AV.int IntKind.i64 n), (3, AV.int IntKind.u64 v), (4, AV.ptr 0 0 0), (8, AV.ptr 1 0 0), (9, AV.int IntKind.i64 (IntKind.i64.wrap (j + 1)))] [AO.cells 0 xs, AO.cells 0 zs]))) (k (AExit.exit 0) [(1, AV.int IntKind.i64 a), (2, AV.int IntKind.i64 n), (3, AV.int IntKind.u64 v), (4, AV.ptr 0 0 0), (8, AV.ptr 1 0 0), (9, AV.int IntKind.i64 j), (13, AV.bool (decide (j < n)))] [AO.cells 0 xs, AO.cells 0 zs]) := by kernel_rfl
theorem L60_2_ok : LoopSum C60 (loopB Tryd.f60 0) L60_2 := LoopSum.of C60_ok L60_2_in (fun ts H => by
  unfold L60_2
  split
  · rename_i a n v j xs zs
    rcases Bool.eq_false_or_eq_true (intsB .u8 xs && xs.length == 4 && j == 0 && decide (0 ≤ a) && decide (0 ≤ n) && decide (n ≤ 64) && decide (a + n ≤ 32) && decide (0 ≤ v) && decide (v < 18446744073709551616)) with hp | hp
    · refine .inr ?_
      simp only [aIf_pos hp]
      simp only [Bool.and_eq_true, decide_eq_true_eq, beq_iff_eq] at hp
      obtain ⟨⟨⟨⟨⟨⟨⟨⟨hu, hL⟩, rfl⟩, a0⟩, n0⟩, n1⟩, an⟩, v0⟩, v1⟩ := hp
      obtain ⟨a, rfl⟩ := Int.eq_ofNat_of_zero_le a0
      obtain ⟨n, rfl⟩ := Int.eq_ofNat_of_zero_le n0
      have key : ∀ (j : Nat) (ys : List AV), j < n → (intsB .u8 ys = true ∧ ys.length = 4) → (intsB .u8 (orV v n a j ys) = true ∧ (orV v n a j ys).length = 4) ∧ ∀ k, headedK C60 (loopB Tryd.f60 0) [(1, .int .i64 (a : Int)), (2, .int .i64 (n : Int)), (3, .int .u64 v), (4, .ptr 0 0 0), (8, .ptr 1 0 0), (9, .int .i64 (j : Int))] [.cells 0 ys, .cells 0 zs] k = k .normal [(1, .int .i64 (a : Int)), (2, .int .i64 (n : Int)), (3, .int .u64 v), (4, .ptr 0 0 0), (8, .ptr 1 0 0), (9, .int .i64 ((j + 1 : Nat) : Int))] [.cells 0 (orV v n a j ys), .cells 0 zs] := by
        intro j ys hj hys
        obtain ⟨hu, hL⟩ := hys
        have hor := orV_ok v n a j hu
        refine ⟨⟨hor.1, hor.2.trans hL⟩, fun k => ?_⟩
        obtain ⟨x, hx, he⟩ := u8_get hu ((a + j) / 8) (by omega)
        have h2 : 0 ≤ v / 2 ^ (n - 1 - j) := Int.ediv_nonneg v0 (Int.le_of_lt (Int.pow_pos (by decide)))
        have h3 : v / 2 ^ (n - 1 - j) < 18446744073709551616 := (shr_range v0 v1 (n - 1 - j)).2
        have h4 : IntKind.u64.wrap (v / 2 ^ (n - 1 - j) % 2) = vbit v n j := u64n (by omega) (by omega)
        rw [M60_2a]
        simp only [decide_eq_true (show (j : Int) < n by omega), sh_n1 hj (by omega), u64nn (show n - 1 - j < 18446744073709551616 by omega), show min (n - 1 - j) 64 = n - 1 - j by omega, shr_eq, and1 h2 h3, h4, i64a (show a + j < 9223372036854775808 by omega), div8 (show a + j < 9223372036854775808 by omega), sh7 (a + j), u64nn (show 7 - (a + j) % 8 < 18446744073709551616 by omega),
          decide_eq_true (show (((a + j) / 8 : Nat) : Int) < 4 by omega), decide_eq_true (show (a + j) / 8 + 1 ≤ ys.length by omega), show min (7 - (a + j) % 8) 8 = 7 - (a + j) % 8 by omega, he, or8 hx (show 7 - (a + j) % 8 < 8 by omega), u8pow (show 7 - (a + j) % 8 < 8 by omega), i64s (show j + 1 < 9223372036854775808 by omega), Int.toNat_natCast, Nat.zero_add, Nat.mul_one, Int.one_mul, isInt_self, AV.toInt, dnn, dnn', aIf_true, aIf_false]
        unfold orV
        cases hv : vbit v n j == 1
        · rfl
        · simp only [aIf_true, cond_true, setV, he, AV.toInt]
      have hl : orX v n a xs = foldF (orV v n a) n 0 xs := rfl
      simp only [Int.toNat_natCast]
      rw [hl]
      exact (iter_fold (N := n) (ts := fun j _ => [(1, .int .i64 (a : Int)), (2, .int .i64 (n : Int)), (3, .int .u64 v), (4, .ptr 0 0 0), (8, .ptr 1 0 0), (9, .int .i64 (j : Int))]) (H := fun _ ys => [.cells 0 ys, .cells 0 zs]) (f := orV v n a) (I := fun _ ys => intsB .u8 ys = true ∧ ys.length = 4) (te := fun _ => [(1, .int .i64 (a : Int)), (2, .int .i64 (n : Int)), (3, .int .u64 v), (4, .ptr 0 0 0), (8, .ptr 1 0 0), (9, .int .i64 (n : Int)), (13, .bool false)]) (He := fun ys => [.cells 0 [.int .u8 (byteAt ys 0), .int .u8 (byteAt ys 1), .int .u8 (byteAt ys 2), .int .u8 (byteAt ys 3)], .cells 0 zs])
        key (fun ys hI k => by rw [M60_2a, dltf]; exact congrArg (fun c => k (.exit 0) [(1, .int .i64 (a : Int)), (2, .int .i64 (n : Int)), (3, .int .u64 v), (4, .ptr 0 0 0), (8, .ptr 1 0 0), (9, .int .i64 (n : Int)), (13, .bool false)] [.cells 0 c, .cells 0 zs]) (bytes4 hI.1 hI.2)) (by intro h; cases h) n 0 xs (by omega) ⟨hu, hL⟩).imp fun m hm k => (hm k).symm
    · exact .inl fun k => by rw [aIf_neg hp]
  · exact .inl fun k => rfl)
theorem C60_loops : ∀ c, Tryd.f60.body = some c → LoopsOK C60 c := LoopsOK.of 1 (by kernel_rfl) (fun j hj S hS => by
  match j, hj with
  | 0, _ => rw [C60_l0] at hS; cases hS; exact L60_2_ok
  | n + 1, hj => omega)
noncomputable def S60 : FSpec := inlineK C60 Tryd.f60
theorem S60_ok : SpecOK Tryd.prog 60 S60 := inlineK_ok C60_ok Tryd.func60 C60_loops
theorem En60 : Enters Tryd.prog 60 := ⟨_, Tryd.func60, by decide, rfl⟩
theorem R60_ex : ∃ R : List AV → Res, ∀ args, R args = S60 args [] encK := ⟨_, fun _ => rfl⟩
noncomputable def R60 : List AV → Res := Classical.choose R60_ex
theorem R60_eq (args : List AV) : R60 args = S60 args [] encK := Classical.choose_spec R60_ex args
noncomputable def V60 : FSpec := leafK (.agg [.int .u8, .int .u8, .int .u8, .int .u8]) R60
theorem V60_ok : SpecOK Tryd.prog 60 V60 := leafK_ok S60_ok R60_eq
theorem N60 (x : Nat → Int) (a n v : Int) : S60 [.agg [.int .u8 (x 0), .int .u8 (x 1), .int .u8 (x 2), .int .u8 (x 3)], .int .i64 a, .int .i64 n, .int .u64 v] [] encK =
  aIf (true && (decide (0 ≤ x 0) && decide (x 0 ≤ 255)) && (true && (decide (0 ≤ x 1) && decide (x 1 ≤ 255)) && (true && (decide (0 ≤ x 2) && decide (x 2 ≤ 255)) && (true && (decide (0 ≤ x 3) && decide (x 3 ≤ 255)) && true))) && true && true && decide (0 ≤ a) && decide (0 ≤ n) && decide (n ≤ 64) && decide (a + n ≤ 32) && decide (0 ≤ v) && decide (v < 18446744073709551616)) (some (AEnd.ret (AV.agg [AV.int IntKind.u8 (Pl.byteAt (Pl.orX v n.toNat a.toNat [AV.int IntKind.u8 (x 0), AV.int IntKind.u8 (x 1), AV.int IntKind.u8 (x 2), AV.int IntKind.u8 (x 3)]) 0), AV.int IntKind.u8 (Pl.byteAt (Pl.orX v n.toNat a.toNat [AV.int IntKind.u8 (x 0), AV.int IntKind.u8 (x 1), AV.int IntKind.u8 (x 2), AV.int IntKind.u8 (x 3)]) 1), AV.int IntKind.u8 (Pl.byteAt (Pl.orX v n.toNat a.toNat [AV.int IntKind.u8 (x 0), AV.int IntKind.u8 (x 1), AV.int IntKind.u8 (x 2), AV.int IntKind.u8 (x 3)]) 2), AV.int IntKind.u8 (Pl.byteAt (Pl.orX v n.toNat a.toNat [AV.int IntKind.u8 (x 0), AV.int IntKind.u8 (x 1), AV.int IntKind.u8 (x 2), AV.int IntKind.u8 (x 3)]) 3)]), [])) none := by kernel_rfl
theorem R60_is {x : Nat → Int} {a n v : Int} (hx : b8 x) (a0 : 0 ≤ a) (n0 : 0 ≤ n) (n1 : n ≤ 64) (an : a + n ≤ 32) (v0 : 0 ≤ v) (v1 : v < 18446744073709551616) : R60 [.agg [.int .u8 (x 0), .int .u8 (x 1), .int .u8 (x 2), .int .u8 (x 3)], .int .i64 a, .int .i64 n, .int .u64 v] = some (.ret (.agg [.int .u8 (byteAt (orX v n.toNat a.toNat [.int .u8 (x 0), .int .u8 (x 1), .int .u8 (x 2), .int .u8 (x 3)]) 0), .int .u8 (byteAt (orX v n.toNat a.toNat [.int .u8 (x 0), .int .u8 (x 1), .int .u8 (x 2), .int .u8 (x 3)]) 1), .int .u8 (byteAt (orX v n.toNat a.toNat [.int .u8 (x 0), .int .u8 (x 1), .int .u8 (x 2), .int .u8 (x 3)]) 2), .int .u8 (byteAt (orX v n.toNat a.toNat [.int .u8 (x 0), .int .u8 (x 1), .int .u8 (x 2), .int .u8 (x 3)]) 3)]), []) := by
  refine (R60_eq _).trans ?_
  rw [N60]
  refine aIf_pos ?_
  have : (intsB .u8 [.int .u8 (x 0), .int .u8 (x 1), .int .u8 (x 2), .int .u8 (x 3)] && ([.int .u8 (x 0), .int .u8 (x 1), .int .u8 (x 2), .int .u8 (x 3)] : List AV).length == 4 && (0 : Int) == 0 && decide (0 ≤ a) && decide (0 ≤ n) && decide (n ≤ 64) && decide (a + n ≤ 32) && decide (0 ≤ v) && decide (v < 18446744073709551616)) = true := by rw [b8_4 hx, decide_eq_true a0, decide_eq_true n0, decide_eq_true n1, decide_eq_true an, decide_eq_true v0, decide_eq_true v1]; rfl
  exact this
theorem R60_at {x : Nat → Int} {xs : List AV} {a n v : Int} (e : xs = [.int .u8 (x 0), .int .u8 (x 1), .int .u8 (x 2), .int .u8 (x 3)]) (hx : b8 x) (a0 : 0 ≤ a) (n0 : 0 ≤ n) (n1 : n ≤ 64) (an : a + n ≤ 32) (v0 : 0 ≤ v) (v1 : v < 18446744073709551616) : R60 [.agg xs, .int .i64 a, .int .i64 n, .int .u64 v] = some (.ret (.agg (orX v n.toNat a.toNat xs)), []) := by
  subst e
  rw [R60_is hx a0 n0 n1 an v0 v1]
  have h := orF_bit v n.toNat a.toNat n.toNat 0 [.int .u8 (x 0), .int .u8 (x 1), .int .u8 (x 2), .int .u8 (x 3)] (b8_4 hx) (by show _ ≤ 8 * 4; omega)
  exact congrArg (fun c => some (AEnd.ret (AV.agg c), [])) (bytes4 h.1 h.2.1).symm
theorem R60_by {xs : List AV} {a n v : Int} (hu : intsB .u8 xs = true) (hl : xs.length = 4) (a0 : 0 ≤ a) (n0 : 0 ≤ n) (n1 : n ≤ 64) (an : a + n ≤ 32) (v0 : 0 ≤ v) (v1 : v < 18446744073709551616) : R60 [.agg [.int .u8 (byteAt xs 0), .int .u8 (byteAt xs 1), .int .u8 (byteAt xs 2), .int .u8 (byteAt xs 3)], .int .i64 a, .int .i64 n, .int .u64 v] = some (.ret (.agg (orX v n.toNat a.toNat xs)), []) :=
  Eq.trans (congrArg (fun c => R60 [.agg c, .int .i64 a, .int .i64 n, .int .u64 v]) (bytes4 hu hl).symm) (R60_at (x := byteAt xs) (bytes4 hu hl) (byteAt_b8 hu) a0 n0 n1 an v0 v1)

/-- ferryman/ferrymanref10.edge -/
noncomputable def T38 : List (FuncId × FSpec) := [(41, S41), (44, S44), (59, V59), (60, V60)]
theorem T38_ok : TabOK Tryd.prog T38 := TabOK.cons En41 S41_ok (TabOK.cons En44 S44_ok (TabOK.cons En59 V59_ok (TabOK.cons En60 V60_ok (TabOK.nil _))))
noncomputable def C38 : Ctx := (ctx E T38 [] [(0, [1, 2, 4]), (1, [1, 2, 4, 5]), (2, [1, 2, 4, 5, 6, 7]), (3, [1, 2, 4, 5, 6, 33]), (4, [1, 2, 4, 5, 6]), (5, [4, 5]), (6, [4, 5]), (7, [4, 5, 8]), (8, [4, 5, 8, 9]), (9, [4, 5, 8, 9, 80]), (10, [4, 5, 8, 9]), (11, [4, 5, 8, 9]), (12, [4, 5]), (13, [4]), (1000009, [4, 5, 8, 9])] [] 104 70)
theorem C38_ok : CtxOK Tryd.prog C38 := ctx_ok E_ok E_flds mixed T38_ok
noncomputable def S38 : FSpec := inlineK C38 Tryd.f38
theorem S38_ok : SpecOK Tryd.prog 38 S38 := inlineK_ok C38_ok Tryd.func38 (fun _ _ => LoopsOK.none _)
theorem En38 : Enters Tryd.prog 38 := ⟨_, Tryd.func38, by decide, rfl⟩
theorem R38_ex : ∃ R : List AV → Res, ∀ args, R args = S38 args [] encK := ⟨_, fun _ => rfl⟩
noncomputable def R38 : List AV → Res := Classical.choose R38_ex
theorem R38_eq (args : List AV) : R38 args = S38 args [] encK := Classical.choose_spec R38_ex args
noncomputable def V38 : FSpec := leafK (.agg [.int .u8, .int .u8, .int .u8, .int .u8, .int .i64, .int .i64, .int .i64, .int .u16, .int .u8, .int .u8, .int .u8, .int .u8, .int .u8, .int .u8, .int .u8, .int .u8, .int .u8, .int .u8, .int .u8, .int .u8, .int .u8, .int .u8, .int .u8, .int .u8, .int .i64, .int .u8, .int .u8, .int .u8, .int .u8, .int .u8, .int .u8, .int .u8, .int .u8, .int .u8, .int .u8, .int .u8, .int .u8, .int .u8, .int .u8, .int .u8, .int .u8]) R38
theorem V38_ok : SpecOK Tryd.prog 38 V38 := leafK_ok S38_ok R38_eq
theorem N38 (x z : Nat → Int) (n m e o : Int) (f : Bool) (a : Int)
    {r0 : _} (h0 : r0 = R59 [AV.agg [AV.int IntKind.u8 (x 0), AV.int IntKind.u8 (x 1), AV.int IntKind.u8 (x 2), AV.int IntKind.u8 (x 3), AV.int IntKind.u8 (x 4), AV.int IntKind.u8 (x 5), AV.int IntKind.u8 (x 6), AV.int IntKind.u8 (x 7), AV.int IntKind.u8 (x 8), AV.int IntKind.u8 (x 9), AV.int IntKind.u8 (x 10), AV.int IntKind.u8 (x 11), AV.int IntKind.u8 (x 12), AV.int IntKind.u8 (x 13), AV.int IntKind.u8 (x 14), AV.int IntKind.u8 (x 15)], AV.int IntKind.i64 n, AV.int IntKind.i64 e, AV.int IntKind.u64 a])
    {r2 : _} (h2 : r2 = R60 [AV.agg [AV.int IntKind.u8 (z 0), AV.int IntKind.u8 (z 1), AV.int IntKind.u8 (z 2), AV.int IntKind.u8 (z 3)], AV.int IntKind.i64 m, AV.int IntKind.i64 (IntKind.i64.wrap (32 - m)), AV.int IntKind.u64 (a.fdiv (2 ^ min (IntKind.u64.wrap (if 0 > IntKind.i64.wrap (e - IntKind.i64.wrap (32 - m)) then 0 else IntKind.i64.wrap (e - IntKind.i64.wrap (32 - m)))).toNat 64))])
    {r3 : _} (h3 : r3 = R59 [AV.agg [AV.int IntKind.u8 (sel r0 [0]).toInt, AV.int IntKind.u8 (sel r0 [1]).toInt, AV.int IntKind.u8 (sel r0 [2]).toInt, AV.int IntKind.u8 (sel r0 [3]).toInt, AV.int IntKind.u8 (sel r0 [4]).toInt, AV.int IntKind.u8 (sel r0 [5]).toInt, AV.int IntKind.u8 (sel r0 [6]).toInt, AV.int IntKind.u8 (sel r0 [7]).toInt, AV.int IntKind.u8 (sel r0 [8]).toInt, AV.int IntKind.u8 (sel r0 [9]).toInt, AV.int IntKind.u8 (sel r0 [10]).toInt, AV.int IntKind.u8 (sel r0 [11]).toInt, AV.int IntKind.u8 (sel r0 [12]).toInt, AV.int IntKind.u8 (sel r0 [13]).toInt, AV.int IntKind.u8 (sel r0 [14]).toInt, AV.int IntKind.u8 (sel r0 [15]).toInt], AV.int IntKind.i64 80, AV.int IntKind.i64 32, AV.int IntKind.u64 (IntKind.u64.wrap (↑(BitVec.ofInt 64 (IntKind.u64.wrap (IntKind.u64.wrap (↑(BitVec.ofInt 64 (IntKind.u64.wrap (IntKind.u64.wrap (↑(BitVec.ofInt 64 (IntKind.u64.wrap (IntKind.u64.wrap (↑(BitVec.ofInt 64 0 ||| BitVec.ofInt 64 (IntKind.u64.wrap (sel r2 [0]).toInt)).toNat : Int) * 256)) ||| BitVec.ofInt 64 (IntKind.u64.wrap (sel r2 [1]).toInt)).toNat : Int) * 256)) ||| BitVec.ofInt 64 (IntKind.u64.wrap (sel r2 [2]).toInt)).toNat : Int) * 256)) ||| BitVec.ofInt 64 (IntKind.u64.wrap (sel r2 [3]).toInt)).toNat : Int))])
    {r4 : _} (h4 : r4 = R59 [AV.agg [AV.int IntKind.u8 (sel r3 [0]).toInt, AV.int IntKind.u8 (sel r3 [1]).toInt, AV.int IntKind.u8 (sel r3 [2]).toInt, AV.int IntKind.u8 (sel r3 [3]).toInt, AV.int IntKind.u8 (sel r3 [4]).toInt, AV.int IntKind.u8 (sel r3 [5]).toInt, AV.int IntKind.u8 (sel r3 [6]).toInt, AV.int IntKind.u8 (sel r3 [7]).toInt, AV.int IntKind.u8 (sel r3 [8]).toInt, AV.int IntKind.u8 (sel r3 [9]).toInt, AV.int IntKind.u8 (sel r3 [10]).toInt, AV.int IntKind.u8 (sel r3 [11]).toInt, AV.int IntKind.u8 (sel r3 [12]).toInt, AV.int IntKind.u8 (sel r3 [13]).toInt, AV.int IntKind.u8 (sel r3 [14]).toInt, AV.int IntKind.u8 (sel r3 [15]).toInt], AV.int IntKind.i64 112, AV.int IntKind.i64 16, AV.int IntKind.u64 (IntKind.u64.wrap (IntKind.u16.wrap (IntKind.u64.wrap (↑(BitVec.ofInt 64 a &&& BitVec.ofInt 64 (IntKind.u64.wrap (IntKind.u64.wrap (1 * 2 ^ min (IntKind.u64.wrap (if 0 > IntKind.i64.wrap (e - IntKind.i64.wrap (32 - m)) then 0 else IntKind.i64.wrap (e - IntKind.i64.wrap (32 - m)))).toNat 64) - 1))).toNat : Int))))])
    {r5 : _} (h5 : r5 = R60 [AV.agg [AV.int IntKind.u8 (z 0), AV.int IntKind.u8 (z 1), AV.int IntKind.u8 (z 2), AV.int IntKind.u8 (z 3)], AV.int IntKind.i64 m, AV.int IntKind.i64 e, AV.int IntKind.u64 a])
    {r6 : _} (h6 : r6 = R59 [AV.agg [AV.int IntKind.u8 (sel r0 [0]).toInt, AV.int IntKind.u8 (sel r0 [1]).toInt, AV.int IntKind.u8 (sel r0 [2]).toInt, AV.int IntKind.u8 (sel r0 [3]).toInt, AV.int IntKind.u8 (sel r0 [4]).toInt, AV.int IntKind.u8 (sel r0 [5]).toInt, AV.int IntKind.u8 (sel r0 [6]).toInt, AV.int IntKind.u8 (sel r0 [7]).toInt, AV.int IntKind.u8 (sel r0 [8]).toInt, AV.int IntKind.u8 (sel r0 [9]).toInt, AV.int IntKind.u8 (sel r0 [10]).toInt, AV.int IntKind.u8 (sel r0 [11]).toInt, AV.int IntKind.u8 (sel r0 [12]).toInt, AV.int IntKind.u8 (sel r0 [13]).toInt, AV.int IntKind.u8 (sel r0 [14]).toInt, AV.int IntKind.u8 (sel r0 [15]).toInt], AV.int IntKind.i64 80, AV.int IntKind.i64 32, AV.int IntKind.u64 (IntKind.u64.wrap (↑(BitVec.ofInt 64 (IntKind.u64.wrap (IntKind.u64.wrap (↑(BitVec.ofInt 64 (IntKind.u64.wrap (IntKind.u64.wrap (↑(BitVec.ofInt 64 (IntKind.u64.wrap (IntKind.u64.wrap (↑(BitVec.ofInt 64 0 ||| BitVec.ofInt 64 (IntKind.u64.wrap (sel r5 [0]).toInt)).toNat : Int) * 256)) ||| BitVec.ofInt 64 (IntKind.u64.wrap (sel r5 [1]).toInt)).toNat : Int) * 256)) ||| BitVec.ofInt 64 (IntKind.u64.wrap (sel r5 [2]).toInt)).toNat : Int) * 256)) ||| BitVec.ofInt 64 (IntKind.u64.wrap (sel r5 [3]).toInt)).toNat : Int))])
    {r7 : _} (h7 : r7 = R59 [AV.agg [AV.int IntKind.u8 (sel r6 [0]).toInt, AV.int IntKind.u8 (sel r6 [1]).toInt, AV.int IntKind.u8 (sel r6 [2]).toInt, AV.int IntKind.u8 (sel r6 [3]).toInt, AV.int IntKind.u8 (sel r6 [4]).toInt, AV.int IntKind.u8 (sel r6 [5]).toInt, AV.int IntKind.u8 (sel r6 [6]).toInt, AV.int IntKind.u8 (sel r6 [7]).toInt, AV.int IntKind.u8 (sel r6 [8]).toInt, AV.int IntKind.u8 (sel r6 [9]).toInt, AV.int IntKind.u8 (sel r6 [10]).toInt, AV.int IntKind.u8 (sel r6 [11]).toInt, AV.int IntKind.u8 (sel r6 [12]).toInt, AV.int IntKind.u8 (sel r6 [13]).toInt, AV.int IntKind.u8 (sel r6 [14]).toInt, AV.int IntKind.u8 (sel r6 [15]).toInt], AV.int IntKind.i64 112, AV.int IntKind.i64 16, AV.int IntKind.u64 0]) :
  S38 [.agg [.int .u8 (x 0), .int .u8 (x 1), .int .u8 (x 2), .int .u8 (x 3), .int .u8 (x 4), .int .u8 (x 5), .int .u8 (x 6), .int .u8 (x 7), .int .u8 (x 8), .int .u8 (x 9), .int .u8 (x 10), .int .u8 (x 11), .int .u8 (x 12), .int .u8 (x 13), .int .u8 (x 14), .int .u8 (x 15), .int .i64 n, .int .u8 (z 0), .int .u8 (z 1), .int .u8 (z 2), .int .u8 (z 3), .int .i64 m, .int .i64 e, .int .i64 o, .bool f], .int .u64 a] [] encK =
  aIf (shOK (Sh.agg [Sh.int IntKind.u8, Sh.int IntKind.u8, Sh.int IntKind.u8, Sh.int IntKind.u8, Sh.int IntKind.u8, Sh.int IntKind.u8, Sh.int IntKind.u8, Sh.int IntKind.u8, Sh.int IntKind.u8, Sh.int IntKind.u8, Sh.int IntKind.u8, Sh.int IntKind.u8, Sh.int IntKind.u8, Sh.int IntKind.u8, Sh.int IntKind.u8, Sh.int IntKind.u8]) r0) (aIf (decide (IntKind.i64.wrap (e - IntKind.i64.wrap (32 - m)) > 0)) (aIf (decide (IntKind.u64.wrap (if 0 > IntKind.i64.wrap (e - IntKind.i64.wrap (32 - m)) then 0 else IntKind.i64.wrap (e - IntKind.i64.wrap (32 - m))) < 0)) none (aIf (shOK (Sh.agg [Sh.int IntKind.u8, Sh.int IntKind.u8, Sh.int IntKind.u8, Sh.int IntKind.u8]) r2) (aIf (decide (IntKind.u64.wrap (if 0 > IntKind.i64.wrap (e - IntKind.i64.wrap (32 - m)) then 0 else IntKind.i64.wrap (e - IntKind.i64.wrap (32 - m))) < 0)) none (aIf (shOK (Sh.agg [Sh.int IntKind.u8, Sh.int IntKind.u8, Sh.int IntKind.u8, Sh.int IntKind.u8, Sh.int IntKind.u8, Sh.int IntKind.u8, Sh.int IntKind.u8, Sh.int IntKind.u8, Sh.int IntKind.u8, Sh.int IntKind.u8, Sh.int IntKind.u8, Sh.int IntKind.u8, Sh.int IntKind.u8, Sh.int IntKind.u8, Sh.int IntKind.u8, Sh.int IntKind.u8]) r3) (aIf (shOK (Sh.agg [Sh.int IntKind.u8, Sh.int IntKind.u8, Sh.int IntKind.u8, Sh.int IntKind.u8, Sh.int IntKind.u8, Sh.int IntKind.u8, Sh.int IntKind.u8, Sh.int IntKind.u8, Sh.int IntKind.u8, Sh.int IntKind.u8, Sh.int IntKind.u8, Sh.int IntKind.u8, Sh.int IntKind.u8, Sh.int IntKind.u8, Sh.int IntKind.u8, Sh.int IntKind.u8]) r4) (some (AEnd.ret (AV.agg [AV.int IntKind.u8 (sel r2 [0]).toInt, AV.int IntKind.u8 (sel r2 [1]).toInt, AV.int IntKind.u8 (sel r2 [2]).toInt, AV.int IntKind.u8 (sel r2 [3]).toInt, AV.int IntKind.i64 32, AV.int IntKind.i64 o, AV.int IntKind.i64 (if 0 > IntKind.i64.wrap (e - IntKind.i64.wrap (32 - m)) then 0 else IntKind.i64.wrap (e - IntKind.i64.wrap (32 - m))), AV.int IntKind.u16 (IntKind.u16.wrap (IntKind.u64.wrap (↑(BitVec.ofInt 64 a &&& BitVec.ofInt 64 (IntKind.u64.wrap (IntKind.u64.wrap (1 * 2 ^ min (IntKind.u64.wrap (if 0 > IntKind.i64.wrap (e - IntKind.i64.wrap (32 - m)) then 0 else IntKind.i64.wrap (e - IntKind.i64.wrap (32 - m)))).toNat 64) - 1))).toNat : Int))), AV.int IntKind.u8 (sel r0 [0]).toInt, AV.int IntKind.u8 (sel r0 [1]).toInt, AV.int IntKind.u8 (sel r0 [2]).toInt, AV.int IntKind.u8 (sel r0 [3]).toInt, AV.int IntKind.u8 (sel r0 [4]).toInt, AV.int IntKind.u8 (sel r0 [5]).toInt, AV.int IntKind.u8 (sel r0 [6]).toInt, AV.int IntKind.u8 (sel r0 [7]).toInt, AV.int IntKind.u8 (sel r0 [8]).toInt, AV.int IntKind.u8 (sel r0 [9]).toInt, AV.int IntKind.u8 (sel r0 [10]).toInt, AV.int IntKind.u8 (sel r0 [11]).toInt, AV.int IntKind.u8 (sel r0 [12]).toInt, AV.int IntKind.u8 (sel r0 [13]).toInt, AV.int IntKind.u8 (sel r0 [14]).toInt, AV.int IntKind.u8 (sel r0 [15]).toInt, AV.int IntKind.i64 (IntKind.i64.wrap (n + e)), AV.int IntKind.u8 (sel r4 [0]).toInt, AV.int IntKind.u8 (sel r4 [1]).toInt, AV.int IntKind.u8 (sel r4 [2]).toInt, AV.int IntKind.u8 (sel r4 [3]).toInt, AV.int IntKind.u8 (sel r4 [4]).toInt, AV.int IntKind.u8 (sel r4 [5]).toInt, AV.int IntKind.u8 (sel r4 [6]).toInt, AV.int IntKind.u8 (sel r4 [7]).toInt, AV.int IntKind.u8 (sel r4 [8]).toInt, AV.int IntKind.u8 (sel r4 [9]).toInt, AV.int IntKind.u8 (sel r4 [10]).toInt, AV.int IntKind.u8 (sel r4 [11]).toInt, AV.int IntKind.u8 (sel r4 [12]).toInt, AV.int IntKind.u8 (sel r4 [13]).toInt, AV.int IntKind.u8 (sel r4 [14]).toInt, AV.int IntKind.u8 (sel r4 [15]).toInt]), [])) none) none)) none)) (aIf (shOK (Sh.agg [Sh.int IntKind.u8, Sh.int IntKind.u8, Sh.int IntKind.u8, Sh.int IntKind.u8]) r5) (aIf (shOK (Sh.agg [Sh.int IntKind.u8, Sh.int IntKind.u8, Sh.int IntKind.u8, Sh.int IntKind.u8, Sh.int IntKind.u8, Sh.int IntKind.u8, Sh.int IntKind.u8, Sh.int IntKind.u8, Sh.int IntKind.u8, Sh.int IntKind.u8, Sh.int IntKind.u8, Sh.int IntKind.u8, Sh.int IntKind.u8, Sh.int IntKind.u8, Sh.int IntKind.u8, Sh.int IntKind.u8]) r6) (aIf (shOK (Sh.agg [Sh.int IntKind.u8, Sh.int IntKind.u8, Sh.int IntKind.u8, Sh.int IntKind.u8, Sh.int IntKind.u8, Sh.int IntKind.u8, Sh.int IntKind.u8, Sh.int IntKind.u8, Sh.int IntKind.u8, Sh.int IntKind.u8, Sh.int IntKind.u8, Sh.int IntKind.u8, Sh.int IntKind.u8, Sh.int IntKind.u8, Sh.int IntKind.u8, Sh.int IntKind.u8]) r7) (some (AEnd.ret (AV.agg [AV.int IntKind.u8 (sel r5 [0]).toInt, AV.int IntKind.u8 (sel r5 [1]).toInt, AV.int IntKind.u8 (sel r5 [2]).toInt, AV.int IntKind.u8 (sel r5 [3]).toInt, AV.int IntKind.i64 (IntKind.i64.wrap (m + e)), AV.int IntKind.i64 0, AV.int IntKind.i64 0, AV.int IntKind.u16 0, AV.int IntKind.u8 (sel r0 [0]).toInt, AV.int IntKind.u8 (sel r0 [1]).toInt, AV.int IntKind.u8 (sel r0 [2]).toInt, AV.int IntKind.u8 (sel r0 [3]).toInt, AV.int IntKind.u8 (sel r0 [4]).toInt, AV.int IntKind.u8 (sel r0 [5]).toInt, AV.int IntKind.u8 (sel r0 [6]).toInt, AV.int IntKind.u8 (sel r0 [7]).toInt, AV.int IntKind.u8 (sel r0 [8]).toInt, AV.int IntKind.u8 (sel r0 [9]).toInt, AV.int IntKind.u8 (sel r0 [10]).toInt, AV.int IntKind.u8 (sel r0 [11]).toInt, AV.int IntKind.u8 (sel r0 [12]).toInt, AV.int IntKind.u8 (sel r0 [13]).toInt, AV.int IntKind.u8 (sel r0 [14]).toInt, AV.int IntKind.u8 (sel r0 [15]).toInt, AV.int IntKind.i64 (IntKind.i64.wrap (n + e)), AV.int IntKind.u8 (sel r7 [0]).toInt, AV.int IntKind.u8 (sel r7 [1]).toInt, AV.int IntKind.u8 (sel r7 [2]).toInt, AV.int IntKind.u8 (sel r7 [3]).toInt, AV.int IntKind.u8 (sel r7 [4]).toInt, AV.int IntKind.u8 (sel r7 [5]).toInt, AV.int IntKind.u8 (sel r7 [6]).toInt, AV.int IntKind.u8 (sel r7 [7]).toInt, AV.int IntKind.u8 (sel r7 [8]).toInt, AV.int IntKind.u8 (sel r7 [9]).toInt, AV.int IntKind.u8 (sel r7 [10]).toInt, AV.int IntKind.u8 (sel r7 [11]).toInt, AV.int IntKind.u8 (sel r7 [12]).toInt, AV.int IntKind.u8 (sel r7 [13]).toInt, AV.int IntKind.u8 (sel r7 [14]).toInt, AV.int IntKind.u8 (sel r7 [15]).toInt]), [])) none) none) none)) none := by subst h0 h2 h3 h4 h5 h6 h7; kernel_rfl
set_option maxRecDepth 20000 in
set_option maxHeartbeats 2000000 in
theorem R38_is {x z : Nat → Int} {n m e o : Int} {f : Bool} {a : Int} (hx : b8 x) (hz : b8 z) (hok : okE n m e o a) (lX : lowB [.int .u8 (x 0), .int .u8 (x 1), .int .u8 (x 2), .int .u8 (x 3), .int .u8 (x 4), .int .u8 (x 5), .int .u8 (x 6), .int .u8 (x 7), .int .u8 (x 8), .int .u8 (x 9), .int .u8 (x 10), .int .u8 (x 11), .int .u8 (x 12), .int .u8 (x 13), .int .u8 (x 14), .int .u8 (x 15)] n.toNat = true) (lZ : lowB [.int .u8 (z 0), .int .u8 (z 1), .int .u8 (z 2), .int .u8 (z 3)] m.toNat = true) : R38 [.agg [.int .u8 (x 0), .int .u8 (x 1), .int .u8 (x 2), .int .u8 (x 3), .int .u8 (x 4), .int .u8 (x 5), .int .u8 (x 6), .int .u8 (x 7), .int .u8 (x 8), .int .u8 (x 9), .int .u8 (x 10), .int .u8 (x 11), .int .u8 (x 12), .int .u8 (x 13), .int .u8 (x 14), .int .u8 (x 15), .int .i64 n, .int .u8 (z 0), .int .u8 (z 1), .int .u8 (z 2), .int .u8 (z 3), .int .i64 m, .int .i64 e, .int .i64 o, .bool f], .int .u64 a] = some (.ret (edgV [.int .u8 (x 0), .int .u8 (x 1), .int .u8 (x 2), .int .u8 (x 3), .int .u8 (x 4), .int .u8 (x 5), .int .u8 (x 6), .int .u8 (x 7), .int .u8 (x 8), .int .u8 (x 9), .int .u8 (x 10), .int .u8 (x 11), .int .u8 (x 12), .int .u8 (x 13), .int .u8 (x 14), .int .u8 (x 15)] [.int .u8 (z 0), .int .u8 (z 1), .int .u8 (z 2), .int .u8 (z 3)] n m e o a), []) := by
  refine (R38_eq _).trans ?_
  obtain ⟨q0, q1, q2, q3, q4, q5, q6, q7⟩ := qR_ok hok
  have hpid := pidR_ok hok
  have hor := own_or (X := [.int .u8 (x 0), .int .u8 (x 1), .int .u8 (x 2), .int .u8 (x 3), .int .u8 (x 4), .int .u8 (x 5), .int .u8 (x 6), .int .u8 (x 7), .int .u8 (x 8), .int .u8 (x 9), .int .u8 (x 10), .int .u8 (x 11), .int .u8 (x 12), .int .u8 (x 13), .int .u8 (x 14), .int .u8 (x 15)]) (Z := [.int .u8 (z 0), .int .u8 (z 1), .int .u8 (z 2), .int .u8 (z 3)]) rfl hok
  have hEo := endB_or (b8_16 hx) rfl hok lX
  have hVo := fun k b hk hb => v4B_or (k := k) (b := b) (b8_4 hz) rfl hok lZ hk hb
  have hok' := hok
  obtain ⟨a1, a2, b1, b2, c1, c2, c3, c4, c5, d0, d1, d2⟩ := hok'
  have w1 : IntKind.i64.wrap (32 - m) = 32 - m := i64_of (by omega) (by omega)
  have w2 : IntKind.i64.wrap (e - (32 - m)) = e - (32 - m) := i64_of (by omega) (by omega)
  have w3 : (if 0 > e - (32 - m) then 0 else e - (32 - m)) = qR m e := by unfold qR; split <;> split <;> omega
  have w6 : min (qR m e).toNat 64 = (qR m e).toNat := by omega
  have w8 : IntKind.i64.wrap (n + e) = n + e := i64_of (by omega) (by omega)
  have wu : IntKind.u64.wrap (qR m e) = qR m e := u64_of (by omega) (by omega)
  have hp := pow_le16 (n := (qR m e).toNat) (by omega)
  have wp : IntKind.u64.wrap ((BitVec.ofInt 64 a &&& BitVec.ofInt 64 (IntKind.u64.wrap (IntKind.u64.wrap (1 * 2 ^ (qR m e).toNat) - 1))).toNat : Int) = a % 2 ^ (qR m e).toNat := by
    have m0 := Int.emod_nonneg a (show (2 : Int) ^ (qR m e).toNat ≠ 0 by omega)
    have m1 := Int.emod_lt_of_pos a (show (0 : Int) < 2 ^ (qR m e).toNat by omega)
    rw [Int.one_mul, u64_of (n := 2 ^ (qR m e).toNat) (by omega) (by omega), u64_of (n := 2 ^ (qR m e).toNat - 1) (by omega) (by omega), and_mask64 d0 d1 (by omega), u64_of (by omega) (by omega)]
  have hE := endB_ok (X := [.int .u8 (x 0), .int .u8 (x 1), .int .u8 (x 2), .int .u8 (x 3), .int .u8 (x 4), .int .u8 (x 5), .int .u8 (x 6), .int .u8 (x 7), .int .u8 (x 8), .int .u8 (x 9), .int .u8 (x 10), .int .u8 (x 11), .int .u8 (x 12), .int .u8 (x 13), .int .u8 (x 14), .int .u8 (x 15)]) (n := n) (e := e) (a := a)
  have hV := v4B_ok (Z := [.int .u8 (z 0), .int .u8 (z 1), .int .u8 (z 2), .int .u8 (z 3)]) (m := m) (e := e) (a := a)
  have hO1 := orF_bit (getX (v4B [.int .u8 (z 0), .int .u8 (z 1), .int .u8 (z 2), .int .u8 (z 3)] m e a) 0 32) 32 80 32 0 (endB [.int .u8 (x 0), .int .u8 (x 1), .int .u8 (x 2), .int .u8 (x 3), .int .u8 (x 4), .int .u8 (x 5), .int .u8 (x 6), .int .u8 (x 7), .int .u8 (x 8), .int .u8 (x 9), .int .u8 (x 10), .int .u8 (x 11), .int .u8 (x 12), .int .u8 (x 13), .int .u8 (x 14), .int .u8 (x 15)] n e a) hE.1 (by rw [hE.2]; decide)
  have gv := getX_range (v4B [.int .u8 (z 0), .int .u8 (z 1), .int .u8 (z 2), .int .u8 (z 3)] m e a) 0 32
  have e0 : R59 [.agg [.int .u8 (x 0), .int .u8 (x 1), .int .u8 (x 2), .int .u8 (x 3), .int .u8 (x 4), .int .u8 (x 5), .int .u8 (x 6), .int .u8 (x 7), .int .u8 (x 8), .int .u8 (x 9), .int .u8 (x 10), .int .u8 (x 11), .int .u8 (x 12), .int .u8 (x 13), .int .u8 (x 14), .int .u8 (x 15)], .int .i64 n, .int .i64 e, .int .u64 a] = some (.ret (.agg (endB [.int .u8 (x 0), .int .u8 (x 1), .int .u8 (x 2), .int .u8 (x 3), .int .u8 (x 4), .int .u8 (x 5), .int .u8 (x 6), .int .u8 (x 7), .int .u8 (x 8), .int .u8 (x 9), .int .u8 (x 10), .int .u8 (x 11), .int .u8 (x 12), .int .u8 (x 13), .int .u8 (x 14), .int .u8 (x 15)] n e a)), []) := by
    rw [R59_at (x := x) rfl hx a1 c1 (by omega) (by omega) d0 d1, hEo]
  have sb : ∀ (c : List AV) (k : Nat), (sel (some (AEnd.ret (AV.agg c), [])) [k]).toInt = byteAt c k := fun _ _ => rfl
  have eO : ∀ v p : Int, v = getX (v4B [.int .u8 (z 0), .int .u8 (z 1), .int .u8 (z 2), .int .u8 (z 3)] m e a) 0 32 → p = pidR m e a → R59 [.agg [.int .u8 (sel (some (AEnd.ret (AV.agg (endB [.int .u8 (x 0), .int .u8 (x 1), .int .u8 (x 2), .int .u8 (x 3), .int .u8 (x 4), .int .u8 (x 5), .int .u8 (x 6), .int .u8 (x 7), .int .u8 (x 8), .int .u8 (x 9), .int .u8 (x 10), .int .u8 (x 11), .int .u8 (x 12), .int .u8 (x 13), .int .u8 (x 14), .int .u8 (x 15)] n e a)), [])) [0]).toInt, .int .u8 (sel (some (AEnd.ret (AV.agg (endB [.int .u8 (x 0), .int .u8 (x 1), .int .u8 (x 2), .int .u8 (x 3), .int .u8 (x 4), .int .u8 (x 5), .int .u8 (x 6), .int .u8 (x 7), .int .u8 (x 8), .int .u8 (x 9), .int .u8 (x 10), .int .u8 (x 11), .int .u8 (x 12), .int .u8 (x 13), .int .u8 (x 14), .int .u8 (x 15)] n e a)), [])) [1]).toInt, .int .u8 (sel (some (AEnd.ret (AV.agg (endB [.int .u8 (x 0), .int .u8 (x 1), .int .u8 (x 2), .int .u8 (x 3), .int .u8 (x 4), .int .u8 (x 5), .int .u8 (x 6), .int .u8 (x 7), .int .u8 (x 8), .int .u8 (x 9), .int .u8 (x 10), .int .u8 (x 11), .int .u8 (x 12), .int .u8 (x 13), .int .u8 (x 14), .int .u8 (x 15)] n e a)), [])) [2]).toInt, .int .u8 (sel (some (AEnd.ret (AV.agg (endB [.int .u8 (x 0), .int .u8 (x 1), .int .u8 (x 2), .int .u8 (x 3), .int .u8 (x 4), .int .u8 (x 5), .int .u8 (x 6), .int .u8 (x 7), .int .u8 (x 8), .int .u8 (x 9), .int .u8 (x 10), .int .u8 (x 11), .int .u8 (x 12), .int .u8 (x 13), .int .u8 (x 14), .int .u8 (x 15)] n e a)), [])) [3]).toInt, .int .u8 (sel (some (AEnd.ret (AV.agg (endB [.int .u8 (x 0), .int .u8 (x 1), .int .u8 (x 2), .int .u8 (x 3), .int .u8 (x 4), .int .u8 (x 5), .int .u8 (x 6), .int .u8 (x 7), .int .u8 (x 8), .int .u8 (x 9), .int .u8 (x 10), .int .u8 (x 11), .int .u8 (x 12), .int .u8 (x 13), .int .u8 (x 14), .int .u8 (x 15)] n e a)), [])) [4]).toInt, .int .u8 (sel (some (AEnd.ret (AV.agg (endB [.int .u8 (x 0), .int .u8 (x 1), .int .u8 (x 2), .int .u8 (x 3), .int .u8 (x 4), .int .u8 (x 5), .int .u8 (x 6), .int .u8 (x 7), .int .u8 (x 8), .int .u8 (x 9), .int .u8 (x 10), .int .u8 (x 11), .int .u8 (x 12), .int .u8 (x 13), .int .u8 (x 14), .int .u8 (x 15)] n e a)), [])) [5]).toInt, .int .u8 (sel (some (AEnd.ret (AV.agg (endB [.int .u8 (x 0), .int .u8 (x 1), .int .u8 (x 2), .int .u8 (x 3), .int .u8 (x 4), .int .u8 (x 5), .int .u8 (x 6), .int .u8 (x 7), .int .u8 (x 8), .int .u8 (x 9), .int .u8 (x 10), .int .u8 (x 11), .int .u8 (x 12), .int .u8 (x 13), .int .u8 (x 14), .int .u8 (x 15)] n e a)), [])) [6]).toInt, .int .u8 (sel (some (AEnd.ret (AV.agg (endB [.int .u8 (x 0), .int .u8 (x 1), .int .u8 (x 2), .int .u8 (x 3), .int .u8 (x 4), .int .u8 (x 5), .int .u8 (x 6), .int .u8 (x 7), .int .u8 (x 8), .int .u8 (x 9), .int .u8 (x 10), .int .u8 (x 11), .int .u8 (x 12), .int .u8 (x 13), .int .u8 (x 14), .int .u8 (x 15)] n e a)), [])) [7]).toInt, .int .u8 (sel (some (AEnd.ret (AV.agg (endB [.int .u8 (x 0), .int .u8 (x 1), .int .u8 (x 2), .int .u8 (x 3), .int .u8 (x 4), .int .u8 (x 5), .int .u8 (x 6), .int .u8 (x 7), .int .u8 (x 8), .int .u8 (x 9), .int .u8 (x 10), .int .u8 (x 11), .int .u8 (x 12), .int .u8 (x 13), .int .u8 (x 14), .int .u8 (x 15)] n e a)), [])) [8]).toInt, .int .u8 (sel (some (AEnd.ret (AV.agg (endB [.int .u8 (x 0), .int .u8 (x 1), .int .u8 (x 2), .int .u8 (x 3), .int .u8 (x 4), .int .u8 (x 5), .int .u8 (x 6), .int .u8 (x 7), .int .u8 (x 8), .int .u8 (x 9), .int .u8 (x 10), .int .u8 (x 11), .int .u8 (x 12), .int .u8 (x 13), .int .u8 (x 14), .int .u8 (x 15)] n e a)), [])) [9]).toInt, .int .u8 (sel (some (AEnd.ret (AV.agg (endB [.int .u8 (x 0), .int .u8 (x 1), .int .u8 (x 2), .int .u8 (x 3), .int .u8 (x 4), .int .u8 (x 5), .int .u8 (x 6), .int .u8 (x 7), .int .u8 (x 8), .int .u8 (x 9), .int .u8 (x 10), .int .u8 (x 11), .int .u8 (x 12), .int .u8 (x 13), .int .u8 (x 14), .int .u8 (x 15)] n e a)), [])) [10]).toInt, .int .u8 (sel (some (AEnd.ret (AV.agg (endB [.int .u8 (x 0), .int .u8 (x 1), .int .u8 (x 2), .int .u8 (x 3), .int .u8 (x 4), .int .u8 (x 5), .int .u8 (x 6), .int .u8 (x 7), .int .u8 (x 8), .int .u8 (x 9), .int .u8 (x 10), .int .u8 (x 11), .int .u8 (x 12), .int .u8 (x 13), .int .u8 (x 14), .int .u8 (x 15)] n e a)), [])) [11]).toInt, .int .u8 (sel (some (AEnd.ret (AV.agg (endB [.int .u8 (x 0), .int .u8 (x 1), .int .u8 (x 2), .int .u8 (x 3), .int .u8 (x 4), .int .u8 (x 5), .int .u8 (x 6), .int .u8 (x 7), .int .u8 (x 8), .int .u8 (x 9), .int .u8 (x 10), .int .u8 (x 11), .int .u8 (x 12), .int .u8 (x 13), .int .u8 (x 14), .int .u8 (x 15)] n e a)), [])) [12]).toInt, .int .u8 (sel (some (AEnd.ret (AV.agg (endB [.int .u8 (x 0), .int .u8 (x 1), .int .u8 (x 2), .int .u8 (x 3), .int .u8 (x 4), .int .u8 (x 5), .int .u8 (x 6), .int .u8 (x 7), .int .u8 (x 8), .int .u8 (x 9), .int .u8 (x 10), .int .u8 (x 11), .int .u8 (x 12), .int .u8 (x 13), .int .u8 (x 14), .int .u8 (x 15)] n e a)), [])) [13]).toInt, .int .u8 (sel (some (AEnd.ret (AV.agg (endB [.int .u8 (x 0), .int .u8 (x 1), .int .u8 (x 2), .int .u8 (x 3), .int .u8 (x 4), .int .u8 (x 5), .int .u8 (x 6), .int .u8 (x 7), .int .u8 (x 8), .int .u8 (x 9), .int .u8 (x 10), .int .u8 (x 11), .int .u8 (x 12), .int .u8 (x 13), .int .u8 (x 14), .int .u8 (x 15)] n e a)), [])) [14]).toInt, .int .u8 (sel (some (AEnd.ret (AV.agg (endB [.int .u8 (x 0), .int .u8 (x 1), .int .u8 (x 2), .int .u8 (x 3), .int .u8 (x 4), .int .u8 (x 5), .int .u8 (x 6), .int .u8 (x 7), .int .u8 (x 8), .int .u8 (x 9), .int .u8 (x 10), .int .u8 (x 11), .int .u8 (x 12), .int .u8 (x 13), .int .u8 (x 14), .int .u8 (x 15)] n e a)), [])) [15]).toInt], .int .i64 80, .int .i64 32, .int .u64 v] = some (.ret (.agg (orX (getX (v4B [.int .u8 (z 0), .int .u8 (z 1), .int .u8 (z 2), .int .u8 (z 3)] m e a) 0 32) 32 80 (endB [.int .u8 (x 0), .int .u8 (x 1), .int .u8 (x 2), .int .u8 (x 3), .int .u8 (x 4), .int .u8 (x 5), .int .u8 (x 6), .int .u8 (x 7), .int .u8 (x 8), .int .u8 (x 9), .int .u8 (x 10), .int .u8 (x 11), .int .u8 (x 12), .int .u8 (x 13), .int .u8 (x 14), .int .u8 (x 15)] n e a))), []) ∧ R59 [.agg [.int .u8 (sel (some (AEnd.ret (AV.agg (orX (getX (v4B [.int .u8 (z 0), .int .u8 (z 1), .int .u8 (z 2), .int .u8 (z 3)] m e a) 0 32) 32 80 (endB [.int .u8 (x 0), .int .u8 (x 1), .int .u8 (x 2), .int .u8 (x 3), .int .u8 (x 4), .int .u8 (x 5), .int .u8 (x 6), .int .u8 (x 7), .int .u8 (x 8), .int .u8 (x 9), .int .u8 (x 10), .int .u8 (x 11), .int .u8 (x 12), .int .u8 (x 13), .int .u8 (x 14), .int .u8 (x 15)] n e a))), [])) [0]).toInt, .int .u8 (sel (some (AEnd.ret (AV.agg (orX (getX (v4B [.int .u8 (z 0), .int .u8 (z 1), .int .u8 (z 2), .int .u8 (z 3)] m e a) 0 32) 32 80 (endB [.int .u8 (x 0), .int .u8 (x 1), .int .u8 (x 2), .int .u8 (x 3), .int .u8 (x 4), .int .u8 (x 5), .int .u8 (x 6), .int .u8 (x 7), .int .u8 (x 8), .int .u8 (x 9), .int .u8 (x 10), .int .u8 (x 11), .int .u8 (x 12), .int .u8 (x 13), .int .u8 (x 14), .int .u8 (x 15)] n e a))), [])) [1]).toInt, .int .u8 (sel (some (AEnd.ret (AV.agg (orX (getX (v4B [.int .u8 (z 0), .int .u8 (z 1), .int .u8 (z 2), .int .u8 (z 3)] m e a) 0 32) 32 80 (endB [.int .u8 (x 0), .int .u8 (x 1), .int .u8 (x 2), .int .u8 (x 3), .int .u8 (x 4), .int .u8 (x 5), .int .u8 (x 6), .int .u8 (x 7), .int .u8 (x 8), .int .u8 (x 9), .int .u8 (x 10), .int .u8 (x 11), .int .u8 (x 12), .int .u8 (x 13), .int .u8 (x 14), .int .u8 (x 15)] n e a))), [])) [2]).toInt, .int .u8 (sel (some (AEnd.ret (AV.agg (orX (getX (v4B [.int .u8 (z 0), .int .u8 (z 1), .int .u8 (z 2), .int .u8 (z 3)] m e a) 0 32) 32 80 (endB [.int .u8 (x 0), .int .u8 (x 1), .int .u8 (x 2), .int .u8 (x 3), .int .u8 (x 4), .int .u8 (x 5), .int .u8 (x 6), .int .u8 (x 7), .int .u8 (x 8), .int .u8 (x 9), .int .u8 (x 10), .int .u8 (x 11), .int .u8 (x 12), .int .u8 (x 13), .int .u8 (x 14), .int .u8 (x 15)] n e a))), [])) [3]).toInt, .int .u8 (sel (some (AEnd.ret (AV.agg (orX (getX (v4B [.int .u8 (z 0), .int .u8 (z 1), .int .u8 (z 2), .int .u8 (z 3)] m e a) 0 32) 32 80 (endB [.int .u8 (x 0), .int .u8 (x 1), .int .u8 (x 2), .int .u8 (x 3), .int .u8 (x 4), .int .u8 (x 5), .int .u8 (x 6), .int .u8 (x 7), .int .u8 (x 8), .int .u8 (x 9), .int .u8 (x 10), .int .u8 (x 11), .int .u8 (x 12), .int .u8 (x 13), .int .u8 (x 14), .int .u8 (x 15)] n e a))), [])) [4]).toInt, .int .u8 (sel (some (AEnd.ret (AV.agg (orX (getX (v4B [.int .u8 (z 0), .int .u8 (z 1), .int .u8 (z 2), .int .u8 (z 3)] m e a) 0 32) 32 80 (endB [.int .u8 (x 0), .int .u8 (x 1), .int .u8 (x 2), .int .u8 (x 3), .int .u8 (x 4), .int .u8 (x 5), .int .u8 (x 6), .int .u8 (x 7), .int .u8 (x 8), .int .u8 (x 9), .int .u8 (x 10), .int .u8 (x 11), .int .u8 (x 12), .int .u8 (x 13), .int .u8 (x 14), .int .u8 (x 15)] n e a))), [])) [5]).toInt, .int .u8 (sel (some (AEnd.ret (AV.agg (orX (getX (v4B [.int .u8 (z 0), .int .u8 (z 1), .int .u8 (z 2), .int .u8 (z 3)] m e a) 0 32) 32 80 (endB [.int .u8 (x 0), .int .u8 (x 1), .int .u8 (x 2), .int .u8 (x 3), .int .u8 (x 4), .int .u8 (x 5), .int .u8 (x 6), .int .u8 (x 7), .int .u8 (x 8), .int .u8 (x 9), .int .u8 (x 10), .int .u8 (x 11), .int .u8 (x 12), .int .u8 (x 13), .int .u8 (x 14), .int .u8 (x 15)] n e a))), [])) [6]).toInt, .int .u8 (sel (some (AEnd.ret (AV.agg (orX (getX (v4B [.int .u8 (z 0), .int .u8 (z 1), .int .u8 (z 2), .int .u8 (z 3)] m e a) 0 32) 32 80 (endB [.int .u8 (x 0), .int .u8 (x 1), .int .u8 (x 2), .int .u8 (x 3), .int .u8 (x 4), .int .u8 (x 5), .int .u8 (x 6), .int .u8 (x 7), .int .u8 (x 8), .int .u8 (x 9), .int .u8 (x 10), .int .u8 (x 11), .int .u8 (x 12), .int .u8 (x 13), .int .u8 (x 14), .int .u8 (x 15)] n e a))), [])) [7]).toInt, .int .u8 (sel (some (AEnd.ret (AV.agg (orX (getX (v4B [.int .u8 (z 0), .int .u8 (z 1), .int .u8 (z 2), .int .u8 (z 3)] m e a) 0 32) 32 80 (endB [.int .u8 (x 0), .int .u8 (x 1), .int .u8 (x 2), .int .u8 (x 3), .int .u8 (x 4), .int .u8 (x 5), .int .u8 (x 6), .int .u8 (x 7), .int .u8 (x 8), .int .u8 (x 9), .int .u8 (x 10), .int .u8 (x 11), .int .u8 (x 12), .int .u8 (x 13), .int .u8 (x 14), .int .u8 (x 15)] n e a))), [])) [8]).toInt, .int .u8 (sel (some (AEnd.ret (AV.agg (orX (getX (v4B [.int .u8 (z 0), .int .u8 (z 1), .int .u8 (z 2), .int .u8 (z 3)] m e a) 0 32) 32 80 (endB [.int .u8 (x 0), .int .u8 (x 1), .int .u8 (x 2), .int .u8 (x 3), .int .u8 (x 4), .int .u8 (x 5), .int .u8 (x 6), .int .u8 (x 7), .int .u8 (x 8), .int .u8 (x 9), .int .u8 (x 10), .int .u8 (x 11), .int .u8 (x 12), .int .u8 (x 13), .int .u8 (x 14), .int .u8 (x 15)] n e a))), [])) [9]).toInt, .int .u8 (sel (some (AEnd.ret (AV.agg (orX (getX (v4B [.int .u8 (z 0), .int .u8 (z 1), .int .u8 (z 2), .int .u8 (z 3)] m e a) 0 32) 32 80 (endB [.int .u8 (x 0), .int .u8 (x 1), .int .u8 (x 2), .int .u8 (x 3), .int .u8 (x 4), .int .u8 (x 5), .int .u8 (x 6), .int .u8 (x 7), .int .u8 (x 8), .int .u8 (x 9), .int .u8 (x 10), .int .u8 (x 11), .int .u8 (x 12), .int .u8 (x 13), .int .u8 (x 14), .int .u8 (x 15)] n e a))), [])) [10]).toInt, .int .u8 (sel (some (AEnd.ret (AV.agg (orX (getX (v4B [.int .u8 (z 0), .int .u8 (z 1), .int .u8 (z 2), .int .u8 (z 3)] m e a) 0 32) 32 80 (endB [.int .u8 (x 0), .int .u8 (x 1), .int .u8 (x 2), .int .u8 (x 3), .int .u8 (x 4), .int .u8 (x 5), .int .u8 (x 6), .int .u8 (x 7), .int .u8 (x 8), .int .u8 (x 9), .int .u8 (x 10), .int .u8 (x 11), .int .u8 (x 12), .int .u8 (x 13), .int .u8 (x 14), .int .u8 (x 15)] n e a))), [])) [11]).toInt, .int .u8 (sel (some (AEnd.ret (AV.agg (orX (getX (v4B [.int .u8 (z 0), .int .u8 (z 1), .int .u8 (z 2), .int .u8 (z 3)] m e a) 0 32) 32 80 (endB [.int .u8 (x 0), .int .u8 (x 1), .int .u8 (x 2), .int .u8 (x 3), .int .u8 (x 4), .int .u8 (x 5), .int .u8 (x 6), .int .u8 (x 7), .int .u8 (x 8), .int .u8 (x 9), .int .u8 (x 10), .int .u8 (x 11), .int .u8 (x 12), .int .u8 (x 13), .int .u8 (x 14), .int .u8 (x 15)] n e a))), [])) [12]).toInt, .int .u8 (sel (some (AEnd.ret (AV.agg (orX (getX (v4B [.int .u8 (z 0), .int .u8 (z 1), .int .u8 (z 2), .int .u8 (z 3)] m e a) 0 32) 32 80 (endB [.int .u8 (x 0), .int .u8 (x 1), .int .u8 (x 2), .int .u8 (x 3), .int .u8 (x 4), .int .u8 (x 5), .int .u8 (x 6), .int .u8 (x 7), .int .u8 (x 8), .int .u8 (x 9), .int .u8 (x 10), .int .u8 (x 11), .int .u8 (x 12), .int .u8 (x 13), .int .u8 (x 14), .int .u8 (x 15)] n e a))), [])) [13]).toInt, .int .u8 (sel (some (AEnd.ret (AV.agg (orX (getX (v4B [.int .u8 (z 0), .int .u8 (z 1), .int .u8 (z 2), .int .u8 (z 3)] m e a) 0 32) 32 80 (endB [.int .u8 (x 0), .int .u8 (x 1), .int .u8 (x 2), .int .u8 (x 3), .int .u8 (x 4), .int .u8 (x 5), .int .u8 (x 6), .int .u8 (x 7), .int .u8 (x 8), .int .u8 (x 9), .int .u8 (x 10), .int .u8 (x 11), .int .u8 (x 12), .int .u8 (x 13), .int .u8 (x 14), .int .u8 (x 15)] n e a))), [])) [14]).toInt, .int .u8 (sel (some (AEnd.ret (AV.agg (orX (getX (v4B [.int .u8 (z 0), .int .u8 (z 1), .int .u8 (z 2), .int .u8 (z 3)] m e a) 0 32) 32 80 (endB [.int .u8 (x 0), .int .u8 (x 1), .int .u8 (x 2), .int .u8 (x 3), .int .u8 (x 4), .int .u8 (x 5), .int .u8 (x 6), .int .u8 (x 7), .int .u8 (x 8), .int .u8 (x 9), .int .u8 (x 10), .int .u8 (x 11), .int .u8 (x 12), .int .u8 (x 13), .int .u8 (x 14), .int .u8 (x 15)] n e a))), [])) [15]).toInt], .int .i64 112, .int .i64 16, .int .u64 p] = some (.ret (.agg (ownB [.int .u8 (x 0), .int .u8 (x 1), .int .u8 (x 2), .int .u8 (x 3), .int .u8 (x 4), .int .u8 (x 5), .int .u8 (x 6), .int .u8 (x 7), .int .u8 (x 8), .int .u8 (x 9), .int .u8 (x 10), .int .u8 (x 11), .int .u8 (x 12), .int .u8 (x 13), .int .u8 (x 14), .int .u8 (x 15)] [.int .u8 (z 0), .int .u8 (z 1), .int .u8 (z 2), .int .u8 (z 3)] n m e a)), []) := by
    intro v p hv hp'
    rw [hv, hp']
    have t80 : (80 : Int).toNat = 80 := rfl
    have t32 : (32 : Int).toNat = 32 := rfl
    have t112 : (112 : Int).toNat = 112 := rfl
    have t16 : (16 : Int).toNat = 16 := rfl
    have g1 := R59_by (a := 80) (n := 32) (v := getX (v4B [.int .u8 (z 0), .int .u8 (z 1), .int .u8 (z 2), .int .u8 (z 3)] m e a) 0 32) hE.1 hE.2 (by omega) (by omega) (by omega) (by omega) gv.1 (by omega)
    have g2 := R59_by (xs := (orX (getX (v4B [.int .u8 (z 0), .int .u8 (z 1), .int .u8 (z 2), .int .u8 (z 3)] m e a) 0 32) 32 80 (endB [.int .u8 (x 0), .int .u8 (x 1), .int .u8 (x 2), .int .u8 (x 3), .int .u8 (x 4), .int .u8 (x 5), .int .u8 (x 6), .int .u8 (x 7), .int .u8 (x 8), .int .u8 (x 9), .int .u8 (x 10), .int .u8 (x 11), .int .u8 (x 12), .int .u8 (x 13), .int .u8 (x 14), .int .u8 (x 15)] n e a))) (a := 112) (n := 16) (v := pidR m e a) hO1.1 (hO1.2.1.trans hE.2) (by omega) (by omega) (by omega) (by omega) hpid.1 (by omega)
    rw [t80, t32] at g1
    rw [t112, t16, hor] at g2
    simp only [sb]
    exact ⟨g1, g2⟩
  have sE : shOK (.agg [.int .u8, .int .u8, .int .u8, .int .u8, .int .u8, .int .u8, .int .u8, .int .u8, .int .u8, .int .u8, .int .u8, .int .u8, .int .u8, .int .u8, .int .u8, .int .u8]) (some (.ret (.agg (endB [.int .u8 (x 0), .int .u8 (x 1), .int .u8 (x 2), .int .u8 (x 3), .int .u8 (x 4), .int .u8 (x 5), .int .u8 (x 6), .int .u8 (x 7), .int .u8 (x 8), .int .u8 (x 9), .int .u8 (x 10), .int .u8 (x 11), .int .u8 (x 12), .int .u8 (x 13), .int .u8 (x 14), .int .u8 (x 15)] n e a)), [])) = true := by rw [shOK_ret]; exact hasU16 hE.1 hE.2
  have s1 : shOK (.agg [.int .u8, .int .u8, .int .u8, .int .u8, .int .u8, .int .u8, .int .u8, .int .u8, .int .u8, .int .u8, .int .u8, .int .u8, .int .u8, .int .u8, .int .u8, .int .u8]) (some (.ret (.agg (orX (getX (v4B [.int .u8 (z 0), .int .u8 (z 1), .int .u8 (z 2), .int .u8 (z 3)] m e a) 0 32) 32 80 (endB [.int .u8 (x 0), .int .u8 (x 1), .int .u8 (x 2), .int .u8 (x 3), .int .u8 (x 4), .int .u8 (x 5), .int .u8 (x 6), .int .u8 (x 7), .int .u8 (x 8), .int .u8 (x 9), .int .u8 (x 10), .int .u8 (x 11), .int .u8 (x 12), .int .u8 (x 13), .int .u8 (x 14), .int .u8 (x 15)] n e a))), [])) = true := by rw [shOK_ret]; exact hasU16 hO1.1 (hO1.2.1.trans hE.2)
  have sO : shOK (.agg [.int .u8, .int .u8, .int .u8, .int .u8, .int .u8, .int .u8, .int .u8, .int .u8, .int .u8, .int .u8, .int .u8, .int .u8, .int .u8, .int .u8, .int .u8, .int .u8]) (some (.ret (.agg (ownB [.int .u8 (x 0), .int .u8 (x 1), .int .u8 (x 2), .int .u8 (x 3), .int .u8 (x 4), .int .u8 (x 5), .int .u8 (x 6), .int .u8 (x 7), .int .u8 (x 8), .int .u8 (x 9), .int .u8 (x 10), .int .u8 (x 11), .int .u8 (x 12), .int .u8 (x 13), .int .u8 (x 14), .int .u8 (x 15)] [.int .u8 (z 0), .int .u8 (z 1), .int .u8 (z 2), .int .u8 (z 3)] n m e a)), [])) = true := by rw [shOK_ret]; exact hasU16 ownB_ok.1 ownB_ok.2
  have sV : shOK (.agg [.int .u8, .int .u8, .int .u8, .int .u8]) (some (.ret (.agg (v4B [.int .u8 (z 0), .int .u8 (z 1), .int .u8 (z 2), .int .u8 (z 3)] m e a)), [])) = true := by rw [shOK_ret]; exact hasU4 hV.1 hV.2
  have hfour := four_num hV.1 hV.2 (sb (v4B [.int .u8 (z 0), .int .u8 (z 1), .int .u8 (z 2), .int .u8 (z 3)] m e a) 0) (sb (v4B [.int .u8 (z 0), .int .u8 (z 1), .int .u8 (z 2), .int .u8 (z 3)] m e a) 1) (sb (v4B [.int .u8 (z 0), .int .u8 (z 1), .int .u8 (z 2), .int .u8 (z 3)] m e a) 2) (sb (v4B [.int .u8 (z 0), .int .u8 (z 1), .int .u8 (z 2), .int .u8 (z 3)] m e a) 3)
  unfold edgV
  by_cases hq : qR m e > 0
  · have hpe : pidR m e a = a % 2 ^ (qR m e).toNat := if_pos hq
    have hof : offR m e o = o := if_pos hq
    have hd : e - (32 - m) > 0 := by unfold qR at hq; split at hq <;> omega
    have hpr : IntKind.u64.wrap (IntKind.u16.wrap (IntKind.u64.wrap ((BitVec.ofInt 64 a &&& BitVec.ofInt 64 (IntKind.u64.wrap (IntKind.u64.wrap (1 * 2 ^ min (IntKind.u64.wrap (if 0 > IntKind.i64.wrap (e - IntKind.i64.wrap (32 - m)) then 0 else IntKind.i64.wrap (e - IntKind.i64.wrap (32 - m)))).toNat 64) - 1))).toNat : Int))) = pidR m e a := by
      rw [w1, w2, w3, wu, w6, wp, hpe, u16_of (by omega) (by omega), u64_of (by omega) (by omega)]
    have e34 := eO _ _ hfour hpr
    have hs := shr_range d0 d1 (qR m e).toNat
    have e2 : R60 [.agg [.int .u8 (z 0), .int .u8 (z 1), .int .u8 (z 2), .int .u8 (z 3)], .int .i64 m, .int .i64 (IntKind.i64.wrap (32 - m)), .int .u64 (a.fdiv (2 ^ min (IntKind.u64.wrap (if 0 > IntKind.i64.wrap (e - IntKind.i64.wrap (32 - m)) then 0 else IntKind.i64.wrap (e - IntKind.i64.wrap (32 - m)))).toNat 64))] = some (.ret (.agg (v4B [.int .u8 (z 0), .int .u8 (z 1), .int .u8 (z 2), .int .u8 (z 3)] m e a)), []) := by
      rw [w1, w2, w3, wu, w6, shr_eq, R60_at (x := z) rfl hz b1 (by omega) (by omega) (by omega) hs.1 hs.2, hVo _ _ (by omega) rfl]
    rw [N38 x z n m e o f a e0.symm e2.symm e34.1.symm e34.2.symm rfl rfl rfl]
    refine (aIf_pos sE).trans ((aIf_pos (by rw [w1, w2]; exact decide_eq_true hd)).trans ((aIf_neg (by rw [w1, w2, w3, wu]; exact decide_eq_false (by omega))).trans ((aIf_pos sV).trans ((aIf_neg (by rw [w1, w2, w3, wu]; exact decide_eq_false (by omega))).trans ((aIf_pos s1).trans ((aIf_pos sO).trans ?_))))))
    have wq : IntKind.u16.wrap (a % 2 ^ (qR m e).toNat) = pidR m e a := by rw [← hpe]; exact u16_of (by omega) (by omega)
    have wl : m + (e - qR m e) = 32 := by have := q7 hq; omega
    simp only [w1, w2, w3, wu, w6, w8, wp, wq, sb, hof, wl]
  · have hpe : pidR m e a = 0 := if_neg hq
    have hof : offR m e o = 0 := if_neg hq
    have hq0 : qR m e = 0 := by omega
    have hd : ¬ e - (32 - m) > 0 := by unfold qR at hq; split at hq <;> omega
    have e67 := eO _ _ hfour hpe.symm
    have w7 : IntKind.i64.wrap (m + e) = m + e := i64_of (by omega) (by omega)
    have e5 : R60 [.agg [.int .u8 (z 0), .int .u8 (z 1), .int .u8 (z 2), .int .u8 (z 3)], .int .i64 m, .int .i64 e, .int .u64 a] = some (.ret (.agg (v4B [.int .u8 (z 0), .int .u8 (z 1), .int .u8 (z 2), .int .u8 (z 3)] m e a)), []) := by
      rw [R60_at (x := z) rfl hz b1 (by omega) (by omega) (by omega) d0 d1, hVo _ _ (by rw [hq0]; omega) (by rw [hq0]; exact (Int.ediv_one a).symm)]
    rw [N38 x z n m e o f a e0.symm rfl rfl rfl e5.symm e67.1.symm e67.2.symm]
    refine (aIf_pos sE).trans ((aIf_neg (by rw [w1, w2]; exact decide_eq_false hd)).trans ((aIf_pos sV).trans ((aIf_pos s1).trans ((aIf_pos sO).trans ?_))))
    simp only [w7, w8, sb, hof, hpe]
    simp only [hq0, Int.sub_zero]
end Go.Proofs.YtlfhkoajmjfbpaaDoor
