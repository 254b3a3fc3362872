/- FieldLeads: how many first bits of any two rows of bytes are alike, and a row whose bits from a place on are 0, are the document's. -/
import Derived.Test.YtkiipegoooldiaaFFieldLeads
import Derived.Test.YtkiipegoooldiaaA20
import Derived.Test.YtkiipegoooldiaaPBits
import Derived.ProofKit
namespace Go.Proofs.Ytkiipegoooldiaa
open Go.Abs Go.Pl Go.RowKit Go.ChangeShapes Go.WideShapes Go.ChangeAt

theorem own : ownKnob Try.prog.godebug = none := by kernel_rfl
theorem laidOut : laidOutB Try.prog = true := by kernel_rfl
theorem argT3 (xs : List AV) : argT E 4 3 xs = intT .i64 xs := by kernel_rfl
theorem agg3 : aggT E 3 = false := by kernel_rfl
theorem argT22 (xs : List AV) : argT E 4 22 xs = bytesT xs := by kernel_rfl
theorem agg22 : aggT E 22 = false := by kernel_rfl

theorem N6 (xs : List AV) (fl : SF) (ys : List AV) (gl : SF) (n : Int) : S6 [.fs 1 xs fl, .fs 1 ys gl, .int .i64 n] [] (fun e H => some (e, H)) =
  aIf (shOK (Sh.ints IntKind.u8) (R15 [AV.fs 1 xs fl]))
  (aIf (shOK (Sh.ints IntKind.u8) (R15 [AV.fs 1 ys gl]))
    (aIf
      (shOK (Sh.tup [Sh.bool, Sh.int IntKind.i64])
        (R26
          [AV.fs 1 (sel (R15 [AV.fs 1 xs fl]) []).toFs (sel (R15 [AV.fs 1 xs fl]) []).toFl,
            AV.fs 1 (sel (R15 [AV.fs 1 ys gl]) []).toFs (sel (R15 [AV.fs 1 ys gl]) []).toFl, AV.int IntKind.i64 n]))
      (aIf
        (shOK (Sh.tup [Sh.bool, Sh.int IntKind.i64])
          (R27
            [AV.fs 1 (sel (R15 [AV.fs 1 xs fl]) []).toFs (sel (R15 [AV.fs 1 xs fl]) []).toFl,
              AV.fs 1 (sel (R15 [AV.fs 1 ys gl]) []).toFs (sel (R15 [AV.fs 1 ys gl]) []).toFl, AV.int IntKind.i64 n]))
        (aIf
          (shOK (Sh.tup [Sh.ints IntKind.u8, Sh.int IntKind.i64])
            (R28
              [AV.fs 1 (sel (R15 [AV.fs 1 xs fl]) []).toFs (sel (R15 [AV.fs 1 xs fl]) []).toFl, AV.int IntKind.i64 n]))
          (aIf
            (shOK (Sh.tup [Sh.ints IntKind.u8, Sh.int IntKind.i64])
              (R29
                [AV.fs 1 (sel (R15 [AV.fs 1 xs fl]) []).toFs (sel (R15 [AV.fs 1 xs fl]) []).toFl,
                  AV.int IntKind.i64 n]))
            (aIf
              ((sel
                    (R26
                      [AV.fs 1 (sel (R15 [AV.fs 1 xs fl]) []).toFs (sel (R15 [AV.fs 1 xs fl]) []).toFl,
                        AV.fs 1 (sel (R15 [AV.fs 1 ys gl]) []).toFs (sel (R15 [AV.fs 1 ys gl]) []).toFl,
                        AV.int IntKind.i64 n])
                    [0]).toBool ==
                (sel
                    (R27
                      [AV.fs 1 (sel (R15 [AV.fs 1 xs fl]) []).toFs (sel (R15 [AV.fs 1 xs fl]) []).toFl,
                        AV.fs 1 (sel (R15 [AV.fs 1 ys gl]) []).toFs (sel (R15 [AV.fs 1 ys gl]) []).toFl,
                        AV.int IntKind.i64 n])
                    [0]).toBool)
              (aIf
                ((sel
                      (R26
                        [AV.fs 1 (sel (R15 [AV.fs 1 xs fl]) []).toFs (sel (R15 [AV.fs 1 xs fl]) []).toFl,
                          AV.fs 1 (sel (R15 [AV.fs 1 ys gl]) []).toFs (sel (R15 [AV.fs 1 ys gl]) []).toFl,
                          AV.int IntKind.i64 n])
                      [1]).toInt ==
                  (sel
                      (R27
                        [AV.fs 1 (sel (R15 [AV.fs 1 xs fl]) []).toFs (sel (R15 [AV.fs 1 xs fl]) []).toFl,
                          AV.fs 1 (sel (R15 [AV.fs 1 ys gl]) []).toFs (sel (R15 [AV.fs 1 ys gl]) []).toFl,
                          AV.int IntKind.i64 n])
                      [1]).toInt)
                (aIf
                  (allU8
                    (sel
                        (R28
                          [AV.fs 1 (sel (R15 [AV.fs 1 xs fl]) []).toFs (sel (R15 [AV.fs 1 xs fl]) []).toFl,
                            AV.int IntKind.i64 n])
                        [0]).toFs)
                  (aIf
                    (allU8
                      (sel
                          (R29
                            [AV.fs 1 (sel (R15 [AV.fs 1 xs fl]) []).toFs (sel (R15 [AV.fs 1 xs fl]) []).toFl,
                              AV.int IntKind.i64 n])
                          [0]).toFs)
                    (aIf
                      ((ByteArray.mk
                            (Array.mk
                              (List.map (fun v => UInt8.ofNat v.toInt.toNat)
                                (sel
                                    (R28
                                      [AV.fs 1 (sel (R15 [AV.fs 1 xs fl]) []).toFs (sel (R15 [AV.fs 1 xs fl]) []).toFl,
                                        AV.int IntKind.i64 n])
                                    [0]).toFs))).toList ==
                        (ByteArray.mk
                            (Array.mk
                              (List.map (fun v => UInt8.ofNat v.toInt.toNat)
                                (sel
                                    (R29
                                      [AV.fs 1 (sel (R15 [AV.fs 1 xs fl]) []).toFs (sel (R15 [AV.fs 1 xs fl]) []).toFl,
                                        AV.int IntKind.i64 n])
                                    [0]).toFs))).toList)
                      (aIf
                        ((sel
                              (R28
                                [AV.fs 1 (sel (R15 [AV.fs 1 xs fl]) []).toFs (sel (R15 [AV.fs 1 xs fl]) []).toFl,
                                  AV.int IntKind.i64 n])
                              [1]).toInt ==
                          (sel
                              (R29
                                [AV.fs 1 (sel (R15 [AV.fs 1 xs fl]) []).toFs (sel (R15 [AV.fs 1 xs fl]) []).toFl,
                                  AV.int IntKind.i64 n])
                              [1]).toInt)
                        (aIf
                          (shOK (Sh.int IntKind.i64)
                            (R30
                              [AV.fs 1 (sel (R15 [AV.fs 1 xs fl]) []).toFs (sel (R15 [AV.fs 1 xs fl]) []).toFl,
                                AV.fs 1 (sel (R15 [AV.fs 1 ys gl]) []).toFs (sel (R15 [AV.fs 1 ys gl]) []).toFl]))
                          (aIf
                            (shOK (Sh.int IntKind.i64)
                              (R31
                                [AV.fs 1 (sel (R15 [AV.fs 1 xs fl]) []).toFs (sel (R15 [AV.fs 1 xs fl]) []).toFl,
                                  AV.fs 1 (sel (R15 [AV.fs 1 ys gl]) []).toFs (sel (R15 [AV.fs 1 ys gl]) []).toFl]))
                            (aIf
                              ((sel
                                    (R30
                                      [AV.fs 1 (sel (R15 [AV.fs 1 xs fl]) []).toFs (sel (R15 [AV.fs 1 xs fl]) []).toFl,
                                        AV.fs 1 (sel (R15 [AV.fs 1 ys gl]) []).toFs
                                          (sel (R15 [AV.fs 1 ys gl]) []).toFl])
                                    []).toInt ==
                                (sel
                                    (R31
                                      [AV.fs 1 (sel (R15 [AV.fs 1 xs fl]) []).toFs (sel (R15 [AV.fs 1 xs fl]) []).toFl,
                                        AV.fs 1 (sel (R15 [AV.fs 1 ys gl]) []).toFs
                                          (sel (R15 [AV.fs 1 ys gl]) []).toFl])
                                    []).toInt)
                              (some (AEnd.ret (AV.bool true), [])) (some (AEnd.ret (AV.bool false), [])))
                            none)
                          none)
                        (some (AEnd.ret (AV.bool false), [])))
                      (some (AEnd.ret (AV.bool false), [])))
                    none)
                  none)
                (some (AEnd.ret (AV.bool false), [])))
              (some (AEnd.ret (AV.bool false), [])))
            none)
          none)
        none)
      none)
    none)
  none := by kernel_rfl

theorem law_holds : ∀ xs, argsV E 4 Try.f6.params.toList xs → S6 xs [] (fun e H => some (e, H)) = some (.ret (.bool true), []) := by
  intro xs h
  rw [Try.params6] at h
  obtain ⟨x, y, z, rfl, h1, h2, h3⟩ := args3 h
  obtain ⟨ys, fl, rfl, hl, hf, hu⟩ := bytesArg h1 argT22 agg22
  obtain ⟨zs, gl, rfl, hl', hf', hv⟩ := bytesArg h2 argT22 agg22
  obtain ⟨n, rfl, hn⟩ := intArg h3 argT3 agg3
  have hu2 : intsB .u8 (ys.take 200) = true := intsB_take hu 200
  have hL : (ys.take 200).length ≤ 1000000 := by rw [List.length_take]; omega
  have hf2 : fl ≠ .any → ys.take 200 = [] := fun h => by rw [hf h]; rfl
  have hv2 : intsB .u8 (zs.take 200) = true := intsB_take hv 200
  have hM : (zs.take 200).length ≤ 1000000 := by rw [List.length_take]; omega
  obtain ⟨f1, e1⟩ := R28_is (f := n) hu2 hL hf2
  obtain ⟨f2, e2⟩ := R29_is (fl := fl) (f := n) hu2 hL
  have hs : ∀ (zs : List AV) (fl : SF), (sel (some (AEnd.ret (AV.fs 1 zs fl), [])) []) = .fs 1 zs fl := fun _ _ => rfl
  rw [N6, R15_is, R15_is, shOK_ret, has_ints, hu2, shOK_ret, has_ints, hv2, hs, hs]
  simp only [AV.toFs, AV.toFl]
  rw [R26_is hu2 hL hv2 hM, R27_is hu2 hL hv2 hM, R30_is hu2 hL hv2 hM, R31_is hu2 hL hv2 hM, e1, e2]
  have g0 : ∀ (x : AV), sel (some (AEnd.ret x, [])) [] = x := fun _ => rfl
  have g1 : ∀ (x y : AV), sel (some (AEnd.ret (AV.tup [x, y]), [])) [0] = x := fun _ _ => rfl
  have g2 : ∀ (x y : AV), sel (some (AEnd.ret (AV.tup [x, y]), [])) [1] = y := fun _ _ => rfl
  have p1 := clearX_u8 (f := n) hu2
  have i1 : inK .i64 (leadV (ys.take 200) (zs.take 200) : Int) = true := by
    have := leadV_le (ys.take 200) (zs.take 200)
    rw [inK_i64, decide_eq_true (show (-9223372036854775808 : Int) ≤ (leadV (ys.take 200) (zs.take 200) : Int) by omega), decide_eq_true (show (leadV (ys.take 200) (zs.take 200) : Int) ≤ 9223372036854775807 by omega)]; rfl
  have i2 : inK .i64 (sameE (ys.take 200).length (zs.take 200).length n) = true := by unfold sameE; cases thereB (ys.take 200).length 0 n && thereB (zs.take 200).length 0 n <;> rfl
  have i3 : inK .i64 (clearE (ys.take 200).length n) = true := by unfold clearE; cases decide (n < 0) || decide (n > 8 * ((ys.take 200).length : Int)) <;> rfl
  simp only [shOK_ret, has_tup, hasL_cons, hasL_nil, List.getD_cons_zero, List.getD_cons_succ, has_int, has_bool, has_ints, i1, i2, i3, p1, g0, g1, g2, AV.toInt, AV.toBool, allU8_of p1, List.length_cons, List.length_nil, beq_self_eq_true, Bool.and_self, aIf_true]

theorem law_spec {H : Type} (ds : List (DataW H)) (h : ds.length = Try.f6.params.toList.length) : (Rows.fieldLeadsSpec.fn H (ds ++ [])).results = [.lit (.bool true)] ∧ (Rows.fieldLeadsSpec.fn H (ds ++ [])).args = ds ∧ (Rows.fieldLeadsSpec.fn H (ds ++ [])).vars = [] := by
  rw [Try.params6] at h
  match ds, h with
  | [d0, d1, d2], _ => exact ⟨rfl, rfl, rfl⟩

set_option maxRecDepth 100000 in
theorem law_lifted (os : Os) (started : os.Started) (H : Type) (enc : TypeId × Value → H) :
    ReturnsInHanded {} Try.checked os 6 .any (Rows.fieldLeadsSpec.pre6 enc Try.prog Try.f6 Rows.fieldLeadsRow.domain false) (Rows.fieldLeadsSpec.post enc Try.prog Try.f6 false true false false) := by
  refine returnsInHanded_of_change (C := Try.checked) own started (by kernel_rfl) Try.func6
    (ChangeSpec.witness6 (enc := enc) (C := Try.checked) false ⟨#[], #[.slice none 0 0, .slice none 0 0, .int .i64 0], []⟩ 8 (by kernel_rfl) (by kernel_rfl) (by kernel_rfl) (by kernel_rfl)) ?_
  intro W base args ds gs before hval hW _ _
  exact law_post (P := Try.prog) (E := E) (D := 4) (tb := 4) (fn := Try.f6) E_ok laidOut (by kernel_rfl) rfl (by kernel_rfl) rfl law_spec S6_ok law_holds hval hW

theorem fieldLeads_holds : Rows.FieldLeadsSaid :=
  OpenClaim.holds_of_wide 6 Try.f6 rfl rfl rfl rfl rfl rfl rfl ⟨rfl, rfl, rfl, rfl, rfl⟩ rfl rfl rfl rfl rfl (by kernel_rfl) Try.func6 (by kernel_rfl)
    (of_decide_eq_true (by kernel_rfl)) (by unfold Func.isWrapper; first | (rw [if_pos (by decide +kernel)]; kernel_rfl) | (rw [if_neg (by decide +kernel)]; exact ⟨rfl, rfl⟩))
    (fun os started H enc _ => law_lifted os started H enc)

#print axioms fieldLeads_holds

end Go.Proofs.Ytkiipegoooldiaa

