/- FieldGets: any bits of any bytes, and the bytes with others in their place, are the document's. -/
import Derived.Test.YtkiipegoooldiaaFFieldGets
import Derived.Test.YtkiipegoooldiaaA20
import Derived.Test.YtkiipegoooldiaaPBits
import Derived.ProofKit
namespace Go.Proofs.Ytkiipegoooldiaa
open Go.Abs Go.Pl Go.RowKit Go.ChangeShapes Go.WideShapes Go.ChangeAt

theorem own : ownKnob Try.prog.godebug = none := by kernel_rfl
theorem laidOut : laidOutB Try.prog = true := by kernel_rfl
theorem argT3 (xs : List AV) : argT E 4 3 xs = intT .i64 xs := by kernel_rfl
theorem agg3 : aggT E 3 = false := by kernel_rfl
theorem argT23 (xs : List AV) : argT E 4 23 xs = intT .u64 xs := by kernel_rfl
theorem agg23 : aggT E 23 = false := by kernel_rfl
theorem argT22 (xs : List AV) : argT E 4 22 xs = bytesT xs := by kernel_rfl
theorem agg22 : aggT E 22 = false := by kernel_rfl

theorem N5 (xs : List AV) (fl : SF) (a n v : Int) : S5 [.fs 1 xs fl, .int .i64 a, .int .i64 n, .int .u64 v] [] (fun e H => some (e, H)) =
  aIf (shOK (Sh.ints IntKind.u8) (R15 [AV.fs 1 xs fl]))
  (aIf
    (shOK (Sh.tup [Sh.int IntKind.u64, Sh.int IntKind.i64])
      (R18
        [AV.fs 1 (sel (R15 [AV.fs 1 xs fl]) []).toFs (sel (R15 [AV.fs 1 xs fl]) []).toFl, AV.int IntKind.i64 a,
          AV.int IntKind.i64 n]))
    (aIf
      (shOK (Sh.tup [Sh.int IntKind.u64, Sh.int IntKind.i64])
        (R24
          [AV.fs 1 (sel (R15 [AV.fs 1 xs fl]) []).toFs (sel (R15 [AV.fs 1 xs fl]) []).toFl, AV.int IntKind.i64 a,
            AV.int IntKind.i64 n]))
      (aIf
        (shOK (Sh.tup [Sh.ints IntKind.u8, Sh.int IntKind.i64])
          (R16
            [AV.fs 1 (sel (R15 [AV.fs 1 xs fl]) []).toFs (sel (R15 [AV.fs 1 xs fl]) []).toFl, AV.int IntKind.i64 a,
              AV.int IntKind.i64 n, AV.int IntKind.u64 v]))
        (aIf
          (shOK (Sh.tup [Sh.ints IntKind.u8, Sh.int IntKind.i64])
            (R25
              [AV.fs 1 (sel (R15 [AV.fs 1 xs fl]) []).toFs (sel (R15 [AV.fs 1 xs fl]) []).toFl, AV.int IntKind.i64 a,
                AV.int IntKind.i64 n, AV.int IntKind.u64 v]))
          (aIf
            ((sel
                  (R18
                    [AV.fs 1 (sel (R15 [AV.fs 1 xs fl]) []).toFs (sel (R15 [AV.fs 1 xs fl]) []).toFl,
                      AV.int IntKind.i64 a, AV.int IntKind.i64 n])
                  [0]).toInt ==
              (sel
                  (R24
                    [AV.fs 1 (sel (R15 [AV.fs 1 xs fl]) []).toFs (sel (R15 [AV.fs 1 xs fl]) []).toFl,
                      AV.int IntKind.i64 a, AV.int IntKind.i64 n])
                  [0]).toInt)
            (aIf
              ((sel
                    (R18
                      [AV.fs 1 (sel (R15 [AV.fs 1 xs fl]) []).toFs (sel (R15 [AV.fs 1 xs fl]) []).toFl,
                        AV.int IntKind.i64 a, AV.int IntKind.i64 n])
                    [1]).toInt ==
                (sel
                    (R24
                      [AV.fs 1 (sel (R15 [AV.fs 1 xs fl]) []).toFs (sel (R15 [AV.fs 1 xs fl]) []).toFl,
                        AV.int IntKind.i64 a, AV.int IntKind.i64 n])
                    [1]).toInt)
              (aIf
                (allU8
                  (sel
                      (R16
                        [AV.fs 1 (sel (R15 [AV.fs 1 xs fl]) []).toFs (sel (R15 [AV.fs 1 xs fl]) []).toFl,
                          AV.int IntKind.i64 a, AV.int IntKind.i64 n, AV.int IntKind.u64 v])
                      [0]).toFs)
                (aIf
                  (allU8
                    (sel
                        (R25
                          [AV.fs 1 (sel (R15 [AV.fs 1 xs fl]) []).toFs (sel (R15 [AV.fs 1 xs fl]) []).toFl,
                            AV.int IntKind.i64 a, AV.int IntKind.i64 n, AV.int IntKind.u64 v])
                        [0]).toFs)
                  (aIf
                    ((ByteArray.mk
                          (Array.mk
                            (List.map (fun v => UInt8.ofNat v.toInt.toNat)
                              (sel
                                  (R16
                                    [AV.fs 1 (sel (R15 [AV.fs 1 xs fl]) []).toFs (sel (R15 [AV.fs 1 xs fl]) []).toFl,
                                      AV.int IntKind.i64 a, AV.int IntKind.i64 n, AV.int IntKind.u64 v])
                                  [0]).toFs))).toList ==
                      (ByteArray.mk
                          (Array.mk
                            (List.map (fun v => UInt8.ofNat v.toInt.toNat)
                              (sel
                                  (R25
                                    [AV.fs 1 (sel (R15 [AV.fs 1 xs fl]) []).toFs (sel (R15 [AV.fs 1 xs fl]) []).toFl,
                                      AV.int IntKind.i64 a, AV.int IntKind.i64 n, AV.int IntKind.u64 v])
                                  [0]).toFs))).toList)
                    (aIf
                      ((sel
                            (R16
                              [AV.fs 1 (sel (R15 [AV.fs 1 xs fl]) []).toFs (sel (R15 [AV.fs 1 xs fl]) []).toFl,
                                AV.int IntKind.i64 a, AV.int IntKind.i64 n, AV.int IntKind.u64 v])
                            [1]).toInt ==
                        (sel
                            (R25
                              [AV.fs 1 (sel (R15 [AV.fs 1 xs fl]) []).toFs (sel (R15 [AV.fs 1 xs fl]) []).toFl,
                                AV.int IntKind.i64 a, AV.int IntKind.i64 n, AV.int IntKind.u64 v])
                            [1]).toInt)
                      (some (AEnd.ret (AV.bool true), [])) (some (AEnd.ret (AV.bool false), [])))
                    (some (AEnd.ret (AV.bool false), [])))
                  none)
                none)
              (some (AEnd.ret (AV.bool false), [])))
            (some (AEnd.ret (AV.bool false), [])))
          none)
        none)
      none)
    none)
  none := by kernel_rfl

theorem law_holds : ∀ xs, argsV E 4 Try.f5.params.toList xs → S5 xs [] (fun e H => some (e, H)) = some (.ret (.bool true), []) := by
  intro xs h
  rw [Try.params5] at h
  obtain ⟨x, y, z, u, rfl, h1, h2, h3, h4⟩ := args4 h
  obtain ⟨ys, fl, rfl, hl, hf, hu⟩ := bytesArg h1 argT22 agg22
  obtain ⟨a, rfl, ha⟩ := intArg h2 argT3 agg3
  obtain ⟨n, rfl, hn⟩ := intArg h3 argT3 agg3
  obtain ⟨v, rfl, hv⟩ := intArg h4 argT23 agg23
  have hv := rng_u64 hv
  have hu2 : intsB .u8 (ys.take 200) = true := intsB_take hu 200
  have hL : (ys.take 200).length ≤ 1000000 := by rw [List.length_take]; omega
  have hf2 : fl ≠ .any → ys.take 200 = [] := fun h => by rw [hf h]; rfl
  obtain ⟨f1, e1⟩ := R16_is (a := a) (n := n) hu2 hL hf2 hv.1 (show v < 18446744073709551616 by omega)
  obtain ⟨f2, e2⟩ := R25_is (fl := fl) (a := a) (n := n) hu2 hL hv.1
  have hs : (sel (some (AEnd.ret (AV.fs 1 (ys.take 200) fl), [])) []) = .fs 1 (ys.take 200) fl := rfl
  rw [N5, R15_is, shOK_ret, has_ints, hu2, hs]
  simp only [AV.toFs, AV.toFl]
  rw [R18_is hu2 hL, R24_is hu2 hL, e1, e2]
  have g1 : ∀ (x y : AV), sel (some (AEnd.ret (AV.tup [x, y]), [])) [0] = x := fun _ _ => rfl
  have g2 : ∀ (x y : AV), sel (some (AEnd.ret (AV.tup [x, y]), [])) [1] = y := fun _ _ => rfl
  have p1 := putX_u8 (a := a) (n := n) (v := v) hu2
  have x1 := getX_range (ys.take 200) a n
  have i1 : inK .u64 (getX (ys.take 200) a n) = true := inK_of (k := .u64) x1
  have i2 : inK .i64 (getE (ys.take 200).length a n) = true := by unfold getE; cases decide (n > 64) || !thereB (ys.take 200).length a n <;> rfl
  have i3 : inK .i64 (putE (ys.take 200).length a n v) = true := by unfold putE; cases decide (n > 64) || !thereB (ys.take 200).length a n <;> cases fitB v n <;> rfl
  simp only [shOK_ret, has_tup, hasL_cons, hasL_nil, List.getD_cons_zero, List.getD_cons_succ, has_int, has_ints, i1, i2, i3, p1, g1, g2, AV.toInt, allU8_of p1, List.length_cons, List.length_nil, beq_self_eq_true, Bool.and_self, aIf_true]

theorem law_spec {H : Type} (ds : List (DataW H)) (h : ds.length = Try.f5.params.toList.length) : (Rows.fieldGetsSpec.fn H (ds ++ [])).results = [.lit (.bool true)] ∧ (Rows.fieldGetsSpec.fn H (ds ++ [])).args = ds ∧ (Rows.fieldGetsSpec.fn H (ds ++ [])).vars = [] := by
  rw [Try.params5] at h
  match ds, h with
  | [d0, d1, d2, d3], _ => exact ⟨rfl, rfl, rfl⟩

set_option maxRecDepth 100000 in
theorem law_lifted (os : Os) (started : os.Started) (H : Type) (enc : TypeId × Value → H) :
    ReturnsInHanded {} Try.checked os 5 .any (Rows.fieldGetsSpec.pre6 enc Try.prog Try.f5 Rows.fieldGetsRow.domain false) (Rows.fieldGetsSpec.post enc Try.prog Try.f5 false true false false) := by
  refine returnsInHanded_of_change (C := Try.checked) own started (by kernel_rfl) Try.func5
    (ChangeSpec.witness6 (enc := enc) (C := Try.checked) false ⟨#[], #[.slice none 0 0, .int .i64 0, .int .i64 0, .int .u64 0], []⟩ 8 (by kernel_rfl) (by kernel_rfl) (by kernel_rfl) (by kernel_rfl)) ?_
  intro W base args ds gs before hval hW _ _
  exact law_post (P := Try.prog) (E := E) (D := 4) (tb := 4) (fn := Try.f5) E_ok laidOut (by kernel_rfl) rfl (by kernel_rfl) rfl law_spec S5_ok law_holds hval hW

theorem fieldGets_holds : Rows.FieldGetsSaid :=
  OpenClaim.holds_of_wide 5 Try.f5 rfl rfl rfl rfl rfl rfl rfl ⟨rfl, rfl, rfl, rfl, rfl⟩ rfl rfl rfl rfl rfl (by kernel_rfl) Try.func5 (by kernel_rfl)
    (of_decide_eq_true (by kernel_rfl)) (by unfold Func.isWrapper; first | (rw [if_pos (by decide +kernel)]; kernel_rfl) | (rw [if_neg (by decide +kernel)]; exact ⟨rfl, rfl⟩))
    (fun os started H enc _ => law_lifted os started H enc)

#print axioms fieldGets_holds

end Go.Proofs.Ytkiipegoooldiaa

