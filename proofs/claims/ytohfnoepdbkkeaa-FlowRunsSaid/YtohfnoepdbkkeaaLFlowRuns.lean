/- FlowRuns: the program's run of packets and the document's are the same for every setting of lives, protocol and row of packets. -/
import Derived.Test.YtohfnoepdbkkeaaFFlowRuns
import Derived.Test.YtohfnoepdbkkeaaA20
import Derived.Test.YtohfnoepdbkkeaaPFlow
import Derived.ProofKit
namespace Go.Proofs.Ytohfnoepdbkkeaa
open Go.Abs Go.Pl Go.RowKit Go.ChangeShapes Go.WideShapes Go.ChangeAt

theorem own : ownKnob Try.prog.godebug = none := by kernel_rfl
theorem laidOut : laidOutB Try.prog = true := by kernel_rfl
theorem argT5 (xs : List AV) : argT E 4 5 xs = intT .u8 xs := by kernel_rfl
theorem agg5 : aggT E 5 = false := by kernel_rfl
theorem argT67 (xs : List AV) : argT E 4 67 xs = pksT xs := by kernel_rfl
theorem agg67 : aggT E 67 = false := by kernel_rfl
theorem argT61 (xs : List AV) : argT E 4 61 xs = seqP [intT .i64, intT .i64, intT .i64, intT .i64, intT .i64] xs := by kernel_rfl
theorem agg61 : aggT E 61 = true := by kernel_rfl

theorem N10 (xs : List AV) (fl : SF) (p u1 u2 u3 u4 u5 : Int) : S10 [.agg [.int .i64 u1, .int .i64 u2, .int .i64 u3, .int .i64 u4, .int .i64 u5], .int .u8 p, .fs 3 xs fl] [] (fun e H => some (e, H)) =
  aIf (decide ((↑xs.length : Int) > 1000))
  (aIf (decide (1000 ≤ (↑xs.length : Int)))
    (aIf
      (shOK (Sh.tup [Sh.int IntKind.i64, Sh.int IntKind.i64, Sh.int IntKind.i64])
        (R36
          [AV.agg
              [AV.int IntKind.i64 u1, AV.int IntKind.i64 u2, AV.int IntKind.i64 u3, AV.int IntKind.i64 u4,
                AV.int IntKind.i64 u5],
            AV.int IntKind.u8 p, AV.fs 3 (List.drop 0 (List.take 1000 xs)) fl]))
      (aIf
        (shOK (Sh.tup [Sh.int IntKind.i64, Sh.int IntKind.i64, Sh.int IntKind.i64])
          (R37
            [AV.agg
                [AV.int IntKind.i64 u1, AV.int IntKind.i64 u2, AV.int IntKind.i64 u3, AV.int IntKind.i64 u4,
                  AV.int IntKind.i64 u5],
              AV.int IntKind.u8 p, AV.fs 3 (List.drop 0 (List.take 1000 xs)) fl]))
        (aIf
          ((sel
                (R36
                  [AV.agg
                      [AV.int IntKind.i64 u1, AV.int IntKind.i64 u2, AV.int IntKind.i64 u3, AV.int IntKind.i64 u4,
                        AV.int IntKind.i64 u5],
                    AV.int IntKind.u8 p, AV.fs 3 (List.drop 0 (List.take 1000 xs)) fl])
                [0]).toInt ==
            (sel
                (R37
                  [AV.agg
                      [AV.int IntKind.i64 u1, AV.int IntKind.i64 u2, AV.int IntKind.i64 u3, AV.int IntKind.i64 u4,
                        AV.int IntKind.i64 u5],
                    AV.int IntKind.u8 p, AV.fs 3 (List.drop 0 (List.take 1000 xs)) fl])
                [0]).toInt)
          (aIf
            ((sel
                  (R36
                    [AV.agg
                        [AV.int IntKind.i64 u1, AV.int IntKind.i64 u2, AV.int IntKind.i64 u3, AV.int IntKind.i64 u4,
                          AV.int IntKind.i64 u5],
                      AV.int IntKind.u8 p, AV.fs 3 (List.drop 0 (List.take 1000 xs)) fl])
                  [1]).toInt ==
              (sel
                  (R37
                    [AV.agg
                        [AV.int IntKind.i64 u1, AV.int IntKind.i64 u2, AV.int IntKind.i64 u3, AV.int IntKind.i64 u4,
                          AV.int IntKind.i64 u5],
                      AV.int IntKind.u8 p, AV.fs 3 (List.drop 0 (List.take 1000 xs)) fl])
                  [1]).toInt)
            (aIf
              ((sel
                    (R36
                      [AV.agg
                          [AV.int IntKind.i64 u1, AV.int IntKind.i64 u2, AV.int IntKind.i64 u3, AV.int IntKind.i64 u4,
                            AV.int IntKind.i64 u5],
                        AV.int IntKind.u8 p, AV.fs 3 (List.drop 0 (List.take 1000 xs)) fl])
                    [2]).toInt ==
                (sel
                    (R37
                      [AV.agg
                          [AV.int IntKind.i64 u1, AV.int IntKind.i64 u2, AV.int IntKind.i64 u3, AV.int IntKind.i64 u4,
                            AV.int IntKind.i64 u5],
                        AV.int IntKind.u8 p, AV.fs 3 (List.drop 0 (List.take 1000 xs)) fl])
                    [2]).toInt)
              (some (AEnd.ret (AV.bool true), [])) (some (AEnd.ret (AV.bool false), [])))
            (some (AEnd.ret (AV.bool false), [])))
          (some (AEnd.ret (AV.bool false), [])))
        none)
      none)
    none)
  (aIf
    (shOK (Sh.tup [Sh.int IntKind.i64, Sh.int IntKind.i64, Sh.int IntKind.i64])
      (R36
        [AV.agg
            [AV.int IntKind.i64 u1, AV.int IntKind.i64 u2, AV.int IntKind.i64 u3, AV.int IntKind.i64 u4,
              AV.int IntKind.i64 u5],
          AV.int IntKind.u8 p, AV.fs 3 xs fl]))
    (aIf
      (shOK (Sh.tup [Sh.int IntKind.i64, Sh.int IntKind.i64, Sh.int IntKind.i64])
        (R37
          [AV.agg
              [AV.int IntKind.i64 u1, AV.int IntKind.i64 u2, AV.int IntKind.i64 u3, AV.int IntKind.i64 u4,
                AV.int IntKind.i64 u5],
            AV.int IntKind.u8 p, AV.fs 3 xs fl]))
      (aIf
        ((sel
              (R36
                [AV.agg
                    [AV.int IntKind.i64 u1, AV.int IntKind.i64 u2, AV.int IntKind.i64 u3, AV.int IntKind.i64 u4,
                      AV.int IntKind.i64 u5],
                  AV.int IntKind.u8 p, AV.fs 3 xs fl])
              [0]).toInt ==
          (sel
              (R37
                [AV.agg
                    [AV.int IntKind.i64 u1, AV.int IntKind.i64 u2, AV.int IntKind.i64 u3, AV.int IntKind.i64 u4,
                      AV.int IntKind.i64 u5],
                  AV.int IntKind.u8 p, AV.fs 3 xs fl])
              [0]).toInt)
        (aIf
          ((sel
                (R36
                  [AV.agg
                      [AV.int IntKind.i64 u1, AV.int IntKind.i64 u2, AV.int IntKind.i64 u3, AV.int IntKind.i64 u4,
                        AV.int IntKind.i64 u5],
                    AV.int IntKind.u8 p, AV.fs 3 xs fl])
                [1]).toInt ==
            (sel
                (R37
                  [AV.agg
                      [AV.int IntKind.i64 u1, AV.int IntKind.i64 u2, AV.int IntKind.i64 u3, AV.int IntKind.i64 u4,
                        AV.int IntKind.i64 u5],
                    AV.int IntKind.u8 p, AV.fs 3 xs fl])
                [1]).toInt)
          (aIf
            ((sel
                  (R36
                    [AV.agg
                        [AV.int IntKind.i64 u1, AV.int IntKind.i64 u2, AV.int IntKind.i64 u3, AV.int IntKind.i64 u4,
                          AV.int IntKind.i64 u5],
                      AV.int IntKind.u8 p, AV.fs 3 xs fl])
                  [2]).toInt ==
              (sel
                  (R37
                    [AV.agg
                        [AV.int IntKind.i64 u1, AV.int IntKind.i64 u2, AV.int IntKind.i64 u3, AV.int IntKind.i64 u4,
                          AV.int IntKind.i64 u5],
                      AV.int IntKind.u8 p, AV.fs 3 xs fl])
                  [2]).toInt)
            (some (AEnd.ret (AV.bool true), [])) (some (AEnd.ret (AV.bool false), [])))
          (some (AEnd.ret (AV.bool false), [])))
        (some (AEnd.ret (AV.bool false), [])))
      none)
    none) := by kernel_rfl

theorem law_holds : ∀ xs, argsV E 4 Try.f10.params.toList xs → S10 xs [] (fun e H => some (e, H)) = some (.ret (.bool true), []) := by
  intro xs h
  rw [Try.params10] at h
  obtain ⟨x, y, z, rfl, h1, h2, h3⟩ := args3 h
  obtain ⟨zs, rfl, h4⟩ := aggArg h1 argT61 agg61
  obtain ⟨a, b, c, d, e, rfl, ha, hb, hc, hd, he⟩ := ints5 h4
  obtain ⟨p, rfl, hp⟩ := intArg h2 argT5 agg5
  obtain ⟨ys, fl, rfl, hl, hf, hu⟩ := pksArg h3 argT67 agg67
  have t0 : ∀ (x y z : AV), sel (some (AEnd.ret (AV.tup [x, y, z]), [])) [0] = x := fun _ _ _ => rfl
  have t1 : ∀ (x y z : AV), sel (some (AEnd.ret (AV.tup [x, y, z]), [])) [1] = y := fun _ _ _ => rfl
  have t2 : ∀ (x y z : AV), sel (some (AEnd.ret (AV.tup [x, y, z]), [])) [2] = z := fun _ _ _ => rfl
  have key : ∀ (zs : List AV) (gl : SF), pksB zs = true → zs.length ≤ 1000000 → ∃ u v w, R36 [.agg [.int .i64 a, .int .i64 b, .int .i64 c, .int .i64 d, .int .i64 e], .int .u8 p, .fs 3 zs gl] = some (.ret (.tup [.int .i64 u, .int .i64 v, .int .i64 w]), []) ∧
      R37 [.agg [.int .i64 a, .int .i64 b, .int .i64 c, .int .i64 d, .int .i64 e], .int .u8 p, .fs 3 zs gl] = some (.ret (.tup [.int .i64 u, .int .i64 v, .int .i64 w]), []) ∧ inK .i64 u = true ∧ inK .i64 v = true ∧ inK .i64 w = true := by
    intro zs gl hz hz2
    have r1 := R36_is (fl := gl) (p := p) hz hz2 (inK_of ha) (inK_of hb) (inK_of hc) (inK_of hd) (inK_of he) _ rfl
    have r2 := R37_is (fl := gl) (p := p) hz hz2 (inK_of ha) (inK_of hb) (inK_of hc) (inK_of hd) (inK_of he) _ rfl
    refine ⟨_, _, _, r1, r2, ?_⟩
    obtain ⟨n, hn, e33⟩ := R33_is a b c d e
    obtain ⟨s0, b0, e28, k0⟩ := val_ii (R28_ok p (pF zs 0))
    have k1 := shOK_some (R28_ok p (pF zs 0))
    refine flowR_in _ _ _ ?_ ?_ ?_ ?_
    · rw [e33]; rcases hn with rfl | rfl <;> rfl
    · rw [e28]; exact k0
    · have := k1.2
      rw [e28] at this ⊢
      have h5 : (Sh.tup [.int .i64, .int .i64]).has (.tup [.int .i64 s0, .int .i64 b0]) = true := this
      simp only [has_tup, hasL_cons, hasL_nil, List.getD_cons_zero, List.getD_cons_succ, has_int, List.length_cons, List.length_nil, beq_self_eq_true, Bool.true_and, Bool.and_true, Bool.and_eq_true] at h5
      exact h5.2
    · intro s b f hs
      obtain ⟨t, l, e26, k⟩ := R26_val s f b hs
      rw [e26]; exact k
  rw [N10]
  cases c0 : decide ((ys.length : Int) > 1000)
  · obtain ⟨u, v, w, r1, r2, k1, k2, k3⟩ := key ys fl hu (by have := of_decide_eq_false c0; omega)
    simp only [aIf_false, r1, r2, t0, t1, t2, shOK_ret, has_tup, hasL_cons, hasL_nil, List.getD_cons_zero, List.getD_cons_succ, has_int, List.length_cons, List.length_nil, beq_self_eq_true, Bool.and_self, aIf_true, k1, k2, k3]
  · have hc := of_decide_eq_true c0
    obtain ⟨u, v, w, r1, r2, k1, k2, k3⟩ := key (List.drop 0 (List.take 1000 ys)) fl (pksB_take hu _) (by simp; omega)
    simp only [decide_eq_true (show 1000 ≤ (ys.length : Int) by omega), r1, r2, t0, t1, t2, shOK_ret, has_tup, hasL_cons, hasL_nil, List.getD_cons_zero, List.getD_cons_succ, has_int, List.length_cons, List.length_nil, beq_self_eq_true, Bool.and_self, aIf_true, k1, k2, k3]

theorem law_spec {H : Type} (ds : List (DataW H)) (h : ds.length = Try.f10.params.toList.length) : (Rows.flowRunsSpec.fn H (ds ++ [])).results = [.lit (.bool true)] ∧ (Rows.flowRunsSpec.fn H (ds ++ [])).args = ds ∧ (Rows.flowRunsSpec.fn H (ds ++ [])).vars = [] := by
  rw [Try.params10] at h
  match ds, h with
  | [d0, d1, d2], _ => exact ⟨rfl, rfl, rfl⟩

set_option maxRecDepth 100000 in
theorem law_lifted (os : Os) (started : os.Started) (H : Type) (enc : TypeId × Value → H) :
    ReturnsInHanded {} Try.checked os 10 .any (Rows.flowRunsSpec.pre6 enc Try.prog Try.f10 Rows.flowRunsRow.domain false) (Rows.flowRunsSpec.post enc Try.prog Try.f10 false true false false) := by
  refine returnsInHanded_of_change (C := Try.checked) own started (by kernel_rfl) Try.func10
    (ChangeSpec.witness6 (enc := enc) (C := Try.checked) false ⟨#[], #[.agg #[.int .i64 0, .int .i64 0, .int .i64 0, .int .i64 0, .int .i64 0], .int .u8 0, .slice none 0 0], []⟩ 8 (by kernel_rfl) (by kernel_rfl) (by kernel_rfl) (by kernel_rfl)) ?_
  intro W base args ds gs before hval hW _ _
  exact law_post (P := Try.prog) (E := E) (D := 4) (tb := 4) (fn := Try.f10) E_ok laidOut (by kernel_rfl) rfl (by kernel_rfl) rfl law_spec S10_ok law_holds hval hW

theorem flowRuns_holds : Rows.FlowRunsSaid :=
  OpenClaim.holds_of_wide 10 Try.f10 rfl rfl rfl rfl rfl rfl rfl ⟨rfl, rfl, rfl, rfl, rfl⟩ rfl rfl rfl rfl rfl (by kernel_rfl) Try.func10 (by kernel_rfl)
    (of_decide_eq_true (by kernel_rfl)) (by unfold Func.isWrapper; first | (rw [if_pos (by decide +kernel)]; kernel_rfl) | (rw [if_neg (by decide +kernel)]; exact ⟨rfl, rfl⟩))
    (fun os started H enc _ => law_lifted os started H enc)

#print axioms flowRuns_holds

end Go.Proofs.Ytohfnoepdbkkeaa

