/- FlowLives: the program's lives and the document's are the same for every setting and every state. -/
import Derived.Test.YtohfnoepdbkkeaaFFlowLives
import Derived.Test.YtohfnoepdbkkeaaA20
import Derived.Test.YtohfnoepdbkkeaaPPort
import Derived.ProofKit
namespace Go.Proofs.Ytohfnoepdbkkeaa
open Go.Abs Go.Pl Go.RowKit Go.ChangeShapes Go.WideShapes Go.ChangeAt

theorem own : ownKnob Try.prog.godebug = none := by kernel_rfl
theorem laidOut : laidOutB Try.prog = true := by kernel_rfl
theorem argT3 (xs : List AV) : argT E 4 3 xs = intT .i64 xs := by kernel_rfl
theorem agg3 : aggT E 3 = false := by kernel_rfl
theorem argT61 (xs : List AV) : argT E 4 61 xs = seqP [intT .i64, intT .i64, intT .i64, intT .i64, intT .i64] xs := by kernel_rfl
theorem agg61 : aggT E 61 = true := by kernel_rfl

theorem N9 (a b c d e s : Int) : S9 [.agg [.int .i64 a, .int .i64 b, .int .i64 c, .int .i64 d, .int .i64 e], .int .i64 s] [] (fun e H => some (e, H)) =
  aIf
  (shOK (Sh.tup [Sh.int IntKind.i64, Sh.int IntKind.i64])
    (R31
      [AV.agg
          [AV.int IntKind.i64 a, AV.int IntKind.i64 b, AV.int IntKind.i64 c, AV.int IntKind.i64 d,
            AV.int IntKind.i64 e],
        AV.int IntKind.i64 s]))
  (aIf
    (shOK (Sh.tup [Sh.int IntKind.i64, Sh.int IntKind.i64])
      (R32
        [AV.agg
            [AV.int IntKind.i64 a, AV.int IntKind.i64 b, AV.int IntKind.i64 c, AV.int IntKind.i64 d,
              AV.int IntKind.i64 e],
          AV.int IntKind.i64 s]))
    (aIf
      ((sel
            (R31
              [AV.agg
                  [AV.int IntKind.i64 a, AV.int IntKind.i64 b, AV.int IntKind.i64 c, AV.int IntKind.i64 d,
                    AV.int IntKind.i64 e],
                AV.int IntKind.i64 s])
            [0]).toInt ==
        (sel
            (R32
              [AV.agg
                  [AV.int IntKind.i64 a, AV.int IntKind.i64 b, AV.int IntKind.i64 c, AV.int IntKind.i64 d,
                    AV.int IntKind.i64 e],
                AV.int IntKind.i64 s])
            [0]).toInt)
      (aIf
        ((sel
              (R31
                [AV.agg
                    [AV.int IntKind.i64 a, AV.int IntKind.i64 b, AV.int IntKind.i64 c, AV.int IntKind.i64 d,
                      AV.int IntKind.i64 e],
                  AV.int IntKind.i64 s])
              [1]).toInt ==
          (sel
              (R32
                [AV.agg
                    [AV.int IntKind.i64 a, AV.int IntKind.i64 b, AV.int IntKind.i64 c, AV.int IntKind.i64 d,
                      AV.int IntKind.i64 e],
                  AV.int IntKind.i64 s])
              [1]).toInt)
        (aIf
          (shOK (Sh.int IntKind.i64)
            (R33
              [AV.agg
                  [AV.int IntKind.i64 a, AV.int IntKind.i64 b, AV.int IntKind.i64 c, AV.int IntKind.i64 d,
                    AV.int IntKind.i64 e]]))
          (aIf
            (shOK (Sh.int IntKind.i64)
              (R34
                [AV.agg
                    [AV.int IntKind.i64 a, AV.int IntKind.i64 b, AV.int IntKind.i64 c, AV.int IntKind.i64 d,
                      AV.int IntKind.i64 e]]))
            (aIf
              ((sel
                    (R33
                      [AV.agg
                          [AV.int IntKind.i64 a, AV.int IntKind.i64 b, AV.int IntKind.i64 c, AV.int IntKind.i64 d,
                            AV.int IntKind.i64 e]])
                    []).toInt ==
                (sel
                    (R34
                      [AV.agg
                          [AV.int IntKind.i64 a, AV.int IntKind.i64 b, AV.int IntKind.i64 c, AV.int IntKind.i64 d,
                            AV.int IntKind.i64 e]])
                    []).toInt)
              (some (AEnd.ret (AV.bool true), [])) (some (AEnd.ret (AV.bool false), [])))
            none)
          none)
        (some (AEnd.ret (AV.bool false), [])))
      (some (AEnd.ret (AV.bool false), [])))
    none)
  none := by kernel_rfl
theorem N31 (a b c d e s : Int) : S31 [.agg [.int .i64 a, .int .i64 b, .int .i64 c, .int .i64 d, .int .i64 e], .int .i64 s] [] encK =
  aIf
  (shOK (Sh.int IntKind.i64)
    (R33
      [AV.agg
          [AV.int IntKind.i64 a, AV.int IntKind.i64 b, AV.int IntKind.i64 c, AV.int IntKind.i64 d,
            AV.int IntKind.i64 e]]))
  (aIf
    ((sel
          (R33
            [AV.agg
                [AV.int IntKind.i64 a, AV.int IntKind.i64 b, AV.int IntKind.i64 c, AV.int IntKind.i64 d,
                  AV.int IntKind.i64 e]])
          []).toInt !=
      0)
    (some
      (AEnd.ret
          (AV.tup
            [AV.int IntKind.i64 0,
              AV.int IntKind.i64
                (sel
                    (R33
                      [AV.agg
                          [AV.int IntKind.i64 a, AV.int IntKind.i64 b, AV.int IntKind.i64 c, AV.int IntKind.i64 d,
                            AV.int IntKind.i64 e]])
                    []).toInt]),
        []))
    (aIf (s == 1) (some (AEnd.ret (AV.tup [AV.int IntKind.i64 a, AV.int IntKind.i64 0]), []))
      (aIf (s == 2) (some (AEnd.ret (AV.tup [AV.int IntKind.i64 b, AV.int IntKind.i64 0]), []))
        (aIf (s == 3) (some (AEnd.ret (AV.tup [AV.int IntKind.i64 c, AV.int IntKind.i64 0]), []))
          (aIf (s == 4)
            (aIf (s == 4) (some (AEnd.ret (AV.tup [AV.int IntKind.i64 d, AV.int IntKind.i64 0]), []))
              (aIf (s == 7)
                (aIf (s == 7) (some (AEnd.ret (AV.tup [AV.int IntKind.i64 e, AV.int IntKind.i64 0]), []))
                  (some (AEnd.ret (AV.tup [AV.int IntKind.i64 0, AV.int IntKind.i64 1]), [])))
                (aIf (s == 8) (some (AEnd.ret (AV.tup [AV.int IntKind.i64 e, AV.int IntKind.i64 0]), []))
                  (some (AEnd.ret (AV.tup [AV.int IntKind.i64 0, AV.int IntKind.i64 1]), [])))))
            (aIf (s == 5)
              (aIf (s == 5) (some (AEnd.ret (AV.tup [AV.int IntKind.i64 d, AV.int IntKind.i64 0]), []))
                (aIf (s == 7)
                  (aIf (s == 7) (some (AEnd.ret (AV.tup [AV.int IntKind.i64 e, AV.int IntKind.i64 0]), []))
                    (some (AEnd.ret (AV.tup [AV.int IntKind.i64 0, AV.int IntKind.i64 1]), [])))
                  (aIf (s == 8) (some (AEnd.ret (AV.tup [AV.int IntKind.i64 e, AV.int IntKind.i64 0]), []))
                    (some (AEnd.ret (AV.tup [AV.int IntKind.i64 0, AV.int IntKind.i64 1]), [])))))
              (aIf (s == 6) (some (AEnd.ret (AV.tup [AV.int IntKind.i64 d, AV.int IntKind.i64 0]), []))
                (aIf (s == 7)
                  (aIf (s == 7) (some (AEnd.ret (AV.tup [AV.int IntKind.i64 e, AV.int IntKind.i64 0]), []))
                    (some (AEnd.ret (AV.tup [AV.int IntKind.i64 0, AV.int IntKind.i64 1]), [])))
                  (aIf (s == 8) (some (AEnd.ret (AV.tup [AV.int IntKind.i64 e, AV.int IntKind.i64 0]), []))
                    (some (AEnd.ret (AV.tup [AV.int IntKind.i64 0, AV.int IntKind.i64 1]), [])))))))))))
  none := by kernel_rfl
theorem N32 (a b c d e s : Int) : S32 [.agg [.int .i64 a, .int .i64 b, .int .i64 c, .int .i64 d, .int .i64 e], .int .i64 s] [] encK =
  aIf
  (shOK (Sh.int IntKind.i64)
    (R34
      [AV.agg
          [AV.int IntKind.i64 a, AV.int IntKind.i64 b, AV.int IntKind.i64 c, AV.int IntKind.i64 d,
            AV.int IntKind.i64 e]]))
  (aIf
    ((sel
          (R34
            [AV.agg
                [AV.int IntKind.i64 a, AV.int IntKind.i64 b, AV.int IntKind.i64 c, AV.int IntKind.i64 d,
                  AV.int IntKind.i64 e]])
          []).toInt !=
      0)
    (some (AEnd.ret (AV.tup [AV.int IntKind.i64 0, AV.int IntKind.i64 190]), []))
    (aIf (s == 1) (some (AEnd.ret (AV.tup [AV.int IntKind.i64 a, AV.int IntKind.i64 0]), []))
      (aIf (s == 2) (some (AEnd.ret (AV.tup [AV.int IntKind.i64 b, AV.int IntKind.i64 0]), []))
        (aIf (s == 3) (some (AEnd.ret (AV.tup [AV.int IntKind.i64 c, AV.int IntKind.i64 0]), []))
          (aIf (s == 4)
            (aIf (s == 4) (some (AEnd.ret (AV.tup [AV.int IntKind.i64 d, AV.int IntKind.i64 0]), []))
              (aIf (s == 7)
                (aIf (s == 7) (some (AEnd.ret (AV.tup [AV.int IntKind.i64 e, AV.int IntKind.i64 0]), []))
                  (some (AEnd.ret (AV.tup [AV.int IntKind.i64 0, AV.int IntKind.i64 1]), [])))
                (aIf (s == 8) (some (AEnd.ret (AV.tup [AV.int IntKind.i64 e, AV.int IntKind.i64 0]), []))
                  (some (AEnd.ret (AV.tup [AV.int IntKind.i64 0, AV.int IntKind.i64 1]), [])))))
            (aIf (s == 5)
              (aIf (s == 5) (some (AEnd.ret (AV.tup [AV.int IntKind.i64 d, AV.int IntKind.i64 0]), []))
                (aIf (s == 7)
                  (aIf (s == 7) (some (AEnd.ret (AV.tup [AV.int IntKind.i64 e, AV.int IntKind.i64 0]), []))
                    (some (AEnd.ret (AV.tup [AV.int IntKind.i64 0, AV.int IntKind.i64 1]), [])))
                  (aIf (s == 8) (some (AEnd.ret (AV.tup [AV.int IntKind.i64 e, AV.int IntKind.i64 0]), []))
                    (some (AEnd.ret (AV.tup [AV.int IntKind.i64 0, AV.int IntKind.i64 1]), [])))))
              (aIf (s == 6) (some (AEnd.ret (AV.tup [AV.int IntKind.i64 d, AV.int IntKind.i64 0]), []))
                (aIf (s == 7)
                  (aIf (s == 7) (some (AEnd.ret (AV.tup [AV.int IntKind.i64 e, AV.int IntKind.i64 0]), []))
                    (some (AEnd.ret (AV.tup [AV.int IntKind.i64 0, AV.int IntKind.i64 1]), [])))
                  (aIf (s == 8) (some (AEnd.ret (AV.tup [AV.int IntKind.i64 e, AV.int IntKind.i64 0]), []))
                    (some (AEnd.ret (AV.tup [AV.int IntKind.i64 0, AV.int IntKind.i64 1]), [])))))))))))
  none := by kernel_rfl
theorem N33 (a b c d e : Int) : S33 [.agg [.int .i64 a, .int .i64 b, .int .i64 c, .int .i64 d, .int .i64 e]] [] encK =
  aIf (decide (a < 1)) (some (AEnd.ret (AV.int IntKind.i64 190), []))
  (aIf (decide (a > 2147483648)) (some (AEnd.ret (AV.int IntKind.i64 190), []))
    (aIf (decide (b < 1)) (some (AEnd.ret (AV.int IntKind.i64 190), []))
      (aIf (decide (b > 2147483648)) (some (AEnd.ret (AV.int IntKind.i64 190), []))
        (aIf (decide (c < 1)) (some (AEnd.ret (AV.int IntKind.i64 190), []))
          (aIf (decide (c > 2147483648)) (some (AEnd.ret (AV.int IntKind.i64 190), []))
            (aIf (decide (d < 1)) (some (AEnd.ret (AV.int IntKind.i64 190), []))
              (aIf (decide (d > 2147483648)) (some (AEnd.ret (AV.int IntKind.i64 190), []))
                (aIf (decide (e < 1)) (some (AEnd.ret (AV.int IntKind.i64 190), []))
                  (aIf (decide (e > 2147483648)) (some (AEnd.ret (AV.int IntKind.i64 190), []))
                    (some (AEnd.ret (AV.int IntKind.i64 0), []))))))))))) := by kernel_rfl
theorem N34 (a b c d e : Int) : S34 [.agg [.int .i64 a, .int .i64 b, .int .i64 c, .int .i64 d, .int .i64 e]] [] encK =
  aIf (decide (a ≥ 1))
  (aIf (!decide (a ≤ 2147483648)) (some (AEnd.ret (AV.int IntKind.i64 190), []))
    (aIf (decide (b ≥ 1))
      (aIf (!decide (b ≤ 2147483648)) (some (AEnd.ret (AV.int IntKind.i64 190), []))
        (aIf (decide (c ≥ 1))
          (aIf (!decide (c ≤ 2147483648)) (some (AEnd.ret (AV.int IntKind.i64 190), []))
            (aIf (decide (d ≥ 1))
              (aIf (!decide (d ≤ 2147483648)) (some (AEnd.ret (AV.int IntKind.i64 190), []))
                (aIf (decide (e ≥ 1))
                  (aIf (!decide (e ≤ 2147483648)) (some (AEnd.ret (AV.int IntKind.i64 190), []))
                    (some (AEnd.ret (AV.int IntKind.i64 0), [])))
                  (some (AEnd.ret (AV.int IntKind.i64 190), []))))
              (some (AEnd.ret (AV.int IntKind.i64 190), []))))
          (some (AEnd.ret (AV.int IntKind.i64 190), []))))
      (some (AEnd.ret (AV.int IntKind.i64 190), []))))
  (some (AEnd.ret (AV.int IntKind.i64 190), [])) := by kernel_rfl

theorem check_same (a b c d e : Int) : R33 [.agg [.int .i64 a, .int .i64 b, .int .i64 c, .int .i64 d, .int .i64 e]] = R34 [.agg [.int .i64 a, .int .i64 b, .int .i64 c, .int .i64 d, .int .i64 e]] := by
  show S33 _ [] encK = S34 _ [] encK
  rw [N33, N34]
  simp only [ge_not, aIf_not, Bool.not_not]

theorem check_is (a b c d e : Int) : ∃ n, (n = 0 ∨ n = 190) ∧ R33 [.agg [.int .i64 a, .int .i64 b, .int .i64 c, .int .i64 d, .int .i64 e]] = some (.ret (.int .i64 n), []) := by
  have step : ∀ (b : Bool) (x : Res), (∃ n, (n = 0 ∨ n = 190) ∧ x = some (.ret (.int .i64 n), [])) → ∃ n, (n = 0 ∨ n = 190) ∧ aIf b (some (.ret (.int .i64 190), [])) x = some (.ret (.int .i64 n), []) := by
    intro b x h
    cases b
    · exact h
    · exact ⟨190, .inr rfl, rfl⟩
  show ∃ n, (n = 0 ∨ n = 190) ∧ S33 _ [] encK = some (.ret (.int .i64 n), [])
  rw [N33]
  iterate 10 refine step _ _ ?_
  exact ⟨0, .inl rfl, rfl⟩

theorem life_same (a b c d e s : Int) : R31 [.agg [.int .i64 a, .int .i64 b, .int .i64 c, .int .i64 d, .int .i64 e], .int .i64 s] = R32 [.agg [.int .i64 a, .int .i64 b, .int .i64 c, .int .i64 d, .int .i64 e], .int .i64 s] := by
  show S31 _ [] encK = S32 _ [] encK
  rw [N31, N32, ← check_same]
  obtain ⟨n, hn, hr⟩ := check_is a b c d e
  rw [hr]
  by_cases h1 : s = 1
  · subst h1; rcases hn with rfl | rfl <;> rfl
  by_cases h2 : s = 2
  · subst h2; rcases hn with rfl | rfl <;> rfl
  by_cases h3 : s = 3
  · subst h3; rcases hn with rfl | rfl <;> rfl
  by_cases h4 : s = 4
  · subst h4; rcases hn with rfl | rfl <;> rfl
  by_cases h5 : s = 5
  · subst h5; rcases hn with rfl | rfl <;> rfl
  by_cases h6 : s = 6
  · subst h6; rcases hn with rfl | rfl <;> rfl
  by_cases h7 : s = 7
  · subst h7; rcases hn with rfl | rfl <;> rfl
  by_cases h8 : s = 8
  · subst h8; rcases hn with rfl | rfl <;> rfl
  have g1 : (s == 1) = false := by simpa using h1
  have g2 : (s == 2) = false := by simpa using h2
  have g3 : (s == 3) = false := by simpa using h3
  have g4 : (s == 4) = false := by simpa using h4
  have g5 : (s == 5) = false := by simpa using h5
  have g6 : (s == 6) = false := by simpa using h6
  have g7 : (s == 7) = false := by simpa using h7
  have g8 : (s == 8) = false := by simpa using h8
  simp only [g1, g2, g3, g4, g5, g6, g7, g8]
  rcases hn with rfl | rfl <;> rfl

theorem check_ok (a b c d e : Int) : shOK (.int .i64) (R33 [.agg [.int .i64 a, .int .i64 b, .int .i64 c, .int .i64 d, .int .i64 e]]) = true := by
  obtain ⟨n, hn, hr⟩ := check_is a b c d e
  rw [hr, shOK_ret, has_int]
  rcases hn with rfl | rfl <;> rfl

theorem life_ok (a b c d e s : Int) (ha : inK .i64 a = true) (hb : inK .i64 b = true) (hc : inK .i64 c = true) (hd : inK .i64 d = true) (he : inK .i64 e = true) :
    shOK (.tup [.int .i64, .int .i64]) (R31 [.agg [.int .i64 a, .int .i64 b, .int .i64 c, .int .i64 d, .int .i64 e], .int .i64 s]) = true := by
  show shOK _ (S31 _ [] encK) = true
  rw [N31]
  obtain ⟨n, hn, hr⟩ := check_is a b c d e
  rw [hr]
  have h0 : inK .i64 0 = true := rfl
  have h1 : inK .i64 1 = true := rfl
  have hk : inK .i64 n = true := by rcases hn with rfl | rfl <;> rfl
  have hs : (sel (some (AEnd.ret (AV.int IntKind.i64 n), [])) []).toInt = n := rfl
  simp only [hs, shOK_aIf, shOK_ret, has_tup, hasL_cons, hasL_nil, List.getD_cons_zero, List.getD_cons_succ, has_int, ha, hb, hc, hd, he, h0, h1, hk]
  simp

theorem law_holds : ∀ xs, argsV E 4 Try.f9.params.toList xs → S9 xs [] (fun e H => some (e, H)) = some (.ret (.bool true), []) := by
  intro xs h
  rw [Try.params9] at h
  obtain ⟨x, y, rfl, h1, h2⟩ := args2 h
  obtain ⟨zs, rfl, h3⟩ := aggArg h1 argT61 agg61
  obtain ⟨a, b, c, d, e, rfl, ha, hb, hc, hd, he⟩ := ints5 h3
  obtain ⟨s, rfl, hs⟩ := intArg h2 argT3 agg3
  rw [N9, ← life_same, ← check_same, life_ok a b c d e s (inK_of ha) (inK_of hb) (inK_of hc) (inK_of hd) (inK_of he), check_ok]
  simp only [beq_self_eq_true, aIf_true]

theorem law_spec {H : Type} (ds : List (DataW H)) (h : ds.length = Try.f9.params.toList.length) : (Rows.flowLivesSpec.fn H (ds ++ [])).results = [.lit (.bool true)] ∧ (Rows.flowLivesSpec.fn H (ds ++ [])).args = ds ∧ (Rows.flowLivesSpec.fn H (ds ++ [])).vars = [] := by
  rw [Try.params9] at h
  match ds, h with
  | [d0, d1], _ => exact ⟨rfl, rfl, rfl⟩

set_option maxRecDepth 100000 in
theorem law_lifted (os : Os) (started : os.Started) (H : Type) (enc : TypeId × Value → H) :
    ReturnsInHanded {} Try.checked os 9 .any (Rows.flowLivesSpec.pre6 enc Try.prog Try.f9 Rows.flowLivesRow.domain false) (Rows.flowLivesSpec.post enc Try.prog Try.f9 false true false false) := by
  refine returnsInHanded_of_change (C := Try.checked) own started (by kernel_rfl) Try.func9
    (ChangeSpec.witness6 (enc := enc) (C := Try.checked) false ⟨#[], #[.agg #[.int .i64 0, .int .i64 0, .int .i64 0, .int .i64 0, .int .i64 0], .int .i64 0], []⟩ 8 (by kernel_rfl) (by kernel_rfl) (by kernel_rfl) (by kernel_rfl)) ?_
  intro W base args ds gs before hval hW _ _
  exact law_post (P := Try.prog) (E := E) (D := 4) (tb := 4) (fn := Try.f9) E_ok laidOut (by kernel_rfl) rfl (by kernel_rfl) rfl law_spec S9_ok law_holds hval hW

theorem flowLives_holds : Rows.FlowLivesSaid :=
  OpenClaim.holds_of_wide 9 Try.f9 rfl rfl rfl rfl rfl rfl rfl ⟨rfl, rfl, rfl, rfl, rfl⟩ rfl rfl rfl rfl rfl (by kernel_rfl) Try.func9 (by kernel_rfl)
    (of_decide_eq_true (by kernel_rfl)) (by unfold Func.isWrapper; first | (rw [if_pos (by decide +kernel)]; kernel_rfl) | (rw [if_neg (by decide +kernel)]; exact ⟨rfl, rfl⟩))
    (fun os started H enc _ => law_lifted os started H enc)

#print axioms flowLives_holds

end Go.Proofs.Ytohfnoepdbkkeaa

