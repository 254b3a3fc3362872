/- FieldTexts: any bits as letters, and any letters as bits, are the document's. -/
import Derived.Test.YtkiipegoooldiaaFFieldTexts
import Derived.Test.YtkiipegoooldiaaA20
import Derived.Test.YtkiipegoooldiaaPLetters
import Derived.ProofKit
namespace Go.Proofs.Ytkiipegoooldiaa
open Go.Abs Go.Pl Go.RowKit Go.ChangeShapes Go.WideShapes Go.ChangeAt

theorem own : ownKnob Try.prog.godebug = none := by kernel_rfl
theorem laidOut : laidOutB Try.prog = true := by kernel_rfl
theorem argT3 (xs : List AV) : argT E 4 3 xs = intT .i64 xs := by kernel_rfl
theorem agg3 : aggT E 3 = false := by kernel_rfl
theorem argT22 (xs : List AV) : argT E 4 22 xs = bytesT xs := by kernel_rfl
theorem agg22 : aggT E 22 = false := by kernel_rfl
def strT (xs : List AV) : Prop := ∃ s, xs = [.str s] ∧ s.size ≤ maxLen
theorem argT9 (xs : List AV) : argT E 4 9 xs = strT xs := by kernel_rfl
theorem agg9 : aggT E 9 = false := by kernel_rfl

theorem N8 (xs : List AV) (fl : SF) (a n : Int) (s : ByteArray) : S8 [.fs 1 xs fl, .int .i64 a, .int .i64 n, .str s] [] (fun e H => some (e, H)) =
  aIf (shOK (Sh.ints IntKind.u8) (R15 [AV.fs 1 xs fl]))
  (aIf (decide ((↑s.size : Int) > 300000))
    (aIf (decide (300000 ≤ (↑s.size : Int)))
      (aIf
        (shOK (Sh.tup [Sh.str, Sh.int IntKind.i64])
          (R20
            [AV.fs 1 (sel (R15 [AV.fs 1 xs fl]) []).toFs (sel (R15 [AV.fs 1 xs fl]) []).toFl, AV.int IntKind.i64 a,
              AV.int IntKind.i64 n]))
        (aIf
          (shOK (Sh.tup [Sh.str, Sh.int IntKind.i64])
            (R32
              [AV.fs 1 (sel (R15 [AV.fs 1 xs fl]) []).toFs (sel (R15 [AV.fs 1 xs fl]) []).toFl, AV.int IntKind.i64 a,
                AV.int IntKind.i64 n]))
          (aIf
            (shOK (Sh.tup [Sh.ints IntKind.u8, Sh.int IntKind.i64, Sh.int IntKind.i64, Sh.int IntKind.i64])
              (R21 [AV.str (s.extract 0 300000)]))
            (aIf
              (shOK (Sh.tup [Sh.ints IntKind.u8, Sh.int IntKind.i64, Sh.int IntKind.i64, Sh.int IntKind.i64])
                (R33 [AV.str (s.extract 0 300000)]))
              (aIf
                ((sel
                        (R20
                          [AV.fs 1 (sel (R15 [AV.fs 1 xs fl]) []).toFs (sel (R15 [AV.fs 1 xs fl]) []).toFl,
                            AV.int IntKind.i64 a, AV.int IntKind.i64 n])
                        [0]).toStr.toList ==
                  (sel
                        (R32
                          [AV.fs 1 (sel (R15 [AV.fs 1 xs fl]) []).toFs (sel (R15 [AV.fs 1 xs fl]) []).toFl,
                            AV.int IntKind.i64 a, AV.int IntKind.i64 n])
                        [0]).toStr.toList)
                (aIf
                  ((sel
                        (R20
                          [AV.fs 1 (sel (R15 [AV.fs 1 xs fl]) []).toFs (sel (R15 [AV.fs 1 xs fl]) []).toFl,
                            AV.int IntKind.i64 a, AV.int IntKind.i64 n])
                        [1]).toInt ==
                    (sel
                        (R32
                          [AV.fs 1 (sel (R15 [AV.fs 1 xs fl]) []).toFs (sel (R15 [AV.fs 1 xs fl]) []).toFl,
                            AV.int IntKind.i64 a, AV.int IntKind.i64 n])
                        [1]).toInt)
                  (aIf (allU8 (sel (R21 [AV.str (s.extract 0 300000)]) [0]).toFs)
                    (aIf (allU8 (sel (R33 [AV.str (s.extract 0 300000)]) [0]).toFs)
                      (aIf
                        ((ByteArray.mk
                              (Array.mk
                                (List.map (fun v => UInt8.ofNat v.toInt.toNat)
                                  (sel (R21 [AV.str (s.extract 0 300000)]) [0]).toFs))).toList ==
                          (ByteArray.mk
                              (Array.mk
                                (List.map (fun v => UInt8.ofNat v.toInt.toNat)
                                  (sel (R33 [AV.str (s.extract 0 300000)]) [0]).toFs))).toList)
                        (aIf
                          ((sel (R21 [AV.str (s.extract 0 300000)]) [1]).toInt ==
                            (sel (R33 [AV.str (s.extract 0 300000)]) [1]).toInt)
                          (aIf
                            ((sel (R21 [AV.str (s.extract 0 300000)]) [2]).toInt ==
                              (sel (R33 [AV.str (s.extract 0 300000)]) [2]).toInt)
                            (aIf
                              ((sel (R21 [AV.str (s.extract 0 300000)]) [3]).toInt ==
                                (sel (R33 [AV.str (s.extract 0 300000)]) [3]).toInt)
                              (some (AEnd.ret (AV.bool true), [])) (some (AEnd.ret (AV.bool false), [])))
                            (some (AEnd.ret (AV.bool false), [])))
                          (some (AEnd.ret (AV.bool false), [])))
                        (some (AEnd.ret (AV.bool false), [])))
                      none)
                    none)
                  (some (AEnd.ret (AV.bool false), [])))
                (some (AEnd.ret (AV.bool false), [])))
              none)
            none)
          none)
        none)
      none)
    (aIf
      (shOK (Sh.tup [Sh.str, Sh.int IntKind.i64])
        (R20
          [AV.fs 1 (sel (R15 [AV.fs 1 xs fl]) []).toFs (sel (R15 [AV.fs 1 xs fl]) []).toFl, AV.int IntKind.i64 a,
            AV.int IntKind.i64 n]))
      (aIf
        (shOK (Sh.tup [Sh.str, Sh.int IntKind.i64])
          (R32
            [AV.fs 1 (sel (R15 [AV.fs 1 xs fl]) []).toFs (sel (R15 [AV.fs 1 xs fl]) []).toFl, AV.int IntKind.i64 a,
              AV.int IntKind.i64 n]))
        (aIf
          (shOK (Sh.tup [Sh.ints IntKind.u8, Sh.int IntKind.i64, Sh.int IntKind.i64, Sh.int IntKind.i64])
            (R21 [AV.str s]))
          (aIf
            (shOK (Sh.tup [Sh.ints IntKind.u8, Sh.int IntKind.i64, Sh.int IntKind.i64, Sh.int IntKind.i64])
              (R33 [AV.str s]))
            (aIf
              ((sel
                      (R20
                        [AV.fs 1 (sel (R15 [AV.fs 1 xs fl]) []).toFs (sel (R15 [AV.fs 1 xs fl]) []).toFl,
                          AV.int IntKind.i64 a, AV.int IntKind.i64 n])
                      [0]).toStr.toList ==
                (sel
                      (R32
                        [AV.fs 1 (sel (R15 [AV.fs 1 xs fl]) []).toFs (sel (R15 [AV.fs 1 xs fl]) []).toFl,
                          AV.int IntKind.i64 a, AV.int IntKind.i64 n])
                      [0]).toStr.toList)
              (aIf
                ((sel
                      (R20
                        [AV.fs 1 (sel (R15 [AV.fs 1 xs fl]) []).toFs (sel (R15 [AV.fs 1 xs fl]) []).toFl,
                          AV.int IntKind.i64 a, AV.int IntKind.i64 n])
                      [1]).toInt ==
                  (sel
                      (R32
                        [AV.fs 1 (sel (R15 [AV.fs 1 xs fl]) []).toFs (sel (R15 [AV.fs 1 xs fl]) []).toFl,
                          AV.int IntKind.i64 a, AV.int IntKind.i64 n])
                      [1]).toInt)
                (aIf (allU8 (sel (R21 [AV.str s]) [0]).toFs)
                  (aIf (allU8 (sel (R33 [AV.str s]) [0]).toFs)
                    (aIf
                      ((ByteArray.mk
                            (Array.mk
                              (List.map (fun v => UInt8.ofNat v.toInt.toNat)
                                (sel (R21 [AV.str s]) [0]).toFs))).toList ==
                        (ByteArray.mk
                            (Array.mk
                              (List.map (fun v => UInt8.ofNat v.toInt.toNat) (sel (R33 [AV.str s]) [0]).toFs))).toList)
                      (aIf ((sel (R21 [AV.str s]) [1]).toInt == (sel (R33 [AV.str s]) [1]).toInt)
                        (aIf ((sel (R21 [AV.str s]) [2]).toInt == (sel (R33 [AV.str s]) [2]).toInt)
                          (aIf ((sel (R21 [AV.str s]) [3]).toInt == (sel (R33 [AV.str s]) [3]).toInt)
                            (some (AEnd.ret (AV.bool true), [])) (some (AEnd.ret (AV.bool false), [])))
                          (some (AEnd.ret (AV.bool false), [])))
                        (some (AEnd.ret (AV.bool false), [])))
                      (some (AEnd.ret (AV.bool false), [])))
                    none)
                  none)
                (some (AEnd.ret (AV.bool false), [])))
              (some (AEnd.ret (AV.bool false), [])))
            none)
          none)
        none)
      none))
  none := by kernel_rfl

theorem read_u8 (s : ByteArray) : intsB .u8 (readX s) = true := by
  unfold readX
  cases ho : okB s
  · rfl
  cases ha : allB s
  · rfl
  rw [← (readX_cat ho ha).1]
  unfold catX
  rw [Bool.and_self, cond_true, runZ_bad (allB_let ha) _ 0 (by rw [runZ_length]; omega)]
  cases Nat.ble (sumR (runZ s s.size) (runZ s s.size).length) 65536
  · rfl
  · exact catP_u8 (Nat.le_refl _)

theorem law_holds : ∀ xs, argsV E 4 Try.f8.params.toList xs → S8 xs [] (fun e H => some (e, H)) = some (.ret (.bool true), []) := by
  intro xs h
  rw [Try.params8] at h
  obtain ⟨x, y, z, u, rfl, h1, h2, h3, h4⟩ := args4 h
  obtain ⟨ys, fl, rfl, hl, hf, hu⟩ := bytesArg h1 argT22 agg22
  obtain ⟨a, rfl, ha⟩ := intArg h2 argT3 agg3
  obtain ⟨n, rfl, hn⟩ := intArg h3 argT3 agg3
  obtain ⟨s, e, hsz⟩ := oneArg h4 argT9 agg9
  obtain rfl : u = .str s := by simpa using e
  have hu2 : intsB .u8 (ys.take 200) = true := intsB_take hu 200
  have hL : (ys.take 200).length ≤ 1000000 := by rw [List.length_take]; omega
  have hs : (sel (some (AEnd.ret (AV.fs 1 (ys.take 200) fl), [])) []) = .fs 1 (ys.take 200) fl := rfl
  have g1 : ∀ (x y : AV), sel (some (AEnd.ret (AV.tup [x, y]), [])) [0] = x := fun _ _ => rfl
  have g2 : ∀ (x y : AV), sel (some (AEnd.ret (AV.tup [x, y]), [])) [1] = y := fun _ _ => rfl
  have f0 : ∀ (x y z u : AV), sel (some (AEnd.ret (AV.tup [x, y, z, u]), [])) [0] = x := fun _ _ _ _ => rfl
  have f1 : ∀ (x y z u : AV), sel (some (AEnd.ret (AV.tup [x, y, z, u]), [])) [1] = y := fun _ _ _ _ => rfl
  have f2 : ∀ (x y z u : AV), sel (some (AEnd.ret (AV.tup [x, y, z, u]), [])) [2] = z := fun _ _ _ _ => rfl
  have f3 : ∀ (x y z u : AV), sel (some (AEnd.ret (AV.tup [x, y, z, u]), [])) [3] = u := fun _ _ _ _ => rfl
  have i1 : inK .i64 (bif thereB (ys.take 200).length a n then 0 else 30) = true := by cases thereB (ys.take 200).length a n <;> rfl
  have rng : ∀ s : ByteArray, s.size ≤ 1000000 → inK .i64 (readN s) = true ∧ inK .i64 (readI s) = true ∧ inK .i64 (readE s) = true := by
    intro s hs
    have hx := (firstX_le s s.size 0).2
    have nat : ∀ m : Nat, m ≤ 1000000 → inK .i64 (m : Int) = true := fun m hm => by rw [inK_i64, Bool.and_eq_true, decide_eq_true_eq, decide_eq_true_eq]; omega
    unfold readN readI readE
    cases okB s
    · exact ⟨rfl, rfl, rfl⟩
    · cases allB s
      · exact ⟨rfl, nat _ (by omega), rfl⟩
      · exact ⟨nat _ hs, rfl, rfl⟩
  rw [N8, R15_is, shOK_ret, has_ints, hu2, hs]
  simp only [AV.toFs, AV.toFl]
  rw [R20_is hu2 hL, R32_is hu2 hL]
  by_cases hc : s.size > 300000
  · have hz : (s.extract 0 300000).size ≤ 1000000 := by rw [ByteArray.size_extract]; omega
    obtain ⟨p1, q1⟩ := R21_is hz
    obtain ⟨p2, q2⟩ := R33_is hz
    obtain ⟨r1, r2, r3⟩ := rng _ hz
    have hp := read_u8 (s.extract 0 300000)
    rw [decide_eq_true (show (s.size : Int) > 300000 by omega), decide_eq_true (show (300000 : Int) ≤ (s.size : Int) by omega), q1, q2]
    simp only [shOK_ret, has_tup, hasL_cons, hasL_nil, List.getD_cons_zero, List.getD_cons_succ, has_int, has_str, has_ints, i1, r1, r2, r3, hp, g1, g2, f0, f1, f2, f3, AV.toInt, AV.toStr, allU8_of hp, List.length_cons, List.length_nil, beq_self_eq_true, Bool.and_self, aIf_true]
  · have hz : s.size ≤ 1000000 := by omega
    obtain ⟨p1, q1⟩ := R21_is hz
    obtain ⟨p2, q2⟩ := R33_is hz
    obtain ⟨r1, r2, r3⟩ := rng _ hz
    have hp := read_u8 s
    rw [decide_eq_false (show ¬ (s.size : Int) > 300000 by omega), q1, q2]
    simp only [shOK_ret, has_tup, hasL_cons, hasL_nil, List.getD_cons_zero, List.getD_cons_succ, has_int, has_str, has_ints, i1, r1, r2, r3, hp, g1, g2, f0, f1, f2, f3, AV.toInt, AV.toStr, allU8_of hp, List.length_cons, List.length_nil, beq_self_eq_true, Bool.and_self, aIf_true, aIf_false]

theorem law_spec {H : Type} (ds : List (DataW H)) (h : ds.length = Try.f8.params.toList.length) : (Rows.fieldTextsSpec.fn H (ds ++ [])).results = [.lit (.bool true)] ∧ (Rows.fieldTextsSpec.fn H (ds ++ [])).args = ds ∧ (Rows.fieldTextsSpec.fn H (ds ++ [])).vars = [] := by
  rw [Try.params8] at h
  match ds, h with
  | [d0, d1, d2, d3], _ => exact ⟨rfl, rfl, rfl⟩

set_option maxRecDepth 100000 in
theorem law_lifted (os : Os) (started : os.Started) (H : Type) (enc : TypeId × Value → H) :
    ReturnsInHanded {} Try.checked os 8 .any (Rows.fieldTextsSpec.pre6 enc Try.prog Try.f8 Rows.fieldTextsRow.domain false) (Rows.fieldTextsSpec.post enc Try.prog Try.f8 false true false false) := by
  refine returnsInHanded_of_change (C := Try.checked) own started (by kernel_rfl) Try.func8
    (ChangeSpec.witness6 (enc := enc) (C := Try.checked) false ⟨#[], #[.slice none 0 0, .int .i64 0, .int .i64 0, .string ⟨#[]⟩], []⟩ 8 (by kernel_rfl) (by kernel_rfl) (by kernel_rfl) (by kernel_rfl)) ?_
  intro W base args ds gs before hval hW _ _
  exact law_post (P := Try.prog) (E := E) (D := 4) (tb := 4) (fn := Try.f8) E_ok laidOut (by kernel_rfl) rfl (by kernel_rfl) rfl law_spec S8_ok law_holds hval hW

theorem fieldTexts_holds : Rows.FieldTextsSaid :=
  OpenClaim.holds_of_wide 8 Try.f8 rfl rfl rfl rfl rfl rfl rfl ⟨rfl, rfl, rfl, rfl, rfl⟩ rfl rfl rfl rfl rfl (by kernel_rfl) Try.func8 (by kernel_rfl)
    (of_decide_eq_true (by kernel_rfl)) (by unfold Func.isWrapper; first | (rw [if_pos (by decide +kernel)]; kernel_rfl) | (rw [if_neg (by decide +kernel)]; exact ⟨rfl, rfl⟩))
    (fun os started H enc _ => law_lifted os started H enc)

#print axioms fieldTexts_holds

end Go.Proofs.Ytkiipegoooldiaa

