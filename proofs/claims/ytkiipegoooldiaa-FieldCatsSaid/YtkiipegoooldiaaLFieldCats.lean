/- FieldCats: runs that are put together, against the document's. -/
import Derived.Test.YtkiipegoooldiaaFFieldCats
import Derived.Test.YtkiipegoooldiaaA20
import Derived.Test.YtkiipegoooldiaaPRuns
import Derived.ProofKit
namespace Go.Proofs.Ytkiipegoooldiaa
open Go.Abs Go.Pl Go.RowKit Go.ChangeShapes Go.WideShapes Go.ChangeAt

theorem own : ownKnob Try.prog.godebug = none := by kernel_rfl
theorem laidOut : laidOutB Try.prog = true := by kernel_rfl
theorem argT37 (xs : List AV) : argT E 4 37 xs = runsT xs := by kernel_rfl
theorem agg37 : aggT E 37 = false := by kernel_rfl

theorem N4 (xs : List AV) (fl : SF) : S4 [.fs 2 xs fl] [] (fun e H => some (e, H)) =
  aIf (decide ((↑xs.length : Int) > 1200))
  (aIf (decide (1200 ≤ (↑xs.length : Int)))
    (aIf (shOK (Sh.tup [Sh.ints IntKind.u8, Sh.int IntKind.i64]) (R22 [AV.fs 2 (List.drop 0 (List.take 1200 xs)) fl]))
      (aIf (shOK (Sh.tup [Sh.ints IntKind.u8, Sh.int IntKind.i64]) (R23 [AV.fs 2 (List.drop 0 (List.take 1200 xs)) fl]))
        (aIf (allU8 (sel (R22 [AV.fs 2 (List.drop 0 (List.take 1200 xs)) fl]) [0]).toFs)
          (aIf (allU8 (sel (R23 [AV.fs 2 (List.drop 0 (List.take 1200 xs)) fl]) [0]).toFs)
            (aIf
              ((ByteArray.mk
                    (Array.mk
                      (List.map (fun v => UInt8.ofNat v.toInt.toNat)
                        (sel (R22 [AV.fs 2 (List.drop 0 (List.take 1200 xs)) fl]) [0]).toFs))).toList ==
                (ByteArray.mk
                    (Array.mk
                      (List.map (fun v => UInt8.ofNat v.toInt.toNat)
                        (sel (R23 [AV.fs 2 (List.drop 0 (List.take 1200 xs)) fl]) [0]).toFs))).toList)
              (aIf
                ((sel (R22 [AV.fs 2 (List.drop 0 (List.take 1200 xs)) fl]) [1]).toInt ==
                  (sel (R23 [AV.fs 2 (List.drop 0 (List.take 1200 xs)) fl]) [1]).toInt)
                (some (AEnd.ret (AV.bool true), [])) (some (AEnd.ret (AV.bool false), [])))
              (some (AEnd.ret (AV.bool false), [])))
            none)
          none)
        none)
      none)
    none)
  (aIf (shOK (Sh.tup [Sh.ints IntKind.u8, Sh.int IntKind.i64]) (R22 [AV.fs 2 xs fl]))
    (aIf (shOK (Sh.tup [Sh.ints IntKind.u8, Sh.int IntKind.i64]) (R23 [AV.fs 2 xs fl]))
      (aIf (allU8 (sel (R22 [AV.fs 2 xs fl]) [0]).toFs)
        (aIf (allU8 (sel (R23 [AV.fs 2 xs fl]) [0]).toFs)
          (aIf
            ((ByteArray.mk
                  (Array.mk
                    (List.map (fun v => UInt8.ofNat v.toInt.toNat) (sel (R22 [AV.fs 2 xs fl]) [0]).toFs))).toList ==
              (ByteArray.mk
                  (Array.mk
                    (List.map (fun v => UInt8.ofNat v.toInt.toNat) (sel (R23 [AV.fs 2 xs fl]) [0]).toFs))).toList)
            (aIf ((sel (R22 [AV.fs 2 xs fl]) [1]).toInt == (sel (R23 [AV.fs 2 xs fl]) [1]).toInt)
              (some (AEnd.ret (AV.bool true), [])) (some (AEnd.ret (AV.bool false), [])))
            (some (AEnd.ret (AV.bool false), [])))
          none)
        none)
      none)
    none) := by kernel_rfl

theorem law_holds : ∀ xs, argsV E 4 Try.f4.params.toList xs → S4 xs [] (fun e H => some (e, H)) = some (.ret (.bool true), []) := by
  intro xs h
  rw [Try.params4] at h
  obtain ⟨x, rfl, h1⟩ := args1 h
  obtain ⟨ys, fl, rfl, hl, hf, hu⟩ := runsArg h1 argT37 agg37
  have g1 : ∀ (x y : AV), sel (some (AEnd.ret (AV.tup [x, y]), [])) [0] = x := fun _ _ => rfl
  have g2 : ∀ (x y : AV), sel (some (AEnd.ret (AV.tup [x, y]), [])) [1] = y := fun _ _ => rfl
  have i1 : ∀ zs, inK .i64 (catE zs) = true := by
    intro zs
    unfold catE
    rcases badE_cases zs zs.length 0 with h | h | h <;> rw [h]
    · cases Nat.ble (sumR zs zs.length) 65536 <;> rfl
    · rfl
    · rfl
  have p1 : ∀ zs, intsB .u8 (catX zs) = true := by
    intro zs
    unfold catX
    cases badE zs zs.length 0 == 0
    · rfl
    · cases Nat.ble (sumR zs zs.length) 65536
      · rfl
      · exact catP_u8 (Nat.le_refl _)
  have hr2 : runsB (ys.take 1200) = true := runsB_take hu 1200
  have hL : (ys.take 1200).length ≤ 1200 := by rw [List.length_take]; omega
  rw [N4]
  by_cases hc : ys.length > 1200
  · rw [aIf_pos (decide_eq_true (by omega)), aIf_pos (decide_eq_true (by omega)), List.drop_zero]
    obtain ⟨f1, e1⟩ := R22_is (fl := fl) hr2 hL
    obtain ⟨f2, e2⟩ := R23_is (fl := fl) hr2 hL
    rw [e1, e2]
    simp only [g1, g2, shOK_ret, has_tup, hasL_cons, hasL_nil, List.getD_cons_zero, List.getD_cons_succ, has_int, has_ints, i1, p1, AV.toInt, AV.toFs, List.length_cons, List.length_nil, beq_self_eq_true, Bool.and_self, aIf_true, allU8_of (p1 _)]
  · rw [aIf_neg (decide_eq_false (by omega))]
    obtain ⟨f1, e1⟩ := R22_is (fl := fl) hu (by omega)
    obtain ⟨f2, e2⟩ := R23_is (fl := fl) hu (by omega)
    rw [e1, e2]
    simp only [g1, g2, shOK_ret, has_tup, hasL_cons, hasL_nil, List.getD_cons_zero, List.getD_cons_succ, has_int, has_ints, i1, p1, AV.toInt, AV.toFs, List.length_cons, List.length_nil, beq_self_eq_true, Bool.and_self, aIf_true, allU8_of (p1 _)]

theorem law_spec {H : Type} (ds : List (DataW H)) (h : ds.length = Try.f4.params.toList.length) : (Rows.fieldCatsSpec.fn H (ds ++ [])).results = [.lit (.bool true)] ∧ (Rows.fieldCatsSpec.fn H (ds ++ [])).args = ds ∧ (Rows.fieldCatsSpec.fn H (ds ++ [])).vars = [] := by
  rw [Try.params4] at h
  match ds, h with
  | [d0], _ => exact ⟨rfl, rfl, rfl⟩

set_option maxRecDepth 100000 in
theorem law_lifted (os : Os) (started : os.Started) (H : Type) (enc : TypeId × Value → H) :
    ReturnsInHanded {} Try.checked os 4 .any (Rows.fieldCatsSpec.pre6 enc Try.prog Try.f4 Rows.fieldCatsRow.domain false) (Rows.fieldCatsSpec.post enc Try.prog Try.f4 false true false false) := by
  refine returnsInHanded_of_change (C := Try.checked) own started (by kernel_rfl) Try.func4
    (ChangeSpec.witness6 (enc := enc) (C := Try.checked) false ⟨#[], #[.slice none 0 0], []⟩ 8 (by kernel_rfl) (by kernel_rfl) (by kernel_rfl) (by kernel_rfl)) ?_
  intro W base args ds gs before hval hW _ _
  exact law_post (P := Try.prog) (E := E) (D := 4) (tb := 4) (fn := Try.f4) E_ok laidOut (by kernel_rfl) rfl (by kernel_rfl) rfl law_spec S4_ok law_holds hval hW

theorem fieldCats_holds : Rows.FieldCatsSaid :=
  OpenClaim.holds_of_wide 4 Try.f4 rfl rfl rfl rfl rfl rfl rfl ⟨rfl, rfl, rfl, rfl, rfl⟩ rfl rfl rfl rfl rfl (by kernel_rfl) Try.func4 (by kernel_rfl)
    (of_decide_eq_true (by kernel_rfl)) (by unfold Func.isWrapper; first | (rw [if_pos (by decide +kernel)]; kernel_rfl) | (rw [if_neg (by decide +kernel)]; exact ⟨rfl, rfl⟩))
    (fun os started H enc _ => law_lifted os started H enc)

#print axioms fieldCats_holds

end Go.Proofs.Ytkiipegoooldiaa

