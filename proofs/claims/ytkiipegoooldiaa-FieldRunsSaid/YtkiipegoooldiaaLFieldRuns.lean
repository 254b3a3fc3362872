/- FieldRuns: the runs that were put together are found at their places, for every row of runs. -/
import Derived.Test.YtkiipegoooldiaaFFieldRuns
import Derived.Test.YtkiipegoooldiaaA20
import Derived.Test.YtkiipegoooldiaaPRuns
import Derived.ProofKit
namespace Go.Proofs.Ytkiipegoooldiaa
open Go.Abs Go.Pl Go.RowKit Go.ChangeShapes Go.WideShapes Go.ChangeAt

theorem own : ownKnob Try.prog.godebug = none := by kernel_rfl
theorem laidOut : laidOutB Try.prog = true := by kernel_rfl
theorem argT37 (xs : List AV) : argT E 4 37 xs = runsT xs := by kernel_rfl
theorem agg37 : aggT E 37 = false := by kernel_rfl

theorem N7 (xs : List AV) (fl : SF) : S7 [.fs 2 xs fl] [] (fun e H => some (e, H)) =
  aIf (decide ((↑xs.length : Int) > 100))
  (aIf (decide (100 ≤ (↑xs.length : Int)))
    (aIf (shOK (Sh.tup [Sh.ints IntKind.u8, Sh.int IntKind.i64]) (R22 [AV.fs 2 (List.drop 0 (List.take 100 xs)) fl]))
      (aIf ((sel (R22 [AV.fs 2 (List.drop 0 (List.take 100 xs)) fl]) [1]).toInt != 0)
        (aIf ((↑(sel (R22 [AV.fs 2 (List.drop 0 (List.take 100 xs)) fl]) [0]).toFs.length : Int) == 0)
          (some (AEnd.ret (AV.bool true), [])) (some (AEnd.ret (AV.bool false), [])))
        (aIf
          (Pl.catG (List.drop 0 (List.take 100 xs)) 0 (↑(List.drop 0 (List.take 100 xs)).length : Int) 0 &&
                Pl.runsIn (sel (R22 [AV.fs 2 (List.drop 0 (List.take 100 xs)) fl]) [0]).toFs
                  (List.drop 0 (List.take 100 xs)) &&
              Pl.badE (List.drop 0 (List.take 100 xs)) (List.drop 0 (List.take 100 xs)).length 0 == 0 &&
            (Pl.sumR (List.drop 0 (List.take 100 xs)) (List.drop 0 (List.take 100 xs)).length).ble 65536)
          (aIf
            ((↑(sel (R22 [AV.fs 2 (List.drop 0 (List.take 100 xs)) fl]) [0]).toFs.length : Int) ==
              IntKind.i64.wrap
                ((IntKind.i64.wrap
                      ((↑(Pl.sumR (List.drop 0 (List.take 100 xs)) (List.drop 0 (List.take 100 xs)).length) : Int) +
                        7)).tdiv
                  8))
            (some (AEnd.ret (AV.bool true), [])) (some (AEnd.ret (AV.bool false), [])))
          none))
      none)
    none)
  (aIf (shOK (Sh.tup [Sh.ints IntKind.u8, Sh.int IntKind.i64]) (R22 [AV.fs 2 xs fl]))
    (aIf ((sel (R22 [AV.fs 2 xs fl]) [1]).toInt != 0)
      (aIf ((↑(sel (R22 [AV.fs 2 xs fl]) [0]).toFs.length : Int) == 0) (some (AEnd.ret (AV.bool true), []))
        (some (AEnd.ret (AV.bool false), [])))
      (aIf
        (Pl.catG xs 0 (↑xs.length : Int) 0 && Pl.runsIn (sel (R22 [AV.fs 2 xs fl]) [0]).toFs xs &&
            Pl.badE xs xs.length 0 == 0 &&
          (Pl.sumR xs xs.length).ble 65536)
        (aIf
          ((↑(sel (R22 [AV.fs 2 xs fl]) [0]).toFs.length : Int) ==
            IntKind.i64.wrap ((IntKind.i64.wrap ((↑(Pl.sumR xs xs.length) : Int) + 7)).tdiv 8))
          (some (AEnd.ret (AV.bool true), [])) (some (AEnd.ret (AV.bool false), [])))
        none))
    none) := by kernel_rfl

theorem law_holds : ∀ xs, argsV E 4 Try.f7.params.toList xs → S7 xs [] (fun e H => some (e, H)) = some (.ret (.bool true), []) := by
  intro xs h
  rw [Try.params7] at h
  obtain ⟨x, rfl, h1⟩ := args1 h
  obtain ⟨ys, fl, rfl, hl, hf, hu⟩ := runsArg h1 argT37 agg37
  have hr2 : runsB (ys.take 100) = true := runsB_take hu 100
  have hL : (ys.take 100).length ≤ 1200 := by rw [List.length_take]; omega
  have go : ∀ zs : List AV, runsB zs = true → zs.length ≤ 1200 →
      aIf (shOK (Sh.tup [Sh.ints IntKind.u8, Sh.int IntKind.i64]) (R22 [AV.fs 2 zs fl]))
        (aIf ((sel (R22 [AV.fs 2 zs fl]) [1]).toInt != 0)
          (aIf (((sel (R22 [AV.fs 2 zs fl]) [0]).toFs.length : Int) == 0) (some (AEnd.ret (AV.bool true), [])) (some (AEnd.ret (AV.bool false), [])))
          (aIf (catG zs 0 (zs.length : Int) 0 && runsIn (sel (R22 [AV.fs 2 zs fl]) [0]).toFs zs && badE zs zs.length 0 == 0 && (sumR zs zs.length).ble 65536)
            (aIf (((sel (R22 [AV.fs 2 zs fl]) [0]).toFs.length : Int) == IntKind.i64.wrap ((IntKind.i64.wrap ((sumR zs zs.length : Int) + 7)).tdiv 8))
              (some (AEnd.ret (AV.bool true), [])) (some (AEnd.ret (AV.bool false), []))) none)) none = some (.ret (.bool true), []) := by
    intro zs hz hl
    obtain ⟨f1, e1⟩ := R22_is (fl := fl) hz hl
    rw [e1]
    have g1 : ∀ (x y : AV), sel (some (AEnd.ret (AV.tup [x, y]), [])) [0] = x := fun _ _ => rfl
    have g2 : ∀ (x y : AV), sel (some (AEnd.ret (AV.tup [x, y]), [])) [1] = y := fun _ _ => rfl
    have i1 : inK .i64 (catE zs) = true := by
      unfold catE
      rcases badE_cases zs zs.length 0 with h | h | h <;> rw [h]
      · cases Nat.ble (sumR zs zs.length) 65536 <;> rfl
      · rfl
      · rfl
    have p1 : intsB .u8 (catX zs) = true := by
      unfold catX
      cases badE zs zs.length 0 == 0
      · rfl
      · cases Nat.ble (sumR zs zs.length) 65536
        · rfl
        · exact catP_u8 (Nat.le_refl _)
    simp only [g1, g2, shOK_ret, has_tup, hasL_cons, hasL_nil, List.getD_cons_zero, List.getD_cons_succ, has_int, has_ints, i1, p1, AV.toInt, AV.toFs, List.length_cons, List.length_nil, beq_self_eq_true, Bool.and_self, aIf_true]
    unfold catE catX
    cases hb : badE zs zs.length 0 == 0
    · have hne : (badE zs zs.length 0 != 0) = true := by rw [bne, hb]; rfl
      rw [cond_false, cond_false, hne]; rfl
    cases hs : Nat.ble (sumR zs zs.length) 65536
    · rfl
    have hs' := Nat.le_of_ble_eq_true hs
    have hb' : badE zs zs.length 0 = 0 := by simpa using hb
    rw [cond_true, cond_true, cond_true, cond_true, catG_ok hz hl, runsIn_cat hz hb' hs', bytes_len (by omega), catP_length, beq_self_eq_true]
    rfl
  rw [N7]
  by_cases hc : ys.length > 100
  · rw [aIf_pos (decide_eq_true (by omega)), aIf_pos (decide_eq_true (by omega)), List.drop_zero]
    exact go _ hr2 hL
  · rw [aIf_neg (decide_eq_false (by omega))]
    exact go _ hu (by omega)

theorem law_spec {H : Type} (ds : List (DataW H)) (h : ds.length = Try.f7.params.toList.length) : (Rows.fieldRunsSpec.fn H (ds ++ [])).results = [.lit (.bool true)] ∧ (Rows.fieldRunsSpec.fn H (ds ++ [])).args = ds ∧ (Rows.fieldRunsSpec.fn H (ds ++ [])).vars = [] := by
  rw [Try.params7] at h
  match ds, h with
  | [d0], _ => exact ⟨rfl, rfl, rfl⟩

set_option maxRecDepth 100000 in
theorem law_lifted (os : Os) (started : os.Started) (H : Type) (enc : TypeId × Value → H) :
    ReturnsInHanded {} Try.checked os 7 .any (Rows.fieldRunsSpec.pre6 enc Try.prog Try.f7 Rows.fieldRunsRow.domain false) (Rows.fieldRunsSpec.post enc Try.prog Try.f7 false true false false) := by
  refine returnsInHanded_of_change (C := Try.checked) own started (by kernel_rfl) Try.func7
    (ChangeSpec.witness6 (enc := enc) (C := Try.checked) false ⟨#[], #[.slice none 0 0], []⟩ 8 (by kernel_rfl) (by kernel_rfl) (by kernel_rfl) (by kernel_rfl)) ?_
  intro W base args ds gs before hval hW _ _
  exact law_post (P := Try.prog) (E := E) (D := 4) (tb := 4) (fn := Try.f7) E_ok laidOut (by kernel_rfl) rfl (by kernel_rfl) rfl law_spec S7_ok law_holds hval hW

theorem fieldRuns_holds : Rows.FieldRunsSaid :=
  OpenClaim.holds_of_wide 7 Try.f7 rfl rfl rfl rfl rfl rfl rfl ⟨rfl, rfl, rfl, rfl, rfl⟩ rfl rfl rfl rfl rfl (by kernel_rfl) Try.func7 (by kernel_rfl)
    (of_decide_eq_true (by kernel_rfl)) (by unfold Func.isWrapper; first | (rw [if_pos (by decide +kernel)]; kernel_rfl) | (rw [if_neg (by decide +kernel)]; exact ⟨rfl, rfl⟩))
    (fun os started H enc _ => law_lifted os started H enc)

#print axioms fieldRuns_holds

end Go.Proofs.Ytkiipegoooldiaa

