/- What later fragments have of any options: the program answers as the document does. No conditions. -/
import Derived.Test.YtohfnoepdbkkeaaFSplitCopied
import Derived.Test.YtohfnoepdbkkeaaA20
import Derived.Test.YtohfnoepdbkkeaaPOpt
import Derived.ProofKit
namespace Go.Proofs.Ytohfnoepdbkkeaa
open Go.Abs Go.Pl Go.RowKit Go.ChangeShapes Go.WideShapes Go.ChangeAt

theorem own : ownKnob Try.prog.godebug = none := by kernel_rfl
theorem laidOut : laidOutB Try.prog = true := by kernel_rfl
theorem argT22 (xs : List AV) : argT E 4 22 xs = bytesT xs := by kernel_rfl
theorem agg22 : aggT E 22 = false := by kernel_rfl

theorem N3 (xs : List AV) (fl : SF) : S3 [.fs 1 xs fl] [] encK =
  aIf (decide ((↑xs.length : Int) > 300)) (aIf (decide (300 ≤ (↑xs.length : Int))) (aIf (intsB IntKind.u8 (List.drop 0 (List.take 300 xs)) && decide ((List.drop 0 (List.take 300 xs)).length ≤ 100000)) (aIf (allU8 (Pl.copiedL (List.drop 0 (List.take 300 xs)))) (aIf (intsB IntKind.u8 (List.drop 0 (List.take 300 xs)) && decide ((List.drop 0 (List.take 300 xs)).length ≤ 100000)) (aIf (allU8 (Pl.copiedL (List.drop 0 (List.take 300 xs)))) (aIf ((ByteArray.mk (Array.mk (List.map (fun v => UInt8.ofNat v.toInt.toNat) (Pl.copiedL (List.drop 0 (List.take 300 xs)))))).toList == (ByteArray.mk (Array.mk (List.map (fun v => UInt8.ofNat v.toInt.toNat) (Pl.copiedL (List.drop 0 (List.take 300 xs)))))).toList) (some (AEnd.ret (AV.bool true), [])) (some (AEnd.ret (AV.bool false), []))) none) none) none) none) none) (aIf (intsB IntKind.u8 xs && decide (xs.length ≤ 100000)) (aIf (allU8 (Pl.copiedL xs)) (aIf (intsB IntKind.u8 xs && decide (xs.length ≤ 100000)) (aIf (allU8 (Pl.copiedL xs)) (aIf ((ByteArray.mk (Array.mk (List.map (fun v => UInt8.ofNat v.toInt.toNat) (Pl.copiedL xs)))).toList == (ByteArray.mk (Array.mk (List.map (fun v => UInt8.ofNat v.toInt.toNat) (Pl.copiedL xs)))).toList) (some (AEnd.ret (AV.bool true), [])) (some (AEnd.ret (AV.bool false), []))) none) none) none) none) := by kernel_rfl
theorem law_holds : ∀ xs, argsV E 4 Try.f3.params.toList xs → S3 xs [] encK = some (.ret (.bool true), []) := by
  intro xs h
  rw [Try.params3] at h
  obtain ⟨x, rfl, h1⟩ := args1 h
  obtain ⟨ys, fl, rfl, hl, hf, hu⟩ := bytesArg h1 argT22 agg22
  rw [N3]
  have key : ∀ zs : List AV, intsB .u8 zs = true → zs.length ≤ 300 → (intsB .u8 zs && decide (zs.length ≤ 100000)) = true ∧ allU8 (copiedL zs) = true := fun zs h1 h2 =>
    ⟨by rw [h1, decide_eq_true (by omega)]; rfl, allU8_of (copiedL_ok h1).1⟩
  by_cases hc : ys.length > 300
  · obtain ⟨g1, g2⟩ := key (List.drop 0 (List.take 300 ys)) (by rw [List.drop_zero]; exact intsB_take hu 300) (by rw [List.drop_zero, List.length_take]; omega)
    rw [aIf_pos (decide_eq_true (by omega)), aIf_pos (decide_eq_true (by omega)), g1, g2]
    simp only [aIf_true, beq_self_eq_true]
  · obtain ⟨g1, g2⟩ := key ys hu (by omega)
    rw [aIf_neg (decide_eq_false (by omega)), g1, g2]
    simp only [aIf_true, beq_self_eq_true]

theorem law_spec {H : Type} (ds : List (DataW H)) (h : ds.length = Try.f3.params.toList.length) : (Rows.splitCopiedSpec.fn H (ds ++ [])).results = [.lit (.bool true)] ∧ (Rows.splitCopiedSpec.fn H (ds ++ [])).args = ds ∧ (Rows.splitCopiedSpec.fn H (ds ++ [])).vars = [] := by
  rw [Try.params3] at h
  match ds, h with
  | [d0], _ => exact ⟨rfl, rfl, rfl⟩

set_option maxRecDepth 100000 in
theorem law_lifted (os : Os) (started : os.Started) (H : Type) (enc : TypeId × Value → H) :
    ReturnsInHanded {} Try.checked os 3 .any (Rows.splitCopiedSpec.pre6 enc Try.prog Try.f3 Rows.splitCopiedRow.domain false) (Rows.splitCopiedSpec.post enc Try.prog Try.f3 false true false false) := by
  refine returnsInHanded_of_change (C := Try.checked) own started (by kernel_rfl) Try.func3
    (ChangeSpec.witness6 (enc := enc) (C := Try.checked) false ⟨#[], #[.slice none 0 0], []⟩ 8 (by kernel_rfl) (by kernel_rfl) (by kernel_rfl) (by kernel_rfl)) ?_
  intro W base args ds gs before hval hW _ _
  exact law_post (P := Try.prog) (E := E) (D := 4) (tb := 4) (fn := Try.f3) E_ok laidOut (by kernel_rfl) rfl (by kernel_rfl) rfl law_spec S3_ok law_holds (globOK_nil (fun _ => rfl) _) hval hW

theorem splitCopied_holds : Rows.SplitCopiedSaid :=
  OpenClaim.holds_of_wide 3 Try.f3 rfl rfl rfl rfl rfl rfl rfl ⟨rfl, rfl, rfl, rfl, rfl⟩ rfl rfl rfl rfl rfl (by kernel_rfl) Try.func3 (by kernel_rfl)
    (of_decide_eq_true (by kernel_rfl)) (by unfold Func.isWrapper; first | (rw [if_pos (by decide +kernel)]; kernel_rfl) | (rw [if_neg (by decide +kernel)]; exact ⟨rfl, rfl⟩))
    (fun os started H enc _ => law_lifted os started H enc)

#print axioms splitCopied_holds

end Go.Proofs.Ytohfnoepdbkkeaa

