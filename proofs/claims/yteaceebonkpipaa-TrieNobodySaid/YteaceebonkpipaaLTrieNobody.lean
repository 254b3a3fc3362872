/- A table that nobody made refuses all. No conditions. -/
import Derived.Test.YteaceebonkpipaaFTrieNobody
import Derived.Test.YteaceebonkpipaaA20
import Derived.Test.YteaceebonkpipaaPTrieArg
import Derived.ProofKit
namespace Go.Proofs.Yteaceebonkpipaa
open Go.Abs Go.Pl Go.RowKit Go.ChangeShapes Go.WideShapes Go.ChangeAt

theorem own : ownKnob Try.prog.godebug = none := by kernel_rfl
theorem laidOut : laidOutB Try.prog = true := by kernel_rfl
theorem argT41 (xs : List AV) : argT E 4 41 xs = opT xs := by kernel_rfl
theorem agg41 : aggT E 41 = true := by kernel_rfl

theorem N7 (kd : Int) (p : Nat → Int) (n : Int) (q : Nat → Int) (m : Int) (a b : Nat → Int) (v : Int) : S7 [.agg [.int .i64 kd, .int .u8 (p 0), .int .u8 (p 1), .int .u8 (p 2), .int .u8 (p 3), .int .i64 n, .int .u8 (q 0), .int .u8 (q 1), .int .u8 (q 2), .int .u8 (q 3), .int .u8 (q 4), .int .u8 (q 5), .int .u8 (q 6), .int .u8 (q 7), .int .u8 (q 8), .int .u8 (q 9), .int .u8 (q 10), .int .u8 (q 11), .int .u8 (q 12), .int .u8 (q 13), .int .u8 (q 14), .int .u8 (q 15), .int .i64 m, .int .u8 (a 0), .int .u8 (a 1), .int .u8 (a 2), .int .u8 (a 3), .int .u8 (b 0), .int .u8 (b 1), .int .u8 (b 2), .int .u8 (b 3), .int .u8 (b 4), .int .u8 (b 5), .int .u8 (b 6), .int .u8 (b 7), .int .u8 (b 8), .int .u8 (b 9), .int .u8 (b 10), .int .u8 (b 11), .int .u8 (b 12), .int .u8 (b 13), .int .u8 (b 14), .int .u8 (b 15), .int .i64 v]] [] encK =
  aIf (shOK (Sh.int IntKind.i64) (R56 [AV.agg [AV.int IntKind.u8 (p 0), AV.int IntKind.u8 (p 1), AV.int IntKind.u8 (p 2), AV.int IntKind.u8 (p 3), AV.int IntKind.i64 n]])) (aIf (shOK (Sh.int IntKind.i64) (R58 [AV.agg [AV.int IntKind.u8 (q 0), AV.int IntKind.u8 (q 1), AV.int IntKind.u8 (q 2), AV.int IntKind.u8 (q 3), AV.int IntKind.u8 (q 4), AV.int IntKind.u8 (q 5), AV.int IntKind.u8 (q 6), AV.int IntKind.u8 (q 7), AV.int IntKind.u8 (q 8), AV.int IntKind.u8 (q 9), AV.int IntKind.u8 (q 10), AV.int IntKind.u8 (q 11), AV.int IntKind.u8 (q 12), AV.int IntKind.u8 (q 13), AV.int IntKind.u8 (q 14), AV.int IntKind.u8 (q 15), AV.int IntKind.i64 m]])) (aIf (shOK (Sh.int IntKind.i64) (R56 [AV.agg [AV.int IntKind.u8 (p 0), AV.int IntKind.u8 (p 1), AV.int IntKind.u8 (p 2), AV.int IntKind.u8 (p 3), AV.int IntKind.i64 n]])) (aIf (shOK (Sh.int IntKind.i64) (R58 [AV.agg [AV.int IntKind.u8 (q 0), AV.int IntKind.u8 (q 1), AV.int IntKind.u8 (q 2), AV.int IntKind.u8 (q 3), AV.int IntKind.u8 (q 4), AV.int IntKind.u8 (q 5), AV.int IntKind.u8 (q 6), AV.int IntKind.u8 (q 7), AV.int IntKind.u8 (q 8), AV.int IntKind.u8 (q 9), AV.int IntKind.u8 (q 10), AV.int IntKind.u8 (q 11), AV.int IntKind.u8 (q 12), AV.int IntKind.u8 (q 13), AV.int IntKind.u8 (q 14), AV.int IntKind.u8 (q 15), AV.int IntKind.i64 m]])) (aIf (shOK (Sh.int IntKind.i64) (R56 [AV.agg [AV.int IntKind.u8 (p 0), AV.int IntKind.u8 (p 1), AV.int IntKind.u8 (p 2), AV.int IntKind.u8 (p 3), AV.int IntKind.i64 n]])) (aIf (shOK (Sh.int IntKind.i64) (R56 [AV.agg [AV.int IntKind.u8 (p 0), AV.int IntKind.u8 (p 1), AV.int IntKind.u8 (p 2), AV.int IntKind.u8 (p 3), AV.int IntKind.i64 n]])) (aIf (shOK (Sh.int IntKind.i64) (R56 [AV.agg [AV.int IntKind.u8 (p 0), AV.int IntKind.u8 (p 1), AV.int IntKind.u8 (p 2), AV.int IntKind.u8 (p 3), AV.int IntKind.i64 n]])) (aIf (shOK (Sh.int IntKind.i64) (R58 [AV.agg [AV.int IntKind.u8 (q 0), AV.int IntKind.u8 (q 1), AV.int IntKind.u8 (q 2), AV.int IntKind.u8 (q 3), AV.int IntKind.u8 (q 4), AV.int IntKind.u8 (q 5), AV.int IntKind.u8 (q 6), AV.int IntKind.u8 (q 7), AV.int IntKind.u8 (q 8), AV.int IntKind.u8 (q 9), AV.int IntKind.u8 (q 10), AV.int IntKind.u8 (q 11), AV.int IntKind.u8 (q 12), AV.int IntKind.u8 (q 13), AV.int IntKind.u8 (q 14), AV.int IntKind.u8 (q 15), AV.int IntKind.i64 m]])) (aIf (shOK (Sh.int IntKind.i64) (R56 [AV.agg [AV.int IntKind.u8 (p 0), AV.int IntKind.u8 (p 1), AV.int IntKind.u8 (p 2), AV.int IntKind.u8 (p 3), AV.int IntKind.i64 n]])) (aIf (shOK (Sh.int IntKind.i64) (R58 [AV.agg [AV.int IntKind.u8 (q 0), AV.int IntKind.u8 (q 1), AV.int IntKind.u8 (q 2), AV.int IntKind.u8 (q 3), AV.int IntKind.u8 (q 4), AV.int IntKind.u8 (q 5), AV.int IntKind.u8 (q 6), AV.int IntKind.u8 (q 7), AV.int IntKind.u8 (q 8), AV.int IntKind.u8 (q 9), AV.int IntKind.u8 (q 10), AV.int IntKind.u8 (q 11), AV.int IntKind.u8 (q 12), AV.int IntKind.u8 (q 13), AV.int IntKind.u8 (q 14), AV.int IntKind.u8 (q 15), AV.int IntKind.i64 m]])) (aIf (shOK (Sh.int IntKind.i64) (R56 [AV.agg [AV.int IntKind.u8 (p 0), AV.int IntKind.u8 (p 1), AV.int IntKind.u8 (p 2), AV.int IntKind.u8 (p 3), AV.int IntKind.i64 n]])) (aIf (shOK (Sh.int IntKind.i64) (R58 [AV.agg [AV.int IntKind.u8 (q 0), AV.int IntKind.u8 (q 1), AV.int IntKind.u8 (q 2), AV.int IntKind.u8 (q 3), AV.int IntKind.u8 (q 4), AV.int IntKind.u8 (q 5), AV.int IntKind.u8 (q 6), AV.int IntKind.u8 (q 7), AV.int IntKind.u8 (q 8), AV.int IntKind.u8 (q 9), AV.int IntKind.u8 (q 10), AV.int IntKind.u8 (q 11), AV.int IntKind.u8 (q 12), AV.int IntKind.u8 (q 13), AV.int IntKind.u8 (q 14), AV.int IntKind.u8 (q 15), AV.int IntKind.i64 m]])) (aIf (shOK (Sh.int IntKind.i64) (R56 [AV.agg [AV.int IntKind.u8 (p 0), AV.int IntKind.u8 (p 1), AV.int IntKind.u8 (p 2), AV.int IntKind.u8 (p 3), AV.int IntKind.i64 n]])) (aIf (shOK (Sh.int IntKind.i64) (R56 [AV.agg [AV.int IntKind.u8 (p 0), AV.int IntKind.u8 (p 1), AV.int IntKind.u8 (p 2), AV.int IntKind.u8 (p 3), AV.int IntKind.i64 n]])) (aIf (shOK (Sh.int IntKind.i64) (R56 [AV.agg [AV.int IntKind.u8 (p 0), AV.int IntKind.u8 (p 1), AV.int IntKind.u8 (p 2), AV.int IntKind.u8 (p 3), AV.int IntKind.i64 n]])) (aIf (shOK (Sh.int IntKind.i64) (R58 [AV.agg [AV.int IntKind.u8 (q 0), AV.int IntKind.u8 (q 1), AV.int IntKind.u8 (q 2), AV.int IntKind.u8 (q 3), AV.int IntKind.u8 (q 4), AV.int IntKind.u8 (q 5), AV.int IntKind.u8 (q 6), AV.int IntKind.u8 (q 7), AV.int IntKind.u8 (q 8), AV.int IntKind.u8 (q 9), AV.int IntKind.u8 (q 10), AV.int IntKind.u8 (q 11), AV.int IntKind.u8 (q 12), AV.int IntKind.u8 (q 13), AV.int IntKind.u8 (q 14), AV.int IntKind.u8 (q 15), AV.int IntKind.i64 m]])) (some (AEnd.ret (AV.bool true), [])) none) none) none) none) none) none) none) none) none) none) none) none) none) none) none) none := by kernel_rfl
theorem law_holds : ∀ xs, argsV E 4 Try.f7.params.toList xs → S7 xs [] encK = some (.ret (.bool true), []) := by
  intro xs h
  rw [Try.params7] at h
  obtain ⟨z, rfl, h1⟩ := args1 h
  obtain ⟨zs, rfl, hq⟩ := aggArg h1 argT41 agg41
  obtain ⟨kd, p, n, q, m, a, b, v, hp, _, hqq, _, _, _, _, rfl⟩ := op_of hq
  rw [N7]
  have e1 := R56_is (n := n) hp
  have e2 := R58_is (n := m) hqq
  simp only [e1, e2, shOK_ret, has_int, chkE_in, aIf_true]

theorem law_spec {H : Type} (ds : List (DataW H)) (h : ds.length = Try.f7.params.toList.length) : (Rows.trieNobodySpec.fn H (ds ++ [])).results = [.lit (.bool true)] ∧ (Rows.trieNobodySpec.fn H (ds ++ [])).args = ds ∧ (Rows.trieNobodySpec.fn H (ds ++ [])).vars = [] := by
  rw [Try.params7] at h
  match ds, h with
  | [d0], _ => exact ⟨rfl, rfl, rfl⟩

set_option maxRecDepth 100000 in
theorem law_lifted (os : Os) (started : os.Started) (H : Type) (enc : TypeId × Value → H) :
    ReturnsInHanded {} Try.checked os 7 .any (Rows.trieNobodySpec.pre6 enc Try.prog Try.f7 Rows.trieNobodyRow.domain false) (Rows.trieNobodySpec.post enc Try.prog Try.f7 false true false false) := by
  refine returnsInHanded_of_change (C := Try.checked) own started (by kernel_rfl) Try.func7
    (ChangeSpec.witness6 (enc := enc) (C := Try.checked) false ⟨#[], #[.agg #[.int .i64 0, .int .u8 0, .int .u8 0, .int .u8 0, .int .u8 0, .int .i64 0, .int .u8 0, .int .u8 0, .int .u8 0, .int .u8 0, .int .u8 0, .int .u8 0, .int .u8 0, .int .u8 0, .int .u8 0, .int .u8 0, .int .u8 0, .int .u8 0, .int .u8 0, .int .u8 0, .int .u8 0, .int .u8 0, .int .i64 0, .int .u8 0, .int .u8 0, .int .u8 0, .int .u8 0, .int .u8 0, .int .u8 0, .int .u8 0, .int .u8 0, .int .u8 0, .int .u8 0, .int .u8 0, .int .u8 0, .int .u8 0, .int .u8 0, .int .u8 0, .int .u8 0, .int .u8 0, .int .u8 0, .int .u8 0, .int .u8 0, .int .i64 0]], []⟩ 8 (by kernel_rfl) (by kernel_rfl) (by kernel_rfl) (by kernel_rfl)) ?_
  intro W base args ds gs before hval hW _ _
  exact law_post (P := Try.prog) (E := E) (D := 4) (tb := 4) (fn := Try.f7) E_ok laidOut (by kernel_rfl) rfl (by kernel_rfl) rfl law_spec S7_ok law_holds (globOK_nil (fun _ => rfl) _) hval hW

theorem trieNobody_holds : Rows.TrieNobodySaid :=
  OpenClaim.holds_of_wide 7 Try.f7 rfl rfl rfl rfl rfl rfl rfl ⟨rfl, rfl, rfl, rfl, rfl⟩ rfl rfl rfl rfl rfl (by kernel_rfl) Try.func7 (by kernel_rfl)
    (of_decide_eq_true (by kernel_rfl)) (by unfold Func.isWrapper; first | (rw [if_pos (by decide +kernel)]; kernel_rfl) | (rw [if_neg (by decide +kernel)]; exact ⟨rfl, rfl⟩))
    (fun os started H enc _ => law_lifted os started H enc)

#print axioms trieNobody_holds

end Go.Proofs.Yteaceebonkpipaa

