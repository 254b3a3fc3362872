/- Ports by their places, the place of each, and the next one: the program answers as the document does, for every port set. No conditions. -/
import Derived.Test.YtkiipegoooldiaaFPortsetAt
import Derived.Test.YtkiipegoooldiaaA20
import Derived.Test.YtkiipegoooldiaaPPortAns
import Derived.ProofKit
namespace Go.Proofs.Ytkiipegoooldiaa
open Go.Abs Go.Pl Go.RowKit Go.ChangeShapes Go.WideShapes Go.ChangeAt

theorem own : ownKnob Try.prog.godebug = none := by kernel_rfl
theorem laidOut : laidOutB Try.prog = true := by kernel_rfl
theorem argT63 (xs : List AV) : argT E 4 63 xs = seqP [intT .i64, intT .i64, intT .u16] xs := by kernel_rfl
theorem argT61 (xs : List AV) : argT E 4 61 xs = intT .u16 xs := by kernel_rfl
theorem agg63 : aggT E 63 = true := by kernel_rfl
theorem agg61 : aggT E 61 = false := by kernel_rfl

theorem argT3 (xs : List AV) : argT E 4 3 xs = intT .i64 xs := by kernel_rfl
theorem agg3 : aggT E 3 = false := by kernel_rfl

theorem pset_of {x : AV} (h : argV E 4 63 x) : ∃ a b c, x = .agg [.int .i64 a, .int .i64 b, .int .u16 c] ∧ psetB a b c = true := by
  obtain ⟨zs, rfl, h1⟩ := aggArg h argT63 agg63
  obtain ⟨a, b, c, rfl, ha, hb, hc⟩ := ints3 h1
  have ha := rng_i64 ha
  have hb := rng_i64 hb
  have hc := rng_u16 hc
  exact ⟨a, b, c, rfl, psetB_iff.2 ⟨ha.1, ha.2, hb.1, hb.2, hc.1, hc.2⟩⟩

theorem N10 (a b p i x : Int) : S10 [.agg [.int .i64 a, .int .i64 b, .int .u16 p], .int .i64 i, .int .u16 x] [] encK =
  aIf (Pl.psetB a b p) (aIf (Pl.right a b p) (aIf (Pl.psetB a b p) (aIf (Pl.psetB a b p && Pl.i64B i) (aIf (Pl.psetB a b p && Pl.i64B i) (aIf (Pl.psetB a b p && Pl.psetB a b x) (aIf (Pl.psetB a b p && Pl.psetB a b x) (aIf (Pl.psetB a b p && Pl.psetB a b x) (aIf (Pl.psetB a b p && Pl.psetB a b x) (aIf (Pl.count a b == Pl.cntN a b p) (aIf (0 == Pl.ofE a b p) (aIf (Pl.atN a b p i == Pl.atN a b p i) (aIf (Pl.atE a b p i == Pl.atE a b p i) (aIf (Pl.idxN a b p x == Pl.idxN a b p x) (aIf (Pl.idxE a b p x == Pl.idxE a b p x) (aIf (Pl.nxtN a b p x == Pl.nxtN a b p x) (aIf (Pl.ofE a b p == Pl.ofE a b p) (some (AEnd.ret (AV.bool true), [])) (some (AEnd.ret (AV.bool false), []))) (some (AEnd.ret (AV.bool false), []))) (some (AEnd.ret (AV.bool false), []))) (some (AEnd.ret (AV.bool false), []))) (some (AEnd.ret (AV.bool false), []))) (some (AEnd.ret (AV.bool false), []))) (some (AEnd.ret (AV.bool false), []))) (some (AEnd.ret (AV.bool false), []))) none) none) none) none) none) none) none) (aIf (Pl.psetB a b p) (aIf (Pl.psetB a b p && Pl.i64B i) (aIf (Pl.psetB a b p && Pl.i64B i) (aIf (Pl.psetB a b p && Pl.psetB a b x) (aIf (Pl.psetB a b p && Pl.psetB a b x) (aIf (Pl.psetB a b p && Pl.psetB a b x) (aIf (Pl.psetB a b p && Pl.psetB a b x) (aIf (0 == Pl.cntN a b p) (aIf (90 == Pl.ofE a b p) (aIf (Pl.atN a b p i == Pl.atN a b p i) (aIf (Pl.atE a b p i == Pl.atE a b p i) (aIf (Pl.idxN a b p x == Pl.idxN a b p x) (aIf (Pl.idxE a b p x == Pl.idxE a b p x) (aIf (Pl.nxtN a b p x == Pl.nxtN a b p x) (aIf (Pl.ofE a b p == Pl.ofE a b p) (some (AEnd.ret (AV.bool true), [])) (some (AEnd.ret (AV.bool false), []))) (some (AEnd.ret (AV.bool false), []))) (some (AEnd.ret (AV.bool false), []))) (some (AEnd.ret (AV.bool false), []))) (some (AEnd.ret (AV.bool false), []))) (some (AEnd.ret (AV.bool false), []))) (some (AEnd.ret (AV.bool false), []))) (some (AEnd.ret (AV.bool false), []))) none) none) none) none) none) none) none)) none := by kernel_rfl
theorem law_holds : ∀ xs, argsV E 4 Try.f10.params.toList xs → S10 xs [] encK = some (.ret (.bool true), []) := by
  intro xs h
  rw [Try.params10] at h
  obtain ⟨x, y, z, rfl, h1, h2, h3⟩ := args3 h
  obtain ⟨a, b, p, rfl, hp⟩ := pset_of h1
  obtain ⟨i, rfl, hi⟩ := intArg h2 argT3 agg3
  obtain ⟨x, rfl, hx⟩ := intArg h3 argT61 agg61
  have hx := rng_u16 hx
  have hi := rng_i64 hi
  have gx : psetB a b x = true := by rw [psetB_iff] at hp ⊢; omega
  have gi : i64B i = true := i64B_iff.2 ⟨hi.1, hi.2⟩
  rw [N10, hp, gx, gi]
  unfold cntN ofE
  cases right a b p <;> simp only [beq_self_eq_true, Bool.and_self, aIf_true, aIf_false, cond_true, cond_false]

theorem law_spec {H : Type} (ds : List (DataW H)) (h : ds.length = Try.f10.params.toList.length) : (Rows.portsetAtSpec.fn H (ds ++ [])).results = [.lit (.bool true)] ∧ (Rows.portsetAtSpec.fn H (ds ++ [])).args = ds ∧ (Rows.portsetAtSpec.fn H (ds ++ [])).vars = [] := by
  rw [Try.params10] at h
  match ds, h with
  | [d0, d1, d2], _ => exact ⟨rfl, rfl, rfl⟩

set_option maxRecDepth 100000 in
theorem law_lifted (os : Os) (started : os.Started) (H : Type) (enc : TypeId × Value → H) :
    ReturnsInHanded {} Try.checked os 10 .any (Rows.portsetAtSpec.pre6 enc Try.prog Try.f10 Rows.portsetAtRow.domain false) (Rows.portsetAtSpec.post enc Try.prog Try.f10 false true false false) := by
  refine returnsInHanded_of_change (C := Try.checked) own started (by kernel_rfl) Try.func10
    (ChangeSpec.witness6 (enc := enc) (C := Try.checked) false ⟨#[], #[.agg #[.int .i64 0, .int .i64 0, .int .u16 0], .int .i64 0, .int .u16 0], []⟩ 8 (by kernel_rfl) (by kernel_rfl) (by kernel_rfl) (by kernel_rfl)) ?_
  intro W base args ds gs before hval hW _ _
  exact law_post (P := Try.prog) (E := E) (D := 4) (tb := 4) (fn := Try.f10) E_ok laidOut (by kernel_rfl) rfl (by kernel_rfl) rfl law_spec S10_ok law_holds (globOK_nil (fun _ => rfl) _) hval hW

theorem portsetAt_holds : Rows.PortsetAtSaid :=
  OpenClaim.holds_of_wide 10 Try.f10 rfl rfl rfl rfl rfl rfl rfl ⟨rfl, rfl, rfl, rfl, rfl⟩ rfl rfl rfl rfl rfl (by kernel_rfl) Try.func10 (by kernel_rfl)
    (of_decide_eq_true (by kernel_rfl)) (by unfold Func.isWrapper; first | (rw [if_pos (by decide +kernel)]; kernel_rfl) | (rw [if_neg (by decide +kernel)]; exact ⟨rfl, rfl⟩))
    (fun os started H enc _ => law_lifted os started H enc)

#print axioms portsetAt_holds

end Go.Proofs.Ytkiipegoooldiaa

