/- The runs of ports of each set: the program answers as the document does. No conditions. -/
import Derived.Test.YtkiipegoooldiaaFPortsetRuns
import Derived.Test.YtkiipegoooldiaaA20
import Derived.Test.YtkiipegoooldiaaPPortAns
import Derived.ProofKit
namespace Go.Proofs.Ytkiipegoooldiaa
open Go.Abs Go.Pl Go.RowKit Go.ChangeShapes Go.WideShapes Go.ChangeAt

theorem own : ownKnob Try.prog.godebug = none := by kernel_rfl
theorem laidOut : laidOutB Try.prog = true := by kernel_rfl
theorem argT63 (xs : List AV) : argT E 4 63 xs = seqP [intT .i64, intT .i64, intT .u16] xs := by kernel_rfl
theorem argT61 (xs : List AV) : argT E 4 61 xs = intT .u16 xs := by kernel_rfl
theorem agg63 : aggT E 63 = true := by kernel_rfl
theorem agg61 : aggT E 61 = false := by kernel_rfl

theorem argT3 (xs : List AV) : argT E 4 3 xs = intT .i64 xs := by kernel_rfl
theorem agg3 : aggT E 3 = false := by kernel_rfl

theorem pset_of {x : AV} (h : argV E 4 63 x) : ∃ a b c, x = .agg [.int .i64 a, .int .i64 b, .int .u16 c] ∧ psetB a b c = true := by
  obtain ⟨zs, rfl, h1⟩ := aggArg h argT63 agg63
  obtain ⟨a, b, c, rfl, ha, hb, hc⟩ := ints3 h1
  have ha := rng_i64 ha
  have hb := rng_i64 hb
  have hc := rng_u16 hc
  exact ⟨a, b, c, rfl, psetB_iff.2 ⟨ha.1, ha.2, hb.1, hb.2, hc.1, hc.2⟩⟩

theorem N14 (a b p : Int) : S14 [.agg [.int .i64 a, .int .i64 b, .int .u16 p]] [] encK =
  aIf (Pl.psetB a b p) (aIf (Pl.psetB a b p) (aIf ((↑(Pl.runsV a b p).length : Int) != (↑(Pl.runsV a b p).length : Int)) (some (AEnd.ret (AV.bool false), [])) (aIf (true && Pl.portsB (Pl.runsV a b p) && Pl.portsB (Pl.runsV a b p) && (Pl.runsV a b p).length == (Pl.runsV a b p).length && decide ((Pl.runsV a b p).length ≤ 1000000)) (aIf (Pl.noneB (Pl.pairNe (Pl.runsV a b p) (Pl.runsV a b p)) (Pl.runsV a b p).length 0) (aIf (Pl.ofE a b p == Pl.ofE a b p) (some (AEnd.ret (AV.bool true), [])) (some (AEnd.ret (AV.bool false), []))) (some (AEnd.ret (AV.bool false), []))) none)) none) none := by kernel_rfl
theorem law_holds : ∀ xs, argsV E 4 Try.f14.params.toList xs → S14 xs [] encK = some (.ret (.bool true), []) := by
  intro xs h
  rw [Try.params14] at h
  obtain ⟨x, rfl, h1⟩ := args1 h
  obtain ⟨a, b, p, rfl, hp⟩ := pset_of h1
  rw [N14, hp]
  obtain ⟨h2, h3⟩ := runsV_ok hp
  rw [h2, decide_eq_true h3, pairNe_self]
  simp only [beq_self_eq_true, Bool.and_self, aIf_true, bne_self_eq_false, aIf_false]

theorem law_spec {H : Type} (ds : List (DataW H)) (h : ds.length = Try.f14.params.toList.length) : (Rows.portsetRunsSpec.fn H (ds ++ [])).results = [.lit (.bool true)] ∧ (Rows.portsetRunsSpec.fn H (ds ++ [])).args = ds ∧ (Rows.portsetRunsSpec.fn H (ds ++ [])).vars = [] := by
  rw [Try.params14] at h
  match ds, h with
  | [d0], _ => exact ⟨rfl, rfl, rfl⟩

set_option maxRecDepth 100000 in
theorem law_lifted (os : Os) (started : os.Started) (H : Type) (enc : TypeId × Value → H) :
    ReturnsInHanded {} Try.checked os 14 .any (Rows.portsetRunsSpec.pre6 enc Try.prog Try.f14 Rows.portsetRunsRow.domain false) (Rows.portsetRunsSpec.post enc Try.prog Try.f14 false true false false) := by
  refine returnsInHanded_of_change (C := Try.checked) own started (by kernel_rfl) Try.func14
    (ChangeSpec.witness6 (enc := enc) (C := Try.checked) false ⟨#[], #[.agg #[.int .i64 0, .int .i64 0, .int .u16 0]], []⟩ 8 (by kernel_rfl) (by kernel_rfl) (by kernel_rfl) (by kernel_rfl)) ?_
  intro W base args ds gs before hval hW _ _
  exact law_post (P := Try.prog) (E := E) (D := 4) (tb := 4) (fn := Try.f14) E_ok laidOut (by kernel_rfl) rfl (by kernel_rfl) rfl law_spec S14_ok law_holds (globOK_nil (fun _ => rfl) _) hval hW

theorem portsetRuns_holds : Rows.PortsetRunsSaid :=
  OpenClaim.holds_of_wide 14 Try.f14 rfl rfl rfl rfl rfl rfl rfl ⟨rfl, rfl, rfl, rfl, rfl⟩ rfl rfl rfl rfl rfl (by kernel_rfl) Try.func14 (by kernel_rfl)
    (of_decide_eq_true (by kernel_rfl)) (by unfold Func.isWrapper; first | (rw [if_pos (by decide +kernel)]; kernel_rfl) | (rw [if_neg (by decide +kernel)]; exact ⟨rfl, rfl⟩))
    (fun os started H enc _ => law_lifted os started H enc)

#print axioms portsetRuns_holds

end Go.Proofs.Ytkiipegoooldiaa

