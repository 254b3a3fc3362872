import Derived.Test.YtkiipegoooldiaaFMany
import Derived.Test.YtkiipegoooldiaaA19
import Derived.ProofKit
namespace Go.Proofs.Ytkiipegoooldiaa
open Go.Abs Go.Pl Go.RowKit Go.ChangeShapes Go.WideShapes Go.ChangeAt

theorem own : ownKnob Try.prog.godebug = none := by kernel_rfl
theorem laidOut : laidOutB Try.prog = true := by kernel_rfl

theorem argT63 (xs : List AV) : argT E 4 63 xs = seqP [intT .i64, intT .i64, intT .u16] xs := by kernel_rfl
theorem argT61 (xs : List AV) : argT E 4 61 xs = intT .u16 xs := by kernel_rfl
theorem argT3 (xs : List AV) : argT E 4 3 xs = intT .i64 xs := by kernel_rfl
theorem agg63 : aggT E 63 = true := by kernel_rfl
theorem agg61 : aggT E 61 = false := by kernel_rfl
theorem agg3 : aggT E 3 = false := by kernel_rfl

theorem pset_of {x : AV} (h : argV E 4 63 x) : ∃ a b c, x = .agg [.int .i64 a, .int .i64 b, .int .u16 c] ∧ psetB a b c = true := by
  obtain ⟨zs, rfl, h1⟩ := aggArg h argT63 agg63
  obtain ⟨a, b, c, rfl, ha, hb, hc⟩ := ints3 h1
  have ha := rng_i64 ha
  have hb := rng_i64 hb
  have hc := rng_u16 hc
  refine ⟨a, b, c, rfl, ?_⟩
  simp only [psetB, Bool.and_eq_true, decide_eq_true_eq]
  omega

theorem N12 (a b x y : Int) : S12 [.agg [.int .i64 a, .int .i64 b, .int .u16 x], .int .u16 y] [] (fun e H => some (e, H)) =
  aIf (psetB a b x)
  (aIf (right a b x)
    (aIf (psetB a b y)
      (aIf (right a b y)
        (aIf (count a b == count a b)
          (aIf (decide (count a b > 0)) (some (AEnd.ret (AV.bool true), [])) (some (AEnd.ret (AV.bool false), [])))
          (some (AEnd.ret (AV.bool false), [])))
        (aIf (IntKind.i64.wrap (count a b * 0) == 0) (some (AEnd.ret (AV.bool true), []))
          (some (AEnd.ret (AV.bool false), []))))
      none)
    (aIf (psetB a b y)
      (aIf (right a b y)
        (aIf (IntKind.i64.wrap (0 * count a b) == 0) (some (AEnd.ret (AV.bool true), []))
          (some (AEnd.ret (AV.bool false), [])))
        (some (AEnd.ret (AV.bool true), [])))
      none))
  none := by kernel_rfl

theorem many_law : ∀ xs, argsV E 4 Try.f12.params.toList xs → S12 xs [] (fun e H => some (e, H)) = some (.ret (.bool true), []) := by
  intro xs h
  rw [Try.params12] at h
  obtain ⟨x, y, rfl, h1, h2⟩ := args2 h
  obtain ⟨a, b, c, rfl, hp⟩ := pset_of h1
  obtain ⟨d, rfl, hd⟩ := intArg h2 argT61 agg61
  have hd := rng_u16 hd
  have hq : psetB a b d = true := by
    simp only [psetB, Bool.and_eq_true, decide_eq_true_eq] at hp ⊢
    omega
  rw [N12, aIf_pos hp]
  have w0 : IntKind.i64.wrap 0 = 0 := rfl
  cases h1 : right a b c <;> cases h2 : right a b d <;> simp only [hq, Int.mul_zero, Int.zero_mul, w0, beq_self_eq_true] <;> (try rfl)
  have := (count_pos h1).1
  have h3 : decide (count a b > 0) = true := by simp; omega
  rw [h3]
  rfl

theorem many_spec {H : Type} (ds : List (DataW H)) (h : ds.length = Try.f12.params.toList.length) : (Rows.portsetManySpec.fn H (ds ++ [])).results = [.lit (.bool true)] ∧ (Rows.portsetManySpec.fn H (ds ++ [])).args = ds ∧ (Rows.portsetManySpec.fn H (ds ++ [])).vars = [] := by
  rw [Try.params12] at h
  match ds, h with
  | [d1, d2], _ => exact ⟨rfl, rfl, rfl⟩

set_option maxRecDepth 100000 in
theorem many_lifted (os : Os) (started : os.Started) (H : Type) (enc : TypeId × Value → H) :
    ReturnsInHanded {} Try.checked os 12 .any (Rows.portsetManySpec.pre6 enc Try.prog Try.f12 Rows.portsetManyRow.domain false) (Rows.portsetManySpec.post enc Try.prog Try.f12 false true false false) := by
  refine returnsInHanded_of_change (C := Try.checked) own started (by kernel_rfl) Try.func12
    (ChangeSpec.witness6 (enc := enc) (C := Try.checked) false ⟨#[], #[.agg #[.int .i64 0, .int .i64 0, .int .u16 0], .int .u16 0], []⟩ 8 (by kernel_rfl) (by kernel_rfl) (by kernel_rfl) (by kernel_rfl)) ?_
  intro W base args ds gs before hval hW _ _
  exact law_post (P := Try.prog) (E := E) (D := 4) (tb := 4) (fn := Try.f12) E_ok laidOut (by kernel_rfl) rfl (by kernel_rfl) rfl many_spec S12_ok many_law hval hW

theorem many_holds : Rows.PortsetManySaid :=
  OpenClaim.holds_of_wide 12 Try.f12 rfl rfl rfl rfl rfl rfl rfl ⟨rfl, rfl, rfl, rfl, rfl⟩ rfl rfl rfl rfl rfl (by kernel_rfl) Try.func12 (by kernel_rfl)
    (of_decide_eq_true (by kernel_rfl)) (by unfold Func.isWrapper; first | (rw [if_pos (by decide +kernel)]; kernel_rfl) | (rw [if_neg (by decide +kernel)]; exact ⟨rfl, rfl⟩))
    (fun os started H enc _ => many_lifted os started H enc)

#print axioms many_holds
end Go.Proofs.Ytkiipegoooldiaa
