import Derived.Test.YtkiipegoooldiaaFOf
import Derived.Test.YtkiipegoooldiaaA19
import Derived.ProofKit
namespace Go.Proofs.Ytkiipegoooldiaa
open Go.Abs Go.Pl Go.RowKit Go.ChangeShapes Go.WideShapes Go.ChangeAt

theorem own : ownKnob Try.prog.godebug = none := by kernel_rfl
theorem laidOut : laidOutB Try.prog = true := by kernel_rfl

theorem argT63 (xs : List AV) : argT E 4 63 xs = seqP [intT .i64, intT .i64, intT .u16] xs := by kernel_rfl
theorem argT61 (xs : List AV) : argT E 4 61 xs = intT .u16 xs := by kernel_rfl
theorem agg63 : aggT E 63 = true := by kernel_rfl
theorem agg61 : aggT E 61 = false := by kernel_rfl

theorem pset_of {x : AV} (h : argV E 4 63 x) : ∃ a b c, x = .agg [.int .i64 a, .int .i64 b, .int .u16 c] ∧ psetB a b c = true := by
  obtain ⟨zs, rfl, h1⟩ := aggArg h argT63 agg63
  obtain ⟨a, b, c, rfl, ha, hb, hc⟩ := ints3 h1
  have ha := rng_i64 ha
  have hb := rng_i64 hb
  have hc := rng_u16 hc
  exact ⟨a, b, c, rfl, psetB_iff.2 ⟨ha.1, ha.2, hb.1, hb.2, hc.1, hc.2⟩⟩

theorem N13 (a b x p : Int) : S13 [.agg [.int .i64 a, .int .i64 b, .int .u16 p], .int .u16 x] [] (fun e H => some (e, H)) =
  aIf (Pl.psetB a b x)
  (aIf (Pl.psetB a b x)
    (aIf (Pl.psetB a b p && Pl.psetB a b x)
      (aIf (Pl.psetB a b p && Pl.psetB a b x)
        (aIf (Pl.ofN a b x == Pl.ofN a b x)
          (aIf (Pl.ofB a b x == Pl.ofB a b x)
            (aIf (Pl.ofE a b 0 == Pl.ofE a b 0)
              (aIf (Pl.hasB a b p x == Pl.hasB a b p x)
                (aIf (Pl.ofE a b p == Pl.ofE a b p)
                  (aIf (Pl.psetB a b p)
                    (aIf (Pl.psetB a b p)
                      (aIf (Pl.ofE a b p == Pl.ofE a b p) (some (AEnd.ret (AV.bool true), []))
                        (some (AEnd.ret (AV.bool false), [])))
                      none)
                    none)
                  (some (AEnd.ret (AV.bool false), [])))
                (some (AEnd.ret (AV.bool false), [])))
              (some (AEnd.ret (AV.bool false), [])))
            (some (AEnd.ret (AV.bool false), [])))
          (some (AEnd.ret (AV.bool false), [])))
        none)
      none)
    none)
  none := by kernel_rfl

theorem of_holds_law : ∀ xs, argsV E 4 Try.f13.params.toList xs → S13 xs [] (fun e H => some (e, H)) = some (.ret (.bool true), []) := by
  intro xs h
  rw [Try.params13] at h
  obtain ⟨x, y, rfl, h1, h2⟩ := args2 h
  obtain ⟨a, b, p, rfl, hp⟩ := pset_of h1
  obtain ⟨x, rfl, hx⟩ := intArg h2 argT61 agg61
  have hx := rng_u16 hx
  have gx : psetB a b x = true := by rw [psetB_iff] at hp ⊢; omega
  rw [N13, hp, gx]
  simp only [beq_self_eq_true, Bool.and_self, aIf_true]

theorem of_spec {H : Type} (ds : List (DataW H)) (h : ds.length = Try.f13.params.toList.length) : (Rows.portsetOfSpec.fn H (ds ++ [])).results = [.lit (.bool true)] ∧ (Rows.portsetOfSpec.fn H (ds ++ [])).args = ds ∧ (Rows.portsetOfSpec.fn H (ds ++ [])).vars = [] := by
  rw [Try.params13] at h
  match ds, h with
  | [d1, d2], _ => exact ⟨rfl, rfl, rfl⟩

set_option maxRecDepth 100000 in
theorem of_lifted (os : Os) (started : os.Started) (H : Type) (enc : TypeId × Value → H) :
    ReturnsInHanded {} Try.checked os 13 .any (Rows.portsetOfSpec.pre6 enc Try.prog Try.f13 Rows.portsetOfRow.domain false) (Rows.portsetOfSpec.post enc Try.prog Try.f13 false true false false) := by
  refine returnsInHanded_of_change (C := Try.checked) own started (by kernel_rfl) Try.func13
    (ChangeSpec.witness6 (enc := enc) (C := Try.checked) false ⟨#[], #[.agg #[.int .i64 0, .int .i64 0, .int .u16 0], .int .u16 0], []⟩ 8 (by kernel_rfl) (by kernel_rfl) (by kernel_rfl) (by kernel_rfl)) ?_
  intro W base args ds gs before hval hW _ _
  exact law_post (P := Try.prog) (E := E) (D := 4) (tb := 4) (fn := Try.f13) E_ok laidOut (by kernel_rfl) rfl (by kernel_rfl) rfl of_spec S13_ok of_holds_law hval hW

theorem of_holds : Rows.PortsetOfSaid :=
  OpenClaim.holds_of_wide 13 Try.f13 rfl rfl rfl rfl rfl rfl rfl ⟨rfl, rfl, rfl, rfl, rfl⟩ rfl rfl rfl rfl rfl (by kernel_rfl) Try.func13 (by kernel_rfl)
    (of_decide_eq_true (by kernel_rfl)) (by unfold Func.isWrapper; first | (rw [if_pos (by decide +kernel)]; kernel_rfl) | (rw [if_neg (by decide +kernel)]; exact ⟨rfl, rfl⟩))
    (fun os started H enc _ => of_lifted os started H enc)

#print axioms of_holds
end Go.Proofs.Ytkiipegoooldiaa
