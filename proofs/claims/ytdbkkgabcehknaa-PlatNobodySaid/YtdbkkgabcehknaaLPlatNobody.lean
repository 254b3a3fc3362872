/- A table that nobody made refuses all. No conditions. -/
import Derived.Test.YtdbkkgabcehknaaFPlatNobody
import Derived.Test.YtdbkkgabcehknaaA20
import Derived.Test.YtdbkkgabcehknaaPPlatArg
import Derived.ProofKit
namespace Go.Proofs.Ytdbkkgabcehknaa
open Go.Abs Go.Pl Go.RowKit Go.ChangeShapes Go.WideShapes Go.ChangeAt

theorem own : ownKnob Try.prog.godebug = none := by kernel_rfl
theorem laidOut : laidOutB Try.prog = true := by kernel_rfl
theorem argT3 (xs : List AV) : argT E 4 3 xs = intT .i64 xs := by kernel_rfl
theorem agg3 : aggT E 3 = false := by kernel_rfl
theorem argT41 (xs : List AV) : argT E 4 41 xs = f6T xs := by kernel_rfl
theorem agg41 : aggT E 41 = true := by kernel_rfl
theorem argT43 (xs : List AV) : argT E 4 43 xs = f4T xs := by kernel_rfl
theorem agg43 : aggT E 43 = true := by kernel_rfl

theorem N6 (n p : Int) (x : Nat → Int) (s : Int) (y : Nat → Int) (d p1 : Int) (x1 : Nat → Int) (s1 : Int) (y1 : Nat → Int) (d1 : Int) : S6 [.int .i64 n, .agg [.int .u8 p, .int .u8 (x 0), .int .u8 (x 1), .int .u8 (x 2), .int .u8 (x 3), .int .u8 (x 4), .int .u8 (x 5), .int .u8 (x 6), .int .u8 (x 7), .int .u8 (x 8), .int .u8 (x 9), .int .u8 (x 10), .int .u8 (x 11), .int .u8 (x 12), .int .u8 (x 13), .int .u8 (x 14), .int .u8 (x 15), .int .u16 s, .int .u8 (y 0), .int .u8 (y 1), .int .u8 (y 2), .int .u8 (y 3), .int .u16 d], .agg [.int .u8 p1, .int .u8 (x1 0), .int .u8 (x1 1), .int .u8 (x1 2), .int .u8 (x1 3), .int .u16 s1, .int .u8 (y1 0), .int .u8 (y1 1), .int .u8 (y1 2), .int .u8 (y1 3), .int .u16 d1]] [] encK =
  some (AEnd.ret (AV.bool true), []) := by kernel_rfl
theorem law_holds : ∀ xs, argsV E 4 Try.f6.params.toList xs → S6 xs [] encK = some (.ret (.bool true), []) := by
  intro xs h
  rw [Try.params6] at h
  obtain ⟨a, b, c, rfl, h1, h2, h3⟩ := args3 h
  obtain ⟨n, rfl, hn⟩ := intArg h1 argT3 agg3
  obtain ⟨zs, rfl, hq⟩ := aggArg h2 argT41 agg41
  obtain ⟨p, x, s, y, d, _, _, _, _, _, rfl⟩ := f6_of hq
  obtain ⟨zs, rfl, hq⟩ := aggArg h3 argT43 agg43
  obtain ⟨p1, x1, s1, y1, d1, _, _, _, _, _, rfl⟩ := f4_of hq
  rw [N6]

theorem law_spec {H : Type} (ds : List (DataW H)) (h : ds.length = Try.f6.params.toList.length) : (Rows.platNobodySpec.fn H (ds ++ [])).results = [.lit (.bool true)] ∧ (Rows.platNobodySpec.fn H (ds ++ [])).args = ds ∧ (Rows.platNobodySpec.fn H (ds ++ [])).vars = [] := by
  rw [Try.params6] at h
  match ds, h with
  | [d0, d1, d2], _ => exact ⟨rfl, rfl, rfl⟩

set_option maxRecDepth 100000 in
theorem law_lifted (os : Os) (started : os.Started) (H : Type) (enc : TypeId × Value → H) :
    ReturnsInHanded {} Try.checked os 6 .any (Rows.platNobodySpec.pre6 enc Try.prog Try.f6 Rows.platNobodyRow.domain false) (Rows.platNobodySpec.post enc Try.prog Try.f6 false true false false) := by
  refine returnsInHanded_of_change (C := Try.checked) own started (by kernel_rfl) Try.func6
    (ChangeSpec.witness6 (enc := enc) (C := Try.checked) false ⟨#[], #[.int .i64 0, .agg #[.int .u8 0, .int .u8 0, .int .u8 0, .int .u8 0, .int .u8 0, .int .u8 0, .int .u8 0, .int .u8 0, .int .u8 0, .int .u8 0, .int .u8 0, .int .u8 0, .int .u8 0, .int .u8 0, .int .u8 0, .int .u8 0, .int .u8 0, .int .u16 0, .int .u8 0, .int .u8 0, .int .u8 0, .int .u8 0, .int .u16 0], .agg #[.int .u8 0, .int .u8 0, .int .u8 0, .int .u8 0, .int .u8 0, .int .u16 0, .int .u8 0, .int .u8 0, .int .u8 0, .int .u8 0, .int .u16 0]], []⟩ 8 (by kernel_rfl) (by kernel_rfl) (by kernel_rfl) (by kernel_rfl)) ?_
  intro W base args ds gs before hval hW _ _
  exact law_post (P := Try.prog) (E := E) (D := 4) (tb := 4) (fn := Try.f6) E_ok laidOut (by kernel_rfl) rfl (by kernel_rfl) rfl law_spec S6_ok law_holds (globOK_nil (fun _ => rfl) _) hval hW

theorem platNobody_holds : Rows.PlatNobodySaid :=
  OpenClaim.holds_of_wide 6 Try.f6 rfl rfl rfl rfl rfl rfl rfl ⟨rfl, rfl, rfl, rfl, rfl⟩ rfl rfl rfl rfl rfl (by kernel_rfl) Try.func6 (by kernel_rfl)
    (of_decide_eq_true (by kernel_rfl)) (by unfold Func.isWrapper; first | (rw [if_pos (by decide +kernel)]; kernel_rfl) | (rw [if_neg (by decide +kernel)]; exact ⟨rfl, rfl⟩))
    (fun os started H enc _ => law_lifted os started H enc)

#print axioms platNobody_holds

end Go.Proofs.Ytdbkkgabcehknaa

