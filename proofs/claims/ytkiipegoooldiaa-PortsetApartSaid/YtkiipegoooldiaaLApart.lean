import Derived.Test.YtkiipegoooldiaaFApart
import Derived.Test.YtkiipegoooldiaaA19
import Derived.ProofKit
namespace Go.Proofs.Ytkiipegoooldiaa
open Go.Abs Go.Pl Go.RowKit Go.ChangeShapes Go.WideShapes Go.ChangeAt

theorem own : ownKnob Try.prog.godebug = none := by kernel_rfl
theorem laidOut : laidOutB Try.prog = true := by kernel_rfl

theorem argT63 (xs : List AV) : argT E 4 63 xs = seqP [intT .i64, intT .i64, intT .u16] xs := by kernel_rfl
theorem argT61 (xs : List AV) : argT E 4 61 xs = intT .u16 xs := by kernel_rfl
theorem agg63 : aggT E 63 = true := by kernel_rfl
theorem agg61 : aggT E 61 = false := by kernel_rfl

theorem pset_of {x : AV} (h : argV E 4 63 x) : ∃ a b c, x = .agg [.int .i64 a, .int .i64 b, .int .u16 c] ∧ psetB a b c = true := by
  obtain ⟨zs, rfl, h1⟩ := aggArg h argT63 agg63
  obtain ⟨a, b, c, rfl, ha, hb, hc⟩ := ints3 h1
  have ha := rng_i64 ha
  have hb := rng_i64 hb
  have hc := rng_u16 hc
  exact ⟨a, b, c, rfl, psetB_iff.2 ⟨ha.1, ha.2, hb.1, hb.2, hc.1, hc.2⟩⟩

theorem N9 (a b x p q : Int) : S9 [.agg [.int .i64 a, .int .i64 b, .int .u16 p], .int .u16 q, .int .u16 x] [] (fun e H => some (e, H)) =
  aIf (Pl.psetB a b p && Pl.psetB a b x)
  (aIf (Pl.right a b p)
    (aIf (Pl.psetB a b q && Pl.psetB a b x)
      (aIf (Pl.right a b q)
        (aIf (Pl.psetB a b x)
          (aIf (Pl.right a b 0)
            (aIf (Pl.mine a x)
              (aIf (!(Pl.mine a x && Pl.psid a b x == p))
                (aIf ((Pl.mine a x && Pl.psid a b x == p) == (Pl.psid a b x == p)) (some (AEnd.ret (AV.bool true), []))
                  (some (AEnd.ret (AV.bool false), [])))
                (aIf (!(Pl.mine a x && Pl.psid a b x == q))
                  (aIf ((Pl.mine a x && Pl.psid a b x == p) == (Pl.psid a b x == p))
                    (some (AEnd.ret (AV.bool true), [])) (some (AEnd.ret (AV.bool false), [])))
                  (aIf (p == q)
                    (aIf ((Pl.mine a x && Pl.psid a b x == p) == (Pl.psid a b x == p))
                      (some (AEnd.ret (AV.bool true), [])) (some (AEnd.ret (AV.bool false), [])))
                    (some (AEnd.ret (AV.bool false), [])))))
              (aIf (!(Pl.mine a x && Pl.psid a b x == p))
                (aIf ((Pl.mine a x && Pl.psid a b x == p) == false) (some (AEnd.ret (AV.bool true), []))
                  (some (AEnd.ret (AV.bool false), [])))
                (aIf (!(Pl.mine a x && Pl.psid a b x == q))
                  (aIf ((Pl.mine a x && Pl.psid a b x == p) == false) (some (AEnd.ret (AV.bool true), []))
                    (some (AEnd.ret (AV.bool false), [])))
                  (aIf (p == q)
                    (aIf ((Pl.mine a x && Pl.psid a b x == p) == false) (some (AEnd.ret (AV.bool true), []))
                      (some (AEnd.ret (AV.bool false), [])))
                    (some (AEnd.ret (AV.bool false), []))))))
            (some (AEnd.ret (AV.bool false), [])))
          none)
        (some (AEnd.ret (AV.bool true), [])))
      none)
    (aIf (Pl.psetB a b q && Pl.psetB a b x)
      (aIf (Pl.right a b q) (some (AEnd.ret (AV.bool true), [])) (some (AEnd.ret (AV.bool true), []))) none))
  none := by kernel_rfl

theorem apart_law : ∀ xs, argsV E 4 Try.f9.params.toList xs → S9 xs [] (fun e H => some (e, H)) = some (.ret (.bool true), []) := by
  intro xs h
  rw [Try.params9] at h
  obtain ⟨x, y, z, rfl, h1, h2, h3⟩ := args3 h
  obtain ⟨a, b, p, rfl, hp⟩ := pset_of h1
  obtain ⟨q, rfl, hq⟩ := intArg h2 argT61 agg61
  obtain ⟨x, rfl, hx⟩ := intArg h3 argT61 agg61
  have hq := rng_u16 hq
  have hx := rng_u16 hx
  have gq : psetB a b q = true := by rw [psetB_iff] at hp ⊢; omega
  have gx : psetB a b x = true := by rw [psetB_iff] at hp ⊢; omega
  rw [N9, hp, gq, gx]
  cases h1 : right a b p <;> cases h2 : right a b q <;> (try rfl)
  rw [right_zero h1]
  cases h3 : mine a x
  · rfl
  · cases h4 : psid a b x == p <;> cases h5 : psid a b x == q <;> (try rfl)
    have e1 : psid a b x = p := by simpa using h4
    have e2 : psid a b x = q := by simpa using h5
    have : (p == q) = true := by simp [← e1, ← e2]
    rw [this]
    rfl

theorem apart_spec {H : Type} (ds : List (DataW H)) (h : ds.length = Try.f9.params.toList.length) : (Rows.portsetApartSpec.fn H (ds ++ [])).results = [.lit (.bool true)] ∧ (Rows.portsetApartSpec.fn H (ds ++ [])).args = ds ∧ (Rows.portsetApartSpec.fn H (ds ++ [])).vars = [] := by
  rw [Try.params9] at h
  match ds, h with
  | [d1, d2, d3], _ => exact ⟨rfl, rfl, rfl⟩

set_option maxRecDepth 100000 in
theorem apart_lifted (os : Os) (started : os.Started) (H : Type) (enc : TypeId × Value → H) :
    ReturnsInHanded {} Try.checked os 9 .any (Rows.portsetApartSpec.pre6 enc Try.prog Try.f9 Rows.portsetApartRow.domain false) (Rows.portsetApartSpec.post enc Try.prog Try.f9 false true false false) := by
  refine returnsInHanded_of_change (C := Try.checked) own started (by kernel_rfl) Try.func9
    (ChangeSpec.witness6 (enc := enc) (C := Try.checked) false ⟨#[], #[.agg #[.int .i64 0, .int .i64 0, .int .u16 0], .int .u16 0, .int .u16 0], []⟩ 8 (by kernel_rfl) (by kernel_rfl) (by kernel_rfl) (by kernel_rfl)) ?_
  intro W base args ds gs before hval hW _ _
  exact law_post (P := Try.prog) (E := E) (D := 4) (tb := 4) (fn := Try.f9) E_ok laidOut (by kernel_rfl) rfl (by kernel_rfl) rfl apart_spec S9_ok apart_law hval hW

theorem apart_holds : Rows.PortsetApartSaid :=
  OpenClaim.holds_of_wide 9 Try.f9 rfl rfl rfl rfl rfl rfl rfl ⟨rfl, rfl, rfl, rfl, rfl⟩ rfl rfl rfl rfl rfl (by kernel_rfl) Try.func9 (by kernel_rfl)
    (of_decide_eq_true (by kernel_rfl)) (by unfold Func.isWrapper; first | (rw [if_pos (by decide +kernel)]; kernel_rfl) | (rw [if_neg (by decide +kernel)]; exact ⟨rfl, rfl⟩))
    (fun os started H enc _ => apart_lifted os started H enc)

#print axioms apart_holds
end Go.Proofs.Ytkiipegoooldiaa
