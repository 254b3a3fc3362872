/- A port's place is the place at which it stands, and going on from port to port comes back behind all of them. No conditions. -/
import Derived.Test.YtkiipegoooldiaaFPortsetBack
import Derived.Test.YtkiipegoooldiaaA20
import Derived.Test.YtkiipegoooldiaaPPortAns
import Derived.ProofKit
namespace Go.Proofs.Ytkiipegoooldiaa
open Go.Abs Go.Pl Go.RowKit Go.ChangeShapes Go.WideShapes Go.ChangeAt

theorem own : ownKnob Try.prog.godebug = none := by kernel_rfl
theorem laidOut : laidOutB Try.prog = true := by kernel_rfl
theorem argT63 (xs : List AV) : argT E 4 63 xs = seqP [intT .i64, intT .i64, intT .u16] xs := by kernel_rfl
theorem argT61 (xs : List AV) : argT E 4 61 xs = intT .u16 xs := by kernel_rfl
theorem agg63 : aggT E 63 = true := by kernel_rfl
theorem agg61 : aggT E 61 = false := by kernel_rfl

theorem argT3 (xs : List AV) : argT E 4 3 xs = intT .i64 xs := by kernel_rfl
theorem agg3 : aggT E 3 = false := by kernel_rfl

theorem pset_of {x : AV} (h : argV E 4 63 x) : ∃ a b c, x = .agg [.int .i64 a, .int .i64 b, .int .u16 c] ∧ psetB a b c = true := by
  obtain ⟨zs, rfl, h1⟩ := aggArg h argT63 agg63
  obtain ⟨a, b, c, rfl, ha, hb, hc⟩ := ints3 h1
  have ha := rng_i64 ha
  have hb := rng_i64 hb
  have hc := rng_u16 hc
  exact ⟨a, b, c, rfl, psetB_iff.2 ⟨ha.1, ha.2, hb.1, hb.2, hc.1, hc.2⟩⟩

theorem N11 (a b p i : Int) : S11 [.agg [.int .i64 a, .int .i64 b, .int .u16 p], .int .i64 i] [] encK =
  aIf (Pl.psetB a b p) (aIf (Pl.right a b p) (aIf (Pl.psetB a b p && Pl.i64B i) (aIf (Pl.atE a b p i != 0) (some (AEnd.ret (AV.bool true), [])) (aIf (Pl.psetB a b p && Pl.psetB a b (Pl.atN a b p i)) (aIf (Pl.psetB a b p && Pl.psetB a b (Pl.atN a b p i)) (aIf (Pl.right a b p) (aIf (Pl.idxE a b p (Pl.atN a b p i) != 0) (some (AEnd.ret (AV.bool false), [])) (aIf (Pl.idxN a b p (Pl.atN a b p i) != i) (some (AEnd.ret (AV.bool false), [])) (aIf (!(Pl.mine a (Pl.atN a b p i) && Pl.psid a b (Pl.atN a b p i) == p)) (some (AEnd.ret (AV.bool false), [])) (aIf (decide (Pl.count a b > 300)) (some (AEnd.ret (AV.bool true), [])) (aIf (Pl.psetB a b p && Pl.right a b p && Pl.inN a b i && Pl.count a b == Pl.count a b && Pl.atN a b p i == Pl.atN a b p i && Pl.atN a b p i == Pl.atN a b p i && true) (aIf (Pl.atN a b p i == Pl.atN a b p i) (some (AEnd.ret (AV.bool true), [])) (some (AEnd.ret (AV.bool false), []))) none))))) (aIf (Pl.idxE a b p (Pl.atN a b p i) != 0) (some (AEnd.ret (AV.bool false), [])) (some (AEnd.ret (AV.bool false), [])))) none) none)) none) (aIf (Pl.psetB a b p && Pl.i64B i) (aIf (Pl.atE a b p i == 90) (some (AEnd.ret (AV.bool true), [])) (some (AEnd.ret (AV.bool false), []))) none)) none := by kernel_rfl
theorem law_holds : ∀ xs, argsV E 4 Try.f11.params.toList xs → S11 xs [] encK = some (.ret (.bool true), []) := by
  intro xs h
  rw [Try.params11] at h
  obtain ⟨x, y, rfl, h1, h2⟩ := args2 h
  obtain ⟨a, b, p, rfl, hp⟩ := pset_of h1
  obtain ⟨i, rfl, hi⟩ := intArg h2 argT3 agg3
  have hi := rng_i64 hi
  have gi : i64B i = true := i64B_iff.2 ⟨hi.1, hi.2⟩
  rw [N11, hp, gi]
  refine Eq.trans (aIf_pos rfl) ?_
  cases hr : right a b p with
  | false =>
    have eF : atE a b p i = 90 := by unfold atE; rw [hr]; rfl
    rw [eF]
    simp only [aIf_false, Bool.and_self, aIf_true, beq_self_eq_true]
  | true =>
    refine Eq.trans (aIf_pos rfl) ?_
    refine Eq.trans (aIf_pos rfl) ?_
    obtain ⟨a, b, p, rfl, rfl, rfl, ha, hb, hpb⟩ := right_nats hp hr
    cases hn : inN (a : Int) (b : Int) i with
    | false =>
      have eF : atE (a : Int) (b : Int) (p : Int) i = 5 := by unfold atE; rw [hr, hn]; rfl
      rw [eF]
      exact aIf_pos (by rfl)
    | true =>
      have eF : atE (a : Int) (b : Int) (p : Int) i = 0 := by unfold atE; rw [hr, hn]; rfl
      have hi0 : 0 ≤ i := by unfold inN at hn; simp at hn; omega
      obtain ⟨i, rfl⟩ := Int.eq_ofNat_of_zero_le hi0
      have hin : i < nP a b := by rw [inN_nat ha hb] at hn; simpa using hn
      have hA : atN (a : Int) (b : Int) (p : Int) (i : Int) = (atP a b p i : Int) := by
        unfold atN
        rw [hr, hn]; rfl
      have hq := at_lt hb hpb hin
      have hpq := psetB_nat ha hb (show atP a b p i ≤ 65535 by omega)
      have eH : hasB (a : Int) (b : Int) (p : Int) ((atP a b p i : Nat) : Int) = true := by rw [has_nat hr]; exact (idx_at hb hpb _).2
      have eH2 : (mine (a : Int) ((atP a b p i : Nat) : Int) && psid (a : Int) (b : Int) ((atP a b p i : Nat) : Int) == (p : Int)) = true := by
        have := eH
        unfold hasB at this
        rw [hr, Bool.true_and] at this
        exact this
      have eI : idxN (a : Int) (b : Int) (p : Int) ((atP a b p i : Nat) : Int) = (i : Int) := by
        unfold idxN
        rw [eH]
        show ((idxP a b (atP a b p i) : Nat) : Int) = _
        rw [(idx_at hb hpb _).1]
      have eG : idxE (a : Int) (b : Int) (p : Int) ((atP a b p i : Nat) : Int) = 0 := by unfold idxE; rw [hr, eH]; rfl
      rw [eF, hA, hpq, eG, eI, eH2]
      simp only [bne_self_eq_false, aIf_false, beq_self_eq_true, Bool.and_self, aIf_true, Bool.not_true]
      cases decide (count (a : Int) (b : Int) > 300) <;> rfl

theorem law_spec {H : Type} (ds : List (DataW H)) (h : ds.length = Try.f11.params.toList.length) : (Rows.portsetBackSpec.fn H (ds ++ [])).results = [.lit (.bool true)] ∧ (Rows.portsetBackSpec.fn H (ds ++ [])).args = ds ∧ (Rows.portsetBackSpec.fn H (ds ++ [])).vars = [] := by
  rw [Try.params11] at h
  match ds, h with
  | [d0, d1], _ => exact ⟨rfl, rfl, rfl⟩

set_option maxRecDepth 100000 in
theorem law_lifted (os : Os) (started : os.Started) (H : Type) (enc : TypeId × Value → H) :
    ReturnsInHanded {} Try.checked os 11 .any (Rows.portsetBackSpec.pre6 enc Try.prog Try.f11 Rows.portsetBackRow.domain false) (Rows.portsetBackSpec.post enc Try.prog Try.f11 false true false false) := by
  refine returnsInHanded_of_change (C := Try.checked) own started (by kernel_rfl) Try.func11
    (ChangeSpec.witness6 (enc := enc) (C := Try.checked) false ⟨#[], #[.agg #[.int .i64 0, .int .i64 0, .int .u16 0], .int .i64 0], []⟩ 8 (by kernel_rfl) (by kernel_rfl) (by kernel_rfl) (by kernel_rfl)) ?_
  intro W base args ds gs before hval hW _ _
  exact law_post (P := Try.prog) (E := E) (D := 4) (tb := 4) (fn := Try.f11) E_ok laidOut (by kernel_rfl) rfl (by kernel_rfl) rfl law_spec S11_ok law_holds (globOK_nil (fun _ => rfl) _) hval hW

theorem portsetBack_holds : Rows.PortsetBackSaid :=
  OpenClaim.holds_of_wide 11 Try.f11 rfl rfl rfl rfl rfl rfl rfl ⟨rfl, rfl, rfl, rfl, rfl⟩ rfl rfl rfl rfl rfl (by kernel_rfl) Try.func11 (by kernel_rfl)
    (of_decide_eq_true (by kernel_rfl)) (by unfold Func.isWrapper; first | (rw [if_pos (by decide +kernel)]; kernel_rfl) | (rw [if_neg (by decide +kernel)]; exact ⟨rfl, rfl⟩))
    (fun os started H enc _ => law_lifted os started H enc)

#print axioms portsetBack_holds

end Go.Proofs.Ytkiipegoooldiaa

