/- The fragments of every datagram, or why there are none: the program answers as the document does. No conditions. -/
import Derived.Test.YtohfnoepdbkkeaaFSplitSplits
import Derived.Test.YtohfnoepdbkkeaaA20
import Derived.Test.YtohfnoepdbkkeaaPV4Arg
import Derived.ProofKit
namespace Go.Proofs.Ytohfnoepdbkkeaa
open Go.Abs Go.Pl Go.RowKit Go.ChangeShapes Go.WideShapes Go.ChangeAt

theorem own : ownKnob Try.prog.godebug = none := by kernel_rfl
theorem laidOut : laidOutB Try.prog = true := by kernel_rfl
theorem argT3 (xs : List AV) : argT E 4 3 xs = intT .i64 xs := by kernel_rfl
theorem agg3 : aggT E 3 = false := by kernel_rfl
theorem argT30 (xs : List AV) : argT E 4 30 xs = v4T xs := by kernel_rfl
theorem agg30 : aggT E 30 = true := by kernel_rfl

theorem N7 (t i : Int) (df mf : Bool) (off l q s0 s1 s2 s3 d0 d1 d2 d3 : Int) (os : List AV) (of : SF) (bs : List AV) (bf : SF) (m : Int) : S7 [.agg [.int .u8 t, .int .u16 i, .bool df, .bool mf, .int .i64 off, .int .u8 l, .int .u8 q, .int .u8 s0, .int .u8 s1, .int .u8 s2, .int .u8 s3, .int .u8 d0, .int .u8 d1, .int .u8 d2, .int .u8 d3, .fs 1 os of, .fs 1 bs bf], .int .i64 m] [] encK =
  aIf (intsB IntKind.u8 (List.take 100 os) && decide ((List.take 100 os).length ≤ 100) && decide ((List.take 70000 bs).length ≤ 70000) && decide (-9223372036854775808 ≤ off) && decide (off ≤ 9223372036854775807) && decide (-9223372036854775808 ≤ m) && decide (m ≤ 9223372036854775807) && intsB IntKind.u8 (List.take 70000 bs) && Pl.okF (List.take 100 os) of && Pl.okF (List.take 70000 bs) bf) (aIf (intsB IntKind.u8 (List.take 100 os) && decide ((List.take 100 os).length ≤ 100) && decide ((List.take 70000 bs).length ≤ 70000) && decide (-9223372036854775808 ≤ off) && decide (off ≤ 9223372036854775807) && decide (-9223372036854775808 ≤ m) && decide (m ≤ 9223372036854775807) && intsB IntKind.u8 (List.take 70000 bs) && Pl.okF (List.take 100 os) of && Pl.okF (List.take 70000 bs) bf) (aIf (intsB IntKind.u8 (List.take 100 os) && decide ((List.take 100 os).length ≤ 100) && decide ((List.take 70000 bs).length ≤ 70000) && decide (-9223372036854775808 ≤ off) && decide (off ≤ 9223372036854775807) && decide (-9223372036854775808 ≤ m) && decide (m ≤ 9223372036854775807) && intsB IntKind.u8 (List.take 70000 bs) && Pl.okF (List.take 100 os) of && Pl.okF (List.take 70000 bs) bf) (aIf (intsB IntKind.u8 (List.take 100 os) && decide ((List.take 100 os).length ≤ 100) && decide ((List.take 70000 bs).length ≤ 70000) && decide (-9223372036854775808 ≤ off) && decide (off ≤ 9223372036854775807) && decide (-9223372036854775808 ≤ m) && decide (m ≤ 9223372036854775807) && intsB IntKind.u8 (List.take 70000 bs) && Pl.okF (List.take 100 os) of && Pl.okF (List.take 70000 bs) bf) (aIf (intsB IntKind.u8 (List.take 100 os) && decide ((List.take 100 os).length ≤ 100) && decide ((List.take 70000 bs).length ≤ 70000) && decide (-9223372036854775808 ≤ off) && decide (off ≤ 9223372036854775807) && decide (-9223372036854775808 ≤ m) && decide (m ≤ 9223372036854775807)) (aIf (intsB IntKind.u8 (List.take 100 os) && decide ((List.take 100 os).length ≤ 100) && decide ((List.take 70000 bs).length ≤ 70000) && decide (-9223372036854775808 ≤ off) && decide (off ≤ 9223372036854775807) && decide (-9223372036854775808 ≤ m) && decide (m ≤ 9223372036854775807)) (aIf (Pl.sameG (Pl.frsE [AV.int IntKind.u8 t, AV.int IntKind.u16 i, AV.bool df, AV.int IntKind.u8 l, AV.int IntKind.u8 q, AV.int IntKind.u8 s0, AV.int IntKind.u8 s1, AV.int IntKind.u8 s2, AV.int IntKind.u8 s3, AV.int IntKind.u8 d0, AV.int IntKind.u8 d1, AV.int IntKind.u8 d2, AV.int IntKind.u8 d3] (Pl.splL df mf off (List.take 100 os) of (List.take 70000 bs) bf m)) (Pl.frsE [AV.int IntKind.u8 t, AV.int IntKind.u16 i, AV.bool df, AV.int IntKind.u8 l, AV.int IntKind.u8 q, AV.int IntKind.u8 s0, AV.int IntKind.u8 s1, AV.int IntKind.u8 s2, AV.int IntKind.u8 s3, AV.int IntKind.u8 d0, AV.int IntKind.u8 d1, AV.int IntKind.u8 d2, AV.int IntKind.u8 d3] (Pl.sp2L df mf off (List.take 100 os) of (List.take 70000 bs) bf m))) (aIf (Pl.splE df mf off (List.take 100 os) of (List.take 70000 bs) bf m == Pl.sp2E df mf off (List.take 100 os) of (List.take 70000 bs) bf m) (aIf ((↑(Pl.frsE [AV.int IntKind.u8 t, AV.int IntKind.u16 i, AV.bool df, AV.int IntKind.u8 l, AV.int IntKind.u8 q, AV.int IntKind.u8 s0, AV.int IntKind.u8 s1, AV.int IntKind.u8 s2, AV.int IntKind.u8 s3, AV.int IntKind.u8 d0, AV.int IntKind.u8 d1, AV.int IntKind.u8 d2, AV.int IntKind.u8 d3] (Pl.splL df mf off (List.take 100 os) of (List.take 70000 bs) bf m)).length : Int) == (↑(Pl.frsE [AV.int IntKind.u8 t, AV.int IntKind.u16 i, AV.bool df, AV.int IntKind.u8 l, AV.int IntKind.u8 q, AV.int IntKind.u8 s0, AV.int IntKind.u8 s1, AV.int IntKind.u8 s2, AV.int IntKind.u8 s3, AV.int IntKind.u8 d0, AV.int IntKind.u8 d1, AV.int IntKind.u8 d2, AV.int IntKind.u8 d3] (Pl.sp2L df mf off (List.take 100 os) of (List.take 70000 bs) bf m)).length : Int)) (aIf (Pl.splE df mf off (List.take 100 os) of (List.take 70000 bs) bf m == Pl.sp2E df mf off (List.take 100 os) of (List.take 70000 bs) bf m) (aIf (Pl.fit4B off (List.take 100 os) (List.take 70000 bs) m == Pl.fit4B off (List.take 100 os) (List.take 70000 bs) m) (aIf (Pl.ask4E off (List.take 100 os) (List.take 70000 bs) m == Pl.ask4E off (List.take 100 os) (List.take 70000 bs) m) (some (AEnd.ret (AV.bool true), [])) (some (AEnd.ret (AV.bool false), []))) (some (AEnd.ret (AV.bool false), []))) (some (AEnd.ret (AV.bool false), []))) (some (AEnd.ret (AV.bool false), []))) (some (AEnd.ret (AV.bool false), []))) none) none) none) none) none) none) none := by kernel_rfl
theorem law_holds : ∀ xs, argsV E 4 Try.f7.params.toList xs → S7 xs [] encK = some (.ret (.bool true), []) := by
  intro xs h
  rw [Try.params7] at h
  obtain ⟨x, y, rfl, h1, h2⟩ := args2 h
  obtain ⟨t, i, df, mf, off, l, q, s0, s1, s2, s3, d0, d1, d2, d3, os, of, bs, bf, rfl, o1, o2, hos, hbs, hof, hbf⟩ := v4Arg h1 argT30 agg30
  obtain ⟨m, rfl, hm⟩ := intArg h2 argT3 agg3
  have hm := rng_i64 hm
  have ho := intsB_take hos 100
  have hb := intsB_take hbs 70000
  have hol : (os.take 100).length ≤ 100 := by rw [List.length_take]; omega
  have hbl : (bs.take 70000).length ≤ 70000 := by rw [List.length_take]; omega
  obtain ⟨e1, e2, e3, e4⟩ := spl_same (df := df) (mf := mf) (off := off) (f := of) (g := bf) (m := m) ho hol hb hbl
  have hS : sameG (frsE [.int .u8 t, .int .u16 i, .bool df, .int .u8 l, .int .u8 q, .int .u8 s0, .int .u8 s1, .int .u8 s2, .int .u8 s3, .int .u8 d0, .int .u8 d1, .int .u8 d2, .int .u8 d3] (splL df mf off (os.take 100) of (bs.take 70000) bf m)) (frsE [.int .u8 t, .int .u16 i, .bool df, .int .u8 l, .int .u8 q, .int .u8 s0, .int .u8 s1, .int .u8 s2, .int .u8 s3, .int .u8 d0, .int .u8 d1, .int .u8 d2, .int .u8 d3] (sp2L df mf off (os.take 100) of (bs.take 70000) bf m)) = true :=
    sameG_iff.2 ⟨t, i, df, l, q, s0, s1, s2, s3, d0, d1, d2, d3, _, _, rfl, rfl, e2, e3, e4⟩
  have hL : (splL df mf off (os.take 100) of (bs.take 70000) bf m).length = (sp2L df mf off (os.take 100) of (bs.take 70000) bf m).length := by have := congrArg List.length e2; simpa using this
  rw [N7, hS, e1, frsE_len, frsE_len, hL]
  simp only [hof, hbf, ho, hb, okF_take hof, okF_take hbf, decide_eq_true hol, decide_eq_true hbl, decide_eq_true o1, decide_eq_true o2, decide_eq_true hm.1, decide_eq_true hm.2, Bool.and_self, aIf_true, beq_self_eq_true]

theorem law_spec {H : Type} (ds : List (DataW H)) (h : ds.length = Try.f7.params.toList.length) : (Rows.splitSplitsSpec.fn H (ds ++ [])).results = [.lit (.bool true)] ∧ (Rows.splitSplitsSpec.fn H (ds ++ [])).args = ds ∧ (Rows.splitSplitsSpec.fn H (ds ++ [])).vars = [] := by
  rw [Try.params7] at h
  match ds, h with
  | [d0, d1], _ => exact ⟨rfl, rfl, rfl⟩

set_option maxRecDepth 100000 in
theorem law_lifted (os : Os) (started : os.Started) (H : Type) (enc : TypeId × Value → H) :
    ReturnsInHanded {} Try.checked os 7 .any (Rows.splitSplitsSpec.pre6 enc Try.prog Try.f7 Rows.splitSplitsRow.domain false) (Rows.splitSplitsSpec.post enc Try.prog Try.f7 false true false false) := by
  refine returnsInHanded_of_change (C := Try.checked) own started (by kernel_rfl) Try.func7
    (ChangeSpec.witness6 (enc := enc) (C := Try.checked) false ⟨#[], #[.agg #[.int .u8 0, .int .u16 0, .bool false, .bool false, .int .i64 0, .int .u8 0, .int .u8 0, .int .u8 0, .int .u8 0, .int .u8 0, .int .u8 0, .int .u8 0, .int .u8 0, .int .u8 0, .int .u8 0, .slice none 0 0, .slice none 0 0], .int .i64 0], []⟩ 8 (by kernel_rfl) (by kernel_rfl) (by kernel_rfl) (by kernel_rfl)) ?_
  intro W base args ds gs before hval hW _ _
  exact law_post (P := Try.prog) (E := E) (D := 4) (tb := 4) (fn := Try.f7) E_ok laidOut (by kernel_rfl) rfl (by kernel_rfl) rfl law_spec S7_ok law_holds (globOK_nil (fun _ => rfl) _) hval hW

theorem splitSplits_holds : Rows.SplitSplitsSaid :=
  OpenClaim.holds_of_wide 7 Try.f7 rfl rfl rfl rfl rfl rfl rfl ⟨rfl, rfl, rfl, rfl, rfl⟩ rfl rfl rfl rfl rfl (by kernel_rfl) Try.func7 (by kernel_rfl)
    (of_decide_eq_true (by kernel_rfl)) (by unfold Func.isWrapper; first | (rw [if_pos (by decide +kernel)]; kernel_rfl) | (rw [if_neg (by decide +kernel)]; exact ⟨rfl, rfl⟩))
    (fun os started H enc _ => law_lifted os started H enc)

#print axioms splitSplits_holds

end Go.Proofs.Ytohfnoepdbkkeaa

