/- Fragments that are split again have the same bytes at the same places. No conditions. -/
import Derived.Test.YtohfnoepdbkkeaaFSplitAgain
import Derived.Test.YtohfnoepdbkkeaaA20
import Derived.Test.YtohfnoepdbkkeaaPFragMore
import Derived.ProofKit
namespace Go.Proofs.Ytohfnoepdbkkeaa
open Go.Abs Go.Pl Go.RowKit Go.ChangeShapes Go.WideShapes Go.ChangeAt

theorem own : ownKnob Try.prog.godebug = none := by kernel_rfl
theorem laidOut : laidOutB Try.prog = true := by kernel_rfl
theorem argT3 (xs : List AV) : argT E 4 3 xs = intT .i64 xs := by kernel_rfl
theorem agg3 : aggT E 3 = false := by kernel_rfl
theorem argT30 (xs : List AV) : argT E 4 30 xs = v4T xs := by kernel_rfl
theorem agg30 : aggT E 30 = true := by kernel_rfl

theorem N5 (t i : Int) (df mf : Bool) (off l q s0 s1 s2 s3 d0 d1 d2 d3 : Int) (os : List AV) (of : SF) (bs : List AV) (bf : SF) (m ls : Int) : S5 [.agg [.int .u8 t, .int .u16 i, .bool df, .bool mf, .int .i64 off, .int .u8 l, .int .u8 q, .int .u8 s0, .int .u8 s1, .int .u8 s2, .int .u8 s3, .int .u8 d0, .int .u8 d1, .int .u8 d2, .int .u8 d3, .fs 1 os of, .fs 1 bs bf], .int .i64 m, .int .i64 ls] [] encK =
  aIf (intsB IntKind.u8 (List.take 100 os) && decide ((List.take 100 os).length ≤ 100) && decide ((List.take 70000 bs).length ≤ 70000) && decide (-9223372036854775808 ≤ off) && decide (off ≤ 9223372036854775807) && decide (-9223372036854775808 ≤ m) && decide (m ≤ 9223372036854775807) && intsB IntKind.u8 (List.take 70000 bs) && Pl.okF (List.take 100 os) of && Pl.okF (List.take 70000 bs) bf) (aIf (Pl.splE df mf off (List.take 100 os) of (List.take 70000 bs) bf m != 0) (some (AEnd.ret (AV.bool true), [])) (aIf (decide (ls > m)) (some (AEnd.ret (AV.bool true), [])) (aIf (true && decide (-9223372036854775808 ≤ ls) && decide (ls ≤ 9223372036854775807) && Pl.agnG off mf (List.take 70000 bs) (Pl.frsE [AV.int IntKind.u8 t, AV.int IntKind.u16 i, AV.bool df, AV.int IntKind.u8 l, AV.int IntKind.u8 q, AV.int IntKind.u8 s0, AV.int IntKind.u8 s1, AV.int IntKind.u8 s2, AV.int IntKind.u8 s3, AV.int IntKind.u8 d0, AV.int IntKind.u8 d1, AV.int IntKind.u8 d2, AV.int IntKind.u8 d3] (Pl.splL df mf off (List.take 100 os) of (List.take 70000 bs) bf m))) (aIf (Pl.agB (Pl.frsE [AV.int IntKind.u8 t, AV.int IntKind.u16 i, AV.bool df, AV.int IntKind.u8 l, AV.int IntKind.u8 q, AV.int IntKind.u8 s0, AV.int IntKind.u8 s1, AV.int IntKind.u8 s2, AV.int IntKind.u8 s3, AV.int IntKind.u8 d0, AV.int IntKind.u8 d1, AV.int IntKind.u8 d2, AV.int IntKind.u8 d3] (Pl.splL df mf off (List.take 100 os) of (List.take 70000 bs) bf m)) ls) (some (AEnd.ret (AV.bool true), [])) (aIf (Pl.isNil (List.take 70000 bs)) (aIf (allU8 (List.take 70000 bs)) (aIf ([] == (ByteArray.mk (Array.mk (List.map (fun v => UInt8.ofNat v.toInt.toNat) (List.take 70000 bs)))).toList) (some (AEnd.ret (AV.bool true), [])) (some (AEnd.ret (AV.bool false), []))) none) (aIf ((List.take 70000 bs).length == (List.take 70000 bs).length) (aIf ((List.take ((List.take 70000 bs).length * 1) (List.drop 0 (List.take 70000 bs))).length == (List.take 70000 bs).length) (aIf (allU8 (List.take ((List.take 70000 bs).length * 1) (List.drop 0 (List.take 70000 bs)))) (aIf (allU8 (List.take 70000 bs)) (aIf ((ByteArray.mk (Array.mk (List.map (fun v => UInt8.ofNat v.toInt.toNat) (List.take ((List.take 70000 bs).length * 1) (List.drop 0 (List.take 70000 bs)))))).toList == (ByteArray.mk (Array.mk (List.map (fun v => UInt8.ofNat v.toInt.toNat) (List.take 70000 bs)))).toList) (some (AEnd.ret (AV.bool true), [])) (some (AEnd.ret (AV.bool false), []))) none) none) none) none))) none))) none := by kernel_rfl
theorem law_holds : ∀ xs, argsV E 4 Try.f5.params.toList xs → S5 xs [] encK = some (.ret (.bool true), []) := by
  intro xs h
  rw [Try.params5] at h
  obtain ⟨x, y, z, rfl, h1, h2, h3⟩ := args3 h
  obtain ⟨t, i, df, mf, off, l, q, s0, s1, s2, s3, d0, d1, d2, d3, os, of, bs, bf, rfl, o1, o2, hos, hbs, hof, hbf⟩ := v4Arg h1 argT30 agg30
  obtain ⟨m, rfl, hm⟩ := intArg h2 argT3 agg3
  obtain ⟨ls, rfl, hls⟩ := intArg h3 argT3 agg3
  have hm := rng_i64 hm
  have hls := rng_i64 hls
  have ho := intsB_take hos 100
  have hb := intsB_take hbs 70000
  have hol : (os.take 100).length ≤ 100 := by rw [List.length_take]; omega
  have hbl : (bs.take 70000).length ≤ 70000 := by rw [List.length_take]; omega
  obtain ⟨_, _, e3, e4⟩ := spl_same (df := df) (mf := mf) (off := off) (f := of) (g := bf) (m := m) ho hol hb hbl
  have hu8 := allU8_of hb
  have hG : splE df mf off (os.take 100) of (bs.take 70000) bf m = 0 → agnG off mf (bs.take 70000) (frsE [.int .u8 t, .int .u16 i, .bool df, .int .u8 l, .int .u8 q, .int .u8 s0, .int .u8 s1, .int .u8 s2, .int .u8 s3, .int .u8 d0, .int .u8 d1, .int .u8 d2, .int .u8 d3] (splL df mf off (os.take 100) of (bs.take 70000) bf m)) = true := fun hE => by
    have hr := splE_ls hE
    obtain ⟨m, rfl⟩ := Int.eq_ofNat_of_zero_le (show 0 ≤ m by omega)
    exact agnG_iff.2 ⟨t, i, df, l, q, s0, s1, s2, s3, d0, d1, d2, d3, _, m, rfl, e4, spl_all (df := df) (mf := mf) (off := off) (f := of) (g := bf) ho hb hbl hE, spl_okFr, hbl⟩
  rw [N5]
  simp only [ho, hb, okF_take hof, okF_take hbf, decide_eq_true hol, decide_eq_true hbl, decide_eq_true o1, decide_eq_true o2, decide_eq_true hm.1, decide_eq_true hm.2, decide_eq_true hls.1, decide_eq_true hls.2, Bool.and_self, aIf_true]
  by_cases hE : splE df mf off (os.take 100) of (bs.take 70000) bf m = 0
  · rw [hE, hG hE]
    simp only [bne_self_eq_false, aIf_false, Bool.and_self, aIf_true]
    cases decide (ls > m) with
    | true => rw [aIf_true]
    | false =>
      rw [aIf_false]
      generalize agB _ ls = c
      cases c with
      | true => rw [aIf_true]
      | false =>
        rw [aIf_false]
        cases hn : isNil (bs.take 70000) with
        | true =>
          have hb0 := isNil_eq hn
          rw [hb0]
          have hz : (ByteArray.mk (Array.mk (List.map (fun v => UInt8.ofNat v.toInt.toNat) ([] : List AV)))).toList = [] := by
            show (ByteArray.mk #[]).toList = []
            rw [ByteArray.toList, ByteArray.toList.loop]; rfl
          refine (aIf_pos rfl).trans ((aIf_pos rfl).trans (aIf_pos ?_))
          rw [hz]; rfl
        | false =>
          simp only [aIf_false, List.drop_zero, Nat.mul_one, List.take_length, hu8, aIf_true, beq_self_eq_true]
  · rw [bne, beq_eq_false_iff_ne.2 hE]; rfl

theorem law_spec {H : Type} (ds : List (DataW H)) (h : ds.length = Try.f5.params.toList.length) : (Rows.splitAgainSpec.fn H (ds ++ [])).results = [.lit (.bool true)] ∧ (Rows.splitAgainSpec.fn H (ds ++ [])).args = ds ∧ (Rows.splitAgainSpec.fn H (ds ++ [])).vars = [] := by
  rw [Try.params5] at h
  match ds, h with
  | [d0, d1, d2], _ => exact ⟨rfl, rfl, rfl⟩

set_option maxRecDepth 100000 in
theorem law_lifted (os : Os) (started : os.Started) (H : Type) (enc : TypeId × Value → H) :
    ReturnsInHanded {} Try.checked os 5 .any (Rows.splitAgainSpec.pre6 enc Try.prog Try.f5 Rows.splitAgainRow.domain false) (Rows.splitAgainSpec.post enc Try.prog Try.f5 false true false false) := by
  refine returnsInHanded_of_change (C := Try.checked) own started (by kernel_rfl) Try.func5
    (ChangeSpec.witness6 (enc := enc) (C := Try.checked) false ⟨#[], #[.agg #[.int .u8 0, .int .u16 0, .bool false, .bool false, .int .i64 0, .int .u8 0, .int .u8 0, .int .u8 0, .int .u8 0, .int .u8 0, .int .u8 0, .int .u8 0, .int .u8 0, .int .u8 0, .int .u8 0, .slice none 0 0, .slice none 0 0], .int .i64 0, .int .i64 0], []⟩ 8 (by kernel_rfl) (by kernel_rfl) (by kernel_rfl) (by kernel_rfl)) ?_
  intro W base args ds gs before hval hW _ _
  exact law_post (P := Try.prog) (E := E) (D := 4) (tb := 4) (fn := Try.f5) E_ok laidOut (by kernel_rfl) rfl (by kernel_rfl) rfl law_spec S5_ok law_holds (globOK_nil (fun _ => rfl) _) hval hW

theorem splitAgain_holds : Rows.SplitAgainSaid :=
  OpenClaim.holds_of_wide 5 Try.f5 rfl rfl rfl rfl rfl rfl rfl ⟨rfl, rfl, rfl, rfl, rfl⟩ rfl rfl rfl rfl rfl (by kernel_rfl) Try.func5 (by kernel_rfl)
    (of_decide_eq_true (by kernel_rfl)) (by unfold Func.isWrapper; first | (rw [if_pos (by decide +kernel)]; kernel_rfl) | (rw [if_neg (by decide +kernel)]; exact ⟨rfl, rfl⟩))
    (fun os started H enc _ => law_lifted os started H enc)

#print axioms splitAgain_holds

end Go.Proofs.Ytohfnoepdbkkeaa

