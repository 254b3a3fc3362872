/- MappingRules: which rules may be, how many edges each has and which ports they share are the document's, for every rule -/
import Derived.Test.YtlfhkoajmjfbpaaDoorFMappingRules
import Derived.Test.YtlfhkoajmjfbpaaDoorA20
import Derived.Test.YtlfhkoajmjfbpaaDoorPMapArg
import Derived.Test.YtlfhkoajmjfbpaaDoorPMapAns
import Derived.ProofKit
import Derived.Lay
import Derived.LaidMore
import Derived.SevenTiedAt
import Derived.Lib.LaidTab
import Derived.Stop.LaidErr
import Derived.Stop.Joined
import Derived.Test.YtlfhkoajmjfbpaaDoorTie
import Derived.Test.YtlfhkoajmjfbpaaDoorCards
namespace Go.Proofs.YtlfhkoajmjfbpaaDoor
open Go.Abs Go.Pl Go.RowKit Go.ChangeShapes Go.WideShapes Go.ChangeAt

theorem own : ownKnob Tryd.prog.godebug = none := by kernel_rfl
theorem laidOut : laidOutB Tryd.prog = true := by kernel_rfl
theorem argT31 (xs : List AV) : argT E 4 31 xs = ruleT xs := by kernel_rfl
theorem agg31 : aggT E 31 = true := by kernel_rfl

set_option maxRecDepth 20000 in
theorem N4 (x z : Nat → Int) (n m e o : Int) (f : Bool)
    {r0 : _} (h0 : r0 = R13 [AV.agg [AV.int IntKind.u8 (x 0), AV.int IntKind.u8 (x 1), AV.int IntKind.u8 (x 2), AV.int IntKind.u8 (x 3), AV.int IntKind.u8 (x 4), AV.int IntKind.u8 (x 5), AV.int IntKind.u8 (x 6), AV.int IntKind.u8 (x 7), AV.int IntKind.u8 (x 8), AV.int IntKind.u8 (x 9), AV.int IntKind.u8 (x 10), AV.int IntKind.u8 (x 11), AV.int IntKind.u8 (x 12), AV.int IntKind.u8 (x 13), AV.int IntKind.u8 (x 14), AV.int IntKind.u8 (x 15), AV.int IntKind.i64 n, AV.int IntKind.u8 (z 0), AV.int IntKind.u8 (z 1), AV.int IntKind.u8 (z 2), AV.int IntKind.u8 (z 3), AV.int IntKind.i64 m, AV.int IntKind.i64 e, AV.int IntKind.i64 o, AV.bool f]])
    {r1 : _} (h1 : r1 = R14 [AV.agg [AV.int IntKind.u8 (x 0), AV.int IntKind.u8 (x 1), AV.int IntKind.u8 (x 2), AV.int IntKind.u8 (x 3), AV.int IntKind.u8 (x 4), AV.int IntKind.u8 (x 5), AV.int IntKind.u8 (x 6), AV.int IntKind.u8 (x 7), AV.int IntKind.u8 (x 8), AV.int IntKind.u8 (x 9), AV.int IntKind.u8 (x 10), AV.int IntKind.u8 (x 11), AV.int IntKind.u8 (x 12), AV.int IntKind.u8 (x 13), AV.int IntKind.u8 (x 14), AV.int IntKind.u8 (x 15), AV.int IntKind.i64 n, AV.int IntKind.u8 (z 0), AV.int IntKind.u8 (z 1), AV.int IntKind.u8 (z 2), AV.int IntKind.u8 (z 3), AV.int IntKind.i64 m, AV.int IntKind.i64 e, AV.int IntKind.i64 o, AV.bool f]])
    {r2 : _} (h2 : r2 = R15 [AV.agg [AV.int IntKind.u8 (x 0), AV.int IntKind.u8 (x 1), AV.int IntKind.u8 (x 2), AV.int IntKind.u8 (x 3), AV.int IntKind.u8 (x 4), AV.int IntKind.u8 (x 5), AV.int IntKind.u8 (x 6), AV.int IntKind.u8 (x 7), AV.int IntKind.u8 (x 8), AV.int IntKind.u8 (x 9), AV.int IntKind.u8 (x 10), AV.int IntKind.u8 (x 11), AV.int IntKind.u8 (x 12), AV.int IntKind.u8 (x 13), AV.int IntKind.u8 (x 14), AV.int IntKind.u8 (x 15), AV.int IntKind.i64 n, AV.int IntKind.u8 (z 0), AV.int IntKind.u8 (z 1), AV.int IntKind.u8 (z 2), AV.int IntKind.u8 (z 3), AV.int IntKind.i64 m, AV.int IntKind.i64 e, AV.int IntKind.i64 o, AV.bool f]])
    {r3 : _} (h3 : r3 = R16 [AV.agg [AV.int IntKind.u8 (x 0), AV.int IntKind.u8 (x 1), AV.int IntKind.u8 (x 2), AV.int IntKind.u8 (x 3), AV.int IntKind.u8 (x 4), AV.int IntKind.u8 (x 5), AV.int IntKind.u8 (x 6), AV.int IntKind.u8 (x 7), AV.int IntKind.u8 (x 8), AV.int IntKind.u8 (x 9), AV.int IntKind.u8 (x 10), AV.int IntKind.u8 (x 11), AV.int IntKind.u8 (x 12), AV.int IntKind.u8 (x 13), AV.int IntKind.u8 (x 14), AV.int IntKind.u8 (x 15), AV.int IntKind.i64 n, AV.int IntKind.u8 (z 0), AV.int IntKind.u8 (z 1), AV.int IntKind.u8 (z 2), AV.int IntKind.u8 (z 3), AV.int IntKind.i64 m, AV.int IntKind.i64 e, AV.int IntKind.i64 o, AV.bool f]])
    {r4 : _} (h4 : r4 = R17 [AV.agg [AV.int IntKind.u8 (x 0), AV.int IntKind.u8 (x 1), AV.int IntKind.u8 (x 2), AV.int IntKind.u8 (x 3), AV.int IntKind.u8 (x 4), AV.int IntKind.u8 (x 5), AV.int IntKind.u8 (x 6), AV.int IntKind.u8 (x 7), AV.int IntKind.u8 (x 8), AV.int IntKind.u8 (x 9), AV.int IntKind.u8 (x 10), AV.int IntKind.u8 (x 11), AV.int IntKind.u8 (x 12), AV.int IntKind.u8 (x 13), AV.int IntKind.u8 (x 14), AV.int IntKind.u8 (x 15), AV.int IntKind.i64 n, AV.int IntKind.u8 (z 0), AV.int IntKind.u8 (z 1), AV.int IntKind.u8 (z 2), AV.int IntKind.u8 (z 3), AV.int IntKind.i64 m, AV.int IntKind.i64 e, AV.int IntKind.i64 o, AV.bool f]])
    {r5 : _} (h5 : r5 = R18 [AV.agg [AV.int IntKind.u8 (x 0), AV.int IntKind.u8 (x 1), AV.int IntKind.u8 (x 2), AV.int IntKind.u8 (x 3), AV.int IntKind.u8 (x 4), AV.int IntKind.u8 (x 5), AV.int IntKind.u8 (x 6), AV.int IntKind.u8 (x 7), AV.int IntKind.u8 (x 8), AV.int IntKind.u8 (x 9), AV.int IntKind.u8 (x 10), AV.int IntKind.u8 (x 11), AV.int IntKind.u8 (x 12), AV.int IntKind.u8 (x 13), AV.int IntKind.u8 (x 14), AV.int IntKind.u8 (x 15), AV.int IntKind.i64 n, AV.int IntKind.u8 (z 0), AV.int IntKind.u8 (z 1), AV.int IntKind.u8 (z 2), AV.int IntKind.u8 (z 3), AV.int IntKind.i64 m, AV.int IntKind.i64 e, AV.int IntKind.i64 o, AV.bool f]]) :
  S4 [.agg [.int .u8 (x 0), .int .u8 (x 1), .int .u8 (x 2), .int .u8 (x 3), .int .u8 (x 4), .int .u8 (x 5), .int .u8 (x 6), .int .u8 (x 7), .int .u8 (x 8), .int .u8 (x 9), .int .u8 (x 10), .int .u8 (x 11), .int .u8 (x 12), .int .u8 (x 13), .int .u8 (x 14), .int .u8 (x 15), .int .i64 n, .int .u8 (z 0), .int .u8 (z 1), .int .u8 (z 2), .int .u8 (z 3), .int .i64 m, .int .i64 e, .int .i64 o, .bool f]] [] (fun e H => some (e, H)) =
  aIf (shOK (Sh.tup [Sh.agg [Sh.int IntKind.i64, Sh.int IntKind.i64, Sh.int IntKind.u16], Sh.bool, Sh.int IntKind.i64]) r0) (aIf (shOK (Sh.tup [Sh.agg [Sh.int IntKind.i64, Sh.int IntKind.i64, Sh.int IntKind.u16], Sh.bool, Sh.int IntKind.i64]) r1) (aIf (shOK (Sh.tup [Sh.int IntKind.u64, Sh.int IntKind.i64]) r2) (aIf (shOK (Sh.tup [Sh.int IntKind.u64, Sh.int IntKind.i64]) r3) (aIf ((sel r0 [0, 0]).toInt == (sel r1 [0, 0]).toInt && ((sel r0 [0, 1]).toInt == (sel r1 [0, 1]).toInt && ((sel r0 [0, 2]).toInt == (sel r1 [0, 2]).toInt && true))) (aIf ((sel r0 [1]).toBool == (sel r1 [1]).toBool) (aIf ((sel r0 [2]).toInt == (sel r1 [2]).toInt) (aIf ((sel r2 [0]).toInt == (sel r3 [0]).toInt) (aIf ((sel r2 [1]).toInt == (sel r3 [1]).toInt) (aIf (shOK (Sh.int IntKind.i64) r4) (aIf (shOK (Sh.int IntKind.i64) r5) (aIf ((sel r4 []).toInt == (sel r5 []).toInt) (some (AEnd.ret (AV.bool true), [])) (some (AEnd.ret (AV.bool false), []))) none) none) (some (AEnd.ret (AV.bool false), []))) (some (AEnd.ret (AV.bool false), []))) (some (AEnd.ret (AV.bool false), []))) (some (AEnd.ret (AV.bool false), []))) (some (AEnd.ret (AV.bool false), []))) none) none) none) none := by subst h0 h1 h2 h3 h4 h5; kernel_rfl
set_option maxRecDepth 20000 in
set_option maxHeartbeats 2000000 in
theorem law_holds : ∀ xs, argsV E 4 Tryd.f4.params.toList xs → S4 xs [] (fun e H => some (e, H)) = some (.ret (.bool true), []) := by
  intro xs h
  rw [Tryd.params4] at h
  obtain ⟨u, rfl, h1⟩ := args1 h
  obtain ⟨x, z, n, m, e, o, f, hx, hz, hn, hm, he, ho, rfl⟩ := ruleArg h1 argT31 agg31
  have hP : shOK (.tup [.agg [.int .i64, .int .i64, .int .u16], .bool, .int .i64]) (some (.ret (portsA (chkR [.int .u8 (x 0), .int .u8 (x 1), .int .u8 (x 2), .int .u8 (x 3), .int .u8 (x 4), .int .u8 (x 5), .int .u8 (x 6), .int .u8 (x 7), .int .u8 (x 8), .int .u8 (x 9), .int .u8 (x 10), .int .u8 (x 11), .int .u8 (x 12), .int .u8 (x 13), .int .u8 (x 14), .int .u8 (x 15)] [.int .u8 (z 0), .int .u8 (z 1), .int .u8 (z 2), .int .u8 (z 3)] n m e o) m e o), [])) = true := (shOK_ret _ _).trans (portsA_has ho)
  have hC : shOK (.tup [.int .u64, .int .i64]) (some (.ret (cntA (chkR [.int .u8 (x 0), .int .u8 (x 1), .int .u8 (x 2), .int .u8 (x 3), .int .u8 (x 4), .int .u8 (x 5), .int .u8 (x 6), .int .u8 (x 7), .int .u8 (x 8), .int .u8 (x 9), .int .u8 (x 10), .int .u8 (x 11), .int .u8 (x 12), .int .u8 (x 13), .int .u8 (x 14), .int .u8 (x 15)] [.int .u8 (z 0), .int .u8 (z 1), .int .u8 (z 2), .int .u8 (z 3)] n m e o) e), [])) = true := (shOK_ret _ _).trans cntA_has
  have hK : shOK (.int .i64) (some (.ret (.int .i64 (chkR [.int .u8 (x 0), .int .u8 (x 1), .int .u8 (x 2), .int .u8 (x 3), .int .u8 (x 4), .int .u8 (x 5), .int .u8 (x 6), .int .u8 (x 7), .int .u8 (x 8), .int .u8 (x 9), .int .u8 (x 10), .int .u8 (x 11), .int .u8 (x 12), .int .u8 (x 13), .int .u8 (x 14), .int .u8 (x 15)] [.int .u8 (z 0), .int .u8 (z 1), .int .u8 (z 2), .int .u8 (z 3)] n m e o)), [])) = true := by rw [shOK_ret, has_int]; exact chkR_in _ _ _ _ _ _
  rw [N4 x z n m e o f (R13_is hx hz).symm (R14_is hx hz).symm (R15_is hx hz).symm (R16_is hx hz).symm (R17_is hx hz).symm (R18_is hx hz).symm]
  simp only [hP, hC, hK, beq_self_eq_true, Bool.and_self, aIf_true]

theorem law_spec {H : Type} (ds : List (DataW H)) (h : ds.length = Tryd.f4.params.toList.length) : (Rows.mappingRulesSpec.fn H (ds ++ [])).results = [.lit (.bool true)] ∧ (Rows.mappingRulesSpec.fn H (ds ++ [])).args = ds ∧ (Rows.mappingRulesSpec.fn H (ds ++ [])).vars = [] := by
  rw [Tryd.params4] at h
  match ds, h with
  | [d0], _ => exact ⟨rfl, rfl, rfl⟩

theorem tab1 {W : World} (h : laidMet Tryd.prog Rows.mappingRulesRow.laid W) : Lib.TabIs Tryd.prog W "math/bits.deBruijn32tab" .u8 [0, 1, 28, 2, 29, 14, 24, 3, 30, 22, 20, 15, 25, 17, 4, 8, 31, 27, 13, 23, 21, 19, 16, 7, 26, 12, 18, 6, 11, 5, 10, 9] :=
  Lib.tabIs_of_head (g := 1) (t := 149) (e := 5) (n := 32) (by kernel_rfl) (by kernel_rfl) (by kernel_rfl) (by kernel_rfl) (by kernel_rfl) (by kernel_rfl) h
theorem tab2 {W : World} (h : laidMet Tryd.prog Rows.mappingRulesRow.laid W) : Lib.TabIs Tryd.prog W "math/bits.deBruijn64tab" .u8 [0, 1, 56, 2, 57, 49, 28, 3, 61, 58, 42, 50, 38, 29, 17, 4, 62, 47, 59, 36, 45, 43, 51, 22, 53, 39, 33, 30, 24, 18, 12, 5, 63, 55, 48, 27, 60, 41, 37, 16, 46, 35, 44, 21, 52, 32, 23, 11, 54, 26, 40, 15, 34, 20, 31, 10, 25, 14, 19, 9, 13, 8, 7, 6] :=
  Lib.tabIs_of_head (g := 2) (t := 150) (e := 5) (n := 64) (by kernel_rfl) (by kernel_rfl) (by kernel_rfl) (by kernel_rfl) (by kernel_rfl) (by kernel_rfl) h.tail
theorem tab0 {W : World} (h : laidMet Tryd.prog Rows.mappingRulesRow.laid W) : Lib.TabIs Tryd.prog W "internal/strconv.uint64pow10" .u64 [1, 10, 100, 1000, 10000, 100000, 1000000, 10000000, 100000000, 1000000000, 10000000000, 100000000000, 1000000000000, 10000000000000, 100000000000000, 1000000000000000, 10000000000000000, 100000000000000000, 1000000000000000000, 10000000000000000000] :=
  Lib.tabIs_of_head (g := 0) (t := 143) (e := 32) (n := 20) (by kernel_rfl) (by kernel_rfl) (by kernel_rfl) (by kernel_rfl) (by kernel_rfl) (by kernel_rfl) h.tail.tail
theorem globs {W : World} (h : laidMet Tryd.prog Rows.mappingRulesRow.laid W) : GlobOK W.cell? := by
  intro g i x hx
  match g with
  | 0 =>
    have := fun i hi => (tab0 h).cell (g := 0) (by kernel_rfl) i hi
    exact globTab this hx
  | 1 =>
    have := fun i hi => (tab1 h).cell (g := 1) (by kernel_rfl) i hi
    exact globTab this hx
  | 2 =>
    have := fun i hi => (tab2 h).cell (g := 2) (by kernel_rfl) i hi
    exact globTab this hx
  | g + 3 => simp [globInts] at hx

set_option maxRecDepth 100000 in
theorem law_lifted (os : Os) (started : os.Started) (H : Type) (enc : TypeId × Value → H) :
    ReturnsInHanded {} Tryd.checked os 4 .any (fun w args => (Rows.mappingRulesSpec.pre enc Tryd.prog Tryd.f4 Rows.mappingRulesRow.domain false w args ∧ laidMetH Tryd.prog Rows.mappingRulesRow.laid w) ∧ sizedMet enc Tryd.prog Tryd.f4 (OpenSpec.ofChange Rows.mappingRulesSpec) false w args)
      (Rows.mappingRulesSpec.post enc Tryd.prog Tryd.f4 false true false false) := by
  refine returnsInHanded_of_change_and (C := Tryd.checked) (X := fun w _ => laidMetH Tryd.prog Rows.mappingRulesRow.laid w) (fun _ _ _ hh h => h.of_heap hh) own started (by kernel_rfl) Tryd.func4
    (ChangeSpec.witness_shaped (enc := enc) (C := Tryd.checked) (os := os) (X := fun w _ => laidMetH Tryd.prog Rows.mappingRulesRow.laid w) false (World.laidAll Tryd.prog os Rows.mappingRulesRow.laid) #[.agg #[.int .u8 0, .int .u8 0, .int .u8 0, .int .u8 0, .int .u8 0, .int .u8 0, .int .u8 0, .int .u8 0, .int .u8 0, .int .u8 0, .int .u8 0, .int .u8 0, .int .u8 0, .int .u8 0, .int .u8 0, .int .u8 0, .int .i64 0, .int .u8 0, .int .u8 0, .int .u8 0, .int .u8 0, .int .i64 0, .int .i64 0, .int .i64 0, .bool false]] 8 (World.laidAll_os _ _ _)
      (World.shaped_of_ZipB (by kernel_rfl) (by kernel_rfl)) (by kernel_rfl) (by kernel_rfl) (by kernel_rfl)
      (by rw [MakeChecks.laidMetH_plain _ _ _ (by kernel_rfl)]; exact laidMet_laidAll _ (by kernel_rfl) (by kernel_rfl))) ?_
  intro W base args ds gs before hval hW _ _ hL _
  have hL' : laidMet Tryd.prog Rows.mappingRulesRow.laid W := by rw [MakeChecks.laidMetH_plain _ _ _ (by kernel_rfl)] at hL; exact hL
  exact law_post (P := Tryd.prog) (E := E) (D := 4) (tb := 4) (fn := Tryd.f4) E_ok laidOut (by kernel_rfl) rfl (by kernel_rfl) rfl law_spec S4_ok law_holds (globs hL') hval hW

theorem mappingRules_row : Rows.MappingRulesSaid :=
  OpenClaim.holds_of_wide 4 Tryd.f4 rfl rfl rfl rfl rfl rfl rfl ⟨rfl, rfl, rfl, rfl, rfl⟩ rfl rfl rfl rfl rfl (by kernel_rfl) Tryd.func4 (by kernel_rfl)
    (of_decide_eq_true (by kernel_rfl)) (by unfold Func.isWrapper; first | (rw [if_pos (by decide +kernel)]; kernel_rfl) | (rw [if_neg (by decide +kernel)]; exact ⟨rfl, rfl⟩))
    (fun os started H enc _ => law_lifted os started H enc)

theorem mappingRules_holds : Rows.MappingRulesCardSaid :=
  Claim7.holds_tied_plain_at .later [] [.data, .data, .data] true (true, "55f7b0de1282a77de9fe55d57d9ebffdfd12b5eb867d109fa3e09de72e3b9cc9") false
    mappingRules_row (fun _ h => by cases h) (by kernel_rfl) (fun _ h => by cases h) mappingRules_row_tie rfl ⟨rfl, rfl⟩ (by kernel_rfl) rfl
    (fun f fn hf hfn => by
      obtain rfl : f = 4 := Option.some.inj ((show Tryd.prog.funcNamed Rows.mappingRulesRow.func = some 4 by kernel_rfl).symm.trans hf) |>.symm
      obtain rfl : fn = Tryd.f4 := (Option.some.inj (Tryd.func4.symm.trans hfn)).symm
      exact ⟨by kernel_rfl, fun j t ht => by
        have hm : t ∈ Tryd.f4.params.toList := by
          rw [← Array.getElem?_toList] at ht
          exact List.mem_of_getElem? ht
        have ha : Tryd.f4.params.toList.all (fun t => !Tryd.prog.wantsStandIn t) = true := by kernel_rfl
        have := List.all_eq_true.1 ha t hm
        exact (show Tryd.prog.wantsStandIn t = false by simpa using this)⟩)
    (by kernel_rfl)

#print axioms mappingRules_holds

end Go.Proofs.YtlfhkoajmjfbpaaDoor

