/- MappingEdges: the edge of any EA bits is the document's, for every rule -/
import Derived.Test.YtlfhkoajmjfbpaaDoorFMappingEdges
import Derived.Test.YtlfhkoajmjfbpaaDoorA20
import Derived.Test.YtlfhkoajmjfbpaaDoorPMapArg
import Derived.ProofKit
import Derived.Lay
import Derived.LaidMore
import Derived.SevenTiedAt
import Derived.Lib.LaidTab
import Derived.Stop.LaidErr
import Derived.Stop.Joined
import Derived.Test.YtlfhkoajmjfbpaaDoorTie
import Derived.Test.YtlfhkoajmjfbpaaDoorCards
namespace Go.Proofs.YtlfhkoajmjfbpaaDoor
open Go.Abs Go.Pl Go.RowKit Go.ChangeShapes Go.WideShapes Go.ChangeAt

theorem own : ownKnob Tryd.prog.godebug = none := by kernel_rfl
theorem laidOut : laidOutB Tryd.prog = true := by kernel_rfl
theorem argT31 (xs : List AV) : argT E 4 31 xs = ruleT xs := by kernel_rfl
theorem agg31 : aggT E 31 = true := by kernel_rfl
theorem argT32 (xs : List AV) : argT E 4 32 xs = intT .u64 xs := by kernel_rfl
theorem agg32 : aggT E 32 = false := by kernel_rfl

theorem N3 (x z : Nat → Int) (n m e o : Int) (f : Bool) (a : Int)
    {r0 : _} (h0 : r0 = R10 [AV.agg [AV.int IntKind.u8 (x 0), AV.int IntKind.u8 (x 1), AV.int IntKind.u8 (x 2), AV.int IntKind.u8 (x 3), AV.int IntKind.u8 (x 4), AV.int IntKind.u8 (x 5), AV.int IntKind.u8 (x 6), AV.int IntKind.u8 (x 7), AV.int IntKind.u8 (x 8), AV.int IntKind.u8 (x 9), AV.int IntKind.u8 (x 10), AV.int IntKind.u8 (x 11), AV.int IntKind.u8 (x 12), AV.int IntKind.u8 (x 13), AV.int IntKind.u8 (x 14), AV.int IntKind.u8 (x 15), AV.int IntKind.i64 n, AV.int IntKind.u8 (z 0), AV.int IntKind.u8 (z 1), AV.int IntKind.u8 (z 2), AV.int IntKind.u8 (z 3), AV.int IntKind.i64 m, AV.int IntKind.i64 e, AV.int IntKind.i64 o, AV.bool f], AV.int IntKind.u64 a])
    {r1 : _} (h1 : r1 = R11 [AV.agg [AV.int IntKind.u8 (x 0), AV.int IntKind.u8 (x 1), AV.int IntKind.u8 (x 2), AV.int IntKind.u8 (x 3), AV.int IntKind.u8 (x 4), AV.int IntKind.u8 (x 5), AV.int IntKind.u8 (x 6), AV.int IntKind.u8 (x 7), AV.int IntKind.u8 (x 8), AV.int IntKind.u8 (x 9), AV.int IntKind.u8 (x 10), AV.int IntKind.u8 (x 11), AV.int IntKind.u8 (x 12), AV.int IntKind.u8 (x 13), AV.int IntKind.u8 (x 14), AV.int IntKind.u8 (x 15), AV.int IntKind.i64 n, AV.int IntKind.u8 (z 0), AV.int IntKind.u8 (z 1), AV.int IntKind.u8 (z 2), AV.int IntKind.u8 (z 3), AV.int IntKind.i64 m, AV.int IntKind.i64 e, AV.int IntKind.i64 o, AV.bool f], AV.int IntKind.u64 a]) :
  S3 [.agg [.int .u8 (x 0), .int .u8 (x 1), .int .u8 (x 2), .int .u8 (x 3), .int .u8 (x 4), .int .u8 (x 5), .int .u8 (x 6), .int .u8 (x 7), .int .u8 (x 8), .int .u8 (x 9), .int .u8 (x 10), .int .u8 (x 11), .int .u8 (x 12), .int .u8 (x 13), .int .u8 (x 14), .int .u8 (x 15), .int .i64 n, .int .u8 (z 0), .int .u8 (z 1), .int .u8 (z 2), .int .u8 (z 3), .int .i64 m, .int .i64 e, .int .i64 o, .bool f], .int .u64 a] [] (fun e H => some (e, H)) =
  aIf (shOK (Sh.tup [Sh.agg [Sh.int IntKind.u8, Sh.int IntKind.u8, Sh.int IntKind.u8, Sh.int IntKind.u8, Sh.int IntKind.i64, Sh.int IntKind.i64, Sh.int IntKind.i64, Sh.int IntKind.u16, Sh.int IntKind.u8, Sh.int IntKind.u8, Sh.int IntKind.u8, Sh.int IntKind.u8, Sh.int IntKind.u8, Sh.int IntKind.u8, Sh.int IntKind.u8, Sh.int IntKind.u8, Sh.int IntKind.u8, Sh.int IntKind.u8, Sh.int IntKind.u8, Sh.int IntKind.u8, Sh.int IntKind.u8, Sh.int IntKind.u8, Sh.int IntKind.u8, Sh.int IntKind.u8, Sh.int IntKind.i64, Sh.int IntKind.u8, Sh.int IntKind.u8, Sh.int IntKind.u8, Sh.int IntKind.u8, Sh.int IntKind.u8, Sh.int IntKind.u8, Sh.int IntKind.u8, Sh.int IntKind.u8, Sh.int IntKind.u8, Sh.int IntKind.u8, Sh.int IntKind.u8, Sh.int IntKind.u8, Sh.int IntKind.u8, Sh.int IntKind.u8, Sh.int IntKind.u8, Sh.int IntKind.u8], Sh.int IntKind.i64]) r0) (aIf (shOK (Sh.tup [Sh.agg [Sh.int IntKind.u8, Sh.int IntKind.u8, Sh.int IntKind.u8, Sh.int IntKind.u8, Sh.int IntKind.i64, Sh.int IntKind.i64, Sh.int IntKind.i64, Sh.int IntKind.u16, Sh.int IntKind.u8, Sh.int IntKind.u8, Sh.int IntKind.u8, Sh.int IntKind.u8, Sh.int IntKind.u8, Sh.int IntKind.u8, Sh.int IntKind.u8, Sh.int IntKind.u8, Sh.int IntKind.u8, Sh.int IntKind.u8, Sh.int IntKind.u8, Sh.int IntKind.u8, Sh.int IntKind.u8, Sh.int IntKind.u8, Sh.int IntKind.u8, Sh.int IntKind.u8, Sh.int IntKind.i64, Sh.int IntKind.u8, Sh.int IntKind.u8, Sh.int IntKind.u8, Sh.int IntKind.u8, Sh.int IntKind.u8, Sh.int IntKind.u8, Sh.int IntKind.u8, Sh.int IntKind.u8, Sh.int IntKind.u8, Sh.int IntKind.u8, Sh.int IntKind.u8, Sh.int IntKind.u8, Sh.int IntKind.u8, Sh.int IntKind.u8, Sh.int IntKind.u8, Sh.int IntKind.u8], Sh.int IntKind.i64]) r1) (aIf ((sel r0 [0, 0]).toInt == (sel r1 [0, 0]).toInt && ((sel r0 [0, 1]).toInt == (sel r1 [0, 1]).toInt && ((sel r0 [0, 2]).toInt == (sel r1 [0, 2]).toInt && ((sel r0 [0, 3]).toInt == (sel r1 [0, 3]).toInt && true))) && ((sel r0 [0, 4]).toInt == (sel r1 [0, 4]).toInt && true) && ((sel r0 [0, 5]).toInt == (sel r1 [0, 5]).toInt && ((sel r0 [0, 6]).toInt == (sel r1 [0, 6]).toInt && ((sel r0 [0, 7]).toInt == (sel r1 [0, 7]).toInt && true)) && ((sel r0 [0, 8]).toInt == (sel r1 [0, 8]).toInt && ((sel r0 [0, 9]).toInt == (sel r1 [0, 9]).toInt && ((sel r0 [0, 10]).toInt == (sel r1 [0, 10]).toInt && ((sel r0 [0, 11]).toInt == (sel r1 [0, 11]).toInt && ((sel r0 [0, 12]).toInt == (sel r1 [0, 12]).toInt && ((sel r0 [0, 13]).toInt == (sel r1 [0, 13]).toInt && ((sel r0 [0, 14]).toInt == (sel r1 [0, 14]).toInt && ((sel r0 [0, 15]).toInt == (sel r1 [0, 15]).toInt && ((sel r0 [0, 16]).toInt == (sel r1 [0, 16]).toInt && ((sel r0 [0, 17]).toInt == (sel r1 [0, 17]).toInt && ((sel r0 [0, 18]).toInt == (sel r1 [0, 18]).toInt && ((sel r0 [0, 19]).toInt == (sel r1 [0, 19]).toInt && ((sel r0 [0, 20]).toInt == (sel r1 [0, 20]).toInt && ((sel r0 [0, 21]).toInt == (sel r1 [0, 21]).toInt && ((sel r0 [0, 22]).toInt == (sel r1 [0, 22]).toInt && ((sel r0 [0, 23]).toInt == (sel r1 [0, 23]).toInt && true))))))))))))))) && ((sel r0 [0, 24]).toInt == (sel r1 [0, 24]).toInt && true) && ((sel r0 [0, 25]).toInt == (sel r1 [0, 25]).toInt && ((sel r0 [0, 26]).toInt == (sel r1 [0, 26]).toInt && ((sel r0 [0, 27]).toInt == (sel r1 [0, 27]).toInt && ((sel r0 [0, 28]).toInt == (sel r1 [0, 28]).toInt && ((sel r0 [0, 29]).toInt == (sel r1 [0, 29]).toInt && ((sel r0 [0, 30]).toInt == (sel r1 [0, 30]).toInt && ((sel r0 [0, 31]).toInt == (sel r1 [0, 31]).toInt && ((sel r0 [0, 32]).toInt == (sel r1 [0, 32]).toInt && ((sel r0 [0, 33]).toInt == (sel r1 [0, 33]).toInt && ((sel r0 [0, 34]).toInt == (sel r1 [0, 34]).toInt && ((sel r0 [0, 35]).toInt == (sel r1 [0, 35]).toInt && ((sel r0 [0, 36]).toInt == (sel r1 [0, 36]).toInt && ((sel r0 [0, 37]).toInt == (sel r1 [0, 37]).toInt && ((sel r0 [0, 38]).toInt == (sel r1 [0, 38]).toInt && ((sel r0 [0, 39]).toInt == (sel r1 [0, 39]).toInt && ((sel r0 [0, 40]).toInt == (sel r1 [0, 40]).toInt && true))))))))))))))) && true)))) (aIf ((sel r0 [1]).toInt == (sel r1 [1]).toInt) (some (AEnd.ret (AV.bool true), [])) (some (AEnd.ret (AV.bool false), []))) (some (AEnd.ret (AV.bool false), []))) none) none := by subst h0 h1; kernel_rfl
set_option maxRecDepth 20000 in
set_option maxHeartbeats 2000000 in
theorem law_holds : ∀ xs, argsV E 4 Tryd.f3.params.toList xs → S3 xs [] (fun e H => some (e, H)) = some (.ret (.bool true), []) := by
  intro xs h
  rw [Tryd.params3] at h
  obtain ⟨u, v, rfl, h1, h2⟩ := args2 h
  obtain ⟨x, z, n, m, e, o, f, hx, hz, hn, hm, he, ho, rfl⟩ := ruleArg h1 argT31 agg31
  obtain ⟨a, rfl, ha⟩ := intArg h2 argT32 agg32
  have ha := rng_u64 ha
  have e1 := R10_is (n := n) (m := m) (e := e) (f := f) hx hz ho ha.1 (show a < 18446744073709551616 by omega)
  have e2 := R11_is (n := n) (m := m) (e := e) (o := o) (f := f) hx hz ha.1 (show a < 18446744073709551616 by omega)
  have hs := edgW_has (X := [.int .u8 (x 0), .int .u8 (x 1), .int .u8 (x 2), .int .u8 (x 3), .int .u8 (x 4), .int .u8 (x 5), .int .u8 (x 6), .int .u8 (x 7), .int .u8 (x 8), .int .u8 (x 9), .int .u8 (x 10), .int .u8 (x 11), .int .u8 (x 12), .int .u8 (x 13), .int .u8 (x 14), .int .u8 (x 15)]) (Z := [.int .u8 (z 0), .int .u8 (z 1), .int .u8 (z 2), .int .u8 (z 3)]) (n := n) (m := m) (e := e) (o := o) ha.1 (show a < 18446744073709551616 by omega)
  have hS : shOK (.tup [edgS, .int .i64]) (some (.ret (.tup [edgW [.int .u8 (x 0), .int .u8 (x 1), .int .u8 (x 2), .int .u8 (x 3), .int .u8 (x 4), .int .u8 (x 5), .int .u8 (x 6), .int .u8 (x 7), .int .u8 (x 8), .int .u8 (x 9), .int .u8 (x 10), .int .u8 (x 11), .int .u8 (x 12), .int .u8 (x 13), .int .u8 (x 14), .int .u8 (x 15)] [.int .u8 (z 0), .int .u8 (z 1), .int .u8 (z 2), .int .u8 (z 3)] n m e o a, .int .i64 (edgE [.int .u8 (x 0), .int .u8 (x 1), .int .u8 (x 2), .int .u8 (x 3), .int .u8 (x 4), .int .u8 (x 5), .int .u8 (x 6), .int .u8 (x 7), .int .u8 (x 8), .int .u8 (x 9), .int .u8 (x 10), .int .u8 (x 11), .int .u8 (x 12), .int .u8 (x 13), .int .u8 (x 14), .int .u8 (x 15)] [.int .u8 (z 0), .int .u8 (z 1), .int .u8 (z 2), .int .u8 (z 3)] n m e o a)]), [])) = true := by
    rw [shOK_ret, has_tup, hasL_cons, hasL_cons, hasL_nil, List.getD_cons_zero, List.getD_cons_succ, List.getD_cons_zero, hs.1, has_int, hs.2]; rfl
  rw [N3 x z n m e o f a e1.symm e2.symm]
  refine (aIf_pos hS).trans ((aIf_pos hS).trans ?_)
  simp only [beq_self_eq_true, Bool.and_self, aIf_true]

theorem law_spec {H : Type} (ds : List (DataW H)) (h : ds.length = Tryd.f3.params.toList.length) : (Rows.mappingEdgesSpec.fn H (ds ++ [])).results = [.lit (.bool true)] ∧ (Rows.mappingEdgesSpec.fn H (ds ++ [])).args = ds ∧ (Rows.mappingEdgesSpec.fn H (ds ++ [])).vars = [] := by
  rw [Tryd.params3] at h
  match ds, h with
  | [d0, d1], _ => exact ⟨rfl, rfl, rfl⟩

theorem tab1 {W : World} (h : laidMet Tryd.prog Rows.mappingEdgesRow.laid W) : Lib.TabIs Tryd.prog W "math/bits.deBruijn32tab" .u8 [0, 1, 28, 2, 29, 14, 24, 3, 30, 22, 20, 15, 25, 17, 4, 8, 31, 27, 13, 23, 21, 19, 16, 7, 26, 12, 18, 6, 11, 5, 10, 9] :=
  Lib.tabIs_of_head (g := 1) (t := 149) (e := 5) (n := 32) (by kernel_rfl) (by kernel_rfl) (by kernel_rfl) (by kernel_rfl) (by kernel_rfl) (by kernel_rfl) h
theorem tab2 {W : World} (h : laidMet Tryd.prog Rows.mappingEdgesRow.laid W) : Lib.TabIs Tryd.prog W "math/bits.deBruijn64tab" .u8 [0, 1, 56, 2, 57, 49, 28, 3, 61, 58, 42, 50, 38, 29, 17, 4, 62, 47, 59, 36, 45, 43, 51, 22, 53, 39, 33, 30, 24, 18, 12, 5, 63, 55, 48, 27, 60, 41, 37, 16, 46, 35, 44, 21, 52, 32, 23, 11, 54, 26, 40, 15, 34, 20, 31, 10, 25, 14, 19, 9, 13, 8, 7, 6] :=
  Lib.tabIs_of_head (g := 2) (t := 150) (e := 5) (n := 64) (by kernel_rfl) (by kernel_rfl) (by kernel_rfl) (by kernel_rfl) (by kernel_rfl) (by kernel_rfl) h.tail
theorem tab0 {W : World} (h : laidMet Tryd.prog Rows.mappingEdgesRow.laid W) : Lib.TabIs Tryd.prog W "internal/strconv.uint64pow10" .u64 [1, 10, 100, 1000, 10000, 100000, 1000000, 10000000, 100000000, 1000000000, 10000000000, 100000000000, 1000000000000, 10000000000000, 100000000000000, 1000000000000000, 10000000000000000, 100000000000000000, 1000000000000000000, 10000000000000000000] :=
  Lib.tabIs_of_head (g := 0) (t := 143) (e := 32) (n := 20) (by kernel_rfl) (by kernel_rfl) (by kernel_rfl) (by kernel_rfl) (by kernel_rfl) (by kernel_rfl) h.tail.tail
theorem globs {W : World} (h : laidMet Tryd.prog Rows.mappingEdgesRow.laid W) : GlobOK W.cell? := by
  intro g i x hx
  match g with
  | 0 =>
    have := fun i hi => (tab0 h).cell (g := 0) (by kernel_rfl) i hi
    exact globTab this hx
  | 1 =>
    have := fun i hi => (tab1 h).cell (g := 1) (by kernel_rfl) i hi
    exact globTab this hx
  | 2 =>
    have := fun i hi => (tab2 h).cell (g := 2) (by kernel_rfl) i hi
    exact globTab this hx
  | g + 3 => simp [globInts] at hx

set_option maxRecDepth 100000 in
theorem law_lifted (os : Os) (started : os.Started) (H : Type) (enc : TypeId × Value → H) :
    ReturnsInHanded {} Tryd.checked os 3 .any (fun w args => (Rows.mappingEdgesSpec.pre enc Tryd.prog Tryd.f3 Rows.mappingEdgesRow.domain false w args ∧ laidMetH Tryd.prog Rows.mappingEdgesRow.laid w) ∧ sizedMet enc Tryd.prog Tryd.f3 (OpenSpec.ofChange Rows.mappingEdgesSpec) false w args)
      (Rows.mappingEdgesSpec.post enc Tryd.prog Tryd.f3 false true false false) := by
  refine returnsInHanded_of_change_and (C := Tryd.checked) (X := fun w _ => laidMetH Tryd.prog Rows.mappingEdgesRow.laid w) (fun _ _ _ hh h => h.of_heap hh) own started (by kernel_rfl) Tryd.func3
    (ChangeSpec.witness_shaped (enc := enc) (C := Tryd.checked) (os := os) (X := fun w _ => laidMetH Tryd.prog Rows.mappingEdgesRow.laid w) false (World.laidAll Tryd.prog os Rows.mappingEdgesRow.laid) #[.agg #[.int .u8 0, .int .u8 0, .int .u8 0, .int .u8 0, .int .u8 0, .int .u8 0, .int .u8 0, .int .u8 0, .int .u8 0, .int .u8 0, .int .u8 0, .int .u8 0, .int .u8 0, .int .u8 0, .int .u8 0, .int .u8 0, .int .i64 0, .int .u8 0, .int .u8 0, .int .u8 0, .int .u8 0, .int .i64 0, .int .i64 0, .int .i64 0, .bool false], .int .u64 0] 8 (World.laidAll_os _ _ _)
      (World.shaped_of_ZipB (by kernel_rfl) (by kernel_rfl)) (by kernel_rfl) (by kernel_rfl) (by kernel_rfl)
      (by rw [MakeChecks.laidMetH_plain _ _ _ (by kernel_rfl)]; exact laidMet_laidAll _ (by kernel_rfl) (by kernel_rfl))) ?_
  intro W base args ds gs before hval hW _ _ hL _
  have hL' : laidMet Tryd.prog Rows.mappingEdgesRow.laid W := by rw [MakeChecks.laidMetH_plain _ _ _ (by kernel_rfl)] at hL; exact hL
  exact law_post (P := Tryd.prog) (E := E) (D := 4) (tb := 4) (fn := Tryd.f3) E_ok laidOut (by kernel_rfl) rfl (by kernel_rfl) rfl law_spec S3_ok law_holds (globs hL') hval hW

theorem mappingEdges_row : Rows.MappingEdgesSaid :=
  OpenClaim.holds_of_wide 3 Tryd.f3 rfl rfl rfl rfl rfl rfl rfl ⟨rfl, rfl, rfl, rfl, rfl⟩ rfl rfl rfl rfl rfl (by kernel_rfl) Tryd.func3 (by kernel_rfl)
    (of_decide_eq_true (by kernel_rfl)) (by unfold Func.isWrapper; first | (rw [if_pos (by decide +kernel)]; kernel_rfl) | (rw [if_neg (by decide +kernel)]; exact ⟨rfl, rfl⟩))
    (fun os started H enc _ => law_lifted os started H enc)

theorem mappingEdges_holds : Rows.MappingEdgesCardSaid :=
  Claim7.holds_tied_plain_at .later [] [.data, .data, .data] true (true, "55f7b0de1282a77de9fe55d57d9ebffdfd12b5eb867d109fa3e09de72e3b9cc9") false
    mappingEdges_row (fun _ h => by cases h) (by kernel_rfl) (fun _ h => by cases h) mappingEdges_row_tie rfl ⟨rfl, rfl⟩ (by kernel_rfl) rfl
    (fun f fn hf hfn => by
      obtain rfl : f = 3 := Option.some.inj ((show Tryd.prog.funcNamed Rows.mappingEdgesRow.func = some 3 by kernel_rfl).symm.trans hf) |>.symm
      obtain rfl : fn = Tryd.f3 := (Option.some.inj (Tryd.func3.symm.trans hfn)).symm
      exact ⟨by kernel_rfl, fun j t ht => by
        have hm : t ∈ Tryd.f3.params.toList := by
          rw [← Array.getElem?_toList] at ht
          exact List.mem_of_getElem? ht
        have ha : Tryd.f3.params.toList.all (fun t => !Tryd.prog.wantsStandIn t) = true := by kernel_rfl
        have := List.all_eq_true.1 ha t hm
        exact (show Tryd.prog.wantsStandIn t = false by simpa using this)⟩)
    (by kernel_rfl)

#print axioms mappingEdges_holds

end Go.Proofs.YtlfhkoajmjfbpaaDoor

