/- EmbedGlobals: which IPv4 addresses are global, and the well-known prefix, are the document's, for every address. -/
import Derived.Test.YtkbnhliogfcplaaDoorFEmbedGlobals
import Derived.Test.YtkbnhliogfcplaaDoorA20
import Derived.Test.YtkbnhliogfcplaaDoorPAddr
import Derived.ProofKit
import Derived.Lay
import Derived.LaidMore
import Derived.SevenTiedAt
import Derived.Lib.LaidTab
import Derived.Stop.LaidErr
import Derived.Stop.Joined
import Derived.Test.YtkbnhliogfcplaaDoorTie
import Derived.Test.YtkbnhliogfcplaaDoorCards
namespace Go.Proofs.YtkbnhliogfcplaaDoor
open Go.Abs Go.Pl Go.RowKit Go.ChangeShapes Go.WideShapes Go.ChangeAt

theorem own : ownKnob Tryd.prog.godebug = none := by kernel_rfl
theorem laidOut : laidOutB Tryd.prog = true := by kernel_rfl
theorem argT27 (xs : List AV) : argT E 4 27 xs = a4T xs := by kernel_rfl
theorem agg27 : aggT E 27 = true := by kernel_rfl

theorem N5 (z : Nat → Int) : S5 [.agg [.int .u8 (z 0), .int .u8 (z 1), .int .u8 (z 2), .int .u8 (z 3)]] [] (fun e H => some (e, H)) =
  aIf (shOK Sh.bool (R15 [AV.agg [AV.int IntKind.u8 (z 0), AV.int IntKind.u8 (z 1), AV.int IntKind.u8 (z 2), AV.int IntKind.u8 (z 3)]])) (aIf (shOK Sh.bool (R16 [AV.agg [AV.int IntKind.u8 (z 0), AV.int IntKind.u8 (z 1), AV.int IntKind.u8 (z 2), AV.int IntKind.u8 (z 3)]])) (aIf ((sel (R15 [AV.agg [AV.int IntKind.u8 (z 0), AV.int IntKind.u8 (z 1), AV.int IntKind.u8 (z 2), AV.int IntKind.u8 (z 3)]]) []).toBool == (sel (R16 [AV.agg [AV.int IntKind.u8 (z 0), AV.int IntKind.u8 (z 1), AV.int IntKind.u8 (z 2), AV.int IntKind.u8 (z 3)]]) []).toBool) (some (AEnd.ret (AV.bool true), [])) (some (AEnd.ret (AV.bool false), []))) none) none := by kernel_rfl

theorem law_holds : ∀ xs, argsV E 4 Tryd.f5.params.toList xs → S5 xs [] (fun e H => some (e, H)) = some (.ret (.bool true), []) := by
  intro xs h
  rw [Tryd.params5] at h
  obtain ⟨u, rfl, h1⟩ := args1 h
  obtain ⟨z, hz, rfl⟩ := a4Arg h1 argT27 agg27
  rw [N5, ← R16_same hz, R15_ok hz]
  simp only [beq_self_eq_true, Bool.and_self, aIf_true]

theorem law_spec {H : Type} (ds : List (DataW H)) (h : ds.length = Tryd.f5.params.toList.length) : (Rows.embedGlobalsSpec.fn H (ds ++ [])).results = [.lit (.bool true)] ∧ (Rows.embedGlobalsSpec.fn H (ds ++ [])).args = ds ∧ (Rows.embedGlobalsSpec.fn H (ds ++ [])).vars = [] := by
  rw [Tryd.params5] at h
  match ds, h with
  | [d0], _ => exact ⟨rfl, rfl, rfl⟩

theorem tab1 {W : World} (h : laidMet Tryd.prog Rows.embedGlobalsRow.laid W) : Lib.TabIs Tryd.prog W "math/bits.deBruijn32tab" .u8 [0, 1, 28, 2, 29, 14, 24, 3, 30, 22, 20, 15, 25, 17, 4, 8, 31, 27, 13, 23, 21, 19, 16, 7, 26, 12, 18, 6, 11, 5, 10, 9] :=
  Lib.tabIs_of_head (g := 1) (t := 108) (e := 5) (n := 32) (by kernel_rfl) (by kernel_rfl) (by kernel_rfl) (by kernel_rfl) (by kernel_rfl) (by kernel_rfl) h
theorem tab2 {W : World} (h : laidMet Tryd.prog Rows.embedGlobalsRow.laid W) : Lib.TabIs Tryd.prog W "math/bits.deBruijn64tab" .u8 [0, 1, 56, 2, 57, 49, 28, 3, 61, 58, 42, 50, 38, 29, 17, 4, 62, 47, 59, 36, 45, 43, 51, 22, 53, 39, 33, 30, 24, 18, 12, 5, 63, 55, 48, 27, 60, 41, 37, 16, 46, 35, 44, 21, 52, 32, 23, 11, 54, 26, 40, 15, 34, 20, 31, 10, 25, 14, 19, 9, 13, 8, 7, 6] :=
  Lib.tabIs_of_head (g := 2) (t := 109) (e := 5) (n := 64) (by kernel_rfl) (by kernel_rfl) (by kernel_rfl) (by kernel_rfl) (by kernel_rfl) (by kernel_rfl) h.tail
theorem tab0 {W : World} (h : laidMet Tryd.prog Rows.embedGlobalsRow.laid W) : Lib.TabIs Tryd.prog W "internal/strconv.uint64pow10" .u64 [1, 10, 100, 1000, 10000, 100000, 1000000, 10000000, 100000000, 1000000000, 10000000000, 100000000000, 1000000000000, 10000000000000, 100000000000000, 1000000000000000, 10000000000000000, 100000000000000000, 1000000000000000000, 10000000000000000000] :=
  Lib.tabIs_of_head (g := 0) (t := 101) (e := 93) (n := 20) (by kernel_rfl) (by kernel_rfl) (by kernel_rfl) (by kernel_rfl) (by kernel_rfl) (by kernel_rfl) h.tail.tail
theorem globs {W : World} (h : laidMet Tryd.prog Rows.embedGlobalsRow.laid W) : GlobOK W.cell? := by
  intro g i x hx
  match g with
  | 0 =>
    have := fun i hi => (tab0 h).cell (g := 0) (by kernel_rfl) i hi
    exact globTab this hx
  | 1 =>
    have := fun i hi => (tab1 h).cell (g := 1) (by kernel_rfl) i hi
    exact globTab this hx
  | 2 =>
    have := fun i hi => (tab2 h).cell (g := 2) (by kernel_rfl) i hi
    exact globTab this hx
  | g + 3 => simp [globInts] at hx

set_option maxRecDepth 100000 in
theorem law_lifted (os : Os) (started : os.Started) (H : Type) (enc : TypeId × Value → H) :
    ReturnsInHanded {} Tryd.checked os 5 .any (fun w args => (Rows.embedGlobalsSpec.pre enc Tryd.prog Tryd.f5 Rows.embedGlobalsRow.domain false w args ∧ laidMetH Tryd.prog Rows.embedGlobalsRow.laid w) ∧ sizedMet enc Tryd.prog Tryd.f5 (OpenSpec.ofChange Rows.embedGlobalsSpec) false w args)
      (Rows.embedGlobalsSpec.post enc Tryd.prog Tryd.f5 false true false false) := by
  refine returnsInHanded_of_change_and (C := Tryd.checked) (X := fun w _ => laidMetH Tryd.prog Rows.embedGlobalsRow.laid w) (fun _ _ _ hh h => h.of_heap hh) own started (by kernel_rfl) Tryd.func5
    (ChangeSpec.witness_shaped (enc := enc) (C := Tryd.checked) (os := os) (X := fun w _ => laidMetH Tryd.prog Rows.embedGlobalsRow.laid w) false (World.laidAll Tryd.prog os Rows.embedGlobalsRow.laid) #[.agg #[.int .u8 0, .int .u8 0, .int .u8 0, .int .u8 0]] 8 (World.laidAll_os _ _ _)
      (World.shaped_of_ZipB (by kernel_rfl) (by kernel_rfl)) (by kernel_rfl) (by kernel_rfl) (by kernel_rfl)
      (by rw [MakeChecks.laidMetH_plain _ _ _ (by kernel_rfl)]; exact laidMet_laidAll _ (by kernel_rfl) (by kernel_rfl))) ?_
  intro W base args ds gs before hval hW _ _ hL _
  have hL' : laidMet Tryd.prog Rows.embedGlobalsRow.laid W := by rw [MakeChecks.laidMetH_plain _ _ _ (by kernel_rfl)] at hL; exact hL
  exact law_post (P := Tryd.prog) (E := E) (D := 4) (tb := 4) (fn := Tryd.f5) E_ok laidOut (by kernel_rfl) rfl (by kernel_rfl) rfl law_spec S5_ok law_holds (globs hL') hval hW

theorem embedGlobals_row : Rows.EmbedGlobalsSaid :=
  OpenClaim.holds_of_wide 5 Tryd.f5 rfl rfl rfl rfl rfl rfl rfl ⟨rfl, rfl, rfl, rfl, rfl⟩ rfl rfl rfl rfl rfl (by kernel_rfl) Tryd.func5 (by kernel_rfl)
    (of_decide_eq_true (by kernel_rfl)) (by unfold Func.isWrapper; first | (rw [if_pos (by decide +kernel)]; kernel_rfl) | (rw [if_neg (by decide +kernel)]; exact ⟨rfl, rfl⟩))
    (fun os started H enc _ => law_lifted os started H enc)

theorem embedGlobals_holds : Rows.EmbedGlobalsCardSaid :=
  Claim7.holds_tied_plain_at .later [] [.data, .data, .data] true (true, "3469146600ab8a648211d9da940bb2167aef66d77c08a1e048648ce454489489") false
    embedGlobals_row (fun _ h => by cases h) (by kernel_rfl) (fun _ h => by cases h) embedGlobals_row_tie rfl ⟨rfl, rfl⟩ (by kernel_rfl) rfl
    (fun f fn hf hfn => by
      obtain rfl : f = 5 := Option.some.inj ((show Tryd.prog.funcNamed Rows.embedGlobalsRow.func = some 5 by kernel_rfl).symm.trans hf) |>.symm
      obtain rfl : fn = Tryd.f5 := (Option.some.inj (Tryd.func5.symm.trans hfn)).symm
      exact ⟨by kernel_rfl, fun j t ht => by
        have hm : t ∈ Tryd.f5.params.toList := by
          rw [← Array.getElem?_toList] at ht
          exact List.mem_of_getElem? ht
        have ha : Tryd.f5.params.toList.all (fun t => !Tryd.prog.wantsStandIn t) = true := by kernel_rfl
        have := List.all_eq_true.1 ha t hm
        exact (show Tryd.prog.wantsStandIn t = false by simpa using this)⟩)
    (by kernel_rfl)

#print axioms embedGlobals_holds

end Go.Proofs.YtkbnhliogfcplaaDoor

