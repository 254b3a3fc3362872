import Derived.Test.YtkbnhliogfcplaaFSplitsixMakesc
namespace Go.Proofs.Ytkbnhliogfcplaa
open Go.Abs Go.Pl

/-- ferryman/ferrymanlaw14.awake -/
noncomputable def W9 : FSpec := shareK S9z
theorem W9_ok : SpecOK Try.prog 9 W9 := S9z_ok.share
noncomputable def T8 : List (FuncId × FSpec) := [(9, W9)]
theorem T8_ok : TabOK Try.prog T8 := TabOK.cons En9 W9_ok (TabOK.nil _)
noncomputable def C8 : Ctx := (ctx E T8 [] [(0, []), (1, [1, 2]), (2, [0])] [] 59 70)
theorem C8_ok : CtxOK Try.prog C8 := ctx_ok E_ok E_flds mixed T8_ok
noncomputable def B8 : FSpec := inlineK C8 Try.f8
noncomputable def S8 : FSpec := constK (AV.bool true)
theorem B8_ok : SpecOK Try.prog 8 B8 := inlineK_ok C8_ok Try.func8 (fun _ _ => LoopsOK.none _)
theorem B8_is (k : KE) : B8 [] [] k = k (.ret (AV.bool true)) [] := by kernel_rfl
theorem S8_ok : SpecOK Try.prog 8 S8 := constK_ok B8_ok B8_is
theorem En8 : Enters Try.prog 8 := ⟨_, Try.func8, by decide, rfl⟩

/-- ferryman/ferrymanref14.heads -/
noncomputable def T29 : List (FuncId × FSpec) := []
theorem T29_ok : TabOK Try.prog T29 := TabOK.nil _
noncomputable def L29_3 : ATs → AH → KC → Res := fun ts H k => match ts, H with
  | [(1, .ptr 0 0 0), (3, .int .i64 m), (4, .int .i64 i)], [.cells 0 cs] => aIf (i == 0 && m == 48 && v6G cs && rightH (cs.getD 35 .junk).toFs && decide ((cs.getD 35 .junk).toFs.length ≤ 8)) (k (.exit 0) [(1, .ptr 0 0 0), (3, .int .i64 ((48 + headsN (cs.getD 35 .junk).toFs : Nat) : Int)), (4, .int .i64 ((cs.getD 35 .junk).toFs.length : Int)), (9, .bool false)] [.cells 0 cs]) none
  | _, _ => none
noncomputable def C29 : Ctx := (ctx E T29 [(3, L29_3)] [(0, [1]), (1, [1, 3]), (2, [1, 3, 4]), (3, [1, 3, 4, 9]), (4, [1, 3, 4]), (5, [1, 3, 4]), (6, [2]), (1000003, [1, 3, 4])] [] 23 70)
theorem C29_ok : CtxOK Try.prog C29 := ctx_ok E_ok E_flds mixed T29_ok
theorem C29_l0 : C29.loop (loopId (loopB Try.f29 0)) = some L29_3 := by kernel_rfl
theorem L29_3_in : LoopsOK C29 (loopB Try.f29 0) := LoopsOK.within 0 (by kernel_rfl) (fun j hj S hS => by
  omega)
theorem M29_3a (m i : Int) (cl lb hop : Int) (x y : Nat → Int) (hs : List AV) (hf : SF) (fr : Bool) (id off : Int) (mo : Bool) (pr : Int) (bs : List AV) (bf : SF) (k : KC) {c0 : _} (gc0 : c0 = [AO.cells 0 [AV.int IntKind.u8 cl, AV.int IntKind.u32 lb, AV.int IntKind.u8 hop, AV.int IntKind.u8 (x 0), AV.int IntKind.u8 (x 1), AV.int IntKind.u8 (x 2), AV.int IntKind.u8 (x 3), AV.int IntKind.u8 (x 4), AV.int IntKind.u8 (x 5), AV.int IntKind.u8 (x 6), AV.int IntKind.u8 (x 7), AV.int IntKind.u8 (x 8), AV.int IntKind.u8 (x 9), AV.int IntKind.u8 (x 10), AV.int IntKind.u8 (x 11), AV.int IntKind.u8 (x 12), AV.int IntKind.u8 (x 13), AV.int IntKind.u8 (x 14), AV.int IntKind.u8 (x 15), AV.int IntKind.u8 (y 0), AV.int IntKind.u8 (y 1), AV.int IntKind.u8 (y 2), AV.int IntKind.u8 (y 3), AV.int IntKind.u8 (y 4), AV.int IntKind.u8 (y 5), AV.int IntKind.u8 (y 6), AV.int IntKind.u8 (y 7), AV.int IntKind.u8 (y 8), AV.int IntKind.u8 (y 9), AV.int IntKind.u8 (y 10), AV.int IntKind.u8 (y 11), AV.int IntKind.u8 (y 12), AV.int IntKind.u8 (y 13), AV.int IntKind.u8 (y 14), AV.int IntKind.u8 (y 15), AV.fs 2 hs hf, AV.bool fr, AV.int IntKind.u32 id, AV.int IntKind.i64 off, AV.bool mo, AV.int IntKind.u8 pr, AV.fs 1 bs bf]]) :
  headedK C29 (loopB Try.f29 0) [(1, .ptr 0 0 0), (3, .int .i64 m), (4, .int .i64 i)] [.cells 0 [.int .u8 cl, .int .u32 lb, .int .u8 hop, .int .u8 (x 0), .int .u8 (x 1), .int .u8 (x 2), .int .u8 (x 3), .int .u8 (x 4), .int .u8 (x 5), .int .u8 (x 6), .int .u8 (x 7), .int .u8 (x 8), .int .u8 (x 9), .int .u8 (x 10), .int .u8 (x 11), .int .u8 (x 12), .int .u8 (x 13), .int .u8 (x 14), .int .u8 (x 15), .int .u8 (y 0), .int .u8 (y 1), .int .u8 (y 2), .int .u8 (y 3), .int .u8 (y 4), .int .u8 (y 5), .int .u8 (y 6), .int .u8 (y 7), .int .u8 (y 8), .int .u8 (y 9), .int .u8 (y 10), .int .u8 (y 11), .int .u8 (y 12), .int .u8 (y 13), .int .u8 (y 14), .int .u8 (y 15), .fs 2 hs hf, .bool fr, .int .u32 id, .int .i64 off, .bool mo, .int .u8 pr, .fs 1 bs bf]] k =
  aIf (decide (i < (↑hs.length : Int))) (aIf (decide (0 ≤ i)) (aIf (decide (i < (↑hs.length : Int))) (aIf ((hs.getD i.toNat AV.junk).cells.length == 2) (aIf (AV.isFs 1 ([(hs.getD i.toNat AV.junk).cells.getD 1 AV.junk].getD 0 AV.junk)) (k AExit.normal [(1, AV.ptr 0 0 0), (3, AV.int IntKind.i64 (IntKind.i64.wrap (IntKind.i64.wrap (m + 2) + (↑([(hs.getD i.toNat AV.junk).cells.getD 1 AV.junk].getD 0 AV.junk).toFs.length : Int)))), (4, AV.int IntKind.i64 (IntKind.i64.wrap (i + 1)))] c0) none) none) none) none) (k (AExit.exit 0) [(1, AV.ptr 0 0 0), (3, AV.int IntKind.i64 m), (4, AV.int IntKind.i64 i), (9, AV.bool (decide (i < (↑hs.length : Int))))] c0) := by subst gc0; kernel_rfl
theorem L29_3_ok : LoopSum C29 (loopB Try.f29 0) L29_3 := LoopSum.of C29_ok L29_3_in (fun ts H => by
  unfold L29_3
  split
  · rename_i m i cs
    rcases Bool.eq_false_or_eq_true (i == 0 && m == 48 && v6G cs && rightH (cs.getD 35 .junk).toFs && decide ((cs.getD 35 .junk).toFs.length ≤ 8)) with hp | hp
    · refine .inr ?_
      simp only [aIf_pos hp]
      simp only [Bool.and_eq_true, beq_iff_eq, decide_eq_true_eq] at hp
      obtain ⟨⟨⟨⟨rfl, rfl⟩, hg⟩, hr⟩, hl⟩ := hp
      obtain ⟨cl, lb, hop, x, y, hs, hf, fr, id, off, mo, pr, bs, bf, rfl, hok⟩ := v6G_iff.1 hg
      obtain ⟨hh, _⟩ := v6Ok_iff.1 hok
      replace hl : hs.length ≤ 8 := hl
      replace hr : rightH hs = true := hr
      obtain ⟨HR, hHR⟩ : ∃ HR : AH, HR = [.cells 0 (v6L cl lb hop x y hs hf fr id off mo pr bs bf)] := ⟨_, rfl⟩
      have eH : HR = [.cells 0 [.int .u8 cl, .int .u32 lb, .int .u8 hop, .int .u8 (x 0), .int .u8 (x 1), .int .u8 (x 2), .int .u8 (x 3), .int .u8 (x 4), .int .u8 (x 5), .int .u8 (x 6), .int .u8 (x 7), .int .u8 (x 8), .int .u8 (x 9), .int .u8 (x 10), .int .u8 (x 11), .int .u8 (x 12), .int .u8 (x 13), .int .u8 (x 14), .int .u8 (x 15), .int .u8 (y 0), .int .u8 (y 1), .int .u8 (y 2), .int .u8 (y 3), .int .u8 (y 4), .int .u8 (y 5), .int .u8 (y 6), .int .u8 (y 7), .int .u8 (y 8), .int .u8 (y 9), .int .u8 (y 10), .int .u8 (y 11), .int .u8 (y 12), .int .u8 (y 13), .int .u8 (y 14), .int .u8 (y 15), .fs 2 hs hf, .bool fr, .int .u32 id, .int .i64 off, .bool mo, .int .u8 pr, .fs 1 bs bf]] := hHR
      rw [← hHR]
      rw [show (v6L cl lb hop x y hs hf fr id off mo pr bs bf).getD 35 .junk = .fs 2 hs hf from rfl]
      simp only [show ∀ xs f, (AV.fs 2 xs f).toFs = xs from fun _ _ => rfl]
      have key : ∀ (j d : Nat), j < hs.length → d ≤ j * 2048 → d + 2 + (bdAt (hs.getD j .junk)).length ≤ (j + 1) * 2048 ∧ ∀ k, headedK C29 (loopB Try.f29 0) [(1, .ptr 0 0 0), (3, .int .i64 ((48 + d : Nat) : Int)), (4, .int .i64 (j : Int))] HR k = k .normal [(1, .ptr 0 0 0), (3, .int .i64 ((48 + (d + 2 + (bdAt (hs.getD j .junk)).length) : Nat) : Int)), (4, .int .i64 ((j + 1 : Nat) : Int))] HR := by
        intro j d hj hd
        obtain ⟨kk, b, g, e, hb1, hb2, hk0, hk1⟩ := hds_get hh hj
        have hbl := rightH_len hr hj e
        rw [show (bdAt (hs.getD j .junk)).length = b.length by rw [e]; rfl]
        refine ⟨by omega, fun k => ?_⟩
        have ag : ∀ cs, (AV.agg cs).cells = cs := fun _ => rfl
        have ii : ∀ k n, (AV.int k n).isInt k = true := fun k n => by cases k <;> rfl
        have fi : ∀ xs f, (AV.fs 1 xs f).isFs 1 = true := fun _ _ => rfl
        have ft : ∀ xs f, (AV.fs 1 xs f).toFs = xs := fun _ _ => rfl
        have b2 : ∀ a b : AV, (([a, b] : List AV).length == 2) = true := fun _ _ => rfl
        have hn1 : IntKind.i64.wrap ((j : Int) + 1) = ((j + 1 : Nat) : Int) := by rw [i64_of (by omega) (by omega)]; omega
        have hw : IntKind.i64.wrap (IntKind.i64.wrap (((48 + d : Nat) : Int) + 2) + (b.length : Int)) = ((48 + (d + 2 + b.length) : Nat) : Int) := by rw [i64_of (n := ((48 + d : Nat) : Int) + 2) (by omega) (by omega), i64_of (by omega) (by omega)]; omega
        have hM := M29_3a ((48 + d : Nat) : Int) (j : Int) cl lb hop x y hs hf fr id off mo pr bs bf k (c0 := HR) eH
        rw [← eH] at hM
        rw [hM]
        simp only [decide_eq_true (show (j : Int) < (hs.length : Int) by omega), decide_eq_true (show (0 : Int) ≤ (j : Int) by omega), Int.toNat_natCast, e, ag, b2, List.getD_cons_zero, List.getD_cons_succ, ii, fi, ft, toInt_int, aIf_true, aIf_false, hn1, List.length_cons, List.length_nil, hw]
        rfl
      obtain ⟨m', hm⟩ := iter_fold (δ := Nat) (N := hs.length) (F := headedK C29 (loopB Try.f29 0)) (ts := fun j d => [(1, .ptr 0 0 0), (3, .int .i64 ((48 + d : Nat) : Int)), (4, .int .i64 (j : Int))]) (H := fun _ _ => HR) (f := fun j n => n + 2 + (bdAt (hs.getD j .junk)).length) (I := fun j d => d ≤ j * 2048) (ee := .exit 0) (te := fun d => [(1, .ptr 0 0 0), (3, .int .i64 ((48 + d : Nat) : Int)), (4, .int .i64 (hs.length : Int)), (9, .bool false)]) (He := fun _ => HR)
        (fun j d hj hd => key j d hj hd) (fun d hd k => by
          have hM := M29_3a ((48 + d : Nat) : Int) (hs.length : Int) cl lb hop x y hs hf fr id off mo pr bs bf k (c0 := HR) eH
          rw [← eH] at hM
          rw [hM, decide_eq_false (show ¬ (hs.length : Int) < (hs.length : Int) by omega), aIf_false]) (by intro h; cases h) hs.length 0 0 (by omega) (by omega)
      exact ⟨m', fun k => (hm k).symm⟩
    · exact .inl fun k => by rw [aIf_neg hp]
  · exact .inl fun k => rfl)
theorem C29_loops : ∀ c, Try.f29.body = some c → LoopsOK C29 c := LoopsOK.of 1 (by kernel_rfl) (fun j hj S hS => by
  match j, hj with
  | 0, _ => rw [C29_l0] at hS; cases hS; exact L29_3_ok
  | n + 1, hj => omega)
noncomputable def B29 : FSpec := inlineK C29 Try.f29
noncomputable def S29 : FSpec := fun args H k => match args, H with
  | [.agg cs], [] => aIf (v6G cs && (rightH (cs.getD 35 .junk).toFs && decide ((cs.getD 35 .junk).toFs.length ≤ 8))) (k (.ret (.int .i64 ((48 + headsN (cs.getD 35 .junk).toFs : Nat) : Int))) []) none
  | _, _ => none
theorem B29_ok : SpecOK Try.prog 29 B29 := inlineK_ok C29_ok Try.func29 C29_loops
theorem N29 (cl lb hop : Int) (x y : Nat → Int) (hs : List AV) (hf : SF) (fr : Bool) (id off : Int) (mo : Bool) (pr : Int) (bs : List AV) (bf : SF)  (k : KE) : B29 [.agg [.int .u8 cl, .int .u32 lb, .int .u8 hop, .int .u8 (x 0), .int .u8 (x 1), .int .u8 (x 2), .int .u8 (x 3), .int .u8 (x 4), .int .u8 (x 5), .int .u8 (x 6), .int .u8 (x 7), .int .u8 (x 8), .int .u8 (x 9), .int .u8 (x 10), .int .u8 (x 11), .int .u8 (x 12), .int .u8 (x 13), .int .u8 (x 14), .int .u8 (x 15), .int .u8 (y 0), .int .u8 (y 1), .int .u8 (y 2), .int .u8 (y 3), .int .u8 (y 4), .int .u8 (y 5), .int .u8 (y 6), .int .u8 (y 7), .int .u8 (y 8), .int .u8 (y 9), .int .u8 (y 10), .int .u8 (y 11), .int .u8 (y 12), .int .u8 (y 13), .int .u8 (y 14), .int .u8 (y 15), .fs 2 hs hf, .bool fr, .int .u32 id, .int .i64 off, .bool mo, .int .u8 pr, .fs 1 bs bf]] [] k =
  aIf (true && Pl.v6G [AV.int IntKind.u8 cl, AV.int IntKind.u32 lb, AV.int IntKind.u8 hop, AV.int IntKind.u8 (x 0), AV.int IntKind.u8 (x 1), AV.int IntKind.u8 (x 2), AV.int IntKind.u8 (x 3), AV.int IntKind.u8 (x 4), AV.int IntKind.u8 (x 5), AV.int IntKind.u8 (x 6), AV.int IntKind.u8 (x 7), AV.int IntKind.u8 (x 8), AV.int IntKind.u8 (x 9), AV.int IntKind.u8 (x 10), AV.int IntKind.u8 (x 11), AV.int IntKind.u8 (x 12), AV.int IntKind.u8 (x 13), AV.int IntKind.u8 (x 14), AV.int IntKind.u8 (x 15), AV.int IntKind.u8 (y 0), AV.int IntKind.u8 (y 1), AV.int IntKind.u8 (y 2), AV.int IntKind.u8 (y 3), AV.int IntKind.u8 (y 4), AV.int IntKind.u8 (y 5), AV.int IntKind.u8 (y 6), AV.int IntKind.u8 (y 7), AV.int IntKind.u8 (y 8), AV.int IntKind.u8 (y 9), AV.int IntKind.u8 (y 10), AV.int IntKind.u8 (y 11), AV.int IntKind.u8 (y 12), AV.int IntKind.u8 (y 13), AV.int IntKind.u8 (y 14), AV.int IntKind.u8 (y 15), AV.fs 2 hs hf, AV.bool fr, AV.int IntKind.u32 id, AV.int IntKind.i64 off, AV.bool mo, AV.int IntKind.u8 pr, AV.fs 1 bs bf] && Pl.rightH hs && decide (hs.length ≤ 8)) (k (AEnd.ret (AV.int IntKind.i64 (↑(48 + Pl.headsN hs) : Int))) []) none := by kernel_rfl
theorem S29_ok : SpecOK Try.prog 29 S29 := by
  refine B29_ok.turn fun args H => ?_
  unfold S29
  split
  · rename_i cs 
    rcases Bool.eq_false_or_eq_true (v6G cs && (rightH (cs.getD 35 .junk).toFs && decide ((cs.getD 35 .junk).toFs.length ≤ 8))) with hp | hp
    · refine .inr fun k => ?_
      rw [aIf_pos hp]
      rw [Bool.and_eq_true] at hp
      obtain ⟨hp, hm⟩ := hp
      obtain ⟨cl, lb, hop, x, y, hs, hf, fr, id, off, mo, pr, bs, bf, rfl, hok⟩ := v6G_iff.1 hp
      have hok' := hok
      replace hp : v6G [.int .u8 cl, .int .u32 lb, .int .u8 hop, .int .u8 (x 0), .int .u8 (x 1), .int .u8 (x 2), .int .u8 (x 3), .int .u8 (x 4), .int .u8 (x 5), .int .u8 (x 6), .int .u8 (x 7), .int .u8 (x 8), .int .u8 (x 9), .int .u8 (x 10), .int .u8 (x 11), .int .u8 (x 12), .int .u8 (x 13), .int .u8 (x 14), .int .u8 (x 15), .int .u8 (y 0), .int .u8 (y 1), .int .u8 (y 2), .int .u8 (y 3), .int .u8 (y 4), .int .u8 (y 5), .int .u8 (y 6), .int .u8 (y 7), .int .u8 (y 8), .int .u8 (y 9), .int .u8 (y 10), .int .u8 (y 11), .int .u8 (y 12), .int .u8 (y 13), .int .u8 (y 14), .int .u8 (y 15), .fs 2 hs hf, .bool fr, .int .u32 id, .int .i64 off, .bool mo, .int .u8 pr, .fs 1 bs bf] = true := hp
      obtain ⟨hh, hhf, hb, hbf, l0, l1, o0, o1, p0, p1, i0, i1⟩ := v6Ok_iff.1 hok'
      show k (.ret ((.int .i64 ((48 + headsN hs : Nat) : Int)))) [] = B29 [.agg [.int .u8 cl, .int .u32 lb, .int .u8 hop, .int .u8 (x 0), .int .u8 (x 1), .int .u8 (x 2), .int .u8 (x 3), .int .u8 (x 4), .int .u8 (x 5), .int .u8 (x 6), .int .u8 (x 7), .int .u8 (x 8), .int .u8 (x 9), .int .u8 (x 10), .int .u8 (x 11), .int .u8 (x 12), .int .u8 (x 13), .int .u8 (x 14), .int .u8 (x 15), .int .u8 (y 0), .int .u8 (y 1), .int .u8 (y 2), .int .u8 (y 3), .int .u8 (y 4), .int .u8 (y 5), .int .u8 (y 6), .int .u8 (y 7), .int .u8 (y 8), .int .u8 (y 9), .int .u8 (y 10), .int .u8 (y 11), .int .u8 (y 12), .int .u8 (y 13), .int .u8 (y 14), .int .u8 (y 15), .fs 2 hs hf, .bool fr, .int .u32 id, .int .i64 off, .bool mo, .int .u8 pr, .fs 1 bs bf]] [] k
      rw [N29]
      replace hm : (rightH hs && decide (hs.length ≤ 8)) = true := hm
      rw [Bool.and_eq_true, decide_eq_true_eq] at hm
      have hr := hm.1
      have hl := hm.2
      have hd8 := decide_eq_true hl
      have hn := headsN_le hh hr hl
      simp only [hp, hr, hh, hd8, Bool.true_and, Bool.and_true, beq_self_eq_true, aIf_true]

    · exact .inl fun k => by rw [aIf_neg hp]
  · exact .inl fun k => rfl
theorem En29 : Enters Try.prog 29 := ⟨_, Try.func29, by decide, rfl⟩

/-- ferryman/ferrymanref05.heads -/
noncomputable def T28 : List (FuncId × FSpec) := []
theorem T28_ok : TabOK Try.prog T28 := TabOK.nil _
noncomputable def L28_3 : ATs → AH → KC → Res := fun ts H k => match ts, H with
  | [(1, .ptr 0 0 0), (3, .int .i64 m), (4, .int .i64 i)], [.cells 0 cs] => aIf (i == 0 && m == 40 && v6G cs && rightH (cs.getD 35 .junk).toFs && decide ((cs.getD 35 .junk).toFs.length ≤ 8)) (k (.exit 0) [(1, .ptr 0 0 0), (3, .int .i64 ((40 + headsN (cs.getD 35 .junk).toFs : Nat) : Int)), (4, .int .i64 ((cs.getD 35 .junk).toFs.length : Int)), (9, .bool false)] [.cells 0 cs]) none
  | _, _ => none
noncomputable def C28 : Ctx := (ctx E T28 [(3, L28_3)] [(0, [1]), (1, [1, 3]), (2, [1, 3, 4]), (3, [1, 3, 4, 9]), (4, [1, 3, 4]), (5, [1, 3, 4]), (6, [3, 23]), (7, [3]), (8, [2]), (1000003, [1, 3, 4])] [] 27 70)
theorem C28_ok : CtxOK Try.prog C28 := ctx_ok E_ok E_flds mixed T28_ok
theorem C28_l0 : C28.loop (loopId (loopB Try.f28 0)) = some L28_3 := by kernel_rfl
theorem L28_3_in : LoopsOK C28 (loopB Try.f28 0) := LoopsOK.within 0 (by kernel_rfl) (fun j hj S hS => by
  omega)
theorem M28_3a (m i : Int) (cl lb hop : Int) (x y : Nat → Int) (hs : List AV) (hf : SF) (fr : Bool) (id off : Int) (mo : Bool) (pr : Int) (bs : List AV) (bf : SF) (k : KC) {c0 : _} (gc0 : c0 = [AO.cells 0 [AV.int IntKind.u8 cl, AV.int IntKind.u32 lb, AV.int IntKind.u8 hop, AV.int IntKind.u8 (x 0), AV.int IntKind.u8 (x 1), AV.int IntKind.u8 (x 2), AV.int IntKind.u8 (x 3), AV.int IntKind.u8 (x 4), AV.int IntKind.u8 (x 5), AV.int IntKind.u8 (x 6), AV.int IntKind.u8 (x 7), AV.int IntKind.u8 (x 8), AV.int IntKind.u8 (x 9), AV.int IntKind.u8 (x 10), AV.int IntKind.u8 (x 11), AV.int IntKind.u8 (x 12), AV.int IntKind.u8 (x 13), AV.int IntKind.u8 (x 14), AV.int IntKind.u8 (x 15), AV.int IntKind.u8 (y 0), AV.int IntKind.u8 (y 1), AV.int IntKind.u8 (y 2), AV.int IntKind.u8 (y 3), AV.int IntKind.u8 (y 4), AV.int IntKind.u8 (y 5), AV.int IntKind.u8 (y 6), AV.int IntKind.u8 (y 7), AV.int IntKind.u8 (y 8), AV.int IntKind.u8 (y 9), AV.int IntKind.u8 (y 10), AV.int IntKind.u8 (y 11), AV.int IntKind.u8 (y 12), AV.int IntKind.u8 (y 13), AV.int IntKind.u8 (y 14), AV.int IntKind.u8 (y 15), AV.fs 2 hs hf, AV.bool fr, AV.int IntKind.u32 id, AV.int IntKind.i64 off, AV.bool mo, AV.int IntKind.u8 pr, AV.fs 1 bs bf]]) :
  headedK C28 (loopB Try.f28 0) [(1, .ptr 0 0 0), (3, .int .i64 m), (4, .int .i64 i)] [.cells 0 [.int .u8 cl, .int .u32 lb, .int .u8 hop, .int .u8 (x 0), .int .u8 (x 1), .int .u8 (x 2), .int .u8 (x 3), .int .u8 (x 4), .int .u8 (x 5), .int .u8 (x 6), .int .u8 (x 7), .int .u8 (x 8), .int .u8 (x 9), .int .u8 (x 10), .int .u8 (x 11), .int .u8 (x 12), .int .u8 (x 13), .int .u8 (x 14), .int .u8 (x 15), .int .u8 (y 0), .int .u8 (y 1), .int .u8 (y 2), .int .u8 (y 3), .int .u8 (y 4), .int .u8 (y 5), .int .u8 (y 6), .int .u8 (y 7), .int .u8 (y 8), .int .u8 (y 9), .int .u8 (y 10), .int .u8 (y 11), .int .u8 (y 12), .int .u8 (y 13), .int .u8 (y 14), .int .u8 (y 15), .fs 2 hs hf, .bool fr, .int .u32 id, .int .i64 off, .bool mo, .int .u8 pr, .fs 1 bs bf]] k =
  aIf (decide (i < (↑hs.length : Int))) (aIf (decide (0 ≤ i)) (aIf (decide (i < (↑hs.length : Int))) (aIf ((hs.getD i.toNat AV.junk).cells.length == 2) (aIf (AV.isFs 1 ([(hs.getD i.toNat AV.junk).cells.getD 1 AV.junk].getD 0 AV.junk)) (k AExit.normal [(1, AV.ptr 0 0 0), (3, AV.int IntKind.i64 (IntKind.i64.wrap (IntKind.i64.wrap (m + 2) + (↑([(hs.getD i.toNat AV.junk).cells.getD 1 AV.junk].getD 0 AV.junk).toFs.length : Int)))), (4, AV.int IntKind.i64 (IntKind.i64.wrap (i + 1)))] c0) none) none) none) none) (k (AExit.exit 0) [(1, AV.ptr 0 0 0), (3, AV.int IntKind.i64 m), (4, AV.int IntKind.i64 i), (9, AV.bool (decide (i < (↑hs.length : Int))))] c0) := by subst gc0; kernel_rfl
theorem L28_3_ok : LoopSum C28 (loopB Try.f28 0) L28_3 := LoopSum.of C28_ok L28_3_in (fun ts H => by
  unfold L28_3
  split
  · rename_i m i cs
    rcases Bool.eq_false_or_eq_true (i == 0 && m == 40 && v6G cs && rightH (cs.getD 35 .junk).toFs && decide ((cs.getD 35 .junk).toFs.length ≤ 8)) with hp | hp
    · refine .inr ?_
      simp only [aIf_pos hp]
      simp only [Bool.and_eq_true, beq_iff_eq, decide_eq_true_eq] at hp
      obtain ⟨⟨⟨⟨rfl, rfl⟩, hg⟩, hr⟩, hl⟩ := hp
      obtain ⟨cl, lb, hop, x, y, hs, hf, fr, id, off, mo, pr, bs, bf, rfl, hok⟩ := v6G_iff.1 hg
      obtain ⟨hh, _⟩ := v6Ok_iff.1 hok
      replace hl : hs.length ≤ 8 := hl
      replace hr : rightH hs = true := hr
      obtain ⟨HR, hHR⟩ : ∃ HR : AH, HR = [.cells 0 (v6L cl lb hop x y hs hf fr id off mo pr bs bf)] := ⟨_, rfl⟩
      have eH : HR = [.cells 0 [.int .u8 cl, .int .u32 lb, .int .u8 hop, .int .u8 (x 0), .int .u8 (x 1), .int .u8 (x 2), .int .u8 (x 3), .int .u8 (x 4), .int .u8 (x 5), .int .u8 (x 6), .int .u8 (x 7), .int .u8 (x 8), .int .u8 (x 9), .int .u8 (x 10), .int .u8 (x 11), .int .u8 (x 12), .int .u8 (x 13), .int .u8 (x 14), .int .u8 (x 15), .int .u8 (y 0), .int .u8 (y 1), .int .u8 (y 2), .int .u8 (y 3), .int .u8 (y 4), .int .u8 (y 5), .int .u8 (y 6), .int .u8 (y 7), .int .u8 (y 8), .int .u8 (y 9), .int .u8 (y 10), .int .u8 (y 11), .int .u8 (y 12), .int .u8 (y 13), .int .u8 (y 14), .int .u8 (y 15), .fs 2 hs hf, .bool fr, .int .u32 id, .int .i64 off, .bool mo, .int .u8 pr, .fs 1 bs bf]] := hHR
      rw [← hHR]
      rw [show (v6L cl lb hop x y hs hf fr id off mo pr bs bf).getD 35 .junk = .fs 2 hs hf from rfl]
      simp only [show ∀ xs f, (AV.fs 2 xs f).toFs = xs from fun _ _ => rfl]
      have key : ∀ (j d : Nat), j < hs.length → d ≤ j * 2048 → d + 2 + (bdAt (hs.getD j .junk)).length ≤ (j + 1) * 2048 ∧ ∀ k, headedK C28 (loopB Try.f28 0) [(1, .ptr 0 0 0), (3, .int .i64 ((40 + d : Nat) : Int)), (4, .int .i64 (j : Int))] HR k = k .normal [(1, .ptr 0 0 0), (3, .int .i64 ((40 + (d + 2 + (bdAt (hs.getD j .junk)).length) : Nat) : Int)), (4, .int .i64 ((j + 1 : Nat) : Int))] HR := by
        intro j d hj hd
        obtain ⟨kk, b, g, e, hb1, hb2, hk0, hk1⟩ := hds_get hh hj
        have hbl := rightH_len hr hj e
        rw [show (bdAt (hs.getD j .junk)).length = b.length by rw [e]; rfl]
        refine ⟨by omega, fun k => ?_⟩
        have ag : ∀ cs, (AV.agg cs).cells = cs := fun _ => rfl
        have ii : ∀ k n, (AV.int k n).isInt k = true := fun k n => by cases k <;> rfl
        have fi : ∀ xs f, (AV.fs 1 xs f).isFs 1 = true := fun _ _ => rfl
        have ft : ∀ xs f, (AV.fs 1 xs f).toFs = xs := fun _ _ => rfl
        have b2 : ∀ a b : AV, (([a, b] : List AV).length == 2) = true := fun _ _ => rfl
        have hn1 : IntKind.i64.wrap ((j : Int) + 1) = ((j + 1 : Nat) : Int) := by rw [i64_of (by omega) (by omega)]; omega
        have hw : IntKind.i64.wrap (IntKind.i64.wrap (((40 + d : Nat) : Int) + 2) + (b.length : Int)) = ((40 + (d + 2 + b.length) : Nat) : Int) := by rw [i64_of (n := ((40 + d : Nat) : Int) + 2) (by omega) (by omega), i64_of (by omega) (by omega)]; omega
        have hM := M28_3a ((40 + d : Nat) : Int) (j : Int) cl lb hop x y hs hf fr id off mo pr bs bf k (c0 := HR) eH
        rw [← eH] at hM
        rw [hM]
        simp only [decide_eq_true (show (j : Int) < (hs.length : Int) by omega), decide_eq_true (show (0 : Int) ≤ (j : Int) by omega), Int.toNat_natCast, e, ag, b2, List.getD_cons_zero, List.getD_cons_succ, ii, fi, ft, toInt_int, aIf_true, aIf_false, hn1, List.length_cons, List.length_nil, hw]
        rfl
      obtain ⟨m', hm⟩ := iter_fold (δ := Nat) (N := hs.length) (F := headedK C28 (loopB Try.f28 0)) (ts := fun j d => [(1, .ptr 0 0 0), (3, .int .i64 ((40 + d : Nat) : Int)), (4, .int .i64 (j : Int))]) (H := fun _ _ => HR) (f := fun j n => n + 2 + (bdAt (hs.getD j .junk)).length) (I := fun j d => d ≤ j * 2048) (ee := .exit 0) (te := fun d => [(1, .ptr 0 0 0), (3, .int .i64 ((40 + d : Nat) : Int)), (4, .int .i64 (hs.length : Int)), (9, .bool false)]) (He := fun _ => HR)
        (fun j d hj hd => key j d hj hd) (fun d hd k => by
          have hM := M28_3a ((40 + d : Nat) : Int) (hs.length : Int) cl lb hop x y hs hf fr id off mo pr bs bf k (c0 := HR) eH
          rw [← eH] at hM
          rw [hM, decide_eq_false (show ¬ (hs.length : Int) < (hs.length : Int) by omega), aIf_false]) (by intro h; cases h) hs.length 0 0 (by omega) (by omega)
      exact ⟨m', fun k => (hm k).symm⟩
    · exact .inl fun k => by rw [aIf_neg hp]
  · exact .inl fun k => rfl)
theorem C28_loops : ∀ c, Try.f28.body = some c → LoopsOK C28 c := LoopsOK.of 1 (by kernel_rfl) (fun j hj S hS => by
  match j, hj with
  | 0, _ => rw [C28_l0] at hS; cases hS; exact L28_3_ok
  | n + 1, hj => omega)
noncomputable def B28 : FSpec := inlineK C28 Try.f28
noncomputable def S28 : FSpec := fun args H k => match args, H with
  | [.agg cs], [] => aIf (v6G cs && (rightH (cs.getD 35 .junk).toFs && decide ((cs.getD 35 .junk).toFs.length ≤ 8))) (k (.ret (.int .i64 (ahd6 (cs.getD 35 .junk).toFs (cs.getD 36 .junk).toBool : Int))) []) none
  | _, _ => none
theorem B28_ok : SpecOK Try.prog 28 B28 := inlineK_ok C28_ok Try.func28 C28_loops
theorem N28 (cl lb hop : Int) (x y : Nat → Int) (hs : List AV) (hf : SF) (fr : Bool) (id off : Int) (mo : Bool) (pr : Int) (bs : List AV) (bf : SF)  (k : KE) : B28 [.agg [.int .u8 cl, .int .u32 lb, .int .u8 hop, .int .u8 (x 0), .int .u8 (x 1), .int .u8 (x 2), .int .u8 (x 3), .int .u8 (x 4), .int .u8 (x 5), .int .u8 (x 6), .int .u8 (x 7), .int .u8 (x 8), .int .u8 (x 9), .int .u8 (x 10), .int .u8 (x 11), .int .u8 (x 12), .int .u8 (x 13), .int .u8 (x 14), .int .u8 (x 15), .int .u8 (y 0), .int .u8 (y 1), .int .u8 (y 2), .int .u8 (y 3), .int .u8 (y 4), .int .u8 (y 5), .int .u8 (y 6), .int .u8 (y 7), .int .u8 (y 8), .int .u8 (y 9), .int .u8 (y 10), .int .u8 (y 11), .int .u8 (y 12), .int .u8 (y 13), .int .u8 (y 14), .int .u8 (y 15), .fs 2 hs hf, .bool fr, .int .u32 id, .int .i64 off, .bool mo, .int .u8 pr, .fs 1 bs bf]] [] k =
  aIf (true && Pl.v6G [AV.int IntKind.u8 cl, AV.int IntKind.u32 lb, AV.int IntKind.u8 hop, AV.int IntKind.u8 (x 0), AV.int IntKind.u8 (x 1), AV.int IntKind.u8 (x 2), AV.int IntKind.u8 (x 3), AV.int IntKind.u8 (x 4), AV.int IntKind.u8 (x 5), AV.int IntKind.u8 (x 6), AV.int IntKind.u8 (x 7), AV.int IntKind.u8 (x 8), AV.int IntKind.u8 (x 9), AV.int IntKind.u8 (x 10), AV.int IntKind.u8 (x 11), AV.int IntKind.u8 (x 12), AV.int IntKind.u8 (x 13), AV.int IntKind.u8 (x 14), AV.int IntKind.u8 (x 15), AV.int IntKind.u8 (y 0), AV.int IntKind.u8 (y 1), AV.int IntKind.u8 (y 2), AV.int IntKind.u8 (y 3), AV.int IntKind.u8 (y 4), AV.int IntKind.u8 (y 5), AV.int IntKind.u8 (y 6), AV.int IntKind.u8 (y 7), AV.int IntKind.u8 (y 8), AV.int IntKind.u8 (y 9), AV.int IntKind.u8 (y 10), AV.int IntKind.u8 (y 11), AV.int IntKind.u8 (y 12), AV.int IntKind.u8 (y 13), AV.int IntKind.u8 (y 14), AV.int IntKind.u8 (y 15), AV.fs 2 hs hf, AV.bool fr, AV.int IntKind.u32 id, AV.int IntKind.i64 off, AV.bool mo, AV.int IntKind.u8 pr, AV.fs 1 bs bf] && Pl.rightH hs && decide (hs.length ≤ 8)) (aIf fr (k (AEnd.ret (AV.int IntKind.i64 (IntKind.i64.wrap ((↑(40 + Pl.headsN hs) : Int) + 8)))) []) (k (AEnd.ret (AV.int IntKind.i64 (↑(40 + Pl.headsN hs) : Int))) [])) none := by kernel_rfl
theorem S28_ok : SpecOK Try.prog 28 S28 := by
  refine B28_ok.turn fun args H => ?_
  unfold S28
  split
  · rename_i cs 
    rcases Bool.eq_false_or_eq_true (v6G cs && (rightH (cs.getD 35 .junk).toFs && decide ((cs.getD 35 .junk).toFs.length ≤ 8))) with hp | hp
    · refine .inr fun k => ?_
      rw [aIf_pos hp]
      rw [Bool.and_eq_true] at hp
      obtain ⟨hp, hm⟩ := hp
      obtain ⟨cl, lb, hop, x, y, hs, hf, fr, id, off, mo, pr, bs, bf, rfl, hok⟩ := v6G_iff.1 hp
      have hok' := hok
      replace hp : v6G [.int .u8 cl, .int .u32 lb, .int .u8 hop, .int .u8 (x 0), .int .u8 (x 1), .int .u8 (x 2), .int .u8 (x 3), .int .u8 (x 4), .int .u8 (x 5), .int .u8 (x 6), .int .u8 (x 7), .int .u8 (x 8), .int .u8 (x 9), .int .u8 (x 10), .int .u8 (x 11), .int .u8 (x 12), .int .u8 (x 13), .int .u8 (x 14), .int .u8 (x 15), .int .u8 (y 0), .int .u8 (y 1), .int .u8 (y 2), .int .u8 (y 3), .int .u8 (y 4), .int .u8 (y 5), .int .u8 (y 6), .int .u8 (y 7), .int .u8 (y 8), .int .u8 (y 9), .int .u8 (y 10), .int .u8 (y 11), .int .u8 (y 12), .int .u8 (y 13), .int .u8 (y 14), .int .u8 (y 15), .fs 2 hs hf, .bool fr, .int .u32 id, .int .i64 off, .bool mo, .int .u8 pr, .fs 1 bs bf] = true := hp
      obtain ⟨hh, hhf, hb, hbf, l0, l1, o0, o1, p0, p1, i0, i1⟩ := v6Ok_iff.1 hok'
      show k (.ret ((.int .i64 (ahd6 hs fr : Int)))) [] = B28 [.agg [.int .u8 cl, .int .u32 lb, .int .u8 hop, .int .u8 (x 0), .int .u8 (x 1), .int .u8 (x 2), .int .u8 (x 3), .int .u8 (x 4), .int .u8 (x 5), .int .u8 (x 6), .int .u8 (x 7), .int .u8 (x 8), .int .u8 (x 9), .int .u8 (x 10), .int .u8 (x 11), .int .u8 (x 12), .int .u8 (x 13), .int .u8 (x 14), .int .u8 (x 15), .int .u8 (y 0), .int .u8 (y 1), .int .u8 (y 2), .int .u8 (y 3), .int .u8 (y 4), .int .u8 (y 5), .int .u8 (y 6), .int .u8 (y 7), .int .u8 (y 8), .int .u8 (y 9), .int .u8 (y 10), .int .u8 (y 11), .int .u8 (y 12), .int .u8 (y 13), .int .u8 (y 14), .int .u8 (y 15), .fs 2 hs hf, .bool fr, .int .u32 id, .int .i64 off, .bool mo, .int .u8 pr, .fs 1 bs bf]] [] k
      rw [N28]
      replace hm : (rightH hs && decide (hs.length ≤ 8)) = true := hm
      rw [Bool.and_eq_true, decide_eq_true_eq] at hm
      have hr := hm.1
      have hl := hm.2
      have hd8 := decide_eq_true hl
      have hn := headsN_le hh hr hl
      simp only [hp, hr, hh, hd8, Bool.true_and, Bool.and_true, beq_self_eq_true, aIf_true]
      rw [i64_of (n := ((40 + headsN hs : Nat) : Int) + 8) (by omega) (by omega)]
      cases fr <;> rfl
    · exact .inl fun k => by rw [aIf_neg hp]
  · exact .inl fun k => rfl
theorem En28 : Enters Try.prog 28 := ⟨_, Try.func28, by decide, rfl⟩

/-- ferryman/ferrymanref05.extra -/
noncomputable def T40 : List (FuncId × FSpec) := []
theorem T40_ok : TabOK Try.prog T40 := TabOK.nil _
noncomputable def C40 : Ctx := (ctx E T40 [] [(0, [0]), (1, [2])] [] 13 70)
theorem C40_ok : CtxOK Try.prog C40 := ctx_ok E_ok E_flds mixed T40_ok
noncomputable def B40 : FSpec := inlineK C40 Try.f40
noncomputable def S40 : FSpec := fun args H k => match args, H with
  | [.int .u8 n], [] => aIf (true) (k (.ret (.bool (exB n))) []) none
  | _, _ => none
theorem B40_ok : SpecOK Try.prog 40 B40 := inlineK_ok C40_ok Try.func40 (fun _ _ => LoopsOK.none _)
theorem N40 (n : Int) (k : KE) : B40 [.int .u8 n] [] k =
  aIf (n == 0) (k (AEnd.ret (AV.bool true)) []) (aIf (n == 43) (k (AEnd.ret (AV.bool true)) []) (k (AEnd.ret (AV.bool (n == 60))) [])) := by kernel_rfl
theorem S40_ok : SpecOK Try.prog 40 S40 := by
  refine B40_ok.turn fun args H => ?_
  unfold S40
  split
  · rename_i n
    rcases Bool.eq_false_or_eq_true (true) with hp | hp
    · refine .inr fun k => ?_
      rw [aIf_pos hp, N40]
      exact (exB_if n k).symm
    · exact .inl fun k => by rw [aIf_neg hp]
  · exact .inl fun k => rfl
theorem En40 : Enters Try.prog 40 := ⟨_, Try.func40, by decide, rfl⟩

/-- ferryman/ferrymanref05.right -/
noncomputable def T38 : List (FuncId × FSpec) := [(40, S40)]
theorem T38_ok : TabOK Try.prog T38 := TabOK.cons En40 S40_ok (TabOK.nil _)
noncomputable def L38_4 : ATs → AH → KC → Res := fun ts H k => match ts, H with
  | [(1, .ptr 0 0 0), (3, .int .i64 i)], [.cells 0 cs] => aIf (i == 0 && v6G cs && decide ((cs.getD 35 .junk).toFs.length ≤ 8)) (aIf (rightH (cs.getD 35 .junk).toFs) (k (.exit 0) [(1, .ptr 0 0 0), (3, .int .i64 ((cs.getD 35 .junk).toFs.length : Int)), (18, .bool false)] [.cells 0 cs]) (k .ret [(2, .bool false)] [.cells 0 cs])) none
  | _, _ => none
noncomputable def C38 : Ctx := (ctx E T38 [(4, L38_4)] [(0, [1]), (1, [1, 13]), (2, [2]), (3, [1, 3]), (4, [1, 3, 18]), (5, [1, 3]), (6, [1, 3, 4]), (7, [1, 3, 51]), (8, [2]), (9, [1, 53]), (10, [2]), (11, [2]), (1000004, [1, 3])] [] 86 70)
theorem C38_ok : CtxOK Try.prog C38 := ctx_ok E_ok E_flds mixed T38_ok
theorem C38_l0 : C38.loop (loopId (loopB Try.f38 0)) = some L38_4 := by kernel_rfl
theorem L38_4_in : LoopsOK C38 (loopB Try.f38 0) := LoopsOK.within 0 (by kernel_rfl) (fun j hj S hS => by
  omega)
theorem M38_4a (i : Int) (cl lb hop : Int) (x y : Nat → Int) (hs : List AV) (hf : SF) (fr : Bool) (id off : Int) (mo : Bool) (pr : Int) (bs : List AV) (bf : SF) (k : KC) {c1 : _} (gc1 : c1 = [(hs.getD i.toNat AV.junk).cells.getD 0 AV.junk, (hs.getD i.toNat AV.junk).cells.getD 1 AV.junk]) {c0 : _} (gc0 : c0 = [AO.cells 0 [AV.int IntKind.u8 cl, AV.int IntKind.u32 lb, AV.int IntKind.u8 hop, AV.int IntKind.u8 (x 0), AV.int IntKind.u8 (x 1), AV.int IntKind.u8 (x 2), AV.int IntKind.u8 (x 3), AV.int IntKind.u8 (x 4), AV.int IntKind.u8 (x 5), AV.int IntKind.u8 (x 6), AV.int IntKind.u8 (x 7), AV.int IntKind.u8 (x 8), AV.int IntKind.u8 (x 9), AV.int IntKind.u8 (x 10), AV.int IntKind.u8 (x 11), AV.int IntKind.u8 (x 12), AV.int IntKind.u8 (x 13), AV.int IntKind.u8 (x 14), AV.int IntKind.u8 (x 15), AV.int IntKind.u8 (y 0), AV.int IntKind.u8 (y 1), AV.int IntKind.u8 (y 2), AV.int IntKind.u8 (y 3), AV.int IntKind.u8 (y 4), AV.int IntKind.u8 (y 5), AV.int IntKind.u8 (y 6), AV.int IntKind.u8 (y 7), AV.int IntKind.u8 (y 8), AV.int IntKind.u8 (y 9), AV.int IntKind.u8 (y 10), AV.int IntKind.u8 (y 11), AV.int IntKind.u8 (y 12), AV.int IntKind.u8 (y 13), AV.int IntKind.u8 (y 14), AV.int IntKind.u8 (y 15), AV.fs 2 hs hf, AV.bool fr, AV.int IntKind.u32 id, AV.int IntKind.i64 off, AV.bool mo, AV.int IntKind.u8 pr, AV.fs 1 bs bf]]) :
  headedK C38 (loopB Try.f38 0) [(1, .ptr 0 0 0), (3, .int .i64 i)] [.cells 0 [.int .u8 cl, .int .u32 lb, .int .u8 hop, .int .u8 (x 0), .int .u8 (x 1), .int .u8 (x 2), .int .u8 (x 3), .int .u8 (x 4), .int .u8 (x 5), .int .u8 (x 6), .int .u8 (x 7), .int .u8 (x 8), .int .u8 (x 9), .int .u8 (x 10), .int .u8 (x 11), .int .u8 (x 12), .int .u8 (x 13), .int .u8 (x 14), .int .u8 (x 15), .int .u8 (y 0), .int .u8 (y 1), .int .u8 (y 2), .int .u8 (y 3), .int .u8 (y 4), .int .u8 (y 5), .int .u8 (y 6), .int .u8 (y 7), .int .u8 (y 8), .int .u8 (y 9), .int .u8 (y 10), .int .u8 (y 11), .int .u8 (y 12), .int .u8 (y 13), .int .u8 (y 14), .int .u8 (y 15), .fs 2 hs hf, .bool fr, .int .u32 id, .int .i64 off, .bool mo, .int .u8 pr, .fs 1 bs bf]] k =
  aIf (decide (i < (↑hs.length : Int))) (aIf (decide (0 ≤ i)) (aIf (decide (i < (↑hs.length : Int))) (aIf ((hs.getD i.toNat AV.junk).cells.length == 2) (aIf ((c1.getD 0 AV.junk).isInt IntKind.u8) (aIf (AV.isFs 1 (c1.getD 1 AV.junk)) (aIf (!Pl.exB (c1.getD 0 AV.junk).toInt) (k AExit.ret [(2, AV.bool false)] c0) (aIf ((c1.getD 0 AV.junk).toInt == 0) (aIf (decide (i > 0)) (k AExit.ret [(2, AV.bool false)] c0) (aIf ((↑(c1.getD 1 AV.junk).toFs.length : Int).tmod 8 != 6) (k AExit.ret [(2, AV.bool false)] c0) (aIf (decide ((↑(c1.getD 1 AV.junk).toFs.length : Int) > 2046)) (k AExit.ret [(2, AV.bool false)] c0) (k AExit.normal [(1, AV.ptr 0 0 0), (3, AV.int IntKind.i64 (IntKind.i64.wrap (i + 1)))] c0)))) (aIf ((↑(c1.getD 1 AV.junk).toFs.length : Int).tmod 8 != 6) (k AExit.ret [(2, AV.bool false)] c0) (aIf (decide ((↑(c1.getD 1 AV.junk).toFs.length : Int) > 2046)) (k AExit.ret [(2, AV.bool false)] c0) (k AExit.normal [(1, AV.ptr 0 0 0), (3, AV.int IntKind.i64 (IntKind.i64.wrap (i + 1)))] c0))))) none) none) none) none) none) (k (AExit.exit 0) [(1, AV.ptr 0 0 0), (3, AV.int IntKind.i64 i), (18, AV.bool (decide (i < (↑hs.length : Int))))] c0) := by subst gc0 gc1; kernel_rfl
theorem L38_4_ok : LoopSum C38 (loopB Try.f38 0) L38_4 := LoopSum.of C38_ok L38_4_in (fun ts H => by
  unfold L38_4
  split
  · rename_i i cs
    rcases Bool.eq_false_or_eq_true (i == 0 && v6G cs && decide ((cs.getD 35 .junk).toFs.length ≤ 8)) with hp | hp
    · refine .inr ?_
      simp only [aIf_pos hp]
      simp only [Bool.and_eq_true, beq_iff_eq, decide_eq_true_eq] at hp
      obtain ⟨⟨rfl, hg⟩, hl⟩ := hp
      obtain ⟨cl, lb, hop, x, y, hs, hf, fr, id, off, mo, pr, bs, bf, rfl, hok⟩ := v6G_iff.1 hg
      obtain ⟨hh, _⟩ := v6Ok_iff.1 hok
      replace hl : hs.length ≤ 8 := hl
      obtain ⟨HR, hHR⟩ : ∃ HR : AH, HR = [.cells 0 (v6L cl lb hop x y hs hf fr id off mo pr bs bf)] := ⟨_, rfl⟩
      have eH : HR = [.cells 0 [.int .u8 cl, .int .u32 lb, .int .u8 hop, .int .u8 (x 0), .int .u8 (x 1), .int .u8 (x 2), .int .u8 (x 3), .int .u8 (x 4), .int .u8 (x 5), .int .u8 (x 6), .int .u8 (x 7), .int .u8 (x 8), .int .u8 (x 9), .int .u8 (x 10), .int .u8 (x 11), .int .u8 (x 12), .int .u8 (x 13), .int .u8 (x 14), .int .u8 (x 15), .int .u8 (y 0), .int .u8 (y 1), .int .u8 (y 2), .int .u8 (y 3), .int .u8 (y 4), .int .u8 (y 5), .int .u8 (y 6), .int .u8 (y 7), .int .u8 (y 8), .int .u8 (y 9), .int .u8 (y 10), .int .u8 (y 11), .int .u8 (y 12), .int .u8 (y 13), .int .u8 (y 14), .int .u8 (y 15), .fs 2 hs hf, .bool fr, .int .u32 id, .int .i64 off, .bool mo, .int .u8 pr, .fs 1 bs bf]] := hHR
      rw [← hHR]
      rw [show (v6L cl lb hop x y hs hf fr id off mo pr bs bf).getD 35 .junk = .fs 2 hs hf from rfl]
      simp only [show ∀ xs f, (AV.fs 2 xs f).toFs = xs from fun _ _ => rfl]
      have key : ∀ j : Nat, j < hs.length → ∀ k, headedK C38 (loopB Try.f38 0) [(1, .ptr 0 0 0), (3, .int .i64 (j : Int))] HR k = aIf (badH hs j) (k .ret [(2, .bool false)] HR) (k .normal [(1, .ptr 0 0 0), (3, .int .i64 ((j + 1 : Nat) : Int))] HR) := by
        intro j hj k
        obtain ⟨kk, b, g, e, hb1, hb2, hk0, hk1⟩ := hds_get hh hj
        have ag : ∀ cs, (AV.agg cs).cells = cs := fun _ => rfl
        have ii : ∀ k n, (AV.int k n).isInt k = true := fun k n => by cases k <;> rfl
        have fi : ∀ xs f, (AV.fs 1 xs f).isFs 1 = true := fun _ _ => rfl
        have ft : ∀ xs f, (AV.fs 1 xs f).toFs = xs := fun _ _ => rfl
        have b2 : ∀ a b : AV, (([a, b] : List AV).length == 2) = true := fun _ _ => rfl
        have hn1 : IntKind.i64.wrap ((j : Int) + 1) = ((j + 1 : Nat) : Int) := by rw [i64_of (by omega) (by omega)]; omega
        have hM := M38_4a (j : Int) cl lb hop x y hs hf fr id off mo pr bs bf k (c1 := [.int .u8 kk, .fs 1 b g]) (by rw [Int.toNat_natCast, e]; rfl) (c0 := HR) eH
        rw [← eH] at hM
        rw [hM]
        simp only [decide_eq_true (show (j : Int) < (hs.length : Int) by omega), decide_eq_true (show (0 : Int) ≤ (j : Int) by omega), Int.toNat_natCast, e, ag, b2, List.getD_cons_zero, List.getD_cons_succ, ii, fi, ft, toInt_int, aIf_true, aIf_false, hn1]
        exact badH_if e _ _
      refine (iter_scan (N := hs.length) (F := headedK C38 (loopB Try.f38 0)) (ts := fun j => [(1, .ptr 0 0 0), (3, .int .i64 (j : Int))]) (H := HR) (b := badH hs) (eb := .ret) (ee := .exit 0) (tb := [(2, .bool false)]) (te := [(1, .ptr 0 0 0), (3, .int .i64 (hs.length : Int)), (18, .bool false)]) (Hb := HR) (He := HR)
        (fun j hj hb k => (key j hj k).trans (aIf_pos hb)) (fun j hj hb k => (key j hj k).trans (aIf_neg hb)) (fun k => ?_) (by intro h; cases h) (by intro h; cases h) hs.length 0 (by omega)).imp fun m hm k => (hm k).symm
      have hM := M38_4a (hs.length : Int) cl lb hop x y hs hf fr id off mo pr bs bf k (c1 := _) rfl (c0 := HR) eH
      rw [← eH] at hM
      rw [hM, decide_eq_false (show ¬ (hs.length : Int) < (hs.length : Int) by omega), aIf_false]
    · exact .inl fun k => by rw [aIf_neg hp]
  · exact .inl fun k => rfl)
theorem C38_loops : ∀ c, Try.f38.body = some c → LoopsOK C38 c := LoopsOK.of 1 (by kernel_rfl) (fun j hj S hS => by
  match j, hj with
  | 0, _ => rw [C38_l0] at hS; cases hS; exact L38_4_ok
  | n + 1, hj => omega)
noncomputable def B38 : FSpec := inlineK C38 Try.f38
noncomputable def S38 : FSpec := fun args H k => match args, H with
  | [.agg cs], [] => aIf (v6G cs) (k (.ret (.bool (right6 (cs.getD 1 .junk).toInt (cs.getD 35 .junk).toFs (cs.getD 36 .junk).toBool (cs.getD 37 .junk).toInt (cs.getD 38 .junk).toInt (cs.getD 39 .junk).toBool (cs.getD 40 .junk).toInt))) []) none
  | _, _ => none
theorem B38_ok : SpecOK Try.prog 38 B38 := inlineK_ok C38_ok Try.func38 C38_loops
theorem N38 (cl lb hop : Int) (x y : Nat → Int) (hs : List AV) (hf : SF) (fr : Bool) (id off : Int) (mo : Bool) (pr : Int) (bs : List AV) (bf : SF)  (k : KE) : B38 [.agg [.int .u8 cl, .int .u32 lb, .int .u8 hop, .int .u8 (x 0), .int .u8 (x 1), .int .u8 (x 2), .int .u8 (x 3), .int .u8 (x 4), .int .u8 (x 5), .int .u8 (x 6), .int .u8 (x 7), .int .u8 (x 8), .int .u8 (x 9), .int .u8 (x 10), .int .u8 (x 11), .int .u8 (x 12), .int .u8 (x 13), .int .u8 (x 14), .int .u8 (x 15), .int .u8 (y 0), .int .u8 (y 1), .int .u8 (y 2), .int .u8 (y 3), .int .u8 (y 4), .int .u8 (y 5), .int .u8 (y 6), .int .u8 (y 7), .int .u8 (y 8), .int .u8 (y 9), .int .u8 (y 10), .int .u8 (y 11), .int .u8 (y 12), .int .u8 (y 13), .int .u8 (y 14), .int .u8 (y 15), .fs 2 hs hf, .bool fr, .int .u32 id, .int .i64 off, .bool mo, .int .u8 pr, .fs 1 bs bf]] [] k =
  aIf (decide (lb ≥ 1048576)) (k (AEnd.ret (AV.bool false)) []) (aIf (decide ((↑hs.length : Int) > 8)) (k (AEnd.ret (AV.bool false)) []) (aIf (true && Pl.v6G [AV.int IntKind.u8 cl, AV.int IntKind.u32 lb, AV.int IntKind.u8 hop, AV.int IntKind.u8 (x 0), AV.int IntKind.u8 (x 1), AV.int IntKind.u8 (x 2), AV.int IntKind.u8 (x 3), AV.int IntKind.u8 (x 4), AV.int IntKind.u8 (x 5), AV.int IntKind.u8 (x 6), AV.int IntKind.u8 (x 7), AV.int IntKind.u8 (x 8), AV.int IntKind.u8 (x 9), AV.int IntKind.u8 (x 10), AV.int IntKind.u8 (x 11), AV.int IntKind.u8 (x 12), AV.int IntKind.u8 (x 13), AV.int IntKind.u8 (x 14), AV.int IntKind.u8 (x 15), AV.int IntKind.u8 (y 0), AV.int IntKind.u8 (y 1), AV.int IntKind.u8 (y 2), AV.int IntKind.u8 (y 3), AV.int IntKind.u8 (y 4), AV.int IntKind.u8 (y 5), AV.int IntKind.u8 (y 6), AV.int IntKind.u8 (y 7), AV.int IntKind.u8 (y 8), AV.int IntKind.u8 (y 9), AV.int IntKind.u8 (y 10), AV.int IntKind.u8 (y 11), AV.int IntKind.u8 (y 12), AV.int IntKind.u8 (y 13), AV.int IntKind.u8 (y 14), AV.int IntKind.u8 (y 15), AV.fs 2 hs hf, AV.bool fr, AV.int IntKind.u32 id, AV.int IntKind.i64 off, AV.bool mo, AV.int IntKind.u8 pr, AV.fs 1 bs bf] && decide (hs.length ≤ 8)) (aIf (Pl.rightH hs) (aIf fr (aIf (decide (off ≥ 0)) (k (AEnd.ret (AV.bool (decide (off ≤ 8191)))) []) (k (AEnd.ret (AV.bool false)) [])) (aIf (id == 0) (aIf (off == 0) (aIf (!mo) (aIf (!Pl.exB pr) (k (AEnd.ret (AV.bool (pr != 44))) []) (k (AEnd.ret (AV.bool false)) [])) (k (AEnd.ret (AV.bool false)) [])) (k (AEnd.ret (AV.bool false)) [])) (k (AEnd.ret (AV.bool false)) []))) (k (AEnd.ret (AV.bool false)) [])) none)) := by kernel_rfl
theorem S38_ok : SpecOK Try.prog 38 S38 := by
  refine B38_ok.turn fun args H => ?_
  unfold S38
  split
  · rename_i cs 
    rcases Bool.eq_false_or_eq_true (v6G cs) with hp | hp
    · refine .inr fun k => ?_
      rw [aIf_pos hp]
      skip
      skip
      obtain ⟨cl, lb, hop, x, y, hs, hf, fr, id, off, mo, pr, bs, bf, rfl, hok⟩ := v6G_iff.1 hp
      have hok' := hok
      replace hp : v6G [.int .u8 cl, .int .u32 lb, .int .u8 hop, .int .u8 (x 0), .int .u8 (x 1), .int .u8 (x 2), .int .u8 (x 3), .int .u8 (x 4), .int .u8 (x 5), .int .u8 (x 6), .int .u8 (x 7), .int .u8 (x 8), .int .u8 (x 9), .int .u8 (x 10), .int .u8 (x 11), .int .u8 (x 12), .int .u8 (x 13), .int .u8 (x 14), .int .u8 (x 15), .int .u8 (y 0), .int .u8 (y 1), .int .u8 (y 2), .int .u8 (y 3), .int .u8 (y 4), .int .u8 (y 5), .int .u8 (y 6), .int .u8 (y 7), .int .u8 (y 8), .int .u8 (y 9), .int .u8 (y 10), .int .u8 (y 11), .int .u8 (y 12), .int .u8 (y 13), .int .u8 (y 14), .int .u8 (y 15), .fs 2 hs hf, .bool fr, .int .u32 id, .int .i64 off, .bool mo, .int .u8 pr, .fs 1 bs bf] = true := hp
      obtain ⟨hh, hhf, hb, hbf, l0, l1, o0, o1, p0, p1, i0, i1⟩ := v6Ok_iff.1 hok'
      show k (.ret (.bool (right6 lb hs fr id off mo pr))) [] = B38 [.agg [.int .u8 cl, .int .u32 lb, .int .u8 hop, .int .u8 (x 0), .int .u8 (x 1), .int .u8 (x 2), .int .u8 (x 3), .int .u8 (x 4), .int .u8 (x 5), .int .u8 (x 6), .int .u8 (x 7), .int .u8 (x 8), .int .u8 (x 9), .int .u8 (x 10), .int .u8 (x 11), .int .u8 (x 12), .int .u8 (x 13), .int .u8 (x 14), .int .u8 (x 15), .int .u8 (y 0), .int .u8 (y 1), .int .u8 (y 2), .int .u8 (y 3), .int .u8 (y 4), .int .u8 (y 5), .int .u8 (y 6), .int .u8 (y 7), .int .u8 (y 8), .int .u8 (y 9), .int .u8 (y 10), .int .u8 (y 11), .int .u8 (y 12), .int .u8 (y 13), .int .u8 (y 14), .int .u8 (y 15), .fs 2 hs hf, .bool fr, .int .u32 id, .int .i64 off, .bool mo, .int .u8 pr, .fs 1 bs bf]] [] k
      rw [N38]
      have e1 : decide (lb ≥ 1048576) = !decide (lb < 1048576) := by rw [Bool.eq_iff_iff, Bool.not_eq_true', decide_eq_true_eq, decide_eq_false_iff_not]; omega
      have e2 : decide ((hs.length : Int) > 8) = !decide (hs.length ≤ 8) := by rw [Bool.eq_iff_iff, Bool.not_eq_true', decide_eq_true_eq, decide_eq_false_iff_not]; omega
      rw [e1, e2]
      simp only [hp, hh, Bool.true_and, Bool.and_true, beq_self_eq_true]
      unfold right6
      rw [show decide (off ≥ 0) = decide (0 ≤ off) from rfl]
      cases decide (lb < 1048576); · rfl
      cases decide (hs.length ≤ 8); · rfl
      cases rightH hs; · rfl
      cases fr
      · cases id == 0; · rfl
        cases off == 0; · rfl
        cases mo; rotate_left; · rfl
        cases exB pr; rotate_left; · rfl
        rfl
      · cases decide (0 ≤ off); · rfl
        rfl
    · exact .inl fun k => by rw [aIf_neg hp]
  · exact .inl fun k => rfl
theorem En38 : Enters Try.prog 38 := ⟨_, Try.func38, by decide, rfl⟩

/-- ferryman/ferrymanref05.Check -/
noncomputable def T27 : List (FuncId × FSpec) := [(28, S28), (38, S38)]
theorem T27_ok : TabOK Try.prog T27 := TabOK.cons En28 S28_ok (TabOK.cons En38 S38_ok (TabOK.nil _))
noncomputable def C27 : Ctx := (ctx E T27 [] [(0, [1]), (1, [1, 5]), (2, [2]), (3, [19]), (4, [2]), (5, [2])] [] 20 70)
theorem C27_ok : CtxOK Try.prog C27 := ctx_ok E_ok E_flds mixed T27_ok
noncomputable def B27 : FSpec := inlineK C27 Try.f27
noncomputable def S27 : FSpec := fun args H k => match args, H with
  | [.agg cs], [] => aIf (v6G cs) (k (.ret (.int .i64 (chk6 (cs.getD 1 .junk).toInt (cs.getD 35 .junk).toFs (cs.getD 36 .junk).toBool (cs.getD 37 .junk).toInt (cs.getD 38 .junk).toInt (cs.getD 39 .junk).toBool (cs.getD 40 .junk).toInt (cs.getD 41 .junk).toFs))) []) none
  | _, _ => none
theorem B27_ok : SpecOK Try.prog 27 B27 := inlineK_ok C27_ok Try.func27 (fun _ _ => LoopsOK.none _)
theorem N27 (cl lb hop : Int) (x y : Nat → Int) (hs : List AV) (hf : SF) (fr : Bool) (id off : Int) (mo : Bool) (pr : Int) (bs : List AV) (bf : SF)  (k : KE) : B27 [.agg [.int .u8 cl, .int .u32 lb, .int .u8 hop, .int .u8 (x 0), .int .u8 (x 1), .int .u8 (x 2), .int .u8 (x 3), .int .u8 (x 4), .int .u8 (x 5), .int .u8 (x 6), .int .u8 (x 7), .int .u8 (x 8), .int .u8 (x 9), .int .u8 (x 10), .int .u8 (x 11), .int .u8 (x 12), .int .u8 (x 13), .int .u8 (x 14), .int .u8 (x 15), .int .u8 (y 0), .int .u8 (y 1), .int .u8 (y 2), .int .u8 (y 3), .int .u8 (y 4), .int .u8 (y 5), .int .u8 (y 6), .int .u8 (y 7), .int .u8 (y 8), .int .u8 (y 9), .int .u8 (y 10), .int .u8 (y 11), .int .u8 (y 12), .int .u8 (y 13), .int .u8 (y 14), .int .u8 (y 15), .fs 2 hs hf, .bool fr, .int .u32 id, .int .i64 off, .bool mo, .int .u8 pr, .fs 1 bs bf]] [] k =
  aIf (Pl.v6G [AV.int IntKind.u8 cl, AV.int IntKind.u32 lb, AV.int IntKind.u8 hop, AV.int IntKind.u8 (x 0), AV.int IntKind.u8 (x 1), AV.int IntKind.u8 (x 2), AV.int IntKind.u8 (x 3), AV.int IntKind.u8 (x 4), AV.int IntKind.u8 (x 5), AV.int IntKind.u8 (x 6), AV.int IntKind.u8 (x 7), AV.int IntKind.u8 (x 8), AV.int IntKind.u8 (x 9), AV.int IntKind.u8 (x 10), AV.int IntKind.u8 (x 11), AV.int IntKind.u8 (x 12), AV.int IntKind.u8 (x 13), AV.int IntKind.u8 (x 14), AV.int IntKind.u8 (x 15), AV.int IntKind.u8 (y 0), AV.int IntKind.u8 (y 1), AV.int IntKind.u8 (y 2), AV.int IntKind.u8 (y 3), AV.int IntKind.u8 (y 4), AV.int IntKind.u8 (y 5), AV.int IntKind.u8 (y 6), AV.int IntKind.u8 (y 7), AV.int IntKind.u8 (y 8), AV.int IntKind.u8 (y 9), AV.int IntKind.u8 (y 10), AV.int IntKind.u8 (y 11), AV.int IntKind.u8 (y 12), AV.int IntKind.u8 (y 13), AV.int IntKind.u8 (y 14), AV.int IntKind.u8 (y 15), AV.fs 2 hs hf, AV.bool fr, AV.int IntKind.u32 id, AV.int IntKind.i64 off, AV.bool mo, AV.int IntKind.u8 pr, AV.fs 1 bs bf]) (aIf (!Pl.right6 lb hs fr id off mo pr) (k (AEnd.ret (AV.int IntKind.i64 54)) []) (aIf (decide ((↑bs.length : Int) > 65535)) (k (AEnd.ret (AV.int IntKind.i64 2)) []) (aIf (Pl.v6G [AV.int IntKind.u8 cl, AV.int IntKind.u32 lb, AV.int IntKind.u8 hop, AV.int IntKind.u8 (x 0), AV.int IntKind.u8 (x 1), AV.int IntKind.u8 (x 2), AV.int IntKind.u8 (x 3), AV.int IntKind.u8 (x 4), AV.int IntKind.u8 (x 5), AV.int IntKind.u8 (x 6), AV.int IntKind.u8 (x 7), AV.int IntKind.u8 (x 8), AV.int IntKind.u8 (x 9), AV.int IntKind.u8 (x 10), AV.int IntKind.u8 (x 11), AV.int IntKind.u8 (x 12), AV.int IntKind.u8 (x 13), AV.int IntKind.u8 (x 14), AV.int IntKind.u8 (x 15), AV.int IntKind.u8 (y 0), AV.int IntKind.u8 (y 1), AV.int IntKind.u8 (y 2), AV.int IntKind.u8 (y 3), AV.int IntKind.u8 (y 4), AV.int IntKind.u8 (y 5), AV.int IntKind.u8 (y 6), AV.int IntKind.u8 (y 7), AV.int IntKind.u8 (y 8), AV.int IntKind.u8 (y 9), AV.int IntKind.u8 (y 10), AV.int IntKind.u8 (y 11), AV.int IntKind.u8 (y 12), AV.int IntKind.u8 (y 13), AV.int IntKind.u8 (y 14), AV.int IntKind.u8 (y 15), AV.fs 2 hs hf, AV.bool fr, AV.int IntKind.u32 id, AV.int IntKind.i64 off, AV.bool mo, AV.int IntKind.u8 pr, AV.fs 1 bs bf] && (Pl.rightH hs && decide (hs.length ≤ 8))) (aIf (decide (IntKind.i64.wrap (IntKind.i64.wrap ((↑(Pl.ahd6 hs fr) : Int) - 40) + (↑bs.length : Int)) > 65535)) (k (AEnd.ret (AV.int IntKind.i64 2)) []) (k (AEnd.ret (AV.int IntKind.i64 0)) [])) none))) none := by kernel_rfl
theorem S27_ok : SpecOK Try.prog 27 S27 := by
  refine B27_ok.turn fun args H => ?_
  unfold S27
  split
  · rename_i cs 
    rcases Bool.eq_false_or_eq_true (v6G cs) with hp | hp
    · refine .inr fun k => ?_
      rw [aIf_pos hp]
      skip
      skip
      obtain ⟨cl, lb, hop, x, y, hs, hf, fr, id, off, mo, pr, bs, bf, rfl, hok⟩ := v6G_iff.1 hp
      have hok' := hok
      replace hp : v6G [.int .u8 cl, .int .u32 lb, .int .u8 hop, .int .u8 (x 0), .int .u8 (x 1), .int .u8 (x 2), .int .u8 (x 3), .int .u8 (x 4), .int .u8 (x 5), .int .u8 (x 6), .int .u8 (x 7), .int .u8 (x 8), .int .u8 (x 9), .int .u8 (x 10), .int .u8 (x 11), .int .u8 (x 12), .int .u8 (x 13), .int .u8 (x 14), .int .u8 (x 15), .int .u8 (y 0), .int .u8 (y 1), .int .u8 (y 2), .int .u8 (y 3), .int .u8 (y 4), .int .u8 (y 5), .int .u8 (y 6), .int .u8 (y 7), .int .u8 (y 8), .int .u8 (y 9), .int .u8 (y 10), .int .u8 (y 11), .int .u8 (y 12), .int .u8 (y 13), .int .u8 (y 14), .int .u8 (y 15), .fs 2 hs hf, .bool fr, .int .u32 id, .int .i64 off, .bool mo, .int .u8 pr, .fs 1 bs bf] = true := hp
      obtain ⟨hh, hhf, hb, hbf, l0, l1, o0, o1, p0, p1, i0, i1⟩ := v6Ok_iff.1 hok'
      show k (.ret (.int .i64 (chk6 lb hs fr id off mo pr bs))) [] = B27 [.agg [.int .u8 cl, .int .u32 lb, .int .u8 hop, .int .u8 (x 0), .int .u8 (x 1), .int .u8 (x 2), .int .u8 (x 3), .int .u8 (x 4), .int .u8 (x 5), .int .u8 (x 6), .int .u8 (x 7), .int .u8 (x 8), .int .u8 (x 9), .int .u8 (x 10), .int .u8 (x 11), .int .u8 (x 12), .int .u8 (x 13), .int .u8 (x 14), .int .u8 (x 15), .int .u8 (y 0), .int .u8 (y 1), .int .u8 (y 2), .int .u8 (y 3), .int .u8 (y 4), .int .u8 (y 5), .int .u8 (y 6), .int .u8 (y 7), .int .u8 (y 8), .int .u8 (y 9), .int .u8 (y 10), .int .u8 (y 11), .int .u8 (y 12), .int .u8 (y 13), .int .u8 (y 14), .int .u8 (y 15), .fs 2 hs hf, .bool fr, .int .u32 id, .int .i64 off, .bool mo, .int .u8 pr, .fs 1 bs bf]] [] k
      rw [N27]
      simp only [hp, aIf_true]
      unfold chk6
      cases hr6 : right6 lb hs fr id off mo pr with
      | false => rfl
      | true =>
        obtain ⟨hr, hl⟩ := right6_heads hr6
        obtain ⟨a1, a2, a3⟩ := ahd6_le hh hr hl fr
        simp only [hr, decide_eq_true hl, Bool.true_and, aIf_true, Bool.not_true, aIf_false, cond_true]
        generalize headsN hs + (bif fr then 8 else 0) = z at *
        by_cases hb9 : 65535 < bs.length
        · rw [decide_eq_true (show (bs.length : Int) > 65535 by omega), decide_eq_false (show ¬ z + bs.length ≤ 65535 by omega)]; rfl
        rw [decide_eq_false (show ¬ (bs.length : Int) > 65535 by omega), i64_of (n := (ahd6 hs fr : Int) - 40) (by omega) (by omega), i64_of (by omega) (by omega)]
        rw [show decide ((ahd6 hs fr : Int) - 40 + (bs.length : Int) > 65535) = !decide (z + bs.length ≤ 65535) by rw [Bool.eq_iff_iff, Bool.not_eq_true', decide_eq_true_eq, decide_eq_false_iff_not]; omega]
        cases decide (z + bs.length ≤ 65535) <;> rfl
    · exact .inl fun k => by rw [aIf_neg hp]
  · exact .inl fun k => rfl
theorem En27 : Enters Try.prog 27 := ⟨_, Try.func27, by decide, rfl⟩

/-- ferryman/ferrymanref14.Check -/
noncomputable def T30 : List (FuncId × FSpec) := [(27, S27)]
theorem T30_ok : TabOK Try.prog T30 := TabOK.cons En27 S27_ok (TabOK.nil _)
noncomputable def C30 : Ctx := (ctx E T30 [] [(0, [1]), (1, [2])] [] 5 70)
theorem C30_ok : CtxOK Try.prog C30 := ctx_ok E_ok E_flds mixed T30_ok
noncomputable def B30 : FSpec := inlineK C30 Try.f30
noncomputable def S30 : FSpec := fun args H k => match args, H with
  | [.agg cs], [] => aIf (v6G cs) (k (.ret (.int .i64 (chk6 (cs.getD 1 .junk).toInt (cs.getD 35 .junk).toFs (cs.getD 36 .junk).toBool (cs.getD 37 .junk).toInt (cs.getD 38 .junk).toInt (cs.getD 39 .junk).toBool (cs.getD 40 .junk).toInt (cs.getD 41 .junk).toFs))) []) none
  | _, _ => none
theorem B30_ok : SpecOK Try.prog 30 B30 := inlineK_ok C30_ok Try.func30 (fun _ _ => LoopsOK.none _)
theorem N30 (cl lb hop : Int) (x y : Nat → Int) (hs : List AV) (hf : SF) (fr : Bool) (id off : Int) (mo : Bool) (pr : Int) (bs : List AV) (bf : SF)  (k : KE) : B30 [.agg [.int .u8 cl, .int .u32 lb, .int .u8 hop, .int .u8 (x 0), .int .u8 (x 1), .int .u8 (x 2), .int .u8 (x 3), .int .u8 (x 4), .int .u8 (x 5), .int .u8 (x 6), .int .u8 (x 7), .int .u8 (x 8), .int .u8 (x 9), .int .u8 (x 10), .int .u8 (x 11), .int .u8 (x 12), .int .u8 (x 13), .int .u8 (x 14), .int .u8 (x 15), .int .u8 (y 0), .int .u8 (y 1), .int .u8 (y 2), .int .u8 (y 3), .int .u8 (y 4), .int .u8 (y 5), .int .u8 (y 6), .int .u8 (y 7), .int .u8 (y 8), .int .u8 (y 9), .int .u8 (y 10), .int .u8 (y 11), .int .u8 (y 12), .int .u8 (y 13), .int .u8 (y 14), .int .u8 (y 15), .fs 2 hs hf, .bool fr, .int .u32 id, .int .i64 off, .bool mo, .int .u8 pr, .fs 1 bs bf]] [] k =
  aIf (Pl.v6G [AV.int IntKind.u8 cl, AV.int IntKind.u32 lb, AV.int IntKind.u8 hop, AV.int IntKind.u8 (x 0), AV.int IntKind.u8 (x 1), AV.int IntKind.u8 (x 2), AV.int IntKind.u8 (x 3), AV.int IntKind.u8 (x 4), AV.int IntKind.u8 (x 5), AV.int IntKind.u8 (x 6), AV.int IntKind.u8 (x 7), AV.int IntKind.u8 (x 8), AV.int IntKind.u8 (x 9), AV.int IntKind.u8 (x 10), AV.int IntKind.u8 (x 11), AV.int IntKind.u8 (x 12), AV.int IntKind.u8 (x 13), AV.int IntKind.u8 (x 14), AV.int IntKind.u8 (x 15), AV.int IntKind.u8 (y 0), AV.int IntKind.u8 (y 1), AV.int IntKind.u8 (y 2), AV.int IntKind.u8 (y 3), AV.int IntKind.u8 (y 4), AV.int IntKind.u8 (y 5), AV.int IntKind.u8 (y 6), AV.int IntKind.u8 (y 7), AV.int IntKind.u8 (y 8), AV.int IntKind.u8 (y 9), AV.int IntKind.u8 (y 10), AV.int IntKind.u8 (y 11), AV.int IntKind.u8 (y 12), AV.int IntKind.u8 (y 13), AV.int IntKind.u8 (y 14), AV.int IntKind.u8 (y 15), AV.fs 2 hs hf, AV.bool fr, AV.int IntKind.u32 id, AV.int IntKind.i64 off, AV.bool mo, AV.int IntKind.u8 pr, AV.fs 1 bs bf]) (k (AEnd.ret (AV.int IntKind.i64 (Pl.chk6 lb hs fr id off mo pr bs))) []) none := by kernel_rfl
theorem S30_ok : SpecOK Try.prog 30 S30 := by
  refine B30_ok.turn fun args H => ?_
  unfold S30
  split
  · rename_i cs 
    rcases Bool.eq_false_or_eq_true (v6G cs) with hp | hp
    · refine .inr fun k => ?_
      rw [aIf_pos hp]
      skip
      skip
      obtain ⟨cl, lb, hop, x, y, hs, hf, fr, id, off, mo, pr, bs, bf, rfl, hok⟩ := v6G_iff.1 hp
      have hok' := hok
      replace hp : v6G [.int .u8 cl, .int .u32 lb, .int .u8 hop, .int .u8 (x 0), .int .u8 (x 1), .int .u8 (x 2), .int .u8 (x 3), .int .u8 (x 4), .int .u8 (x 5), .int .u8 (x 6), .int .u8 (x 7), .int .u8 (x 8), .int .u8 (x 9), .int .u8 (x 10), .int .u8 (x 11), .int .u8 (x 12), .int .u8 (x 13), .int .u8 (x 14), .int .u8 (x 15), .int .u8 (y 0), .int .u8 (y 1), .int .u8 (y 2), .int .u8 (y 3), .int .u8 (y 4), .int .u8 (y 5), .int .u8 (y 6), .int .u8 (y 7), .int .u8 (y 8), .int .u8 (y 9), .int .u8 (y 10), .int .u8 (y 11), .int .u8 (y 12), .int .u8 (y 13), .int .u8 (y 14), .int .u8 (y 15), .fs 2 hs hf, .bool fr, .int .u32 id, .int .i64 off, .bool mo, .int .u8 pr, .fs 1 bs bf] = true := hp
      obtain ⟨hh, hhf, hb, hbf, l0, l1, o0, o1, p0, p1, i0, i1⟩ := v6Ok_iff.1 hok'
      show k (.ret (.int .i64 (chk6 lb hs fr id off mo pr bs))) [] = B30 [.agg [.int .u8 cl, .int .u32 lb, .int .u8 hop, .int .u8 (x 0), .int .u8 (x 1), .int .u8 (x 2), .int .u8 (x 3), .int .u8 (x 4), .int .u8 (x 5), .int .u8 (x 6), .int .u8 (x 7), .int .u8 (x 8), .int .u8 (x 9), .int .u8 (x 10), .int .u8 (x 11), .int .u8 (x 12), .int .u8 (x 13), .int .u8 (x 14), .int .u8 (x 15), .int .u8 (y 0), .int .u8 (y 1), .int .u8 (y 2), .int .u8 (y 3), .int .u8 (y 4), .int .u8 (y 5), .int .u8 (y 6), .int .u8 (y 7), .int .u8 (y 8), .int .u8 (y 9), .int .u8 (y 10), .int .u8 (y 11), .int .u8 (y 12), .int .u8 (y 13), .int .u8 (y 14), .int .u8 (y 15), .fs 2 hs hf, .bool fr, .int .u32 id, .int .i64 off, .bool mo, .int .u8 pr, .fs 1 bs bf]] [] k
      rw [N30]
      rw [hp]; rfl
    · exact .inl fun k => by rw [aIf_neg hp]
  · exact .inl fun k => rfl
theorem En30 : Enters Try.prog 30 := ⟨_, Try.func30, by decide, rfl⟩

/-- ferryman/ferrymanref14.isMTU -/
noncomputable def T31 : List (FuncId × FSpec) := []
theorem T31_ok : TabOK Try.prog T31 := TabOK.nil _
noncomputable def C31 : Ctx := (ctx E T31 [] [(0, [0]), (1, [2])] [] 9 70)
theorem C31_ok : CtxOK Try.prog C31 := ctx_ok E_ok E_flds mixed T31_ok
noncomputable def S31 : FSpec := inlineK C31 Try.f31
theorem S31_ok : SpecOK Try.prog 31 S31 := inlineK_ok C31_ok Try.func31 (fun _ _ => LoopsOK.none _)
theorem En31 : Enters Try.prog 31 := ⟨_, Try.func31, by decide, rfl⟩

/-- ferryman/ferrymanref14.Fits -/
noncomputable def T16 : List (FuncId × FSpec) := [(29, S29), (30, S30), (31, S31)]
theorem T16_ok : TabOK Try.prog T16 := TabOK.cons En29 S29_ok (TabOK.cons En30 S30_ok (TabOK.cons En31 S31_ok (TabOK.nil _)))
noncomputable def C16 : Ctx := (ctx E T16 [] [(0, [1, 2]), (1, [1, 2, 6]), (2, [1, 2, 6, 11]), (3, [4, 5]), (4, [1, 2, 15]), (5, [4, 5]), (6, [1, 2, 7]), (7, [1, 7, 24]), (8, [1, 7]), (9, [4, 5])] [] 30 70)
theorem C16_ok : CtxOK Try.prog C16 := ctx_ok E_ok E_flds mixed T16_ok
noncomputable def B16 : FSpec := inlineK C16 Try.f16
noncomputable def S16 : FSpec := fun args H k => match args, H with
  | [.agg cs, .int .i64 m], [] => aIf (v6G cs) (k (.ret (.tup [.bool (fit6 (cs.getD 1 .junk).toInt (cs.getD 35 .junk).toFs (cs.getD 36 .junk).toBool (cs.getD 37 .junk).toInt (cs.getD 38 .junk).toInt (cs.getD 39 .junk).toBool (cs.getD 40 .junk).toInt (cs.getD 41 .junk).toFs m), .int .i64 (ask6 (cs.getD 1 .junk).toInt (cs.getD 35 .junk).toFs (cs.getD 36 .junk).toBool (cs.getD 37 .junk).toInt (cs.getD 38 .junk).toInt (cs.getD 39 .junk).toBool (cs.getD 40 .junk).toInt (cs.getD 41 .junk).toFs m)])) []) none
  | _, _ => none
theorem B16_ok : SpecOK Try.prog 16 B16 := inlineK_ok C16_ok Try.func16 (fun _ _ => LoopsOK.none _)
theorem N16 (cl lb hop : Int) (x y : Nat → Int) (hs : List AV) (hf : SF) (fr : Bool) (id off : Int) (mo : Bool) (pr : Int) (bs : List AV) (bf : SF) (m : Int) (k : KE) : B16 [.agg [.int .u8 cl, .int .u32 lb, .int .u8 hop, .int .u8 (x 0), .int .u8 (x 1), .int .u8 (x 2), .int .u8 (x 3), .int .u8 (x 4), .int .u8 (x 5), .int .u8 (x 6), .int .u8 (x 7), .int .u8 (x 8), .int .u8 (x 9), .int .u8 (x 10), .int .u8 (x 11), .int .u8 (x 12), .int .u8 (x 13), .int .u8 (x 14), .int .u8 (x 15), .int .u8 (y 0), .int .u8 (y 1), .int .u8 (y 2), .int .u8 (y 3), .int .u8 (y 4), .int .u8 (y 5), .int .u8 (y 6), .int .u8 (y 7), .int .u8 (y 8), .int .u8 (y 9), .int .u8 (y 10), .int .u8 (y 11), .int .u8 (y 12), .int .u8 (y 13), .int .u8 (y 14), .int .u8 (y 15), .fs 2 hs hf, .bool fr, .int .u32 id, .int .i64 off, .bool mo, .int .u8 pr, .fs 1 bs bf], .int .i64 m] [] k =
  aIf (Pl.v6G [AV.int IntKind.u8 cl, AV.int IntKind.u32 lb, AV.int IntKind.u8 hop, AV.int IntKind.u8 (x 0), AV.int IntKind.u8 (x 1), AV.int IntKind.u8 (x 2), AV.int IntKind.u8 (x 3), AV.int IntKind.u8 (x 4), AV.int IntKind.u8 (x 5), AV.int IntKind.u8 (x 6), AV.int IntKind.u8 (x 7), AV.int IntKind.u8 (x 8), AV.int IntKind.u8 (x 9), AV.int IntKind.u8 (x 10), AV.int IntKind.u8 (x 11), AV.int IntKind.u8 (x 12), AV.int IntKind.u8 (x 13), AV.int IntKind.u8 (x 14), AV.int IntKind.u8 (x 15), AV.int IntKind.u8 (y 0), AV.int IntKind.u8 (y 1), AV.int IntKind.u8 (y 2), AV.int IntKind.u8 (y 3), AV.int IntKind.u8 (y 4), AV.int IntKind.u8 (y 5), AV.int IntKind.u8 (y 6), AV.int IntKind.u8 (y 7), AV.int IntKind.u8 (y 8), AV.int IntKind.u8 (y 9), AV.int IntKind.u8 (y 10), AV.int IntKind.u8 (y 11), AV.int IntKind.u8 (y 12), AV.int IntKind.u8 (y 13), AV.int IntKind.u8 (y 14), AV.int IntKind.u8 (y 15), AV.fs 2 hs hf, AV.bool fr, AV.int IntKind.u32 id, AV.int IntKind.i64 off, AV.bool mo, AV.int IntKind.u8 pr, AV.fs 1 bs bf]) (aIf (Pl.chk6 lb hs fr id off mo pr bs != 0) (k (AEnd.ret (AV.tup [AV.bool false, AV.int IntKind.i64 (Pl.chk6 lb hs fr id off mo pr bs)])) []) (aIf (decide (m ≥ 1280)) (aIf (!decide (m ≤ 65535)) (k (AEnd.ret (AV.tup [AV.bool false, AV.int IntKind.i64 131])) []) (aIf (Pl.v6G [AV.int IntKind.u8 cl, AV.int IntKind.u32 lb, AV.int IntKind.u8 hop, AV.int IntKind.u8 (x 0), AV.int IntKind.u8 (x 1), AV.int IntKind.u8 (x 2), AV.int IntKind.u8 (x 3), AV.int IntKind.u8 (x 4), AV.int IntKind.u8 (x 5), AV.int IntKind.u8 (x 6), AV.int IntKind.u8 (x 7), AV.int IntKind.u8 (x 8), AV.int IntKind.u8 (x 9), AV.int IntKind.u8 (x 10), AV.int IntKind.u8 (x 11), AV.int IntKind.u8 (x 12), AV.int IntKind.u8 (x 13), AV.int IntKind.u8 (x 14), AV.int IntKind.u8 (x 15), AV.int IntKind.u8 (y 0), AV.int IntKind.u8 (y 1), AV.int IntKind.u8 (y 2), AV.int IntKind.u8 (y 3), AV.int IntKind.u8 (y 4), AV.int IntKind.u8 (y 5), AV.int IntKind.u8 (y 6), AV.int IntKind.u8 (y 7), AV.int IntKind.u8 (y 8), AV.int IntKind.u8 (y 9), AV.int IntKind.u8 (y 10), AV.int IntKind.u8 (y 11), AV.int IntKind.u8 (y 12), AV.int IntKind.u8 (y 13), AV.int IntKind.u8 (y 14), AV.int IntKind.u8 (y 15), AV.fs 2 hs hf, AV.bool fr, AV.int IntKind.u32 id, AV.int IntKind.i64 off, AV.bool mo, AV.int IntKind.u8 pr, AV.fs 1 bs bf] && (Pl.rightH hs && decide (hs.length ≤ 8))) (aIf (!fr) (k (AEnd.ret (AV.tup [AV.bool (decide (IntKind.i64.wrap (IntKind.i64.wrap ((↑(48 + Pl.headsN hs) : Int) + (↑bs.length : Int)) - 8) ≤ m)), AV.int IntKind.i64 0])) []) (k (AEnd.ret (AV.tup [AV.bool (decide (IntKind.i64.wrap ((↑(48 + Pl.headsN hs) : Int) + (↑bs.length : Int)) ≤ m)), AV.int IntKind.i64 0])) [])) none)) (k (AEnd.ret (AV.tup [AV.bool false, AV.int IntKind.i64 131])) []))) none := by kernel_rfl
theorem S16_ok : SpecOK Try.prog 16 S16 := by
  refine B16_ok.turn fun args H => ?_
  unfold S16
  split
  · rename_i cs m
    rcases Bool.eq_false_or_eq_true (v6G cs) with hp | hp
    · refine .inr fun k => ?_
      rw [aIf_pos hp]
      skip
      skip
      obtain ⟨cl, lb, hop, x, y, hs, hf, fr, id, off, mo, pr, bs, bf, rfl, hok⟩ := v6G_iff.1 hp
      have hok' := hok
      replace hp : v6G [.int .u8 cl, .int .u32 lb, .int .u8 hop, .int .u8 (x 0), .int .u8 (x 1), .int .u8 (x 2), .int .u8 (x 3), .int .u8 (x 4), .int .u8 (x 5), .int .u8 (x 6), .int .u8 (x 7), .int .u8 (x 8), .int .u8 (x 9), .int .u8 (x 10), .int .u8 (x 11), .int .u8 (x 12), .int .u8 (x 13), .int .u8 (x 14), .int .u8 (x 15), .int .u8 (y 0), .int .u8 (y 1), .int .u8 (y 2), .int .u8 (y 3), .int .u8 (y 4), .int .u8 (y 5), .int .u8 (y 6), .int .u8 (y 7), .int .u8 (y 8), .int .u8 (y 9), .int .u8 (y 10), .int .u8 (y 11), .int .u8 (y 12), .int .u8 (y 13), .int .u8 (y 14), .int .u8 (y 15), .fs 2 hs hf, .bool fr, .int .u32 id, .int .i64 off, .bool mo, .int .u8 pr, .fs 1 bs bf] = true := hp
      obtain ⟨hh, hhf, hb, hbf, l0, l1, o0, o1, p0, p1, i0, i1⟩ := v6Ok_iff.1 hok'
      show k (.ret (.tup [.bool (fit6 lb hs fr id off mo pr bs m), .int .i64 (ask6 lb hs fr id off mo pr bs m)])) [] = B16 [.agg [.int .u8 cl, .int .u32 lb, .int .u8 hop, .int .u8 (x 0), .int .u8 (x 1), .int .u8 (x 2), .int .u8 (x 3), .int .u8 (x 4), .int .u8 (x 5), .int .u8 (x 6), .int .u8 (x 7), .int .u8 (x 8), .int .u8 (x 9), .int .u8 (x 10), .int .u8 (x 11), .int .u8 (x 12), .int .u8 (x 13), .int .u8 (x 14), .int .u8 (x 15), .int .u8 (y 0), .int .u8 (y 1), .int .u8 (y 2), .int .u8 (y 3), .int .u8 (y 4), .int .u8 (y 5), .int .u8 (y 6), .int .u8 (y 7), .int .u8 (y 8), .int .u8 (y 9), .int .u8 (y 10), .int .u8 (y 11), .int .u8 (y 12), .int .u8 (y 13), .int .u8 (y 14), .int .u8 (y 15), .fs 2 hs hf, .bool fr, .int .u32 id, .int .i64 off, .bool mo, .int .u8 pr, .fs 1 bs bf], .int .i64 m] [] k
      rw [N16]
      simp only [hp, aIf_true]
      by_cases hc : chk6 lb hs fr id off mo pr bs = 0
      · obtain ⟨hr6, hbl⟩ := chk6_ok hc
        obtain ⟨hr, hl⟩ := right6_heads hr6
        have hn := headsN_le hh hr hl
        unfold fit6 ask6 ahd6
        rw [hc, bne_self_eq_false, aIf_false, beq_self_eq_true, cond_true]
        simp only [hr, decide_eq_true hl, Bool.true_and, aIf_true]
        rw [show decide (m ≥ 1280) = decide (1280 ≤ m) from rfl]
        cases decide (1280 ≤ m); · rfl
        cases decide (m ≤ 65535); · rfl
        rw [i64_of (n := ((48 + headsN hs : Nat) : Int) + (bs.length : Int)) (by omega) (by omega), i64_of (by omega) (by omega)]
        cases fr
        · rw [show decide (((48 + headsN hs : Nat) : Int) + (bs.length : Int) - 8 ≤ m) = decide (((40 + headsN hs + (bif false then 8 else 0) + bs.length : Nat) : Int) ≤ m) by rw [Bool.eq_iff_iff, decide_eq_true_eq, decide_eq_true_eq, cond_false]; omega]
          rfl
        · rw [show decide (((48 + headsN hs : Nat) : Int) + (bs.length : Int) ≤ m) = decide (((40 + headsN hs + (bif true then 8 else 0) + bs.length : Nat) : Int) ≤ m) by rw [Bool.eq_iff_iff, decide_eq_true_eq, decide_eq_true_eq, cond_true]; omega]
          rfl
      · have hq : ask6 lb hs fr id off mo pr bs m = chk6 lb hs fr id off mo pr bs := by unfold ask6; rw [beq_eq_false_iff_ne.2 hc]; rfl
        rw [fit6_bad (by rw [hq]; exact hc), hq, bne, beq_eq_false_iff_ne.2 hc, Bool.not_false, aIf_true]
    · exact .inl fun k => by rw [aIf_neg hp]
  · exact .inl fun k => rfl
theorem En16 : Enters Try.prog 16 := ⟨_, Try.func16, by decide, rfl⟩
end Go.Proofs.Ytkbnhliogfcplaa
