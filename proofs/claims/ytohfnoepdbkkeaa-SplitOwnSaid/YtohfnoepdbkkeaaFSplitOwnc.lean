import Derived.Test.YtohfnoepdbkkeaaFSplitOwnb
namespace Go.Proofs.Ytohfnoepdbkkeaa
open Go.Abs Go.Pl

/-- ferryman/ferrymanlaw13.alive -/
noncomputable def W17 : FSpec := shareK S17z
theorem W17_ok : SpecOK Try.prog 17 W17 := S17z_ok.share
noncomputable def T15 : List (FuncId × FSpec) := [(17, W17)]
theorem T15_ok : TabOK Try.prog T15 := TabOK.cons En17 W17_ok (TabOK.nil _)
noncomputable def C15 : Ctx := (ctx E T15 [] [(0, []), (1, [1, 2]), (2, [0])] [] 52 70)
theorem C15_ok : CtxOK Try.prog C15 := ctx_ok E_ok E_flds mixed T15_ok
noncomputable def B15 : FSpec := inlineK C15 Try.f15
noncomputable def S15 : FSpec := constK (AV.bool true)
theorem B15_ok : SpecOK Try.prog 15 B15 := inlineK_ok C15_ok Try.func15 (fun _ _ => LoopsOK.none _)
theorem B15_is (k : KE) : B15 [] [] k = k (.ret (AV.bool true)) [] := by kernel_rfl
theorem S15_ok : SpecOK Try.prog 15 S15 := constK_ok B15_ok B15_is
theorem En15 : Enters Try.prog 15 := ⟨_, Try.func15, by decide, rfl⟩

/-- ferryman/ferrymanlaw13.cut -/
noncomputable def T16 : List (FuncId × FSpec) := []
theorem T16_ok : TabOK Try.prog T16 := TabOK.nil _
noncomputable def C16 : Ctx := (ctx E T16 [] [(0, [1, 2]), (1, [1, 2, 6]), (2, [1, 2]), (3, [1, 2, 14]), (4, [1, 2]), (5, [2])] [] 20 70)
theorem C16_ok : CtxOK Try.prog C16 := ctx_ok E_ok E_flds mixed T16_ok
noncomputable def B16 : FSpec := inlineK C16 Try.f16
noncomputable def S16 : FSpec := fun args H k => match args, H with
  | [.agg [.int .u8 t, .int .u16 i, .bool df, .bool mf, .int .i64 off, .int .u8 l, .int .u8 q, .int .u8 s0, .int .u8 s1, .int .u8 s2, .int .u8 s3, .int .u8 d0, .int .u8 d1, .int .u8 d2, .int .u8 d3, .fs 1 os of, .fs 1 bs bf]], [] => aIf (true) (k (.ret (.agg [.int .u8 t, .int .u16 i, .bool df, .bool mf, .int .i64 off, .int .u8 l, .int .u8 q, .int .u8 s0, .int .u8 s1, .int .u8 s2, .int .u8 s3, .int .u8 d0, .int .u8 d1, .int .u8 d2, .int .u8 d3, .fs 1 (os.take 100) of, .fs 1 (bs.take 70000) bf])) []) none
  | _, _ => none
theorem B16_ok : SpecOK Try.prog 16 B16 := inlineK_ok C16_ok Try.func16 (fun _ _ => LoopsOK.none _)
theorem N16 (t i : Int) (df mf : Bool) (off l q s0 s1 s2 s3 d0 d1 d2 d3 : Int) (os : List AV) (of : SF) (bs : List AV) (bf : SF) (k : KE) : B16 [.agg [.int .u8 t, .int .u16 i, .bool df, .bool mf, .int .i64 off, .int .u8 l, .int .u8 q, .int .u8 s0, .int .u8 s1, .int .u8 s2, .int .u8 s3, .int .u8 d0, .int .u8 d1, .int .u8 d2, .int .u8 d3, .fs 1 os of, .fs 1 bs bf]] [] k =
  aIf (decide ((↑bs.length : Int) > 70000)) (aIf (decide (70000 ≤ (↑bs.length : Int))) (aIf (decide ((↑os.length : Int) > 100)) (aIf (decide (100 ≤ (↑os.length : Int))) (k (AEnd.ret (AV.agg [AV.int IntKind.u8 t, AV.int IntKind.u16 i, AV.bool df, AV.bool mf, AV.int IntKind.i64 off, AV.int IntKind.u8 l, AV.int IntKind.u8 q, AV.int IntKind.u8 s0, AV.int IntKind.u8 s1, AV.int IntKind.u8 s2, AV.int IntKind.u8 s3, AV.int IntKind.u8 d0, AV.int IntKind.u8 d1, AV.int IntKind.u8 d2, AV.int IntKind.u8 d3, AV.fs 1 (List.drop 0 (List.take 100 os)) of, AV.fs 1 (List.drop 0 (List.take 70000 bs)) bf])) []) none) (k (AEnd.ret (AV.agg [AV.int IntKind.u8 t, AV.int IntKind.u16 i, AV.bool df, AV.bool mf, AV.int IntKind.i64 off, AV.int IntKind.u8 l, AV.int IntKind.u8 q, AV.int IntKind.u8 s0, AV.int IntKind.u8 s1, AV.int IntKind.u8 s2, AV.int IntKind.u8 s3, AV.int IntKind.u8 d0, AV.int IntKind.u8 d1, AV.int IntKind.u8 d2, AV.int IntKind.u8 d3, AV.fs 1 os of, AV.fs 1 (List.drop 0 (List.take 70000 bs)) bf])) [])) none) (aIf (decide ((↑os.length : Int) > 100)) (aIf (decide (100 ≤ (↑os.length : Int))) (k (AEnd.ret (AV.agg [AV.int IntKind.u8 t, AV.int IntKind.u16 i, AV.bool df, AV.bool mf, AV.int IntKind.i64 off, AV.int IntKind.u8 l, AV.int IntKind.u8 q, AV.int IntKind.u8 s0, AV.int IntKind.u8 s1, AV.int IntKind.u8 s2, AV.int IntKind.u8 s3, AV.int IntKind.u8 d0, AV.int IntKind.u8 d1, AV.int IntKind.u8 d2, AV.int IntKind.u8 d3, AV.fs 1 (List.drop 0 (List.take 100 os)) of, AV.fs 1 bs bf])) []) none) (k (AEnd.ret (AV.agg [AV.int IntKind.u8 t, AV.int IntKind.u16 i, AV.bool df, AV.bool mf, AV.int IntKind.i64 off, AV.int IntKind.u8 l, AV.int IntKind.u8 q, AV.int IntKind.u8 s0, AV.int IntKind.u8 s1, AV.int IntKind.u8 s2, AV.int IntKind.u8 s3, AV.int IntKind.u8 d0, AV.int IntKind.u8 d1, AV.int IntKind.u8 d2, AV.int IntKind.u8 d3, AV.fs 1 os of, AV.fs 1 bs bf])) [])) := by kernel_rfl
theorem S16_ok : SpecOK Try.prog 16 S16 := by
  refine B16_ok.turn fun args H => ?_
  unfold S16
  split
  · rename_i t i df mf off l q s0 s1 s2 s3 d0 d1 d2 d3 os of bs bf
    rcases Bool.eq_false_or_eq_true (true) with hp | hp
    · refine .inr fun k => ?_
      rw [aIf_pos hp, N16]
      have e1 : ∀ (n : Nat) (xs : List AV), ¬ (xs.length : Int) > (n : Int) → xs.take n = xs := fun n xs h => List.take_of_length_le (by omega)
      by_cases hb : (bs.length : Int) > 70000
      · rw [decide_eq_true hb, decide_eq_true (show (70000 : Int) ≤ (bs.length : Int) by omega)]
        by_cases ho : (os.length : Int) > 100
        · rw [decide_eq_true ho, decide_eq_true (show (100 : Int) ≤ (os.length : Int) by omega), List.drop_zero, List.drop_zero]; rfl
        · rw [decide_eq_false ho, List.drop_zero, e1 100 os ho]; rfl
      · rw [decide_eq_false hb, e1 70000 bs hb]
        by_cases ho : (os.length : Int) > 100
        · rw [decide_eq_true ho, decide_eq_true (show (100 : Int) ≤ (os.length : Int) by omega), List.drop_zero]; rfl
        · rw [decide_eq_false ho, e1 100 os ho]; rfl
    · exact .inl fun k => by rw [aIf_neg hp]
  · exact .inl fun k => rfl
theorem En16 : Enters Try.prog 16 := ⟨_, Try.func16, by decide, rfl⟩

/-- ferryman/ferrymanref04.Same -/
noncomputable def T19 : List (FuncId × FSpec) := []
theorem T19_ok : TabOK Try.prog T19 := TabOK.nil _
noncomputable def C19 : Ctx := (ctx E T19 [] [(0, [2, 3]), (1, [4])] [] 84 70)
theorem C19_ok : CtxOK Try.prog C19 := ctx_ok E_ok E_flds mixed T19_ok
noncomputable def B19 : FSpec := inlineK C19 Try.f19
noncomputable def S19 : FSpec := fun args H k => match args, H with
  | [.agg [.int .u8 t, .int .u16 i, .bool df, .bool mf, .int .i64 off, .int .u8 l, .int .u8 q, .int .u8 s0, .int .u8 s1, .int .u8 s2, .int .u8 s3, .int .u8 d0, .int .u8 d1, .int .u8 d2, .int .u8 d3, .fs 1 os of, .fs 1 bs bf], .agg [.int .u8 t', .int .u16 i', .bool df', .bool mf', .int .i64 off', .int .u8 l', .int .u8 q', .int .u8 s0', .int .u8 s1', .int .u8 s2', .int .u8 s3', .int .u8 d0', .int .u8 d1', .int .u8 d2', .int .u8 d3', .fs 1 os' of', .fs 1 bs' bf']], [] => aIf (t == t' && i == i' && df == df' && mf == mf' && off == off' && l == l' && q == q' && s0 == s0' && s1 == s1' && s2 == s2' && s3 == s3' && d0 == d0' && d1 == d1' && d2 == d2' && d3 == d3' && intsB .u8 os && intsB .u8 os' && eqB os os' && intsB .u8 bs && intsB .u8 bs' && eqB bs bs') (k (.ret (.bool true)) []) none
  | _, _ => none
theorem B19_ok : SpecOK Try.prog 19 B19 := inlineK_ok C19_ok Try.func19 (fun _ _ => LoopsOK.none _)
theorem N19 (t i : Int) (df mf : Bool) (off l q s0 s1 s2 s3 d0 d1 d2 d3 : Int) (os : List AV) (of : SF) (bs : List AV) (bf : SF) (of' bf' : SF) (k : KE) : B19 [.agg [.int .u8 t, .int .u16 i, .bool df, .bool mf, .int .i64 off, .int .u8 l, .int .u8 q, .int .u8 s0, .int .u8 s1, .int .u8 s2, .int .u8 s3, .int .u8 d0, .int .u8 d1, .int .u8 d2, .int .u8 d3, .fs 1 os of, .fs 1 bs bf], .agg [.int .u8 t, .int .u16 i, .bool df, .bool mf, .int .i64 off, .int .u8 l, .int .u8 q, .int .u8 s0, .int .u8 s1, .int .u8 s2, .int .u8 s3, .int .u8 d0, .int .u8 d1, .int .u8 d2, .int .u8 d3, .fs 1 os of', .fs 1 bs bf']] [] k =
  aIf (t == t) (aIf (i == i) (aIf (df == df) (aIf (mf == mf) (aIf (off == off) (aIf (l == l) (aIf (q == q) (aIf (s0 == s0 && (s1 == s1 && (s2 == s2 && (s3 == s3 && true)))) (aIf (d0 == d0 && (d1 == d1 && (d2 == d2 && (d3 == d3 && true)))) (aIf (allU8 os) (aIf (allU8 os) (aIf ((ByteArray.mk (Array.mk (List.map (fun v => UInt8.ofNat v.toInt.toNat) os))).toList == (ByteArray.mk (Array.mk (List.map (fun v => UInt8.ofNat v.toInt.toNat) os))).toList) (aIf (allU8 bs) (aIf (allU8 bs) (k (AEnd.ret (AV.bool ((ByteArray.mk (Array.mk (List.map (fun v => UInt8.ofNat v.toInt.toNat) bs))).toList == (ByteArray.mk (Array.mk (List.map (fun v => UInt8.ofNat v.toInt.toNat) bs))).toList))) []) none) none) (k (AEnd.ret (AV.bool false)) [])) none) none) (k (AEnd.ret (AV.bool false)) [])) (k (AEnd.ret (AV.bool false)) [])) (k (AEnd.ret (AV.bool false)) [])) (k (AEnd.ret (AV.bool false)) [])) (k (AEnd.ret (AV.bool false)) [])) (k (AEnd.ret (AV.bool false)) [])) (k (AEnd.ret (AV.bool false)) [])) (k (AEnd.ret (AV.bool false)) [])) (k (AEnd.ret (AV.bool false)) []) := by kernel_rfl
theorem S19_ok : SpecOK Try.prog 19 S19 := by
  refine B19_ok.turn fun args H => ?_
  unfold S19
  split
  · rename_i t i df mf off l q s0 s1 s2 s3 d0 d1 d2 d3 os of bs bf t' i' df' mf' off' l' q' s0' s1' s2' s3' d0' d1' d2' d3' os' of' bs' bf'
    rcases Bool.eq_false_or_eq_true (t == t' && i == i' && df == df' && mf == mf' && off == off' && l == l' && q == q' && s0 == s0' && s1 == s1' && s2 == s2' && s3 == s3' && d0 == d0' && d1 == d1' && d2 == d2' && d3 == d3' && intsB .u8 os && intsB .u8 os' && eqB os os' && intsB .u8 bs && intsB .u8 bs' && eqB bs bs') with hp | hp
    · refine .inr fun k => ?_
      rw [aIf_pos hp]
      simp only [Bool.and_eq_true, beq_iff_eq] at hp
      obtain ⟨⟨⟨⟨⟨⟨⟨⟨⟨⟨⟨⟨⟨⟨⟨⟨⟨⟨⟨⟨rfl, rfl⟩, rfl⟩, rfl⟩, rfl⟩, rfl⟩, rfl⟩, rfl⟩, rfl⟩, rfl⟩, rfl⟩, rfl⟩, rfl⟩, rfl⟩, rfl⟩, h1⟩, h2⟩, h3⟩, h4⟩, h5⟩, h6⟩ := hp
      obtain rfl := eqB_eq h1 h2 h3
      obtain rfl := eqB_eq h4 h5 h6
      rw [N19]
      simp only [beq_self_eq_true, Bool.and_self, aIf_true, allU8_of h1, allU8_of h4]
    · exact .inl fun k => by rw [aIf_neg hp]
  · exact .inl fun k => rfl
theorem En19 : Enters Try.prog 19 := ⟨_, Try.func19, by decide, rfl⟩

/-- ferryman/ferrymanref13.Copied -/
noncomputable def T14 : List (FuncId × FSpec) := []
theorem T14_ok : TabOK Try.prog T14 := TabOK.nil _
noncomputable def L14_3 : ATs → AH → KC → Res := fun ts H k => match ts, H with
  | [(0, .fs 1 xs fl), (3, .fs 0 [] .nil), (4, .int .i64 i)], [] => aIf (i == 0 && intsB .u8 xs && decide (xs.length ≤ 100000)) (aIf (isNil (copL xs)) (k (.exit 0) [(0, .fs 1 xs fl), (3, .fs 0 [] .nil), (4, .int .i64 (copI xs : Int)), docT xs (copI xs)] []) (k (.exit 0) [(0, .fs 1 xs fl), (3, .sl 0 (copL xs).length 0 (copL xs).length 1), (4, .int .i64 (copI xs : Int)), docT xs (copI xs)] [.cells (copL xs).length (copL xs)])) none
  | _, _ => none
noncomputable def L14_11 : ATs → AH → KC → Res := fun ts H k => match ts, H with
  | [(3, .fs 0 [] .nil)], [] => aIf (true) (k (.exit 2) [(3, .fs 0 [] .nil), (75, .bool false)] []) none
  | [(3, .sl 0 v 0 l 1)], [.cells w cs] => aIf (v == l && w == l && l == cs.length && decide (l ≤ 200000) && !isNil cs && intsB .u8 cs) (k (.exit 2) [(3, .sl 0 (padL cs).length 0 (padL cs).length 1), (75, .bool false)] [.cells (padL cs).length (padL cs)]) none
  | _, _ => none
noncomputable def C14 : Ctx := (ctx E T14 [(3, L14_3), (11, L14_11)] [(0, [0]), (1, [0, 3]), (2, [0, 3, 4]), (3, [0, 3, 4, 16]), (4, [0, 3, 4, 21]), (5, [0, 3, 4]), (6, [0, 3, 4, 49]), (7, [0, 3, 4, 5]), (8, [0, 3, 4, 5, 60]), (9, [0, 3, 4, 5]), (10, [0, 3, 4]), (11, [3, 75]), (12, [3]), (13, [2]), (1000003, [0, 3, 4]), (1000011, [3])] [] 80 70)
theorem C14_ok : CtxOK Try.prog C14 := ctx_ok E_ok E_flds mixed T14_ok
theorem C14_l0 : C14.loop (loopId (loopB Try.f14 0)) = some L14_3 := by kernel_rfl
theorem C14_l1 : C14.loop (loopId (loopB Try.f14 1)) = some L14_11 := by kernel_rfl
theorem L14_11_in : LoopsOK C14 (loopB Try.f14 1) := LoopsOK.within 0 (by kernel_rfl) (fun j hj S hS => by
  omega)
theorem M14_11a  (k : KC) : headedK C14 (loopB Try.f14 1) [(3, .fs 0 [] .nil)] [] k =
  k (AExit.exit 2) [(3, AV.fs 0 [] SF.nil), (75, AV.bool false)] [] := by kernel_rfl
theorem M14_11b (v l w : Nat) (cs : List AV) (k : KC) : headedK C14 (loopB Try.f14 1) [(3, .sl 0 v 0 l 1)] [.cells w cs] k =
  aIf ((↑l : Int).tmod 4 != 0) (aIf (v == 0) none (aIf (w == v) (aIf (((l + 1) * 1).ble 140737488355328) (k AExit.normal [(3, AV.sl 0 (max v ((l + 1) * 1)) 0 (l + 1) 1)] [AO.cells (max v ((l + 1) * 1)) (List.take (l * 1) cs ++ [AV.int IntKind.u8 0] ++ List.drop (l * 1 + 1) cs)]) none) none)) (k (AExit.exit 2) [(3, AV.sl 0 v 0 l 1), (75, AV.bool ((↑l : Int).tmod 4 != 0))] [AO.cells w cs]) := by kernel_rfl
theorem L14_11_ok : LoopSum C14 (loopB Try.f14 1) L14_11 := LoopSum.of C14_ok L14_11_in (fun ts H => by
  unfold L14_11
  split
  · skip
    rcases Bool.eq_false_or_eq_true (true) with hp | hp
    · refine .inr ?_
      simp only [aIf_pos hp]
      exact ⟨1, fun k => (iter_exit (by intro h; cases h) (fun k => M14_11a k) 0 k).symm⟩
    · exact .inl fun k => by rw [aIf_neg hp]
  · rename_i v l w cs
    rcases Bool.eq_false_or_eq_true (v == l && w == l && l == cs.length && decide (l ≤ 200000) && !isNil cs && intsB .u8 cs) with hp | hp
    · refine .inr ?_
      simp only [aIf_pos hp]
      simp only [Bool.and_eq_true, beq_iff_eq, decide_eq_true_eq, Bool.not_eq_true'] at hp
      obtain ⟨⟨⟨⟨⟨rfl, rfl⟩, rfl⟩, hL⟩, hne⟩, hu⟩ := hp
      have hq : ∀ s : List AV, ((s.length : Int).tmod 4 != 0) = padC s := fun s => by
        have e : (s.length : Int).tmod 4 = ((s.length % 4 : Nat) : Int) := by rw [Int.tmod_eq_emod_of_nonneg (by omega)]; simp
        unfold padC
        rw [e, bne, Bool.not_eq_eq_eq_not, Bool.not_not, Bool.eq_iff_iff, beq_iff_eq, beq_iff_eq]; omega
      obtain ⟨m, hm⟩ := iter_while (F := headedK C14 (loopB Try.f14 1)) (ts := fun s : List AV => [(3, .sl 0 s.length 0 s.length 1)]) (H := fun s => [.cells s.length s]) (c := padC) (f := padF) (I := fun s => isNil s = false ∧ s.length + (4 - s.length % 4) % 4 ≤ 200004) (μ := fun s => (4 - s.length % 4) % 4) (ee := fun _ => .exit 2) (te := fun s => [(3, .sl 0 s.length 0 s.length 1), (75, .bool false)]) (He := fun s => [.cells s.length s])
        (fun s hI hc => by
          have hc' : ¬ s.length % 4 = 0 := by unfold padC at hc; simpa using hc
          have hl : (padF s).length = s.length + 1 := by unfold padF; rw [List.length_append]; rfl
          refine ⟨⟨isNil_app (by simp), by have := hI.2; omega⟩, by show (4 - (padF s).length % 4) % 4 < _; omega, fun k => ?_⟩
          have k5 : (s.length == 0) = false := beq_eq_false_iff_ne.2 (fun h => by cases s with | nil => exact absurd hI.1 (by decide) | cons => simp at h)
          have k6 : ((s.length + 1) * 1).ble 140737488355328 = true := by rw [Nat.ble_eq]; omega
          have k8 : max s.length ((s.length + 1) * 1) = s.length + 1 := by omega
          rw [M14_11b, hq, hc]
          simp only [aIf_true, aIf_false, k5, k6, k8, beq_self_eq_true, take_put]
          rw [hl]; rfl)
        (fun s hI hc => ⟨(by intro h; cases h), fun k => by rw [M14_11b, hq, hc]; rfl⟩) 4 cs (by omega) ⟨hne, by omega⟩
      exact ⟨m, fun k => (hm k).symm⟩
    · exact .inl fun k => by rw [aIf_neg hp]
  · exact .inl fun k => rfl)
theorem L14_3_in : LoopsOK C14 (loopB Try.f14 0) := LoopsOK.within 0 (by kernel_rfl) (fun j hj S hS => by
  omega)
theorem M14_3a (xs : List AV) (fl : SF) (i : Int) (k : KC) : headedK C14 (loopB Try.f14 0) [(0, .fs 1 xs fl), (3, .fs 0 [] .nil), (4, .int .i64 i)] [] k =
  aIf (decide (i < (↑xs.length : Int))) (aIf (decide (0 ≤ i)) (aIf (decide (i < (↑xs.length : Int))) (aIf ((xs.getD i.toNat AV.junk).cells.length == 1) (aIf (([(xs.getD i.toNat AV.junk).cells.getD 0 AV.junk].getD 0 AV.junk).isInt IntKind.u8) (aIf (([(xs.getD i.toNat AV.junk).cells.getD 0 AV.junk].getD 0 AV.junk).toInt != 0) (aIf (decide (0 ≤ i)) (aIf (decide (i < (↑xs.length : Int))) (aIf ((xs.getD i.toNat AV.junk).cells.length == 1) (aIf (([(xs.getD i.toNat AV.junk).cells.getD 0 AV.junk].getD 0 AV.junk).isInt IntKind.u8) (aIf (([(xs.getD i.toNat AV.junk).cells.getD 0 AV.junk].getD 0 AV.junk).toInt == 1) (k AExit.normal [(0, AV.fs 1 xs fl), (3, AV.fs 0 [] SF.nil), (4, AV.int IntKind.i64 (IntKind.i64.wrap (i + 1)))] []) (aIf (decide (IntKind.i64.wrap (i + 1) ≥ (↑xs.length : Int))) (k (AExit.exit 0) [(0, AV.fs 1 xs fl), (3, AV.fs 0 [] SF.nil), (4, AV.int IntKind.i64 i), (49, AV.bool true)] []) (aIf (decide (0 ≤ IntKind.i64.wrap (i + 1))) (aIf (decide (IntKind.i64.wrap (i + 1) < (↑xs.length : Int))) (aIf ((xs.getD (IntKind.i64.wrap (i + 1)).toNat AV.junk).cells.length == 1) (aIf (([(xs.getD (IntKind.i64.wrap (i + 1)).toNat AV.junk).cells.getD 0 AV.junk].getD 0 AV.junk).isInt IntKind.u8) (aIf (decide (([(xs.getD (IntKind.i64.wrap (i + 1)).toNat AV.junk).cells.getD 0 AV.junk].getD 0 AV.junk).toInt < 2)) (k (AExit.exit 0) [(0, AV.fs 1 xs fl), (3, AV.fs 0 [] SF.nil), (4, AV.int IntKind.i64 i), (49, AV.bool true)] []) (aIf (decide (0 ≤ IntKind.i64.wrap (i + 1))) (aIf (decide (IntKind.i64.wrap (i + 1) < (↑xs.length : Int))) (aIf ((xs.getD (IntKind.i64.wrap (i + 1)).toNat AV.junk).cells.length == 1) (aIf (([(xs.getD (IntKind.i64.wrap (i + 1)).toNat AV.junk).cells.getD 0 AV.junk].getD 0 AV.junk).isInt IntKind.u8) (aIf (decide (IntKind.i64.wrap ([(xs.getD (IntKind.i64.wrap (i + 1)).toNat AV.junk).cells.getD 0 AV.junk].getD 0 AV.junk).toInt > IntKind.i64.wrap ((↑xs.length : Int) - i))) (k (AExit.exit 0) [(0, AV.fs 1 xs fl), (3, AV.fs 0 [] SF.nil), (4, AV.int IntKind.i64 i), (49, AV.bool (decide (IntKind.i64.wrap ([(xs.getD (IntKind.i64.wrap (i + 1)).toNat AV.junk).cells.getD 0 AV.junk].getD 0 AV.junk).toInt > IntKind.i64.wrap ((↑xs.length : Int) - i))))] []) (aIf (decide (0 ≤ IntKind.i64.wrap (i + 1))) (aIf (decide (IntKind.i64.wrap (i + 1) < (↑xs.length : Int))) (aIf ((xs.getD (IntKind.i64.wrap (i + 1)).toNat AV.junk).cells.length == 1) (aIf (([(xs.getD (IntKind.i64.wrap (i + 1)).toNat AV.junk).cells.getD 0 AV.junk].getD 0 AV.junk).isInt IntKind.u8) (aIf (decide (0 ≤ i)) (aIf (decide (i < (↑xs.length : Int))) (aIf ((xs.getD i.toNat AV.junk).cells.length == 1) (aIf (([(xs.getD i.toNat AV.junk).cells.getD 0 AV.junk].getD 0 AV.junk).isInt IntKind.u8) (aIf (decide (([(xs.getD i.toNat AV.junk).cells.getD 0 AV.junk].getD 0 AV.junk).toInt ≥ 128)) (aIf (decide (0 ≤ i)) (aIf (decide (i ≤ IntKind.i64.wrap (i + IntKind.i64.wrap ([(xs.getD (IntKind.i64.wrap (i + 1)).toNat AV.junk).cells.getD 0 AV.junk].getD 0 AV.junk).toInt))) (aIf (decide (IntKind.i64.wrap (i + IntKind.i64.wrap ([(xs.getD (IntKind.i64.wrap (i + 1)).toNat AV.junk).cells.getD 0 AV.junk].getD 0 AV.junk).toInt) ≤ (↑xs.length : Int))) (aIf ((List.drop i.toNat (List.take (IntKind.i64.wrap (i + IntKind.i64.wrap ([(xs.getD (IntKind.i64.wrap (i + 1)).toNat AV.junk).cells.getD 0 AV.junk].getD 0 AV.junk).toInt)).toNat xs)).length == 0) (k AExit.normal [(0, AV.fs 1 xs fl), (3, AV.fs 0 [] SF.nil), (4, AV.int IntKind.i64 (IntKind.i64.wrap (i + IntKind.i64.wrap ([(xs.getD (IntKind.i64.wrap (i + 1)).toNat AV.junk).cells.getD 0 AV.junk].getD 0 AV.junk).toInt)))] []) (aIf (((List.drop i.toNat (List.take (IntKind.i64.wrap (i + IntKind.i64.wrap ([(xs.getD (IntKind.i64.wrap (i + 1)).toNat AV.junk).cells.getD 0 AV.junk].getD 0 AV.junk).toInt)).toNat xs)).length * 1).ble 140737488355328) (aIf ((List.flatMap AV.cells (List.drop i.toNat (List.take (IntKind.i64.wrap (i + IntKind.i64.wrap ([(xs.getD (IntKind.i64.wrap (i + 1)).toNat AV.junk).cells.getD 0 AV.junk].getD 0 AV.junk).toInt)).toNat xs))).length == (List.drop i.toNat (List.take (IntKind.i64.wrap (i + IntKind.i64.wrap ([(xs.getD (IntKind.i64.wrap (i + 1)).toNat AV.junk).cells.getD 0 AV.junk].getD 0 AV.junk).toInt)).toNat xs)).length * 1) (k AExit.normal [(0, AV.fs 1 xs fl), (3, AV.sl 0 ((List.drop i.toNat (List.take (IntKind.i64.wrap (i + IntKind.i64.wrap ([(xs.getD (IntKind.i64.wrap (i + 1)).toNat AV.junk).cells.getD 0 AV.junk].getD 0 AV.junk).toInt)).toNat xs)).length * 1) 0 (List.drop i.toNat (List.take (IntKind.i64.wrap (i + IntKind.i64.wrap ([(xs.getD (IntKind.i64.wrap (i + 1)).toNat AV.junk).cells.getD 0 AV.junk].getD 0 AV.junk).toInt)).toNat xs)).length 1), (4, AV.int IntKind.i64 (IntKind.i64.wrap (i + IntKind.i64.wrap ([(xs.getD (IntKind.i64.wrap (i + 1)).toNat AV.junk).cells.getD 0 AV.junk].getD 0 AV.junk).toInt)))] [AO.cells ((List.drop i.toNat (List.take (IntKind.i64.wrap (i + IntKind.i64.wrap ([(xs.getD (IntKind.i64.wrap (i + 1)).toNat AV.junk).cells.getD 0 AV.junk].getD 0 AV.junk).toInt)).toNat xs)).length * 1) (List.flatMap AV.cells (List.drop i.toNat (List.take (IntKind.i64.wrap (i + IntKind.i64.wrap ([(xs.getD (IntKind.i64.wrap (i + 1)).toNat AV.junk).cells.getD 0 AV.junk].getD 0 AV.junk).toInt)).toNat xs)))]) none) none)) none) none) none) (k AExit.normal [(0, AV.fs 1 xs fl), (3, AV.fs 0 [] SF.nil), (4, AV.int IntKind.i64 (IntKind.i64.wrap (i + IntKind.i64.wrap ([(xs.getD (IntKind.i64.wrap (i + 1)).toNat AV.junk).cells.getD 0 AV.junk].getD 0 AV.junk).toInt)))] [])) none) none) none) none) none) none) none) none)) none) none) none) none)) none) none) none) none))) none) none) none) none) (k (AExit.exit 0) [(0, AV.fs 1 xs fl), (3, AV.fs 0 [] SF.nil), (4, AV.int IntKind.i64 i), (16, AV.bool (([(xs.getD i.toNat AV.junk).cells.getD 0 AV.junk].getD 0 AV.junk).toInt != 0))] [])) none) none) none) none) (k (AExit.exit 0) [(0, AV.fs 1 xs fl), (3, AV.fs 0 [] SF.nil), (4, AV.int IntKind.i64 i), (16, AV.bool false)] []) := by kernel_rfl
theorem M14_3b (xs : List AV) (fl : SF) (v l : Nat) (i : Int) (w : Nat) (cs : List AV) (k : KC) : headedK C14 (loopB Try.f14 0) [(0, .fs 1 xs fl), (3, .sl 0 v 0 l 1), (4, .int .i64 i)] [.cells w cs] k =
  aIf (decide (i < (↑xs.length : Int))) (aIf (decide (0 ≤ i)) (aIf (decide (i < (↑xs.length : Int))) (aIf ((xs.getD i.toNat AV.junk).cells.length == 1) (aIf (([(xs.getD i.toNat AV.junk).cells.getD 0 AV.junk].getD 0 AV.junk).isInt IntKind.u8) (aIf (([(xs.getD i.toNat AV.junk).cells.getD 0 AV.junk].getD 0 AV.junk).toInt != 0) (aIf (decide (0 ≤ i)) (aIf (decide (i < (↑xs.length : Int))) (aIf ((xs.getD i.toNat AV.junk).cells.length == 1) (aIf (([(xs.getD i.toNat AV.junk).cells.getD 0 AV.junk].getD 0 AV.junk).isInt IntKind.u8) (aIf (([(xs.getD i.toNat AV.junk).cells.getD 0 AV.junk].getD 0 AV.junk).toInt == 1) (k AExit.normal [(0, AV.fs 1 xs fl), (3, AV.sl 0 v 0 l 1), (4, AV.int IntKind.i64 (IntKind.i64.wrap (i + 1)))] [AO.cells w cs]) (aIf (decide (IntKind.i64.wrap (i + 1) ≥ (↑xs.length : Int))) (k (AExit.exit 0) [(0, AV.fs 1 xs fl), (3, AV.sl 0 v 0 l 1), (4, AV.int IntKind.i64 i), (49, AV.bool true)] [AO.cells w cs]) (aIf (decide (0 ≤ IntKind.i64.wrap (i + 1))) (aIf (decide (IntKind.i64.wrap (i + 1) < (↑xs.length : Int))) (aIf ((xs.getD (IntKind.i64.wrap (i + 1)).toNat AV.junk).cells.length == 1) (aIf (([(xs.getD (IntKind.i64.wrap (i + 1)).toNat AV.junk).cells.getD 0 AV.junk].getD 0 AV.junk).isInt IntKind.u8) (aIf (decide (([(xs.getD (IntKind.i64.wrap (i + 1)).toNat AV.junk).cells.getD 0 AV.junk].getD 0 AV.junk).toInt < 2)) (k (AExit.exit 0) [(0, AV.fs 1 xs fl), (3, AV.sl 0 v 0 l 1), (4, AV.int IntKind.i64 i), (49, AV.bool true)] [AO.cells w cs]) (aIf (decide (0 ≤ IntKind.i64.wrap (i + 1))) (aIf (decide (IntKind.i64.wrap (i + 1) < (↑xs.length : Int))) (aIf ((xs.getD (IntKind.i64.wrap (i + 1)).toNat AV.junk).cells.length == 1) (aIf (([(xs.getD (IntKind.i64.wrap (i + 1)).toNat AV.junk).cells.getD 0 AV.junk].getD 0 AV.junk).isInt IntKind.u8) (aIf (decide (IntKind.i64.wrap ([(xs.getD (IntKind.i64.wrap (i + 1)).toNat AV.junk).cells.getD 0 AV.junk].getD 0 AV.junk).toInt > IntKind.i64.wrap ((↑xs.length : Int) - i))) (k (AExit.exit 0) [(0, AV.fs 1 xs fl), (3, AV.sl 0 v 0 l 1), (4, AV.int IntKind.i64 i), (49, AV.bool (decide (IntKind.i64.wrap ([(xs.getD (IntKind.i64.wrap (i + 1)).toNat AV.junk).cells.getD 0 AV.junk].getD 0 AV.junk).toInt > IntKind.i64.wrap ((↑xs.length : Int) - i))))] [AO.cells w cs]) (aIf (decide (0 ≤ IntKind.i64.wrap (i + 1))) (aIf (decide (IntKind.i64.wrap (i + 1) < (↑xs.length : Int))) (aIf ((xs.getD (IntKind.i64.wrap (i + 1)).toNat AV.junk).cells.length == 1) (aIf (([(xs.getD (IntKind.i64.wrap (i + 1)).toNat AV.junk).cells.getD 0 AV.junk].getD 0 AV.junk).isInt IntKind.u8) (aIf (decide (0 ≤ i)) (aIf (decide (i < (↑xs.length : Int))) (aIf ((xs.getD i.toNat AV.junk).cells.length == 1) (aIf (([(xs.getD i.toNat AV.junk).cells.getD 0 AV.junk].getD 0 AV.junk).isInt IntKind.u8) (aIf (decide (([(xs.getD i.toNat AV.junk).cells.getD 0 AV.junk].getD 0 AV.junk).toInt ≥ 128)) (aIf (decide (0 ≤ i)) (aIf (decide (i ≤ IntKind.i64.wrap (i + IntKind.i64.wrap ([(xs.getD (IntKind.i64.wrap (i + 1)).toNat AV.junk).cells.getD 0 AV.junk].getD 0 AV.junk).toInt))) (aIf (decide (IntKind.i64.wrap (i + IntKind.i64.wrap ([(xs.getD (IntKind.i64.wrap (i + 1)).toNat AV.junk).cells.getD 0 AV.junk].getD 0 AV.junk).toInt) ≤ (↑xs.length : Int))) (aIf (v == 0) none (aIf (w == v) (aIf (((l + (List.drop i.toNat (List.take (IntKind.i64.wrap (i + IntKind.i64.wrap ([(xs.getD (IntKind.i64.wrap (i + 1)).toNat AV.junk).cells.getD 0 AV.junk].getD 0 AV.junk).toInt)).toNat xs)).length) * 1).ble 140737488355328) (aIf ((List.flatMap AV.cells (List.drop i.toNat (List.take (IntKind.i64.wrap (i + IntKind.i64.wrap ([(xs.getD (IntKind.i64.wrap (i + 1)).toNat AV.junk).cells.getD 0 AV.junk].getD 0 AV.junk).toInt)).toNat xs))).length == (List.drop i.toNat (List.take (IntKind.i64.wrap (i + IntKind.i64.wrap ([(xs.getD (IntKind.i64.wrap (i + 1)).toNat AV.junk).cells.getD 0 AV.junk].getD 0 AV.junk).toInt)).toNat xs)).length * 1) (k AExit.normal [(0, AV.fs 1 xs fl), (3, AV.sl 0 (max v ((l + (List.drop i.toNat (List.take (IntKind.i64.wrap (i + IntKind.i64.wrap ([(xs.getD (IntKind.i64.wrap (i + 1)).toNat AV.junk).cells.getD 0 AV.junk].getD 0 AV.junk).toInt)).toNat xs)).length) * 1)) 0 (l + (List.drop i.toNat (List.take (IntKind.i64.wrap (i + IntKind.i64.wrap ([(xs.getD (IntKind.i64.wrap (i + 1)).toNat AV.junk).cells.getD 0 AV.junk].getD 0 AV.junk).toInt)).toNat xs)).length) 1), (4, AV.int IntKind.i64 (IntKind.i64.wrap (i + IntKind.i64.wrap ([(xs.getD (IntKind.i64.wrap (i + 1)).toNat AV.junk).cells.getD 0 AV.junk].getD 0 AV.junk).toInt)))] [AO.cells (max v ((l + (List.drop i.toNat (List.take (IntKind.i64.wrap (i + IntKind.i64.wrap ([(xs.getD (IntKind.i64.wrap (i + 1)).toNat AV.junk).cells.getD 0 AV.junk].getD 0 AV.junk).toInt)).toNat xs)).length) * 1)) (List.take (l * 1) cs ++ List.flatMap AV.cells (List.drop i.toNat (List.take (IntKind.i64.wrap (i + IntKind.i64.wrap ([(xs.getD (IntKind.i64.wrap (i + 1)).toNat AV.junk).cells.getD 0 AV.junk].getD 0 AV.junk).toInt)).toNat xs)) ++ List.drop (l * 1 + (List.drop i.toNat (List.take (IntKind.i64.wrap (i + IntKind.i64.wrap ([(xs.getD (IntKind.i64.wrap (i + 1)).toNat AV.junk).cells.getD 0 AV.junk].getD 0 AV.junk).toInt)).toNat xs)).length * 1) cs)]) none) none) none)) none) none) none) (k AExit.normal [(0, AV.fs 1 xs fl), (3, AV.sl 0 v 0 l 1), (4, AV.int IntKind.i64 (IntKind.i64.wrap (i + IntKind.i64.wrap ([(xs.getD (IntKind.i64.wrap (i + 1)).toNat AV.junk).cells.getD 0 AV.junk].getD 0 AV.junk).toInt)))] [AO.cells w cs])) none) none) none) none) none) none) none) none)) none) none) none) none)) none) none) none) none))) none) none) none) none) (k (AExit.exit 0) [(0, AV.fs 1 xs fl), (3, AV.sl 0 v 0 l 1), (4, AV.int IntKind.i64 i), (16, AV.bool (([(xs.getD i.toNat AV.junk).cells.getD 0 AV.junk].getD 0 AV.junk).toInt != 0))] [AO.cells w cs])) none) none) none) none) (k (AExit.exit 0) [(0, AV.fs 1 xs fl), (3, AV.sl 0 v 0 l 1), (4, AV.int IntKind.i64 i), (16, AV.bool false)] [AO.cells w cs]) := by kernel_rfl
theorem L14_3_ok : LoopSum C14 (loopB Try.f14 0) L14_3 := LoopSum.of C14_ok L14_3_in (fun ts H => by
  unfold L14_3
  split
  · rename_i xs fl i
    rcases Bool.eq_false_or_eq_true (i == 0 && intsB .u8 xs && decide (xs.length ≤ 100000)) with hp | hp
    · refine .inr ?_
      simp only [aIf_pos hp]
      simp only [Bool.and_eq_true, beq_iff_eq, decide_eq_true_eq] at hp
      obtain ⟨⟨rfl, hx⟩, hL⟩ := hp
      have key : ∀ s : Nat × List AV, (intsB .u8 s.2 = true ∧ s.2.length ≤ s.1 ∧ s.1 ≤ xs.length) → s.1 < xs.length → copStop xs s.1 = false → ∀ k, headedK C14 (loopB Try.f14 0) [(0, .fs 1 xs fl), (3, slB s.2), (4, .int .i64 (s.1 : Int))] (hpB s.2) k = k .normal [(0, .fs 1 xs fl), (3, slB (copF xs s).2), (4, .int .i64 ((copF xs s).1 : Int))] (hpB (copF xs s).2) := by
        intro s hI hlt0 hnd k
        obtain ⟨j, out⟩ := s
        obtain ⟨hI1, hI2, hI3⟩ := hI
        replace hlt0 : j < xs.length := hlt0
        replace hI2 : out.length ≤ j := hI2
        replace hnd : copStop xs j = false := hnd
        have hlt : decide ((j : Int) < (xs.length : Int)) = true := decide_eq_true (by omega)
        have h0 : decide ((0 : Int) ≤ (j : Int)) = true := decide_eq_true (by omega)
        obtain ⟨b, hb, hbe⟩ := u8_get hx j hlt0
        have hbA : bAt xs j = (b : Int) := by unfold bAt; rw [hbe]; rfl
        have hn1 : IntKind.i64.wrap ((j : Int) + 1) = ((j + 1 : Nat) : Int) := by rw [i64_of (by omega) (by omega)]; omega
        have w3 : IntKind.i64.wrap ((xs.length : Int) - (j : Int)) = ((xs.length - j : Nat) : Int) := by rw [i64_of (by omega) (by omega)]; omega
        cases hn : isNil out with
        | true =>
          obtain rfl := isNil_eq hn
          show headedK C14 (loopB Try.f14 0) [(0, .fs 1 xs fl), (3, .fs 0 [] .nil), (4, .int .i64 (j : Int))] [] k = _
          by_cases hb0 : b = 0
          · subst hb0
            have hst := copStop_0 (xs := xs) (j := j) hbA
            exact absurd hst (by rw [hnd]; decide)
          by_cases hb1 : b = 1
          · subst hb1
            have e10 : (((1 : Nat) : Int) == 0) = false := rfl
            have e11 : (((1 : Nat) : Int) == 1) = true := rfl
            have d10 : (((1 : Nat) : Int) != 0) = true := rfl
            rw [M14_3a]; simp only [hlt, h0, Int.toNat_natCast, hbe, hn1, w3, cells_int, toInt_int, isInt_u8, len_beq1, getD_one, aIf_true, aIf_false, e10, e11, d10]; rw [copF_1 hbA]; rfl
          have hA0 : bAt xs j ≠ 0 := by rw [hbA]; omega
          have hA1 : bAt xs j ≠ 1 := by rw [hbA]; omega
          have n0 : ((b : Int) == 0) = false := beq_eq_false_iff_ne.2 (by omega)
          have n0' : ((b : Int) != 0) = true := by rw [bne, n0]; rfl
          have n1 : ((b : Int) == 1) = false := beq_eq_false_iff_ne.2 (by omega)
          have hS := copStop_n hA0 hA1
          by_cases hge : xs.length ≤ j + 1
          · have hst : copStop xs j = true := by rw [hS, decide_eq_true hge]; rfl
            have g1 : decide (((j + 1 : Nat) : Int) ≥ (xs.length : Int)) = true := decide_eq_true (by omega)
            exact absurd hst (by rw [hnd]; decide)
          obtain ⟨c, hc, hce⟩ := u8_get hx (j + 1) (by omega)
          have hcA : bAt xs (j + 1) = (c : Int) := by unfold bAt; rw [hce]; rfl
          have g1 : decide (((j + 1 : Nat) : Int) ≥ (xs.length : Int)) = false := decide_eq_false (by omega)
          have g2 : decide ((0 : Int) ≤ ((j + 1 : Nat) : Int)) = true := decide_eq_true (by omega)
          have g3 : decide (((j + 1 : Nat) : Int) < (xs.length : Int)) = true := decide_eq_true (by omega)
          have w4 : IntKind.i64.wrap (c : Int) = (c : Int) := i64_of (by omega) (by omega)
          rw [decide_eq_false hge, hcA, Bool.false_or] at hS
          by_cases hlo : c < 2
          · have l1 : decide ((c : Int) < 2) = true := decide_eq_true (by omega)
            have hst : copStop xs j = true := by rw [hS, l1]; rfl
            exact absurd hst (by rw [hnd]; decide)
          have l1 : decide ((c : Int) < 2) = false := decide_eq_false (by omega)
          by_cases hhi : xs.length - j < c
          · have l2 : decide ((c : Int) > ((xs.length - j : Nat) : Int)) = true := decide_eq_true (by omega)
            have hst : copStop xs j = true := by rw [hS, l2, Bool.or_true]
            exact absurd hst (by rw [hnd]; decide)
          have l2 : decide ((c : Int) > ((xs.length - j : Nat) : Int)) = false := decide_eq_false (by omega)
          have hst : copStop xs j = false := by rw [hS, l1, l2]; rfl
          have w5 : IntKind.i64.wrap ((j : Int) + (c : Int)) = ((j + c : Nat) : Int) := by rw [i64_of (by omega) (by omega)]; omega
          have hcF := copF_n (out := ([] : List AV)) hst hA1 hcA
          rw [hbA] at hcF
          by_cases hk : 128 ≤ b
          · have k1 : decide ((b : Int) ≥ 128) = true := decide_eq_true (by omega)
            have k2 : decide ((128 : Int) ≤ (b : Int)) = true := decide_eq_true (by omega)
            have k3 : decide ((j : Int) ≤ ((j + c : Nat) : Int)) = true := decide_eq_true (by omega)
            have k4 : decide (((j + c : Nat) : Int) ≤ (xs.length : Int)) = true := decide_eq_true (by omega)
            have hseg : (List.drop j (List.take (j + c) xs)).length = c := seg_len (by omega)
            have hcl := ints_cells (intsB_drop j (intsB_take hx (j + c)))
            have hsne : List.drop j (List.take (j + c) xs) ≠ [] := fun h => (by rw [h] at hseg; simp at hseg; omega)
            have k5 : (c == 0) = false := beq_eq_false_iff_ne.2 (by omega)
            have k6 : c.ble 140737488355328 = true := by rw [Nat.ble_eq]; omega
            have hs2 := isNil_app (l := []) hsne
            rw [List.nil_append] at hs2
            rw [M14_3a]; simp only [hlt, h0, Int.toNat_natCast, hbe, hn1, w3, cells_int, toInt_int, isInt_u8, len_beq1, getD_one, aIf_true, aIf_false, n0, n0', n1, g1, g2, g3, hce, l1, l2, w4, w5, k1, k3, k4, hcl, hseg, k5, k6, beq_self_eq_true, Nat.mul_one]
            rw [k2, cond_true, List.nil_append] at hcF
            rw [hcF]; show _ = k .normal [_, (3, slB (List.drop j (List.take (j + c) xs))), _] (hpB (List.drop j (List.take (j + c) xs))); rw [slB_ne hs2, hpB_ne hs2, hseg]
          have k1 : decide ((b : Int) ≥ 128) = false := decide_eq_false (by omega)
          have k2 : decide ((128 : Int) ≤ (b : Int)) = false := decide_eq_false (by omega)
          rw [k2, cond_false] at hcF
          rw [M14_3a]; simp only [hlt, h0, Int.toNat_natCast, hbe, hn1, w3, cells_int, toInt_int, isInt_u8, len_beq1, getD_one, aIf_true, aIf_false, n0, n0', n1, g1, g2, g3, hce, l1, l2, w4, w5, k1]; rw [hcF]; rfl
        | false =>
          show headedK C14 (loopB Try.f14 0) [(0, .fs 1 xs fl), (3, slB out), (4, .int .i64 (j : Int))] (hpB out) k = _
          rw [slB_ne hn, hpB_ne hn]
          by_cases hb0 : b = 0
          · subst hb0
            have hst := copStop_0 (xs := xs) (j := j) hbA
            exact absurd hst (by rw [hnd]; decide)
          by_cases hb1 : b = 1
          · subst hb1
            have e10 : (((1 : Nat) : Int) == 0) = false := rfl
            have e11 : (((1 : Nat) : Int) == 1) = true := rfl
            have d10 : (((1 : Nat) : Int) != 0) = true := rfl
            rw [M14_3b]; simp only [hlt, h0, Int.toNat_natCast, hbe, hn1, w3, cells_int, toInt_int, isInt_u8, len_beq1, getD_one, aIf_true, aIf_false, e10, e11, d10]; rw [copF_1 hbA]; show _ = k .normal [_, (3, slB out), _] (hpB out); rw [slB_ne hn, hpB_ne hn]
          have hA0 : bAt xs j ≠ 0 := by rw [hbA]; omega
          have hA1 : bAt xs j ≠ 1 := by rw [hbA]; omega
          have n0 : ((b : Int) == 0) = false := beq_eq_false_iff_ne.2 (by omega)
          have n0' : ((b : Int) != 0) = true := by rw [bne, n0]; rfl
          have n1 : ((b : Int) == 1) = false := beq_eq_false_iff_ne.2 (by omega)
          have hS := copStop_n hA0 hA1
          by_cases hge : xs.length ≤ j + 1
          · have hst : copStop xs j = true := by rw [hS, decide_eq_true hge]; rfl
            have g1 : decide (((j + 1 : Nat) : Int) ≥ (xs.length : Int)) = true := decide_eq_true (by omega)
            exact absurd hst (by rw [hnd]; decide)
          obtain ⟨c, hc, hce⟩ := u8_get hx (j + 1) (by omega)
          have hcA : bAt xs (j + 1) = (c : Int) := by unfold bAt; rw [hce]; rfl
          have g1 : decide (((j + 1 : Nat) : Int) ≥ (xs.length : Int)) = false := decide_eq_false (by omega)
          have g2 : decide ((0 : Int) ≤ ((j + 1 : Nat) : Int)) = true := decide_eq_true (by omega)
          have g3 : decide (((j + 1 : Nat) : Int) < (xs.length : Int)) = true := decide_eq_true (by omega)
          have w4 : IntKind.i64.wrap (c : Int) = (c : Int) := i64_of (by omega) (by omega)
          rw [decide_eq_false hge, hcA, Bool.false_or] at hS
          by_cases hlo : c < 2
          · have l1 : decide ((c : Int) < 2) = true := decide_eq_true (by omega)
            have hst : copStop xs j = true := by rw [hS, l1]; rfl
            exact absurd hst (by rw [hnd]; decide)
          have l1 : decide ((c : Int) < 2) = false := decide_eq_false (by omega)
          by_cases hhi : xs.length - j < c
          · have l2 : decide ((c : Int) > ((xs.length - j : Nat) : Int)) = true := decide_eq_true (by omega)
            have hst : copStop xs j = true := by rw [hS, l2, Bool.or_true]
            exact absurd hst (by rw [hnd]; decide)
          have l2 : decide ((c : Int) > ((xs.length - j : Nat) : Int)) = false := decide_eq_false (by omega)
          have hst : copStop xs j = false := by rw [hS, l1, l2]; rfl
          have w5 : IntKind.i64.wrap ((j : Int) + (c : Int)) = ((j + c : Nat) : Int) := by rw [i64_of (by omega) (by omega)]; omega
          have hcF := copF_n (out := out) hst hA1 hcA
          rw [hbA] at hcF
          by_cases hk : 128 ≤ b
          · have k1 : decide ((b : Int) ≥ 128) = true := decide_eq_true (by omega)
            have k2 : decide ((128 : Int) ≤ (b : Int)) = true := decide_eq_true (by omega)
            have k3 : decide ((j : Int) ≤ ((j + c : Nat) : Int)) = true := decide_eq_true (by omega)
            have k4 : decide (((j + c : Nat) : Int) ≤ (xs.length : Int)) = true := decide_eq_true (by omega)
            have hseg : (List.drop j (List.take (j + c) xs)).length = c := seg_len (by omega)
            have hcl := ints_cells (intsB_drop j (intsB_take hx (j + c)))
            have hsne : List.drop j (List.take (j + c) xs) ≠ [] := fun h => (by rw [h] at hseg; simp at hseg; omega)
            have k5 : (out.length == 0) = false := beq_eq_false_iff_ne.2 (fun h => by cases out with | nil => cases hn | cons => simp at h)
            have k6 : ((out.length + c) * 1).ble 140737488355328 = true := by rw [Nat.ble_eq]; omega
            have k7 : (c == c * 1) = true := beq_iff_eq.2 (by omega)
            have k8 : max out.length ((out.length + c) * 1) = out.length + c := by omega
            rw [M14_3b]; simp only [hlt, h0, Int.toNat_natCast, hbe, hn1, w3, cells_int, toInt_int, isInt_u8, len_beq1, getD_one, aIf_true, aIf_false, n0, n0', n1, g1, g2, g3, hce, l1, l2, w4, w5, k1, k3, k4, hcl, hseg, k5, k6, k7, k8, beq_self_eq_true, take_put]
            rw [k2, cond_true] at hcF
            rw [hcF]; show _ = k .normal [_, (3, slB (out ++ List.drop j (List.take (j + c) xs))), _] (hpB (out ++ List.drop j (List.take (j + c) xs))); rw [slB_ne (isNil_app hsne), hpB_ne (isNil_app hsne), List.length_append, hseg]
          have k1 : decide ((b : Int) ≥ 128) = false := decide_eq_false (by omega)
          have k2 : decide ((128 : Int) ≤ (b : Int)) = false := decide_eq_false (by omega)
          rw [k2, cond_false] at hcF
          rw [M14_3b]; simp only [hlt, h0, Int.toNat_natCast, hbe, hn1, w3, cells_int, toInt_int, isInt_u8, len_beq1, getD_one, aIf_true, aIf_false, n0, n0', n1, g1, g2, g3, hce, l1, l2, w4, w5, k1]; rw [hcF]; show _ = k .normal [_, (3, slB out), _] (hpB out); rw [slB_ne hn, hpB_ne hn]
      have stop : ∀ s : Nat × List AV, (intsB .u8 s.2 = true ∧ s.2.length ≤ s.1 ∧ s.1 ≤ xs.length) → copD xs s = false → ∀ k, headedK C14 (loopB Try.f14 0) [(0, .fs 1 xs fl), (3, slB s.2), (4, .int .i64 (s.1 : Int))] (hpB s.2) k = k (.exit 0) [(0, .fs 1 xs fl), (3, slB s.2), (4, .int .i64 (s.1 : Int)), docT xs s.1] (hpB s.2) := by
        intro s hI hc k
        obtain ⟨j, out⟩ := s
        cases hn : isNil out with
        | true =>
          obtain rfl := isNil_eq hn
          show headedK C14 (loopB Try.f14 0) [(0, .fs 1 xs fl), (3, .fs 0 [] .nil), (4, .int .i64 (j : Int))] [] k = k (.exit 0) [(0, .fs 1 xs fl), (3, .fs 0 [] .nil), (4, .int .i64 (j : Int)), docT xs j] []
          by_cases hge0 : xs.length ≤ j
          · have hge : decide ((j : Int) < (xs.length : Int)) = false := decide_eq_false (by omega)
            have hd : docT xs j = (16, .bool false) := by unfold docT; rw [decide_eq_false (show ¬ j < xs.length by omega)]; rfl
            rw [M14_3a, hd]; simp only [hge, aIf_false]
          have hlt0 : j < xs.length := by omega
          have hlt : decide ((j : Int) < (xs.length : Int)) = true := decide_eq_true (by omega)
          have h0 : decide ((0 : Int) ≤ (j : Int)) = true := decide_eq_true (by omega)
          obtain ⟨b, hb, hbe⟩ := u8_get hx j hlt0
          have hbA : bAt xs j = (b : Int) := by unfold bAt; rw [hbe]; rfl
          have hn1 : IntKind.i64.wrap ((j : Int) + 1) = ((j + 1 : Nat) : Int) := by rw [i64_of (by omega) (by omega)]; omega
          have w3 : IntKind.i64.wrap ((xs.length : Int) - (j : Int)) = ((xs.length - j : Nat) : Int) := by rw [i64_of (by omega) (by omega)]; omega
          have hst : copStop xs j = true := by unfold copD at hc; rw [decide_eq_true (show j < xs.length from hlt0), Bool.true_and] at hc; simpa using hc
          by_cases hb0 : b = 0
          · subst hb0
            have hd : docT xs j = (16, .bool false) := by unfold docT; rw [decide_eq_true hlt0, hbA]; rfl
            have e0 : (((0 : Nat) : Int) != 0) = false := rfl
            rw [M14_3a, hd]; simp only [hlt, h0, Int.toNat_natCast, hbe, hn1, w3, cells_int, toInt_int, isInt_u8, len_beq1, getD_one, aIf_true, aIf_false, e0]
          by_cases hb1 : b = 1
          · subst hb1
            rw [copStop_1 hbA] at hst; cases hst
          have hA0 : bAt xs j ≠ 0 := by rw [hbA]; omega
          have hA1 : bAt xs j ≠ 1 := by rw [hbA]; omega
          have n0 : ((b : Int) == 0) = false := beq_eq_false_iff_ne.2 (by omega)
          have n0' : ((b : Int) != 0) = true := by rw [bne, n0]; rfl
          have n1 : ((b : Int) == 1) = false := beq_eq_false_iff_ne.2 (by omega)
          have hd : docT xs j = (49, .bool true) := by unfold docT; rw [decide_eq_true hlt0, hbA, n0]; rfl
          rw [hd]
          rw [copStop_n hA0 hA1] at hst
          by_cases hge : xs.length ≤ j + 1
          · have g1 : decide (((j + 1 : Nat) : Int) ≥ (xs.length : Int)) = true := decide_eq_true (by omega)
            rw [M14_3a]; simp only [hlt, h0, Int.toNat_natCast, hbe, hn1, w3, cells_int, toInt_int, isInt_u8, len_beq1, getD_one, aIf_true, aIf_false, n0', n1, g1]
          obtain ⟨c, hc', hce⟩ := u8_get hx (j + 1) (by omega)
          have hcA : bAt xs (j + 1) = (c : Int) := by unfold bAt; rw [hce]; rfl
          have g1 : decide (((j + 1 : Nat) : Int) ≥ (xs.length : Int)) = false := decide_eq_false (by omega)
          have g2 : decide ((0 : Int) ≤ ((j + 1 : Nat) : Int)) = true := decide_eq_true (by omega)
          have g3 : decide (((j + 1 : Nat) : Int) < (xs.length : Int)) = true := decide_eq_true (by omega)
          have w4 : IntKind.i64.wrap (c : Int) = (c : Int) := i64_of (by omega) (by omega)
          by_cases hlo : c < 2
          · have l1 : decide ((c : Int) < 2) = true := decide_eq_true (by omega)
            rw [M14_3a]; simp only [hlt, h0, Int.toNat_natCast, hbe, hn1, w3, cells_int, toInt_int, isInt_u8, len_beq1, getD_one, aIf_true, aIf_false, n0', n1, g1, g2, g3, hce, l1]
          have l1 : decide ((c : Int) < 2) = false := decide_eq_false (by omega)
          have l2 : decide ((c : Int) > ((xs.length - j : Nat) : Int)) = true := by rw [decide_eq_false hge, hcA, l1, Bool.false_or, Bool.false_or] at hst; exact hst
          rw [M14_3a]; simp only [hlt, h0, Int.toNat_natCast, hbe, hn1, w3, cells_int, toInt_int, isInt_u8, len_beq1, getD_one, aIf_true, aIf_false, n0', n1, g1, g2, g3, hce, l1, w4, l2]
        | false =>
          show headedK C14 (loopB Try.f14 0) [(0, .fs 1 xs fl), (3, slB out), (4, .int .i64 (j : Int))] (hpB out) k = k (.exit 0) [(0, .fs 1 xs fl), (3, slB out), (4, .int .i64 (j : Int)), docT xs j] (hpB out)
          rw [slB_ne hn, hpB_ne hn]
          by_cases hge0 : xs.length ≤ j
          · have hge : decide ((j : Int) < (xs.length : Int)) = false := decide_eq_false (by omega)
            have hd : docT xs j = (16, .bool false) := by unfold docT; rw [decide_eq_false (show ¬ j < xs.length by omega)]; rfl
            rw [M14_3b, hd]; simp only [hge, aIf_false]
          have hlt0 : j < xs.length := by omega
          have hlt : decide ((j : Int) < (xs.length : Int)) = true := decide_eq_true (by omega)
          have h0 : decide ((0 : Int) ≤ (j : Int)) = true := decide_eq_true (by omega)
          obtain ⟨b, hb, hbe⟩ := u8_get hx j hlt0
          have hbA : bAt xs j = (b : Int) := by unfold bAt; rw [hbe]; rfl
          have hn1 : IntKind.i64.wrap ((j : Int) + 1) = ((j + 1 : Nat) : Int) := by rw [i64_of (by omega) (by omega)]; omega
          have w3 : IntKind.i64.wrap ((xs.length : Int) - (j : Int)) = ((xs.length - j : Nat) : Int) := by rw [i64_of (by omega) (by omega)]; omega
          have hst : copStop xs j = true := by unfold copD at hc; rw [decide_eq_true (show j < xs.length from hlt0), Bool.true_and] at hc; simpa using hc
          by_cases hb0 : b = 0
          · subst hb0
            have hd : docT xs j = (16, .bool false) := by unfold docT; rw [decide_eq_true hlt0, hbA]; rfl
            have e0 : (((0 : Nat) : Int) != 0) = false := rfl
            rw [M14_3b, hd]; simp only [hlt, h0, Int.toNat_natCast, hbe, hn1, w3, cells_int, toInt_int, isInt_u8, len_beq1, getD_one, aIf_true, aIf_false, e0]
          by_cases hb1 : b = 1
          · subst hb1
            rw [copStop_1 hbA] at hst; cases hst
          have hA0 : bAt xs j ≠ 0 := by rw [hbA]; omega
          have hA1 : bAt xs j ≠ 1 := by rw [hbA]; omega
          have n0 : ((b : Int) == 0) = false := beq_eq_false_iff_ne.2 (by omega)
          have n0' : ((b : Int) != 0) = true := by rw [bne, n0]; rfl
          have n1 : ((b : Int) == 1) = false := beq_eq_false_iff_ne.2 (by omega)
          have hd : docT xs j = (49, .bool true) := by unfold docT; rw [decide_eq_true hlt0, hbA, n0]; rfl
          rw [hd]
          rw [copStop_n hA0 hA1] at hst
          by_cases hge : xs.length ≤ j + 1
          · have g1 : decide (((j + 1 : Nat) : Int) ≥ (xs.length : Int)) = true := decide_eq_true (by omega)
            rw [M14_3b]; simp only [hlt, h0, Int.toNat_natCast, hbe, hn1, w3, cells_int, toInt_int, isInt_u8, len_beq1, getD_one, aIf_true, aIf_false, n0', n1, g1]
          obtain ⟨c, hc', hce⟩ := u8_get hx (j + 1) (by omega)
          have hcA : bAt xs (j + 1) = (c : Int) := by unfold bAt; rw [hce]; rfl
          have g1 : decide (((j + 1 : Nat) : Int) ≥ (xs.length : Int)) = false := decide_eq_false (by omega)
          have g2 : decide ((0 : Int) ≤ ((j + 1 : Nat) : Int)) = true := decide_eq_true (by omega)
          have g3 : decide (((j + 1 : Nat) : Int) < (xs.length : Int)) = true := decide_eq_true (by omega)
          have w4 : IntKind.i64.wrap (c : Int) = (c : Int) := i64_of (by omega) (by omega)
          by_cases hlo : c < 2
          · have l1 : decide ((c : Int) < 2) = true := decide_eq_true (by omega)
            rw [M14_3b]; simp only [hlt, h0, Int.toNat_natCast, hbe, hn1, w3, cells_int, toInt_int, isInt_u8, len_beq1, getD_one, aIf_true, aIf_false, n0', n1, g1, g2, g3, hce, l1]
          have l1 : decide ((c : Int) < 2) = false := decide_eq_false (by omega)
          have l2 : decide ((c : Int) > ((xs.length - j : Nat) : Int)) = true := by rw [decide_eq_false hge, hcA, l1, Bool.false_or, Bool.false_or] at hst; exact hst
          rw [M14_3b]; simp only [hlt, h0, Int.toNat_natCast, hbe, hn1, w3, cells_int, toInt_int, isInt_u8, len_beq1, getD_one, aIf_true, aIf_false, n0', n1, g1, g2, g3, hce, l1, w4, l2]
      obtain ⟨m, hm⟩ := iter_while (F := headedK C14 (loopB Try.f14 0)) (ts := fun s => [(0, .fs 1 xs fl), (3, slB s.2), (4, .int .i64 (s.1 : Int))]) (H := fun s => hpB s.2) (c := copD xs) (f := copF xs) (I := fun s => intsB .u8 s.2 = true ∧ s.2.length ≤ s.1 ∧ s.1 ≤ xs.length) (μ := fun s => xs.length - s.1) (ee := fun _ => .exit 0) (te := fun s => [(0, .fs 1 xs fl), (3, slB s.2), (4, .int .i64 (s.1 : Int)), docT xs s.1]) (He := fun s => hpB s.2)
        (fun s hI hc => by
          have hlt : s.1 < xs.length := by unfold copD at hc; simp at hc; omega
          exact ⟨⟨copF_ints hx hI.1, copF_len hlt hI.2.1, (copF_lt hlt).2⟩, by have := copF_lt hlt; omega, key s hI hlt (by unfold copD at hc; simp at hc; exact hc.2)⟩)
        (fun s hI hc => ⟨(by intro h; cases h), stop s hI hc⟩) xs.length (0, []) (by omega) ⟨rfl, Nat.le_refl _, Nat.zero_le _⟩
      refine ⟨m, fun k => ?_⟩
      refine Eq.trans ?_ (hm k).symm
      have hfin : (whileF (copD xs) (copF xs) xs.length (0, [])).2 = copL xs := copD_C _ _ (by omega)
      show _ = k (.exit 0) [(0, .fs 1 xs fl), (3, slB (whileF (copD xs) (copF xs) xs.length (0, [])).2), (4, .int .i64 (copI xs : Int)), docT xs (copI xs)] (hpB (whileF (copD xs) (copF xs) xs.length (0, [])).2)
      rw [hfin]
      cases hn : isNil (copL xs) with
      | true => rw [isNil_eq hn]; rfl
      | false => rw [slB_ne hn, hpB_ne hn]; rfl
    · exact .inl fun k => by rw [aIf_neg hp]
  · exact .inl fun k => rfl)
theorem C14_loops : ∀ c, Try.f14.body = some c → LoopsOK C14 c := LoopsOK.of 2 (by kernel_rfl) (fun j hj S hS => by
  match j, hj with
  | 0, _ => rw [C14_l0] at hS; cases hS; exact L14_3_ok
  | 1, _ => rw [C14_l1] at hS; cases hS; exact L14_11_ok
  | n + 2, hj => omega)
noncomputable def B14 : FSpec := inlineK C14 Try.f14
noncomputable def S14 : FSpec := fun args H k => match args, H with
  | [.fs 1 xs fl], [] => aIf (intsB .u8 xs && decide (xs.length ≤ 100000)) (k (.ret (.fs 1 (copiedL xs) (copFl xs))) []) none
  | _, _ => none
theorem B14_ok : SpecOK Try.prog 14 B14 := inlineK_ok C14_ok Try.func14 C14_loops
theorem N14 (xs : List AV) (fl : SF) (k : KE) : B14 [.fs 1 xs fl] [] k =
  aIf (true && intsB IntKind.u8 xs && decide (xs.length ≤ 100000)) (aIf (Pl.isNil (Pl.copL xs)) (k (AEnd.ret (AV.fs 1 [] SF.nil)) []) (aIf ((Pl.copL xs).length == (Pl.copL xs).length && (Pl.copL xs).length == (Pl.copL xs).length && (Pl.copL xs).length == (Pl.copL xs).length && decide ((Pl.copL xs).length ≤ 200000) && !Pl.isNil (Pl.copL xs) && intsB IntKind.u8 (Pl.copL xs)) (aIf ((Pl.padL (Pl.copL xs)).length == (Pl.padL (Pl.copL xs)).length) (aIf (decide (0 + (Pl.padL (Pl.copL xs)).length * 1 ≤ (Pl.padL (Pl.copL xs)).length)) (aIf (flatL (List.take ((Pl.padL (Pl.copL xs)).length * 1) (List.drop 0 (Pl.padL (Pl.copL xs))))) (k (AEnd.ret (AV.fs 1 (List.take (Pl.padL (Pl.copL xs)).length (List.drop 0 (Pl.padL (Pl.copL xs)))) SF.any)) []) none) none) none) none)) none := by kernel_rfl
theorem S14_ok : SpecOK Try.prog 14 S14 := by
  refine B14_ok.turn fun args H => ?_
  unfold S14
  split
  · rename_i xs fl
    rcases Bool.eq_false_or_eq_true (intsB .u8 xs && decide (xs.length ≤ 100000)) with hp | hp
    · refine .inr fun k => ?_
      rw [aIf_pos hp, N14]
      obtain ⟨hx, hL⟩ : intsB .u8 xs = true ∧ xs.length ≤ 100000 := by simpa only [Bool.and_eq_true, decide_eq_true_eq] using hp
      have hg : (true && intsB IntKind.u8 xs && decide (xs.length ≤ 100000)) = true := by rw [hx, decide_eq_true hL]; rfl
      obtain ⟨h1, h2⟩ := copL_ok hx
      rw [aIf_pos hg]
      cases hn : isNil (copL xs) with
      | true =>
        rw [aIf_true]
        unfold copiedL copFl
        rw [hn, isNil_eq hn]; rfl
      | false =>
        obtain ⟨g1, g2, g3⟩ := padF_ints 4 _ h1
        have e1 : copFl xs = .any := by unfold copFl; rw [hn]; rfl
        have e2 : flatL (List.take ((padL (copL xs)).length * 1) (List.drop 0 (padL (copL xs)))) = true := by rw [List.drop_zero, Nat.mul_one, List.take_length]; exact ints_flat g1
        rw [aIf_false, e1, decide_eq_true (show (copL xs).length ≤ 200000 by omega), h1, e2, decide_eq_true (show 0 + (padL (copL xs)).length * 1 ≤ (padL (copL xs)).length by omega), List.drop_zero, List.take_length]
        simp only [beq_self_eq_true, Bool.and_self, Bool.not_false, aIf_true]
        rfl
    · exact .inl fun k => by rw [aIf_neg hp]
  · exact .inl fun k => rfl
theorem En14 : Enters Try.prog 14 := ⟨_, Try.func14, by decide, rfl⟩

/-- ferryman/ferrymanref13.size -/
noncomputable def T42 : List (FuncId × FSpec) := []
theorem T42_ok : TabOK Try.prog T42 := TabOK.nil _
noncomputable def C42 : Ctx := (ctx E T42 [] [(0, [1]), (1, [2])] [] 11 70)
theorem C42_ok : CtxOK Try.prog C42 := ctx_ok E_ok E_flds mixed T42_ok
noncomputable def S42 : FSpec := inlineK C42 Try.f42
theorem S42_ok : SpecOK Try.prog 42 S42 := inlineK_ok C42_ok Try.func42 (fun _ _ => LoopsOK.none _)
theorem En42 : Enters Try.prog 42 := ⟨_, Try.func42, by decide, rfl⟩

/-- ferryman/ferrymanref04.Check -/
noncomputable def T54 : List (FuncId × FSpec) := []
theorem T54_ok : TabOK Try.prog T54 := TabOK.nil _
noncomputable def C54 : Ctx := (ctx E T54 [] [(0, [1]), (1, [1, 23]), (2, [2]), (3, [31]), (4, [2]), (5, [2])] [] 32 70)
theorem C54_ok : CtxOK Try.prog C54 := ctx_ok E_ok E_flds mixed T54_ok
noncomputable def B54 : FSpec := inlineK C54 Try.f54
noncomputable def S54 : FSpec := fun args H k => match args, H with
  | [.agg [.int .u8 t, .int .u16 i, .bool df, .bool mf, .int .i64 off, .int .u8 l, .int .u8 q, .int .u8 s0, .int .u8 s1, .int .u8 s2, .int .u8 s3, .int .u8 d0, .int .u8 d1, .int .u8 d2, .int .u8 d3, .fs 1 os of, .fs 1 bs bf]], [] => aIf (intsB .u8 os && decide (os.length ≤ 100) && decide (bs.length ≤ 70000) && decide (-9223372036854775808 ≤ off) && decide (off ≤ 9223372036854775807)) (k (.ret (.int .i64 (chk4E off os bs))) []) none
  | _, _ => none
theorem B54_ok : SpecOK Try.prog 54 B54 := inlineK_ok C54_ok Try.func54 (fun _ _ => LoopsOK.none _)
theorem N54 (t i : Int) (df mf : Bool) (off l q s0 s1 s2 s3 d0 d1 d2 d3 : Int) (os : List AV) (of : SF) (bs : List AV) (bf : SF) (k : KE) : B54 [.agg [.int .u8 t, .int .u16 i, .bool df, .bool mf, .int .i64 off, .int .u8 l, .int .u8 q, .int .u8 s0, .int .u8 s1, .int .u8 s2, .int .u8 s3, .int .u8 d0, .int .u8 d1, .int .u8 d2, .int .u8 d3, .fs 1 os of, .fs 1 bs bf]] [] k =
  aIf (decide (off < 0)) (k (AEnd.ret (AV.int IntKind.i64 45)) []) (aIf (decide (off > 8191)) (k (AEnd.ret (AV.int IntKind.i64 45)) []) (aIf (decide ((↑os.length : Int) > 40)) (k (AEnd.ret (AV.int IntKind.i64 45)) []) (aIf ((↑os.length : Int).tmod 4 != 0) (k (AEnd.ret (AV.int IntKind.i64 45)) []) (aIf (decide ((↑bs.length : Int) > IntKind.i64.wrap (65515 - (↑os.length : Int)))) (k (AEnd.ret (AV.int IntKind.i64 2)) []) (k (AEnd.ret (AV.int IntKind.i64 0)) []))))) := by kernel_rfl
theorem S54_ok : SpecOK Try.prog 54 S54 := by
  refine B54_ok.turn fun args H => ?_
  unfold S54
  split
  · rename_i t i df mf off l q s0 s1 s2 s3 d0 d1 d2 d3 os of bs bf
    rcases Bool.eq_false_or_eq_true (intsB .u8 os && decide (os.length ≤ 100) && decide (bs.length ≤ 70000) && decide (-9223372036854775808 ≤ off) && decide (off ≤ 9223372036854775807)) with hp | hp
    · refine .inr fun k => ?_
      rw [aIf_pos hp, N54]
      exact chk4_law hp k
    · exact .inl fun k => by rw [aIf_neg hp]
  · exact .inl fun k => rfl
theorem En54 : Enters Try.prog 54 := ⟨_, Try.func54, by decide, rfl⟩

/-- ferryman/ferrymanref13.wrong -/
noncomputable def T43 : List (FuncId × FSpec) := [(54, S54)]
theorem T43_ok : TabOK Try.prog T43 := TabOK.cons En54 S54_ok (TabOK.nil _)
noncomputable def C43 : Ctx := (ctx E T43 [] [(0, [1, 2]), (1, [1, 5]), (2, [1, 5, 9]), (3, [4]), (4, [16]), (5, [4]), (6, [4])] [] 17 70)
theorem C43_ok : CtxOK Try.prog C43 := ctx_ok E_ok E_flds mixed T43_ok
noncomputable def S43 : FSpec := inlineK C43 Try.f43
theorem S43_ok : SpecOK Try.prog 43 S43 := inlineK_ok C43_ok Try.func43 (fun _ _ => LoopsOK.none _)
theorem En43 : Enters Try.prog 43 := ⟨_, Try.func43, by decide, rfl⟩

/-- ferryman/ferrymanref13.Fits -/
noncomputable def T25 : List (FuncId × FSpec) := [(42, S42), (43, S43)]
theorem T25_ok : TabOK Try.prog T25 := TabOK.cons En42 S42_ok (TabOK.cons En43 S43_ok (TabOK.nil _))
noncomputable def C25 : Ctx := (ctx E T25 [] [(0, [1, 2]), (1, [1, 2, 6]), (2, [4, 5])] [] 19 70)
theorem C25_ok : CtxOK Try.prog C25 := ctx_ok E_ok E_flds mixed T25_ok
noncomputable def B25 : FSpec := inlineK C25 Try.f25
noncomputable def S25 : FSpec := fun args H k => match args, H with
  | [.agg [.int .u8 t, .int .u16 i, .bool df, .bool mf, .int .i64 off, .int .u8 l, .int .u8 q, .int .u8 s0, .int .u8 s1, .int .u8 s2, .int .u8 s3, .int .u8 d0, .int .u8 d1, .int .u8 d2, .int .u8 d3, .fs 1 os of, .fs 1 bs bf], .int .i64 m], [] => aIf (intsB .u8 os && decide (os.length ≤ 100) && decide (bs.length ≤ 70000) && decide (-9223372036854775808 ≤ off) && decide (off ≤ 9223372036854775807) && decide (-9223372036854775808 ≤ m) && decide (m ≤ 9223372036854775807)) (k (.ret (.tup [.bool (fit4B off os bs m), .int .i64 (ask4E off os bs m)])) []) none
  | _, _ => none
theorem B25_ok : SpecOK Try.prog 25 B25 := inlineK_ok C25_ok Try.func25 (fun _ _ => LoopsOK.none _)
theorem N25 (t i : Int) (df mf : Bool) (off l q s0 s1 s2 s3 d0 d1 d2 d3 : Int) (os : List AV) (of : SF) (bs : List AV) (bf : SF) (m : Int) (k : KE) : B25 [.agg [.int .u8 t, .int .u16 i, .bool df, .bool mf, .int .i64 off, .int .u8 l, .int .u8 q, .int .u8 s0, .int .u8 s1, .int .u8 s2, .int .u8 s3, .int .u8 d0, .int .u8 d1, .int .u8 d2, .int .u8 d3, .fs 1 os of, .fs 1 bs bf], .int .i64 m] [] k =
  aIf (intsB IntKind.u8 os && decide (os.length ≤ 100) && decide (bs.length ≤ 70000) && decide (-9223372036854775808 ≤ off) && decide (off ≤ 9223372036854775807)) (aIf (Pl.chk4E off os bs != 0) (aIf (Pl.chk4E off os bs == 0) (k (AEnd.ret (AV.tup [AV.bool (decide (IntKind.i64.wrap (IntKind.i64.wrap (20 + (↑os.length : Int)) + (↑bs.length : Int)) ≤ m)), AV.int IntKind.i64 (Pl.chk4E off os bs)])) []) (k (AEnd.ret (AV.tup [AV.bool false, AV.int IntKind.i64 (Pl.chk4E off os bs)])) [])) (aIf (decide (m < 68)) (k (AEnd.ret (AV.tup [AV.bool false, AV.int IntKind.i64 131])) []) (aIf (decide (m > 65535)) (k (AEnd.ret (AV.tup [AV.bool false, AV.int IntKind.i64 131])) []) (k (AEnd.ret (AV.tup [AV.bool (decide (IntKind.i64.wrap (IntKind.i64.wrap (20 + (↑os.length : Int)) + (↑bs.length : Int)) ≤ m)), AV.int IntKind.i64 0])) [])))) none := by kernel_rfl
theorem S25_ok : SpecOK Try.prog 25 S25 := by
  refine B25_ok.turn fun args H => ?_
  unfold S25
  split
  · rename_i t i df mf off l q s0 s1 s2 s3 d0 d1 d2 d3 os of bs bf m
    rcases Bool.eq_false_or_eq_true (intsB .u8 os && decide (os.length ≤ 100) && decide (bs.length ≤ 70000) && decide (-9223372036854775808 ≤ off) && decide (off ≤ 9223372036854775807) && decide (-9223372036854775808 ≤ m) && decide (m ≤ 9223372036854775807)) with hp | hp
    · refine .inr fun k => ?_
      rw [aIf_pos hp, N25]
      exact fit4_law hp k
    · exact .inl fun k => by rw [aIf_neg hp]
  · exact .inl fun k => rfl
theorem En25 : Enters Try.prog 25 := ⟨_, Try.func25, by decide, rfl⟩
end Go.Proofs.Ytohfnoepdbkkeaa
