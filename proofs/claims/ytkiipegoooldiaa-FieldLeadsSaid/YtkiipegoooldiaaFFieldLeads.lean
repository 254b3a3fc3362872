import Derived.Test.YtkiipegoooldiaaA20
import Derived.Test.YtkiipegoooldiaaRows
import Derived.Test.YtkiipegoooldiaaPBits
namespace Go.Proofs.Ytkiipegoooldiaa
open Go.Abs Go.Pl

noncomputable def E : Env := envOf Try.prog
theorem E_ok : EnvOK Try.prog E := envOf_ok _
theorem E_flds : FieldsOK E := fieldsB_ok (by kernel_rfl)
theorem mixed : Try.prog.follows .mixedOrders = true := by kernel_rfl
/-- ferryman/ferrymanlaw03.cut -/
noncomputable def T15 : List (FuncId × FSpec) := []
theorem T15_ok : TabOK Try.prog T15 := TabOK.nil _
noncomputable def C15 : Ctx := (ctx E T15 [] [(0, [0]), (1, [0, 5]), (2, [2]), (3, [2])] [] 9 70)
theorem C15_ok : CtxOK Try.prog C15 := ctx_ok E_ok E_flds mixed T15_ok
noncomputable def S15 : FSpec := inlineK C15 Try.f15
theorem S15_ok : SpecOK Try.prog 15 S15 := inlineK_ok C15_ok Try.func15 (fun _ _ => LoopsOK.none _)
theorem En15 : Enters Try.prog 15 := ⟨_, Try.func15, by decide, rfl⟩
noncomputable def R15 (args : List AV) : Res := S15 args [] encK
noncomputable def V15 : FSpec := leafK (.ints .u8) R15
theorem V15_ok : SpecOK Try.prog 15 V15 := leafK_ok S15_ok (fun _ => rfl)
theorem N15 (xs : List AV) (fl : SF) : S15 [.fs 1 xs fl] [] encK =
  aIf (decide ((↑xs.length : Int) > 200))
  (aIf (decide (200 ≤ (↑xs.length : Int))) (some (AEnd.ret (AV.fs 1 (List.drop 0 (List.take 200 xs)) fl), [])) none)
  (some (AEnd.ret (AV.fs 1 xs fl), [])) := by kernel_rfl
theorem R15_is {xs : List AV} {fl : SF} : R15 [.fs 1 xs fl] = some (.ret (.fs 1 (xs.take 200) fl), []) := by
  show S15 _ [] encK = _
  rw [N15]
  by_cases h : xs.length > 200
  · rw [aIf_pos (decide_eq_true (by omega)), aIf_pos (decide_eq_true (by omega))]; rfl
  · rw [aIf_neg (decide_eq_false (by omega)), List.take_of_length_le (by omega)]

/-- ferryman/field.there -/
noncomputable def T52 : List (FuncId × FSpec) := []
theorem T52_ok : TabOK Try.prog T52 := TabOK.nil _
noncomputable def C52 : Ctx := (ctx E T52 [] [(0, [0, 1, 2]), (1, [6])] [] 29 70)
theorem C52_ok : CtxOK Try.prog C52 := ctx_ok E_ok E_flds mixed T52_ok
noncomputable def S52 : FSpec := inlineK C52 Try.f52
theorem S52_ok : SpecOK Try.prog 52 S52 := inlineK_ok C52_ok Try.func52 (fun _ _ => LoopsOK.none _)
theorem En52 : Enters Try.prog 52 := ⟨_, Try.func52, by decide, rfl⟩
noncomputable def R52 (args : List AV) : Res := S52 args [] encK
noncomputable def V52 : FSpec := leafK (.bool) R52
theorem V52_ok : SpecOK Try.prog 52 V52 := leafK_ok S52_ok (fun _ => rfl)
theorem N52 (xs : List AV) (fl : SF) (a n : Int) : S52 [.fs 1 xs fl, .int .i64 a, .int .i64 n] [] encK =
  aIf (decide (a ≥ 0))
  (aIf (decide (n ≥ 0))
    (aIf (decide (n ≤ IntKind.i64.wrap (8 * (↑xs.length : Int))))
      (some (AEnd.ret (AV.bool (decide (a ≤ IntKind.i64.wrap (IntKind.i64.wrap (8 * (↑xs.length : Int)) - n)))), []))
      (some (AEnd.ret (AV.bool false), [])))
    (some (AEnd.ret (AV.bool false), [])))
  (some (AEnd.ret (AV.bool false), [])) := by kernel_rfl
theorem R52_is {xs : List AV} {fl : SF} {a n : Int} (hL : xs.length ≤ 1000000) : R52 [.fs 1 xs fl, .int .i64 a, .int .i64 n] = some (.ret (.bool (thereB xs.length a n)), []) := by
  show S52 _ [] encK = _
  rw [N52]
  exact there_law hL (fun b => some (.ret (.bool b), []))

/-- ferryman/field.wide -/
noncomputable def T53 : List (FuncId × FSpec) := []
theorem T53_ok : TabOK Try.prog T53 := TabOK.nil _
noncomputable def C53 : Ctx := (ctx E T53 [] [(0, [0, 1]), (1, [4])] [] 14 70)
theorem C53_ok : CtxOK Try.prog C53 := ctx_ok E_ok E_flds mixed T53_ok
noncomputable def S53 : FSpec := inlineK C53 Try.f53
theorem S53_ok : SpecOK Try.prog 53 S53 := inlineK_ok C53_ok Try.func53 (fun _ _ => LoopsOK.none _)
theorem En53 : Enters Try.prog 53 := ⟨_, Try.func53, by decide, rfl⟩
noncomputable def R53 (args : List AV) : Res := S53 args [] encK
noncomputable def V53 : FSpec := leafK (.bool) R53
theorem V53_ok : SpecOK Try.prog 53 V53 := leafK_ok S53_ok (fun _ => rfl)
theorem N53 (v n : Int) : S53 [.int .u64 v, .int .i64 n] [] encK =
  aIf (decide (n < 64))
  (aIf (decide (IntKind.u64.wrap n < 0)) none
    (some (AEnd.ret (AV.bool (v.fdiv (2 ^ min (IntKind.u64.wrap n).toNat 64) != 0)), [])))
  (some (AEnd.ret (AV.bool false), [])) := by kernel_rfl
theorem R53_is {v n : Int} (hn : 0 ≤ n) : R53 [.int .u64 v, .int .i64 n] = some (.ret (.bool (!fitB v n)), []) := by
  show S53 _ [] encK = _
  rw [N53]
  exact wide_law hn (fun b => some (.ret (.bool b), []))

/-- slices.Clone[[]byte,byte] -/
noncomputable def T54 : List (FuncId × FSpec) := []
theorem T54_ok : TabOK Try.prog T54 := TabOK.nil _
noncomputable def C54 : Ctx := (ctx E T54 [] [(0, [0]), (1, [0, 4]), (2, [2]), (3, [2])] [] 8 70)
theorem C54_ok : CtxOK Try.prog C54 := ctx_ok E_ok E_flds mixed T54_ok
noncomputable def S54 : FSpec := inlineK C54 Try.f54
theorem S54_ok : SpecOK Try.prog 54 S54 := inlineK_ok C54_ok Try.func54 (fun _ _ => LoopsOK.none _)
theorem En54 : Enters Try.prog 54 := ⟨_, Try.func54, by decide, rfl⟩
noncomputable def R54 (args : List AV) : Res := S54 args [] encK
noncomputable def V54 : FSpec := leafK (.ints .u8) R54
theorem V54_ok : SpecOK Try.prog 54 V54 := leafK_ok S54_ok (fun _ => rfl)

noncomputable def W54 : FSpec := liveK C54 Try.f54
theorem W54_ok : SpecOK Try.prog 54 W54 := liveK_ok C54_ok Try.func54 (fun _ _ => LoopsOK.none _)

/-- ferryman/field.set -/
noncomputable def T55 : List (FuncId × FSpec) := []
theorem T55_ok : TabOK Try.prog T55 := TabOK.nil _
noncomputable def C55 : Ctx := (ctx E T55 [] [(0, [0, 1, 2, 6]), (1, [0, 1, 2, 6]), (2, [0, 1, 6, 21]), (3, [])] [] 30 70)
theorem C55_ok : CtxOK Try.prog C55 := ctx_ok E_ok E_flds mixed T55_ok
noncomputable def B55 : FSpec := inlineK C55 Try.f55
noncomputable def S55 : FSpec := fun args H k => match args, H with
  | [.sl 0 ver 0 len 1, .int .i64 i, .int .u64 v], [.cells w ys] => aIf (setG w ver len ys i v) (k (.ret (.tup [])) [.cells ver (setV ys i.toNat (v % 2))]) none
  | _, _ => none
theorem B55_ok : SpecOK Try.prog 55 B55 := inlineK_ok C55_ok Try.func55 (fun _ _ => LoopsOK.none _)
theorem N55 (w ver len : Nat) (ys : List AV) (i v : Int) (k : KE) : B55 [.sl 0 ver 0 len 1, .int .i64 i, .int .u64 v] [.cells w ys] k =
  aIf (decide (IntKind.i64.wrap (7 - i.tmod 8) < 0)) none
  (aIf (decide (0 ≤ IntKind.i64.wrap (i.tdiv 8)))
    (aIf (decide (IntKind.i64.wrap (i.tdiv 8) < (↑len : Int)))
      (aIf (w == ver)
        (aIf (decide (0 + (IntKind.i64.wrap (i.tdiv 8)).toNat * 1 + 1 ≤ ys.length))
          (aIf ((ys.getD (0 + (IntKind.i64.wrap (i.tdiv 8)).toNat * 1) AV.junk).isInt IntKind.u8)
            (aIf (decide (0 ≤ IntKind.i64.wrap (i.tdiv 8)))
              (aIf (decide (IntKind.i64.wrap (i.tdiv 8) < (↑len : Int)))
                (aIf (w == ver)
                  (aIf (decide (0 + (IntKind.i64.wrap (i.tdiv 8)).toNat * 1 + 1 ≤ ys.length))
                    (aIf (IntKind.u64.wrap (↑(BitVec.ofInt 64 v &&& BitVec.ofInt 64 1).toNat : Int) == 1)
                      (aIf (decide (0 ≤ IntKind.i64.wrap (i.tdiv 8)))
                        (aIf (decide (IntKind.i64.wrap (i.tdiv 8) < (↑len : Int)))
                          (aIf (ver == ver)
                            (aIf
                              (decide
                                (0 + (IntKind.i64.wrap (i.tdiv 8)).toNat * 1 + 1 ≤
                                  (ys.set (0 + (IntKind.i64.wrap (i.tdiv 8)).toNat * 1)
                                      (AV.int IntKind.u8
                                        (IntKind.u8.wrap
                                          (↑(BitVec.ofInt 8
                                                    (ys.getD (0 + (IntKind.i64.wrap (i.tdiv 8)).toNat * 1)
                                                        AV.junk).toInt &&&
                                                  ~~~BitVec.ofInt 8
                                                      (IntKind.u8.wrap
                                                        (1 *
                                                          2 ^ min (IntKind.i64.wrap (7 - i.tmod 8)).toNat 8))).toNat :
                                            Int)))).length))
                              (aIf
                                (((ys.set (0 + (IntKind.i64.wrap (i.tdiv 8)).toNat * 1)
                                          (AV.int IntKind.u8
                                            (IntKind.u8.wrap
                                              (↑(BitVec.ofInt 8
                                                        (ys.getD (0 + (IntKind.i64.wrap (i.tdiv 8)).toNat * 1)
                                                            AV.junk).toInt &&&
                                                      ~~~BitVec.ofInt 8
                                                          (IntKind.u8.wrap
                                                            (1 *
                                                              2 ^
                                                                min (IntKind.i64.wrap (7 - i.tmod 8)).toNat 8))).toNat :
                                                Int)))).getD
                                      (0 + (IntKind.i64.wrap (i.tdiv 8)).toNat * 1) AV.junk).isInt
                                  IntKind.u8)
                                (aIf (decide (0 ≤ IntKind.i64.wrap (i.tdiv 8)))
                                  (aIf (decide (IntKind.i64.wrap (i.tdiv 8) < (↑len : Int)))
                                    (aIf (ver == ver)
                                      (aIf
                                        (decide
                                          (0 + (IntKind.i64.wrap (i.tdiv 8)).toNat * 1 + 1 ≤
                                            (ys.set (0 + (IntKind.i64.wrap (i.tdiv 8)).toNat * 1)
                                                (AV.int IntKind.u8
                                                  (IntKind.u8.wrap
                                                    (↑(BitVec.ofInt 8
                                                              (ys.getD (0 + (IntKind.i64.wrap (i.tdiv 8)).toNat * 1)
                                                                  AV.junk).toInt &&&
                                                            ~~~BitVec.ofInt 8
                                                                (IntKind.u8.wrap
                                                                  (1 *
                                                                    2 ^
                                                                      min (IntKind.i64.wrap (7 - i.tmod 8)).toNat
                                                                        8))).toNat :
                                                      Int)))).length))
                                        (k (AEnd.ret (AV.tup []))
                                          [AO.cells ver
                                              ((ys.set (0 + (IntKind.i64.wrap (i.tdiv 8)).toNat * 1)
                                                    (AV.int IntKind.u8
                                                      (IntKind.u8.wrap
                                                        (↑(BitVec.ofInt 8
                                                                  (ys.getD (0 + (IntKind.i64.wrap (i.tdiv 8)).toNat * 1)
                                                                      AV.junk).toInt &&&
                                                                ~~~BitVec.ofInt 8
                                                                    (IntKind.u8.wrap
                                                                      (1 *
                                                                        2 ^
                                                                          min (IntKind.i64.wrap (7 - i.tmod 8)).toNat
                                                                            8))).toNat :
                                                          Int)))).set
                                                (0 + (IntKind.i64.wrap (i.tdiv 8)).toNat * 1)
                                                (AV.int IntKind.u8
                                                  (IntKind.u8.wrap
                                                    (↑(BitVec.ofInt 8
                                                              ((ys.set (0 + (IntKind.i64.wrap (i.tdiv 8)).toNat * 1)
                                                                      (AV.int IntKind.u8
                                                                        (IntKind.u8.wrap
                                                                          (↑(BitVec.ofInt 8
                                                                                    (ys.getD
                                                                                        (0 +
                                                                                          (IntKind.i64.wrap
                                                                                                (i.tdiv 8)).toNat *
                                                                                            1)
                                                                                        AV.junk).toInt &&&
                                                                                  ~~~BitVec.ofInt 8
                                                                                      (IntKind.u8.wrap
                                                                                        (1 *
                                                                                          2 ^
                                                                                            min
                                                                                              (IntKind.i64.wrap
                                                                                                  (7 - i.tmod 8)).toNat
                                                                                              8))).toNat :
                                                                            Int)))).getD
                                                                  (0 + (IntKind.i64.wrap (i.tdiv 8)).toNat * 1)
                                                                  AV.junk).toInt |||
                                                            BitVec.ofInt 8
                                                              (IntKind.u8.wrap
                                                                (1 *
                                                                  2 ^
                                                                    min (IntKind.i64.wrap (7 - i.tmod 8)).toNat
                                                                      8))).toNat :
                                                      Int))))])
                                        none)
                                      none)
                                    none)
                                  none)
                                none)
                              none)
                            none)
                          none)
                        none)
                      (k (AEnd.ret (AV.tup []))
                        [AO.cells ver
                            (ys.set (0 + (IntKind.i64.wrap (i.tdiv 8)).toNat * 1)
                              (AV.int IntKind.u8
                                (IntKind.u8.wrap
                                  (↑(BitVec.ofInt 8
                                            (ys.getD (0 + (IntKind.i64.wrap (i.tdiv 8)).toNat * 1) AV.junk).toInt &&&
                                          ~~~BitVec.ofInt 8
                                              (IntKind.u8.wrap
                                                (1 * 2 ^ min (IntKind.i64.wrap (7 - i.tmod 8)).toNat 8))).toNat :
                                    Int))))]))
                    none)
                  none)
                none)
              none)
            none)
          none)
        none)
      none)
    none) := by kernel_rfl
theorem S55_ok : SpecOK Try.prog 55 S55 := by
  refine B55_ok.turn fun args H => ?_
  unfold S55
  split
  · rename_i ver len i v w ys
    rcases Bool.eq_false_or_eq_true (setG w ver len ys i v) with hp | hp
    · refine .inr fun k => ?_
      rw [aIf_pos hp, N55]
      obtain ⟨rfl, rfl, hL, hu, hi0, hi1, hv0, hv1⟩ := setG_of hp
      obtain ⟨j, rfl⟩ := Int.eq_ofNat_of_zero_le hi0
      have hj : j / 8 < ys.length := by omega
      obtain ⟨x, hx, he⟩ := u8_get hu (j / 8) hj
      have hs : 7 - j % 8 < 8 := by omega
      have e1 : IntKind.i64.wrap ((j : Int).tdiv 8) = ((j / 8 : Nat) : Int) := div8 (by omega)
      have e2 := sh7 j
      have e3 : min (7 - j % 8) 8 = 7 - j % 8 := by omega
      have e4 : decide (((j / 8 : Nat) : Int) < (ys.length : Int)) = true := decide_eq_true (by omega)
      have e5 : decide (j / 8 + 1 ≤ ys.length) = true := decide_eq_true (by omega)
      have e6 : IntKind.u64.wrap (v % 2) = v % 2 := u64n (by omega) (by omega)
      have r0 := setByte_range (b := 0) hx hs (.inl rfl)
      have r1 := setByte_range (b := 1) hx hs (.inr rfl)
      simp only [e1, e2, e3, e4, e5, dnn, dnn', Int.toNat_natCast, Nat.zero_add, Nat.mul_one, Int.one_mul, he, isInt_self, beq_self_eq_true, aIf_true, aIf_false, and1 hv0 hv1, e6, u8pow hs, AV.toInt, byte_and hx hs, u8n r0.1 r0.2,
        List.length_set, getD_set_self hj, byte_or hx hs, u8n r1.1 r1.2, List.set_set, setV]
      rcases (by omega : v % 2 = 0 ∨ v % 2 = 1) with h2 | h2
      · rw [h2]; rfl
      · rw [h2]; rfl
    · exact .inl fun k => by rw [aIf_neg hp]
  · exact .inl fun k => rfl
theorem En55 : Enters Try.prog 55 := ⟨_, Try.func55, by decide, rfl⟩

/-- ferryman/field.Put -/
noncomputable def T16 : List (FuncId × FSpec) := [(52, V52), (53, V53), (54, W54), (55, S55)]
theorem T16_ok : TabOK Try.prog T16 := TabOK.cons En52 V52_ok (TabOK.cons En53 V53_ok (TabOK.cons En54 W54_ok (TabOK.cons En55 S55_ok (TabOK.nil _))))
noncomputable def L16_7 : ATs → AH → KC → Res := fun ts H k => match ts, H with
  | [(1, .int .i64 a), (2, .int .i64 n), (3, .int .u64 v), (10, .sl 0 ver 0 len 1), (26, .int .i64 x), (27, .int .i64 y)], [.cells w ys] => aIf (putG w ver len ys a n v x y) (k (.exit 0) [(1, .int .i64 a), (2, .int .i64 n), (3, .int .u64 v), (10, .sl 0 ver 0 len 1), (26, .int .i64 x), (27, .int .i64 x), (28, .bool false)] [.cells ver (putL ys a.toNat (vbit v x.toNat) x.toNat)]) none
  | [(1, .int .i64 a), (2, .int .i64 n), (3, .int .u64 v), (10, .fs 1 xs fl), (26, .int .i64 x), (27, .int .i64 y)], [] => aIf (x == 0 && y == 0) (k (.exit 0) [(1, .int .i64 a), (2, .int .i64 n), (3, .int .u64 v), (10, .fs 1 xs fl), (26, .int .i64 x), (27, .int .i64 y), (28, .bool false)] []) none
  | _, _ => none
noncomputable def C16 : Ctx := (ctx E T16 [(7, L16_7)] [(0, [0, 1, 2, 3]), (1, [0, 1, 2, 3, 20]), (2, [8, 9]), (3, [0, 1, 2, 3, 23]), (4, [8, 9]), (5, [1, 2, 3, 10]), (6, [1, 2, 3, 10, 26, 27]), (7, [1, 2, 3, 10, 26, 27, 28]), (8, [1, 2, 3, 10, 11, 26, 27]), (9, [1, 2, 3, 10, 26, 27]), (10, [1, 2, 3, 10, 26, 27]), (11, [8, 9]), (1000007, [1, 2, 3, 10, 26, 27])] [54] 44 70)
theorem C16_ok : CtxOK Try.prog C16 := ctx_ok E_ok E_flds mixed T16_ok
theorem C16_l0 : C16.loop (loopId (loopB Try.f16 0)) = some L16_7 := by kernel_rfl
theorem L16_7_in : LoopsOK C16 (loopB Try.f16 0) := LoopsOK.within 0 (by kernel_rfl) (fun j hj S hS => by
  omega)
theorem M16_7a (a n v : Int) (ver len : Nat) (x y : Int) (w : Nat) (ys : List AV) (k : KC) : headedK C16 (loopB Try.f16 0) [(1, .int .i64 a), (2, .int .i64 n), (3, .int .u64 v), (10, .sl 0 ver 0 len 1), (26, .int .i64 x), (27, .int .i64 y)] [.cells w ys] k =
  aIf (decide (y < x))
  (aIf (decide (IntKind.u64.wrap (IntKind.i64.wrap (IntKind.i64.wrap (n - 1) - y)) < 0)) none
    (aIf
      (Pl.setG w ver len ys (IntKind.i64.wrap (a + y))
        (v.fdiv (2 ^ min (IntKind.u64.wrap (IntKind.i64.wrap (IntKind.i64.wrap (n - 1) - y))).toNat 64)))
      (k AExit.normal
        [(1, AV.int IntKind.i64 a), (2, AV.int IntKind.i64 n), (3, AV.int IntKind.u64 v), (10, AV.sl 0 ver 0 len 1),
          (26, AV.int IntKind.i64 x), (27, AV.int IntKind.i64 (IntKind.i64.wrap (y + 1)))]
        [AO.cells ver
            (Pl.setV ys (IntKind.i64.wrap (a + y)).toNat
              (v.fdiv (2 ^ min (IntKind.u64.wrap (IntKind.i64.wrap (IntKind.i64.wrap (n - 1) - y))).toNat 64) % 2))])
      none))
  (k (AExit.exit 0)
    [(1, AV.int IntKind.i64 a), (2, AV.int IntKind.i64 n), (3, AV.int IntKind.u64 v), (10, AV.sl 0 ver 0 len 1),
      (26, AV.int IntKind.i64 x), (27, AV.int IntKind.i64 y), (28, AV.bool (decide (y < x)))]
    [AO.cells w ys]) := by kernel_rfl
theorem M16_7b (a n v : Int) (xs : List AV) (fl : SF) (x y : Int) (k : KC) : headedK C16 (loopB Try.f16 0) [(1, .int .i64 a), (2, .int .i64 n), (3, .int .u64 v), (10, .fs 1 xs fl), (26, .int .i64 x), (27, .int .i64 y)] [] k =
  aIf (decide (y < x)) (aIf (decide (IntKind.u64.wrap (IntKind.i64.wrap (IntKind.i64.wrap (n - 1) - y)) < 0)) none none)
  (k (AExit.exit 0)
    [(1, AV.int IntKind.i64 a), (2, AV.int IntKind.i64 n), (3, AV.int IntKind.u64 v), (10, AV.fs 1 xs fl),
      (26, AV.int IntKind.i64 x), (27, AV.int IntKind.i64 y), (28, AV.bool (decide (y < x)))]
    []) := by kernel_rfl
theorem L16_7_ok : LoopSum C16 (loopB Try.f16 0) L16_7 := LoopSum.of C16_ok L16_7_in (fun ts H => by
  unfold L16_7
  split
  · rename_i a n v ver len x y w ys
    rcases Bool.eq_false_or_eq_true (putG w ver len ys a n v x y) with hp | hp
    · refine .inr ?_
      simp only [aIf_pos hp]
      obtain ⟨rfl, rfl, hL, hu, ha, rfl, rfl, hn0, hn1, han, hv0, hv1⟩ := putG_of hp
      obtain ⟨a, rfl⟩ := Int.eq_ofNat_of_zero_le ha
      obtain ⟨n, rfl⟩ := Int.eq_ofNat_of_zero_le hn0
      have main : ∀ d j : Nat, j + d = n → ∃ m, ∀ k, aIterK m (headedK C16 (loopB Try.f16 0)) [(1, .int .i64 (a : Int)), (2, .int .i64 (n : Int)), (3, .int .u64 v), (10, .sl 0 w 0 ys.length 1), (26, .int .i64 (n : Int)), (27, .int .i64 (j : Int))] [.cells w (putL ys a (vbit v n) j)] k =
          k (.exit 0) [(1, .int .i64 (a : Int)), (2, .int .i64 (n : Int)), (3, .int .u64 v), (10, .sl 0 w 0 ys.length 1), (26, .int .i64 (n : Int)), (27, .int .i64 (n : Int)), (28, .bool false)] [.cells w (putL ys a (vbit v n) n)] := by
        intro d
        induction d with
        | zero =>
          intro j hj
          obtain rfl : j = n := by omega
          refine ⟨1, fun k => ?_⟩
          rw [aIterK, M16_7a]
          simp only [dltf, aIf_false]
        | succ d ih =>
          intro j hj
          obtain ⟨m, hm⟩ := ih (j + 1) (by omega)
          refine ⟨m + 1, fun k => ?_⟩
          have r := shr_range hv0 hv1 (n - 1 - j)
          have e3 : min (n - 1 - j) 64 = n - 1 - j := by omega
          rw [aIterK, M16_7a, aIf_pos (dlt (by omega)), sh_n1 (by omega) (by omega), u64nn (by omega), dnn, aIf_false, i64a (by omega), i64s (by omega), Int.toNat_natCast, e3, shr_eq, Int.toNat_natCast,
            setG_ok (by rw [putL_length]) hL (putL_u8 hu j fun i _ => vbit_01 v n i) (by omega) (by omega) r.1 r.2, aIf_true]
          exact hm k
      exact (main n 0 (by omega)).imp fun m hm k => (hm k).symm
    · exact .inl fun k => by rw [aIf_neg hp]
  · rename_i a n v xs fl x y
    rcases Bool.eq_false_or_eq_true (x == 0 && y == 0) with hp | hp
    · refine .inr ?_
      simp only [aIf_pos hp]
      simp only [Bool.and_eq_true, beq_iff_eq] at hp
      obtain ⟨rfl, rfl⟩ := hp
      refine ⟨1, fun k => ?_⟩
      rw [aIterK, M16_7b]
      rfl
    · exact .inl fun k => by rw [aIf_neg hp]
  · exact .inl fun k => rfl)
theorem C16_loops : ∀ c, Try.f16.body = some c → LoopsOK C16 c := LoopsOK.of 1 (by kernel_rfl) (fun j hj S hS => by
  match j, hj with
  | 0, _ => rw [C16_l0] at hS; cases hS; exact L16_7_ok
  | n + 1, hj => omega)
noncomputable def S16 : FSpec := inlineK C16 Try.f16
theorem S16_ok : SpecOK Try.prog 16 S16 := inlineK_ok C16_ok Try.func16 C16_loops
theorem En16 : Enters Try.prog 16 := ⟨_, Try.func16, by decide, rfl⟩
noncomputable def R16 (args : List AV) : Res := S16 args [] encK
noncomputable def V16 : FSpec := leafK (.tup [.ints .u8, .int .i64]) R16
theorem V16_ok : SpecOK Try.prog 16 V16 := leafK_ok S16_ok (fun _ => rfl)
theorem N16a (xs : List AV) (a n v : Int) : S16 [.fs 1 xs .any, .int .i64 a, .int .i64 n, .int .u64 v] [] encK =
  aIf (decide (n > 64)) (some (AEnd.ret (AV.tup [AV.fs 1 [] SF.nil, AV.int IntKind.i64 30]), []))
  (aIf (shOK Sh.bool (R52 [AV.fs 1 xs SF.any, AV.int IntKind.i64 a, AV.int IntKind.i64 n]))
    (aIf (!(sel (R52 [AV.fs 1 xs SF.any, AV.int IntKind.i64 a, AV.int IntKind.i64 n]) []).toBool)
      (some (AEnd.ret (AV.tup [AV.fs 1 [] SF.nil, AV.int IntKind.i64 30]), []))
      (aIf (shOK Sh.bool (R53 [AV.int IntKind.u64 v, AV.int IntKind.i64 n]))
        (aIf (sel (R53 [AV.int IntKind.u64 v, AV.int IntKind.i64 n]) []).toBool
          (some (AEnd.ret (AV.tup [AV.fs 1 [] SF.nil, AV.int IntKind.i64 1]), []))
          (aIf (xs.length == 0)
            (aIf (n == 0 && true) (some (AEnd.ret (AV.tup [AV.fs 1 [] SF.zc, AV.int IntKind.i64 0]), [])) none)
            (aIf ((xs.length * 1).ble 140737488355328)
              (aIf ((List.flatMap AV.cells xs).length == xs.length * 1)
                (aIf (Pl.putG (xs.length * 1) (xs.length * 1) xs.length (List.flatMap AV.cells xs) a n v n 0)
                  (aIf (xs.length * 1 == xs.length * 1)
                    (aIf
                      (decide
                        (0 + xs.length * 1 ≤
                          (Pl.putL (List.flatMap AV.cells xs) a.toNat (Pl.vbit v n.toNat) n.toNat).length))
                      (aIf
                        (flatL
                          (List.take (xs.length * 1)
                            (List.drop 0 (Pl.putL (List.flatMap AV.cells xs) a.toNat (Pl.vbit v n.toNat) n.toNat))))
                        (some
                          (AEnd.ret
                              (AV.tup
                                [AV.fs 1
                                    (List.take xs.length
                                      (List.drop 0
                                        (Pl.putL (List.flatMap AV.cells xs) a.toNat (Pl.vbit v n.toNat) n.toNat)))
                                    SF.any,
                                  AV.int IntKind.i64 0]),
                            []))
                        none)
                      none)
                    none)
                  none)
                none)
              none)))
        none))
    none) := by kernel_rfl
theorem N16n (a n v : Int) : S16 [.fs 1 [] .nil, .int .i64 a, .int .i64 n, .int .u64 v] [] encK =
  aIf (decide (n > 64)) (some (AEnd.ret (AV.tup [AV.fs 1 [] SF.nil, AV.int IntKind.i64 30]), []))
  (aIf (shOK Sh.bool (R52 [AV.fs 1 [] SF.nil, AV.int IntKind.i64 a, AV.int IntKind.i64 n]))
    (aIf (!(sel (R52 [AV.fs 1 [] SF.nil, AV.int IntKind.i64 a, AV.int IntKind.i64 n]) []).toBool)
      (some (AEnd.ret (AV.tup [AV.fs 1 [] SF.nil, AV.int IntKind.i64 30]), []))
      (aIf (shOK Sh.bool (R53 [AV.int IntKind.u64 v, AV.int IntKind.i64 n]))
        (aIf (sel (R53 [AV.int IntKind.u64 v, AV.int IntKind.i64 n]) []).toBool
          (some (AEnd.ret (AV.tup [AV.fs 1 [] SF.nil, AV.int IntKind.i64 1]), []))
          (aIf (n == 0 && true) (some (AEnd.ret (AV.tup [AV.fs 1 [] SF.nil, AV.int IntKind.i64 0]), [])) none))
        none))
    none) := by kernel_rfl
theorem N16z (a n v : Int) : S16 [.fs 1 [] .zc, .int .i64 a, .int .i64 n, .int .u64 v] [] encK =
  aIf (decide (n > 64)) (some (AEnd.ret (AV.tup [AV.fs 1 [] SF.nil, AV.int IntKind.i64 30]), []))
  (aIf (shOK Sh.bool (R52 [AV.fs 1 [] SF.zc, AV.int IntKind.i64 a, AV.int IntKind.i64 n]))
    (aIf (!(sel (R52 [AV.fs 1 [] SF.zc, AV.int IntKind.i64 a, AV.int IntKind.i64 n]) []).toBool)
      (some (AEnd.ret (AV.tup [AV.fs 1 [] SF.nil, AV.int IntKind.i64 30]), []))
      (aIf (shOK Sh.bool (R53 [AV.int IntKind.u64 v, AV.int IntKind.i64 n]))
        (aIf (sel (R53 [AV.int IntKind.u64 v, AV.int IntKind.i64 n]) []).toBool
          (some (AEnd.ret (AV.tup [AV.fs 1 [] SF.nil, AV.int IntKind.i64 1]), []))
          (aIf (n == 0 && true) (some (AEnd.ret (AV.tup [AV.fs 1 [] SF.zc, AV.int IntKind.i64 0]), [])) none))
        none))
    none) := by kernel_rfl
theorem R16_is {xs : List AV} {fl : SF} {a n v : Int} (hu : intsB .u8 xs = true) (hL : xs.length ≤ 1000000) (hf : fl ≠ .any → xs = []) (hv0 : 0 ≤ v) (hv1 : v < 18446744073709551616) :
    ∃ fl', R16 [.fs 1 xs fl, .int .i64 a, .int .i64 n, .int .u64 v] = some (.ret (.tup [.fs 1 (putX xs a n v) fl', .int .i64 (putE xs.length a n v)]), []) := by
  show ∃ fl', S16 _ [] encK = _
  have empty : ∀ (gl : SF), thereB 0 a n = true → n = 0 := fun _ h => by have := there_of h; omega
  unfold putX putE
  cases fl with
  | nil =>
    obtain rfl := hf (by simp)
    rw [N16n, R52_is (by simp), shOK_ret, has_bool, aIf_true]
    simp only [List.length_nil]
    by_cases h1 : n > 64
    · refine ⟨.nil, ?_⟩
      rw [decide_eq_true h1]; rfl
    rw [decide_eq_false h1]
    simp only [aIf_false, Bool.false_or]
    cases h2 : thereB 0 a n
    · exact ⟨.nil, rfl⟩
    have hth := there_of h2
    obtain rfl := empty .nil h2
    rw [R53_is (Int.le_refl _), shOK_ret, has_bool, aIf_true]
    cases h3 : fitB v 0
    · exact ⟨.nil, rfl⟩
    · exact ⟨.nil, rfl⟩
  | zc =>
    obtain rfl := hf (by simp)
    rw [N16z, R52_is (by simp), shOK_ret, has_bool, aIf_true]
    simp only [List.length_nil]
    by_cases h1 : n > 64
    · refine ⟨.nil, ?_⟩
      rw [decide_eq_true h1]; rfl
    rw [decide_eq_false h1]
    simp only [aIf_false, Bool.false_or]
    cases h2 : thereB 0 a n
    · exact ⟨.nil, rfl⟩
    have hth := there_of h2
    obtain rfl := empty .zc h2
    rw [R53_is (Int.le_refl _), shOK_ret, has_bool, aIf_true]
    cases h3 : fitB v 0
    · exact ⟨.nil, rfl⟩
    · exact ⟨.zc, rfl⟩
  | any =>
    rw [N16a, R52_is hL, shOK_ret, has_bool, aIf_true]
    by_cases h1 : n > 64
    · refine ⟨.nil, ?_⟩
      rw [decide_eq_true h1]; rfl
    rw [decide_eq_false h1]
    simp only [aIf_false, Bool.false_or]
    cases h2 : thereB xs.length a n
    · exact ⟨.nil, rfl⟩
    have hth := there_of h2
    rw [R53_is hth.2.1, shOK_ret, has_bool, aIf_true]
    cases h3 : fitB v n
    · exact ⟨.nil, rfl⟩
    by_cases h4 : xs.length = 0
    · have hx : xs = [] := List.eq_nil_of_length_eq_zero h4
      subst hx
      obtain rfl := empty .any h2
      exact ⟨.zc, rfl⟩
    · refine ⟨.any, ?_⟩
      have hp := putL_u8 (a := a.toNat) hu n.toNat (fun i _ => vbit_01 v n.toNat i)
      have hpl := putL_length xs a.toNat (vbit v n.toNat) n.toNat
      rw [ints_cells hu, Nat.mul_one, putG_ok hu hL h1 h2 hv0 hv1, beq_self_eq_true, Nat.zero_add, take_all hpl, ints_flat hp, hpl, show (xs.length == 0) = false from beq_eq_false_iff_ne.2 h4, Nat.ble_eq_true_of_le (by omega), decide_eq_true (Nat.le_refl _)]
      rfl

/-- ferryman/field.bit -/
noncomputable def T56 : List (FuncId × FSpec) := []
theorem T56_ok : TabOK Try.prog T56 := TabOK.nil _
noncomputable def C56 : Ctx := (ctx E T56 [] [(0, [0, 1]), (1, [4])] [] 16 70)
theorem C56_ok : CtxOK Try.prog C56 := ctx_ok E_ok E_flds mixed T56_ok
noncomputable def S56 : FSpec := inlineK C56 Try.f56
theorem S56_ok : SpecOK Try.prog 56 S56 := inlineK_ok C56_ok Try.func56 (fun _ _ => LoopsOK.none _)
theorem En56 : Enters Try.prog 56 := ⟨_, Try.func56, by decide, rfl⟩
noncomputable def R56 (args : List AV) : Res := S56 args [] encK
noncomputable def V56 : FSpec := leafK (.int .u64) R56
theorem V56_ok : SpecOK Try.prog 56 V56 := leafK_ok S56_ok (fun _ => rfl)
theorem N56 (xs : List AV) (fl : SF) (i : Int) : S56 [.fs 1 xs fl, .int .i64 i] [] encK =
  aIf (decide (0 ≤ IntKind.i64.wrap (i.tdiv 8)))
  (aIf (decide (IntKind.i64.wrap (i.tdiv 8) < (↑xs.length : Int)))
    (aIf ((xs.getD (IntKind.i64.wrap (i.tdiv 8)).toNat AV.junk).cells.length == 1)
      (aIf
        (([(xs.getD (IntKind.i64.wrap (i.tdiv 8)).toNat AV.junk).cells.getD 0 AV.junk].getD 0 AV.junk).isInt IntKind.u8)
        (aIf (decide (IntKind.i64.wrap (7 - i.tmod 8) < 0)) none
          (some
            (AEnd.ret
                (AV.int IntKind.u64
                  (IntKind.u64.wrap
                    (↑(BitVec.ofInt 64
                              (IntKind.u64.wrap
                                (([(xs.getD (IntKind.i64.wrap (i.tdiv 8)).toNat AV.junk).cells.getD 0 AV.junk].getD 0
                                        AV.junk).toInt.fdiv
                                  (2 ^ min (IntKind.i64.wrap (7 - i.tmod 8)).toNat 8))) &&&
                            BitVec.ofInt 64 1).toNat :
                      Int))),
              [])))
        none)
      none)
    none)
  none := by kernel_rfl
theorem R56_is {xs : List AV} {fl : SF} {j : Nat} (hu : intsB .u8 xs = true) (hL : xs.length ≤ 1000000) (hj : j < 8 * xs.length) : R56 [.fs 1 xs fl, .int .i64 (j : Int)] = some (.ret (.int .u64 (bitV xs j)), []) := by
  show S56 _ [] encK = _
  obtain ⟨x, hx, he⟩ := u8_get hu (j / 8) (by omega)
  have e1 : IntKind.i64.wrap ((j : Int).tdiv 8) = ((j / 8 : Nat) : Int) := div8 (by omega)
  have e2 := sh7 j
  have e3 : min (7 - j % 8) 8 = 7 - j % 8 := by omega
  have e4 : decide (((j / 8 : Nat) : Int) < (xs.length : Int)) = true := decide_eq_true (by omega)
  have r := shr_byte hx (7 - j % 8)
  have e6 : IntKind.u64.wrap ((x : Int) / 2 ^ (7 - j % 8)) = (x : Int) / 2 ^ (7 - j % 8) := u64n (by omega) (by omega)
  rw [N56]
  simp only [e1, e2, e3, e4, dnn, dnn', Int.toNat_natCast, he, AV.cells, List.length_singleton, List.getD_cons_zero, isInt_self, beq_self_eq_true, aIf_true, aIf_false, AV.toInt, shr_eq, e6, and1 (u := (x : Int) / 2 ^ (7 - j % 8)) (by omega) (by omega), u64n (x := (x : Int) / 2 ^ (7 - j % 8) % 2) (by omega) (by omega), bitV]
theorem bit_shape {b : Int} (h : 0 ≤ b ∧ b ≤ 1) : shOK (.int .u64) (some (.ret (.int .u64 b), [])) = true := by
  rw [shOK_ret, has_int, inK_u64, decide_eq_true (show 0 ≤ b by omega), decide_eq_true (show b ≤ 18446744073709551615 by omega)]; rfl


/-- ferryman/field.Get -/
noncomputable def T18 : List (FuncId × FSpec) := [(52, V52), (56, V56)]
theorem T18_ok : TabOK Try.prog T18 := TabOK.cons En52 V52_ok (TabOK.cons En56 V56_ok (TabOK.nil _))
noncomputable def L18_5 : ATs → AH → KC → Res := fun ts H k => match ts, H with
  | [(0, .fs 1 xs fl), (1, .int .i64 a), (8, .int .u64 v), (19, .int .i64 x), (20, .int .i64 y)], [] => aIf (getG xs a v x y) (k (.exit 0) [(0, .fs 1 xs fl), (1, .int .i64 a), (8, .int .u64 (getN xs a.toNat x.toNat)), (19, .int .i64 x), (20, .int .i64 x), (21, .bool false)] []) none
  | _, _ => none
noncomputable def C18 : Ctx := (ctx E T18 [(5, L18_5)] [(0, [0, 1, 2]), (1, [0, 1, 2, 18]), (2, [6, 7]), (3, [0, 1, 2, 8]), (4, [0, 1, 8, 19, 20]), (5, [0, 1, 8, 19, 20, 21]), (6, [0, 1, 8, 9, 19, 20]), (7, [0, 1, 8, 19, 20]), (8, [0, 1, 8, 19, 20]), (9, [6, 7]), (1000005, [0, 1, 8, 19, 20])] [] 33 70)
theorem C18_ok : CtxOK Try.prog C18 := ctx_ok E_ok E_flds mixed T18_ok
theorem C18_l0 : C18.loop (loopId (loopB Try.f18 0)) = some L18_5 := by kernel_rfl
theorem L18_5_in : LoopsOK C18 (loopB Try.f18 0) := LoopsOK.within 0 (by kernel_rfl) (fun j hj S hS => by
  omega)
theorem M18_5 (xs : List AV) (fl : SF) (a v x y : Int) (k : KC) : headedK C18 (loopB Try.f18 0) [(0, .fs 1 xs fl), (1, .int .i64 a), (8, .int .u64 v), (19, .int .i64 x), (20, .int .i64 y)] [] k =
  aIf (decide (y < x))
  (aIf (shOK (Sh.int IntKind.u64) (R56 [AV.fs 1 xs fl, AV.int IntKind.i64 (IntKind.i64.wrap (a + y))]))
    (k AExit.normal
      [(0, AV.fs 1 xs fl), (1, AV.int IntKind.i64 a),
        (8,
          AV.int IntKind.u64
            (IntKind.u64.wrap
              (↑(BitVec.ofInt 64 (IntKind.u64.wrap (v * 2)) |||
                      BitVec.ofInt 64
                        (sel (R56 [AV.fs 1 xs fl, AV.int IntKind.i64 (IntKind.i64.wrap (a + y))]) []).toInt).toNat :
                Int))),
        (19, AV.int IntKind.i64 x), (20, AV.int IntKind.i64 (IntKind.i64.wrap (y + 1)))]
      [])
    none)
  (k (AExit.exit 0)
    [(0, AV.fs 1 xs fl), (1, AV.int IntKind.i64 a), (8, AV.int IntKind.u64 v), (19, AV.int IntKind.i64 x),
      (20, AV.int IntKind.i64 y), (21, AV.bool (decide (y < x)))]
    []) := by kernel_rfl
theorem L18_5_ok : LoopSum C18 (loopB Try.f18 0) L18_5 := LoopSum.of C18_ok L18_5_in (fun ts H => by
  unfold L18_5
  split
  · rename_i xs fl a v x y
    rcases Bool.eq_false_or_eq_true (getG xs a v x y) with hp | hp
    · refine .inr ?_
      simp only [aIf_pos hp]
      obtain ⟨hu, hL, ha, rfl, rfl, hx0, hx1, hax⟩ := getG_of hp
      obtain ⟨a, rfl⟩ := Int.eq_ofNat_of_zero_le ha
      obtain ⟨n, rfl⟩ := Int.eq_ofNat_of_zero_le hx0
      have main : ∀ d j : Nat, j + d = n → ∃ m, ∀ k, aIterK m (headedK C18 (loopB Try.f18 0)) [(0, .fs 1 xs fl), (1, .int .i64 (a : Int)), (8, .int .u64 (getN xs a j)), (19, .int .i64 (n : Int)), (20, .int .i64 (j : Int))] [] k =
          k (.exit 0) [(0, .fs 1 xs fl), (1, .int .i64 (a : Int)), (8, .int .u64 (getN xs a n)), (19, .int .i64 (n : Int)), (20, .int .i64 (n : Int)), (21, .bool false)] [] := by
        intro d
        induction d with
        | zero =>
          intro j hj
          obtain rfl : j = n := by omega
          refine ⟨1, fun k => ?_⟩
          rw [aIterK, M18_5]
          simp only [Int.lt_irrefl, decide_false, aIf_false]
        | succ d ih =>
          intro j hj
          obtain ⟨m, hm⟩ := ih (j + 1) (by omega)
          refine ⟨m + 1, fun k => ?_⟩
          have e1 : IntKind.i64.wrap ((a : Int) + (j : Int)) = ((a + j : Nat) : Int) := by rw [← Int.natCast_add]; exact i64n (by omega)
          have e2 : IntKind.i64.wrap ((j : Int) + 1) = ((j + 1 : Nat) : Int) := by rw [← Int.natCast_succ]; exact i64n (by omega)
          have b1 := bitV_01 xs (a + j)
          have b2 := getN_range xs a j
          have b3 := pow2_le (show j ≤ 63 by omega)
          have b4 : (2 : Int) ^ 63 = 9223372036854775808 := rfl
          have e3 : IntKind.u64.wrap (getN xs a j * 2) = 2 * getN xs a j := by rw [Int.mul_comm]; exact u64n (by omega) (by omega)
          rw [aIterK, M18_5, aIf_pos (decide_eq_true (by omega)), e1, R56_is hu hL (by omega), shOK_ret, has_int, inK_u64, decide_eq_true (show 0 ≤ bitV xs (a + j) by omega), decide_eq_true (show bitV xs (a + j) ≤ 18446744073709551615 by omega), Bool.and_self, aIf_true, e2, e3]
          have e4 : (sel (some (AEnd.ret (AV.int IntKind.u64 (bitV xs (a + j))), [])) []).toInt = bitV xs (a + j) := rfl
          rw [e4, or1 b2.1 (by omega) b1.1 b1.2, u64n (by omega) (by omega)]
          exact hm k
      exact (main n 0 (by omega)).imp fun m hm k => (hm k).symm
    · exact .inl fun k => by rw [aIf_neg hp]
  · exact .inl fun k => rfl)
theorem C18_loops : ∀ c, Try.f18.body = some c → LoopsOK C18 c := LoopsOK.of 1 (by kernel_rfl) (fun j hj S hS => by
  match j, hj with
  | 0, _ => rw [C18_l0] at hS; cases hS; exact L18_5_ok
  | n + 1, hj => omega)
noncomputable def S18 : FSpec := inlineK C18 Try.f18
theorem S18_ok : SpecOK Try.prog 18 S18 := inlineK_ok C18_ok Try.func18 C18_loops
theorem En18 : Enters Try.prog 18 := ⟨_, Try.func18, by decide, rfl⟩
noncomputable def R18 (args : List AV) : Res := S18 args [] encK
noncomputable def V18 : FSpec := leafK (.tup [.int .u64, .int .i64]) R18
theorem V18_ok : SpecOK Try.prog 18 V18 := leafK_ok S18_ok (fun _ => rfl)
theorem N18 (xs : List AV) (fl : SF) (a n : Int) : S18 [.fs 1 xs fl, .int .i64 a, .int .i64 n] [] encK =
  aIf (decide (n > 64)) (some (AEnd.ret (AV.tup [AV.int IntKind.u64 0, AV.int IntKind.i64 30]), []))
  (aIf (shOK Sh.bool (R52 [AV.fs 1 xs fl, AV.int IntKind.i64 a, AV.int IntKind.i64 n]))
    (aIf (!(sel (R52 [AV.fs 1 xs fl, AV.int IntKind.i64 a, AV.int IntKind.i64 n]) []).toBool)
      (some (AEnd.ret (AV.tup [AV.int IntKind.u64 0, AV.int IntKind.i64 30]), []))
      (aIf (Pl.getG xs a 0 n 0)
        (some (AEnd.ret (AV.tup [AV.int IntKind.u64 (Pl.getN xs a.toNat n.toNat), AV.int IntKind.i64 0]), [])) none))
    none) := by kernel_rfl
theorem R18_is {xs : List AV} {fl : SF} {a n : Int} (hu : intsB .u8 xs = true) (hL : xs.length ≤ 1000000) : R18 [.fs 1 xs fl, .int .i64 a, .int .i64 n] = some (.ret (.tup [.int .u64 (getX xs a n), .int .i64 (getE xs.length a n)]), []) := by
  show S18 _ [] encK = _
  rw [N18, R52_is hL, shOK_ret, has_bool, aIf_true]
  unfold getX getE
  by_cases h1 : n > 64
  · rw [decide_eq_true h1]; rfl
  · rw [decide_eq_false h1, aIf_false]
    cases h2 : thereB xs.length a n
    · rfl
    · rw [getG_ok hu hL h1 h2]; rfl

/-- ferryman/ferrymanlaw03.alive -/
noncomputable def T17 : List (FuncId × FSpec) := [(16, V16), (18, V18)]
theorem T17_ok : TabOK Try.prog T17 := TabOK.cons En16 V16_ok (TabOK.cons En18 V18_ok (TabOK.nil _))
noncomputable def C17 : Ctx := (ctx E T17 [] [(0, []), (1, [1, 2]), (2, [1, 2, 3, 4]), (3, [0])] [] 30 70)
theorem C17_ok : CtxOK Try.prog C17 := ctx_ok E_ok E_flds mixed T17_ok
noncomputable def B17 : FSpec := inlineK C17 Try.f17
noncomputable def S17 : FSpec := constK (AV.bool true)
theorem B17_ok : SpecOK Try.prog 17 B17 := inlineK_ok C17_ok Try.func17 (fun _ _ => LoopsOK.none _)
theorem B17_is (k : KE) : B17 [] [] k = k (.ret (AV.bool true)) [] := by kernel_rfl
theorem S17_ok : SpecOK Try.prog 17 S17 := constK_ok B17_ok B17_is
theorem En17 : Enters Try.prog 17 := ⟨_, Try.func17, by decide, rfl⟩

/-- ferryman/field.Lead -/
noncomputable def T30 : List (FuncId × FSpec) := [(56, V56)]
theorem T30_ok : TabOK Try.prog T30 := TabOK.cons En56 V56_ok (TabOK.nil _)
noncomputable def L30_7 : ATs → AH → KC → Res := fun ts H k => match ts, H with
  | [(0, .fs 1 xs fl), (1, .fs 1 ys gl), (7, .int .i64 j)], [] => aIf (leadG xs ys j) (k (.exit 2) [(0, .fs 1 xs fl), (1, .fs 1 ys gl), (7, .int .i64 (leadF xs ys (8 * min xs.length ys.length - j.toNat) j.toNat : Int)), (34, .bool false)] []) none
  | _, _ => none
noncomputable def L30_3 : ATs → AH → KC → Res := fun ts H k => match ts, H with
  | [(0, .fs 1 xs fl), (1, .fs 1 ys gl), (5, .int .i64 n), (13, .int .i64 i), (14, .int .i64 j)], [] => aIf (leadsG xs ys n i j) (aIf (leadV xs ys == 8 * min xs.length ys.length) (k (.exit 0) [(0, .fs 1 xs fl), (1, .fs 1 ys gl), (5, .int .i64 n), (13, .int .i64 i), (14, .int .i64 i), (15, .bool false)] []) (k .ret [(4, .int .i64 (leadV xs ys : Int))] [])) none
  | _, _ => none
noncomputable def C30 : Ctx := (ctx E T30 [(7, L30_7), (3, L30_3)] [(0, [0, 1]), (1, [0, 1, 5]), (2, [0, 1, 5, 13, 14]), (3, [0, 1, 5, 13, 14, 15]), (4, [0, 1, 5, 6, 13, 14]), (5, [0, 1, 5, 6, 13, 14, 25]), (6, [0, 1, 7]), (7, [0, 1, 7, 34]), (8, [0, 1, 7]), (9, [4]), (10, [0, 1, 5, 13, 14]), (11, [4]), (1000003, [0, 1, 5, 13, 14]), (1000007, [0, 1, 7])] [] 41 70)
theorem C30_ok : CtxOK Try.prog C30 := ctx_ok E_ok E_flds mixed T30_ok
theorem C30_l0 : C30.loop (loopId (loopB Try.f30 0)) = some L30_3 := by kernel_rfl
theorem C30_l1 : C30.loop (loopId (loopB Try.f30 1)) = some L30_7 := by kernel_rfl
theorem L30_7_in : LoopsOK C30 (loopB Try.f30 1) := LoopsOK.within 0 (by kernel_rfl) (fun j hj S hS => by
  omega)
theorem M30_7a (xs : List AV) (fl : SF) (ys : List AV) (gl : SF) (j : Int) (k : KC) : headedK C30 (loopB Try.f30 1) [(0, .fs 1 xs fl), (1, .fs 1 ys gl), (7, .int .i64 j)] [] k =
  aIf (shOK (Sh.int IntKind.u64) (R56 [AV.fs 1 xs fl, AV.int IntKind.i64 j]))
  (aIf (shOK (Sh.int IntKind.u64) (R56 [AV.fs 1 ys gl, AV.int IntKind.i64 j]))
    (aIf
      ((sel (R56 [AV.fs 1 xs fl, AV.int IntKind.i64 j]) []).toInt ==
        (sel (R56 [AV.fs 1 ys gl, AV.int IntKind.i64 j]) []).toInt)
      (k AExit.normal [(0, AV.fs 1 xs fl), (1, AV.fs 1 ys gl), (7, AV.int IntKind.i64 (IntKind.i64.wrap (j + 1)))] [])
      (k (AExit.exit 2)
        [(0, AV.fs 1 xs fl), (1, AV.fs 1 ys gl), (7, AV.int IntKind.i64 j),
          (34,
            AV.bool
              ((sel (R56 [AV.fs 1 xs fl, AV.int IntKind.i64 j]) []).toInt ==
                (sel (R56 [AV.fs 1 ys gl, AV.int IntKind.i64 j]) []).toInt))]
        []))
    none)
  none := by kernel_rfl
theorem L30_7_ok : LoopSum C30 (loopB Try.f30 1) L30_7 := LoopSum.of C30_ok L30_7_in (fun ts H => by
  unfold L30_7
  split
  · rename_i xs fl ys gl j
    rcases Bool.eq_false_or_eq_true (leadG xs ys j) with hp | hp
    · refine .inr ?_
      simp only [aIf_pos hp]
      obtain ⟨hu, hv, hL, hM, hj, hlt⟩ := leadG_of hp
      obtain ⟨j, rfl⟩ := Int.eq_ofNat_of_zero_le hj
      rw [Int.toNat_natCast] at hlt ⊢
      have main : ∀ d j : Nat, j + d = 8 * min xs.length ys.length → leadF xs ys d j < 8 * min xs.length ys.length → ∃ m, ∀ k, aIterK m (headedK C30 (loopB Try.f30 1)) [(0, .fs 1 xs fl), (1, .fs 1 ys gl), (7, .int .i64 (j : Int))] [] k =
          k (.exit 2) [(0, .fs 1 xs fl), (1, .fs 1 ys gl), (7, .int .i64 (leadF xs ys d j : Int)), (34, .bool false)] [] := by
        intro d
        induction d with
        | zero => intro j hj hlt; simp only [leadF] at hlt; omega
        | succ d ih =>
          intro j hj hlt
          have b1 := bitV_01 xs j
          have b2 := bitV_01 ys j
          have s1 : (sel (some (AEnd.ret (AV.int IntKind.u64 (bitV xs j)), [])) []).toInt = bitV xs j := rfl
          have s2 : (sel (some (AEnd.ret (AV.int IntKind.u64 (bitV ys j)), [])) []).toInt = bitV ys j := rfl
          by_cases h : bitV xs j = bitV ys j
          · simp only [leadF, if_pos h] at hlt ⊢
            obtain ⟨m, hm⟩ := ih (j + 1) (by omega) hlt
            refine ⟨m + 1, fun k => ?_⟩
            rw [aIterK, M30_7a, R56_is hu hL (by omega), R56_is hv hM (by omega), bit_shape b1, bit_shape b2, s1, s2, h, beq_self_eq_true, aIf_true, aIf_true, aIf_true, i64s (by omega)]
            exact hm k
          · simp only [leadF, if_neg h]
            refine ⟨1, fun k => ?_⟩
            rw [aIterK, M30_7a, R56_is hu hL (by omega), R56_is hv hM (by omega), bit_shape b1, bit_shape b2, s1, s2, show (bitV xs j == bitV ys j) = false from beq_eq_false_iff_ne.2 h, aIf_true, aIf_true, aIf_false]
      exact (main (8 * min xs.length ys.length - j) j (by have := leadF_range xs ys (8 * min xs.length ys.length - j) j; omega) hlt).imp fun m hm k => (hm k).symm
    · exact .inl fun k => by rw [aIf_neg hp]
  · exact .inl fun k => rfl)
theorem L30_3_in : LoopsOK C30 (loopB Try.f30 0) := LoopsOK.within 1 (by kernel_rfl) (fun j hj S hS => by
  match j, hj with
  | 0, _ =>
    have e : C30.loop (loopId ((loopsOf (loopB Try.f30 0)).getD 0 .skip)) = some L30_7 := by kernel_rfl
    rw [e] at hS; cases hS; exact (show loopB Try.f30 1 = (loopsOf (loopB Try.f30 0)).getD 0 .skip by kernel_rfl) ▸ L30_7_ok
  | n + 1, hj => omega)
theorem M30_3a (xs : List AV) (fl : SF) (ys : List AV) (gl : SF) (n i j : Int) (k : KC) : headedK C30 (loopB Try.f30 0) [(0, .fs 1 xs fl), (1, .fs 1 ys gl), (5, .int .i64 n), (13, .int .i64 i), (14, .int .i64 j)] [] k =
  aIf (decide (j < i))
  (aIf (decide (0 ≤ j))
    (aIf (decide (j < (↑xs.length : Int)))
      (aIf ((xs.getD j.toNat AV.junk).cells.length == 1)
        (aIf (([(xs.getD j.toNat AV.junk).cells.getD 0 AV.junk].getD 0 AV.junk).isInt IntKind.u8)
          (aIf (decide (0 ≤ j))
            (aIf (decide (j < (↑ys.length : Int)))
              (aIf ((ys.getD j.toNat AV.junk).cells.length == 1)
                (aIf (([(ys.getD j.toNat AV.junk).cells.getD 0 AV.junk].getD 0 AV.junk).isInt IntKind.u8)
                  (aIf
                    (([(xs.getD j.toNat AV.junk).cells.getD 0 AV.junk].getD 0 AV.junk).toInt ==
                      ([(ys.getD j.toNat AV.junk).cells.getD 0 AV.junk].getD 0 AV.junk).toInt)
                    (k AExit.normal
                      [(0, AV.fs 1 xs fl), (1, AV.fs 1 ys gl), (5, AV.int IntKind.i64 n), (13, AV.int IntKind.i64 i),
                        (14, AV.int IntKind.i64 (IntKind.i64.wrap (j + 1)))]
                      [])
                    (aIf (Pl.leadG xs ys (IntKind.i64.wrap (8 * j)))
                      (k AExit.ret
                        [(4,
                            AV.int IntKind.i64
                              (↑(Pl.leadF xs ys (8 * min xs.length ys.length - (IntKind.i64.wrap (8 * j)).toNat)
                                    (IntKind.i64.wrap (8 * j)).toNat) :
                                Int))]
                        [])
                      none))
                  none)
                none)
              none)
            none)
          none)
        none)
      none)
    none)
  (k (AExit.exit 0)
    [(0, AV.fs 1 xs fl), (1, AV.fs 1 ys gl), (5, AV.int IntKind.i64 n), (13, AV.int IntKind.i64 i),
      (14, AV.int IntKind.i64 j), (15, AV.bool (decide (j < i)))]
    []) := by kernel_rfl
theorem L30_3_ok : LoopSum C30 (loopB Try.f30 0) L30_3 := LoopSum.of C30_ok L30_3_in (fun ts H => by
  unfold L30_3
  split
  · rename_i xs fl ys gl n i j
    rcases Bool.eq_false_or_eq_true (leadsG xs ys n i j) with hp | hp
    · refine .inr ?_
      simp only [aIf_pos hp]
      obtain ⟨hu, hv, hL, hM, rfl, rfl, rfl⟩ := leadsG_of hp
      generalize hm : min xs.length ys.length = m
      have main : ∀ d j : Nat, j + d = m → leadV xs ys = leadF xs ys (8 * m - 8 * j) (8 * j) → ∃ q, ∀ k, aIterK q (headedK C30 (loopB Try.f30 0)) [(0, .fs 1 xs fl), (1, .fs 1 ys gl), (5, .int .i64 (m : Int)), (13, .int .i64 (m : Int)), (14, .int .i64 (j : Int))] [] k =
          aIf (leadV xs ys == 8 * m) (k (.exit 0) [(0, .fs 1 xs fl), (1, .fs 1 ys gl), (5, .int .i64 (m : Int)), (13, .int .i64 (m : Int)), (14, .int .i64 (m : Int)), (15, .bool false)] []) (k .ret [(4, .int .i64 (leadV xs ys : Int))] []) := by
        intro d
        induction d with
        | zero =>
          intro j hj hl
          obtain rfl : j = m := by omega
          refine ⟨1, fun k => ?_⟩
          rw [Nat.sub_self] at hl
          simp only [leadF] at hl
          rw [aIterK, M30_3a, dltf, aIf_false, aIf_pos (b := leadV xs ys == 8 * j) (by rw [hl]; exact beq_self_eq_true _)]
        | succ d ih =>
          intro j hj hl
          have hjx : j < xs.length := by omega
          have hjy : j < ys.length := by omega
          obtain ⟨a, ha, ea⟩ := u8_get hu j hjx
          obtain ⟨b, hb, eb⟩ := u8_get hv j hjy
          have e8 : IntKind.i64.wrap (8 * (j : Int)) = ((8 * j : Nat) : Int) := by rw [show 8 * (j : Int) = ((8 * j : Nat) : Int) by omega]; exact i64n (by omega)
          have common : ∀ X Y : Res, aIf (decide ((j : Int) < (m : Int))) (aIf (decide (0 ≤ (j : Int))) (aIf (decide ((j : Int) < (xs.length : Int))) (aIf ((xs.getD (j : Int).toNat .junk).cells.length == 1) (aIf (([(xs.getD (j : Int).toNat .junk).cells.getD 0 .junk].getD 0 .junk).isInt .u8)
              (aIf (decide (0 ≤ (j : Int))) (aIf (decide ((j : Int) < (ys.length : Int))) (aIf ((ys.getD (j : Int).toNat .junk).cells.length == 1) (aIf (([(ys.getD (j : Int).toNat .junk).cells.getD 0 .junk].getD 0 .junk).isInt .u8)
                (aIf (([(xs.getD (j : Int).toNat .junk).cells.getD 0 .junk].getD 0 .junk).toInt == ([(ys.getD (j : Int).toNat .junk).cells.getD 0 .junk].getD 0 .junk).toInt) X Y) none) none) none) none) none) none) none) none) none = aIf ((a : Int) == (b : Int)) X Y := by
            intro X Y
            rw [Int.toNat_natCast, ea, eb]
            simp only [dlt (show j < m by omega), dlt hjx, dlt hjy, dnn', AV.cells, List.length_singleton, List.getD_cons_zero, isInt_self, AV.toInt, beq_self_eq_true, aIf_true]
          by_cases h : a = b
          · subst h
            obtain ⟨q, hq⟩ := ih (j + 1) (by omega) (by rw [hl]; exact lead_go (by omega) (by rw [ea, eb]))
            refine ⟨q + 1, fun k => ?_⟩
            rw [← hq k]
            have hc := common (aIterK q (headedK C30 (loopB Try.f30 0)) [(0, .fs 1 xs fl), (1, .fs 1 ys gl), (5, .int .i64 (m : Int)), (13, .int .i64 (m : Int)), (14, .int .i64 ((j + 1 : Nat) : Int))] [] k)
            rw [beq_self_eq_true] at hc
            rw [aIterK, M30_3a, i64s (by omega), aIf_pos (dlt (show j < m by omega))]
            have hc2 := hc (aIf (Pl.leadG xs ys (IntKind.i64.wrap (8 * (j : Int)))) (k AExit.ret [(4, AV.int IntKind.i64 (Pl.leadF xs ys (8 * min xs.length ys.length - (IntKind.i64.wrap (8 * (j : Int))).toNat) (IntKind.i64.wrap (8 * (j : Int))).toNat : Int))] []) none)
            rw [aIf_pos (dlt (show j < m by omega))] at hc2
            exact hc2
          · have hne : xs.getD j .junk ≠ ys.getD j .junk := by
              rw [ea, eb]
              intro he
              simp only [AV.int.injEq, true_and] at he
              exact h (by omega)
            have hlt := lead_lt hu hv (by omega) hne
            rw [hm] at hlt
            refine ⟨1, fun k => ?_⟩
            rw [aIf_neg (b := leadV xs ys == 8 * m) (by rw [hl]; exact beq_eq_false_iff_ne.2 (by omega))]
            have hg := leadG_ok (j := 8 * j) hu hv hL hM (by rw [hm]; exact hlt)
            rw [aIterK, M30_3a, aIf_pos (dlt (show j < m by omega)), e8, hg, aIf_true, Int.toNat_natCast (8 * j), hm, ← hl]
            have hc2 := common (aIterK 0 (headedK C30 (loopB Try.f30 0)) [(0, .fs 1 xs fl), (1, .fs 1 ys gl), (5, .int .i64 (m : Int)), (13, .int .i64 (m : Int)), (14, .int .i64 (IntKind.i64.wrap ((j : Int) + 1)))] [] k) (k .ret [(4, .int .i64 (leadV xs ys : Int))] [])
            rw [aIf_pos (dlt (show j < m by omega)), show ((a : Int) == (b : Int)) = false from beq_eq_false_iff_ne.2 (by omega)] at hc2
            exact hc2
      exact (main m 0 (by omega) (by unfold leadV; rw [hm]; rfl)).imp fun q hq k => (hq k).symm
    · exact .inl fun k => by rw [aIf_neg hp]
  · exact .inl fun k => rfl)
theorem C30_loops : ∀ c, Try.f30.body = some c → LoopsOK C30 c := LoopsOK.of 2 (by kernel_rfl) (fun j hj S hS => by
  match j, hj with
  | 0, _ => rw [C30_l0] at hS; cases hS; exact L30_3_ok
  | 1, _ => rw [C30_l1] at hS; cases hS; exact L30_7_ok
  | n + 2, hj => omega)
noncomputable def S30 : FSpec := inlineK C30 Try.f30
theorem S30_ok : SpecOK Try.prog 30 S30 := inlineK_ok C30_ok Try.func30 C30_loops
theorem En30 : Enters Try.prog 30 := ⟨_, Try.func30, by decide, rfl⟩
noncomputable def R30 (args : List AV) : Res := S30 args [] encK
noncomputable def V30 : FSpec := leafK (.int .i64) R30
theorem V30_ok : SpecOK Try.prog 30 V30 := leafK_ok S30_ok (fun _ => rfl)
theorem N30 (xs : List AV) (fl : SF) (ys : List AV) (gl : SF) : S30 [.fs 1 xs fl, .fs 1 ys gl] [] encK =
  aIf
  (Pl.leadsG xs ys (if (↑ys.length : Int) < (↑xs.length : Int) then (↑ys.length : Int) else (↑xs.length : Int))
    (if (↑ys.length : Int) < (↑xs.length : Int) then (↑ys.length : Int) else (↑xs.length : Int)) 0)
  (aIf (Pl.leadV xs ys == 8 * min xs.length ys.length)
    (some
      (AEnd.ret
          (AV.int IntKind.i64
            (IntKind.i64.wrap
              (8 * if (↑ys.length : Int) < (↑xs.length : Int) then (↑ys.length : Int) else (↑xs.length : Int)))),
        []))
    (some (AEnd.ret (AV.int IntKind.i64 (↑(Pl.leadV xs ys) : Int)), [])))
  none := by kernel_rfl
theorem R30_is {xs : List AV} {fl : SF} {ys : List AV} {gl : SF} (hu : intsB .u8 xs = true) (hL : xs.length ≤ 1000000) (hv : intsB .u8 ys = true) (hM : ys.length ≤ 1000000) : R30 [.fs 1 xs fl, .fs 1 ys gl] = some (.ret (.int .i64 (leadV xs ys : Int)), []) := by
  show S30 _ [] encK = _
  have e : (if (ys.length : Int) < (xs.length : Int) then (ys.length : Int) else (xs.length : Int)) = ((min xs.length ys.length : Nat) : Int) := by split <;> omega
  have hm : min xs.length ys.length ≤ 1000000 := by omega
  rw [N30, e, wrap8 hm]
  have hg : leadsG xs ys ((min xs.length ys.length : Nat) : Int) ((min xs.length ys.length : Nat) : Int) 0 = true := by
    simp only [leadsG, Bool.and_eq_true, decide_eq_true_eq, beq_iff_eq]
    exact ⟨⟨⟨⟨⟨⟨hu, hv⟩, hL⟩, hM⟩, trivial⟩, trivial⟩, trivial⟩
  rw [hg, aIf_true]
  cases h : leadV xs ys == 8 * min xs.length ys.length
  · rfl
  · rw [aIf_true]
    have : leadV xs ys = 8 * min xs.length ys.length := by simpa using h
    rw [this]

/-- ferryman/field.Same -/
noncomputable def T26 : List (FuncId × FSpec) := [(30, V30), (52, V52)]
theorem T26_ok : TabOK Try.prog T26 := TabOK.cons En30 V30_ok (TabOK.cons En52 V52_ok (TabOK.nil _))
noncomputable def C26 : Ctx := (ctx E T26 [] [(0, [0, 1, 2]), (1, [0, 1, 2, 17]), (2, [6, 7]), (3, [6, 7])] [] 23 70)
theorem C26_ok : CtxOK Try.prog C26 := ctx_ok E_ok E_flds mixed T26_ok
noncomputable def S26 : FSpec := inlineK C26 Try.f26
theorem S26_ok : SpecOK Try.prog 26 S26 := inlineK_ok C26_ok Try.func26 (fun _ _ => LoopsOK.none _)
theorem En26 : Enters Try.prog 26 := ⟨_, Try.func26, by decide, rfl⟩
noncomputable def R26 (args : List AV) : Res := S26 args [] encK
noncomputable def V26 : FSpec := leafK (.tup [.bool, .int .i64]) R26
theorem V26_ok : SpecOK Try.prog 26 V26 := leafK_ok S26_ok (fun _ => rfl)
theorem N26 (xs : List AV) (fl : SF) (ys : List AV) (gl : SF) (n : Int) : S26 [.fs 1 xs fl, .fs 1 ys gl, .int .i64 n] [] encK =
  aIf (shOK Sh.bool (R52 [AV.fs 1 xs fl, AV.int IntKind.i64 0, AV.int IntKind.i64 n]))
  (aIf (!(sel (R52 [AV.fs 1 xs fl, AV.int IntKind.i64 0, AV.int IntKind.i64 n]) []).toBool)
    (some (AEnd.ret (AV.tup [AV.bool false, AV.int IntKind.i64 30]), []))
    (aIf (shOK Sh.bool (R52 [AV.fs 1 ys gl, AV.int IntKind.i64 0, AV.int IntKind.i64 n]))
      (aIf (!(sel (R52 [AV.fs 1 ys gl, AV.int IntKind.i64 0, AV.int IntKind.i64 n]) []).toBool)
        (some (AEnd.ret (AV.tup [AV.bool false, AV.int IntKind.i64 30]), []))
        (aIf (shOK (Sh.int IntKind.i64) (R30 [AV.fs 1 xs fl, AV.fs 1 ys gl]))
          (some
            (AEnd.ret
                (AV.tup
                  [AV.bool (decide ((sel (R30 [AV.fs 1 xs fl, AV.fs 1 ys gl]) []).toInt ≥ n)), AV.int IntKind.i64 0]),
              []))
          none))
      none))
  none := by kernel_rfl
theorem R26_is {xs : List AV} {fl : SF} {ys : List AV} {gl : SF} (hu : intsB .u8 xs = true) (hL : xs.length ≤ 1000000) (hv : intsB .u8 ys = true) (hM : ys.length ≤ 1000000) {n : Int} : R26 [.fs 1 xs fl, .fs 1 ys gl, .int .i64 n] = some (.ret (.tup [.bool (sameX xs ys n), .int .i64 (sameE xs.length ys.length n)]), []) := by
  show S26 _ [] encK = _
  have hk : shOK (.int .i64) (some (.ret (.int .i64 (leadV xs ys : Int)), [])) = true := by
    have := leadV_le xs ys
    rw [shOK_ret, has_int, inK_i64, decide_eq_true (show (-9223372036854775808 : Int) ≤ (leadV xs ys : Int) by omega), decide_eq_true (show (leadV xs ys : Int) ≤ 9223372036854775807 by omega)]; rfl
  rw [N26, R52_is hL, R52_is hM, R30_is hu hL hv hM, shOK_ret, has_bool, aIf_true, hk]
  unfold sameX sameE
  cases h1 : thereB xs.length 0 n
  · rfl
  cases h2 : thereB ys.length 0 n
  · rfl
  · rfl

/-- ferryman/ferrymanref03.Bit -/
noncomputable def T19 : List (FuncId × FSpec) := []
theorem T19_ok : TabOK Try.prog T19 := TabOK.nil _
noncomputable def C19 : Ctx := (ctx E T19 [] [(0, [0, 1]), (1, [4])] [] 16 70)
theorem C19_ok : CtxOK Try.prog C19 := ctx_ok E_ok E_flds mixed T19_ok
noncomputable def S19 : FSpec := inlineK C19 Try.f19
theorem S19_ok : SpecOK Try.prog 19 S19 := inlineK_ok C19_ok Try.func19 (fun _ _ => LoopsOK.none _)
theorem En19 : Enters Try.prog 19 := ⟨_, Try.func19, by decide, rfl⟩
noncomputable def R19 (args : List AV) : Res := S19 args [] encK
noncomputable def V19 : FSpec := leafK (.int .u64) R19
theorem V19_ok : SpecOK Try.prog 19 V19 := leafK_ok S19_ok (fun _ => rfl)
theorem N19 (xs : List AV) (fl : SF) (i : Int) : S19 [.fs 1 xs fl, .int .i64 i] [] encK =
  aIf (decide (0 ≤ IntKind.i64.wrap (i.tdiv 8)))
  (aIf (decide (IntKind.i64.wrap (i.tdiv 8) < (↑xs.length : Int)))
    (aIf ((xs.getD (IntKind.i64.wrap (i.tdiv 8)).toNat AV.junk).cells.length == 1)
      (aIf
        (([(xs.getD (IntKind.i64.wrap (i.tdiv 8)).toNat AV.junk).cells.getD 0 AV.junk].getD 0 AV.junk).isInt IntKind.u8)
        (aIf (decide (IntKind.i64.wrap (7 - i.tmod 8) < 0)) none
          (some
            (AEnd.ret
                (AV.int IntKind.u64
                  ((IntKind.u64.wrap
                        (([(xs.getD (IntKind.i64.wrap (i.tdiv 8)).toNat AV.junk).cells.getD 0 AV.junk].getD 0
                                AV.junk).toInt.fdiv
                          (2 ^ min (IntKind.i64.wrap (7 - i.tmod 8)).toNat 8))).tmod
                    2)),
              [])))
        none)
      none)
    none)
  none := by kernel_rfl
theorem R19_is {xs : List AV} {fl : SF} {j : Nat} (hu : intsB .u8 xs = true) (hL : xs.length ≤ 1000000) (hj : j < 8 * xs.length) : R19 [.fs 1 xs fl, .int .i64 (j : Int)] = some (.ret (.int .u64 (bitV xs j)), []) := by
  show S19 _ [] encK = _
  obtain ⟨x, hx, he⟩ := u8_get hu (j / 8) (by omega)
  have e1 : IntKind.i64.wrap ((j : Int).tdiv 8) = ((j / 8 : Nat) : Int) := div8 (by omega)
  have e2 := sh7 j
  have e3 : min (7 - j % 8) 8 = 7 - j % 8 := by omega
  have e4 : decide (((j / 8 : Nat) : Int) < (xs.length : Int)) = true := decide_eq_true (by omega)
  have r := shr_byte hx (7 - j % 8)
  have e6 : IntKind.u64.wrap ((x : Int) / 2 ^ (7 - j % 8)) = (x : Int) / 2 ^ (7 - j % 8) := u64n (by omega) (by omega)
  rw [N19]
  simp only [e1, e2, e3, e4, dnn, dnn', Int.toNat_natCast, he, AV.cells, List.length_singleton, List.getD_cons_zero, isInt_self, beq_self_eq_true, aIf_true, aIf_false, AV.toInt, shr_eq, e6, Int.tmod_eq_emod_of_nonneg r.1, bitV]

/-- ferryman/ferrymanref03.Lead -/
noncomputable def T31 : List (FuncId × FSpec) := [(19, V19)]
theorem T31_ok : TabOK Try.prog T31 := TabOK.cons En19 V19_ok (TabOK.nil _)
noncomputable def L31_2 : ATs → AH → KC → Res := fun ts H k => match ts, H with
  | [(0, .fs 1 xs fl), (1, .fs 1 ys gl), (5, .int .i64 j)], [] => aIf (intsB .u8 xs && intsB .u8 ys && decide (xs.length ≤ 1000000) && decide (ys.length ≤ 1000000) && j == 0) (k (.exit 0) [(0, .fs 1 xs fl), (1, .fs 1 ys gl), (5, .int .i64 (leadV xs ys : Int)), (26, .bool false)] []) none
  | _, _ => none
noncomputable def C31 : Ctx := (ctx E T31 [(2, L31_2)] [(0, [0, 1]), (1, [0, 1, 5]), (2, [0, 1, 5, 26]), (3, [0, 1, 5]), (4, [4]), (1000002, [0, 1, 5])] [] 30 70)
theorem C31_ok : CtxOK Try.prog C31 := ctx_ok E_ok E_flds mixed T31_ok
theorem C31_l0 : C31.loop (loopId (loopB Try.f31 0)) = some L31_2 := by kernel_rfl
theorem L31_2_in : LoopsOK C31 (loopB Try.f31 0) := LoopsOK.within 0 (by kernel_rfl) (fun j hj S hS => by
  omega)
theorem M31_2a (xs : List AV) (fl : SF) (ys : List AV) (gl : SF) (j : Int) (k : KC) : headedK C31 (loopB Try.f31 0) [(0, .fs 1 xs fl), (1, .fs 1 ys gl), (5, .int .i64 j)] [] k =
  aIf (decide (j < IntKind.i64.wrap (8 * (↑xs.length : Int))))
  (aIf (decide (j < IntKind.i64.wrap (8 * (↑ys.length : Int))))
    (aIf (shOK (Sh.int IntKind.u64) (R19 [AV.fs 1 xs fl, AV.int IntKind.i64 j]))
      (aIf (shOK (Sh.int IntKind.u64) (R19 [AV.fs 1 ys gl, AV.int IntKind.i64 j]))
        (aIf
          ((sel (R19 [AV.fs 1 xs fl, AV.int IntKind.i64 j]) []).toInt ==
            (sel (R19 [AV.fs 1 ys gl, AV.int IntKind.i64 j]) []).toInt)
          (k AExit.normal [(0, AV.fs 1 xs fl), (1, AV.fs 1 ys gl), (5, AV.int IntKind.i64 (IntKind.i64.wrap (j + 1)))]
            [])
          (k (AExit.exit 0)
            [(0, AV.fs 1 xs fl), (1, AV.fs 1 ys gl), (5, AV.int IntKind.i64 j),
              (26,
                AV.bool
                  ((sel (R19 [AV.fs 1 xs fl, AV.int IntKind.i64 j]) []).toInt ==
                    (sel (R19 [AV.fs 1 ys gl, AV.int IntKind.i64 j]) []).toInt))]
            []))
        none)
      none)
    (k (AExit.exit 0) [(0, AV.fs 1 xs fl), (1, AV.fs 1 ys gl), (5, AV.int IntKind.i64 j), (26, AV.bool false)] []))
  (k (AExit.exit 0) [(0, AV.fs 1 xs fl), (1, AV.fs 1 ys gl), (5, AV.int IntKind.i64 j), (26, AV.bool false)] []) := by kernel_rfl
theorem L31_2_ok : LoopSum C31 (loopB Try.f31 0) L31_2 := LoopSum.of C31_ok L31_2_in (fun ts H => by
  unfold L31_2
  split
  · rename_i xs fl ys gl j
    rcases Bool.eq_false_or_eq_true (intsB .u8 xs && intsB .u8 ys && decide (xs.length ≤ 1000000) && decide (ys.length ≤ 1000000) && j == 0) with hp | hp
    · refine .inr ?_
      simp only [aIf_pos hp]
      simp only [Bool.and_eq_true, beq_iff_eq, decide_eq_true_eq] at hp
      obtain ⟨⟨⟨⟨hu, hv⟩, hL⟩, hM⟩, rfl⟩ := hp
      have main : ∀ d j : Nat, j + d = 8 * min xs.length ys.length → ∃ m, ∀ k, aIterK m (headedK C31 (loopB Try.f31 0)) [(0, .fs 1 xs fl), (1, .fs 1 ys gl), (5, .int .i64 (j : Int))] [] k =
          k (.exit 0) [(0, .fs 1 xs fl), (1, .fs 1 ys gl), (5, .int .i64 (leadF xs ys d j : Int)), (26, .bool false)] [] := by
        intro d
        induction d with
        | zero =>
          intro j hj
          refine ⟨1, fun k => ?_⟩
          rw [aIterK, M31_2a, wrap8 hL, wrap8 hM]
          by_cases h : xs.length ≤ ys.length
          · rw [aIf_neg (decide_eq_false (by omega))]; rfl
          · rw [aIf_pos (decide_eq_true (by omega)), aIf_neg (decide_eq_false (by omega))]; rfl
        | succ d ih =>
          intro j hj
          have b1 := bitV_01 xs j
          have b2 := bitV_01 ys j
          have s1 : (sel (some (AEnd.ret (AV.int IntKind.u64 (bitV xs j)), [])) []).toInt = bitV xs j := rfl
          have s2 : (sel (some (AEnd.ret (AV.int IntKind.u64 (bitV ys j)), [])) []).toInt = bitV ys j := rfl
          by_cases h : bitV xs j = bitV ys j
          · simp only [leadF, if_pos h]
            obtain ⟨m, hm⟩ := ih (j + 1) (by omega)
            refine ⟨m + 1, fun k => ?_⟩
            rw [aIterK, M31_2a, wrap8 hL, wrap8 hM, aIf_pos (dlt (by omega)), aIf_pos (dlt (by omega)), R19_is hu hL (by omega), R19_is hv hM (by omega), bit_shape b1, bit_shape b2, s1, s2, h, beq_self_eq_true, aIf_true, aIf_true, aIf_true, i64s (by omega)]
            exact hm k
          · simp only [leadF, if_neg h]
            refine ⟨1, fun k => ?_⟩
            rw [aIterK, M31_2a, wrap8 hL, wrap8 hM, aIf_pos (dlt (by omega)), aIf_pos (dlt (by omega)), R19_is hu hL (by omega), R19_is hv hM (by omega), bit_shape b1, bit_shape b2, s1, s2, show (bitV xs j == bitV ys j) = false from beq_eq_false_iff_ne.2 h, aIf_true, aIf_true, aIf_false]
      exact (main (8 * min xs.length ys.length) 0 (by omega)).imp fun m hm k => (hm k).symm
    · exact .inl fun k => by rw [aIf_neg hp]
  · exact .inl fun k => rfl)
theorem C31_loops : ∀ c, Try.f31.body = some c → LoopsOK C31 c := LoopsOK.of 1 (by kernel_rfl) (fun j hj S hS => by
  match j, hj with
  | 0, _ => rw [C31_l0] at hS; cases hS; exact L31_2_ok
  | n + 1, hj => omega)
noncomputable def S31 : FSpec := inlineK C31 Try.f31
theorem S31_ok : SpecOK Try.prog 31 S31 := inlineK_ok C31_ok Try.func31 C31_loops
theorem En31 : Enters Try.prog 31 := ⟨_, Try.func31, by decide, rfl⟩
noncomputable def R31 (args : List AV) : Res := S31 args [] encK
noncomputable def V31 : FSpec := leafK (.int .i64) R31
theorem V31_ok : SpecOK Try.prog 31 V31 := leafK_ok S31_ok (fun _ => rfl)
theorem N31 (xs : List AV) (fl : SF) (ys : List AV) (gl : SF) : S31 [.fs 1 xs fl, .fs 1 ys gl] [] encK =
  aIf (intsB IntKind.u8 xs && intsB IntKind.u8 ys && decide (xs.length ≤ 1000000) && decide (ys.length ≤ 1000000) && true)
  (some (AEnd.ret (AV.int IntKind.i64 (↑(Pl.leadV xs ys) : Int)), [])) none := by kernel_rfl
theorem R31_is {xs : List AV} {fl : SF} {ys : List AV} {gl : SF} (hu : intsB .u8 xs = true) (hL : xs.length ≤ 1000000) (hv : intsB .u8 ys = true) (hM : ys.length ≤ 1000000) : R31 [.fs 1 xs fl, .fs 1 ys gl] = some (.ret (.int .i64 (leadV xs ys : Int)), []) := by
  show S31 _ [] encK = _
  rw [N31, hu, hv, decide_eq_true hL, decide_eq_true hM]; rfl

/-- ferryman/ferrymanref03.there -/
noncomputable def T60 : List (FuncId × FSpec) := []
theorem T60_ok : TabOK Try.prog T60 := TabOK.nil _
noncomputable def C60 : Ctx := (ctx E T60 [] [(0, [0, 1, 2]), (1, [6])] [] 29 70)
theorem C60_ok : CtxOK Try.prog C60 := ctx_ok E_ok E_flds mixed T60_ok
noncomputable def S60 : FSpec := inlineK C60 Try.f60
theorem S60_ok : SpecOK Try.prog 60 S60 := inlineK_ok C60_ok Try.func60 (fun _ _ => LoopsOK.none _)
theorem En60 : Enters Try.prog 60 := ⟨_, Try.func60, by decide, rfl⟩
noncomputable def R60 (args : List AV) : Res := S60 args [] encK
noncomputable def V60 : FSpec := leafK (.bool) R60
theorem V60_ok : SpecOK Try.prog 60 V60 := leafK_ok S60_ok (fun _ => rfl)
theorem N60 (xs : List AV) (fl : SF) (a n : Int) : S60 [.fs 1 xs fl, .int .i64 a, .int .i64 n] [] encK =
  aIf (decide (a ≥ 0))
  (aIf (decide (n ≥ 0))
    (aIf (decide (n ≤ IntKind.i64.wrap (8 * (↑xs.length : Int))))
      (some (AEnd.ret (AV.bool (decide (a ≤ IntKind.i64.wrap (IntKind.i64.wrap (8 * (↑xs.length : Int)) - n)))), []))
      (some (AEnd.ret (AV.bool false), [])))
    (some (AEnd.ret (AV.bool false), [])))
  (some (AEnd.ret (AV.bool false), [])) := by kernel_rfl
theorem R60_is {xs : List AV} {fl : SF} {a n : Int} (hL : xs.length ≤ 1000000) : R60 [.fs 1 xs fl, .int .i64 a, .int .i64 n] = some (.ret (.bool (thereB xs.length a n)), []) := by
  show S60 _ [] encK = _
  rw [N60]
  exact there_law hL (fun b => some (.ret (.bool b), []))

/-- ferryman/ferrymanref03.Same -/
noncomputable def T27 : List (FuncId × FSpec) := [(31, V31), (60, V60)]
theorem T27_ok : TabOK Try.prog T27 := TabOK.cons En31 V31_ok (TabOK.cons En60 V60_ok (TabOK.nil _))
noncomputable def C27 : Ctx := (ctx E T27 [] [(0, [0, 1, 2]), (1, [0, 1, 2, 17]), (2, [6, 7]), (3, [6, 7])] [] 23 70)
theorem C27_ok : CtxOK Try.prog C27 := ctx_ok E_ok E_flds mixed T27_ok
noncomputable def S27 : FSpec := inlineK C27 Try.f27
theorem S27_ok : SpecOK Try.prog 27 S27 := inlineK_ok C27_ok Try.func27 (fun _ _ => LoopsOK.none _)
theorem En27 : Enters Try.prog 27 := ⟨_, Try.func27, by decide, rfl⟩
noncomputable def R27 (args : List AV) : Res := S27 args [] encK
noncomputable def V27 : FSpec := leafK (.tup [.bool, .int .i64]) R27
theorem V27_ok : SpecOK Try.prog 27 V27 := leafK_ok S27_ok (fun _ => rfl)
theorem N27 (xs : List AV) (fl : SF) (ys : List AV) (gl : SF) (n : Int) : S27 [.fs 1 xs fl, .fs 1 ys gl, .int .i64 n] [] encK =
  aIf (shOK Sh.bool (R60 [AV.fs 1 xs fl, AV.int IntKind.i64 0, AV.int IntKind.i64 n]))
  (aIf (!(sel (R60 [AV.fs 1 xs fl, AV.int IntKind.i64 0, AV.int IntKind.i64 n]) []).toBool)
    (some (AEnd.ret (AV.tup [AV.bool false, AV.int IntKind.i64 30]), []))
    (aIf (shOK Sh.bool (R60 [AV.fs 1 ys gl, AV.int IntKind.i64 0, AV.int IntKind.i64 n]))
      (aIf (!(sel (R60 [AV.fs 1 ys gl, AV.int IntKind.i64 0, AV.int IntKind.i64 n]) []).toBool)
        (some (AEnd.ret (AV.tup [AV.bool false, AV.int IntKind.i64 30]), []))
        (aIf (shOK (Sh.int IntKind.i64) (R31 [AV.fs 1 xs fl, AV.fs 1 ys gl]))
          (some
            (AEnd.ret
                (AV.tup
                  [AV.bool (decide ((sel (R31 [AV.fs 1 xs fl, AV.fs 1 ys gl]) []).toInt ≥ n)), AV.int IntKind.i64 0]),
              []))
          none))
      none))
  none := by kernel_rfl
theorem R27_is {xs : List AV} {fl : SF} {ys : List AV} {gl : SF} (hu : intsB .u8 xs = true) (hL : xs.length ≤ 1000000) (hv : intsB .u8 ys = true) (hM : ys.length ≤ 1000000) {n : Int} : R27 [.fs 1 xs fl, .fs 1 ys gl, .int .i64 n] = some (.ret (.tup [.bool (sameX xs ys n), .int .i64 (sameE xs.length ys.length n)]), []) := by
  show S27 _ [] encK = _
  have hk : shOK (.int .i64) (some (.ret (.int .i64 (leadV xs ys : Int)), [])) = true := by
    have := leadV_le xs ys
    rw [shOK_ret, has_int, inK_i64, decide_eq_true (show (-9223372036854775808 : Int) ≤ (leadV xs ys : Int) by omega), decide_eq_true (show (leadV xs ys : Int) ≤ 9223372036854775807 by omega)]; rfl
  rw [N27, R60_is hL, R60_is hM, R31_is hu hL hv hM, shOK_ret, has_bool, aIf_true, hk]
  unfold sameX sameE
  cases h1 : thereB xs.length 0 n
  · rfl
  cases h2 : thereB ys.length 0 n
  · rfl
  · rfl

/-- ferryman/field.Clear -/
noncomputable def T28 : List (FuncId × FSpec) := [(54, W54), (55, S55)]
theorem T28_ok : TabOK Try.prog T28 := TabOK.cons En54 W54_ok (TabOK.cons En55 S55_ok (TabOK.nil _))
noncomputable def L28_5 : ATs → AH → KC → Res := fun ts H k => match ts, H with
  | [(0, .fs 1 xs fl), (6, .sl 0 ver 0 len 1), (7, .int .i64 i)], [.cells w ys] => aIf (clearG w ver len xs.length ys i) (k (.exit 0) [(0, .fs 1 xs fl), (6, .sl 0 ver 0 len 1), (7, .int .i64 ((8 * len : Nat) : Int)), (24, .bool false)] [.cells ver (putL ys i.toNat noB (8 * len - i.toNat))]) none
  | [(0, .fs 1 xs fl), (6, .fs 1 zs gl), (7, .int .i64 i)], [] => aIf (xs.length == 0 && i == 0) (k (.exit 0) [(0, .fs 1 xs fl), (6, .fs 1 zs gl), (7, .int .i64 i), (24, .bool false)] []) none
  | _, _ => none
noncomputable def C28 : Ctx := (ctx E T28 [(5, L28_5)] [(0, [0, 1]), (1, [0, 1, 16]), (2, [4, 5]), (3, [0, 1, 6]), (4, [0, 6, 7]), (5, [0, 6, 7, 24]), (6, [0, 6, 7]), (7, [0, 6, 7]), (8, [4, 5]), (1000005, [0, 6, 7])] [54] 31 70)
theorem C28_ok : CtxOK Try.prog C28 := ctx_ok E_ok E_flds mixed T28_ok
theorem C28_l0 : C28.loop (loopId (loopB Try.f28 0)) = some L28_5 := by kernel_rfl
theorem L28_5_in : LoopsOK C28 (loopB Try.f28 0) := LoopsOK.within 0 (by kernel_rfl) (fun j hj S hS => by
  omega)
theorem M28_5a (xs : List AV) (fl : SF) (ver len : Nat) (i : Int) (w : Nat) (ys : List AV) (k : KC) : headedK C28 (loopB Try.f28 0) [(0, .fs 1 xs fl), (6, .sl 0 ver 0 len 1), (7, .int .i64 i)] [.cells w ys] k =
  aIf (decide (i < IntKind.i64.wrap (8 * (↑xs.length : Int))))
  (aIf (Pl.setG w ver len ys i 0)
    (k AExit.normal [(0, AV.fs 1 xs fl), (6, AV.sl 0 ver 0 len 1), (7, AV.int IntKind.i64 (IntKind.i64.wrap (i + 1)))]
      [AO.cells ver (Pl.setV ys i.toNat 0)])
    none)
  (k (AExit.exit 0)
    [(0, AV.fs 1 xs fl), (6, AV.sl 0 ver 0 len 1), (7, AV.int IntKind.i64 i),
      (24, AV.bool (decide (i < IntKind.i64.wrap (8 * (↑xs.length : Int)))))]
    [AO.cells w ys]) := by kernel_rfl
theorem M28_5b (xs : List AV) (fl : SF) (zs : List AV) (gl : SF) (i : Int) (k : KC) : headedK C28 (loopB Try.f28 0) [(0, .fs 1 xs fl), (6, .fs 1 zs gl), (7, .int .i64 i)] [] k =
  aIf (decide (i < IntKind.i64.wrap (8 * (↑xs.length : Int)))) none
  (k (AExit.exit 0)
    [(0, AV.fs 1 xs fl), (6, AV.fs 1 zs gl), (7, AV.int IntKind.i64 i),
      (24, AV.bool (decide (i < IntKind.i64.wrap (8 * (↑xs.length : Int)))))]
    []) := by kernel_rfl
theorem L28_5_ok : LoopSum C28 (loopB Try.f28 0) L28_5 := LoopSum.of C28_ok L28_5_in (fun ts H => by
  unfold L28_5
  split
  · rename_i xs fl ver len i w ys
    rcases Bool.eq_false_or_eq_true (clearG w ver len xs.length ys i) with hp | hp
    · refine .inr ?_
      simp only [aIf_pos hp]
      obtain ⟨rfl, rfl, hl, hL, hu, hi, hi1⟩ := clearG_of hp
      obtain ⟨i, rfl⟩ := Int.eq_ofNat_of_zero_le hi
      rw [Int.toNat_natCast]
      have main : ∀ d j : Nat, i + j + d = 8 * ys.length → ∃ m, ∀ k, aIterK m (headedK C28 (loopB Try.f28 0)) [(0, .fs 1 xs fl), (6, .sl 0 w 0 ys.length 1), (7, .int .i64 ((i + j : Nat) : Int))] [.cells w (putL ys i noB j)] k =
          k (.exit 0) [(0, .fs 1 xs fl), (6, .sl 0 w 0 ys.length 1), (7, .int .i64 ((8 * ys.length : Nat) : Int)), (24, .bool false)] [.cells w (putL ys i noB (j + d))] := by
        intro d
        induction d with
        | zero =>
          intro j hj
          refine ⟨1, fun k => ?_⟩
          rw [aIterK, M28_5a, ← hl, wrap8 hL, show i + j = 8 * ys.length by omega, dltf, aIf_false]; rfl
        | succ d ih =>
          intro j hj
          obtain ⟨m, hm⟩ := ih (j + 1) (by omega)
          refine ⟨m + 1, fun k => ?_⟩
          rw [aIterK, M28_5a, ← hl, wrap8 hL, aIf_pos (dlt (by omega)), setG_ok (by rw [putL_length]) hL (putL_u8 hu j fun i _ => noB_01 i) (by omega) (by omega) (by omega) (by omega), aIf_true, i64s (by omega), Int.toNat_natCast]
          have := hm k
          rw [show j + 1 + d = j + (d + 1) by omega] at this
          exact this
      have := main (8 * ys.length - i) 0 (by omega)
      rw [Nat.zero_add] at this
      exact this.imp fun m hm k => (hm k).symm
    · exact .inl fun k => by rw [aIf_neg hp]
  · rename_i xs fl zs gl i
    rcases Bool.eq_false_or_eq_true (xs.length == 0 && i == 0) with hp | hp
    · refine .inr ?_
      simp only [aIf_pos hp]
      simp only [Bool.and_eq_true, beq_iff_eq] at hp
      obtain ⟨h0, rfl⟩ := hp
      refine ⟨1, fun k => ?_⟩
      rw [aIterK, M28_5b, h0]
      rfl
    · exact .inl fun k => by rw [aIf_neg hp]
  · exact .inl fun k => rfl)
theorem C28_loops : ∀ c, Try.f28.body = some c → LoopsOK C28 c := LoopsOK.of 1 (by kernel_rfl) (fun j hj S hS => by
  match j, hj with
  | 0, _ => rw [C28_l0] at hS; cases hS; exact L28_5_ok
  | n + 1, hj => omega)
noncomputable def S28 : FSpec := inlineK C28 Try.f28
theorem S28_ok : SpecOK Try.prog 28 S28 := inlineK_ok C28_ok Try.func28 C28_loops
theorem En28 : Enters Try.prog 28 := ⟨_, Try.func28, by decide, rfl⟩
noncomputable def R28 (args : List AV) : Res := S28 args [] encK
noncomputable def V28 : FSpec := leafK (.tup [.ints .u8, .int .i64]) R28
theorem V28_ok : SpecOK Try.prog 28 V28 := leafK_ok S28_ok (fun _ => rfl)
theorem N28a (xs : List AV) (f : Int) : S28 [.fs 1 xs .any, .int .i64 f] [] encK =
  aIf (decide (f < 0)) (some (AEnd.ret (AV.tup [AV.fs 1 [] SF.nil, AV.int IntKind.i64 30]), []))
  (aIf (decide (f > IntKind.i64.wrap (8 * (↑xs.length : Int))))
    (some (AEnd.ret (AV.tup [AV.fs 1 [] SF.nil, AV.int IntKind.i64 30]), []))
    (aIf (xs.length == 0)
      (aIf (xs.length == 0 && f == 0) (some (AEnd.ret (AV.tup [AV.fs 1 [] SF.zc, AV.int IntKind.i64 0]), [])) none)
      (aIf ((xs.length * 1).ble 140737488355328)
        (aIf ((List.flatMap AV.cells xs).length == xs.length * 1)
          (aIf (Pl.clearG (xs.length * 1) (xs.length * 1) xs.length xs.length (List.flatMap AV.cells xs) f)
            (aIf (xs.length * 1 == xs.length * 1)
              (aIf
                (decide
                  (0 + xs.length * 1 ≤
                    (Pl.putL (List.flatMap AV.cells xs) f.toNat Pl.noB (8 * xs.length - f.toNat)).length))
                (aIf
                  (flatL
                    (List.take (xs.length * 1)
                      (List.drop 0 (Pl.putL (List.flatMap AV.cells xs) f.toNat Pl.noB (8 * xs.length - f.toNat)))))
                  (some
                    (AEnd.ret
                        (AV.tup
                          [AV.fs 1
                              (List.take xs.length
                                (List.drop 0
                                  (Pl.putL (List.flatMap AV.cells xs) f.toNat Pl.noB (8 * xs.length - f.toNat))))
                              SF.any,
                            AV.int IntKind.i64 0]),
                      []))
                  none)
                none)
              none)
            none)
          none)
        none))) := by kernel_rfl
theorem N28n (f : Int) : S28 [.fs 1 [] .nil, .int .i64 f] [] encK =
  aIf (decide (f < 0)) (some (AEnd.ret (AV.tup [AV.fs 1 [] SF.nil, AV.int IntKind.i64 30]), []))
  (aIf (decide (f > 0)) (some (AEnd.ret (AV.tup [AV.fs 1 [] SF.nil, AV.int IntKind.i64 30]), []))
    (aIf (true && f == 0) (some (AEnd.ret (AV.tup [AV.fs 1 [] SF.nil, AV.int IntKind.i64 0]), [])) none)) := by kernel_rfl
theorem N28z (f : Int) : S28 [.fs 1 [] .zc, .int .i64 f] [] encK =
  aIf (decide (f < 0)) (some (AEnd.ret (AV.tup [AV.fs 1 [] SF.nil, AV.int IntKind.i64 30]), []))
  (aIf (decide (f > 0)) (some (AEnd.ret (AV.tup [AV.fs 1 [] SF.nil, AV.int IntKind.i64 30]), []))
    (aIf (true && f == 0) (some (AEnd.ret (AV.tup [AV.fs 1 [] SF.zc, AV.int IntKind.i64 0]), [])) none)) := by kernel_rfl
theorem R28_is {xs : List AV} {fl : SF} {f : Int} (hu : intsB .u8 xs = true) (hL : xs.length ≤ 1000000) (hf : fl ≠ .any → xs = []) :
    ∃ fl', R28 [.fs 1 xs fl, .int .i64 f] = some (.ret (.tup [.fs 1 (clearX xs f) fl', .int .i64 (clearE xs.length f)]), []) := by
  show ∃ fl', S28 _ [] encK = _
  unfold clearX clearE
  cases fl with
  | nil =>
    obtain rfl := hf (by simp)
    rw [N28n]
    simp only [List.length_nil]
    refine ?_
    by_cases h1 : f < 0
    · exact ⟨.nil, by rw [decide_eq_true h1]; rfl⟩
    rw [decide_eq_false h1]
    by_cases h2 : f > 0
    · exact ⟨.nil, by rw [decide_eq_true (show f > 0 from h2), decide_eq_true (show f > 8 * ((0 : Nat) : Int) by omega)]; rfl⟩
    obtain rfl : f = 0 := by omega
    exact ⟨.nil, rfl⟩
  | zc =>
    obtain rfl := hf (by simp)
    rw [N28z]
    simp only [List.length_nil]
    refine ?_
    by_cases h1 : f < 0
    · exact ⟨.nil, by rw [decide_eq_true h1]; rfl⟩
    rw [decide_eq_false h1]
    by_cases h2 : f > 0
    · exact ⟨.nil, by rw [decide_eq_true (show f > 0 from h2), decide_eq_true (show f > 8 * ((0 : Nat) : Int) by omega)]; rfl⟩
    obtain rfl : f = 0 := by omega
    exact ⟨.zc, rfl⟩
  | any =>
    rw [N28a, wrap8 hL]
    by_cases h1 : f < 0
    · exact ⟨.nil, by rw [decide_eq_true h1]; rfl⟩
    rw [decide_eq_false h1]
    by_cases h2 : f > 8 * (xs.length : Int)
    · exact ⟨.nil, by rw [decide_eq_true (show f > ((8 * xs.length : Nat) : Int) by omega), decide_eq_true h2]; rfl⟩
    rw [decide_eq_false (show ¬ f > ((8 * xs.length : Nat) : Int) by omega), decide_eq_false h2]
    by_cases h4 : xs.length = 0
    · have hx : xs = [] := List.eq_nil_of_length_eq_zero h4
      subst hx
      obtain rfl : f = 0 := by simp at h2; omega
      exact ⟨.zc, rfl⟩
    · refine ⟨.any, ?_⟩
      have hp := putL_u8 (a := f.toNat) (f := noB) hu (8 * xs.length - f.toNat) (fun i _ => noB_01 i)
      have hpl := putL_length xs f.toNat noB (8 * xs.length - f.toNat)
      rw [ints_cells hu, Nat.mul_one, clearG_ok hL hu (by omega) (by omega), beq_self_eq_true, Nat.zero_add, take_all hpl, ints_flat hp, hpl, show (xs.length == 0) = false from beq_eq_false_iff_ne.2 h4, Nat.ble_eq_true_of_le (by omega), decide_eq_true (Nat.le_refl _)]
      rfl

/-- ferryman/ferrymanref03.bytes -/
noncomputable def T59 : List (FuncId × FSpec) := []
theorem T59_ok : TabOK Try.prog T59 := TabOK.nil _
noncomputable def L59_3 : ATs → AH → KC → Res := fun ts H k => match ts, H with
  | [(0, .sl 0 ver 0 len 1), (3, .sl 1 v2 0 m 1), (4, .int .i64 i)], [.cells w ys, .cells w2 zs] => aIf (packG w ver len w2 v2 m ys zs i) (k (.exit 0) [(0, .sl 0 ver 0 len 1), (3, .sl 1 v2 0 m 1), (4, .int .i64 (len : Int)), (13, .bool false)] [.cells w ys, .cells v2 (packL ys)]) none
  | [(0, .fs 1 xs fl), (3, .fs 1 zs gl), (4, .int .i64 i)], [] => aIf (xs.length == 0 && i == 0) (k (.exit 0) [(0, .fs 1 xs fl), (3, .fs 1 zs gl), (4, .int .i64 i), (13, .bool false)] []) none
  | _, _ => none
noncomputable def C59 : Ctx := (ctx E T59 [(3, L59_3)] [(0, [0]), (1, [0, 3]), (2, [0, 3, 4]), (3, [0, 3, 4, 13]), (4, [0, 3, 4]), (5, [0, 3, 4, 20]), (6, [0, 3, 4]), (7, [2]), (1000003, [0, 3, 4])] [] 36 70)
theorem C59_ok : CtxOK Try.prog C59 := ctx_ok E_ok E_flds mixed T59_ok
theorem C59_l0 : C59.loop (loopId (loopB Try.f59 0)) = some L59_3 := by kernel_rfl
theorem L59_3_in : LoopsOK C59 (loopB Try.f59 0) := LoopsOK.within 0 (by kernel_rfl) (fun j hj S hS => by
  omega)
theorem M59_3a (ver len v2 m : Nat) (i : Int) (w : Nat) (ys : List AV) (w2 : Nat) (zs : List AV) (k : KC) : headedK C59 (loopB Try.f59 0) [(0, .sl 0 ver 0 len 1), (3, .sl 1 v2 0 m 1), (4, .int .i64 i)] [.cells w ys, .cells w2 zs] k =
  aIf (decide (i < (↑len : Int)))
  (aIf (decide (0 ≤ i))
    (aIf (decide (i < (↑len : Int)))
      (aIf (w == ver)
        (aIf (decide (0 + i.toNat * 1 + 1 ≤ ys.length))
          (aIf ((ys.getD (0 + i.toNat * 1) AV.junk).isInt IntKind.u64)
            (aIf ((ys.getD (0 + i.toNat * 1) AV.junk).toInt == 1)
              (aIf (decide (0 ≤ IntKind.i64.wrap (i.tdiv 8)))
                (aIf (decide (IntKind.i64.wrap (i.tdiv 8) < (↑m : Int)))
                  (aIf (w2 == v2)
                    (aIf (decide (0 + (IntKind.i64.wrap (i.tdiv 8)).toNat * 1 + 1 ≤ zs.length))
                      (aIf ((zs.getD (0 + (IntKind.i64.wrap (i.tdiv 8)).toNat * 1) AV.junk).isInt IntKind.u8)
                        (aIf (decide (IntKind.i64.wrap (7 - i.tmod 8) < 0)) none
                          (aIf (decide (0 ≤ IntKind.i64.wrap (i.tdiv 8)))
                            (aIf (decide (IntKind.i64.wrap (i.tdiv 8) < (↑m : Int)))
                              (aIf (w2 == v2)
                                (aIf (decide (0 + (IntKind.i64.wrap (i.tdiv 8)).toNat * 1 + 1 ≤ zs.length))
                                  (k AExit.normal
                                    [(0, AV.sl 0 ver 0 len 1), (3, AV.sl 1 v2 0 m 1),
                                      (4, AV.int IntKind.i64 (IntKind.i64.wrap (i + 1)))]
                                    [AO.cells w ys,
                                      AO.cells v2
                                        (zs.set (0 + (IntKind.i64.wrap (i.tdiv 8)).toNat * 1)
                                          (AV.int IntKind.u8
                                            (IntKind.u8.wrap
                                              ((zs.getD (0 + (IntKind.i64.wrap (i.tdiv 8)).toNat * 1) AV.junk).toInt +
                                                IntKind.u8.wrap
                                                  (1 * 2 ^ min (IntKind.i64.wrap (7 - i.tmod 8)).toNat 8)))))])
                                  none)
                                none)
                              none)
                            none))
                        none)
                      none)
                    none)
                  none)
                none)
              (k AExit.normal
                [(0, AV.sl 0 ver 0 len 1), (3, AV.sl 1 v2 0 m 1), (4, AV.int IntKind.i64 (IntKind.i64.wrap (i + 1)))]
                [AO.cells w ys, AO.cells w2 zs]))
            none)
          none)
        none)
      none)
    none)
  (k (AExit.exit 0)
    [(0, AV.sl 0 ver 0 len 1), (3, AV.sl 1 v2 0 m 1), (4, AV.int IntKind.i64 i),
      (13, AV.bool (decide (i < (↑len : Int))))]
    [AO.cells w ys, AO.cells w2 zs]) := by kernel_rfl
theorem M59_3b (xs : List AV) (fl : SF) (zs : List AV) (gl : SF) (i : Int) (k : KC) : headedK C59 (loopB Try.f59 0) [(0, .fs 1 xs fl), (3, .fs 1 zs gl), (4, .int .i64 i)] [] k =
  aIf (decide (i < (↑xs.length : Int)))
  (aIf (decide (0 ≤ i))
    (aIf (decide (i < (↑xs.length : Int)))
      (aIf ((xs.getD i.toNat AV.junk).cells.length == 1)
        (aIf (([(xs.getD i.toNat AV.junk).cells.getD 0 AV.junk].getD 0 AV.junk).isInt IntKind.u64)
          (aIf (([(xs.getD i.toNat AV.junk).cells.getD 0 AV.junk].getD 0 AV.junk).toInt == 1)
            (aIf (decide (0 ≤ IntKind.i64.wrap (i.tdiv 8)))
              (aIf (decide (IntKind.i64.wrap (i.tdiv 8) < (↑zs.length : Int)))
                (aIf ((zs.getD (IntKind.i64.wrap (i.tdiv 8)).toNat AV.junk).cells.length == 1)
                  (aIf
                    (([(zs.getD (IntKind.i64.wrap (i.tdiv 8)).toNat AV.junk).cells.getD 0 AV.junk].getD 0 AV.junk).isInt
                      IntKind.u8)
                    (aIf (decide (IntKind.i64.wrap (7 - i.tmod 8) < 0)) none
                      (aIf (decide (0 ≤ IntKind.i64.wrap (i.tdiv 8)))
                        (aIf (decide (IntKind.i64.wrap (i.tdiv 8) < (↑zs.length : Int)))
                          (aIf ((zs.getD (IntKind.i64.wrap (i.tdiv 8)).toNat AV.junk).cells.length == 1) none none)
                          none)
                        none))
                    none)
                  none)
                none)
              none)
            (k AExit.normal [(0, AV.fs 1 xs fl), (3, AV.fs 1 zs gl), (4, AV.int IntKind.i64 (IntKind.i64.wrap (i + 1)))]
              []))
          none)
        none)
      none)
    none)
  (k (AExit.exit 0)
    [(0, AV.fs 1 xs fl), (3, AV.fs 1 zs gl), (4, AV.int IntKind.i64 i), (13, AV.bool (decide (i < (↑xs.length : Int))))]
    []) := by kernel_rfl
theorem L59_3_ok : LoopSum C59 (loopB Try.f59 0) L59_3 := LoopSum.of C59_ok L59_3_in (fun ts H => by
  unfold L59_3
  split
  · rename_i ver len v2 m i w ys w2 zs
    rcases Bool.eq_false_or_eq_true (packG w ver len w2 v2 m ys zs i) with hp | hp
    · refine .inr ?_
      simp only [aIf_pos hp]
      obtain ⟨rfl, rfl, rfl, rfl, hl, hb, rfl, hz, rfl⟩ := packG_of hp
      have main : ∀ d j : Nat, j + d = ys.length → ∃ m, ∀ k, aIterK m (headedK C59 (loopB Try.f59 0)) [(0, .sl 0 w 0 ys.length 1), (3, .sl 1 w2 0 ((ys.length + 7) / 8) 1), (4, .int .i64 (j : Int))] [.cells w ys, .cells w2 (putL (zeros ((ys.length + 7) / 8)) 0 (bitAt ys) j)] k =
          k (.exit 0) [(0, .sl 0 w 0 ys.length 1), (3, .sl 1 w2 0 ((ys.length + 7) / 8) 1), (4, .int .i64 (ys.length : Int)), (13, .bool false)] [.cells w ys, .cells w2 (packL ys)] := by
        intro d
        induction d with
        | zero =>
          intro j hj
          obtain rfl : j = ys.length := by omega
          refine ⟨1, fun k => ?_⟩
          rw [aIterK, M59_3a]
          simp only [dltf, aIf_false, packL]
        | succ d ih =>
          intro j hj
          obtain ⟨m, hm⟩ := ih (j + 1) (by omega)
          refine ⟨m + 1, fun k => ?_⟩
          have hjl : j < ys.length := by omega
          obtain ⟨b, hb01, he⟩ := binB_get hb j hjl
          have hba : bitAt ys j = b := by unfold bitAt; rw [he]; rfl
          have hzu := putL_u8 (a := 0) (zeros_u8 ((ys.length + 7) / 8)) j (fun i hi => bitAt_01 hb i (by omega))
          have hzl : (putL (zeros ((ys.length + 7) / 8)) 0 (bitAt ys) j).length = (ys.length + 7) / 8 := by rw [putL_length]; simp [zeros]
          have hz0 : bitV (putL (zeros ((ys.length + 7) / 8)) 0 (bitAt ys) j) j = 0 := by
            rw [putL_bit (zeros_u8 _) j (fun i hi => bitAt_01 hb i (by omega)) (by simp [zeros]; omega), if_neg (by omega), bitV_zeros]
          have hj8 : j / 8 < (putL (zeros ((ys.length + 7) / 8)) 0 (bitAt ys) j).length := by rw [hzl]; omega
          have hput : putL (zeros ((ys.length + 7) / 8)) 0 (bitAt ys) (j + 1) = setV (putL (zeros ((ys.length + 7) / 8)) 0 (bitAt ys) j) j b := by
            simp only [putL, Nat.zero_add, hba]
          rw [hput] at hm
          rw [aIterK, M59_3a, aIf_pos (dlt hjl), dnn', aIf_true, aIf_pos (dlt hjl), beq_self_eq_true, aIf_true, Int.toNat_natCast, Nat.mul_one, Nat.zero_add, aIf_pos (decide_eq_true (by omega)), he, isInt_self, aIf_true, i64s (by omega)]
          generalize putL (zeros ((ys.length + 7) / 8)) 0 (bitAt ys) j = zs at *
          rcases hb01 with rfl | rfl
          · rw [show ((AV.int IntKind.u64 0).toInt == 1) = false from rfl, aIf_false]
            rw [setV_same hzu hj8 hz0] at hm
            exact hm k
          · obtain ⟨x, hx, hxe⟩ := u8_get hzu (j / 8) hj8
            have hs : 7 - j % 8 < 8 := by omega
            have r1 := setByte_range (b := 1) hx hs (.inr rfl)
            have hsb : (x : Int) + 2 ^ (7 - j % 8) = setByte x (7 - j % 8) 1 := by
              unfold bitV at hz0
              rw [hxe] at hz0
              unfold setByte
              rw [show (x : Int) / 2 ^ (7 - j % 8) % 2 = 0 from hz0]
              omega
            have e3 : min (7 - j % 8) 8 = 7 - j % 8 := by omega
            rw [show ((AV.int IntKind.u64 1).toInt == 1) = true from rfl, aIf_true, div8 (by omega), dnn', aIf_true, aIf_pos (dlt (by omega)), beq_self_eq_true, aIf_true, Int.toNat_natCast, Nat.mul_one, Nat.zero_add, aIf_pos (decide_eq_true (by omega)), hxe, isInt_self, aIf_true, sh7, dnn, aIf_false,
              aIf_true, aIf_pos (dlt (by omega)), aIf_true, aIf_pos (decide_eq_true (by omega)), Int.toNat_natCast, e3, Int.one_mul, u8pow hs]
            simp only [AV.toInt, hsb, u8n r1.1 r1.2]
            have hset : setV zs j 1 = zs.set (j / 8) (.int .u8 (setByte x (7 - j % 8) 1)) := by unfold setV; rw [hxe]; rfl
            rw [← hset]
            exact hm k
      exact (main ys.length 0 (by omega)).imp fun m hm k => (hm k).symm
    · exact .inl fun k => by rw [aIf_neg hp]
  · rename_i xs fl zs gl i
    rcases Bool.eq_false_or_eq_true (xs.length == 0 && i == 0) with hp | hp
    · refine .inr ?_
      simp only [aIf_pos hp]
      simp only [Bool.and_eq_true, beq_iff_eq] at hp
      obtain ⟨h0, rfl⟩ := hp
      refine ⟨1, fun k => ?_⟩
      rw [aIterK, M59_3b, h0]
      rfl
    · exact .inl fun k => by rw [aIf_neg hp]
  · exact .inl fun k => rfl)
theorem C59_loops : ∀ c, Try.f59.body = some c → LoopsOK C59 c := LoopsOK.of 1 (by kernel_rfl) (fun j hj S hS => by
  match j, hj with
  | 0, _ => rw [C59_l0] at hS; cases hS; exact L59_3_ok
  | n + 1, hj => omega)
noncomputable def S59 : FSpec := inlineK C59 Try.f59
theorem S59_ok : SpecOK Try.prog 59 S59 := inlineK_ok C59_ok Try.func59 C59_loops
theorem En59 : Enters Try.prog 59 := ⟨_, Try.func59, by decide, rfl⟩
noncomputable def R59 (args : List AV) : Res := S59 args [] encK
noncomputable def V59 : FSpec := leafK (.ints .u8) R59
theorem V59_ok : SpecOK Try.prog 59 V59 := leafK_ok S59_ok (fun _ => rfl)

noncomputable def W59 : FSpec := liveK C59 Try.f59
theorem W59_ok : SpecOK Try.prog 59 W59 := liveK_ok C59_ok Try.func59 C59_loops

/-- ferryman/ferrymanref03.bits -/
noncomputable def T61 : List (FuncId × FSpec) := [(19, V19)]
theorem T61_ok : TabOK Try.prog T61 := TabOK.cons En19 V19_ok (TabOK.nil _)
noncomputable def L61_3 : ATs → AH → KC → Res := fun ts H k => match ts, H with
  | [(0, .fs 1 xs fl), (3, .sl 0 ver 0 len 1), (4, .int .i64 i)], [.cells w ys] => aIf (bitsG w ver len ys xs i) (k (.exit 0) [(0, .fs 1 xs fl), (3, .sl 0 (8 * xs.length) 0 (8 * xs.length) 1), (4, .int .i64 ((8 * xs.length : Nat) : Int)), (9, .bool false)] [.cells (8 * xs.length) (ys ++ bitsF xs len (8 * xs.length - len))]) none
  | [(0, .fs 1 xs fl), (3, .fs 0 [] .nil), (4, .int .i64 i)], [] => aIf (decide (xs.length ≤ 1000000) && intsB .u8 xs && i == 0) (aIf (xs.length == 0) (k (.exit 0) [(0, .fs 1 xs fl), (3, .fs 0 [] .nil), (4, .int .i64 0), (9, .bool false)] []) (k (.exit 0) [(0, .fs 1 xs fl), (3, .sl 0 (8 * xs.length) 0 (8 * xs.length) 1), (4, .int .i64 ((8 * xs.length : Nat) : Int)), (9, .bool false)] [.cells (8 * xs.length) (bitsF xs 0 (8 * xs.length))])) none
  | _, _ => none
noncomputable def C61 : Ctx := (ctx E T61 [(3, L61_3)] [(0, [0]), (1, [0, 3]), (2, [0, 3, 4]), (3, [0, 3, 4, 9]), (4, [0, 3, 4]), (5, [0, 3, 4]), (6, [2]), (1000003, [0, 3, 4])] [] 19 70)
theorem C61_ok : CtxOK Try.prog C61 := ctx_ok E_ok E_flds mixed T61_ok
theorem C61_l0 : C61.loop (loopId (loopB Try.f61 0)) = some L61_3 := by kernel_rfl
theorem L61_3_in : LoopsOK C61 (loopB Try.f61 0) := LoopsOK.within 0 (by kernel_rfl) (fun j hj S hS => by
  omega)
theorem M61_3a (xs : List AV) (fl : SF) (ver len : Nat) (i : Int) (w : Nat) (ys : List AV) (k : KC) : headedK C61 (loopB Try.f61 0) [(0, .fs 1 xs fl), (3, .sl 0 ver 0 len 1), (4, .int .i64 i)] [.cells w ys] k =
  aIf (decide (i < IntKind.i64.wrap (8 * (↑xs.length : Int))))
  (aIf (shOK (Sh.int IntKind.u64) (R19 [AV.fs 1 xs fl, AV.int IntKind.i64 i]))
    (aIf (ver == 0) none
      (aIf (w == ver)
        (aIf (((len + 1) * 8).ble 140737488355328)
          (k AExit.normal
            [(0, AV.fs 1 xs fl), (3, AV.sl 0 (max ver ((len + 1) * 1)) 0 (len + 1) 1),
              (4, AV.int IntKind.i64 (IntKind.i64.wrap (i + 1)))]
            [AO.cells (max ver ((len + 1) * 1))
                (List.take (len * 1) ys ++
                    [AV.int IntKind.u64 (sel (R19 [AV.fs 1 xs fl, AV.int IntKind.i64 i]) []).toInt] ++
                  List.drop (len * 1 + 1) ys)])
          none)
        none))
    none)
  (k (AExit.exit 0)
    [(0, AV.fs 1 xs fl), (3, AV.sl 0 ver 0 len 1), (4, AV.int IntKind.i64 i),
      (9, AV.bool (decide (i < IntKind.i64.wrap (8 * (↑xs.length : Int)))))]
    [AO.cells w ys]) := by kernel_rfl
theorem M61_3b (xs : List AV) (fl : SF) (i : Int) (k : KC) : headedK C61 (loopB Try.f61 0) [(0, .fs 1 xs fl), (3, .fs 0 [] .nil), (4, .int .i64 i)] [] k =
  aIf (decide (i < IntKind.i64.wrap (8 * (↑xs.length : Int))))
  (aIf (shOK (Sh.int IntKind.u64) (R19 [AV.fs 1 xs fl, AV.int IntKind.i64 i]))
    (k AExit.normal [(0, AV.fs 1 xs fl), (3, AV.sl 0 1 0 1 1), (4, AV.int IntKind.i64 (IntKind.i64.wrap (i + 1)))]
      [AO.cells 1 [AV.int IntKind.u64 (sel (R19 [AV.fs 1 xs fl, AV.int IntKind.i64 i]) []).toInt]])
    none)
  (k (AExit.exit 0)
    [(0, AV.fs 1 xs fl), (3, AV.fs 0 [] SF.nil), (4, AV.int IntKind.i64 i),
      (9, AV.bool (decide (i < IntKind.i64.wrap (8 * (↑xs.length : Int)))))]
    []) := by kernel_rfl
theorem M61m {xs : List AV} {fl : SF} (hu : intsB .u8 xs = true) (hL : xs.length ≤ 1000000) : ∀ (d j : Nat) (ys : List AV), j + d = 8 * xs.length → ys.length = j → 1 ≤ j →
    ∃ m, ∀ k, aIterK m (headedK C61 (loopB Try.f61 0)) [(0, .fs 1 xs fl), (3, .sl 0 j 0 j 1), (4, .int .i64 (j : Int))] [.cells j ys] k =
      k (.exit 0) [(0, .fs 1 xs fl), (3, .sl 0 (8 * xs.length) 0 (8 * xs.length) 1), (4, .int .i64 ((8 * xs.length : Nat) : Int)), (9, .bool false)] [.cells (8 * xs.length) (ys ++ bitsF xs j d)] := by
  intro d
  induction d with
  | zero =>
    intro j ys hj hl _
    obtain rfl : j = 8 * xs.length := by omega
    refine ⟨1, fun k => ?_⟩
    rw [aIterK, M61_3a, wrap8 hL]
    simp only [dltf, aIf_false, bitsF, List.range_zero, List.map_nil, List.append_nil]
  | succ d ih =>
    intro j ys hj hl h1
    obtain ⟨m, hm⟩ := ih (j + 1) (ys ++ [.int .u64 (bitV xs j)]) (by omega) (by simp [hl]) (by omega)
    refine ⟨m + 1, fun k => ?_⟩
    have b1 := bitV_01 xs j
    have e1 : (j == 0) = false := by rw [beq_eq_false_iff_ne]; omega
    have e2 : ((j + 1) * 8).ble 140737488355328 = true := Nat.ble_eq_true_of_le (by omega)
    have e3 : max j ((j + 1) * 1) = j + 1 := by omega
    have e4 : List.take (j * 1) ys = ys := List.take_of_length_le (by omega)
    have e5 : List.drop (j * 1 + 1) ys = [] := List.drop_eq_nil_of_le (by omega)
    rw [aIterK, M61_3a, wrap8 hL, aIf_pos (dlt (by omega)), R19_is hu hL (by omega), shOK_ret, has_int, inK_u64, decide_eq_true (show 0 ≤ bitV xs j by omega), decide_eq_true (show bitV xs j ≤ 18446744073709551615 by omega), Bool.and_self, aIf_true, e1, aIf_false,
      beq_self_eq_true, aIf_true, e2, aIf_true, e3, e4, e5, i64s (by omega)]
    have e6 : ys ++ bitsF xs j (d + 1) = ys ++ [AV.int IntKind.u64 (bitV xs j)] ++ bitsF xs (j + 1) d := by rw [bitsF_succ]; simp
    rw [e6]
    refine Eq.trans ?_ (hm k)
    show aIterK m _ _ [AO.cells (j + 1) (ys ++ [AV.int IntKind.u64 (bitV xs j)] ++ [])] k = _
    rw [List.append_nil]
theorem L61_3_ok : LoopSum C61 (loopB Try.f61 0) L61_3 := LoopSum.of C61_ok L61_3_in (fun ts H => by
  unfold L61_3
  split
  · rename_i xs fl ver len i w ys
    rcases Bool.eq_false_or_eq_true (bitsG w ver len ys xs i) with hp | hp
    · refine .inr ?_
      simp only [aIf_pos hp]
      obtain ⟨rfl, rfl, rfl, h1, hL, hu, hi, rfl⟩ := bitsG_of hp
      exact (M61m hu hL (8 * xs.length - ys.length) ys.length ys (by omega) rfl h1).imp fun m hm k => (hm k).symm
    · exact .inl fun k => by rw [aIf_neg hp]
  · rename_i xs fl i
    rcases Bool.eq_false_or_eq_true (decide (xs.length ≤ 1000000) && intsB .u8 xs && i == 0) with hp | hp
    · refine .inr ?_
      simp only [aIf_pos hp]
      simp only [Bool.and_eq_true, beq_iff_eq, decide_eq_true_eq] at hp
      obtain ⟨⟨hL, hu⟩, rfl⟩ := hp
      rcases Nat.eq_zero_or_pos xs.length with h0 | h0
      · refine ⟨1, fun k => ?_⟩
        rw [aIterK, M61_3b, aIf_pos (b := xs.length == 0) (by rw [h0]; rfl), h0]
        rfl
      · obtain ⟨m, hm⟩ := M61m (fl := fl) hu hL (8 * xs.length - 1) 1 [.int .u64 (bitV xs 0)] (by omega) rfl (Nat.le_refl _)
        refine ⟨m + 1, fun k => ?_⟩
        have b1 := bitV_01 xs 0
        have hr : R19 [.fs 1 xs fl, .int .i64 0] = some (.ret (.int .u64 (bitV xs 0)), []) := R19_is (j := 0) hu hL (by omega)
        rw [aIf_neg (b := xs.length == 0) (by rw [beq_eq_false_iff_ne]; omega), aIterK, M61_3b, wrap8 hL, aIf_pos (decide_eq_true (by omega)), hr, shOK_ret, has_int, inK_u64, decide_eq_true (show 0 ≤ bitV xs 0 by omega), decide_eq_true (show bitV xs 0 ≤ 18446744073709551615 by omega), Bool.and_self, aIf_true]
        have hb : bitsF xs 0 (8 * xs.length) = [.int .u64 (bitV xs 0)] ++ bitsF xs 1 (8 * xs.length - 1) := by
          rw [show 8 * xs.length = (8 * xs.length - 1) + 1 by omega, bitsF_succ]; rfl
        rw [hb]
        exact (hm k).symm
    · exact .inl fun k => by rw [aIf_neg hp]
  · exact .inl fun k => rfl)
theorem C61_loops : ∀ c, Try.f61.body = some c → LoopsOK C61 c := LoopsOK.of 1 (by kernel_rfl) (fun j hj S hS => by
  match j, hj with
  | 0, _ => rw [C61_l0] at hS; cases hS; exact L61_3_ok
  | n + 1, hj => omega)
noncomputable def S61 : FSpec := inlineK C61 Try.f61
theorem S61_ok : SpecOK Try.prog 61 S61 := inlineK_ok C61_ok Try.func61 C61_loops
theorem En61 : Enters Try.prog 61 := ⟨_, Try.func61, by decide, rfl⟩
noncomputable def R61 (args : List AV) : Res := S61 args [] encK
noncomputable def V61 : FSpec := leafK (.ints .u64) R61
theorem V61_ok : SpecOK Try.prog 61 V61 := leafK_ok S61_ok (fun _ => rfl)

noncomputable def W61 : FSpec := liveK C61 Try.f61
theorem W61_ok : SpecOK Try.prog 61 W61 := liveK_ok C61_ok Try.func61 C61_loops

/-- ferryman/ferrymanref03.Clear -/
noncomputable def T29 : List (FuncId × FSpec) := [(59, W59), (61, W61)]
theorem T29_ok : TabOK Try.prog T29 := TabOK.cons En59 W59_ok (TabOK.cons En61 W61_ok (TabOK.nil _))
noncomputable def L29_5 : ATs → AH → KC → Res := fun ts H k => match ts, H with
  | [(6, .sl 0 ver 0 len 1), (7, .int .i64 i)], [.cells w ys] => aIf (wipeG w ver len ys i) (k (.exit 0) [(6, .sl 0 ver 0 len 1), (7, .int .i64 (len : Int)), (23, .bool false)] [.cells ver (overL ys i.toNat noB (len - i.toNat))]) none
  | [(6, .fs 1 zs gl), (7, .int .i64 i)], [] => aIf (zs.length == 0 && i == 0) (k (.exit 0) [(6, .fs 1 zs gl), (7, .int .i64 i), (23, .bool false)] []) none
  | _, _ => none
noncomputable def C29 : Ctx := (ctx E T29 [(5, L29_5)] [(0, [0, 1]), (1, [0, 1, 16]), (2, [4, 5]), (3, [1, 6]), (4, [6, 7]), (5, [6, 7, 23]), (6, [6, 7]), (7, [6, 7]), (8, [4, 5]), (1000005, [6, 7])] [61] 31 70)
theorem C29_ok : CtxOK Try.prog C29 := ctx_ok E_ok E_flds mixed T29_ok
theorem C29_l0 : C29.loop (loopId (loopB Try.f29 0)) = some L29_5 := by kernel_rfl
theorem L29_5_in : LoopsOK C29 (loopB Try.f29 0) := LoopsOK.within 0 (by kernel_rfl) (fun j hj S hS => by
  omega)
theorem M29_5a (ver len : Nat) (i : Int) (w : Nat) (ys : List AV) (k : KC) : headedK C29 (loopB Try.f29 0) [(6, .sl 0 ver 0 len 1), (7, .int .i64 i)] [.cells w ys] k =
  aIf (decide (i < (↑len : Int)))
  (aIf (decide (0 ≤ i))
    (aIf (decide (i < (↑len : Int)))
      (aIf (w == ver)
        (aIf (decide (0 + i.toNat * 1 + 1 ≤ ys.length))
          (k AExit.normal [(6, AV.sl 0 ver 0 len 1), (7, AV.int IntKind.i64 (IntKind.i64.wrap (i + 1)))]
            [AO.cells ver (ys.set (0 + i.toNat * 1) (AV.int IntKind.u64 0))])
          none)
        none)
      none)
    none)
  (k (AExit.exit 0) [(6, AV.sl 0 ver 0 len 1), (7, AV.int IntKind.i64 i), (23, AV.bool (decide (i < (↑len : Int))))]
    [AO.cells w ys]) := by kernel_rfl
theorem M29_5b (zs : List AV) (gl : SF) (i : Int) (k : KC) : headedK C29 (loopB Try.f29 0) [(6, .fs 1 zs gl), (7, .int .i64 i)] [] k =
  aIf (decide (i < (↑zs.length : Int)))
  (aIf (decide (0 ≤ i))
    (aIf (decide (i < (↑zs.length : Int))) (aIf ((zs.getD i.toNat AV.junk).cells.length == 1) none none) none) none)
  (k (AExit.exit 0) [(6, AV.fs 1 zs gl), (7, AV.int IntKind.i64 i), (23, AV.bool (decide (i < (↑zs.length : Int))))] []) := by kernel_rfl
theorem L29_5_ok : LoopSum C29 (loopB Try.f29 0) L29_5 := LoopSum.of C29_ok L29_5_in (fun ts H => by
  unfold L29_5
  split
  · rename_i ver len i w ys
    rcases Bool.eq_false_or_eq_true (wipeG w ver len ys i) with hp | hp
    · refine .inr ?_
      simp only [aIf_pos hp]
      obtain ⟨rfl, rfl, hL, hi, hi1⟩ := wipeG_of hp
      obtain ⟨i, rfl⟩ := Int.eq_ofNat_of_zero_le hi
      rw [Int.toNat_natCast]
      have main : ∀ d j : Nat, i + j + d = ys.length → ∃ m, ∀ k, aIterK m (headedK C29 (loopB Try.f29 0)) [(6, .sl 0 w 0 ys.length 1), (7, .int .i64 ((i + j : Nat) : Int))] [.cells w (overL ys i noB j)] k =
          k (.exit 0) [(6, .sl 0 w 0 ys.length 1), (7, .int .i64 (ys.length : Int)), (23, .bool false)] [.cells w (overL ys i noB (j + d))] := by
        intro d
        induction d with
        | zero =>
          intro j hj
          refine ⟨1, fun k => ?_⟩
          rw [aIterK, M29_5a, show i + j = ys.length by omega, dltf, aIf_false]; rfl
        | succ d ih =>
          intro j hj
          obtain ⟨m, hm⟩ := ih (j + 1) (by omega)
          refine ⟨m + 1, fun k => ?_⟩
          rw [aIterK, M29_5a, aIf_pos (dlt (by omega)), dnn', aIf_true, aIf_pos (dlt (by omega)), beq_self_eq_true, aIf_true, Int.toNat_natCast, Nat.mul_one, Nat.zero_add, aIf_pos (decide_eq_true (by rw [overL_length]; omega)), i64s (by omega)]
          have := hm k
          rw [show j + 1 + d = j + (d + 1) by omega] at this
          exact this
      have := main (ys.length - i) 0 (by omega)
      rw [Nat.zero_add] at this
      exact this.imp fun m hm k => (hm k).symm
    · exact .inl fun k => by rw [aIf_neg hp]
  · rename_i zs gl i
    rcases Bool.eq_false_or_eq_true (zs.length == 0 && i == 0) with hp | hp
    · refine .inr ?_
      simp only [aIf_pos hp]
      simp only [Bool.and_eq_true, beq_iff_eq] at hp
      obtain ⟨h0, rfl⟩ := hp
      refine ⟨1, fun k => ?_⟩
      rw [aIterK, M29_5b, h0]
      rfl
    · exact .inl fun k => by rw [aIf_neg hp]
  · exact .inl fun k => rfl)
theorem C29_loops : ∀ c, Try.f29.body = some c → LoopsOK C29 c := LoopsOK.of 1 (by kernel_rfl) (fun j hj S hS => by
  match j, hj with
  | 0, _ => rw [C29_l0] at hS; cases hS; exact L29_5_ok
  | n + 1, hj => omega)
noncomputable def S29 : FSpec := inlineK C29 Try.f29
theorem S29_ok : SpecOK Try.prog 29 S29 := inlineK_ok C29_ok Try.func29 C29_loops
theorem En29 : Enters Try.prog 29 := ⟨_, Try.func29, by decide, rfl⟩
noncomputable def R29 (args : List AV) : Res := S29 args [] encK
noncomputable def V29 : FSpec := leafK (.tup [.ints .u8, .int .i64]) R29
theorem V29_ok : SpecOK Try.prog 29 V29 := leafK_ok S29_ok (fun _ => rfl)
theorem N29 (xs : List AV) (fl : SF) (f : Int) : S29 [.fs 1 xs fl, .int .i64 f] [] encK =
  aIf (decide (f < 0)) (some (AEnd.ret (AV.tup [AV.fs 1 [] SF.nil, AV.int IntKind.i64 30]), []))
  (aIf (decide (f > IntKind.i64.wrap (8 * (↑xs.length : Int))))
    (some (AEnd.ret (AV.tup [AV.fs 1 [] SF.nil, AV.int IntKind.i64 30]), []))
    (aIf (decide (xs.length ≤ 1000000) && intsB IntKind.u8 xs && true)
      (aIf (xs.length == 0)
        (aIf (true && f == 0) (some (AEnd.ret (AV.tup [AV.fs 1 [] SF.zc, AV.int IntKind.i64 0]), [])) none)
        (aIf (Pl.wipeG (8 * xs.length) (8 * xs.length) (8 * xs.length) (Pl.bitsF xs 0 (8 * xs.length)) f)
          (aIf (decide (0 ≤ IntKind.i64.wrap ((IntKind.i64.wrap ((↑(8 * xs.length) : Int) + 7)).tdiv 8)))
            (aIf
              (decide
                (IntKind.i64.wrap ((IntKind.i64.wrap ((↑(8 * xs.length) : Int) + 7)).tdiv 8) ≤
                  IntKind.i64.wrap ((IntKind.i64.wrap ((↑(8 * xs.length) : Int) + 7)).tdiv 8)))
              (aIf
                (decide
                  (IntKind.i64.wrap ((IntKind.i64.wrap ((↑(8 * xs.length) : Int) + 7)).tdiv 8) * 1 ≤ 281474976710656))
                (aIf
                  (decide
                    (IntKind.i64.wrap ((IntKind.i64.wrap ((↑(8 * xs.length) : Int) + 7)).tdiv 8) ≤ 281474976710656))
                  (aIf (IntKind.i64.wrap ((IntKind.i64.wrap ((↑(8 * xs.length) : Int) + 7)).tdiv 8) == 0) none
                    (aIf
                      (Pl.packG (8 * xs.length) (8 * xs.length) (8 * xs.length)
                        ((IntKind.i64.wrap ((IntKind.i64.wrap ((↑(8 * xs.length) : Int) + 7)).tdiv 8)).toNat * 1)
                        ((IntKind.i64.wrap ((IntKind.i64.wrap ((↑(8 * xs.length) : Int) + 7)).tdiv 8)).toNat * 1)
                        (IntKind.i64.wrap ((IntKind.i64.wrap ((↑(8 * xs.length) : Int) + 7)).tdiv 8)).toNat
                        (Pl.overL (Pl.bitsF xs 0 (8 * xs.length)) f.toNat Pl.noB (8 * xs.length - f.toNat))
                        (List.replicate
                            (IntKind.i64.wrap ((IntKind.i64.wrap ((↑(8 * xs.length) : Int) + 7)).tdiv 8)).toNat
                            [AV.int IntKind.u8 0]).flatten
                        0)
                      (aIf
                        ((IntKind.i64.wrap ((IntKind.i64.wrap ((↑(8 * xs.length) : Int) + 7)).tdiv 8)).toNat * 1 ==
                          (IntKind.i64.wrap ((IntKind.i64.wrap ((↑(8 * xs.length) : Int) + 7)).tdiv 8)).toNat * 1)
                        (aIf
                          (decide
                            (0 +
                                (IntKind.i64.wrap ((IntKind.i64.wrap ((↑(8 * xs.length) : Int) + 7)).tdiv 8)).toNat *
                                  1 ≤
                              (Pl.packL
                                  (Pl.overL (Pl.bitsF xs 0 (8 * xs.length)) f.toNat Pl.noB
                                    (8 * xs.length - f.toNat))).length))
                          (aIf
                            (flatL
                              (List.take
                                ((IntKind.i64.wrap ((IntKind.i64.wrap ((↑(8 * xs.length) : Int) + 7)).tdiv 8)).toNat *
                                  1)
                                (List.drop 0
                                  (Pl.packL
                                    (Pl.overL (Pl.bitsF xs 0 (8 * xs.length)) f.toNat Pl.noB
                                      (8 * xs.length - f.toNat))))))
                            (some
                              (AEnd.ret
                                  (AV.tup
                                    [AV.fs 1
                                        (List.take
                                          (IntKind.i64.wrap
                                              ((IntKind.i64.wrap ((↑(8 * xs.length) : Int) + 7)).tdiv 8)).toNat
                                          (List.drop 0
                                            (Pl.packL
                                              (Pl.overL (Pl.bitsF xs 0 (8 * xs.length)) f.toNat Pl.noB
                                                (8 * xs.length - f.toNat)))))
                                        SF.any,
                                      AV.int IntKind.i64 0]),
                                []))
                            none)
                          none)
                        none)
                      none))
                  none)
                none)
              none)
            none)
          none))
      none)) := by kernel_rfl
theorem R29_is {xs : List AV} {fl : SF} {f : Int} (hu : intsB .u8 xs = true) (hL : xs.length ≤ 1000000) :
    ∃ fl', R29 [.fs 1 xs fl, .int .i64 f] = some (.ret (.tup [.fs 1 (clearX xs f) fl', .int .i64 (clearE xs.length f)]), []) := by
  show ∃ fl', S29 _ [] encK = _
  unfold clearX clearE
  rw [N29, wrap8 hL]
  by_cases h1 : f < 0
  · exact ⟨.nil, by rw [decide_eq_true h1]; rfl⟩
  rw [decide_eq_false h1]
  by_cases h2 : f > 8 * (xs.length : Int)
  · exact ⟨.nil, by rw [decide_eq_true (show f > ((8 * xs.length : Nat) : Int) by omega), decide_eq_true h2]; rfl⟩
  rw [decide_eq_false (show ¬ f > ((8 * xs.length : Nat) : Int) by omega), decide_eq_false h2]
  rw [decide_eq_true hL, hu]
  by_cases h4 : xs.length = 0
  · have hx : xs = [] := List.eq_nil_of_length_eq_zero h4
    subst hx
    obtain rfl : f = 0 := by simp at h2; omega
    exact ⟨.zc, rfl⟩
  · refine ⟨.any, ?_⟩
    obtain ⟨f, rfl⟩ := Int.eq_ofNat_of_zero_le (show 0 ≤ f by omega)
    have hf : ∀ i, i < 8 * xs.length - f → noB i = 0 ∨ noB i = 1 := fun i _ => noB_01 i
    have hb := overL_bin (a := f) (binB_bitsF xs 0 (8 * xs.length)) (8 * xs.length - f) hf
    have hol : (overL (bitsF xs 0 (8 * xs.length)) f noB (8 * xs.length - f)).length = 8 * xs.length := by rw [overL_length, bitsF_length]
    have hps := put_same (a := f) hu (by omega) hf
    have hpl := putL_length xs f noB (8 * xs.length - f)
    have hp := putL_u8 (a := f) hu (8 * xs.length - f) hf
    have hpk := packG_ok (w := 8 * xs.length) (w2 := xs.length) (m := xs.length) (by omega) hb (by omega)
    rw [hol] at hpk
    have h8 : (8 * xs.length + 7) / 8 = xs.length := by omega
    rw [bytes_len (by omega), h8, wipeG_ok (bitsF_length _ _ _) (by omega) (by omega) (by omega), flatten_rep, Int.toNat_natCast, Int.toNat_natCast, Nat.mul_one, show List.replicate xs.length (AV.int IntKind.u8 0) = zeros xs.length from rfl, hpk, hps, take_all hpl, ints_flat hp, hpl, beq_self_eq_true, Nat.zero_add,
      show (xs.length == 0) = false from beq_eq_false_iff_ne.2 h4, show ((xs.length : Int) == 0) = false from beq_eq_false_iff_ne.2 (by omega), dnn', decide_eq_true (Int.le_refl _), decide_eq_true (show (xs.length : Int) * 1 ≤ 281474976710656 by omega), decide_eq_true (show (xs.length : Int) ≤ 281474976710656 by omega), decide_eq_true (Nat.le_refl _)]
    rfl

/-- ferryman/ferrymanlaw03.FieldLeads -/
noncomputable def T6 : List (FuncId × FSpec) := [(15, V15), (17, S17), (26, V26), (27, V27), (28, V28), (29, V29), (30, V30), (31, V31)]
theorem T6_ok : TabOK Try.prog T6 := TabOK.cons En15 V15_ok (TabOK.cons En17 S17_ok (TabOK.cons En26 V26_ok (TabOK.cons En27 V27_ok (TabOK.cons En28 V28_ok (TabOK.cons En29 V29_ok (TabOK.cons En30 V30_ok (TabOK.cons En31 V31_ok (TabOK.nil _))))))))
noncomputable def C6 : Ctx := (ctx E T6 [] [(0, [0, 1, 2]), (1, [0, 1, 2]), (2, [0, 1, 2, 7, 8]), (3, [0, 1, 2, 7, 8, 9, 10]), (4, [0, 1, 2, 7, 8, 9, 10, 11, 12]), (5, [0, 1, 7, 8, 9, 10, 11, 12, 13, 14]), (6, [6])] [] 77 70)
theorem C6_ok : CtxOK Try.prog C6 := ctx_ok E_ok E_flds mixed T6_ok
noncomputable def S6 : FSpec := inlineK C6 Try.f6
theorem S6_ok : SpecOK Try.prog 6 S6 := inlineK_ok C6_ok Try.func6 (fun _ _ => LoopsOK.none _)
theorem En6 : Enters Try.prog 6 := ⟨_, Try.func6, by decide, rfl⟩

end Go.Proofs.Ytkiipegoooldiaa

