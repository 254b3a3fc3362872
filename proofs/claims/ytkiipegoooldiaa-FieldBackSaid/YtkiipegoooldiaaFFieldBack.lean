import Derived.Test.YtkiipegoooldiaaA20
import Derived.Test.YtkiipegoooldiaaRows
import Derived.Test.YtkiipegoooldiaaPBack
namespace Go.Proofs.Ytkiipegoooldiaa
open Go.Abs Go.Pl

noncomputable def E : Env := envOf Try.prog
theorem E_ok : EnvOK Try.prog E := envOf_ok _
theorem E_flds : FieldsOK E := fieldsB_ok (by kernel_rfl)
theorem mixed : Try.prog.follows .mixedOrders = true := by kernel_rfl
/-- ferryman/ferrymanlaw03.cut -/
noncomputable def T15 : List (FuncId × FSpec) := []
theorem T15_ok : TabOK Try.prog T15 := TabOK.nil _
noncomputable def C15 : Ctx := (ctx E T15 [] [(0, [0]), (1, [0, 5]), (2, [2]), (3, [2])] [] 9 70)
theorem C15_ok : CtxOK Try.prog C15 := ctx_ok E_ok E_flds mixed T15_ok
noncomputable def S15 : FSpec := inlineK C15 Try.f15
theorem S15_ok : SpecOK Try.prog 15 S15 := inlineK_ok C15_ok Try.func15 (fun _ _ => LoopsOK.none _)
theorem En15 : Enters Try.prog 15 := ⟨_, Try.func15, by decide, rfl⟩
noncomputable def R15 (args : List AV) : Res := S15 args [] encK
noncomputable def V15 : FSpec := leafK (.ints .u8) R15
theorem V15_ok : SpecOK Try.prog 15 V15 := leafK_ok S15_ok (fun _ => rfl)
theorem N15 (xs : List AV) (fl : SF) : S15 [.fs 1 xs fl] [] encK =
  aIf (decide ((↑xs.length : Int) > 200))
  (aIf (decide (200 ≤ (↑xs.length : Int))) (some (AEnd.ret (AV.fs 1 (List.drop 0 (List.take 200 xs)) fl), [])) none)
  (some (AEnd.ret (AV.fs 1 xs fl), [])) := by kernel_rfl
theorem R15_is {xs : List AV} {fl : SF} : R15 [.fs 1 xs fl] = some (.ret (.fs 1 (xs.take 200) fl), []) := by
  show S15 _ [] encK = _
  rw [N15]
  by_cases h : xs.length > 200
  · rw [aIf_pos (decide_eq_true (by omega)), aIf_pos (decide_eq_true (by omega))]; rfl
  · rw [aIf_neg (decide_eq_false (by omega)), List.take_of_length_le (by omega)]

/-- ferryman/field.there -/
noncomputable def T52 : List (FuncId × FSpec) := []
theorem T52_ok : TabOK Try.prog T52 := TabOK.nil _
noncomputable def C52 : Ctx := (ctx E T52 [] [(0, [0, 1, 2]), (1, [6])] [] 29 70)
theorem C52_ok : CtxOK Try.prog C52 := ctx_ok E_ok E_flds mixed T52_ok
noncomputable def S52 : FSpec := inlineK C52 Try.f52
theorem S52_ok : SpecOK Try.prog 52 S52 := inlineK_ok C52_ok Try.func52 (fun _ _ => LoopsOK.none _)
theorem En52 : Enters Try.prog 52 := ⟨_, Try.func52, by decide, rfl⟩
noncomputable def R52 (args : List AV) : Res := S52 args [] encK
noncomputable def V52 : FSpec := leafK (.bool) R52
theorem V52_ok : SpecOK Try.prog 52 V52 := leafK_ok S52_ok (fun _ => rfl)
theorem N52 (xs : List AV) (fl : SF) (a n : Int) : S52 [.fs 1 xs fl, .int .i64 a, .int .i64 n] [] encK =
  aIf (decide (a ≥ 0))
  (aIf (decide (n ≥ 0))
    (aIf (decide (n ≤ IntKind.i64.wrap (8 * (↑xs.length : Int))))
      (some (AEnd.ret (AV.bool (decide (a ≤ IntKind.i64.wrap (IntKind.i64.wrap (8 * (↑xs.length : Int)) - n)))), []))
      (some (AEnd.ret (AV.bool false), [])))
    (some (AEnd.ret (AV.bool false), [])))
  (some (AEnd.ret (AV.bool false), [])) := by kernel_rfl
theorem R52_is {xs : List AV} {fl : SF} {a n : Int} (hL : xs.length ≤ 1000000) : R52 [.fs 1 xs fl, .int .i64 a, .int .i64 n] = some (.ret (.bool (thereB xs.length a n)), []) := by
  show S52 _ [] encK = _
  rw [N52]
  exact there_law hL (fun b => some (.ret (.bool b), []))

/-- ferryman/field.wide -/
noncomputable def T53 : List (FuncId × FSpec) := []
theorem T53_ok : TabOK Try.prog T53 := TabOK.nil _
noncomputable def C53 : Ctx := (ctx E T53 [] [(0, [0, 1]), (1, [4])] [] 14 70)
theorem C53_ok : CtxOK Try.prog C53 := ctx_ok E_ok E_flds mixed T53_ok
noncomputable def S53 : FSpec := inlineK C53 Try.f53
theorem S53_ok : SpecOK Try.prog 53 S53 := inlineK_ok C53_ok Try.func53 (fun _ _ => LoopsOK.none _)
theorem En53 : Enters Try.prog 53 := ⟨_, Try.func53, by decide, rfl⟩
noncomputable def R53 (args : List AV) : Res := S53 args [] encK
noncomputable def V53 : FSpec := leafK (.bool) R53
theorem V53_ok : SpecOK Try.prog 53 V53 := leafK_ok S53_ok (fun _ => rfl)
theorem N53 (v n : Int) : S53 [.int .u64 v, .int .i64 n] [] encK =
  aIf (decide (n < 64))
  (aIf (decide (IntKind.u64.wrap n < 0)) none
    (some (AEnd.ret (AV.bool (v.fdiv (2 ^ min (IntKind.u64.wrap n).toNat 64) != 0)), [])))
  (some (AEnd.ret (AV.bool false), [])) := by kernel_rfl
theorem R53_is {v n : Int} (hn : 0 ≤ n) : R53 [.int .u64 v, .int .i64 n] = some (.ret (.bool (!fitB v n)), []) := by
  show S53 _ [] encK = _
  rw [N53]
  exact wide_law hn (fun b => some (.ret (.bool b), []))

/-- slices.Clone[[]byte,byte] -/
noncomputable def T54 : List (FuncId × FSpec) := []
theorem T54_ok : TabOK Try.prog T54 := TabOK.nil _
noncomputable def C54 : Ctx := (ctx E T54 [] [(0, [0]), (1, [0, 4]), (2, [2]), (3, [2])] [] 8 70)
theorem C54_ok : CtxOK Try.prog C54 := ctx_ok E_ok E_flds mixed T54_ok
noncomputable def S54 : FSpec := inlineK C54 Try.f54
theorem S54_ok : SpecOK Try.prog 54 S54 := inlineK_ok C54_ok Try.func54 (fun _ _ => LoopsOK.none _)
theorem En54 : Enters Try.prog 54 := ⟨_, Try.func54, by decide, rfl⟩
noncomputable def R54 (args : List AV) : Res := S54 args [] encK
noncomputable def V54 : FSpec := leafK (.ints .u8) R54
theorem V54_ok : SpecOK Try.prog 54 V54 := leafK_ok S54_ok (fun _ => rfl)

noncomputable def W54 : FSpec := liveK C54 Try.f54
theorem W54_ok : SpecOK Try.prog 54 W54 := liveK_ok C54_ok Try.func54 (fun _ _ => LoopsOK.none _)

/-- ferryman/field.set -/
noncomputable def T55 : List (FuncId × FSpec) := []
theorem T55_ok : TabOK Try.prog T55 := TabOK.nil _
noncomputable def C55 : Ctx := (ctx E T55 [] [(0, [0, 1, 2, 6]), (1, [0, 1, 2, 6]), (2, [0, 1, 6, 21]), (3, [])] [] 30 70)
theorem C55_ok : CtxOK Try.prog C55 := ctx_ok E_ok E_flds mixed T55_ok
noncomputable def B55 : FSpec := inlineK C55 Try.f55
noncomputable def S55 : FSpec := fun args H k => match args, H with
  | [.sl 0 ver 0 len 1, .int .i64 i, .int .u64 v], (.cells w ys :: rest) => aIf (setG w ver len ys i v) (k (.ret (.tup [])) (.cells ver (setV ys i.toNat (v % 2)) :: rest)) none
  | _, _ => none
theorem B55_ok : SpecOK Try.prog 55 B55 := inlineK_ok C55_ok Try.func55 (fun _ _ => LoopsOK.none _)
theorem N55 (w ver len : Nat) (ys : List AV) (i v : Int) (rest : AH) (k : KE) : B55 [.sl 0 ver 0 len 1, .int .i64 i, .int .u64 v] (.cells w ys :: rest) k =
  aIf (decide (IntKind.i64.wrap (7 - i.tmod 8) < 0)) none
  (aIf (decide (0 ≤ IntKind.i64.wrap (i.tdiv 8)))
    (aIf (decide (IntKind.i64.wrap (i.tdiv 8) < (↑len : Int)))
      (aIf (w == ver)
        (aIf (decide (0 + (IntKind.i64.wrap (i.tdiv 8)).toNat * 1 + 1 ≤ ys.length))
          (aIf ((ys.getD (0 + (IntKind.i64.wrap (i.tdiv 8)).toNat * 1) AV.junk).isInt IntKind.u8)
            (aIf (decide (0 ≤ IntKind.i64.wrap (i.tdiv 8)))
              (aIf (decide (IntKind.i64.wrap (i.tdiv 8) < (↑len : Int)))
                (aIf (w == ver)
                  (aIf (decide (0 + (IntKind.i64.wrap (i.tdiv 8)).toNat * 1 + 1 ≤ ys.length))
                    (aIf (IntKind.u64.wrap (↑(BitVec.ofInt 64 v &&& BitVec.ofInt 64 1).toNat : Int) == 1)
                      (aIf (decide (0 ≤ IntKind.i64.wrap (i.tdiv 8)))
                        (aIf (decide (IntKind.i64.wrap (i.tdiv 8) < (↑len : Int)))
                          (aIf (ver == ver)
                            (aIf
                              (decide
                                (0 + (IntKind.i64.wrap (i.tdiv 8)).toNat * 1 + 1 ≤
                                  (ys.set (0 + (IntKind.i64.wrap (i.tdiv 8)).toNat * 1)
                                      (AV.int IntKind.u8
                                        (IntKind.u8.wrap
                                          (↑(BitVec.ofInt 8
                                                    (ys.getD (0 + (IntKind.i64.wrap (i.tdiv 8)).toNat * 1)
                                                        AV.junk).toInt &&&
                                                  ~~~BitVec.ofInt 8
                                                      (IntKind.u8.wrap
                                                        (1 *
                                                          2 ^ min (IntKind.i64.wrap (7 - i.tmod 8)).toNat 8))).toNat :
                                            Int)))).length))
                              (aIf
                                (((ys.set (0 + (IntKind.i64.wrap (i.tdiv 8)).toNat * 1)
                                          (AV.int IntKind.u8
                                            (IntKind.u8.wrap
                                              (↑(BitVec.ofInt 8
                                                        (ys.getD (0 + (IntKind.i64.wrap (i.tdiv 8)).toNat * 1)
                                                            AV.junk).toInt &&&
                                                      ~~~BitVec.ofInt 8
                                                          (IntKind.u8.wrap
                                                            (1 *
                                                              2 ^
                                                                min (IntKind.i64.wrap (7 - i.tmod 8)).toNat 8))).toNat :
                                                Int)))).getD
                                      (0 + (IntKind.i64.wrap (i.tdiv 8)).toNat * 1) AV.junk).isInt
                                  IntKind.u8)
                                (aIf (decide (0 ≤ IntKind.i64.wrap (i.tdiv 8)))
                                  (aIf (decide (IntKind.i64.wrap (i.tdiv 8) < (↑len : Int)))
                                    (aIf (ver == ver)
                                      (aIf
                                        (decide
                                          (0 + (IntKind.i64.wrap (i.tdiv 8)).toNat * 1 + 1 ≤
                                            (ys.set (0 + (IntKind.i64.wrap (i.tdiv 8)).toNat * 1)
                                                (AV.int IntKind.u8
                                                  (IntKind.u8.wrap
                                                    (↑(BitVec.ofInt 8
                                                              (ys.getD (0 + (IntKind.i64.wrap (i.tdiv 8)).toNat * 1)
                                                                  AV.junk).toInt &&&
                                                            ~~~BitVec.ofInt 8
                                                                (IntKind.u8.wrap
                                                                  (1 *
                                                                    2 ^
                                                                      min (IntKind.i64.wrap (7 - i.tmod 8)).toNat
                                                                        8))).toNat :
                                                      Int)))).length))
                                        (k (AEnd.ret (AV.tup []))
                                          (AO.cells ver
                                              ((ys.set (0 + (IntKind.i64.wrap (i.tdiv 8)).toNat * 1)
                                                    (AV.int IntKind.u8
                                                      (IntKind.u8.wrap
                                                        (↑(BitVec.ofInt 8
                                                                  (ys.getD (0 + (IntKind.i64.wrap (i.tdiv 8)).toNat * 1)
                                                                      AV.junk).toInt &&&
                                                                ~~~BitVec.ofInt 8
                                                                    (IntKind.u8.wrap
                                                                      (1 *
                                                                        2 ^
                                                                          min (IntKind.i64.wrap (7 - i.tmod 8)).toNat
                                                                            8))).toNat :
                                                          Int)))).set
                                                (0 + (IntKind.i64.wrap (i.tdiv 8)).toNat * 1)
                                                (AV.int IntKind.u8
                                                  (IntKind.u8.wrap
                                                    (↑(BitVec.ofInt 8
                                                              ((ys.set (0 + (IntKind.i64.wrap (i.tdiv 8)).toNat * 1)
                                                                      (AV.int IntKind.u8
                                                                        (IntKind.u8.wrap
                                                                          (↑(BitVec.ofInt 8
                                                                                    (ys.getD
                                                                                        (0 +
                                                                                          (IntKind.i64.wrap
                                                                                                (i.tdiv 8)).toNat *
                                                                                            1)
                                                                                        AV.junk).toInt &&&
                                                                                  ~~~BitVec.ofInt 8
                                                                                      (IntKind.u8.wrap
                                                                                        (1 *
                                                                                          2 ^
                                                                                            min
                                                                                              (IntKind.i64.wrap
                                                                                                  (7 - i.tmod 8)).toNat
                                                                                              8))).toNat :
                                                                            Int)))).getD
                                                                  (0 + (IntKind.i64.wrap (i.tdiv 8)).toNat * 1)
                                                                  AV.junk).toInt |||
                                                            BitVec.ofInt 8
                                                              (IntKind.u8.wrap
                                                                (1 *
                                                                  2 ^
                                                                    min (IntKind.i64.wrap (7 - i.tmod 8)).toNat
                                                                      8))).toNat :
                                                      Int)))) ::
                                            rest))
                                        none)
                                      none)
                                    none)
                                  none)
                                none)
                              none)
                            none)
                          none)
                        none)
                      (k (AEnd.ret (AV.tup []))
                        (AO.cells ver
                            (ys.set (0 + (IntKind.i64.wrap (i.tdiv 8)).toNat * 1)
                              (AV.int IntKind.u8
                                (IntKind.u8.wrap
                                  (↑(BitVec.ofInt 8
                                            (ys.getD (0 + (IntKind.i64.wrap (i.tdiv 8)).toNat * 1) AV.junk).toInt &&&
                                          ~~~BitVec.ofInt 8
                                              (IntKind.u8.wrap
                                                (1 * 2 ^ min (IntKind.i64.wrap (7 - i.tmod 8)).toNat 8))).toNat :
                                    Int)))) ::
                          rest)))
                    none)
                  none)
                none)
              none)
            none)
          none)
        none)
      none)
    none) := by kernel_rfl
theorem S55_ok : SpecOK Try.prog 55 S55 := by
  refine B55_ok.turn fun args H => ?_
  unfold S55
  split
  · rename_i ver len i v w ys rest
    rcases Bool.eq_false_or_eq_true (setG w ver len ys i v) with hp | hp
    · refine .inr fun k => ?_
      rw [aIf_pos hp, N55]
      obtain ⟨rfl, rfl, hL, hu, hi0, hi1, hv0, hv1⟩ := setG_of hp
      obtain ⟨j, rfl⟩ := Int.eq_ofNat_of_zero_le hi0
      have hj : j / 8 < ys.length := by omega
      obtain ⟨x, hx, he⟩ := u8_get hu (j / 8) hj
      have hs : 7 - j % 8 < 8 := by omega
      have e1 : IntKind.i64.wrap ((j : Int).tdiv 8) = ((j / 8 : Nat) : Int) := div8 (by omega)
      have e2 := sh7 j
      have e3 : min (7 - j % 8) 8 = 7 - j % 8 := by omega
      have e4 : decide (((j / 8 : Nat) : Int) < (ys.length : Int)) = true := decide_eq_true (by omega)
      have e5 : decide (j / 8 + 1 ≤ ys.length) = true := decide_eq_true (by omega)
      have e6 : IntKind.u64.wrap (v % 2) = v % 2 := u64n (by omega) (by omega)
      have r0 := setByte_range (b := 0) hx hs (.inl rfl)
      have r1 := setByte_range (b := 1) hx hs (.inr rfl)
      simp only [e1, e2, e3, e4, e5, dnn, dnn', Int.toNat_natCast, Nat.zero_add, Nat.mul_one, Int.one_mul, he, isInt_self, beq_self_eq_true, aIf_true, aIf_false, and1 hv0 hv1, e6, u8pow hs, AV.toInt, byte_and hx hs, u8n r0.1 r0.2,
        List.length_set, getD_set_self hj, byte_or hx hs, u8n r1.1 r1.2, List.set_set, setV]
      rcases (by omega : v % 2 = 0 ∨ v % 2 = 1) with h2 | h2
      · rw [h2]; rfl
      · rw [h2]; rfl
    · exact .inl fun k => by rw [aIf_neg hp]
  · exact .inl fun k => rfl
theorem En55 : Enters Try.prog 55 := ⟨_, Try.func55, by decide, rfl⟩

/-- ferryman/field.Put -/
noncomputable def T16 : List (FuncId × FSpec) := [(52, V52), (53, V53), (54, W54), (55, S55)]
theorem T16_ok : TabOK Try.prog T16 := TabOK.cons En52 V52_ok (TabOK.cons En53 V53_ok (TabOK.cons En54 W54_ok (TabOK.cons En55 S55_ok (TabOK.nil _))))
noncomputable def L16_7 : ATs → AH → KC → Res := fun ts H k => match ts, H with
  | [(1, .int .i64 a), (2, .int .i64 n), (3, .int .u64 v), (10, .sl 0 ver 0 len 1), (26, .int .i64 x), (27, .int .i64 y)], [.cells w ys] => aIf (putG w ver len ys a n v x y) (k (.exit 0) [(1, .int .i64 a), (2, .int .i64 n), (3, .int .u64 v), (10, .sl 0 ver 0 len 1), (26, .int .i64 x), (27, .int .i64 x), (28, .bool false)] [.cells ver (putL ys a.toNat (vbit v x.toNat) x.toNat)]) none
  | [(1, .int .i64 a), (2, .int .i64 n), (3, .int .u64 v), (10, .fs 1 xs fl), (26, .int .i64 x), (27, .int .i64 y)], [] => aIf (x == 0 && y == 0) (k (.exit 0) [(1, .int .i64 a), (2, .int .i64 n), (3, .int .u64 v), (10, .fs 1 xs fl), (26, .int .i64 x), (27, .int .i64 y), (28, .bool false)] []) none
  | _, _ => none
noncomputable def C16 : Ctx := (ctx E T16 [(7, L16_7)] [(0, [0, 1, 2, 3]), (1, [0, 1, 2, 3, 20]), (2, [8, 9]), (3, [0, 1, 2, 3, 23]), (4, [8, 9]), (5, [1, 2, 3, 10]), (6, [1, 2, 3, 10, 26, 27]), (7, [1, 2, 3, 10, 26, 27, 28]), (8, [1, 2, 3, 10, 11, 26, 27]), (9, [1, 2, 3, 10, 26, 27]), (10, [1, 2, 3, 10, 26, 27]), (11, [8, 9]), (1000007, [1, 2, 3, 10, 26, 27])] [54] 44 70)
theorem C16_ok : CtxOK Try.prog C16 := ctx_ok E_ok E_flds mixed T16_ok
theorem C16_l0 : C16.loop (loopId (loopB Try.f16 0)) = some L16_7 := by kernel_rfl
theorem L16_7_in : LoopsOK C16 (loopB Try.f16 0) := LoopsOK.within 0 (by kernel_rfl) (fun j hj S hS => by
  omega)
theorem M16_7a (a n v : Int) (ver len : Nat) (x y : Int) (w : Nat) (ys : List AV) (k : KC) : headedK C16 (loopB Try.f16 0) [(1, .int .i64 a), (2, .int .i64 n), (3, .int .u64 v), (10, .sl 0 ver 0 len 1), (26, .int .i64 x), (27, .int .i64 y)] [.cells w ys] k =
  aIf (decide (y < x))
  (aIf (decide (IntKind.u64.wrap (IntKind.i64.wrap (IntKind.i64.wrap (n - 1) - y)) < 0)) none
    (aIf
      (Pl.setG w ver len ys (IntKind.i64.wrap (a + y))
        (v.fdiv (2 ^ min (IntKind.u64.wrap (IntKind.i64.wrap (IntKind.i64.wrap (n - 1) - y))).toNat 64)))
      (k AExit.normal
        [(1, AV.int IntKind.i64 a), (2, AV.int IntKind.i64 n), (3, AV.int IntKind.u64 v), (10, AV.sl 0 ver 0 len 1),
          (26, AV.int IntKind.i64 x), (27, AV.int IntKind.i64 (IntKind.i64.wrap (y + 1)))]
        [AO.cells ver
            (Pl.setV ys (IntKind.i64.wrap (a + y)).toNat
              (v.fdiv (2 ^ min (IntKind.u64.wrap (IntKind.i64.wrap (IntKind.i64.wrap (n - 1) - y))).toNat 64) % 2))])
      none))
  (k (AExit.exit 0)
    [(1, AV.int IntKind.i64 a), (2, AV.int IntKind.i64 n), (3, AV.int IntKind.u64 v), (10, AV.sl 0 ver 0 len 1),
      (26, AV.int IntKind.i64 x), (27, AV.int IntKind.i64 y), (28, AV.bool (decide (y < x)))]
    [AO.cells w ys]) := by kernel_rfl
theorem M16_7b (a n v : Int) (xs : List AV) (fl : SF) (x y : Int) (k : KC) : headedK C16 (loopB Try.f16 0) [(1, .int .i64 a), (2, .int .i64 n), (3, .int .u64 v), (10, .fs 1 xs fl), (26, .int .i64 x), (27, .int .i64 y)] [] k =
  aIf (decide (y < x)) (aIf (decide (IntKind.u64.wrap (IntKind.i64.wrap (IntKind.i64.wrap (n - 1) - y)) < 0)) none none)
  (k (AExit.exit 0)
    [(1, AV.int IntKind.i64 a), (2, AV.int IntKind.i64 n), (3, AV.int IntKind.u64 v), (10, AV.fs 1 xs fl),
      (26, AV.int IntKind.i64 x), (27, AV.int IntKind.i64 y), (28, AV.bool (decide (y < x)))]
    []) := by kernel_rfl
theorem L16_7_ok : LoopSum C16 (loopB Try.f16 0) L16_7 := LoopSum.of C16_ok L16_7_in (fun ts H => by
  unfold L16_7
  split
  · rename_i a n v ver len x y w ys
    rcases Bool.eq_false_or_eq_true (putG w ver len ys a n v x y) with hp | hp
    · refine .inr ?_
      simp only [aIf_pos hp]
      obtain ⟨rfl, rfl, hL, hu, ha, rfl, rfl, hn0, hn1, han, hv0, hv1⟩ := putG_of hp
      obtain ⟨a, rfl⟩ := Int.eq_ofNat_of_zero_le ha
      obtain ⟨n, rfl⟩ := Int.eq_ofNat_of_zero_le hn0
      have main : ∀ d j : Nat, j + d = n → ∃ m, ∀ k, aIterK m (headedK C16 (loopB Try.f16 0)) [(1, .int .i64 (a : Int)), (2, .int .i64 (n : Int)), (3, .int .u64 v), (10, .sl 0 w 0 ys.length 1), (26, .int .i64 (n : Int)), (27, .int .i64 (j : Int))] [.cells w (putL ys a (vbit v n) j)] k =
          k (.exit 0) [(1, .int .i64 (a : Int)), (2, .int .i64 (n : Int)), (3, .int .u64 v), (10, .sl 0 w 0 ys.length 1), (26, .int .i64 (n : Int)), (27, .int .i64 (n : Int)), (28, .bool false)] [.cells w (putL ys a (vbit v n) n)] := by
        intro d
        induction d with
        | zero =>
          intro j hj
          obtain rfl : j = n := by omega
          refine ⟨1, fun k => ?_⟩
          rw [aIterK, M16_7a]
          simp only [dltf, aIf_false]
        | succ d ih =>
          intro j hj
          obtain ⟨m, hm⟩ := ih (j + 1) (by omega)
          refine ⟨m + 1, fun k => ?_⟩
          have r := shr_range hv0 hv1 (n - 1 - j)
          have e3 : min (n - 1 - j) 64 = n - 1 - j := by omega
          rw [aIterK, M16_7a, aIf_pos (dlt (by omega)), sh_n1 (by omega) (by omega), u64nn (by omega), dnn, aIf_false, i64a (by omega), i64s (by omega), Int.toNat_natCast, e3, shr_eq, Int.toNat_natCast,
            setG_ok (by rw [putL_length]) hL (putL_u8 hu j fun i _ => vbit_01 v n i) (by omega) (by omega) r.1 r.2, aIf_true]
          exact hm k
      exact (main n 0 (by omega)).imp fun m hm k => (hm k).symm
    · exact .inl fun k => by rw [aIf_neg hp]
  · rename_i a n v xs fl x y
    rcases Bool.eq_false_or_eq_true (x == 0 && y == 0) with hp | hp
    · refine .inr ?_
      simp only [aIf_pos hp]
      simp only [Bool.and_eq_true, beq_iff_eq] at hp
      obtain ⟨rfl, rfl⟩ := hp
      refine ⟨1, fun k => ?_⟩
      rw [aIterK, M16_7b]
      rfl
    · exact .inl fun k => by rw [aIf_neg hp]
  · exact .inl fun k => rfl)
theorem C16_loops : ∀ c, Try.f16.body = some c → LoopsOK C16 c := LoopsOK.of 1 (by kernel_rfl) (fun j hj S hS => by
  match j, hj with
  | 0, _ => rw [C16_l0] at hS; cases hS; exact L16_7_ok
  | n + 1, hj => omega)
noncomputable def S16 : FSpec := inlineK C16 Try.f16
theorem S16_ok : SpecOK Try.prog 16 S16 := inlineK_ok C16_ok Try.func16 C16_loops
theorem En16 : Enters Try.prog 16 := ⟨_, Try.func16, by decide, rfl⟩
noncomputable def R16 (args : List AV) : Res := S16 args [] encK
noncomputable def V16 : FSpec := leafK (.tup [.ints .u8, .int .i64]) R16
theorem V16_ok : SpecOK Try.prog 16 V16 := leafK_ok S16_ok (fun _ => rfl)
theorem N16a (xs : List AV) (a n v : Int) : S16 [.fs 1 xs .any, .int .i64 a, .int .i64 n, .int .u64 v] [] encK =
  aIf (decide (n > 64)) (some (AEnd.ret (AV.tup [AV.fs 1 [] SF.nil, AV.int IntKind.i64 30]), []))
  (aIf (shOK Sh.bool (R52 [AV.fs 1 xs SF.any, AV.int IntKind.i64 a, AV.int IntKind.i64 n]))
    (aIf (!(sel (R52 [AV.fs 1 xs SF.any, AV.int IntKind.i64 a, AV.int IntKind.i64 n]) []).toBool)
      (some (AEnd.ret (AV.tup [AV.fs 1 [] SF.nil, AV.int IntKind.i64 30]), []))
      (aIf (shOK Sh.bool (R53 [AV.int IntKind.u64 v, AV.int IntKind.i64 n]))
        (aIf (sel (R53 [AV.int IntKind.u64 v, AV.int IntKind.i64 n]) []).toBool
          (some (AEnd.ret (AV.tup [AV.fs 1 [] SF.nil, AV.int IntKind.i64 1]), []))
          (aIf (xs.length == 0)
            (aIf (n == 0 && true) (some (AEnd.ret (AV.tup [AV.fs 1 [] SF.zc, AV.int IntKind.i64 0]), [])) none)
            (aIf ((xs.length * 1).ble 140737488355328)
              (aIf ((List.flatMap AV.cells xs).length == xs.length * 1)
                (aIf (Pl.putG (xs.length * 1) (xs.length * 1) xs.length (List.flatMap AV.cells xs) a n v n 0)
                  (aIf (xs.length * 1 == xs.length * 1)
                    (aIf
                      (decide
                        (0 + xs.length * 1 ≤
                          (Pl.putL (List.flatMap AV.cells xs) a.toNat (Pl.vbit v n.toNat) n.toNat).length))
                      (aIf
                        (flatL
                          (List.take (xs.length * 1)
                            (List.drop 0 (Pl.putL (List.flatMap AV.cells xs) a.toNat (Pl.vbit v n.toNat) n.toNat))))
                        (some
                          (AEnd.ret
                              (AV.tup
                                [AV.fs 1
                                    (List.take xs.length
                                      (List.drop 0
                                        (Pl.putL (List.flatMap AV.cells xs) a.toNat (Pl.vbit v n.toNat) n.toNat)))
                                    SF.any,
                                  AV.int IntKind.i64 0]),
                            []))
                        none)
                      none)
                    none)
                  none)
                none)
              none)))
        none))
    none) := by kernel_rfl
theorem N16n (a n v : Int) : S16 [.fs 1 [] .nil, .int .i64 a, .int .i64 n, .int .u64 v] [] encK =
  aIf (decide (n > 64)) (some (AEnd.ret (AV.tup [AV.fs 1 [] SF.nil, AV.int IntKind.i64 30]), []))
  (aIf (shOK Sh.bool (R52 [AV.fs 1 [] SF.nil, AV.int IntKind.i64 a, AV.int IntKind.i64 n]))
    (aIf (!(sel (R52 [AV.fs 1 [] SF.nil, AV.int IntKind.i64 a, AV.int IntKind.i64 n]) []).toBool)
      (some (AEnd.ret (AV.tup [AV.fs 1 [] SF.nil, AV.int IntKind.i64 30]), []))
      (aIf (shOK Sh.bool (R53 [AV.int IntKind.u64 v, AV.int IntKind.i64 n]))
        (aIf (sel (R53 [AV.int IntKind.u64 v, AV.int IntKind.i64 n]) []).toBool
          (some (AEnd.ret (AV.tup [AV.fs 1 [] SF.nil, AV.int IntKind.i64 1]), []))
          (aIf (n == 0 && true) (some (AEnd.ret (AV.tup [AV.fs 1 [] SF.nil, AV.int IntKind.i64 0]), [])) none))
        none))
    none) := by kernel_rfl
theorem N16z (a n v : Int) : S16 [.fs 1 [] .zc, .int .i64 a, .int .i64 n, .int .u64 v] [] encK =
  aIf (decide (n > 64)) (some (AEnd.ret (AV.tup [AV.fs 1 [] SF.nil, AV.int IntKind.i64 30]), []))
  (aIf (shOK Sh.bool (R52 [AV.fs 1 [] SF.zc, AV.int IntKind.i64 a, AV.int IntKind.i64 n]))
    (aIf (!(sel (R52 [AV.fs 1 [] SF.zc, AV.int IntKind.i64 a, AV.int IntKind.i64 n]) []).toBool)
      (some (AEnd.ret (AV.tup [AV.fs 1 [] SF.nil, AV.int IntKind.i64 30]), []))
      (aIf (shOK Sh.bool (R53 [AV.int IntKind.u64 v, AV.int IntKind.i64 n]))
        (aIf (sel (R53 [AV.int IntKind.u64 v, AV.int IntKind.i64 n]) []).toBool
          (some (AEnd.ret (AV.tup [AV.fs 1 [] SF.nil, AV.int IntKind.i64 1]), []))
          (aIf (n == 0 && true) (some (AEnd.ret (AV.tup [AV.fs 1 [] SF.zc, AV.int IntKind.i64 0]), [])) none))
        none))
    none) := by kernel_rfl
theorem R16_fl {xs : List AV} {fl : SF} {a n v : Int} (hu : intsB .u8 xs = true) (hL : xs.length ≤ 1000000) (hf : fl ≠ .any → xs = []) (hv0 : 0 ≤ v) (hv1 : v < 18446744073709551616) :
    ∃ fl' : SF, (fl' ≠ .any → putX xs a n v = []) ∧ R16 [.fs 1 xs fl, .int .i64 a, .int .i64 n, .int .u64 v] = some (.ret (.tup [.fs 1 (putX xs a n v) fl', .int .i64 (putE xs.length a n v)]), []) := by
  show ∃ fl' : SF, (fl' ≠ .any → putX xs a n v = []) ∧ S16 _ [] encK = _
  have empty : ∀ (gl : SF), thereB 0 a n = true → n = 0 := fun _ h => by have := there_of h; omega
  unfold putX putE
  cases fl with
  | nil =>
    obtain rfl := hf (by simp)
    rw [N16n, R52_is (by simp), shOK_ret, has_bool, aIf_true]
    simp only [List.length_nil]
    by_cases h1 : n > 64
    · exact ⟨.nil, fun _ => (by rw [decide_eq_true h1]; rfl), (by rw [decide_eq_true h1]; rfl)⟩
    rw [decide_eq_false h1]
    simp only [aIf_false, Bool.false_or]
    cases h2 : thereB 0 a n
    · exact ⟨.nil, fun _ => rfl, rfl⟩
    have hth := there_of h2
    obtain rfl := empty .nil h2
    rw [R53_is (Int.le_refl _), shOK_ret, has_bool, aIf_true]
    cases h3 : fitB v 0
    · exact ⟨.nil, fun _ => rfl, rfl⟩
    · exact ⟨.nil, fun _ => rfl, rfl⟩
  | zc =>
    obtain rfl := hf (by simp)
    rw [N16z, R52_is (by simp), shOK_ret, has_bool, aIf_true]
    simp only [List.length_nil]
    by_cases h1 : n > 64
    · exact ⟨.nil, fun _ => (by rw [decide_eq_true h1]; rfl), (by rw [decide_eq_true h1]; rfl)⟩
    rw [decide_eq_false h1]
    simp only [aIf_false, Bool.false_or]
    cases h2 : thereB 0 a n
    · exact ⟨.nil, fun _ => rfl, rfl⟩
    have hth := there_of h2
    obtain rfl := empty .zc h2
    rw [R53_is (Int.le_refl _), shOK_ret, has_bool, aIf_true]
    cases h3 : fitB v 0
    · exact ⟨.nil, fun _ => rfl, rfl⟩
    · exact ⟨.zc, fun _ => rfl, rfl⟩
  | any =>
    rw [N16a, R52_is hL, shOK_ret, has_bool, aIf_true]
    by_cases h1 : n > 64
    · exact ⟨.nil, fun _ => (by rw [decide_eq_true h1]; rfl), (by rw [decide_eq_true h1]; rfl)⟩
    rw [decide_eq_false h1]
    simp only [aIf_false, Bool.false_or]
    cases h2 : thereB xs.length a n
    · exact ⟨.nil, fun _ => rfl, rfl⟩
    have hth := there_of h2
    rw [R53_is hth.2.1, shOK_ret, has_bool, aIf_true]
    cases h3 : fitB v n
    · exact ⟨.nil, fun _ => rfl, rfl⟩
    by_cases h4 : xs.length = 0
    · have hx : xs = [] := List.eq_nil_of_length_eq_zero h4
      subst hx
      obtain rfl := empty .any h2
      exact ⟨.zc, fun _ => rfl, rfl⟩
    · refine ⟨.any, fun h => absurd rfl h, ?_⟩
      have hp := putL_u8 (a := a.toNat) hu n.toNat (fun i _ => vbit_01 v n.toNat i)
      have hpl := putL_length xs a.toNat (vbit v n.toNat) n.toNat
      rw [ints_cells hu, Nat.mul_one, putG_ok hu hL h1 h2 hv0 hv1, beq_self_eq_true, Nat.zero_add, take_all hpl, ints_flat hp, hpl, show (xs.length == 0) = false from beq_eq_false_iff_ne.2 h4, Nat.ble_eq_true_of_le (by omega), decide_eq_true (Nat.le_refl _)]
      rfl
theorem R16_is {xs : List AV} {fl : SF} {a n v : Int} (hu : intsB .u8 xs = true) (hL : xs.length ≤ 1000000) (hf : fl ≠ .any → xs = []) (hv0 : 0 ≤ v) (hv1 : v < 18446744073709551616) :
    ∃ fl', R16 [.fs 1 xs fl, .int .i64 a, .int .i64 n, .int .u64 v] = some (.ret (.tup [.fs 1 (putX xs a n v) fl', .int .i64 (putE xs.length a n v)]), []) := by
  obtain ⟨f, _, e⟩ := R16_fl (a := a) (n := n) hu hL hf hv0 hv1
  exact ⟨f, e⟩

/-- ferryman/field.bit -/
noncomputable def T56 : List (FuncId × FSpec) := []
theorem T56_ok : TabOK Try.prog T56 := TabOK.nil _
noncomputable def C56 : Ctx := (ctx E T56 [] [(0, [0, 1]), (1, [4])] [] 16 70)
theorem C56_ok : CtxOK Try.prog C56 := ctx_ok E_ok E_flds mixed T56_ok
noncomputable def S56 : FSpec := inlineK C56 Try.f56
theorem S56_ok : SpecOK Try.prog 56 S56 := inlineK_ok C56_ok Try.func56 (fun _ _ => LoopsOK.none _)
theorem En56 : Enters Try.prog 56 := ⟨_, Try.func56, by decide, rfl⟩
noncomputable def R56 (args : List AV) : Res := S56 args [] encK
noncomputable def V56 : FSpec := leafK (.int .u64) R56
theorem V56_ok : SpecOK Try.prog 56 V56 := leafK_ok S56_ok (fun _ => rfl)
theorem N56 (xs : List AV) (fl : SF) (i : Int) : S56 [.fs 1 xs fl, .int .i64 i] [] encK =
  aIf (decide (0 ≤ IntKind.i64.wrap (i.tdiv 8)))
  (aIf (decide (IntKind.i64.wrap (i.tdiv 8) < (↑xs.length : Int)))
    (aIf ((xs.getD (IntKind.i64.wrap (i.tdiv 8)).toNat AV.junk).cells.length == 1)
      (aIf
        (([(xs.getD (IntKind.i64.wrap (i.tdiv 8)).toNat AV.junk).cells.getD 0 AV.junk].getD 0 AV.junk).isInt IntKind.u8)
        (aIf (decide (IntKind.i64.wrap (7 - i.tmod 8) < 0)) none
          (some
            (AEnd.ret
                (AV.int IntKind.u64
                  (IntKind.u64.wrap
                    (↑(BitVec.ofInt 64
                              (IntKind.u64.wrap
                                (([(xs.getD (IntKind.i64.wrap (i.tdiv 8)).toNat AV.junk).cells.getD 0 AV.junk].getD 0
                                        AV.junk).toInt.fdiv
                                  (2 ^ min (IntKind.i64.wrap (7 - i.tmod 8)).toNat 8))) &&&
                            BitVec.ofInt 64 1).toNat :
                      Int))),
              [])))
        none)
      none)
    none)
  none := by kernel_rfl
theorem R56_is {xs : List AV} {fl : SF} {j : Nat} (hu : intsB .u8 xs = true) (hL : xs.length ≤ 1000000) (hj : j < 8 * xs.length) : R56 [.fs 1 xs fl, .int .i64 (j : Int)] = some (.ret (.int .u64 (bitV xs j)), []) := by
  show S56 _ [] encK = _
  obtain ⟨x, hx, he⟩ := u8_get hu (j / 8) (by omega)
  have e1 : IntKind.i64.wrap ((j : Int).tdiv 8) = ((j / 8 : Nat) : Int) := div8 (by omega)
  have e2 := sh7 j
  have e3 : min (7 - j % 8) 8 = 7 - j % 8 := by omega
  have e4 : decide (((j / 8 : Nat) : Int) < (xs.length : Int)) = true := decide_eq_true (by omega)
  have r := shr_byte hx (7 - j % 8)
  have e6 : IntKind.u64.wrap ((x : Int) / 2 ^ (7 - j % 8)) = (x : Int) / 2 ^ (7 - j % 8) := u64n (by omega) (by omega)
  rw [N56]
  simp only [e1, e2, e3, e4, dnn, dnn', Int.toNat_natCast, he, AV.cells, List.length_singleton, List.getD_cons_zero, isInt_self, beq_self_eq_true, aIf_true, aIf_false, AV.toInt, shr_eq, e6, and1 (u := (x : Int) / 2 ^ (7 - j % 8)) (by omega) (by omega), u64n (x := (x : Int) / 2 ^ (7 - j % 8) % 2) (by omega) (by omega), bitV]
theorem bit_shape {b : Int} (h : 0 ≤ b ∧ b ≤ 1) : shOK (.int .u64) (some (.ret (.int .u64 b), [])) = true := by
  rw [shOK_ret, has_int, inK_u64, decide_eq_true (show 0 ≤ b by omega), decide_eq_true (show b ≤ 18446744073709551615 by omega)]; rfl


/-- ferryman/field.Get -/
noncomputable def T18 : List (FuncId × FSpec) := [(52, V52), (56, V56)]
theorem T18_ok : TabOK Try.prog T18 := TabOK.cons En52 V52_ok (TabOK.cons En56 V56_ok (TabOK.nil _))
noncomputable def L18_5 : ATs → AH → KC → Res := fun ts H k => match ts, H with
  | [(0, .fs 1 xs fl), (1, .int .i64 a), (8, .int .u64 v), (19, .int .i64 x), (20, .int .i64 y)], [] => aIf (getG xs a v x y) (k (.exit 0) [(0, .fs 1 xs fl), (1, .int .i64 a), (8, .int .u64 (getN xs a.toNat x.toNat)), (19, .int .i64 x), (20, .int .i64 x), (21, .bool false)] []) none
  | _, _ => none
noncomputable def C18 : Ctx := (ctx E T18 [(5, L18_5)] [(0, [0, 1, 2]), (1, [0, 1, 2, 18]), (2, [6, 7]), (3, [0, 1, 2, 8]), (4, [0, 1, 8, 19, 20]), (5, [0, 1, 8, 19, 20, 21]), (6, [0, 1, 8, 9, 19, 20]), (7, [0, 1, 8, 19, 20]), (8, [0, 1, 8, 19, 20]), (9, [6, 7]), (1000005, [0, 1, 8, 19, 20])] [] 33 70)
theorem C18_ok : CtxOK Try.prog C18 := ctx_ok E_ok E_flds mixed T18_ok
theorem C18_l0 : C18.loop (loopId (loopB Try.f18 0)) = some L18_5 := by kernel_rfl
theorem L18_5_in : LoopsOK C18 (loopB Try.f18 0) := LoopsOK.within 0 (by kernel_rfl) (fun j hj S hS => by
  omega)
theorem M18_5 (xs : List AV) (fl : SF) (a v x y : Int) (k : KC) : headedK C18 (loopB Try.f18 0) [(0, .fs 1 xs fl), (1, .int .i64 a), (8, .int .u64 v), (19, .int .i64 x), (20, .int .i64 y)] [] k =
  aIf (decide (y < x))
  (aIf (shOK (Sh.int IntKind.u64) (R56 [AV.fs 1 xs fl, AV.int IntKind.i64 (IntKind.i64.wrap (a + y))]))
    (k AExit.normal
      [(0, AV.fs 1 xs fl), (1, AV.int IntKind.i64 a),
        (8,
          AV.int IntKind.u64
            (IntKind.u64.wrap
              (↑(BitVec.ofInt 64 (IntKind.u64.wrap (v * 2)) |||
                      BitVec.ofInt 64
                        (sel (R56 [AV.fs 1 xs fl, AV.int IntKind.i64 (IntKind.i64.wrap (a + y))]) []).toInt).toNat :
                Int))),
        (19, AV.int IntKind.i64 x), (20, AV.int IntKind.i64 (IntKind.i64.wrap (y + 1)))]
      [])
    none)
  (k (AExit.exit 0)
    [(0, AV.fs 1 xs fl), (1, AV.int IntKind.i64 a), (8, AV.int IntKind.u64 v), (19, AV.int IntKind.i64 x),
      (20, AV.int IntKind.i64 y), (21, AV.bool (decide (y < x)))]
    []) := by kernel_rfl
theorem L18_5_ok : LoopSum C18 (loopB Try.f18 0) L18_5 := LoopSum.of C18_ok L18_5_in (fun ts H => by
  unfold L18_5
  split
  · rename_i xs fl a v x y
    rcases Bool.eq_false_or_eq_true (getG xs a v x y) with hp | hp
    · refine .inr ?_
      simp only [aIf_pos hp]
      obtain ⟨hu, hL, ha, rfl, rfl, hx0, hx1, hax⟩ := getG_of hp
      obtain ⟨a, rfl⟩ := Int.eq_ofNat_of_zero_le ha
      obtain ⟨n, rfl⟩ := Int.eq_ofNat_of_zero_le hx0
      have main : ∀ d j : Nat, j + d = n → ∃ m, ∀ k, aIterK m (headedK C18 (loopB Try.f18 0)) [(0, .fs 1 xs fl), (1, .int .i64 (a : Int)), (8, .int .u64 (getN xs a j)), (19, .int .i64 (n : Int)), (20, .int .i64 (j : Int))] [] k =
          k (.exit 0) [(0, .fs 1 xs fl), (1, .int .i64 (a : Int)), (8, .int .u64 (getN xs a n)), (19, .int .i64 (n : Int)), (20, .int .i64 (n : Int)), (21, .bool false)] [] := by
        intro d
        induction d with
        | zero =>
          intro j hj
          obtain rfl : j = n := by omega
          refine ⟨1, fun k => ?_⟩
          rw [aIterK, M18_5]
          simp only [Int.lt_irrefl, decide_false, aIf_false]
        | succ d ih =>
          intro j hj
          obtain ⟨m, hm⟩ := ih (j + 1) (by omega)
          refine ⟨m + 1, fun k => ?_⟩
          have e1 : IntKind.i64.wrap ((a : Int) + (j : Int)) = ((a + j : Nat) : Int) := by rw [← Int.natCast_add]; exact i64n (by omega)
          have e2 : IntKind.i64.wrap ((j : Int) + 1) = ((j + 1 : Nat) : Int) := by rw [← Int.natCast_succ]; exact i64n (by omega)
          have b1 := bitV_01 xs (a + j)
          have b2 := getN_range xs a j
          have b3 := pow2_le (show j ≤ 63 by omega)
          have b4 : (2 : Int) ^ 63 = 9223372036854775808 := rfl
          have e3 : IntKind.u64.wrap (getN xs a j * 2) = 2 * getN xs a j := by rw [Int.mul_comm]; exact u64n (by omega) (by omega)
          rw [aIterK, M18_5, aIf_pos (decide_eq_true (by omega)), e1, R56_is hu hL (by omega), shOK_ret, has_int, inK_u64, decide_eq_true (show 0 ≤ bitV xs (a + j) by omega), decide_eq_true (show bitV xs (a + j) ≤ 18446744073709551615 by omega), Bool.and_self, aIf_true, e2, e3]
          have e4 : (sel (some (AEnd.ret (AV.int IntKind.u64 (bitV xs (a + j))), [])) []).toInt = bitV xs (a + j) := rfl
          rw [e4, or1 b2.1 (by omega) b1.1 b1.2, u64n (by omega) (by omega)]
          exact hm k
      exact (main n 0 (by omega)).imp fun m hm k => (hm k).symm
    · exact .inl fun k => by rw [aIf_neg hp]
  · exact .inl fun k => rfl)
theorem C18_loops : ∀ c, Try.f18.body = some c → LoopsOK C18 c := LoopsOK.of 1 (by kernel_rfl) (fun j hj S hS => by
  match j, hj with
  | 0, _ => rw [C18_l0] at hS; cases hS; exact L18_5_ok
  | n + 1, hj => omega)
noncomputable def S18 : FSpec := inlineK C18 Try.f18
theorem S18_ok : SpecOK Try.prog 18 S18 := inlineK_ok C18_ok Try.func18 C18_loops
theorem En18 : Enters Try.prog 18 := ⟨_, Try.func18, by decide, rfl⟩
noncomputable def R18 (args : List AV) : Res := S18 args [] encK
noncomputable def V18 : FSpec := leafK (.tup [.int .u64, .int .i64]) R18
theorem V18_ok : SpecOK Try.prog 18 V18 := leafK_ok S18_ok (fun _ => rfl)
theorem N18 (xs : List AV) (fl : SF) (a n : Int) : S18 [.fs 1 xs fl, .int .i64 a, .int .i64 n] [] encK =
  aIf (decide (n > 64)) (some (AEnd.ret (AV.tup [AV.int IntKind.u64 0, AV.int IntKind.i64 30]), []))
  (aIf (shOK Sh.bool (R52 [AV.fs 1 xs fl, AV.int IntKind.i64 a, AV.int IntKind.i64 n]))
    (aIf (!(sel (R52 [AV.fs 1 xs fl, AV.int IntKind.i64 a, AV.int IntKind.i64 n]) []).toBool)
      (some (AEnd.ret (AV.tup [AV.int IntKind.u64 0, AV.int IntKind.i64 30]), []))
      (aIf (Pl.getG xs a 0 n 0)
        (some (AEnd.ret (AV.tup [AV.int IntKind.u64 (Pl.getN xs a.toNat n.toNat), AV.int IntKind.i64 0]), [])) none))
    none) := by kernel_rfl
theorem R18_is {xs : List AV} {fl : SF} {a n : Int} (hu : intsB .u8 xs = true) (hL : xs.length ≤ 1000000) : R18 [.fs 1 xs fl, .int .i64 a, .int .i64 n] = some (.ret (.tup [.int .u64 (getX xs a n), .int .i64 (getE xs.length a n)]), []) := by
  show S18 _ [] encK = _
  rw [N18, R52_is hL, shOK_ret, has_bool, aIf_true]
  unfold getX getE
  by_cases h1 : n > 64
  · rw [decide_eq_true h1]; rfl
  · rw [decide_eq_false h1, aIf_false]
    cases h2 : thereB xs.length a n
    · rfl
    · rw [getG_ok hu hL h1 h2]; rfl

/-- ferryman/ferrymanlaw03.alive -/
noncomputable def T17 : List (FuncId × FSpec) := [(16, V16), (18, V18)]
theorem T17_ok : TabOK Try.prog T17 := TabOK.cons En16 V16_ok (TabOK.cons En18 V18_ok (TabOK.nil _))
noncomputable def C17 : Ctx := (ctx E T17 [] [(0, []), (1, [1, 2]), (2, [1, 2, 3, 4]), (3, [0])] [] 30 70)
theorem C17_ok : CtxOK Try.prog C17 := ctx_ok E_ok E_flds mixed T17_ok
noncomputable def B17 : FSpec := inlineK C17 Try.f17
noncomputable def S17 : FSpec := constK (AV.bool true)
theorem B17_ok : SpecOK Try.prog 17 B17 := inlineK_ok C17_ok Try.func17 (fun _ _ => LoopsOK.none _)
theorem B17_is (k : KE) : B17 [] [] k = k (.ret (AV.bool true)) [] := by kernel_rfl
theorem S17_ok : SpecOK Try.prog 17 S17 := constK_ok B17_ok B17_is
theorem En17 : Enters Try.prog 17 := ⟨_, Try.func17, by decide, rfl⟩

/-- ferryman/ferrymanref03.Bit -/
noncomputable def T19 : List (FuncId × FSpec) := []
theorem T19_ok : TabOK Try.prog T19 := TabOK.nil _
noncomputable def C19 : Ctx := (ctx E T19 [] [(0, [0, 1]), (1, [4])] [] 16 70)
theorem C19_ok : CtxOK Try.prog C19 := ctx_ok E_ok E_flds mixed T19_ok
noncomputable def S19 : FSpec := inlineK C19 Try.f19
theorem S19_ok : SpecOK Try.prog 19 S19 := inlineK_ok C19_ok Try.func19 (fun _ _ => LoopsOK.none _)
theorem En19 : Enters Try.prog 19 := ⟨_, Try.func19, by decide, rfl⟩
noncomputable def R19 (args : List AV) : Res := S19 args [] encK
noncomputable def V19 : FSpec := leafK (.int .u64) R19
theorem V19_ok : SpecOK Try.prog 19 V19 := leafK_ok S19_ok (fun _ => rfl)
theorem N19 (xs : List AV) (fl : SF) (i : Int) : S19 [.fs 1 xs fl, .int .i64 i] [] encK =
  aIf (decide (0 ≤ IntKind.i64.wrap (i.tdiv 8)))
  (aIf (decide (IntKind.i64.wrap (i.tdiv 8) < (↑xs.length : Int)))
    (aIf ((xs.getD (IntKind.i64.wrap (i.tdiv 8)).toNat AV.junk).cells.length == 1)
      (aIf
        (([(xs.getD (IntKind.i64.wrap (i.tdiv 8)).toNat AV.junk).cells.getD 0 AV.junk].getD 0 AV.junk).isInt IntKind.u8)
        (aIf (decide (IntKind.i64.wrap (7 - i.tmod 8) < 0)) none
          (some
            (AEnd.ret
                (AV.int IntKind.u64
                  ((IntKind.u64.wrap
                        (([(xs.getD (IntKind.i64.wrap (i.tdiv 8)).toNat AV.junk).cells.getD 0 AV.junk].getD 0
                                AV.junk).toInt.fdiv
                          (2 ^ min (IntKind.i64.wrap (7 - i.tmod 8)).toNat 8))).tmod
                    2)),
              [])))
        none)
      none)
    none)
  none := by kernel_rfl
theorem R19_is {xs : List AV} {fl : SF} {j : Nat} (hu : intsB .u8 xs = true) (hL : xs.length ≤ 1000000) (hj : j < 8 * xs.length) : R19 [.fs 1 xs fl, .int .i64 (j : Int)] = some (.ret (.int .u64 (bitV xs j)), []) := by
  show S19 _ [] encK = _
  obtain ⟨x, hx, he⟩ := u8_get hu (j / 8) (by omega)
  have e1 : IntKind.i64.wrap ((j : Int).tdiv 8) = ((j / 8 : Nat) : Int) := div8 (by omega)
  have e2 := sh7 j
  have e3 : min (7 - j % 8) 8 = 7 - j % 8 := by omega
  have e4 : decide (((j / 8 : Nat) : Int) < (xs.length : Int)) = true := decide_eq_true (by omega)
  have r := shr_byte hx (7 - j % 8)
  have e6 : IntKind.u64.wrap ((x : Int) / 2 ^ (7 - j % 8)) = (x : Int) / 2 ^ (7 - j % 8) := u64n (by omega) (by omega)
  rw [N19]
  simp only [e1, e2, e3, e4, dnn, dnn', Int.toNat_natCast, he, AV.cells, List.length_singleton, List.getD_cons_zero, isInt_self, beq_self_eq_true, aIf_true, aIf_false, AV.toInt, shr_eq, e6, Int.tmod_eq_emod_of_nonneg r.1, bitV]

/-- ferryman/field.Text -/
noncomputable def T20 : List (FuncId × FSpec) := [(52, V52), (56, V56)]
theorem T20_ok : TabOK Try.prog T20 := TabOK.cons En52 V52_ok (TabOK.cons En56 V56_ok (TabOK.nil _))
noncomputable def L20_5 : ATs → AH → KC → Res := fun ts H k => match ts, H with
  | [(0, .fs 1 xs fl), (1, .int .i64 a), (8, .sl 0 ver 0 len 1), (18, .int .i64 x), (19, .int .i64 i)], [.cells w ys] => aIf (textG w ver len ys xs a x i) (k (.exit 0) [(0, .fs 1 xs fl), (1, .int .i64 a), (8, .sl 0 ver 0 len 1), (18, .int .i64 x), (19, .int .i64 x), (20, .bool false)] [.cells ver (setT ys xs a.toNat len)]) none
  | [(0, .fs 1 xs fl), (1, .int .i64 a), (8, .fs 1 zs gl), (18, .int .i64 x), (19, .int .i64 i)], [] => aIf (x == 0 && i == 0) (k (.exit 0) [(0, .fs 1 xs fl), (1, .int .i64 a), (8, .fs 1 zs gl), (18, .int .i64 x), (19, .int .i64 x), (20, .bool false)] []) none
  | _, _ => none
noncomputable def C20 : Ctx := (ctx E T20 [(5, L20_5)] [(0, [0, 1, 2]), (1, [0, 1, 2, 14]), (2, [6, 7]), (3, [0, 1, 8]), (4, [0, 1, 8, 18, 19]), (5, [0, 1, 8, 18, 19, 20]), (6, [0, 1, 8, 9, 18, 19]), (7, [0, 1, 8, 18, 19]), (8, [0, 1, 8, 18, 19]), (9, [6, 7]), (1000005, [0, 1, 8, 18, 19])] [] 35 70)
theorem C20_ok : CtxOK Try.prog C20 := ctx_ok E_ok E_flds mixed T20_ok
theorem C20_l0 : C20.loop (loopId (loopB Try.f20 0)) = some L20_5 := by kernel_rfl
theorem L20_5_in : LoopsOK C20 (loopB Try.f20 0) := LoopsOK.within 0 (by kernel_rfl) (fun j hj S hS => by
  omega)
theorem M20_5a (xs : List AV) (fl : SF) (a x : Int) (ver len : Nat) (i : Int) (w : Nat) (ys : List AV) (k : KC) : headedK C20 (loopB Try.f20 0) [(0, .fs 1 xs fl), (1, .int .i64 a), (8, .sl 0 ver 0 len 1), (18, .int .i64 x), (19, .int .i64 i)] [.cells w ys] k =
  aIf (decide (i < x))
  (aIf (shOK (Sh.int IntKind.u64) (R56 [AV.fs 1 xs fl, AV.int IntKind.i64 (IntKind.i64.wrap (a + i))]))
    (aIf (decide (0 ≤ i))
      (aIf (decide (i < (↑len : Int)))
        (aIf (w == ver)
          (aIf (decide (0 + i.toNat * 1 + 1 ≤ ys.length))
            (k AExit.normal
              [(0, AV.fs 1 xs fl), (1, AV.int IntKind.i64 a), (8, AV.sl 0 ver 0 len 1), (18, AV.int IntKind.i64 x),
                (19, AV.int IntKind.i64 (IntKind.i64.wrap (i + 1)))]
              [AO.cells ver
                  (ys.set (0 + i.toNat * 1)
                    (AV.int IntKind.u8
                      (IntKind.u8.wrap
                        (48 +
                          IntKind.u8.wrap
                            (sel (R56 [AV.fs 1 xs fl, AV.int IntKind.i64 (IntKind.i64.wrap (a + i))]) []).toInt))))])
            none)
          none)
        none)
      none)
    none)
  (k (AExit.exit 0)
    [(0, AV.fs 1 xs fl), (1, AV.int IntKind.i64 a), (8, AV.sl 0 ver 0 len 1), (18, AV.int IntKind.i64 x),
      (19, AV.int IntKind.i64 i), (20, AV.bool (decide (i < x)))]
    [AO.cells w ys]) := by kernel_rfl
theorem M20_5b (xs : List AV) (fl : SF) (a x : Int) (zs : List AV) (gl : SF) (i : Int) (k : KC) : headedK C20 (loopB Try.f20 0) [(0, .fs 1 xs fl), (1, .int .i64 a), (8, .fs 1 zs gl), (18, .int .i64 x), (19, .int .i64 i)] [] k =
  aIf (decide (i < x))
  (aIf (shOK (Sh.int IntKind.u64) (R56 [AV.fs 1 xs fl, AV.int IntKind.i64 (IntKind.i64.wrap (a + i))]))
    (aIf (decide (0 ≤ i))
      (aIf (decide (i < (↑zs.length : Int))) (aIf ((zs.getD i.toNat AV.junk).cells.length == 1) none none) none) none)
    none)
  (k (AExit.exit 0)
    [(0, AV.fs 1 xs fl), (1, AV.int IntKind.i64 a), (8, AV.fs 1 zs gl), (18, AV.int IntKind.i64 x),
      (19, AV.int IntKind.i64 i), (20, AV.bool (decide (i < x)))]
    []) := by kernel_rfl
theorem L20_5_ok : LoopSum C20 (loopB Try.f20 0) L20_5 := LoopSum.of C20_ok L20_5_in (fun ts H => by
  unfold L20_5
  split
  · rename_i xs fl a ver len x i w ys
    rcases Bool.eq_false_or_eq_true (textG w ver len ys xs a x i) with hp | hp
    · refine .inr ?_
      simp only [aIf_pos hp]
      obtain ⟨rfl, rfl, hL, hu, ha, rfl, rfl, hx⟩ := textG_of hp
      obtain ⟨a, rfl⟩ := Int.eq_ofNat_of_zero_le ha
      have main : ∀ d j : Nat, j + d = ys.length → ∃ m, ∀ k, aIterK m (headedK C20 (loopB Try.f20 0)) [(0, .fs 1 xs fl), (1, .int .i64 (a : Int)), (8, .sl 0 w 0 ys.length 1), (18, .int .i64 (ys.length : Int)), (19, .int .i64 (j : Int))] [.cells w (setT ys xs a j)] k =
          k (.exit 0) [(0, .fs 1 xs fl), (1, .int .i64 (a : Int)), (8, .sl 0 w 0 ys.length 1), (18, .int .i64 (ys.length : Int)), (19, .int .i64 (ys.length : Int)), (20, .bool false)] [.cells w (setT ys xs a ys.length)] := by
        intro d
        induction d with
        | zero =>
          intro j hj
          obtain rfl : j = ys.length := by omega
          refine ⟨1, fun k => ?_⟩
          rw [aIterK, M20_5a, dltf]
          rfl
        | succ d ih =>
          intro j hj
          obtain ⟨m, hm⟩ := ih (j + 1) (by omega)
          have hjl : j < ys.length := by omega
          have b01 := bitV_01 xs (a + j)
          have hR := R56_is (fl := fl) (j := a + j) hu hL (by omega)
          have sb : sel (some (AEnd.ret (AV.int IntKind.u64 (bitV xs (a + j))), [])) [] = .int .u64 (bitV xs (a + j)) := rfl
          refine ⟨m + 1, fun k => ?_⟩
          rw [aIterK, M20_5a]
          simp only [dlt hjl, aIf_true, i64a (show a + j < 9223372036854775808 by omega), hR, shOK_ret, has_int, inK_u64, decide_eq_true (show 0 ≤ bitV xs (a + j) by omega), decide_eq_true (show bitV xs (a + j) ≤ 18446744073709551615 by omega), Bool.and_self, dnn', beq_self_eq_true, Int.toNat_natCast, Nat.mul_one, Nat.zero_add, decide_eq_true (show j + 1 ≤ (setT ys xs a j).length by rw [setT_length]; omega), sb, AV.toInt, i64s (show j + 1 < 9223372036854775808 by omega), u8n (show 0 ≤ bitV xs (a + j) by omega) (show bitV xs (a + j) ≤ 255 by omega), u8n (show 0 ≤ 48 + bitV xs (a + j) by omega) (show 48 + bitV xs (a + j) ≤ 255 by omega)]
          exact hm k
      exact (main ys.length 0 (by omega)).imp fun m hm k => (hm k).symm
    · exact .inl fun k => by rw [aIf_neg hp]
  · rename_i xs fl a zs gl x i
    rcases Bool.eq_false_or_eq_true (x == 0 && i == 0) with hp | hp
    · refine .inr ?_
      simp only [aIf_pos hp]
      simp only [Bool.and_eq_true, beq_iff_eq] at hp
      obtain ⟨rfl, rfl⟩ := hp
      refine ⟨1, fun k => ?_⟩
      rw [aIterK, M20_5b]
      rfl
    · exact .inl fun k => by rw [aIf_neg hp]
  · exact .inl fun k => rfl)
theorem C20_loops : ∀ c, Try.f20.body = some c → LoopsOK C20 c := LoopsOK.of 1 (by kernel_rfl) (fun j hj S hS => by
  match j, hj with
  | 0, _ => rw [C20_l0] at hS; cases hS; exact L20_5_ok
  | n + 1, hj => omega)
noncomputable def S20 : FSpec := inlineK C20 Try.f20
theorem S20_ok : SpecOK Try.prog 20 S20 := inlineK_ok C20_ok Try.func20 C20_loops
theorem En20 : Enters Try.prog 20 := ⟨_, Try.func20, by decide, rfl⟩
noncomputable def R20 (args : List AV) : Res := S20 args [] encK
noncomputable def V20 : FSpec := leafK (.tup [.str, .int .i64]) R20
theorem V20_ok : SpecOK Try.prog 20 V20 := leafK_ok S20_ok (fun _ => rfl)
theorem N20 (xs : List AV) (fl : SF) (a n : Int) : S20 [.fs 1 xs fl, .int .i64 a, .int .i64 n] [] encK =
  aIf (shOK Sh.bool (R52 [AV.fs 1 xs fl, AV.int IntKind.i64 a, AV.int IntKind.i64 n]))
  (aIf (!(sel (R52 [AV.fs 1 xs fl, AV.int IntKind.i64 a, AV.int IntKind.i64 n]) []).toBool)
    (some (AEnd.ret (AV.tup [AV.str (ByteArray.mk (Array.mk [])), AV.int IntKind.i64 30]), []))
    (aIf (decide (0 ≤ n))
      (aIf (decide (n ≤ n))
        (aIf (decide (n * 1 ≤ 281474976710656))
          (aIf (decide (n ≤ 281474976710656))
            (aIf (n == 0) (some (AEnd.ret (AV.tup [AV.str (ByteArray.mk (Array.mk [])), AV.int IntKind.i64 0]), []))
              (aIf
                (Pl.textG (n.toNat * 1) (n.toNat * 1) n.toNat (List.replicate n.toNat [AV.int IntKind.u8 0]).flatten xs
                  a (↑n.toNat : Int) 0)
                (aIf (n.toNat * 1 == n.toNat * 1)
                  (aIf
                    ((List.take (n.toNat * 1)
                          (List.drop 0
                            (Pl.setT (List.replicate n.toNat [AV.int IntKind.u8 0]).flatten xs a.toNat
                              n.toNat))).length ==
                      n.toNat)
                    (aIf
                      (allU8
                        (List.take (n.toNat * 1)
                          (List.drop 0
                            (Pl.setT (List.replicate n.toNat [AV.int IntKind.u8 0]).flatten xs a.toNat n.toNat))))
                      (some
                        (AEnd.ret
                            (AV.tup
                              [AV.str
                                  (ByteArray.mk
                                    (Array.mk
                                      (List.map (fun v => UInt8.ofNat v.toInt.toNat)
                                        (List.take (n.toNat * 1)
                                          (List.drop 0
                                            (Pl.setT (List.replicate n.toNat [AV.int IntKind.u8 0]).flatten xs a.toNat
                                              n.toNat)))))),
                                AV.int IntKind.i64 0]),
                          []))
                      none)
                    none)
                  none)
                none))
            none)
          none)
        none)
      none))
  none := by kernel_rfl
theorem R20_is {xs : List AV} {fl : SF} {a n : Int} (hu : intsB .u8 xs = true) (hL : xs.length ≤ 1000000) :
    R20 [.fs 1 xs fl, .int .i64 a, .int .i64 n] = some (.ret (.tup [.str (textV xs a n), .int .i64 (bif thereB xs.length a n then 0 else 30)]), []) := by
  show S20 _ [] encK = _
  unfold textV
  rw [N20, R52_is hL, shOK_ret, has_bool, aIf_true]
  cases h2 : thereB xs.length a n
  · rfl
  obtain ⟨h3, h4, h5⟩ := there_of h2
  obtain ⟨a, rfl⟩ := Int.eq_ofNat_of_zero_le h3
  obtain ⟨n, rfl⟩ := Int.eq_ofNat_of_zero_le h4
  by_cases h0 : n = 0
  · subst h0; rfl
  have hs := setT_length (zeros n) xs a n
  have hz : (zeros n).length = n := by simp [zeros]
  rw [hz] at hs
  have hg := textG_ok (w := n) (ys := zeros n) (xs := xs) (a := (a : Int)) hz hL hu h3 (by omega)
  have hsb : sel (some (AEnd.ret (AV.bool true), [])) [] = .bool true := rfl
  simp only [hsb, AV.toBool, Bool.not_true, aIf_false, cond_true, dnn', decide_eq_true (Int.le_refl (n : Int)), decide_eq_true (show (n : Int) * 1 ≤ 281474976710656 by omega), decide_eq_true (show (n : Int) ≤ 281474976710656 by omega), aIf_true, Int.toNat_natCast, Nat.mul_one, flatten_rep,
    show List.replicate n (AV.int IntKind.u8 0) = zeros n from rfl, hg, beq_self_eq_true, take_all hs, hs, allU8_of (setT_u8 (zeros_u8 n) n), show ((n : Int) == 0) = false from beq_eq_false_iff_ne.2 (by omega)]

/-- ferryman/field.Cat -/
noncomputable def T22 : List (FuncId × FSpec) := [(53, V53), (55, S55)]
theorem T22_ok : TabOK Try.prog T22 := TabOK.cons En53 V53_ok (TabOK.cons En55 S55_ok (TabOK.nil _))
noncomputable def L22_2 : ATs → AH → KC → Res := fun ts H k => match ts, H with
  | [(0, .fs 2 xs fl), (14, .fs 2 ys gl), (15, .int .i64 n), (16, .int .i64 i)], [] => aIf (catG ys 0 n i) (aIf (badE ys ys.length 0 == 0) (k (.exit 0) [(0, .fs 2 xs fl), (14, .fs 2 ys gl), (15, .int .i64 n), (16, .int .i64 n), (17, .bool false)] []) (k .ret [(2, .fs 0 [] .nil), (3, .int .i64 (badE ys ys.length 0))] [])) none
  | _, _ => none
noncomputable def L22_11 : ATs → AH → KC → Res := fun ts H k => match ts, H with
  | [(0, .fs 2 xs fl), (6, .int .i64 a), (34, .fs 2 ys gl), (35, .int .i64 n), (36, .int .i64 i)], [] => aIf (catG ys a n i && badE ys ys.length 0 == 0) (aIf (Nat.ble (sumR ys ys.length) 65536) (k (.exit 2) [(0, .fs 2 xs fl), (6, .int .i64 (sumR ys ys.length : Int)), (34, .fs 2 ys gl), (35, .int .i64 n), (36, .int .i64 n), (37, .bool false)] []) (k .ret [(2, .fs 0 [] .nil), (3, .int .i64 3)] [])) none
  | _, _ => none
noncomputable def L22_23 : ATs → AH → KC → Res := fun ts H k => match ts, H with
  | [(9, .sl 0 ver 0 len 1), (10, .int .i64 a), (12, .ptr 1 0 0), (51, .fs 2 xs fl), (52, .int .i64 n), (53, .int .i64 i), (58, .int .i64 x), (59, .int .i64 y)], [.cells w ys, .cells 0 [.int .i64 c, .int .u64 v]] => aIf (putG w ver len ys a c v x y) (k (.exit 6) [(9, .sl 0 ver 0 len 1), (10, .int .i64 a), (12, .ptr 1 0 0), (51, .fs 2 xs fl), (52, .int .i64 n), (53, .int .i64 i), (58, .int .i64 x), (59, .int .i64 x), (60, .bool false)] [.cells ver (putL ys a.toNat (vbit v c.toNat) c.toNat), .cells 0 [.int .i64 c, .int .u64 v]]) none
  | [(9, .fs 1 zs gl), (10, .int .i64 a), (12, .ptr 0 0 0), (51, .fs 2 xs fl), (52, .int .i64 n), (53, .int .i64 i), (58, .int .i64 x), (59, .int .i64 y)], [.cells 0 [.int .i64 c, .int .u64 v]] => aIf (x == 0 && y == 0) (k (.exit 6) [(9, .fs 1 zs gl), (10, .int .i64 a), (12, .ptr 0 0 0), (51, .fs 2 xs fl), (52, .int .i64 n), (53, .int .i64 i), (58, .int .i64 x), (59, .int .i64 y), (60, .bool false)] [.cells 0 [.int .i64 c, .int .u64 v]]) none
  | _, _ => none
noncomputable def L22_20 : ATs → AH → KC → Res := fun ts H k => match ts, H with
  | [(9, .sl 0 ver 0 len 1), (10, .int .i64 a), (51, .fs 2 xs fl), (52, .int .i64 n), (53, .int .i64 i)], [.cells w ys] => aIf (catG xs a n i && catG2 w ver len xs ys) (k (.exit 4) [(9, .sl 0 ver 0 len 1), (10, .int .i64 (sumR xs xs.length : Int)), (51, .fs 2 xs fl), (52, .int .i64 n), (53, .int .i64 n), (54, .bool false)] [.cells ver (catP xs xs.length xs.length)]) none
  | [(9, .fs 1 zs gl), (10, .int .i64 a), (51, .fs 2 xs fl), (52, .int .i64 n), (53, .int .i64 i)], [] => aIf (catG xs a n i && badE xs xs.length 0 == 0 && sumR xs xs.length == 0) (k (.exit 4) [(9, .fs 1 zs gl), (10, .int .i64 0), (51, .fs 2 xs fl), (52, .int .i64 n), (53, .int .i64 n), (54, .bool false)] []) none
  | _, _ => none
noncomputable def C22 : Ctx := (ctx E T22 [(2, L22_2), (11, L22_11), (23, L22_23), (20, L22_20)] [(0, [0]), (1, [0, 14, 15, 16]), (2, [0, 14, 15, 16, 17]), (3, [0, 5, 14, 15, 16]), (4, [0, 5, 14, 15, 16, 27]), (5, [2, 3]), (6, [0, 14, 15, 16, 32]), (7, [2, 3]), (8, [0, 14, 15, 16]), (9, [0, 6]), (10, [0, 6, 34, 35, 36]), (11, [0, 6, 34, 35, 36, 37]), (12, [0, 6, 8, 34, 35, 36]), (13, [0, 6, 34, 35, 36]), (14, [0, 6, 34, 35, 36, 45]), (15, [2, 3]), (16, [0, 6, 34, 35, 36]), (17, [0, 9]), (18, [0, 9, 10]), (19, [9, 10, 51, 52, 53]), (20, [9, 10, 51, 52, 53, 54]), (21, [9, 10, 12, 51, 52, 53]), (22, [9, 10, 12, 51, 52, 53, 58, 59]), (23, [9, 10, 12, 51, 52, 53, 58, 59, 60]), (24, [9, 10, 12, 13, 51, 52, 53, 58, 59]), (25, [9, 10, 12, 51, 52, 53, 58, 59]), (26, [9, 10, 12, 51, 52, 53, 58, 59]), (27, [9, 10, 51, 52, 53]), (28, [9, 10, 51, 52, 53]), (29, [2, 3]), (1000002, [0, 14, 15, 16]), (1000011, [0, 6, 34, 35, 36]), (1000020, [9, 10, 51, 52, 53]), (1000023, [9, 10, 12, 51, 52, 53, 58, 59])] [] 83 70)
theorem C22_ok : CtxOK Try.prog C22 := ctx_ok E_ok E_flds mixed T22_ok
theorem C22_l0 : C22.loop (loopId (loopB Try.f22 0)) = some L22_2 := by kernel_rfl
theorem C22_l1 : C22.loop (loopId (loopB Try.f22 1)) = some L22_11 := by kernel_rfl
theorem C22_l2 : C22.loop (loopId (loopB Try.f22 2)) = some L22_20 := by kernel_rfl
theorem C22_l3 : C22.loop (loopId (loopB Try.f22 3)) = some L22_23 := by kernel_rfl
theorem L22_23_in : LoopsOK C22 (loopB Try.f22 3) := LoopsOK.within 0 (by kernel_rfl) (fun j hj S hS => by
  omega)
theorem M22_23a (ver len : Nat) (a : Int) (xs : List AV) (fl : SF) (n i x y : Int) (w : Nat) (ys : List AV) (c v : Int) (k : KC) : headedK C22 (loopB Try.f22 3) [(9, .sl 0 ver 0 len 1), (10, .int .i64 a), (12, .ptr 1 0 0), (51, .fs 2 xs fl), (52, .int .i64 n), (53, .int .i64 i), (58, .int .i64 x), (59, .int .i64 y)] [.cells w ys, .cells 0 [.int .i64 c, .int .u64 v]] k =
  aIf (decide (y < x))
  (aIf (decide (IntKind.u64.wrap (IntKind.i64.wrap (IntKind.i64.wrap (c - 1) - y)) < 0)) none
    (aIf
      (Pl.setG w ver len ys (IntKind.i64.wrap (a + y))
        (v.fdiv (2 ^ min (IntKind.u64.wrap (IntKind.i64.wrap (IntKind.i64.wrap (c - 1) - y))).toNat 64)))
      (k AExit.normal
        [(9, AV.sl 0 ver 0 len 1), (10, AV.int IntKind.i64 a), (12, AV.ptr 1 0 0), (51, AV.fs 2 xs fl),
          (52, AV.int IntKind.i64 n), (53, AV.int IntKind.i64 i), (58, AV.int IntKind.i64 x),
          (59, AV.int IntKind.i64 (IntKind.i64.wrap (y + 1)))]
        [AO.cells ver
            (Pl.setV ys (IntKind.i64.wrap (a + y)).toNat
              (v.fdiv (2 ^ min (IntKind.u64.wrap (IntKind.i64.wrap (IntKind.i64.wrap (c - 1) - y))).toNat 64) % 2)),
          AO.cells 0 [AV.int IntKind.i64 c, AV.int IntKind.u64 v]])
      none))
  (k (AExit.exit 6)
    [(9, AV.sl 0 ver 0 len 1), (10, AV.int IntKind.i64 a), (12, AV.ptr 1 0 0), (51, AV.fs 2 xs fl),
      (52, AV.int IntKind.i64 n), (53, AV.int IntKind.i64 i), (58, AV.int IntKind.i64 x), (59, AV.int IntKind.i64 y),
      (60, AV.bool (decide (y < x)))]
    [AO.cells w ys, AO.cells 0 [AV.int IntKind.i64 c, AV.int IntKind.u64 v]]) := by kernel_rfl
theorem M22_23b (zs : List AV) (gl : SF) (a : Int) (xs : List AV) (fl : SF) (n i x y c v : Int) (k : KC) : headedK C22 (loopB Try.f22 3) [(9, .fs 1 zs gl), (10, .int .i64 a), (12, .ptr 0 0 0), (51, .fs 2 xs fl), (52, .int .i64 n), (53, .int .i64 i), (58, .int .i64 x), (59, .int .i64 y)] [.cells 0 [.int .i64 c, .int .u64 v]] k =
  aIf (decide (y < x)) (aIf (decide (IntKind.u64.wrap (IntKind.i64.wrap (IntKind.i64.wrap (c - 1) - y)) < 0)) none none)
  (k (AExit.exit 6)
    [(9, AV.fs 1 zs gl), (10, AV.int IntKind.i64 a), (12, AV.ptr 0 0 0), (51, AV.fs 2 xs fl),
      (52, AV.int IntKind.i64 n), (53, AV.int IntKind.i64 i), (58, AV.int IntKind.i64 x), (59, AV.int IntKind.i64 y),
      (60, AV.bool (decide (y < x)))]
    [AO.cells 0 [AV.int IntKind.i64 c, AV.int IntKind.u64 v]]) := by kernel_rfl
theorem L22_23_ok : LoopSum C22 (loopB Try.f22 3) L22_23 := LoopSum.of C22_ok L22_23_in (fun ts H => by
  unfold L22_23
  split
  · rename_i ver len a xs fl n i x y w ys c v
    rcases Bool.eq_false_or_eq_true (putG w ver len ys a c v x y) with hp | hp
    · refine .inr ?_
      simp only [aIf_pos hp]
      obtain ⟨rfl, rfl, hL, hu, ha, rfl, rfl, hn0, hn1, han, hv0, hv1⟩ := putG_of hp
      obtain ⟨a, rfl⟩ := Int.eq_ofNat_of_zero_le ha
      obtain ⟨c, rfl⟩ := Int.eq_ofNat_of_zero_le hn0
      have main : ∀ d j : Nat, j + d = c → ∃ m, ∀ k, aIterK m (headedK C22 (loopB Try.f22 3)) [(9, .sl 0 w 0 ys.length 1), (10, .int .i64 (a : Int)), (12, .ptr 1 0 0), (51, .fs 2 xs fl), (52, .int .i64 n), (53, .int .i64 i), (58, .int .i64 (c : Int)), (59, .int .i64 (j : Int))] [.cells w (putL ys a (vbit v c) j), .cells 0 [.int .i64 (c : Int), .int .u64 v]] k =
          k (.exit 6) [(9, .sl 0 w 0 ys.length 1), (10, .int .i64 (a : Int)), (12, .ptr 1 0 0), (51, .fs 2 xs fl), (52, .int .i64 n), (53, .int .i64 i), (58, .int .i64 (c : Int)), (59, .int .i64 (c : Int)), (60, .bool false)] [.cells w (putL ys a (vbit v c) c), .cells 0 [.int .i64 (c : Int), .int .u64 v]] := by
        intro d
        induction d with
        | zero =>
          intro j hj
          obtain rfl : j = c := by omega
          refine ⟨1, fun k => ?_⟩
          rw [aIterK, M22_23a]
          simp only [dltf, aIf_false]
        | succ d ih =>
          intro j hj
          obtain ⟨m, hm⟩ := ih (j + 1) (by omega)
          refine ⟨m + 1, fun k => ?_⟩
          have r := shr_range hv0 hv1 (c - 1 - j)
          have e3 : min (c - 1 - j) 64 = c - 1 - j := by omega
          rw [aIterK, M22_23a, aIf_pos (dlt (by omega)), sh_n1 (by omega) (by omega), u64nn (by omega), dnn, aIf_false, i64a (by omega), i64s (by omega), Int.toNat_natCast, e3, shr_eq, Int.toNat_natCast,
            setG_ok (by rw [putL_length]) hL (putL_u8 hu j fun i _ => vbit_01 v c i) (by omega) (by omega) r.1 r.2, aIf_true]
          exact hm k
      exact (main c 0 (by omega)).imp fun m hm k => (hm k).symm
    · exact .inl fun k => by rw [aIf_neg hp]
  · rename_i zs gl a xs fl n i x y c v
    rcases Bool.eq_false_or_eq_true (x == 0 && y == 0) with hp | hp
    · refine .inr ?_
      simp only [aIf_pos hp]
      simp only [Bool.and_eq_true, beq_iff_eq] at hp
      obtain ⟨rfl, rfl⟩ := hp
      refine ⟨1, fun k => ?_⟩
      rw [aIterK, M22_23b]
      rfl
    · exact .inl fun k => by rw [aIf_neg hp]
  · exact .inl fun k => rfl)
theorem L22_20_in : LoopsOK C22 (loopB Try.f22 2) := LoopsOK.within 1 (by kernel_rfl) (fun j hj S hS => by
  match j, hj with
  | 0, _ =>
    have e : C22.loop (loopId ((loopsOf (loopB Try.f22 2)).getD 0 .skip)) = some L22_23 := by kernel_rfl
    rw [e] at hS; cases hS; exact (show loopB Try.f22 3 = (loopsOf (loopB Try.f22 2)).getD 0 .skip by kernel_rfl) ▸ L22_23_ok
  | n + 1, hj => omega)
theorem M22_20a (ver len : Nat) (a : Int) (xs : List AV) (fl : SF) (n i : Int) (w : Nat) (ys : List AV) (k : KC) : headedK C22 (loopB Try.f22 2) [(9, .sl 0 ver 0 len 1), (10, .int .i64 a), (51, .fs 2 xs fl), (52, .int .i64 n), (53, .int .i64 i)] [.cells w ys] k =
  aIf (decide (i < n))
  (aIf (decide (0 ≤ i))
    (aIf (decide (i < (↑xs.length : Int)))
      (aIf ((xs.getD i.toNat AV.junk).cells.length == 2)
        (aIf
          (([(xs.getD i.toNat AV.junk).cells.getD 0 AV.junk, (xs.getD i.toNat AV.junk).cells.getD 1 AV.junk].getD 0
                AV.junk).isInt
            IntKind.i64)
          (aIf
            (([(xs.getD i.toNat AV.junk).cells.getD 0 AV.junk, (xs.getD i.toNat AV.junk).cells.getD 1 AV.junk].getD 1
                  AV.junk).isInt
              IntKind.u64)
            (aIf
              (Pl.putG w ver len ys a
                ([(xs.getD i.toNat AV.junk).cells.getD 0 AV.junk, (xs.getD i.toNat AV.junk).cells.getD 1 AV.junk].getD 0
                    AV.junk).toInt
                ([(xs.getD i.toNat AV.junk).cells.getD 0 AV.junk, (xs.getD i.toNat AV.junk).cells.getD 1 AV.junk].getD 1
                    AV.junk).toInt
                ([(xs.getD i.toNat AV.junk).cells.getD 0 AV.junk, (xs.getD i.toNat AV.junk).cells.getD 1 AV.junk].getD 0
                    AV.junk).toInt
                0)
              (aIf
                (true &&
                  (AV.uptoL 1
                      (Pl.putL ys a.toNat
                        (Pl.vbit
                          ([(xs.getD i.toNat AV.junk).cells.getD 0 AV.junk,
                                  (xs.getD i.toNat AV.junk).cells.getD 1 AV.junk].getD
                              1 AV.junk).toInt
                          ([(xs.getD i.toNat AV.junk).cells.getD 0 AV.junk,
                                    (xs.getD i.toNat AV.junk).cells.getD 1 AV.junk].getD
                                0 AV.junk).toInt.toNat)
                        ([(xs.getD i.toNat AV.junk).cells.getD 0 AV.junk,
                                  (xs.getD i.toNat AV.junk).cells.getD 1 AV.junk].getD
                              0 AV.junk).toInt.toNat) &&
                    true))
                (k AExit.normal
                  [(9, AV.sl 0 ver 0 len 1),
                    (10,
                      AV.int IntKind.i64
                        (IntKind.i64.wrap
                          (a +
                            ([(xs.getD i.toNat AV.junk).cells.getD 0 AV.junk,
                                    (xs.getD i.toNat AV.junk).cells.getD 1 AV.junk].getD
                                0 AV.junk).toInt))),
                    (51, AV.fs 2 xs fl), (52, AV.int IntKind.i64 n),
                    (53, AV.int IntKind.i64 (IntKind.i64.wrap (i + 1)))]
                  [AO.cells ver
                      (Pl.putL ys a.toNat
                        (Pl.vbit
                          ([(xs.getD i.toNat AV.junk).cells.getD 0 AV.junk,
                                  (xs.getD i.toNat AV.junk).cells.getD 1 AV.junk].getD
                              1 AV.junk).toInt
                          ([(xs.getD i.toNat AV.junk).cells.getD 0 AV.junk,
                                    (xs.getD i.toNat AV.junk).cells.getD 1 AV.junk].getD
                                0 AV.junk).toInt.toNat)
                        ([(xs.getD i.toNat AV.junk).cells.getD 0 AV.junk,
                                  (xs.getD i.toNat AV.junk).cells.getD 1 AV.junk].getD
                              0 AV.junk).toInt.toNat)])
                (k AExit.normal
                  [(9, AV.sl 0 ver 0 len 1),
                    (10,
                      AV.int IntKind.i64
                        (IntKind.i64.wrap
                          (a +
                            ([(xs.getD i.toNat AV.junk).cells.getD 0 AV.junk,
                                    (xs.getD i.toNat AV.junk).cells.getD 1 AV.junk].getD
                                0 AV.junk).toInt))),
                    (51, AV.fs 2 xs fl), (52, AV.int IntKind.i64 n),
                    (53, AV.int IntKind.i64 (IntKind.i64.wrap (i + 1)))]
                  [AO.cells ver
                      (Pl.putL ys a.toNat
                        (Pl.vbit
                          ([(xs.getD i.toNat AV.junk).cells.getD 0 AV.junk,
                                  (xs.getD i.toNat AV.junk).cells.getD 1 AV.junk].getD
                              1 AV.junk).toInt
                          ([(xs.getD i.toNat AV.junk).cells.getD 0 AV.junk,
                                    (xs.getD i.toNat AV.junk).cells.getD 1 AV.junk].getD
                                0 AV.junk).toInt.toNat)
                        ([(xs.getD i.toNat AV.junk).cells.getD 0 AV.junk,
                                  (xs.getD i.toNat AV.junk).cells.getD 1 AV.junk].getD
                              0 AV.junk).toInt.toNat),
                    AO.cells 0
                      [AV.int IntKind.i64
                          ([(xs.getD i.toNat AV.junk).cells.getD 0 AV.junk,
                                  (xs.getD i.toNat AV.junk).cells.getD 1 AV.junk].getD
                              0 AV.junk).toInt,
                        AV.int IntKind.u64
                          ([(xs.getD i.toNat AV.junk).cells.getD 0 AV.junk,
                                  (xs.getD i.toNat AV.junk).cells.getD 1 AV.junk].getD
                              1 AV.junk).toInt]]))
              none)
            none)
          none)
        none)
      none)
    none)
  (k (AExit.exit 4)
    [(9, AV.sl 0 ver 0 len 1), (10, AV.int IntKind.i64 a), (51, AV.fs 2 xs fl), (52, AV.int IntKind.i64 n),
      (53, AV.int IntKind.i64 i), (54, AV.bool (decide (i < n)))]
    [AO.cells w ys]) := by kernel_rfl
theorem M22_20b (zs : List AV) (gl : SF) (a : Int) (xs : List AV) (fl : SF) (n i : Int) (k : KC) : headedK C22 (loopB Try.f22 2) [(9, .fs 1 zs gl), (10, .int .i64 a), (51, .fs 2 xs fl), (52, .int .i64 n), (53, .int .i64 i)] [] k =
  aIf (decide (i < n))
  (aIf (decide (0 ≤ i))
    (aIf (decide (i < (↑xs.length : Int)))
      (aIf ((xs.getD i.toNat AV.junk).cells.length == 2)
        (aIf
          (([(xs.getD i.toNat AV.junk).cells.getD 0 AV.junk, (xs.getD i.toNat AV.junk).cells.getD 1 AV.junk].getD 0
                AV.junk).isInt
            IntKind.i64)
          (aIf
            (([(xs.getD i.toNat AV.junk).cells.getD 0 AV.junk, (xs.getD i.toNat AV.junk).cells.getD 1 AV.junk].getD 1
                  AV.junk).isInt
              IntKind.u64)
            (aIf
              (([(xs.getD i.toNat AV.junk).cells.getD 0 AV.junk, (xs.getD i.toNat AV.junk).cells.getD 1 AV.junk].getD 0
                      AV.junk).toInt ==
                  0 &&
                true)
              (k AExit.normal
                [(9, AV.fs 1 zs gl),
                  (10,
                    AV.int IntKind.i64
                      (IntKind.i64.wrap
                        (a +
                          ([(xs.getD i.toNat AV.junk).cells.getD 0 AV.junk,
                                  (xs.getD i.toNat AV.junk).cells.getD 1 AV.junk].getD
                              0 AV.junk).toInt))),
                  (51, AV.fs 2 xs fl), (52, AV.int IntKind.i64 n), (53, AV.int IntKind.i64 (IntKind.i64.wrap (i + 1)))]
                [])
              none)
            none)
          none)
        none)
      none)
    none)
  (k (AExit.exit 4)
    [(9, AV.fs 1 zs gl), (10, AV.int IntKind.i64 a), (51, AV.fs 2 xs fl), (52, AV.int IntKind.i64 n),
      (53, AV.int IntKind.i64 i), (54, AV.bool (decide (i < n)))]
    []) := by kernel_rfl
theorem L22_20_ok : LoopSum C22 (loopB Try.f22 2) L22_20 := LoopSum.of C22_ok L22_20_in (fun ts H => by
  unfold L22_20
  split
  · rename_i ver len a xs fl n i w ys
    rcases Bool.eq_false_or_eq_true (catG xs a n i && catG2 w ver len xs ys) with hp | hp
    · refine .inr ?_
      simp only [aIf_pos hp]
      rw [Bool.and_eq_true] at hp
      obtain ⟨hp, hp2⟩ := hp
      obtain ⟨hr, hL, rfl, rfl, rfl⟩ := catG_of hp
      obtain ⟨rfl, rfl, hs, hb, rfl⟩ := catG2_of hp2
      have main : ∀ d j : Nat, j + d = xs.length → ∃ m, ∀ k, aIterK m (headedK C22 (loopB Try.f22 2)) [(9, .sl 0 w 0 ((sumR xs xs.length + 7) / 8) 1), (10, .int .i64 (sumR xs j : Int)), (51, .fs 2 xs fl), (52, .int .i64 (xs.length : Int)), (53, .int .i64 (j : Int))] [.cells w (catP xs xs.length j)] k =
          k (.exit 4) [(9, .sl 0 w 0 ((sumR xs xs.length + 7) / 8) 1), (10, .int .i64 (sumR xs xs.length : Int)), (51, .fs 2 xs fl), (52, .int .i64 (xs.length : Int)), (53, .int .i64 (xs.length : Int)), (54, .bool false)] [.cells w (catP xs xs.length xs.length)] := by
        intro d
        induction d with
        | zero =>
          intro j hj
          obtain rfl : j = xs.length := by omega
          refine ⟨1, fun k => ?_⟩
          rw [aIterK, M22_20a, dltf]; rfl
        | succ d ih =>
          intro j hj
          have hjl : j < xs.length := by omega
          obtain ⟨he, ⟨n0, n1⟩, v0, v1⟩ := runs_get hr j hjl
          obtain ⟨b0, b1, b2⟩ := badE_ok hb j (by omega) (by omega)
          have hm1 := sumR_mono (xs := xs) (show j + 1 ≤ xs.length by omega)
          have hsum : IntKind.i64.wrap ((sumR xs j : Int) + rN xs j) = (sumR xs (j + 1) : Int) := by
            simp only [sumR]
            rw [show (sumR xs j : Int) + rN xs j = ((sumR xs j + (rN xs j).toNat : Nat) : Int) by omega]
            simp only [sumR] at hm1
            exact i64n (by omega)
          have hg : putG w w ((sumR xs xs.length + 7) / 8) (catP xs xs.length j) (sumR xs j : Int) (rN xs j) (rV xs j) (rN xs j) 0 = true := by
            simp only [putG, Bool.and_eq_true, beq_iff_eq, decide_eq_true_eq]
            simp only [sumR] at hm1
            exact ⟨⟨⟨⟨⟨⟨⟨⟨⟨⟨⟨trivial, catP_length _ _ _⟩, by omega⟩, catP_u8 (by omega)⟩, by omega⟩, trivial⟩, trivial⟩, b0⟩, b1⟩, by omega⟩, v0⟩, by omega⟩
          have hup : AV.uptoL 1 (putL (catP xs xs.length j) (sumR xs j) (vbit (rV xs j) (rN xs j).toNat) (rN xs j).toNat) = true := ints_upto (putL_u8 (catP_u8 (by omega)) _ fun i _ => vbit_01 _ _ i)
          obtain ⟨m, hm⟩ := ih (j + 1) (by omega)
          refine ⟨m + 1, fun k => ?_⟩
          rw [← hm k, aIterK, M22_20a]
          simp only [Int.toNat_natCast, he, AV.cells, List.length_cons, List.length_nil, List.getD_cons_zero, List.getD_cons_succ, Nat.reduceAdd, isInt_self, AV.toInt, beq_self_eq_true, dlt hjl, dnn', aIf_true, hg, hup, Bool.and_self, hsum, i64s (show j + 1 < 9223372036854775808 by omega), catP_succ hjl]
      exact (main xs.length 0 (by omega)).imp fun m hm k => (hm k).symm
    · exact .inl fun k => by rw [aIf_neg hp]
  · rename_i zs gl a xs fl n i
    rcases Bool.eq_false_or_eq_true (catG xs a n i && badE xs xs.length 0 == 0 && sumR xs xs.length == 0) with hp | hp
    · refine .inr ?_
      simp only [aIf_pos hp]
      rw [Bool.and_eq_true, Bool.and_eq_true, beq_iff_eq, beq_iff_eq] at hp
      obtain ⟨⟨hp, hb⟩, hs⟩ := hp
      obtain ⟨hr, hL, rfl, rfl, rfl⟩ := catG_of hp
      have main : ∀ d j : Nat, j + d = xs.length → ∃ m, ∀ k, aIterK m (headedK C22 (loopB Try.f22 2)) [(9, .fs 1 zs gl), (10, .int .i64 0), (51, .fs 2 xs fl), (52, .int .i64 (xs.length : Int)), (53, .int .i64 (j : Int))] [] k =
          k (.exit 4) [(9, .fs 1 zs gl), (10, .int .i64 0), (51, .fs 2 xs fl), (52, .int .i64 (xs.length : Int)), (53, .int .i64 (xs.length : Int)), (54, .bool false)] [] := by
        intro d
        induction d with
        | zero =>
          intro j hj
          obtain rfl : j = xs.length := by omega
          refine ⟨1, fun k => ?_⟩
          rw [aIterK, M22_20b, dltf]; rfl
        | succ d ih =>
          intro j hj
          have hjl : j < xs.length := by omega
          obtain ⟨he, ⟨n0, n1⟩, v0, v1⟩ := runs_get hr j hjl
          obtain ⟨b0, b1, b2⟩ := badE_ok hb j (by omega) (by omega)
          have hm1 := sumR_mono (xs := xs) (show j + 1 ≤ xs.length by omega)
          have hz : rN xs j = 0 := by simp only [sumR] at hm1; omega
          rw [hz] at he
          obtain ⟨m, hm⟩ := ih (j + 1) (by omega)
          refine ⟨m + 1, fun k => ?_⟩
          rw [← hm k, aIterK, M22_20b]
          simp only [Int.toNat_natCast, he, AV.cells, List.length_cons, List.length_nil, List.getD_cons_zero, List.getD_cons_succ, Nat.reduceAdd, isInt_self, AV.toInt, beq_self_eq_true, dlt hjl, dnn', aIf_true, Bool.and_self, i64s (show j + 1 < 9223372036854775808 by omega)]
          rfl
      exact (main xs.length 0 (by omega)).imp fun m hm k => (hm k).symm
    · exact .inl fun k => by rw [aIf_neg hp]
  · exact .inl fun k => rfl)
theorem L22_11_in : LoopsOK C22 (loopB Try.f22 1) := LoopsOK.within 0 (by kernel_rfl) (fun j hj S hS => by
  omega)
theorem M22_11a (xs : List AV) (fl : SF) (a : Int) (ys : List AV) (gl : SF) (n i : Int) (k : KC) : headedK C22 (loopB Try.f22 1) [(0, .fs 2 xs fl), (6, .int .i64 a), (34, .fs 2 ys gl), (35, .int .i64 n), (36, .int .i64 i)] [] k =
  aIf (decide (i < n))
  (aIf (decide (0 ≤ i))
    (aIf (decide (i < (↑ys.length : Int)))
      (aIf ((ys.getD i.toNat AV.junk).cells.length == 2)
        (aIf
          (([(ys.getD i.toNat AV.junk).cells.getD 0 AV.junk, (ys.getD i.toNat AV.junk).cells.getD 1 AV.junk].getD 0
                AV.junk).isInt
            IntKind.i64)
          (aIf
            (([(ys.getD i.toNat AV.junk).cells.getD 0 AV.junk, (ys.getD i.toNat AV.junk).cells.getD 1 AV.junk].getD 1
                  AV.junk).isInt
              IntKind.u64)
            (aIf
              (decide
                (IntKind.i64.wrap
                    (a +
                      ([(ys.getD i.toNat AV.junk).cells.getD 0 AV.junk,
                              (ys.getD i.toNat AV.junk).cells.getD 1 AV.junk].getD
                          0 AV.junk).toInt) >
                  65536))
              (k AExit.ret [(2, AV.fs 0 [] SF.nil), (3, AV.int IntKind.i64 3)] [])
              (k AExit.normal
                [(0, AV.fs 2 xs fl),
                  (6,
                    AV.int IntKind.i64
                      (IntKind.i64.wrap
                        (a +
                          ([(ys.getD i.toNat AV.junk).cells.getD 0 AV.junk,
                                  (ys.getD i.toNat AV.junk).cells.getD 1 AV.junk].getD
                              0 AV.junk).toInt))),
                  (34, AV.fs 2 ys gl), (35, AV.int IntKind.i64 n), (36, AV.int IntKind.i64 (IntKind.i64.wrap (i + 1)))]
                []))
            none)
          none)
        none)
      none)
    none)
  (k (AExit.exit 2)
    [(0, AV.fs 2 xs fl), (6, AV.int IntKind.i64 a), (34, AV.fs 2 ys gl), (35, AV.int IntKind.i64 n),
      (36, AV.int IntKind.i64 i), (37, AV.bool (decide (i < n)))]
    []) := by kernel_rfl
theorem L22_11_ok : LoopSum C22 (loopB Try.f22 1) L22_11 := LoopSum.of C22_ok L22_11_in (fun ts H => by
  unfold L22_11
  split
  · rename_i xs fl a ys gl n i
    rcases Bool.eq_false_or_eq_true (catG ys a n i && badE ys ys.length 0 == 0) with hp | hp
    · refine .inr ?_
      simp only [aIf_pos hp]
      rw [Bool.and_eq_true, beq_iff_eq] at hp
      obtain ⟨hp, hb⟩ := hp
      obtain ⟨hr, hL, rfl, rfl, rfl⟩ := catG_of hp
      have main : ∀ d j : Nat, j + d = ys.length → sumR ys j ≤ 65536 → ∃ m, ∀ k, aIterK m (headedK C22 (loopB Try.f22 1)) [(0, .fs 2 xs fl), (6, .int .i64 (sumR ys j : Int)), (34, .fs 2 ys gl), (35, .int .i64 (ys.length : Int)), (36, .int .i64 (j : Int))] [] k =
          aIf (Nat.ble (sumR ys ys.length) 65536) (k (.exit 2) [(0, .fs 2 xs fl), (6, .int .i64 (sumR ys ys.length : Int)), (34, .fs 2 ys gl), (35, .int .i64 (ys.length : Int)), (36, .int .i64 (ys.length : Int)), (37, .bool false)] []) (k .ret [(2, .fs 0 [] .nil), (3, .int .i64 3)] []) := by
        intro d
        induction d with
        | zero =>
          intro j hj hs
          obtain rfl : j = ys.length := by omega
          refine ⟨1, fun k => ?_⟩
          rw [aIterK, M22_11a, dltf, Nat.ble_eq_true_of_le hs]; rfl
        | succ d ih =>
          intro j hj hs
          have hjl : j < ys.length := by omega
          obtain ⟨he, ⟨n0, n1⟩, v0, v1⟩ := runs_get hr j hjl
          obtain ⟨b0, b1, b2⟩ := badE_ok hb j (by omega) (by omega)
          have hsum : IntKind.i64.wrap ((sumR ys j : Int) + rN ys j) = (sumR ys (j + 1) : Int) := by
            simp only [sumR]
            rw [show (sumR ys j : Int) + rN ys j = ((sumR ys j + (rN ys j).toNat : Nat) : Int) by omega]
            exact i64n (by omega)
          by_cases c : sumR ys (j + 1) ≤ 65536
          · obtain ⟨m, hm⟩ := ih (j + 1) (by omega) c
            refine ⟨m + 1, fun k => ?_⟩
            rw [← hm k, aIterK, M22_11a]
            simp only [Int.toNat_natCast, he, AV.cells, List.length_cons, List.length_nil, List.getD_cons_zero, List.getD_cons_succ, Nat.reduceAdd, isInt_self, AV.toInt, beq_self_eq_true, dlt hjl, dnn', aIf_true, hsum, decide_eq_false (show ¬ (sumR ys (j + 1) : Int) > 65536 by omega), aIf_false, i64s (show j + 1 < 9223372036854775808 by omega)]
          · refine ⟨1, fun k => ?_⟩
            have hm := sumR_mono (xs := ys) (show j + 1 ≤ ys.length by omega)
            have hbl : Nat.ble (sumR ys ys.length) 65536 = false := by
              rw [Bool.eq_false_iff]; intro h; have := Nat.le_of_ble_eq_true h; omega
            rw [aIterK, M22_11a, hbl]
            simp only [Int.toNat_natCast, he, AV.cells, List.length_cons, List.length_nil, List.getD_cons_zero, List.getD_cons_succ, Nat.reduceAdd, isInt_self, AV.toInt, beq_self_eq_true, dlt hjl, dnn', aIf_true, hsum, decide_eq_true (show (sumR ys (j + 1) : Int) > 65536 by omega), aIf_false]
      exact (main ys.length 0 (by omega) (Nat.zero_le _)).imp fun m hm k => (hm k).symm
    · exact .inl fun k => by rw [aIf_neg hp]
  · exact .inl fun k => rfl)
theorem L22_2_in : LoopsOK C22 (loopB Try.f22 0) := LoopsOK.within 0 (by kernel_rfl) (fun j hj S hS => by
  omega)
theorem M22_2a (xs : List AV) (fl : SF) (ys : List AV) (gl : SF) (n i : Int) (k : KC) : headedK C22 (loopB Try.f22 0) [(0, .fs 2 xs fl), (14, .fs 2 ys gl), (15, .int .i64 n), (16, .int .i64 i)] [] k =
  aIf (decide (i < n))
  (aIf (decide (0 ≤ i))
    (aIf (decide (i < (↑ys.length : Int)))
      (aIf ((ys.getD i.toNat AV.junk).cells.length == 2)
        (aIf
          (([(ys.getD i.toNat AV.junk).cells.getD 0 AV.junk, (ys.getD i.toNat AV.junk).cells.getD 1 AV.junk].getD 0
                AV.junk).isInt
            IntKind.i64)
          (aIf
            (([(ys.getD i.toNat AV.junk).cells.getD 0 AV.junk, (ys.getD i.toNat AV.junk).cells.getD 1 AV.junk].getD 1
                  AV.junk).isInt
              IntKind.u64)
            (aIf
              (decide
                (([(ys.getD i.toNat AV.junk).cells.getD 0 AV.junk, (ys.getD i.toNat AV.junk).cells.getD 1 AV.junk].getD
                      0 AV.junk).toInt <
                  0))
              (k AExit.ret [(2, AV.fs 0 [] SF.nil), (3, AV.int IntKind.i64 30)] [])
              (aIf
                (decide
                  (([(ys.getD i.toNat AV.junk).cells.getD 0 AV.junk,
                            (ys.getD i.toNat AV.junk).cells.getD 1 AV.junk].getD
                        0 AV.junk).toInt >
                    64))
                (k AExit.ret [(2, AV.fs 0 [] SF.nil), (3, AV.int IntKind.i64 30)] [])
                (aIf
                  (shOK Sh.bool
                    (R53
                      [AV.int IntKind.u64
                          ([(ys.getD i.toNat AV.junk).cells.getD 0 AV.junk,
                                  (ys.getD i.toNat AV.junk).cells.getD 1 AV.junk].getD
                              1 AV.junk).toInt,
                        AV.int IntKind.i64
                          ([(ys.getD i.toNat AV.junk).cells.getD 0 AV.junk,
                                  (ys.getD i.toNat AV.junk).cells.getD 1 AV.junk].getD
                              0 AV.junk).toInt]))
                  (aIf
                    (sel
                        (R53
                          [AV.int IntKind.u64
                              ([(ys.getD i.toNat AV.junk).cells.getD 0 AV.junk,
                                      (ys.getD i.toNat AV.junk).cells.getD 1 AV.junk].getD
                                  1 AV.junk).toInt,
                            AV.int IntKind.i64
                              ([(ys.getD i.toNat AV.junk).cells.getD 0 AV.junk,
                                      (ys.getD i.toNat AV.junk).cells.getD 1 AV.junk].getD
                                  0 AV.junk).toInt])
                        []).toBool
                    (k AExit.ret [(2, AV.fs 0 [] SF.nil), (3, AV.int IntKind.i64 1)] [])
                    (k AExit.normal
                      [(0, AV.fs 2 xs fl), (14, AV.fs 2 ys gl), (15, AV.int IntKind.i64 n),
                        (16, AV.int IntKind.i64 (IntKind.i64.wrap (i + 1)))]
                      []))
                  none)))
            none)
          none)
        none)
      none)
    none)
  (k (AExit.exit 0)
    [(0, AV.fs 2 xs fl), (14, AV.fs 2 ys gl), (15, AV.int IntKind.i64 n), (16, AV.int IntKind.i64 i),
      (17, AV.bool (decide (i < n)))]
    []) := by kernel_rfl
theorem L22_2_ok : LoopSum C22 (loopB Try.f22 0) L22_2 := LoopSum.of C22_ok L22_2_in (fun ts H => by
  unfold L22_2
  split
  · rename_i xs fl ys gl n i
    rcases Bool.eq_false_or_eq_true (catG ys 0 n i) with hp | hp
    · refine .inr ?_
      simp only [aIf_pos hp]
      obtain ⟨hr, hL, rfl, _, rfl⟩ := catG_of hp
      have main : ∀ d j : Nat, j + d = ys.length → badE ys ys.length 0 = badE ys d j → ∃ m, ∀ k, aIterK m (headedK C22 (loopB Try.f22 0)) [(0, .fs 2 xs fl), (14, .fs 2 ys gl), (15, .int .i64 (ys.length : Int)), (16, .int .i64 (j : Int))] [] k =
          aIf (badE ys ys.length 0 == 0) (k (.exit 0) [(0, .fs 2 xs fl), (14, .fs 2 ys gl), (15, .int .i64 (ys.length : Int)), (16, .int .i64 (ys.length : Int)), (17, .bool false)] []) (k .ret [(2, .fs 0 [] .nil), (3, .int .i64 (badE ys ys.length 0))] []) := by
        intro d
        induction d with
        | zero =>
          intro j hj hb
          obtain rfl : j = ys.length := by omega
          refine ⟨1, fun k => ?_⟩
          rw [hb, aIterK, M22_2a, dltf]; rfl
        | succ d ih =>
          intro j hj hb
          have hjl : j < ys.length := by omega
          obtain ⟨he, ⟨n0, n1⟩, v0, v1⟩ := runs_get hr j hjl
          simp only [badE] at hb
          by_cases c1 : rN ys j < 0
          · refine ⟨1, fun k => ?_⟩
            rw [decide_eq_true c1] at hb
            rw [hb, aIterK, M22_2a]
            simp only [Int.toNat_natCast, he, AV.cells, List.length_cons, List.length_nil, List.getD_cons_zero, List.getD_cons_succ, Nat.reduceAdd, isInt_self, AV.toInt, beq_self_eq_true, dlt hjl, dnn', aIf_true, decide_eq_true c1]
            rfl
          by_cases c2 : rN ys j > 64
          · refine ⟨1, fun k => ?_⟩
            rw [decide_eq_true c2, Bool.or_true] at hb
            rw [hb, aIterK, M22_2a]
            simp only [Int.toNat_natCast, he, AV.cells, List.length_cons, List.length_nil, List.getD_cons_zero, List.getD_cons_succ, Nat.reduceAdd, isInt_self, AV.toInt, beq_self_eq_true, dlt hjl, dnn', aIf_true, decide_eq_false c1, aIf_false, decide_eq_true c2]
            rfl
          rw [decide_eq_false c1, decide_eq_false c2] at hb
          have hw := R53_is (v := rV ys j) (n := rN ys j) (by omega)
          cases c3 : fitB (rV ys j) (rN ys j) with
          | false =>
            refine ⟨1, fun k => ?_⟩
            rw [c3] at hb hw
            rw [hb, aIterK, M22_2a]
            simp only [Int.toNat_natCast, he, AV.cells, List.length_cons, List.length_nil, List.getD_cons_zero, List.getD_cons_succ, Nat.reduceAdd, isInt_self, AV.toInt, beq_self_eq_true, dlt hjl, dnn', aIf_true, decide_eq_false c1, aIf_false, decide_eq_false c2, hw, shOK_ret, has_bool]
            rfl
          | true =>
            rw [c3] at hb hw
            obtain ⟨m, hm⟩ := ih (j + 1) (by omega) hb
            refine ⟨m + 1, fun k => ?_⟩
            rw [← hm k, aIterK, M22_2a]
            simp only [Int.toNat_natCast, he, AV.cells, List.length_cons, List.length_nil, List.getD_cons_zero, List.getD_cons_succ, Nat.reduceAdd, isInt_self, AV.toInt, beq_self_eq_true, dlt hjl, dnn', aIf_true, decide_eq_false c1, aIf_false, decide_eq_false c2, hw, shOK_ret, has_bool, i64s (show j + 1 < 9223372036854775808 by omega)]
            rfl
      exact (main ys.length 0 (by omega) rfl).imp fun m hm k => (hm k).symm
    · exact .inl fun k => by rw [aIf_neg hp]
  · exact .inl fun k => rfl)
theorem C22_loops : ∀ c, Try.f22.body = some c → LoopsOK C22 c := LoopsOK.of 4 (by kernel_rfl) (fun j hj S hS => by
  match j, hj with
  | 0, _ => rw [C22_l0] at hS; cases hS; exact L22_2_ok
  | 1, _ => rw [C22_l1] at hS; cases hS; exact L22_11_ok
  | 2, _ => rw [C22_l2] at hS; cases hS; exact L22_20_ok
  | 3, _ => rw [C22_l3] at hS; cases hS; exact L22_23_ok
  | n + 4, hj => omega)
noncomputable def S22 : FSpec := inlineK C22 Try.f22
theorem S22_ok : SpecOK Try.prog 22 S22 := inlineK_ok C22_ok Try.func22 C22_loops
theorem En22 : Enters Try.prog 22 := ⟨_, Try.func22, by decide, rfl⟩
noncomputable def R22 (args : List AV) : Res := S22 args [] encK
noncomputable def V22 : FSpec := leafK (.tup [.ints .u8, .int .i64]) R22
theorem V22_ok : SpecOK Try.prog 22 V22 := leafK_ok S22_ok (fun _ => rfl)
theorem N22 (xs : List AV) (fl : SF) : S22 [.fs 2 xs fl] [] encK =
  aIf (Pl.catG xs 0 (↑xs.length : Int) 0)
  (aIf (Pl.badE xs xs.length 0 == 0)
    (aIf (Pl.catG xs 0 (↑xs.length : Int) 0 && Pl.badE xs xs.length 0 == 0)
      (aIf ((Pl.sumR xs xs.length).ble 65536)
        (aIf (decide (0 ≤ IntKind.i64.wrap ((IntKind.i64.wrap ((↑(Pl.sumR xs xs.length) : Int) + 7)).tdiv 8)))
          (aIf
            (decide
              (IntKind.i64.wrap ((IntKind.i64.wrap ((↑(Pl.sumR xs xs.length) : Int) + 7)).tdiv 8) ≤
                IntKind.i64.wrap ((IntKind.i64.wrap ((↑(Pl.sumR xs xs.length) : Int) + 7)).tdiv 8)))
            (aIf
              (decide
                (IntKind.i64.wrap ((IntKind.i64.wrap ((↑(Pl.sumR xs xs.length) : Int) + 7)).tdiv 8) * 1 ≤
                  281474976710656))
              (aIf
                (decide
                  (IntKind.i64.wrap ((IntKind.i64.wrap ((↑(Pl.sumR xs xs.length) : Int) + 7)).tdiv 8) ≤
                    281474976710656))
                (aIf (IntKind.i64.wrap ((IntKind.i64.wrap ((↑(Pl.sumR xs xs.length) : Int) + 7)).tdiv 8) == 0)
                  (aIf (Pl.catG xs 0 (↑xs.length : Int) 0 && Pl.badE xs xs.length 0 == 0 && Pl.sumR xs xs.length == 0)
                    (some (AEnd.ret (AV.tup [AV.fs 1 [] SF.zc, AV.int IntKind.i64 0]), [])) none)
                  (aIf
                    (Pl.catG xs 0 (↑xs.length : Int) 0 &&
                      Pl.catG2
                        ((IntKind.i64.wrap ((IntKind.i64.wrap ((↑(Pl.sumR xs xs.length) : Int) + 7)).tdiv 8)).toNat * 1)
                        ((IntKind.i64.wrap ((IntKind.i64.wrap ((↑(Pl.sumR xs xs.length) : Int) + 7)).tdiv 8)).toNat * 1)
                        (IntKind.i64.wrap ((IntKind.i64.wrap ((↑(Pl.sumR xs xs.length) : Int) + 7)).tdiv 8)).toNat xs
                        (List.replicate
                            (IntKind.i64.wrap ((IntKind.i64.wrap ((↑(Pl.sumR xs xs.length) : Int) + 7)).tdiv 8)).toNat
                            [AV.int IntKind.u8 0]).flatten)
                    (aIf
                      ((IntKind.i64.wrap ((IntKind.i64.wrap ((↑(Pl.sumR xs xs.length) : Int) + 7)).tdiv 8)).toNat * 1 ==
                        (IntKind.i64.wrap ((IntKind.i64.wrap ((↑(Pl.sumR xs xs.length) : Int) + 7)).tdiv 8)).toNat * 1)
                      (aIf
                        (decide
                          (0 +
                              (IntKind.i64.wrap
                                    ((IntKind.i64.wrap ((↑(Pl.sumR xs xs.length) : Int) + 7)).tdiv 8)).toNat *
                                1 ≤
                            (Pl.catP xs xs.length xs.length).length))
                        (aIf
                          (flatL
                            (List.take
                              ((IntKind.i64.wrap
                                    ((IntKind.i64.wrap ((↑(Pl.sumR xs xs.length) : Int) + 7)).tdiv 8)).toNat *
                                1)
                              (List.drop 0 (Pl.catP xs xs.length xs.length))))
                          (some
                            (AEnd.ret
                                (AV.tup
                                  [AV.fs 1
                                      (List.take
                                        (IntKind.i64.wrap
                                            ((IntKind.i64.wrap ((↑(Pl.sumR xs xs.length) : Int) + 7)).tdiv 8)).toNat
                                        (List.drop 0 (Pl.catP xs xs.length xs.length)))
                                      SF.any,
                                    AV.int IntKind.i64 0]),
                              []))
                          none)
                        none)
                      none)
                    none))
                none)
              none)
            none)
          none)
        (some (AEnd.ret (AV.tup [AV.fs 1 [] SF.nil, AV.int IntKind.i64 3]), [])))
      none)
    (some (AEnd.ret (AV.tup [AV.fs 1 [] SF.nil, AV.int IntKind.i64 (Pl.badE xs xs.length 0)]), [])))
  none := by kernel_rfl
theorem R22_is {xs : List AV} {fl : SF} (hr : runsB xs = true) (hL : xs.length ≤ 65536) : ∃ fl', R22 [.fs 2 xs fl] = some (.ret (.tup [.fs 1 (catX xs) fl', .int .i64 (catE xs)]), []) := by
  show ∃ fl', S22 _ [] encK = _
  have hc := catG_ok hr hL
  unfold catX catE
  rw [N22, hc]
  cases hb : badE xs xs.length 0 == 0
  · exact ⟨.nil, rfl⟩
  cases hs : Nat.ble (sumR xs xs.length) 65536
  · exact ⟨.nil, rfl⟩
  have hs' := Nat.le_of_ble_eq_true hs
  have hb' : badE xs xs.length 0 = 0 := by simpa using hb
  by_cases h4 : sumR xs xs.length = 0
  · refine ⟨.zc, ?_⟩
    have hp : catP xs xs.length xs.length = [] := List.eq_nil_of_length_eq_zero (by rw [catP_length, h4])
    rw [bytes_len (by omega), hp, h4]; rfl
  · refine ⟨.any, ?_⟩
    have hp := catP_u8 (xs := xs) (Nat.le_refl xs.length)
    have hpl := catP_length xs xs.length xs.length
    have hg := catG2_ok (w := (sumR xs xs.length + 7) / 8) rfl hs' hb'
    rw [bytes_len (by omega), flatten_rep, Int.toNat_natCast, Nat.mul_one, show List.replicate ((sumR xs xs.length + 7) / 8) (AV.int IntKind.u8 0) = zeros ((sumR xs xs.length + 7) / 8) from rfl, hg, take_all hpl, ints_flat hp, hpl, beq_self_eq_true, Nat.zero_add,
      show ((((sumR xs xs.length + 7) / 8 : Nat) : Int) == 0) = false from beq_eq_false_iff_ne.2 (by omega), dnn', decide_eq_true (Int.le_refl _), decide_eq_true (show (((sumR xs xs.length + 7) / 8 : Nat) : Int) * 1 ≤ 281474976710656 by omega), decide_eq_true (show (((sumR xs xs.length + 7) / 8 : Nat) : Int) ≤ 281474976710656 by omega), decide_eq_true (Nat.le_refl _)]
    rfl
noncomputable def W22 : FSpec := shareK (nilK 2 V22)
theorem W22_ok : SpecOK Try.prog 22 W22 := (V22_ok.nil 2).share

/-- unicode/utf8.RuneCountInString -/
noncomputable def T57 : List (FuncId × FSpec) := []
theorem T57_ok : TabOK Try.prog T57 := TabOK.nil _
noncomputable def L57_2 : ATs → AH → KC → Res := fun ts H k => match ts, H with
  | [(2, .int .i64 c), (4, .ptr 0 0 0)], [.iter s p] => aIf (c == 0 && p == 0 && decide (s.size ≤ 1000000)) (k (.exit 0) [(2, .int .i64 (runesN s s.size 0 : Int)), (4, .ptr 0 0 0), (6, .bool false)] [.iter s (endP s s.size 0)]) none
  | _, _ => none
noncomputable def C57 : Ctx := (ctx E T57 [(2, L57_2)] [(0, [0, 2]), (1, [2, 4]), (2, [2, 4, 6]), (3, [2, 4]), (4, [2]), (1000002, [2, 4])] [] 10 70)
theorem C57_ok : CtxOK Try.prog C57 := ctx_ok E_ok E_flds mixed T57_ok
theorem C57_l0 : C57.loop (loopId (loopB Try.f57 0)) = some L57_2 := by kernel_rfl
theorem L57_2_in : LoopsOK C57 (loopB Try.f57 0) := LoopsOK.within 0 (by kernel_rfl) (fun j hj S hS => by
  omega)
theorem M57_2a (c : Int) (s : ByteArray) (p : Nat) (k : KC) : headedK C57 (loopB Try.f57 0) [(2, .int .i64 c), (4, .ptr 0 0 0)] [.iter s p] k =
  aIf (decide (p < s.size))
  (k AExit.normal [(2, AV.int IntKind.i64 (IntKind.i64.wrap (c + 1))), (4, AV.ptr 0 0 0)]
    [AO.iter s (p + (Utf8.decode s p).snd)])
  (k (AExit.exit 0) [(2, AV.int IntKind.i64 c), (4, AV.ptr 0 0 0), (6, AV.bool false)] [AO.iter s p]) := by kernel_rfl
theorem L57_2_ok : LoopSum C57 (loopB Try.f57 0) L57_2 := LoopSum.of C57_ok L57_2_in (fun ts H => by
  unfold L57_2
  split
  · rename_i c s p
    rcases Bool.eq_false_or_eq_true (c == 0 && p == 0 && decide (s.size ≤ 1000000)) with hp | hp
    · refine .inr ?_
      simp only [aIf_pos hp]
      simp only [Bool.and_eq_true, beq_iff_eq, decide_eq_true_eq] at hp
      obtain ⟨⟨rfl, rfl⟩, hL⟩ := hp
      have main : ∀ d p c : Nat, s.size ≤ p + d → c + d ≤ 2000000 → ∃ m, ∀ k, aIterK m (headedK C57 (loopB Try.f57 0)) [(2, .int .i64 (c : Int)), (4, .ptr 0 0 0)] [.iter s p] k =
          k (.exit 0) [(2, .int .i64 ((c + runesN s d p : Nat) : Int)), (4, .ptr 0 0 0), (6, .bool false)] [.iter s (endP s d p)] := by
        intro d
        induction d with
        | zero =>
          intro p c hj _
          refine ⟨1, fun k => ?_⟩
          rw [aIterK, M57_2a, decide_eq_false (show ¬ p < s.size by omega)]
          rfl
        | succ d ih =>
          intro p c hj hc
          by_cases hp : p < s.size
          · have h1 := dec_pos hp
            obtain ⟨m, hm⟩ := ih (p + (Utf8.decode s p).2) (c + 1) (by omega) (by omega)
            refine ⟨m + 1, fun k => ?_⟩
            have hk := hm k
            rw [aIterK, M57_2a, decide_eq_true hp, aIf_true, i64s (show c + 1 < 9223372036854775808 by omega)]
            simp only [runesN, endP, decide_eq_true hp, cond_true]
            rw [show c + (runesN s d (p + (Utf8.decode s p).2) + 1) = c + 1 + runesN s d (p + (Utf8.decode s p).2) by omega]
            exact hk
          · refine ⟨1, fun k => ?_⟩
            rw [aIterK, M57_2a]
            simp only [runesN, endP, decide_eq_false hp, cond_false]
            rfl
      have h := main s.size 0 0 (by omega) (by omega)
      simp only [Nat.zero_add] at h
      exact h.imp fun m hm k => (hm k).symm
    · exact .inl fun k => by rw [aIf_neg hp]
  · exact .inl fun k => rfl)
theorem C57_loops : ∀ c, Try.f57.body = some c → LoopsOK C57 c := LoopsOK.of 1 (by kernel_rfl) (fun j hj S hS => by
  match j, hj with
  | 0, _ => rw [C57_l0] at hS; cases hS; exact L57_2_ok
  | n + 1, hj => omega)
noncomputable def S57 : FSpec := inlineK C57 Try.f57
theorem S57_ok : SpecOK Try.prog 57 S57 := inlineK_ok C57_ok Try.func57 C57_loops
theorem En57 : Enters Try.prog 57 := ⟨_, Try.func57, by decide, rfl⟩
noncomputable def R57 (args : List AV) : Res := S57 args [] encK
noncomputable def V57 : FSpec := leafK (.int .i64) R57
theorem V57_ok : SpecOK Try.prog 57 V57 := leafK_ok S57_ok (fun _ => rfl)
theorem N57 (s : ByteArray) : S57 [.str s] [] encK =
  aIf (true && decide (s.size ≤ 1000000)) (some (AEnd.ret (AV.int IntKind.i64 (↑(Pl.runesN s s.size 0) : Int)), [])) none := by kernel_rfl
theorem R57_is {s : ByteArray} (hL : s.size ≤ 1000000) : R57 [.str s] = some (.ret (.int .i64 (runesN s s.size 0 : Int)), []) := by
  show S57 _ [] encK = _
  rw [N57, decide_eq_true hL]
  rfl

/-- ferryman/field.Read -/
noncomputable def T21 : List (FuncId × FSpec) := [(22, W22), (57, V57)]
theorem T21_ok : TabOK Try.prog T21 := TabOK.cons En22 W22_ok (TabOK.cons En57 V57_ok (TabOK.nil _))
noncomputable def L21_5 : ATs → AH → KC → Res := fun ts H k => match ts, H with
  | [(6, .fs 0 [] .nil), (15, .ptr 0 0 0)], [.iter s p] => aIf (p == 0 && decide (s.size ≤ 1000000)) (aIf (firstX s s.size 0 == s.size) (aIf (s.size == 0) (k (.exit 0) [(6, .fs 0 [] .nil), (15, .ptr 0 0 0), (16, .tup [.bool false]), (17, .bool false)] [.iter s s.size]) (k (.exit 0) [(6, .sl 1 (2 * s.size) 0 s.size 2), (15, .ptr 0 0 0), (16, .tup [.bool false]), (17, .bool false)] [.iter s s.size, .cells (2 * s.size) (runC s s.size)])) (aIf (firstX s s.size 0 == 0) (k .ret [(2, .fs 0 [] .nil), (3, .int .i64 0), (4, .int .i64 (firstX s s.size 0 : Int)), (5, .int .i64 31)] [.iter s (firstX s s.size 0 + (Utf8.decode s (firstX s s.size 0)).2)]) (k .ret [(2, .fs 0 [] .nil), (3, .int .i64 0), (4, .int .i64 (firstX s s.size 0 : Int)), (5, .int .i64 31)] [.iter s (firstX s s.size 0 + (Utf8.decode s (firstX s s.size 0)).2), .cells (2 * firstX s s.size 0) (runC s (firstX s s.size 0))]))) none
  | _, _ => none
noncomputable def C21 : Ctx := (ctx E T21 [(5, L21_5)] [(0, [0]), (1, [0, 13]), (2, [2, 3, 4, 5]), (3, [0, 6]), (4, [6, 15]), (5, [6, 15, 16, 17]), (6, [6, 7, 8, 15]), (7, [6, 7, 8, 15, 25]), (8, [2, 3, 4, 5]), (9, [6, 15]), (10, [6, 9]), (11, [2, 3, 4, 5]), (1000005, [6, 15])] [22] 42 70)
theorem C21_ok : CtxOK Try.prog C21 := ctx_ok E_ok E_flds mixed T21_ok
theorem C21_l0 : C21.loop (loopId (loopB Try.f21 0)) = some L21_5 := by kernel_rfl
theorem L21_5_in : LoopsOK C21 (loopB Try.f21 0) := LoopsOK.within 0 (by kernel_rfl) (fun j hj S hS => by
  omega)
theorem M21_5a (s : ByteArray) (p : Nat) (k : KC) : headedK C21 (loopB Try.f21 0) [(6, .fs 0 [] .nil), (15, .ptr 0 0 0)] [.iter s p] k =
  aIf (decide (p < s.size))
  (aIf ((↑(Utf8.decode s p).fst : Int) != 48)
    (aIf ((↑(Utf8.decode s p).fst : Int) != 49)
      (k AExit.ret
        [(2, AV.fs 0 [] SF.nil), (3, AV.int IntKind.i64 0), (4, AV.int IntKind.i64 (↑p : Int)),
          (5, AV.int IntKind.i64 31)]
        [AO.iter s (p + (Utf8.decode s p).snd)])
      (k AExit.normal [(6, AV.sl 1 2 0 1 2), (15, AV.ptr 0 0 0)]
        [AO.iter s (p + (Utf8.decode s p).snd),
          AO.cells 2
            [AV.int IntKind.i64 1,
              AV.int IntKind.u64 (IntKind.u64.wrap (IntKind.i32.wrap ((↑(Utf8.decode s p).fst : Int) - 48)))]]))
    (k AExit.normal [(6, AV.sl 1 2 0 1 2), (15, AV.ptr 0 0 0)]
      [AO.iter s (p + (Utf8.decode s p).snd),
        AO.cells 2
          [AV.int IntKind.i64 1,
            AV.int IntKind.u64 (IntKind.u64.wrap (IntKind.i32.wrap ((↑(Utf8.decode s p).fst : Int) - 48)))]]))
  (k (AExit.exit 0) [(6, AV.fs 0 [] SF.nil), (15, AV.ptr 0 0 0), (16, AV.tup [AV.bool false]), (17, AV.bool false)]
    [AO.iter s p]) := by kernel_rfl
theorem M21_5r (s : ByteArray) (p : Nat) (w ver len : Nat) (ys : List AV) (k : KC) : headedK C21 (loopB Try.f21 0) [(6, .sl 1 ver 0 len 2), (15, .ptr 0 0 0)] [.iter s p, .cells w ys] k =
  aIf (decide (p < s.size))
  (aIf ((↑(Utf8.decode s p).fst : Int) != 48)
    (aIf ((↑(Utf8.decode s p).fst : Int) != 49)
      (k AExit.ret
        [(2, AV.fs 0 [] SF.nil), (3, AV.int IntKind.i64 0), (4, AV.int IntKind.i64 (↑p : Int)),
          (5, AV.int IntKind.i64 31)]
        [AO.iter s (p + (Utf8.decode s p).snd), AO.cells w ys])
      (aIf (ver == 0) none
        (aIf (w == ver)
          (aIf (((len + 1) * 16).ble 140737488355328)
            (k AExit.normal [(6, AV.sl 1 (max ver ((len + 1) * 2)) 0 (len + 1) 2), (15, AV.ptr 0 0 0)]
              [AO.iter s (p + (Utf8.decode s p).snd),
                AO.cells (max ver ((len + 1) * 2))
                  (List.take (len * 2) ys ++
                      [AV.int IntKind.i64 1,
                        AV.int IntKind.u64
                          (IntKind.u64.wrap (IntKind.i32.wrap ((↑(Utf8.decode s p).fst : Int) - 48)))] ++
                    List.drop (len * 2 + 2) ys)])
            none)
          none)))
    (aIf (ver == 0) none
      (aIf (w == ver)
        (aIf (((len + 1) * 16).ble 140737488355328)
          (k AExit.normal [(6, AV.sl 1 (max ver ((len + 1) * 2)) 0 (len + 1) 2), (15, AV.ptr 0 0 0)]
            [AO.iter s (p + (Utf8.decode s p).snd),
              AO.cells (max ver ((len + 1) * 2))
                (List.take (len * 2) ys ++
                    [AV.int IntKind.i64 1,
                      AV.int IntKind.u64 (IntKind.u64.wrap (IntKind.i32.wrap ((↑(Utf8.decode s p).fst : Int) - 48)))] ++
                  List.drop (len * 2 + 2) ys)])
          none)
        none)))
  (k (AExit.exit 0) [(6, AV.sl 1 ver 0 len 2), (15, AV.ptr 0 0 0), (16, AV.tup [AV.bool false]), (17, AV.bool false)]
    [AO.iter s p, AO.cells w ys]) := by kernel_rfl
def S21s (j : Nat) : ATs := [(6, bif j == 0 then .fs 0 [] .nil else .sl 1 (2 * j) 0 j 2), (15, .ptr 0 0 0)]
def H21s (s : ByteArray) (p j : Nat) : AH := bif j == 0 then [.iter s p] else [.iter s p, .cells (2 * j) (runC s j)]
theorem M21let {s : ByteArray} {j : Nat} (hL : s.size ≤ 1000000) (hj : j < s.size) (hl : letB s j = true) (k : KC) :
    headedK C21 (loopB Try.f21 0) (S21s j) (H21s s j j) k = k .normal (S21s (j + 1)) (H21s s (j + 1) (j + 1)) := by
  have hd := let_dec hj hl
  have hl' := hl
  simp only [letB, Bool.or_eq_true, beq_iff_eq] at hl'
  have e1 : IntKind.u64.wrap (IntKind.i32.wrap ((byteN s j : Int) - 48)) = (byteN s j : Int) - 48 := by
    rcases hl' with h | h <;> rw [h] <;> rfl
  have key : ∀ x y : Res, aIf ((byteN s j : Int) != 48) (aIf ((byteN s j : Int) != 49) x y) y = y := by
    intro x y
    rcases hl' with h | h <;> rw [h] <;> rfl
  cases h0 : j == 0
  · have h0' : j ≠ 0 := by simpa using h0
    have u1 : S21s j = [(6, .sl 1 (2 * j) 0 j 2), (15, .ptr 0 0 0)] := by unfold S21s; rw [h0]; rfl
    have u2 : H21s s j j = [.iter s j, .cells (2 * j) (runC s j)] := by unfold H21s; rw [h0]; rfl
    have e2 : max (2 * j) ((j + 1) * 2) = 2 * (j + 1) := by omega
    have e3 : List.take (j * 2) (runC s j) = runC s j := List.take_of_length_le (by rw [runC_length]; omega)
    have e4 : List.drop (j * 2 + 2) (runC s j) = [] := List.drop_of_length_le (by rw [runC_length]; omega)
    rw [u1, u2, M21_5r, hd]
    simp only [decide_eq_true hj, aIf_true, e1, show (2 * j == 0) = false from beq_eq_false_iff_ne.2 (by omega), aIf_false, beq_self_eq_true, Nat.ble_eq_true_of_le (show (j + 1) * 16 ≤ 140737488355328 by omega), e2, e3, e4, List.append_nil]
    rw [key]
    exact rfl
  · obtain rfl : j = 0 := by simpa using h0
    show headedK C21 (loopB Try.f21 0) [(6, .fs 0 [] .nil), (15, .ptr 0 0 0)] [.iter s 0] k = _
    rw [M21_5a, hd]
    simp only [decide_eq_true hj, aIf_true, e1]
    rw [key]
    exact rfl
theorem M21bad {s : ByteArray} {j : Nat} (hj : j < s.size) (hl : letB s j = false) (k : KC) :
    headedK C21 (loopB Try.f21 0) (S21s j) (H21s s j j) k = k .ret [(2, .fs 0 [] .nil), (3, .int .i64 0), (4, .int .i64 (j : Int)), (5, .int .i64 31)] (H21s s (j + (Utf8.decode s j).2) j) := by
  obtain ⟨n1, n2⟩ := let_not hj hl
  have m1 : (((Utf8.decode s j).1 : Int) != 48) = true := bne_iff_ne.2 (by omega)
  have m2 : (((Utf8.decode s j).1 : Int) != 49) = true := bne_iff_ne.2 (by omega)
  cases h0 : j == 0
  · have u1 : S21s j = [(6, .sl 1 (2 * j) 0 j 2), (15, .ptr 0 0 0)] := by unfold S21s; rw [h0]; rfl
    have u2 : ∀ p, H21s s p j = [.iter s p, .cells (2 * j) (runC s j)] := fun p => by unfold H21s; rw [h0]; rfl
    rw [u1, u2, u2, M21_5r]
    simp only [decide_eq_true hj, m1, m2, aIf_true]
  · obtain rfl : j = 0 := by simpa using h0
    show headedK C21 (loopB Try.f21 0) [(6, .fs 0 [] .nil), (15, .ptr 0 0 0)] [.iter s 0] k = _
    rw [M21_5a]
    simp only [decide_eq_true hj, m1, m2, aIf_true]
    rfl
theorem L21_5_ok : LoopSum C21 (loopB Try.f21 0) L21_5 := LoopSum.of C21_ok L21_5_in (fun ts H => by
  unfold L21_5
  split
  · rename_i s p
    rcases Bool.eq_false_or_eq_true (p == 0 && decide (s.size ≤ 1000000)) with hp | hp
    · refine .inr ?_
      simp only [aIf_pos hp]
      simp only [Bool.and_eq_true, beq_iff_eq, decide_eq_true_eq] at hp
      obtain ⟨rfl, hL⟩ := hp
      have main : ∀ d j : Nat, j + d = s.size → firstX s s.size 0 = firstX s d j → ∃ m, ∀ k, aIterK m (headedK C21 (loopB Try.f21 0)) (S21s j) (H21s s j j) k =
          aIf (firstX s s.size 0 == s.size) (aIf (s.size == 0) (k (.exit 0) [(6, .fs 0 [] .nil), (15, .ptr 0 0 0), (16, .tup [.bool false]), (17, .bool false)] [.iter s s.size]) (k (.exit 0) [(6, .sl 1 (2 * s.size) 0 s.size 2), (15, .ptr 0 0 0), (16, .tup [.bool false]), (17, .bool false)] [.iter s s.size, .cells (2 * s.size) (runC s s.size)])) (aIf (firstX s s.size 0 == 0) (k .ret [(2, .fs 0 [] .nil), (3, .int .i64 0), (4, .int .i64 (firstX s s.size 0 : Int)), (5, .int .i64 31)] [.iter s (firstX s s.size 0 + (Utf8.decode s (firstX s s.size 0)).2)]) (k .ret [(2, .fs 0 [] .nil), (3, .int .i64 0), (4, .int .i64 (firstX s s.size 0 : Int)), (5, .int .i64 31)] [.iter s (firstX s s.size 0 + (Utf8.decode s (firstX s s.size 0)).2), .cells (2 * firstX s s.size 0) (runC s (firstX s s.size 0))])) := by
        intro d
        induction d with
        | zero =>
          intro j hj hf
          obtain rfl : j = s.size := by omega
          refine ⟨1, fun k => ?_⟩
          have h0 : (firstX s s.size 0 == s.size) = true := by rw [hf]; exact beq_self_eq_true _
          rw [aIf_pos h0, aIterK]
          cases hb : s.size == 0
          · have u1 : S21s s.size = [(6, .sl 1 (2 * s.size) 0 s.size 2), (15, .ptr 0 0 0)] := by unfold S21s; rw [hb]; rfl
            have u2 : H21s s s.size s.size = [.iter s s.size, .cells (2 * s.size) (runC s s.size)] := by unfold H21s; rw [hb]; rfl
            rw [u1, u2, M21_5r, decide_eq_false (Nat.lt_irrefl _)]; rfl
          · have u1 : S21s s.size = [(6, .fs 0 [] .nil), (15, .ptr 0 0 0)] := by unfold S21s; rw [hb]; rfl
            have u2 : H21s s s.size s.size = [.iter s s.size] := by unfold H21s; rw [hb]; rfl
            rw [u1, u2, M21_5a, decide_eq_false (Nat.lt_irrefl _)]; rfl
        | succ d ih =>
          intro j hj hf
          simp only [firstX] at hf
          cases hl : letB s j
          · rw [hl, cond_false] at hf
            refine ⟨1, fun k => ?_⟩
            rw [aIterK, M21bad (by omega) hl, hf, show (j == s.size) = false from beq_eq_false_iff_ne.2 (by omega), aIf_false]
            cases hb : j == 0
            · unfold H21s; rw [hb]; rfl
            · unfold H21s; rw [hb]; rfl
          · rw [hl, cond_true] at hf
            obtain ⟨m, hm⟩ := ih (j + 1) (by omega) hf
            refine ⟨m + 1, fun k => ?_⟩
            rw [aIterK, M21let hL (by omega) hl]
            exact hm k
      exact (main s.size 0 (by omega) rfl).imp fun m hm k => (hm k).symm
    · exact .inl fun k => by rw [aIf_neg hp]
  · exact .inl fun k => rfl)
theorem C21_loops : ∀ c, Try.f21.body = some c → LoopsOK C21 c := LoopsOK.of 1 (by kernel_rfl) (fun j hj S hS => by
  match j, hj with
  | 0, _ => rw [C21_l0] at hS; cases hS; exact L21_5_ok
  | n + 1, hj => omega)
noncomputable def S21 : FSpec := inlineK C21 Try.f21
theorem S21_ok : SpecOK Try.prog 21 S21 := inlineK_ok C21_ok Try.func21 C21_loops
theorem En21 : Enters Try.prog 21 := ⟨_, Try.func21, by decide, rfl⟩
noncomputable def R21 (args : List AV) : Res := S21 args [] encK
noncomputable def V21 : FSpec := leafK (.tup [.ints .u8, .int .i64, .int .i64, .int .i64]) R21
theorem V21_ok : SpecOK Try.prog 21 V21 := leafK_ok S21_ok (fun _ => rfl)
theorem N21 (s : ByteArray) : S21 [.str s] [] encK =
  aIf (shOK (Sh.int IntKind.i64) (R57 [AV.str s]))
  (aIf (decide ((sel (R57 [AV.str s]) []).toInt > 65536))
    (some (AEnd.ret (AV.tup [AV.fs 1 [] SF.nil, AV.int IntKind.i64 0, AV.int IntKind.i64 0, AV.int IntKind.i64 2]), []))
    (aIf (true && decide (s.size ≤ 1000000))
      (aIf (Pl.firstX s s.size 0 == s.size)
        (aIf (s.size == 0)
          (aIf (shOK (Sh.tup [Sh.ints IntKind.u8, Sh.int IntKind.i64]) (R22 [AV.fs 2 [] SF.nil]))
            (some
              (AEnd.ret
                  (AV.tup
                    [AV.fs 1 (sel (R22 [AV.fs 2 [] SF.nil]) [0]).toFs (sel (R22 [AV.fs 2 [] SF.nil]) [0]).toFl,
                      AV.int IntKind.i64 0, AV.int IntKind.i64 0, AV.int IntKind.i64 0]),
                []))
            none)
          (aIf (2 * s.size == 2 * s.size)
            (aIf (decide (0 + s.size * 2 ≤ (Pl.runC s s.size).length))
              (aIf (flatL (List.take (s.size * 2) (List.drop 0 (Pl.runC s s.size))))
                (aIf
                  (shOK (Sh.tup [Sh.ints IntKind.u8, Sh.int IntKind.i64])
                    (R22
                      [AV.fs 2
                          (List.map (fun i => AV.agg (List.take 2 (List.drop (0 + i * 2) (Pl.runC s s.size))))
                            (List.range s.size))
                          SF.any]))
                  (some
                    (AEnd.ret
                        (AV.tup
                          [AV.fs 1
                              (sel
                                  (R22
                                    [AV.fs 2
                                        (List.map
                                          (fun i => AV.agg (List.take 2 (List.drop (0 + i * 2) (Pl.runC s s.size))))
                                          (List.range s.size))
                                        SF.any])
                                  [0]).toFs
                              (sel
                                  (R22
                                    [AV.fs 2
                                        (List.map
                                          (fun i => AV.agg (List.take 2 (List.drop (0 + i * 2) (Pl.runC s s.size))))
                                          (List.range s.size))
                                        SF.any])
                                  [0]).toFl,
                            AV.int IntKind.i64 (↑s.size : Int), AV.int IntKind.i64 0, AV.int IntKind.i64 0]),
                      []))
                  none)
                none)
              none)
            none))
        (aIf (Pl.firstX s s.size 0 == 0)
          (some
            (AEnd.ret
                (AV.tup
                  [AV.fs 1 [] SF.nil, AV.int IntKind.i64 0, AV.int IntKind.i64 (↑(Pl.firstX s s.size 0) : Int),
                    AV.int IntKind.i64 31]),
              []))
          (some
            (AEnd.ret
                (AV.tup
                  [AV.fs 1 [] SF.nil, AV.int IntKind.i64 0, AV.int IntKind.i64 (↑(Pl.firstX s s.size 0) : Int),
                    AV.int IntKind.i64 31]),
              []))))
      none))
  none := by kernel_rfl
theorem R21_is {s : ByteArray} (hL : s.size ≤ 1000000) :
    ∃ fl', R21 [.str s] = some (.ret (.tup [.fs 1 (readX s) fl', .int .i64 (readN s), .int .i64 (readI s), .int .i64 (readE s)]), []) := by
  show ∃ fl', S21 _ [] encK = _
  have hc := runesN_le s s.size 0
  have h1 : (sel (some (AEnd.ret (AV.int .i64 (runesN s s.size 0 : Int)), [])) []).toInt = (runesN s s.size 0 : Int) := rfl
  have hi : inK .i64 (runesN s s.size 0 : Int) = true := by rw [inK_i64, Bool.and_eq_true, decide_eq_true_eq, decide_eq_true_eq]; omega
  unfold readX readN readI readE
  rw [N21, R57_is hL, shOK_ret, has_int, hi, aIf_true, h1]
  cases ho : okB s
  · have hb : ¬ runesN s s.size 0 ≤ 65536 := fun h => by
      unfold okB at ho
      rw [Nat.ble_eq_true_of_le h] at ho
      cases ho
    rw [decide_eq_true (show (runesN s s.size 0 : Int) > 65536 by omega)]
    exact ⟨.nil, rfl⟩
  have hb := Nat.le_of_ble_eq_true ho
  rw [decide_eq_false (show ¬ (runesN s s.size 0 : Int) > 65536 by omega), aIf_false, decide_eq_true hL, Bool.and_self, aIf_true]
  cases ha : allB s
  · have ha' : (firstX s s.size 0 == s.size) = false := ha
    rw [ha']
    cases (firstX s s.size 0 == 0) <;> exact ⟨.nil, rfl⟩
  have ha' : (firstX s s.size 0 == s.size) = true := ha
  obtain ⟨c1, c2, c3⟩ := readX_cat ho ha
  have hp : intsB .u8 (packL (bitC s s.size)) = true := by
    rw [← c1]
    unfold catX
    rw [runZ_bad (allB_let ha) _ 0 (by rw [runZ_length]; omega)]
    cases Nat.ble (sumR (runZ s s.size) (runZ s s.size).length) 65536
    · rfl
    · exact catP_u8 (Nat.le_refl _)
  have g1 : ∀ (x y : AV), sel (some (AEnd.ret (AV.tup [x, y]), [])) [0] = x := fun _ _ => rfl
  have hr := runZ_runs (allB_let ha)
  rw [ha', aIf_true]
  cases h0 : s.size == 0
  · have hn0 : s.size ≠ 0 := by simpa using h0
    have hlen := runC_length s s.size
    obtain ⟨f, e⟩ := R22_is (fl := .any) hr (by rw [runZ_length]; exact c3)
    rw [aIf_false, beq_self_eq_true, aIf_true, hlen, decide_eq_true (show 0 + s.size * 2 ≤ 2 * s.size by omega), aIf_true, List.drop_zero, List.take_of_length_le (by omega), runC_flat, aIf_true, runZ_eq, e, c1, c2, g1]
    simp only [shOK_ret, has_tup, hasL_cons, hasL_nil, List.getD_cons_zero, List.getD_cons_succ, has_int, has_ints, hp, show inK .i64 0 = true from rfl, AV.toFs, List.length_cons, List.length_nil, beq_self_eq_true, Bool.and_self, aIf_true]
    exact ⟨_, rfl⟩
  · have hz : s.size = 0 := by simpa using h0
    obtain ⟨f, e⟩ := R22_is (xs := []) (fl := .nil) rfl (Nat.zero_le _)
    rw [aIf_true, e, g1, hz]
    exact ⟨_, rfl⟩

/-- ferryman/ferrymanlaw03.FieldBack -/
noncomputable def T3 : List (FuncId × FSpec) := [(15, V15), (16, V16), (17, S17), (18, V18), (19, V19), (20, V20), (21, V21)]
theorem T3_ok : TabOK Try.prog T3 := TabOK.cons En15 V15_ok (TabOK.cons En16 V16_ok (TabOK.cons En17 S17_ok (TabOK.cons En18 V18_ok (TabOK.cons En19 V19_ok (TabOK.cons En20 V20_ok (TabOK.cons En21 V21_ok (TabOK.nil _)))))))
noncomputable def C3 : Ctx := (ctx E T3 [] [(0, [0, 1, 2, 3, 4]), (1, [0, 1, 2, 3, 4]), (2, [0, 1, 2, 3, 4, 11, 12]), (3, [0, 1, 2, 3, 4, 11, 36]), (4, [10]), (5, [0, 1, 2, 3, 4, 11, 13, 14]), (6, [0, 1, 2, 3, 4, 11, 13, 14, 15, 16]), (7, [0, 1, 2, 3, 4, 11, 13, 14, 16, 17, 18]), (8, [0, 1, 2, 4, 11, 93]), (9, [10]), (10, [0, 123]), (11, [10]), (12, [0, 19, 20]), (13, [0, 20, 21, 22, 24]), (14, [10])] [] 162 70)
theorem C3_ok : CtxOK Try.prog C3 := ctx_ok E_ok E_flds mixed T3_ok
noncomputable def S3 : FSpec := inlineK C3 Try.f3
theorem S3_ok : SpecOK Try.prog 3 S3 := inlineK_ok C3_ok Try.func3 (fun _ _ => LoopsOK.none _)
theorem En3 : Enters Try.prog 3 := ⟨_, Try.func3, by decide, rfl⟩

end Go.Proofs.Ytkiipegoooldiaa

