import Derived.Test.YtkiipegoooldiaaA20
import Derived.Test.YtkiipegoooldiaaRows
import Derived.Test.YtkiipegoooldiaaPRuns
namespace Go.Proofs.Ytkiipegoooldiaa
open Go.Abs Go.Pl

noncomputable def E : Env := envOf Try.prog
theorem E_ok : EnvOK Try.prog E := envOf_ok _
theorem E_flds : FieldsOK E := fieldsB_ok (by kernel_rfl)
theorem mixed : Try.prog.follows .mixedOrders = true := by kernel_rfl
/-- ferryman/field.there -/
noncomputable def T52 : List (FuncId × FSpec) := []
theorem T52_ok : TabOK Try.prog T52 := TabOK.nil _
noncomputable def C52 : Ctx := (ctx E T52 [] [(0, [0, 1, 2]), (1, [6])] [] 29 70)
theorem C52_ok : CtxOK Try.prog C52 := ctx_ok E_ok E_flds mixed T52_ok
noncomputable def S52 : FSpec := inlineK C52 Try.f52
theorem S52_ok : SpecOK Try.prog 52 S52 := inlineK_ok C52_ok Try.func52 (fun _ _ => LoopsOK.none _)
theorem En52 : Enters Try.prog 52 := ⟨_, Try.func52, by decide, rfl⟩
noncomputable def R52 (args : List AV) : Res := S52 args [] encK
noncomputable def V52 : FSpec := leafK (.bool) R52
theorem V52_ok : SpecOK Try.prog 52 V52 := leafK_ok S52_ok (fun _ => rfl)
theorem N52 (xs : List AV) (fl : SF) (a n : Int) : S52 [.fs 1 xs fl, .int .i64 a, .int .i64 n] [] encK =
  aIf (decide (a ≥ 0))
  (aIf (decide (n ≥ 0))
    (aIf (decide (n ≤ IntKind.i64.wrap (8 * (↑xs.length : Int))))
      (some (AEnd.ret (AV.bool (decide (a ≤ IntKind.i64.wrap (IntKind.i64.wrap (8 * (↑xs.length : Int)) - n)))), []))
      (some (AEnd.ret (AV.bool false), [])))
    (some (AEnd.ret (AV.bool false), [])))
  (some (AEnd.ret (AV.bool false), [])) := by kernel_rfl
theorem R52_is {xs : List AV} {fl : SF} {a n : Int} (hL : xs.length ≤ 1000000) : R52 [.fs 1 xs fl, .int .i64 a, .int .i64 n] = some (.ret (.bool (thereB xs.length a n)), []) := by
  show S52 _ [] encK = _
  rw [N52]
  exact there_law hL (fun b => some (.ret (.bool b), []))

/-- ferryman/field.wide -/
noncomputable def T53 : List (FuncId × FSpec) := []
theorem T53_ok : TabOK Try.prog T53 := TabOK.nil _
noncomputable def C53 : Ctx := (ctx E T53 [] [(0, [0, 1]), (1, [4])] [] 14 70)
theorem C53_ok : CtxOK Try.prog C53 := ctx_ok E_ok E_flds mixed T53_ok
noncomputable def S53 : FSpec := inlineK C53 Try.f53
theorem S53_ok : SpecOK Try.prog 53 S53 := inlineK_ok C53_ok Try.func53 (fun _ _ => LoopsOK.none _)
theorem En53 : Enters Try.prog 53 := ⟨_, Try.func53, by decide, rfl⟩
noncomputable def R53 (args : List AV) : Res := S53 args [] encK
noncomputable def V53 : FSpec := leafK (.bool) R53
theorem V53_ok : SpecOK Try.prog 53 V53 := leafK_ok S53_ok (fun _ => rfl)
theorem N53 (v n : Int) : S53 [.int .u64 v, .int .i64 n] [] encK =
  aIf (decide (n < 64))
  (aIf (decide (IntKind.u64.wrap n < 0)) none
    (some (AEnd.ret (AV.bool (v.fdiv (2 ^ min (IntKind.u64.wrap n).toNat 64) != 0)), [])))
  (some (AEnd.ret (AV.bool false), [])) := by kernel_rfl
theorem R53_is {v n : Int} (hn : 0 ≤ n) : R53 [.int .u64 v, .int .i64 n] = some (.ret (.bool (!fitB v n)), []) := by
  show S53 _ [] encK = _
  rw [N53]
  exact wide_law hn (fun b => some (.ret (.bool b), []))

/-- slices.Clone[[]byte,byte] -/
noncomputable def T54 : List (FuncId × FSpec) := []
theorem T54_ok : TabOK Try.prog T54 := TabOK.nil _
noncomputable def C54 : Ctx := (ctx E T54 [] [(0, [0]), (1, [0, 4]), (2, [2]), (3, [2])] [] 8 70)
theorem C54_ok : CtxOK Try.prog C54 := ctx_ok E_ok E_flds mixed T54_ok
noncomputable def S54 : FSpec := inlineK C54 Try.f54
theorem S54_ok : SpecOK Try.prog 54 S54 := inlineK_ok C54_ok Try.func54 (fun _ _ => LoopsOK.none _)
theorem En54 : Enters Try.prog 54 := ⟨_, Try.func54, by decide, rfl⟩
noncomputable def R54 (args : List AV) : Res := S54 args [] encK
noncomputable def V54 : FSpec := leafK (.ints .u8) R54
theorem V54_ok : SpecOK Try.prog 54 V54 := leafK_ok S54_ok (fun _ => rfl)

noncomputable def W54 : FSpec := liveK C54 Try.f54
theorem W54_ok : SpecOK Try.prog 54 W54 := liveK_ok C54_ok Try.func54 (fun _ _ => LoopsOK.none _)

/-- ferryman/field.set -/
noncomputable def T55 : List (FuncId × FSpec) := []
theorem T55_ok : TabOK Try.prog T55 := TabOK.nil _
noncomputable def C55 : Ctx := (ctx E T55 [] [(0, [0, 1, 2, 6]), (1, [0, 1, 2, 6]), (2, [0, 1, 6, 21]), (3, [])] [] 30 70)
theorem C55_ok : CtxOK Try.prog C55 := ctx_ok E_ok E_flds mixed T55_ok
noncomputable def B55 : FSpec := inlineK C55 Try.f55
noncomputable def S55 : FSpec := fun args H k => match args, H with
  | [.sl 0 ver 0 len 1, .int .i64 i, .int .u64 v], (.cells w ys :: rest) => aIf (setG w ver len ys i v) (k (.ret (.tup [])) (.cells ver (setV ys i.toNat (v % 2)) :: rest)) none
  | _, _ => none
theorem B55_ok : SpecOK Try.prog 55 B55 := inlineK_ok C55_ok Try.func55 (fun _ _ => LoopsOK.none _)
theorem N55 (w ver len : Nat) (ys : List AV) (i v : Int) (rest : AH) (k : KE) : B55 [.sl 0 ver 0 len 1, .int .i64 i, .int .u64 v] (.cells w ys :: rest) k =
  aIf (decide (IntKind.i64.wrap (7 - i.tmod 8) < 0)) none
  (aIf (decide (0 ≤ IntKind.i64.wrap (i.tdiv 8)))
    (aIf (decide (IntKind.i64.wrap (i.tdiv 8) < (↑len : Int)))
      (aIf (w == ver)
        (aIf (decide (0 + (IntKind.i64.wrap (i.tdiv 8)).toNat * 1 + 1 ≤ ys.length))
          (aIf ((ys.getD (0 + (IntKind.i64.wrap (i.tdiv 8)).toNat * 1) AV.junk).isInt IntKind.u8)
            (aIf (decide (0 ≤ IntKind.i64.wrap (i.tdiv 8)))
              (aIf (decide (IntKind.i64.wrap (i.tdiv 8) < (↑len : Int)))
                (aIf (w == ver)
                  (aIf (decide (0 + (IntKind.i64.wrap (i.tdiv 8)).toNat * 1 + 1 ≤ ys.length))
                    (aIf (IntKind.u64.wrap (↑(BitVec.ofInt 64 v &&& BitVec.ofInt 64 1).toNat : Int) == 1)
                      (aIf (decide (0 ≤ IntKind.i64.wrap (i.tdiv 8)))
                        (aIf (decide (IntKind.i64.wrap (i.tdiv 8) < (↑len : Int)))
                          (aIf (ver == ver)
                            (aIf
                              (decide
                                (0 + (IntKind.i64.wrap (i.tdiv 8)).toNat * 1 + 1 ≤
                                  (ys.set (0 + (IntKind.i64.wrap (i.tdiv 8)).toNat * 1)
                                      (AV.int IntKind.u8
                                        (IntKind.u8.wrap
                                          (↑(BitVec.ofInt 8
                                                    (ys.getD (0 + (IntKind.i64.wrap (i.tdiv 8)).toNat * 1)
                                                        AV.junk).toInt &&&
                                                  ~~~BitVec.ofInt 8
                                                      (IntKind.u8.wrap
                                                        (1 *
                                                          2 ^ min (IntKind.i64.wrap (7 - i.tmod 8)).toNat 8))).toNat :
                                            Int)))).length))
                              (aIf
                                (((ys.set (0 + (IntKind.i64.wrap (i.tdiv 8)).toNat * 1)
                                          (AV.int IntKind.u8
                                            (IntKind.u8.wrap
                                              (↑(BitVec.ofInt 8
                                                        (ys.getD (0 + (IntKind.i64.wrap (i.tdiv 8)).toNat * 1)
                                                            AV.junk).toInt &&&
                                                      ~~~BitVec.ofInt 8
                                                          (IntKind.u8.wrap
                                                            (1 *
                                                              2 ^
                                                                min (IntKind.i64.wrap (7 - i.tmod 8)).toNat 8))).toNat :
                                                Int)))).getD
                                      (0 + (IntKind.i64.wrap (i.tdiv 8)).toNat * 1) AV.junk).isInt
                                  IntKind.u8)
                                (aIf (decide (0 ≤ IntKind.i64.wrap (i.tdiv 8)))
                                  (aIf (decide (IntKind.i64.wrap (i.tdiv 8) < (↑len : Int)))
                                    (aIf (ver == ver)
                                      (aIf
                                        (decide
                                          (0 + (IntKind.i64.wrap (i.tdiv 8)).toNat * 1 + 1 ≤
                                            (ys.set (0 + (IntKind.i64.wrap (i.tdiv 8)).toNat * 1)
                                                (AV.int IntKind.u8
                                                  (IntKind.u8.wrap
                                                    (↑(BitVec.ofInt 8
                                                              (ys.getD (0 + (IntKind.i64.wrap (i.tdiv 8)).toNat * 1)
                                                                  AV.junk).toInt &&&
                                                            ~~~BitVec.ofInt 8
                                                                (IntKind.u8.wrap
                                                                  (1 *
                                                                    2 ^
                                                                      min (IntKind.i64.wrap (7 - i.tmod 8)).toNat
                                                                        8))).toNat :
                                                      Int)))).length))
                                        (k (AEnd.ret (AV.tup []))
                                          (AO.cells ver
                                              ((ys.set (0 + (IntKind.i64.wrap (i.tdiv 8)).toNat * 1)
                                                    (AV.int IntKind.u8
                                                      (IntKind.u8.wrap
                                                        (↑(BitVec.ofInt 8
                                                                  (ys.getD (0 + (IntKind.i64.wrap (i.tdiv 8)).toNat * 1)
                                                                      AV.junk).toInt &&&
                                                                ~~~BitVec.ofInt 8
                                                                    (IntKind.u8.wrap
                                                                      (1 *
                                                                        2 ^
                                                                          min (IntKind.i64.wrap (7 - i.tmod 8)).toNat
                                                                            8))).toNat :
                                                          Int)))).set
                                                (0 + (IntKind.i64.wrap (i.tdiv 8)).toNat * 1)
                                                (AV.int IntKind.u8
                                                  (IntKind.u8.wrap
                                                    (↑(BitVec.ofInt 8
                                                              ((ys.set (0 + (IntKind.i64.wrap (i.tdiv 8)).toNat * 1)
                                                                      (AV.int IntKind.u8
                                                                        (IntKind.u8.wrap
                                                                          (↑(BitVec.ofInt 8
                                                                                    (ys.getD
                                                                                        (0 +
                                                                                          (IntKind.i64.wrap
                                                                                                (i.tdiv 8)).toNat *
                                                                                            1)
                                                                                        AV.junk).toInt &&&
                                                                                  ~~~BitVec.ofInt 8
                                                                                      (IntKind.u8.wrap
                                                                                        (1 *
                                                                                          2 ^
                                                                                            min
                                                                                              (IntKind.i64.wrap
                                                                                                  (7 - i.tmod 8)).toNat
                                                                                              8))).toNat :
                                                                            Int)))).getD
                                                                  (0 + (IntKind.i64.wrap (i.tdiv 8)).toNat * 1)
                                                                  AV.junk).toInt |||
                                                            BitVec.ofInt 8
                                                              (IntKind.u8.wrap
                                                                (1 *
                                                                  2 ^
                                                                    min (IntKind.i64.wrap (7 - i.tmod 8)).toNat
                                                                      8))).toNat :
                                                      Int)))) ::
                                            rest))
                                        none)
                                      none)
                                    none)
                                  none)
                                none)
                              none)
                            none)
                          none)
                        none)
                      (k (AEnd.ret (AV.tup []))
                        (AO.cells ver
                            (ys.set (0 + (IntKind.i64.wrap (i.tdiv 8)).toNat * 1)
                              (AV.int IntKind.u8
                                (IntKind.u8.wrap
                                  (↑(BitVec.ofInt 8
                                            (ys.getD (0 + (IntKind.i64.wrap (i.tdiv 8)).toNat * 1) AV.junk).toInt &&&
                                          ~~~BitVec.ofInt 8
                                              (IntKind.u8.wrap
                                                (1 * 2 ^ min (IntKind.i64.wrap (7 - i.tmod 8)).toNat 8))).toNat :
                                    Int)))) ::
                          rest)))
                    none)
                  none)
                none)
              none)
            none)
          none)
        none)
      none)
    none) := by kernel_rfl
theorem S55_ok : SpecOK Try.prog 55 S55 := by
  refine B55_ok.turn fun args H => ?_
  unfold S55
  split
  · rename_i ver len i v w ys rest
    rcases Bool.eq_false_or_eq_true (setG w ver len ys i v) with hp | hp
    · refine .inr fun k => ?_
      rw [aIf_pos hp, N55]
      obtain ⟨rfl, rfl, hL, hu, hi0, hi1, hv0, hv1⟩ := setG_of hp
      obtain ⟨j, rfl⟩ := Int.eq_ofNat_of_zero_le hi0
      have hj : j / 8 < ys.length := by omega
      obtain ⟨x, hx, he⟩ := u8_get hu (j / 8) hj
      have hs : 7 - j % 8 < 8 := by omega
      have e1 : IntKind.i64.wrap ((j : Int).tdiv 8) = ((j / 8 : Nat) : Int) := div8 (by omega)
      have e2 := sh7 j
      have e3 : min (7 - j % 8) 8 = 7 - j % 8 := by omega
      have e4 : decide (((j / 8 : Nat) : Int) < (ys.length : Int)) = true := decide_eq_true (by omega)
      have e5 : decide (j / 8 + 1 ≤ ys.length) = true := decide_eq_true (by omega)
      have e6 : IntKind.u64.wrap (v % 2) = v % 2 := u64n (by omega) (by omega)
      have r0 := setByte_range (b := 0) hx hs (.inl rfl)
      have r1 := setByte_range (b := 1) hx hs (.inr rfl)
      simp only [e1, e2, e3, e4, e5, dnn, dnn', Int.toNat_natCast, Nat.zero_add, Nat.mul_one, Int.one_mul, he, isInt_self, beq_self_eq_true, aIf_true, aIf_false, and1 hv0 hv1, e6, u8pow hs, AV.toInt, byte_and hx hs, u8n r0.1 r0.2,
        List.length_set, getD_set_self hj, byte_or hx hs, u8n r1.1 r1.2, List.set_set, setV]
      rcases (by omega : v % 2 = 0 ∨ v % 2 = 1) with h2 | h2
      · rw [h2]; rfl
      · rw [h2]; rfl
    · exact .inl fun k => by rw [aIf_neg hp]
  · exact .inl fun k => rfl
theorem En55 : Enters Try.prog 55 := ⟨_, Try.func55, by decide, rfl⟩

/-- ferryman/field.Put -/
noncomputable def T16 : List (FuncId × FSpec) := [(52, V52), (53, V53), (54, W54), (55, S55)]
theorem T16_ok : TabOK Try.prog T16 := TabOK.cons En52 V52_ok (TabOK.cons En53 V53_ok (TabOK.cons En54 W54_ok (TabOK.cons En55 S55_ok (TabOK.nil _))))
noncomputable def L16_7 : ATs → AH → KC → Res := fun ts H k => match ts, H with
  | [(1, .int .i64 a), (2, .int .i64 n), (3, .int .u64 v), (10, .sl 0 ver 0 len 1), (26, .int .i64 x), (27, .int .i64 y)], [.cells w ys] => aIf (putG w ver len ys a n v x y) (k (.exit 0) [(1, .int .i64 a), (2, .int .i64 n), (3, .int .u64 v), (10, .sl 0 ver 0 len 1), (26, .int .i64 x), (27, .int .i64 x), (28, .bool false)] [.cells ver (putL ys a.toNat (vbit v x.toNat) x.toNat)]) none
  | [(1, .int .i64 a), (2, .int .i64 n), (3, .int .u64 v), (10, .fs 1 xs fl), (26, .int .i64 x), (27, .int .i64 y)], [] => aIf (x == 0 && y == 0) (k (.exit 0) [(1, .int .i64 a), (2, .int .i64 n), (3, .int .u64 v), (10, .fs 1 xs fl), (26, .int .i64 x), (27, .int .i64 y), (28, .bool false)] []) none
  | _, _ => none
noncomputable def C16 : Ctx := (ctx E T16 [(7, L16_7)] [(0, [0, 1, 2, 3]), (1, [0, 1, 2, 3, 20]), (2, [8, 9]), (3, [0, 1, 2, 3, 23]), (4, [8, 9]), (5, [1, 2, 3, 10]), (6, [1, 2, 3, 10, 26, 27]), (7, [1, 2, 3, 10, 26, 27, 28]), (8, [1, 2, 3, 10, 11, 26, 27]), (9, [1, 2, 3, 10, 26, 27]), (10, [1, 2, 3, 10, 26, 27]), (11, [8, 9]), (1000007, [1, 2, 3, 10, 26, 27])] [54] 44 70)
theorem C16_ok : CtxOK Try.prog C16 := ctx_ok E_ok E_flds mixed T16_ok
theorem C16_l0 : C16.loop (loopId (loopB Try.f16 0)) = some L16_7 := by kernel_rfl
theorem L16_7_in : LoopsOK C16 (loopB Try.f16 0) := LoopsOK.within 0 (by kernel_rfl) (fun j hj S hS => by
  omega)
theorem M16_7a (a n v : Int) (ver len : Nat) (x y : Int) (w : Nat) (ys : List AV) (k : KC) : headedK C16 (loopB Try.f16 0) [(1, .int .i64 a), (2, .int .i64 n), (3, .int .u64 v), (10, .sl 0 ver 0 len 1), (26, .int .i64 x), (27, .int .i64 y)] [.cells w ys] k =
  aIf (decide (y < x))
  (aIf (decide (IntKind.u64.wrap (IntKind.i64.wrap (IntKind.i64.wrap (n - 1) - y)) < 0)) none
    (aIf
      (Pl.setG w ver len ys (IntKind.i64.wrap (a + y))
        (v.fdiv (2 ^ min (IntKind.u64.wrap (IntKind.i64.wrap (IntKind.i64.wrap (n - 1) - y))).toNat 64)))
      (k AExit.normal
        [(1, AV.int IntKind.i64 a), (2, AV.int IntKind.i64 n), (3, AV.int IntKind.u64 v), (10, AV.sl 0 ver 0 len 1),
          (26, AV.int IntKind.i64 x), (27, AV.int IntKind.i64 (IntKind.i64.wrap (y + 1)))]
        [AO.cells ver
            (Pl.setV ys (IntKind.i64.wrap (a + y)).toNat
              (v.fdiv (2 ^ min (IntKind.u64.wrap (IntKind.i64.wrap (IntKind.i64.wrap (n - 1) - y))).toNat 64) % 2))])
      none))
  (k (AExit.exit 0)
    [(1, AV.int IntKind.i64 a), (2, AV.int IntKind.i64 n), (3, AV.int IntKind.u64 v), (10, AV.sl 0 ver 0 len 1),
      (26, AV.int IntKind.i64 x), (27, AV.int IntKind.i64 y), (28, AV.bool (decide (y < x)))]
    [AO.cells w ys]) := by kernel_rfl
theorem M16_7b (a n v : Int) (xs : List AV) (fl : SF) (x y : Int) (k : KC) : headedK C16 (loopB Try.f16 0) [(1, .int .i64 a), (2, .int .i64 n), (3, .int .u64 v), (10, .fs 1 xs fl), (26, .int .i64 x), (27, .int .i64 y)] [] k =
  aIf (decide (y < x)) (aIf (decide (IntKind.u64.wrap (IntKind.i64.wrap (IntKind.i64.wrap (n - 1) - y)) < 0)) none none)
  (k (AExit.exit 0)
    [(1, AV.int IntKind.i64 a), (2, AV.int IntKind.i64 n), (3, AV.int IntKind.u64 v), (10, AV.fs 1 xs fl),
      (26, AV.int IntKind.i64 x), (27, AV.int IntKind.i64 y), (28, AV.bool (decide (y < x)))]
    []) := by kernel_rfl
theorem L16_7_ok : LoopSum C16 (loopB Try.f16 0) L16_7 := LoopSum.of C16_ok L16_7_in (fun ts H => by
  unfold L16_7
  split
  · rename_i a n v ver len x y w ys
    rcases Bool.eq_false_or_eq_true (putG w ver len ys a n v x y) with hp | hp
    · refine .inr ?_
      simp only [aIf_pos hp]
      obtain ⟨rfl, rfl, hL, hu, ha, rfl, rfl, hn0, hn1, han, hv0, hv1⟩ := putG_of hp
      obtain ⟨a, rfl⟩ := Int.eq_ofNat_of_zero_le ha
      obtain ⟨n, rfl⟩ := Int.eq_ofNat_of_zero_le hn0
      have main : ∀ d j : Nat, j + d = n → ∃ m, ∀ k, aIterK m (headedK C16 (loopB Try.f16 0)) [(1, .int .i64 (a : Int)), (2, .int .i64 (n : Int)), (3, .int .u64 v), (10, .sl 0 w 0 ys.length 1), (26, .int .i64 (n : Int)), (27, .int .i64 (j : Int))] [.cells w (putL ys a (vbit v n) j)] k =
          k (.exit 0) [(1, .int .i64 (a : Int)), (2, .int .i64 (n : Int)), (3, .int .u64 v), (10, .sl 0 w 0 ys.length 1), (26, .int .i64 (n : Int)), (27, .int .i64 (n : Int)), (28, .bool false)] [.cells w (putL ys a (vbit v n) n)] := by
        intro d
        induction d with
        | zero =>
          intro j hj
          obtain rfl : j = n := by omega
          refine ⟨1, fun k => ?_⟩
          rw [aIterK, M16_7a]
          simp only [dltf, aIf_false]
        | succ d ih =>
          intro j hj
          obtain ⟨m, hm⟩ := ih (j + 1) (by omega)
          refine ⟨m + 1, fun k => ?_⟩
          have r := shr_range hv0 hv1 (n - 1 - j)
          have e3 : min (n - 1 - j) 64 = n - 1 - j := by omega
          rw [aIterK, M16_7a, aIf_pos (dlt (by omega)), sh_n1 (by omega) (by omega), u64nn (by omega), dnn, aIf_false, i64a (by omega), i64s (by omega), Int.toNat_natCast, e3, shr_eq, Int.toNat_natCast,
            setG_ok (by rw [putL_length]) hL (putL_u8 hu j fun i _ => vbit_01 v n i) (by omega) (by omega) r.1 r.2, aIf_true]
          exact hm k
      exact (main n 0 (by omega)).imp fun m hm k => (hm k).symm
    · exact .inl fun k => by rw [aIf_neg hp]
  · rename_i a n v xs fl x y
    rcases Bool.eq_false_or_eq_true (x == 0 && y == 0) with hp | hp
    · refine .inr ?_
      simp only [aIf_pos hp]
      simp only [Bool.and_eq_true, beq_iff_eq] at hp
      obtain ⟨rfl, rfl⟩ := hp
      refine ⟨1, fun k => ?_⟩
      rw [aIterK, M16_7b]
      rfl
    · exact .inl fun k => by rw [aIf_neg hp]
  · exact .inl fun k => rfl)
theorem C16_loops : ∀ c, Try.f16.body = some c → LoopsOK C16 c := LoopsOK.of 1 (by kernel_rfl) (fun j hj S hS => by
  match j, hj with
  | 0, _ => rw [C16_l0] at hS; cases hS; exact L16_7_ok
  | n + 1, hj => omega)
noncomputable def S16 : FSpec := inlineK C16 Try.f16
theorem S16_ok : SpecOK Try.prog 16 S16 := inlineK_ok C16_ok Try.func16 C16_loops
theorem En16 : Enters Try.prog 16 := ⟨_, Try.func16, by decide, rfl⟩
noncomputable def R16 (args : List AV) : Res := S16 args [] encK
noncomputable def V16 : FSpec := leafK (.tup [.ints .u8, .int .i64]) R16
theorem V16_ok : SpecOK Try.prog 16 V16 := leafK_ok S16_ok (fun _ => rfl)
theorem N16a (xs : List AV) (a n v : Int) : S16 [.fs 1 xs .any, .int .i64 a, .int .i64 n, .int .u64 v] [] encK =
  aIf (decide (n > 64)) (some (AEnd.ret (AV.tup [AV.fs 1 [] SF.nil, AV.int IntKind.i64 30]), []))
  (aIf (shOK Sh.bool (R52 [AV.fs 1 xs SF.any, AV.int IntKind.i64 a, AV.int IntKind.i64 n]))
    (aIf (!(sel (R52 [AV.fs 1 xs SF.any, AV.int IntKind.i64 a, AV.int IntKind.i64 n]) []).toBool)
      (some (AEnd.ret (AV.tup [AV.fs 1 [] SF.nil, AV.int IntKind.i64 30]), []))
      (aIf (shOK Sh.bool (R53 [AV.int IntKind.u64 v, AV.int IntKind.i64 n]))
        (aIf (sel (R53 [AV.int IntKind.u64 v, AV.int IntKind.i64 n]) []).toBool
          (some (AEnd.ret (AV.tup [AV.fs 1 [] SF.nil, AV.int IntKind.i64 1]), []))
          (aIf (xs.length == 0)
            (aIf (n == 0 && true) (some (AEnd.ret (AV.tup [AV.fs 1 [] SF.zc, AV.int IntKind.i64 0]), [])) none)
            (aIf ((xs.length * 1).ble 140737488355328)
              (aIf ((List.flatMap AV.cells xs).length == xs.length * 1)
                (aIf (Pl.putG (xs.length * 1) (xs.length * 1) xs.length (List.flatMap AV.cells xs) a n v n 0)
                  (aIf (xs.length * 1 == xs.length * 1)
                    (aIf
                      (decide
                        (0 + xs.length * 1 ≤
                          (Pl.putL (List.flatMap AV.cells xs) a.toNat (Pl.vbit v n.toNat) n.toNat).length))
                      (aIf
                        (flatL
                          (List.take (xs.length * 1)
                            (List.drop 0 (Pl.putL (List.flatMap AV.cells xs) a.toNat (Pl.vbit v n.toNat) n.toNat))))
                        (some
                          (AEnd.ret
                              (AV.tup
                                [AV.fs 1
                                    (List.take xs.length
                                      (List.drop 0
                                        (Pl.putL (List.flatMap AV.cells xs) a.toNat (Pl.vbit v n.toNat) n.toNat)))
                                    SF.any,
                                  AV.int IntKind.i64 0]),
                            []))
                        none)
                      none)
                    none)
                  none)
                none)
              none)))
        none))
    none) := by kernel_rfl
theorem N16n (a n v : Int) : S16 [.fs 1 [] .nil, .int .i64 a, .int .i64 n, .int .u64 v] [] encK =
  aIf (decide (n > 64)) (some (AEnd.ret (AV.tup [AV.fs 1 [] SF.nil, AV.int IntKind.i64 30]), []))
  (aIf (shOK Sh.bool (R52 [AV.fs 1 [] SF.nil, AV.int IntKind.i64 a, AV.int IntKind.i64 n]))
    (aIf (!(sel (R52 [AV.fs 1 [] SF.nil, AV.int IntKind.i64 a, AV.int IntKind.i64 n]) []).toBool)
      (some (AEnd.ret (AV.tup [AV.fs 1 [] SF.nil, AV.int IntKind.i64 30]), []))
      (aIf (shOK Sh.bool (R53 [AV.int IntKind.u64 v, AV.int IntKind.i64 n]))
        (aIf (sel (R53 [AV.int IntKind.u64 v, AV.int IntKind.i64 n]) []).toBool
          (some (AEnd.ret (AV.tup [AV.fs 1 [] SF.nil, AV.int IntKind.i64 1]), []))
          (aIf (n == 0 && true) (some (AEnd.ret (AV.tup [AV.fs 1 [] SF.nil, AV.int IntKind.i64 0]), [])) none))
        none))
    none) := by kernel_rfl
theorem N16z (a n v : Int) : S16 [.fs 1 [] .zc, .int .i64 a, .int .i64 n, .int .u64 v] [] encK =
  aIf (decide (n > 64)) (some (AEnd.ret (AV.tup [AV.fs 1 [] SF.nil, AV.int IntKind.i64 30]), []))
  (aIf (shOK Sh.bool (R52 [AV.fs 1 [] SF.zc, AV.int IntKind.i64 a, AV.int IntKind.i64 n]))
    (aIf (!(sel (R52 [AV.fs 1 [] SF.zc, AV.int IntKind.i64 a, AV.int IntKind.i64 n]) []).toBool)
      (some (AEnd.ret (AV.tup [AV.fs 1 [] SF.nil, AV.int IntKind.i64 30]), []))
      (aIf (shOK Sh.bool (R53 [AV.int IntKind.u64 v, AV.int IntKind.i64 n]))
        (aIf (sel (R53 [AV.int IntKind.u64 v, AV.int IntKind.i64 n]) []).toBool
          (some (AEnd.ret (AV.tup [AV.fs 1 [] SF.nil, AV.int IntKind.i64 1]), []))
          (aIf (n == 0 && true) (some (AEnd.ret (AV.tup [AV.fs 1 [] SF.zc, AV.int IntKind.i64 0]), [])) none))
        none))
    none) := by kernel_rfl
theorem R16_is {xs : List AV} {fl : SF} {a n v : Int} (hu : intsB .u8 xs = true) (hL : xs.length ≤ 1000000) (hf : fl ≠ .any → xs = []) (hv0 : 0 ≤ v) (hv1 : v < 18446744073709551616) :
    ∃ fl', R16 [.fs 1 xs fl, .int .i64 a, .int .i64 n, .int .u64 v] = some (.ret (.tup [.fs 1 (putX xs a n v) fl', .int .i64 (putE xs.length a n v)]), []) := by
  show ∃ fl', S16 _ [] encK = _
  have empty : ∀ (gl : SF), thereB 0 a n = true → n = 0 := fun _ h => by have := there_of h; omega
  unfold putX putE
  cases fl with
  | nil =>
    obtain rfl := hf (by simp)
    rw [N16n, R52_is (by simp), shOK_ret, has_bool, aIf_true]
    simp only [List.length_nil]
    by_cases h1 : n > 64
    · refine ⟨.nil, ?_⟩
      rw [decide_eq_true h1]; rfl
    rw [decide_eq_false h1]
    simp only [aIf_false, Bool.false_or]
    cases h2 : thereB 0 a n
    · exact ⟨.nil, rfl⟩
    have hth := there_of h2
    obtain rfl := empty .nil h2
    rw [R53_is (Int.le_refl _), shOK_ret, has_bool, aIf_true]
    cases h3 : fitB v 0
    · exact ⟨.nil, rfl⟩
    · exact ⟨.nil, rfl⟩
  | zc =>
    obtain rfl := hf (by simp)
    rw [N16z, R52_is (by simp), shOK_ret, has_bool, aIf_true]
    simp only [List.length_nil]
    by_cases h1 : n > 64
    · refine ⟨.nil, ?_⟩
      rw [decide_eq_true h1]; rfl
    rw [decide_eq_false h1]
    simp only [aIf_false, Bool.false_or]
    cases h2 : thereB 0 a n
    · exact ⟨.nil, rfl⟩
    have hth := there_of h2
    obtain rfl := empty .zc h2
    rw [R53_is (Int.le_refl _), shOK_ret, has_bool, aIf_true]
    cases h3 : fitB v 0
    · exact ⟨.nil, rfl⟩
    · exact ⟨.zc, rfl⟩
  | any =>
    rw [N16a, R52_is hL, shOK_ret, has_bool, aIf_true]
    by_cases h1 : n > 64
    · refine ⟨.nil, ?_⟩
      rw [decide_eq_true h1]; rfl
    rw [decide_eq_false h1]
    simp only [aIf_false, Bool.false_or]
    cases h2 : thereB xs.length a n
    · exact ⟨.nil, rfl⟩
    have hth := there_of h2
    rw [R53_is hth.2.1, shOK_ret, has_bool, aIf_true]
    cases h3 : fitB v n
    · exact ⟨.nil, rfl⟩
    by_cases h4 : xs.length = 0
    · have hx : xs = [] := List.eq_nil_of_length_eq_zero h4
      subst hx
      obtain rfl := empty .any h2
      exact ⟨.zc, rfl⟩
    · refine ⟨.any, ?_⟩
      have hp := putL_u8 (a := a.toNat) hu n.toNat (fun i _ => vbit_01 v n.toNat i)
      have hpl := putL_length xs a.toNat (vbit v n.toNat) n.toNat
      rw [ints_cells hu, Nat.mul_one, putG_ok hu hL h1 h2 hv0 hv1, beq_self_eq_true, Nat.zero_add, take_all hpl, ints_flat hp, hpl, show (xs.length == 0) = false from beq_eq_false_iff_ne.2 h4, Nat.ble_eq_true_of_le (by omega), decide_eq_true (Nat.le_refl _)]
      rfl

/-- ferryman/field.bit -/
noncomputable def T56 : List (FuncId × FSpec) := []
theorem T56_ok : TabOK Try.prog T56 := TabOK.nil _
noncomputable def C56 : Ctx := (ctx E T56 [] [(0, [0, 1]), (1, [4])] [] 16 70)
theorem C56_ok : CtxOK Try.prog C56 := ctx_ok E_ok E_flds mixed T56_ok
noncomputable def S56 : FSpec := inlineK C56 Try.f56
theorem S56_ok : SpecOK Try.prog 56 S56 := inlineK_ok C56_ok Try.func56 (fun _ _ => LoopsOK.none _)
theorem En56 : Enters Try.prog 56 := ⟨_, Try.func56, by decide, rfl⟩
noncomputable def R56 (args : List AV) : Res := S56 args [] encK
noncomputable def V56 : FSpec := leafK (.int .u64) R56
theorem V56_ok : SpecOK Try.prog 56 V56 := leafK_ok S56_ok (fun _ => rfl)
theorem N56 (xs : List AV) (fl : SF) (i : Int) : S56 [.fs 1 xs fl, .int .i64 i] [] encK =
  aIf (decide (0 ≤ IntKind.i64.wrap (i.tdiv 8)))
  (aIf (decide (IntKind.i64.wrap (i.tdiv 8) < (↑xs.length : Int)))
    (aIf ((xs.getD (IntKind.i64.wrap (i.tdiv 8)).toNat AV.junk).cells.length == 1)
      (aIf
        (([(xs.getD (IntKind.i64.wrap (i.tdiv 8)).toNat AV.junk).cells.getD 0 AV.junk].getD 0 AV.junk).isInt IntKind.u8)
        (aIf (decide (IntKind.i64.wrap (7 - i.tmod 8) < 0)) none
          (some
            (AEnd.ret
                (AV.int IntKind.u64
                  (IntKind.u64.wrap
                    (↑(BitVec.ofInt 64
                              (IntKind.u64.wrap
                                (([(xs.getD (IntKind.i64.wrap (i.tdiv 8)).toNat AV.junk).cells.getD 0 AV.junk].getD 0
                                        AV.junk).toInt.fdiv
                                  (2 ^ min (IntKind.i64.wrap (7 - i.tmod 8)).toNat 8))) &&&
                            BitVec.ofInt 64 1).toNat :
                      Int))),
              [])))
        none)
      none)
    none)
  none := by kernel_rfl
theorem R56_is {xs : List AV} {fl : SF} {j : Nat} (hu : intsB .u8 xs = true) (hL : xs.length ≤ 1000000) (hj : j < 8 * xs.length) : R56 [.fs 1 xs fl, .int .i64 (j : Int)] = some (.ret (.int .u64 (bitV xs j)), []) := by
  show S56 _ [] encK = _
  obtain ⟨x, hx, he⟩ := u8_get hu (j / 8) (by omega)
  have e1 : IntKind.i64.wrap ((j : Int).tdiv 8) = ((j / 8 : Nat) : Int) := div8 (by omega)
  have e2 := sh7 j
  have e3 : min (7 - j % 8) 8 = 7 - j % 8 := by omega
  have e4 : decide (((j / 8 : Nat) : Int) < (xs.length : Int)) = true := decide_eq_true (by omega)
  have r := shr_byte hx (7 - j % 8)
  have e6 : IntKind.u64.wrap ((x : Int) / 2 ^ (7 - j % 8)) = (x : Int) / 2 ^ (7 - j % 8) := u64n (by omega) (by omega)
  rw [N56]
  simp only [e1, e2, e3, e4, dnn, dnn', Int.toNat_natCast, he, AV.cells, List.length_singleton, List.getD_cons_zero, isInt_self, beq_self_eq_true, aIf_true, aIf_false, AV.toInt, shr_eq, e6, and1 (u := (x : Int) / 2 ^ (7 - j % 8)) (by omega) (by omega), u64n (x := (x : Int) / 2 ^ (7 - j % 8) % 2) (by omega) (by omega), bitV]
theorem bit_shape {b : Int} (h : 0 ≤ b ∧ b ≤ 1) : shOK (.int .u64) (some (.ret (.int .u64 b), [])) = true := by
  rw [shOK_ret, has_int, inK_u64, decide_eq_true (show 0 ≤ b by omega), decide_eq_true (show b ≤ 18446744073709551615 by omega)]; rfl


/-- ferryman/field.Get -/
noncomputable def T18 : List (FuncId × FSpec) := [(52, V52), (56, V56)]
theorem T18_ok : TabOK Try.prog T18 := TabOK.cons En52 V52_ok (TabOK.cons En56 V56_ok (TabOK.nil _))
noncomputable def L18_5 : ATs → AH → KC → Res := fun ts H k => match ts, H with
  | [(0, .fs 1 xs fl), (1, .int .i64 a), (8, .int .u64 v), (19, .int .i64 x), (20, .int .i64 y)], [] => aIf (getG xs a v x y) (k (.exit 0) [(0, .fs 1 xs fl), (1, .int .i64 a), (8, .int .u64 (getN xs a.toNat x.toNat)), (19, .int .i64 x), (20, .int .i64 x), (21, .bool false)] []) none
  | _, _ => none
noncomputable def C18 : Ctx := (ctx E T18 [(5, L18_5)] [(0, [0, 1, 2]), (1, [0, 1, 2, 18]), (2, [6, 7]), (3, [0, 1, 2, 8]), (4, [0, 1, 8, 19, 20]), (5, [0, 1, 8, 19, 20, 21]), (6, [0, 1, 8, 9, 19, 20]), (7, [0, 1, 8, 19, 20]), (8, [0, 1, 8, 19, 20]), (9, [6, 7]), (1000005, [0, 1, 8, 19, 20])] [] 33 70)
theorem C18_ok : CtxOK Try.prog C18 := ctx_ok E_ok E_flds mixed T18_ok
theorem C18_l0 : C18.loop (loopId (loopB Try.f18 0)) = some L18_5 := by kernel_rfl
theorem L18_5_in : LoopsOK C18 (loopB Try.f18 0) := LoopsOK.within 0 (by kernel_rfl) (fun j hj S hS => by
  omega)
theorem M18_5 (xs : List AV) (fl : SF) (a v x y : Int) (k : KC) : headedK C18 (loopB Try.f18 0) [(0, .fs 1 xs fl), (1, .int .i64 a), (8, .int .u64 v), (19, .int .i64 x), (20, .int .i64 y)] [] k =
  aIf (decide (y < x))
  (aIf (shOK (Sh.int IntKind.u64) (R56 [AV.fs 1 xs fl, AV.int IntKind.i64 (IntKind.i64.wrap (a + y))]))
    (k AExit.normal
      [(0, AV.fs 1 xs fl), (1, AV.int IntKind.i64 a),
        (8,
          AV.int IntKind.u64
            (IntKind.u64.wrap
              (↑(BitVec.ofInt 64 (IntKind.u64.wrap (v * 2)) |||
                      BitVec.ofInt 64
                        (sel (R56 [AV.fs 1 xs fl, AV.int IntKind.i64 (IntKind.i64.wrap (a + y))]) []).toInt).toNat :
                Int))),
        (19, AV.int IntKind.i64 x), (20, AV.int IntKind.i64 (IntKind.i64.wrap (y + 1)))]
      [])
    none)
  (k (AExit.exit 0)
    [(0, AV.fs 1 xs fl), (1, AV.int IntKind.i64 a), (8, AV.int IntKind.u64 v), (19, AV.int IntKind.i64 x),
      (20, AV.int IntKind.i64 y), (21, AV.bool (decide (y < x)))]
    []) := by kernel_rfl
theorem L18_5_ok : LoopSum C18 (loopB Try.f18 0) L18_5 := LoopSum.of C18_ok L18_5_in (fun ts H => by
  unfold L18_5
  split
  · rename_i xs fl a v x y
    rcases Bool.eq_false_or_eq_true (getG xs a v x y) with hp | hp
    · refine .inr ?_
      simp only [aIf_pos hp]
      obtain ⟨hu, hL, ha, rfl, rfl, hx0, hx1, hax⟩ := getG_of hp
      obtain ⟨a, rfl⟩ := Int.eq_ofNat_of_zero_le ha
      obtain ⟨n, rfl⟩ := Int.eq_ofNat_of_zero_le hx0
      have main : ∀ d j : Nat, j + d = n → ∃ m, ∀ k, aIterK m (headedK C18 (loopB Try.f18 0)) [(0, .fs 1 xs fl), (1, .int .i64 (a : Int)), (8, .int .u64 (getN xs a j)), (19, .int .i64 (n : Int)), (20, .int .i64 (j : Int))] [] k =
          k (.exit 0) [(0, .fs 1 xs fl), (1, .int .i64 (a : Int)), (8, .int .u64 (getN xs a n)), (19, .int .i64 (n : Int)), (20, .int .i64 (n : Int)), (21, .bool false)] [] := by
        intro d
        induction d with
        | zero =>
          intro j hj
          obtain rfl : j = n := by omega
          refine ⟨1, fun k => ?_⟩
          rw [aIterK, M18_5]
          simp only [Int.lt_irrefl, decide_false, aIf_false]
        | succ d ih =>
          intro j hj
          obtain ⟨m, hm⟩ := ih (j + 1) (by omega)
          refine ⟨m + 1, fun k => ?_⟩
          have e1 : IntKind.i64.wrap ((a : Int) + (j : Int)) = ((a + j : Nat) : Int) := by rw [← Int.natCast_add]; exact i64n (by omega)
          have e2 : IntKind.i64.wrap ((j : Int) + 1) = ((j + 1 : Nat) : Int) := by rw [← Int.natCast_succ]; exact i64n (by omega)
          have b1 := bitV_01 xs (a + j)
          have b2 := getN_range xs a j
          have b3 := pow2_le (show j ≤ 63 by omega)
          have b4 : (2 : Int) ^ 63 = 9223372036854775808 := rfl
          have e3 : IntKind.u64.wrap (getN xs a j * 2) = 2 * getN xs a j := by rw [Int.mul_comm]; exact u64n (by omega) (by omega)
          rw [aIterK, M18_5, aIf_pos (decide_eq_true (by omega)), e1, R56_is hu hL (by omega), shOK_ret, has_int, inK_u64, decide_eq_true (show 0 ≤ bitV xs (a + j) by omega), decide_eq_true (show bitV xs (a + j) ≤ 18446744073709551615 by omega), Bool.and_self, aIf_true, e2, e3]
          have e4 : (sel (some (AEnd.ret (AV.int IntKind.u64 (bitV xs (a + j))), [])) []).toInt = bitV xs (a + j) := rfl
          rw [e4, or1 b2.1 (by omega) b1.1 b1.2, u64n (by omega) (by omega)]
          exact hm k
      exact (main n 0 (by omega)).imp fun m hm k => (hm k).symm
    · exact .inl fun k => by rw [aIf_neg hp]
  · exact .inl fun k => rfl)
theorem C18_loops : ∀ c, Try.f18.body = some c → LoopsOK C18 c := LoopsOK.of 1 (by kernel_rfl) (fun j hj S hS => by
  match j, hj with
  | 0, _ => rw [C18_l0] at hS; cases hS; exact L18_5_ok
  | n + 1, hj => omega)
noncomputable def S18 : FSpec := inlineK C18 Try.f18
theorem S18_ok : SpecOK Try.prog 18 S18 := inlineK_ok C18_ok Try.func18 C18_loops
theorem En18 : Enters Try.prog 18 := ⟨_, Try.func18, by decide, rfl⟩
noncomputable def R18 (args : List AV) : Res := S18 args [] encK
noncomputable def V18 : FSpec := leafK (.tup [.int .u64, .int .i64]) R18
theorem V18_ok : SpecOK Try.prog 18 V18 := leafK_ok S18_ok (fun _ => rfl)
theorem N18 (xs : List AV) (fl : SF) (a n : Int) : S18 [.fs 1 xs fl, .int .i64 a, .int .i64 n] [] encK =
  aIf (decide (n > 64)) (some (AEnd.ret (AV.tup [AV.int IntKind.u64 0, AV.int IntKind.i64 30]), []))
  (aIf (shOK Sh.bool (R52 [AV.fs 1 xs fl, AV.int IntKind.i64 a, AV.int IntKind.i64 n]))
    (aIf (!(sel (R52 [AV.fs 1 xs fl, AV.int IntKind.i64 a, AV.int IntKind.i64 n]) []).toBool)
      (some (AEnd.ret (AV.tup [AV.int IntKind.u64 0, AV.int IntKind.i64 30]), []))
      (aIf (Pl.getG xs a 0 n 0)
        (some (AEnd.ret (AV.tup [AV.int IntKind.u64 (Pl.getN xs a.toNat n.toNat), AV.int IntKind.i64 0]), [])) none))
    none) := by kernel_rfl
theorem R18_is {xs : List AV} {fl : SF} {a n : Int} (hu : intsB .u8 xs = true) (hL : xs.length ≤ 1000000) : R18 [.fs 1 xs fl, .int .i64 a, .int .i64 n] = some (.ret (.tup [.int .u64 (getX xs a n), .int .i64 (getE xs.length a n)]), []) := by
  show S18 _ [] encK = _
  rw [N18, R52_is hL, shOK_ret, has_bool, aIf_true]
  unfold getX getE
  by_cases h1 : n > 64
  · rw [decide_eq_true h1]; rfl
  · rw [decide_eq_false h1, aIf_false]
    cases h2 : thereB xs.length a n
    · rfl
    · rw [getG_ok hu hL h1 h2]; rfl

/-- ferryman/ferrymanlaw03.alive -/
noncomputable def T17 : List (FuncId × FSpec) := [(16, V16), (18, V18)]
theorem T17_ok : TabOK Try.prog T17 := TabOK.cons En16 V16_ok (TabOK.cons En18 V18_ok (TabOK.nil _))
noncomputable def C17 : Ctx := (ctx E T17 [] [(0, []), (1, [1, 2]), (2, [1, 2, 3, 4]), (3, [0])] [] 30 70)
theorem C17_ok : CtxOK Try.prog C17 := ctx_ok E_ok E_flds mixed T17_ok
noncomputable def B17 : FSpec := inlineK C17 Try.f17
noncomputable def S17 : FSpec := constK (AV.bool true)
theorem B17_ok : SpecOK Try.prog 17 B17 := inlineK_ok C17_ok Try.func17 (fun _ _ => LoopsOK.none _)
theorem B17_is (k : KE) : B17 [] [] k = k (.ret (AV.bool true)) [] := by kernel_rfl
theorem S17_ok : SpecOK Try.prog 17 S17 := constK_ok B17_ok B17_is
theorem En17 : Enters Try.prog 17 := ⟨_, Try.func17, by decide, rfl⟩

/-- ferryman/field.Cat -/
noncomputable def T22 : List (FuncId × FSpec) := [(53, V53), (55, S55)]
theorem T22_ok : TabOK Try.prog T22 := TabOK.cons En53 V53_ok (TabOK.cons En55 S55_ok (TabOK.nil _))
noncomputable def L22_2 : ATs → AH → KC → Res := fun ts H k => match ts, H with
  | [(0, .fs 2 xs fl), (14, .fs 2 ys gl), (15, .int .i64 n), (16, .int .i64 i)], [] => aIf (catG ys 0 n i) (aIf (badE ys ys.length 0 == 0) (k (.exit 0) [(0, .fs 2 xs fl), (14, .fs 2 ys gl), (15, .int .i64 n), (16, .int .i64 n), (17, .bool false)] []) (k .ret [(2, .fs 0 [] .nil), (3, .int .i64 (badE ys ys.length 0))] [])) none
  | _, _ => none
noncomputable def L22_11 : ATs → AH → KC → Res := fun ts H k => match ts, H with
  | [(0, .fs 2 xs fl), (6, .int .i64 a), (34, .fs 2 ys gl), (35, .int .i64 n), (36, .int .i64 i)], [] => aIf (catG ys a n i && badE ys ys.length 0 == 0) (aIf (Nat.ble (sumR ys ys.length) 65536) (k (.exit 2) [(0, .fs 2 xs fl), (6, .int .i64 (sumR ys ys.length : Int)), (34, .fs 2 ys gl), (35, .int .i64 n), (36, .int .i64 n), (37, .bool false)] []) (k .ret [(2, .fs 0 [] .nil), (3, .int .i64 3)] [])) none
  | _, _ => none
noncomputable def L22_23 : ATs → AH → KC → Res := fun ts H k => match ts, H with
  | [(9, .sl 0 ver 0 len 1), (10, .int .i64 a), (12, .ptr 1 0 0), (51, .fs 2 xs fl), (52, .int .i64 n), (53, .int .i64 i), (58, .int .i64 x), (59, .int .i64 y)], [.cells w ys, .cells 0 [.int .i64 c, .int .u64 v]] => aIf (putG w ver len ys a c v x y) (k (.exit 6) [(9, .sl 0 ver 0 len 1), (10, .int .i64 a), (12, .ptr 1 0 0), (51, .fs 2 xs fl), (52, .int .i64 n), (53, .int .i64 i), (58, .int .i64 x), (59, .int .i64 x), (60, .bool false)] [.cells ver (putL ys a.toNat (vbit v c.toNat) c.toNat), .cells 0 [.int .i64 c, .int .u64 v]]) none
  | [(9, .fs 1 zs gl), (10, .int .i64 a), (12, .ptr 0 0 0), (51, .fs 2 xs fl), (52, .int .i64 n), (53, .int .i64 i), (58, .int .i64 x), (59, .int .i64 y)], [.cells 0 [.int .i64 c, .int .u64 v]] => aIf (x == 0 && y == 0) (k (.exit 6) [(9, .fs 1 zs gl), (10, .int .i64 a), (12, .ptr 0 0 0), (51, .fs 2 xs fl), (52, .int .i64 n), (53, .int .i64 i), (58, .int .i64 x), (59, .int .i64 y), (60, .bool false)] [.cells 0 [.int .i64 c, .int .u64 v]]) none
  | _, _ => none
noncomputable def L22_20 : ATs → AH → KC → Res := fun ts H k => match ts, H with
  | [(9, .sl 0 ver 0 len 1), (10, .int .i64 a), (51, .fs 2 xs fl), (52, .int .i64 n), (53, .int .i64 i)], [.cells w ys] => aIf (catG xs a n i && catG2 w ver len xs ys) (k (.exit 4) [(9, .sl 0 ver 0 len 1), (10, .int .i64 (sumR xs xs.length : Int)), (51, .fs 2 xs fl), (52, .int .i64 n), (53, .int .i64 n), (54, .bool false)] [.cells ver (catP xs xs.length xs.length)]) none
  | [(9, .fs 1 zs gl), (10, .int .i64 a), (51, .fs 2 xs fl), (52, .int .i64 n), (53, .int .i64 i)], [] => aIf (catG xs a n i && badE xs xs.length 0 == 0 && sumR xs xs.length == 0) (k (.exit 4) [(9, .fs 1 zs gl), (10, .int .i64 0), (51, .fs 2 xs fl), (52, .int .i64 n), (53, .int .i64 n), (54, .bool false)] []) none
  | _, _ => none
noncomputable def C22 : Ctx := (ctx E T22 [(2, L22_2), (11, L22_11), (23, L22_23), (20, L22_20)] [(0, [0]), (1, [0, 14, 15, 16]), (2, [0, 14, 15, 16, 17]), (3, [0, 5, 14, 15, 16]), (4, [0, 5, 14, 15, 16, 27]), (5, [2, 3]), (6, [0, 14, 15, 16, 32]), (7, [2, 3]), (8, [0, 14, 15, 16]), (9, [0, 6]), (10, [0, 6, 34, 35, 36]), (11, [0, 6, 34, 35, 36, 37]), (12, [0, 6, 8, 34, 35, 36]), (13, [0, 6, 34, 35, 36]), (14, [0, 6, 34, 35, 36, 45]), (15, [2, 3]), (16, [0, 6, 34, 35, 36]), (17, [0, 9]), (18, [0, 9, 10]), (19, [9, 10, 51, 52, 53]), (20, [9, 10, 51, 52, 53, 54]), (21, [9, 10, 12, 51, 52, 53]), (22, [9, 10, 12, 51, 52, 53, 58, 59]), (23, [9, 10, 12, 51, 52, 53, 58, 59, 60]), (24, [9, 10, 12, 13, 51, 52, 53, 58, 59]), (25, [9, 10, 12, 51, 52, 53, 58, 59]), (26, [9, 10, 12, 51, 52, 53, 58, 59]), (27, [9, 10, 51, 52, 53]), (28, [9, 10, 51, 52, 53]), (29, [2, 3]), (1000002, [0, 14, 15, 16]), (1000011, [0, 6, 34, 35, 36]), (1000020, [9, 10, 51, 52, 53]), (1000023, [9, 10, 12, 51, 52, 53, 58, 59])] [] 83 70)
theorem C22_ok : CtxOK Try.prog C22 := ctx_ok E_ok E_flds mixed T22_ok
theorem C22_l0 : C22.loop (loopId (loopB Try.f22 0)) = some L22_2 := by kernel_rfl
theorem C22_l1 : C22.loop (loopId (loopB Try.f22 1)) = some L22_11 := by kernel_rfl
theorem C22_l2 : C22.loop (loopId (loopB Try.f22 2)) = some L22_20 := by kernel_rfl
theorem C22_l3 : C22.loop (loopId (loopB Try.f22 3)) = some L22_23 := by kernel_rfl
theorem L22_23_in : LoopsOK C22 (loopB Try.f22 3) := LoopsOK.within 0 (by kernel_rfl) (fun j hj S hS => by
  omega)
theorem M22_23a (ver len : Nat) (a : Int) (xs : List AV) (fl : SF) (n i x y : Int) (w : Nat) (ys : List AV) (c v : Int) (k : KC) : headedK C22 (loopB Try.f22 3) [(9, .sl 0 ver 0 len 1), (10, .int .i64 a), (12, .ptr 1 0 0), (51, .fs 2 xs fl), (52, .int .i64 n), (53, .int .i64 i), (58, .int .i64 x), (59, .int .i64 y)] [.cells w ys, .cells 0 [.int .i64 c, .int .u64 v]] k =
  aIf (decide (y < x))
  (aIf (decide (IntKind.u64.wrap (IntKind.i64.wrap (IntKind.i64.wrap (c - 1) - y)) < 0)) none
    (aIf
      (Pl.setG w ver len ys (IntKind.i64.wrap (a + y))
        (v.fdiv (2 ^ min (IntKind.u64.wrap (IntKind.i64.wrap (IntKind.i64.wrap (c - 1) - y))).toNat 64)))
      (k AExit.normal
        [(9, AV.sl 0 ver 0 len 1), (10, AV.int IntKind.i64 a), (12, AV.ptr 1 0 0), (51, AV.fs 2 xs fl),
          (52, AV.int IntKind.i64 n), (53, AV.int IntKind.i64 i), (58, AV.int IntKind.i64 x),
          (59, AV.int IntKind.i64 (IntKind.i64.wrap (y + 1)))]
        [AO.cells ver
            (Pl.setV ys (IntKind.i64.wrap (a + y)).toNat
              (v.fdiv (2 ^ min (IntKind.u64.wrap (IntKind.i64.wrap (IntKind.i64.wrap (c - 1) - y))).toNat 64) % 2)),
          AO.cells 0 [AV.int IntKind.i64 c, AV.int IntKind.u64 v]])
      none))
  (k (AExit.exit 6)
    [(9, AV.sl 0 ver 0 len 1), (10, AV.int IntKind.i64 a), (12, AV.ptr 1 0 0), (51, AV.fs 2 xs fl),
      (52, AV.int IntKind.i64 n), (53, AV.int IntKind.i64 i), (58, AV.int IntKind.i64 x), (59, AV.int IntKind.i64 y),
      (60, AV.bool (decide (y < x)))]
    [AO.cells w ys, AO.cells 0 [AV.int IntKind.i64 c, AV.int IntKind.u64 v]]) := by kernel_rfl
theorem M22_23b (zs : List AV) (gl : SF) (a : Int) (xs : List AV) (fl : SF) (n i x y c v : Int) (k : KC) : headedK C22 (loopB Try.f22 3) [(9, .fs 1 zs gl), (10, .int .i64 a), (12, .ptr 0 0 0), (51, .fs 2 xs fl), (52, .int .i64 n), (53, .int .i64 i), (58, .int .i64 x), (59, .int .i64 y)] [.cells 0 [.int .i64 c, .int .u64 v]] k =
  aIf (decide (y < x)) (aIf (decide (IntKind.u64.wrap (IntKind.i64.wrap (IntKind.i64.wrap (c - 1) - y)) < 0)) none none)
  (k (AExit.exit 6)
    [(9, AV.fs 1 zs gl), (10, AV.int IntKind.i64 a), (12, AV.ptr 0 0 0), (51, AV.fs 2 xs fl),
      (52, AV.int IntKind.i64 n), (53, AV.int IntKind.i64 i), (58, AV.int IntKind.i64 x), (59, AV.int IntKind.i64 y),
      (60, AV.bool (decide (y < x)))]
    [AO.cells 0 [AV.int IntKind.i64 c, AV.int IntKind.u64 v]]) := by kernel_rfl
theorem L22_23_ok : LoopSum C22 (loopB Try.f22 3) L22_23 := LoopSum.of C22_ok L22_23_in (fun ts H => by
  unfold L22_23
  split
  · rename_i ver len a xs fl n i x y w ys c v
    rcases Bool.eq_false_or_eq_true (putG w ver len ys a c v x y) with hp | hp
    · refine .inr ?_
      simp only [aIf_pos hp]
      obtain ⟨rfl, rfl, hL, hu, ha, rfl, rfl, hn0, hn1, han, hv0, hv1⟩ := putG_of hp
      obtain ⟨a, rfl⟩ := Int.eq_ofNat_of_zero_le ha
      obtain ⟨c, rfl⟩ := Int.eq_ofNat_of_zero_le hn0
      have main : ∀ d j : Nat, j + d = c → ∃ m, ∀ k, aIterK m (headedK C22 (loopB Try.f22 3)) [(9, .sl 0 w 0 ys.length 1), (10, .int .i64 (a : Int)), (12, .ptr 1 0 0), (51, .fs 2 xs fl), (52, .int .i64 n), (53, .int .i64 i), (58, .int .i64 (c : Int)), (59, .int .i64 (j : Int))] [.cells w (putL ys a (vbit v c) j), .cells 0 [.int .i64 (c : Int), .int .u64 v]] k =
          k (.exit 6) [(9, .sl 0 w 0 ys.length 1), (10, .int .i64 (a : Int)), (12, .ptr 1 0 0), (51, .fs 2 xs fl), (52, .int .i64 n), (53, .int .i64 i), (58, .int .i64 (c : Int)), (59, .int .i64 (c : Int)), (60, .bool false)] [.cells w (putL ys a (vbit v c) c), .cells 0 [.int .i64 (c : Int), .int .u64 v]] := by
        intro d
        induction d with
        | zero =>
          intro j hj
          obtain rfl : j = c := by omega
          refine ⟨1, fun k => ?_⟩
          rw [aIterK, M22_23a]
          simp only [dltf, aIf_false]
        | succ d ih =>
          intro j hj
          obtain ⟨m, hm⟩ := ih (j + 1) (by omega)
          refine ⟨m + 1, fun k => ?_⟩
          have r := shr_range hv0 hv1 (c - 1 - j)
          have e3 : min (c - 1 - j) 64 = c - 1 - j := by omega
          rw [aIterK, M22_23a, aIf_pos (dlt (by omega)), sh_n1 (by omega) (by omega), u64nn (by omega), dnn, aIf_false, i64a (by omega), i64s (by omega), Int.toNat_natCast, e3, shr_eq, Int.toNat_natCast,
            setG_ok (by rw [putL_length]) hL (putL_u8 hu j fun i _ => vbit_01 v c i) (by omega) (by omega) r.1 r.2, aIf_true]
          exact hm k
      exact (main c 0 (by omega)).imp fun m hm k => (hm k).symm
    · exact .inl fun k => by rw [aIf_neg hp]
  · rename_i zs gl a xs fl n i x y c v
    rcases Bool.eq_false_or_eq_true (x == 0 && y == 0) with hp | hp
    · refine .inr ?_
      simp only [aIf_pos hp]
      simp only [Bool.and_eq_true, beq_iff_eq] at hp
      obtain ⟨rfl, rfl⟩ := hp
      refine ⟨1, fun k => ?_⟩
      rw [aIterK, M22_23b]
      rfl
    · exact .inl fun k => by rw [aIf_neg hp]
  · exact .inl fun k => rfl)
theorem L22_20_in : LoopsOK C22 (loopB Try.f22 2) := LoopsOK.within 1 (by kernel_rfl) (fun j hj S hS => by
  match j, hj with
  | 0, _ =>
    have e : C22.loop (loopId ((loopsOf (loopB Try.f22 2)).getD 0 .skip)) = some L22_23 := by kernel_rfl
    rw [e] at hS; cases hS; exact (show loopB Try.f22 3 = (loopsOf (loopB Try.f22 2)).getD 0 .skip by kernel_rfl) ▸ L22_23_ok
  | n + 1, hj => omega)
theorem M22_20a (ver len : Nat) (a : Int) (xs : List AV) (fl : SF) (n i : Int) (w : Nat) (ys : List AV) (k : KC) : headedK C22 (loopB Try.f22 2) [(9, .sl 0 ver 0 len 1), (10, .int .i64 a), (51, .fs 2 xs fl), (52, .int .i64 n), (53, .int .i64 i)] [.cells w ys] k =
  aIf (decide (i < n))
  (aIf (decide (0 ≤ i))
    (aIf (decide (i < (↑xs.length : Int)))
      (aIf ((xs.getD i.toNat AV.junk).cells.length == 2)
        (aIf
          (([(xs.getD i.toNat AV.junk).cells.getD 0 AV.junk, (xs.getD i.toNat AV.junk).cells.getD 1 AV.junk].getD 0
                AV.junk).isInt
            IntKind.i64)
          (aIf
            (([(xs.getD i.toNat AV.junk).cells.getD 0 AV.junk, (xs.getD i.toNat AV.junk).cells.getD 1 AV.junk].getD 1
                  AV.junk).isInt
              IntKind.u64)
            (aIf
              (Pl.putG w ver len ys a
                ([(xs.getD i.toNat AV.junk).cells.getD 0 AV.junk, (xs.getD i.toNat AV.junk).cells.getD 1 AV.junk].getD 0
                    AV.junk).toInt
                ([(xs.getD i.toNat AV.junk).cells.getD 0 AV.junk, (xs.getD i.toNat AV.junk).cells.getD 1 AV.junk].getD 1
                    AV.junk).toInt
                ([(xs.getD i.toNat AV.junk).cells.getD 0 AV.junk, (xs.getD i.toNat AV.junk).cells.getD 1 AV.junk].getD 0
                    AV.junk).toInt
                0)
              (aIf
                (true &&
                  (AV.uptoL 1
                      (Pl.putL ys a.toNat
                        (Pl.vbit
                          ([(xs.getD i.toNat AV.junk).cells.getD 0 AV.junk,
                                  (xs.getD i.toNat AV.junk).cells.getD 1 AV.junk].getD
                              1 AV.junk).toInt
                          ([(xs.getD i.toNat AV.junk).cells.getD 0 AV.junk,
                                    (xs.getD i.toNat AV.junk).cells.getD 1 AV.junk].getD
                                0 AV.junk).toInt.toNat)
                        ([(xs.getD i.toNat AV.junk).cells.getD 0 AV.junk,
                                  (xs.getD i.toNat AV.junk).cells.getD 1 AV.junk].getD
                              0 AV.junk).toInt.toNat) &&
                    true))
                (k AExit.normal
                  [(9, AV.sl 0 ver 0 len 1),
                    (10,
                      AV.int IntKind.i64
                        (IntKind.i64.wrap
                          (a +
                            ([(xs.getD i.toNat AV.junk).cells.getD 0 AV.junk,
                                    (xs.getD i.toNat AV.junk).cells.getD 1 AV.junk].getD
                                0 AV.junk).toInt))),
                    (51, AV.fs 2 xs fl), (52, AV.int IntKind.i64 n),
                    (53, AV.int IntKind.i64 (IntKind.i64.wrap (i + 1)))]
                  [AO.cells ver
                      (Pl.putL ys a.toNat
                        (Pl.vbit
                          ([(xs.getD i.toNat AV.junk).cells.getD 0 AV.junk,
                                  (xs.getD i.toNat AV.junk).cells.getD 1 AV.junk].getD
                              1 AV.junk).toInt
                          ([(xs.getD i.toNat AV.junk).cells.getD 0 AV.junk,
                                    (xs.getD i.toNat AV.junk).cells.getD 1 AV.junk].getD
                                0 AV.junk).toInt.toNat)
                        ([(xs.getD i.toNat AV.junk).cells.getD 0 AV.junk,
                                  (xs.getD i.toNat AV.junk).cells.getD 1 AV.junk].getD
                              0 AV.junk).toInt.toNat)])
                (k AExit.normal
                  [(9, AV.sl 0 ver 0 len 1),
                    (10,
                      AV.int IntKind.i64
                        (IntKind.i64.wrap
                          (a +
                            ([(xs.getD i.toNat AV.junk).cells.getD 0 AV.junk,
                                    (xs.getD i.toNat AV.junk).cells.getD 1 AV.junk].getD
                                0 AV.junk).toInt))),
                    (51, AV.fs 2 xs fl), (52, AV.int IntKind.i64 n),
                    (53, AV.int IntKind.i64 (IntKind.i64.wrap (i + 1)))]
                  [AO.cells ver
                      (Pl.putL ys a.toNat
                        (Pl.vbit
                          ([(xs.getD i.toNat AV.junk).cells.getD 0 AV.junk,
                                  (xs.getD i.toNat AV.junk).cells.getD 1 AV.junk].getD
                              1 AV.junk).toInt
                          ([(xs.getD i.toNat AV.junk).cells.getD 0 AV.junk,
                                    (xs.getD i.toNat AV.junk).cells.getD 1 AV.junk].getD
                                0 AV.junk).toInt.toNat)
                        ([(xs.getD i.toNat AV.junk).cells.getD 0 AV.junk,
                                  (xs.getD i.toNat AV.junk).cells.getD 1 AV.junk].getD
                              0 AV.junk).toInt.toNat),
                    AO.cells 0
                      [AV.int IntKind.i64
                          ([(xs.getD i.toNat AV.junk).cells.getD 0 AV.junk,
                                  (xs.getD i.toNat AV.junk).cells.getD 1 AV.junk].getD
                              0 AV.junk).toInt,
                        AV.int IntKind.u64
                          ([(xs.getD i.toNat AV.junk).cells.getD 0 AV.junk,
                                  (xs.getD i.toNat AV.junk).cells.getD 1 AV.junk].getD
                              1 AV.junk).toInt]]))
              none)
            none)
          none)
        none)
      none)
    none)
  (k (AExit.exit 4)
    [(9, AV.sl 0 ver 0 len 1), (10, AV.int IntKind.i64 a), (51, AV.fs 2 xs fl), (52, AV.int IntKind.i64 n),
      (53, AV.int IntKind.i64 i), (54, AV.bool (decide (i < n)))]
    [AO.cells w ys]) := by kernel_rfl
theorem M22_20b (zs : List AV) (gl : SF) (a : Int) (xs : List AV) (fl : SF) (n i : Int) (k : KC) : headedK C22 (loopB Try.f22 2) [(9, .fs 1 zs gl), (10, .int .i64 a), (51, .fs 2 xs fl), (52, .int .i64 n), (53, .int .i64 i)] [] k =
  aIf (decide (i < n))
  (aIf (decide (0 ≤ i))
    (aIf (decide (i < (↑xs.length : Int)))
      (aIf ((xs.getD i.toNat AV.junk).cells.length == 2)
        (aIf
          (([(xs.getD i.toNat AV.junk).cells.getD 0 AV.junk, (xs.getD i.toNat AV.junk).cells.getD 1 AV.junk].getD 0
                AV.junk).isInt
            IntKind.i64)
          (aIf
            (([(xs.getD i.toNat AV.junk).cells.getD 0 AV.junk, (xs.getD i.toNat AV.junk).cells.getD 1 AV.junk].getD 1
                  AV.junk).isInt
              IntKind.u64)
            (aIf
              (([(xs.getD i.toNat AV.junk).cells.getD 0 AV.junk, (xs.getD i.toNat AV.junk).cells.getD 1 AV.junk].getD 0
                      AV.junk).toInt ==
                  0 &&
                true)
              (k AExit.normal
                [(9, AV.fs 1 zs gl),
                  (10,
                    AV.int IntKind.i64
                      (IntKind.i64.wrap
                        (a +
                          ([(xs.getD i.toNat AV.junk).cells.getD 0 AV.junk,
                                  (xs.getD i.toNat AV.junk).cells.getD 1 AV.junk].getD
                              0 AV.junk).toInt))),
                  (51, AV.fs 2 xs fl), (52, AV.int IntKind.i64 n), (53, AV.int IntKind.i64 (IntKind.i64.wrap (i + 1)))]
                [])
              none)
            none)
          none)
        none)
      none)
    none)
  (k (AExit.exit 4)
    [(9, AV.fs 1 zs gl), (10, AV.int IntKind.i64 a), (51, AV.fs 2 xs fl), (52, AV.int IntKind.i64 n),
      (53, AV.int IntKind.i64 i), (54, AV.bool (decide (i < n)))]
    []) := by kernel_rfl
theorem L22_20_ok : LoopSum C22 (loopB Try.f22 2) L22_20 := LoopSum.of C22_ok L22_20_in (fun ts H => by
  unfold L22_20
  split
  · rename_i ver len a xs fl n i w ys
    rcases Bool.eq_false_or_eq_true (catG xs a n i && catG2 w ver len xs ys) with hp | hp
    · refine .inr ?_
      simp only [aIf_pos hp]
      rw [Bool.and_eq_true] at hp
      obtain ⟨hp, hp2⟩ := hp
      obtain ⟨hr, hL, rfl, rfl, rfl⟩ := catG_of hp
      obtain ⟨rfl, rfl, hs, hb, rfl⟩ := catG2_of hp2
      have main : ∀ d j : Nat, j + d = xs.length → ∃ m, ∀ k, aIterK m (headedK C22 (loopB Try.f22 2)) [(9, .sl 0 w 0 ((sumR xs xs.length + 7) / 8) 1), (10, .int .i64 (sumR xs j : Int)), (51, .fs 2 xs fl), (52, .int .i64 (xs.length : Int)), (53, .int .i64 (j : Int))] [.cells w (catP xs xs.length j)] k =
          k (.exit 4) [(9, .sl 0 w 0 ((sumR xs xs.length + 7) / 8) 1), (10, .int .i64 (sumR xs xs.length : Int)), (51, .fs 2 xs fl), (52, .int .i64 (xs.length : Int)), (53, .int .i64 (xs.length : Int)), (54, .bool false)] [.cells w (catP xs xs.length xs.length)] := by
        intro d
        induction d with
        | zero =>
          intro j hj
          obtain rfl : j = xs.length := by omega
          refine ⟨1, fun k => ?_⟩
          rw [aIterK, M22_20a, dltf]; rfl
        | succ d ih =>
          intro j hj
          have hjl : j < xs.length := by omega
          obtain ⟨he, ⟨n0, n1⟩, v0, v1⟩ := runs_get hr j hjl
          obtain ⟨b0, b1, b2⟩ := badE_ok hb j (by omega) (by omega)
          have hm1 := sumR_mono (xs := xs) (show j + 1 ≤ xs.length by omega)
          have hsum : IntKind.i64.wrap ((sumR xs j : Int) + rN xs j) = (sumR xs (j + 1) : Int) := by
            simp only [sumR]
            rw [show (sumR xs j : Int) + rN xs j = ((sumR xs j + (rN xs j).toNat : Nat) : Int) by omega]
            simp only [sumR] at hm1
            exact i64n (by omega)
          have hg : putG w w ((sumR xs xs.length + 7) / 8) (catP xs xs.length j) (sumR xs j : Int) (rN xs j) (rV xs j) (rN xs j) 0 = true := by
            simp only [putG, Bool.and_eq_true, beq_iff_eq, decide_eq_true_eq]
            simp only [sumR] at hm1
            exact ⟨⟨⟨⟨⟨⟨⟨⟨⟨⟨⟨trivial, catP_length _ _ _⟩, by omega⟩, catP_u8 (by omega)⟩, by omega⟩, trivial⟩, trivial⟩, b0⟩, b1⟩, by omega⟩, v0⟩, by omega⟩
          have hup : AV.uptoL 1 (putL (catP xs xs.length j) (sumR xs j) (vbit (rV xs j) (rN xs j).toNat) (rN xs j).toNat) = true := ints_upto (putL_u8 (catP_u8 (by omega)) _ fun i _ => vbit_01 _ _ i)
          obtain ⟨m, hm⟩ := ih (j + 1) (by omega)
          refine ⟨m + 1, fun k => ?_⟩
          rw [← hm k, aIterK, M22_20a]
          simp only [Int.toNat_natCast, he, AV.cells, List.length_cons, List.length_nil, List.getD_cons_zero, List.getD_cons_succ, Nat.reduceAdd, isInt_self, AV.toInt, beq_self_eq_true, dlt hjl, dnn', aIf_true, hg, hup, Bool.and_self, hsum, i64s (show j + 1 < 9223372036854775808 by omega), catP_succ hjl]
      exact (main xs.length 0 (by omega)).imp fun m hm k => (hm k).symm
    · exact .inl fun k => by rw [aIf_neg hp]
  · rename_i zs gl a xs fl n i
    rcases Bool.eq_false_or_eq_true (catG xs a n i && badE xs xs.length 0 == 0 && sumR xs xs.length == 0) with hp | hp
    · refine .inr ?_
      simp only [aIf_pos hp]
      rw [Bool.and_eq_true, Bool.and_eq_true, beq_iff_eq, beq_iff_eq] at hp
      obtain ⟨⟨hp, hb⟩, hs⟩ := hp
      obtain ⟨hr, hL, rfl, rfl, rfl⟩ := catG_of hp
      have main : ∀ d j : Nat, j + d = xs.length → ∃ m, ∀ k, aIterK m (headedK C22 (loopB Try.f22 2)) [(9, .fs 1 zs gl), (10, .int .i64 0), (51, .fs 2 xs fl), (52, .int .i64 (xs.length : Int)), (53, .int .i64 (j : Int))] [] k =
          k (.exit 4) [(9, .fs 1 zs gl), (10, .int .i64 0), (51, .fs 2 xs fl), (52, .int .i64 (xs.length : Int)), (53, .int .i64 (xs.length : Int)), (54, .bool false)] [] := by
        intro d
        induction d with
        | zero =>
          intro j hj
          obtain rfl : j = xs.length := by omega
          refine ⟨1, fun k => ?_⟩
          rw [aIterK, M22_20b, dltf]; rfl
        | succ d ih =>
          intro j hj
          have hjl : j < xs.length := by omega
          obtain ⟨he, ⟨n0, n1⟩, v0, v1⟩ := runs_get hr j hjl
          obtain ⟨b0, b1, b2⟩ := badE_ok hb j (by omega) (by omega)
          have hm1 := sumR_mono (xs := xs) (show j + 1 ≤ xs.length by omega)
          have hz : rN xs j = 0 := by simp only [sumR] at hm1; omega
          rw [hz] at he
          obtain ⟨m, hm⟩ := ih (j + 1) (by omega)
          refine ⟨m + 1, fun k => ?_⟩
          rw [← hm k, aIterK, M22_20b]
          simp only [Int.toNat_natCast, he, AV.cells, List.length_cons, List.length_nil, List.getD_cons_zero, List.getD_cons_succ, Nat.reduceAdd, isInt_self, AV.toInt, beq_self_eq_true, dlt hjl, dnn', aIf_true, Bool.and_self, i64s (show j + 1 < 9223372036854775808 by omega)]
          rfl
      exact (main xs.length 0 (by omega)).imp fun m hm k => (hm k).symm
    · exact .inl fun k => by rw [aIf_neg hp]
  · exact .inl fun k => rfl)
theorem L22_11_in : LoopsOK C22 (loopB Try.f22 1) := LoopsOK.within 0 (by kernel_rfl) (fun j hj S hS => by
  omega)
theorem M22_11a (xs : List AV) (fl : SF) (a : Int) (ys : List AV) (gl : SF) (n i : Int) (k : KC) : headedK C22 (loopB Try.f22 1) [(0, .fs 2 xs fl), (6, .int .i64 a), (34, .fs 2 ys gl), (35, .int .i64 n), (36, .int .i64 i)] [] k =
  aIf (decide (i < n))
  (aIf (decide (0 ≤ i))
    (aIf (decide (i < (↑ys.length : Int)))
      (aIf ((ys.getD i.toNat AV.junk).cells.length == 2)
        (aIf
          (([(ys.getD i.toNat AV.junk).cells.getD 0 AV.junk, (ys.getD i.toNat AV.junk).cells.getD 1 AV.junk].getD 0
                AV.junk).isInt
            IntKind.i64)
          (aIf
            (([(ys.getD i.toNat AV.junk).cells.getD 0 AV.junk, (ys.getD i.toNat AV.junk).cells.getD 1 AV.junk].getD 1
                  AV.junk).isInt
              IntKind.u64)
            (aIf
              (decide
                (IntKind.i64.wrap
                    (a +
                      ([(ys.getD i.toNat AV.junk).cells.getD 0 AV.junk,
                              (ys.getD i.toNat AV.junk).cells.getD 1 AV.junk].getD
                          0 AV.junk).toInt) >
                  65536))
              (k AExit.ret [(2, AV.fs 0 [] SF.nil), (3, AV.int IntKind.i64 3)] [])
              (k AExit.normal
                [(0, AV.fs 2 xs fl),
                  (6,
                    AV.int IntKind.i64
                      (IntKind.i64.wrap
                        (a +
                          ([(ys.getD i.toNat AV.junk).cells.getD 0 AV.junk,
                                  (ys.getD i.toNat AV.junk).cells.getD 1 AV.junk].getD
                              0 AV.junk).toInt))),
                  (34, AV.fs 2 ys gl), (35, AV.int IntKind.i64 n), (36, AV.int IntKind.i64 (IntKind.i64.wrap (i + 1)))]
                []))
            none)
          none)
        none)
      none)
    none)
  (k (AExit.exit 2)
    [(0, AV.fs 2 xs fl), (6, AV.int IntKind.i64 a), (34, AV.fs 2 ys gl), (35, AV.int IntKind.i64 n),
      (36, AV.int IntKind.i64 i), (37, AV.bool (decide (i < n)))]
    []) := by kernel_rfl
theorem L22_11_ok : LoopSum C22 (loopB Try.f22 1) L22_11 := LoopSum.of C22_ok L22_11_in (fun ts H => by
  unfold L22_11
  split
  · rename_i xs fl a ys gl n i
    rcases Bool.eq_false_or_eq_true (catG ys a n i && badE ys ys.length 0 == 0) with hp | hp
    · refine .inr ?_
      simp only [aIf_pos hp]
      rw [Bool.and_eq_true, beq_iff_eq] at hp
      obtain ⟨hp, hb⟩ := hp
      obtain ⟨hr, hL, rfl, rfl, rfl⟩ := catG_of hp
      have main : ∀ d j : Nat, j + d = ys.length → sumR ys j ≤ 65536 → ∃ m, ∀ k, aIterK m (headedK C22 (loopB Try.f22 1)) [(0, .fs 2 xs fl), (6, .int .i64 (sumR ys j : Int)), (34, .fs 2 ys gl), (35, .int .i64 (ys.length : Int)), (36, .int .i64 (j : Int))] [] k =
          aIf (Nat.ble (sumR ys ys.length) 65536) (k (.exit 2) [(0, .fs 2 xs fl), (6, .int .i64 (sumR ys ys.length : Int)), (34, .fs 2 ys gl), (35, .int .i64 (ys.length : Int)), (36, .int .i64 (ys.length : Int)), (37, .bool false)] []) (k .ret [(2, .fs 0 [] .nil), (3, .int .i64 3)] []) := by
        intro d
        induction d with
        | zero =>
          intro j hj hs
          obtain rfl : j = ys.length := by omega
          refine ⟨1, fun k => ?_⟩
          rw [aIterK, M22_11a, dltf, Nat.ble_eq_true_of_le hs]; rfl
        | succ d ih =>
          intro j hj hs
          have hjl : j < ys.length := by omega
          obtain ⟨he, ⟨n0, n1⟩, v0, v1⟩ := runs_get hr j hjl
          obtain ⟨b0, b1, b2⟩ := badE_ok hb j (by omega) (by omega)
          have hsum : IntKind.i64.wrap ((sumR ys j : Int) + rN ys j) = (sumR ys (j + 1) : Int) := by
            simp only [sumR]
            rw [show (sumR ys j : Int) + rN ys j = ((sumR ys j + (rN ys j).toNat : Nat) : Int) by omega]
            exact i64n (by omega)
          by_cases c : sumR ys (j + 1) ≤ 65536
          · obtain ⟨m, hm⟩ := ih (j + 1) (by omega) c
            refine ⟨m + 1, fun k => ?_⟩
            rw [← hm k, aIterK, M22_11a]
            simp only [Int.toNat_natCast, he, AV.cells, List.length_cons, List.length_nil, List.getD_cons_zero, List.getD_cons_succ, Nat.reduceAdd, isInt_self, AV.toInt, beq_self_eq_true, dlt hjl, dnn', aIf_true, hsum, decide_eq_false (show ¬ (sumR ys (j + 1) : Int) > 65536 by omega), aIf_false, i64s (show j + 1 < 9223372036854775808 by omega)]
          · refine ⟨1, fun k => ?_⟩
            have hm := sumR_mono (xs := ys) (show j + 1 ≤ ys.length by omega)
            have hbl : Nat.ble (sumR ys ys.length) 65536 = false := by
              rw [Bool.eq_false_iff]; intro h; have := Nat.le_of_ble_eq_true h; omega
            rw [aIterK, M22_11a, hbl]
            simp only [Int.toNat_natCast, he, AV.cells, List.length_cons, List.length_nil, List.getD_cons_zero, List.getD_cons_succ, Nat.reduceAdd, isInt_self, AV.toInt, beq_self_eq_true, dlt hjl, dnn', aIf_true, hsum, decide_eq_true (show (sumR ys (j + 1) : Int) > 65536 by omega), aIf_false]
      exact (main ys.length 0 (by omega) (Nat.zero_le _)).imp fun m hm k => (hm k).symm
    · exact .inl fun k => by rw [aIf_neg hp]
  · exact .inl fun k => rfl)
theorem L22_2_in : LoopsOK C22 (loopB Try.f22 0) := LoopsOK.within 0 (by kernel_rfl) (fun j hj S hS => by
  omega)
theorem M22_2a (xs : List AV) (fl : SF) (ys : List AV) (gl : SF) (n i : Int) (k : KC) : headedK C22 (loopB Try.f22 0) [(0, .fs 2 xs fl), (14, .fs 2 ys gl), (15, .int .i64 n), (16, .int .i64 i)] [] k =
  aIf (decide (i < n))
  (aIf (decide (0 ≤ i))
    (aIf (decide (i < (↑ys.length : Int)))
      (aIf ((ys.getD i.toNat AV.junk).cells.length == 2)
        (aIf
          (([(ys.getD i.toNat AV.junk).cells.getD 0 AV.junk, (ys.getD i.toNat AV.junk).cells.getD 1 AV.junk].getD 0
                AV.junk).isInt
            IntKind.i64)
          (aIf
            (([(ys.getD i.toNat AV.junk).cells.getD 0 AV.junk, (ys.getD i.toNat AV.junk).cells.getD 1 AV.junk].getD 1
                  AV.junk).isInt
              IntKind.u64)
            (aIf
              (decide
                (([(ys.getD i.toNat AV.junk).cells.getD 0 AV.junk, (ys.getD i.toNat AV.junk).cells.getD 1 AV.junk].getD
                      0 AV.junk).toInt <
                  0))
              (k AExit.ret [(2, AV.fs 0 [] SF.nil), (3, AV.int IntKind.i64 30)] [])
              (aIf
                (decide
                  (([(ys.getD i.toNat AV.junk).cells.getD 0 AV.junk,
                            (ys.getD i.toNat AV.junk).cells.getD 1 AV.junk].getD
                        0 AV.junk).toInt >
                    64))
                (k AExit.ret [(2, AV.fs 0 [] SF.nil), (3, AV.int IntKind.i64 30)] [])
                (aIf
                  (shOK Sh.bool
                    (R53
                      [AV.int IntKind.u64
                          ([(ys.getD i.toNat AV.junk).cells.getD 0 AV.junk,
                                  (ys.getD i.toNat AV.junk).cells.getD 1 AV.junk].getD
                              1 AV.junk).toInt,
                        AV.int IntKind.i64
                          ([(ys.getD i.toNat AV.junk).cells.getD 0 AV.junk,
                                  (ys.getD i.toNat AV.junk).cells.getD 1 AV.junk].getD
                              0 AV.junk).toInt]))
                  (aIf
                    (sel
                        (R53
                          [AV.int IntKind.u64
                              ([(ys.getD i.toNat AV.junk).cells.getD 0 AV.junk,
                                      (ys.getD i.toNat AV.junk).cells.getD 1 AV.junk].getD
                                  1 AV.junk).toInt,
                            AV.int IntKind.i64
                              ([(ys.getD i.toNat AV.junk).cells.getD 0 AV.junk,
                                      (ys.getD i.toNat AV.junk).cells.getD 1 AV.junk].getD
                                  0 AV.junk).toInt])
                        []).toBool
                    (k AExit.ret [(2, AV.fs 0 [] SF.nil), (3, AV.int IntKind.i64 1)] [])
                    (k AExit.normal
                      [(0, AV.fs 2 xs fl), (14, AV.fs 2 ys gl), (15, AV.int IntKind.i64 n),
                        (16, AV.int IntKind.i64 (IntKind.i64.wrap (i + 1)))]
                      []))
                  none)))
            none)
          none)
        none)
      none)
    none)
  (k (AExit.exit 0)
    [(0, AV.fs 2 xs fl), (14, AV.fs 2 ys gl), (15, AV.int IntKind.i64 n), (16, AV.int IntKind.i64 i),
      (17, AV.bool (decide (i < n)))]
    []) := by kernel_rfl
theorem L22_2_ok : LoopSum C22 (loopB Try.f22 0) L22_2 := LoopSum.of C22_ok L22_2_in (fun ts H => by
  unfold L22_2
  split
  · rename_i xs fl ys gl n i
    rcases Bool.eq_false_or_eq_true (catG ys 0 n i) with hp | hp
    · refine .inr ?_
      simp only [aIf_pos hp]
      obtain ⟨hr, hL, rfl, _, rfl⟩ := catG_of hp
      have main : ∀ d j : Nat, j + d = ys.length → badE ys ys.length 0 = badE ys d j → ∃ m, ∀ k, aIterK m (headedK C22 (loopB Try.f22 0)) [(0, .fs 2 xs fl), (14, .fs 2 ys gl), (15, .int .i64 (ys.length : Int)), (16, .int .i64 (j : Int))] [] k =
          aIf (badE ys ys.length 0 == 0) (k (.exit 0) [(0, .fs 2 xs fl), (14, .fs 2 ys gl), (15, .int .i64 (ys.length : Int)), (16, .int .i64 (ys.length : Int)), (17, .bool false)] []) (k .ret [(2, .fs 0 [] .nil), (3, .int .i64 (badE ys ys.length 0))] []) := by
        intro d
        induction d with
        | zero =>
          intro j hj hb
          obtain rfl : j = ys.length := by omega
          refine ⟨1, fun k => ?_⟩
          rw [hb, aIterK, M22_2a, dltf]; rfl
        | succ d ih =>
          intro j hj hb
          have hjl : j < ys.length := by omega
          obtain ⟨he, ⟨n0, n1⟩, v0, v1⟩ := runs_get hr j hjl
          simp only [badE] at hb
          by_cases c1 : rN ys j < 0
          · refine ⟨1, fun k => ?_⟩
            rw [decide_eq_true c1] at hb
            rw [hb, aIterK, M22_2a]
            simp only [Int.toNat_natCast, he, AV.cells, List.length_cons, List.length_nil, List.getD_cons_zero, List.getD_cons_succ, Nat.reduceAdd, isInt_self, AV.toInt, beq_self_eq_true, dlt hjl, dnn', aIf_true, decide_eq_true c1]
            rfl
          by_cases c2 : rN ys j > 64
          · refine ⟨1, fun k => ?_⟩
            rw [decide_eq_true c2, Bool.or_true] at hb
            rw [hb, aIterK, M22_2a]
            simp only [Int.toNat_natCast, he, AV.cells, List.length_cons, List.length_nil, List.getD_cons_zero, List.getD_cons_succ, Nat.reduceAdd, isInt_self, AV.toInt, beq_self_eq_true, dlt hjl, dnn', aIf_true, decide_eq_false c1, aIf_false, decide_eq_true c2]
            rfl
          rw [decide_eq_false c1, decide_eq_false c2] at hb
          have hw := R53_is (v := rV ys j) (n := rN ys j) (by omega)
          cases c3 : fitB (rV ys j) (rN ys j) with
          | false =>
            refine ⟨1, fun k => ?_⟩
            rw [c3] at hb hw
            rw [hb, aIterK, M22_2a]
            simp only [Int.toNat_natCast, he, AV.cells, List.length_cons, List.length_nil, List.getD_cons_zero, List.getD_cons_succ, Nat.reduceAdd, isInt_self, AV.toInt, beq_self_eq_true, dlt hjl, dnn', aIf_true, decide_eq_false c1, aIf_false, decide_eq_false c2, hw, shOK_ret, has_bool]
            rfl
          | true =>
            rw [c3] at hb hw
            obtain ⟨m, hm⟩ := ih (j + 1) (by omega) hb
            refine ⟨m + 1, fun k => ?_⟩
            rw [← hm k, aIterK, M22_2a]
            simp only [Int.toNat_natCast, he, AV.cells, List.length_cons, List.length_nil, List.getD_cons_zero, List.getD_cons_succ, Nat.reduceAdd, isInt_self, AV.toInt, beq_self_eq_true, dlt hjl, dnn', aIf_true, decide_eq_false c1, aIf_false, decide_eq_false c2, hw, shOK_ret, has_bool, i64s (show j + 1 < 9223372036854775808 by omega)]
            rfl
      exact (main ys.length 0 (by omega) rfl).imp fun m hm k => (hm k).symm
    · exact .inl fun k => by rw [aIf_neg hp]
  · exact .inl fun k => rfl)
theorem C22_loops : ∀ c, Try.f22.body = some c → LoopsOK C22 c := LoopsOK.of 4 (by kernel_rfl) (fun j hj S hS => by
  match j, hj with
  | 0, _ => rw [C22_l0] at hS; cases hS; exact L22_2_ok
  | 1, _ => rw [C22_l1] at hS; cases hS; exact L22_11_ok
  | 2, _ => rw [C22_l2] at hS; cases hS; exact L22_20_ok
  | 3, _ => rw [C22_l3] at hS; cases hS; exact L22_23_ok
  | n + 4, hj => omega)
noncomputable def S22 : FSpec := inlineK C22 Try.f22
theorem S22_ok : SpecOK Try.prog 22 S22 := inlineK_ok C22_ok Try.func22 C22_loops
theorem En22 : Enters Try.prog 22 := ⟨_, Try.func22, by decide, rfl⟩
noncomputable def R22 (args : List AV) : Res := S22 args [] encK
noncomputable def V22 : FSpec := leafK (.tup [.ints .u8, .int .i64]) R22
theorem V22_ok : SpecOK Try.prog 22 V22 := leafK_ok S22_ok (fun _ => rfl)
theorem N22 (xs : List AV) (fl : SF) : S22 [.fs 2 xs fl] [] encK =
  aIf (Pl.catG xs 0 (↑xs.length : Int) 0)
  (aIf (Pl.badE xs xs.length 0 == 0)
    (aIf (Pl.catG xs 0 (↑xs.length : Int) 0 && Pl.badE xs xs.length 0 == 0)
      (aIf ((Pl.sumR xs xs.length).ble 65536)
        (aIf (decide (0 ≤ IntKind.i64.wrap ((IntKind.i64.wrap ((↑(Pl.sumR xs xs.length) : Int) + 7)).tdiv 8)))
          (aIf
            (decide
              (IntKind.i64.wrap ((IntKind.i64.wrap ((↑(Pl.sumR xs xs.length) : Int) + 7)).tdiv 8) ≤
                IntKind.i64.wrap ((IntKind.i64.wrap ((↑(Pl.sumR xs xs.length) : Int) + 7)).tdiv 8)))
            (aIf
              (decide
                (IntKind.i64.wrap ((IntKind.i64.wrap ((↑(Pl.sumR xs xs.length) : Int) + 7)).tdiv 8) * 1 ≤
                  281474976710656))
              (aIf
                (decide
                  (IntKind.i64.wrap ((IntKind.i64.wrap ((↑(Pl.sumR xs xs.length) : Int) + 7)).tdiv 8) ≤
                    281474976710656))
                (aIf (IntKind.i64.wrap ((IntKind.i64.wrap ((↑(Pl.sumR xs xs.length) : Int) + 7)).tdiv 8) == 0)
                  (aIf (Pl.catG xs 0 (↑xs.length : Int) 0 && Pl.badE xs xs.length 0 == 0 && Pl.sumR xs xs.length == 0)
                    (some (AEnd.ret (AV.tup [AV.fs 1 [] SF.zc, AV.int IntKind.i64 0]), [])) none)
                  (aIf
                    (Pl.catG xs 0 (↑xs.length : Int) 0 &&
                      Pl.catG2
                        ((IntKind.i64.wrap ((IntKind.i64.wrap ((↑(Pl.sumR xs xs.length) : Int) + 7)).tdiv 8)).toNat * 1)
                        ((IntKind.i64.wrap ((IntKind.i64.wrap ((↑(Pl.sumR xs xs.length) : Int) + 7)).tdiv 8)).toNat * 1)
                        (IntKind.i64.wrap ((IntKind.i64.wrap ((↑(Pl.sumR xs xs.length) : Int) + 7)).tdiv 8)).toNat xs
                        (List.replicate
                            (IntKind.i64.wrap ((IntKind.i64.wrap ((↑(Pl.sumR xs xs.length) : Int) + 7)).tdiv 8)).toNat
                            [AV.int IntKind.u8 0]).flatten)
                    (aIf
                      ((IntKind.i64.wrap ((IntKind.i64.wrap ((↑(Pl.sumR xs xs.length) : Int) + 7)).tdiv 8)).toNat * 1 ==
                        (IntKind.i64.wrap ((IntKind.i64.wrap ((↑(Pl.sumR xs xs.length) : Int) + 7)).tdiv 8)).toNat * 1)
                      (aIf
                        (decide
                          (0 +
                              (IntKind.i64.wrap
                                    ((IntKind.i64.wrap ((↑(Pl.sumR xs xs.length) : Int) + 7)).tdiv 8)).toNat *
                                1 ≤
                            (Pl.catP xs xs.length xs.length).length))
                        (aIf
                          (flatL
                            (List.take
                              ((IntKind.i64.wrap
                                    ((IntKind.i64.wrap ((↑(Pl.sumR xs xs.length) : Int) + 7)).tdiv 8)).toNat *
                                1)
                              (List.drop 0 (Pl.catP xs xs.length xs.length))))
                          (some
                            (AEnd.ret
                                (AV.tup
                                  [AV.fs 1
                                      (List.take
                                        (IntKind.i64.wrap
                                            ((IntKind.i64.wrap ((↑(Pl.sumR xs xs.length) : Int) + 7)).tdiv 8)).toNat
                                        (List.drop 0 (Pl.catP xs xs.length xs.length)))
                                      SF.any,
                                    AV.int IntKind.i64 0]),
                              []))
                          none)
                        none)
                      none)
                    none))
                none)
              none)
            none)
          none)
        (some (AEnd.ret (AV.tup [AV.fs 1 [] SF.nil, AV.int IntKind.i64 3]), [])))
      none)
    (some (AEnd.ret (AV.tup [AV.fs 1 [] SF.nil, AV.int IntKind.i64 (Pl.badE xs xs.length 0)]), [])))
  none := by kernel_rfl
theorem R22_is {xs : List AV} {fl : SF} (hr : runsB xs = true) (hL : xs.length ≤ 1200) : ∃ fl', R22 [.fs 2 xs fl] = some (.ret (.tup [.fs 1 (catX xs) fl', .int .i64 (catE xs)]), []) := by
  show ∃ fl', S22 _ [] encK = _
  have hc := catG_ok hr hL
  unfold catX catE
  rw [N22, hc]
  cases hb : badE xs xs.length 0 == 0
  · exact ⟨.nil, rfl⟩
  cases hs : Nat.ble (sumR xs xs.length) 65536
  · exact ⟨.nil, rfl⟩
  have hs' := Nat.le_of_ble_eq_true hs
  have hb' : badE xs xs.length 0 = 0 := by simpa using hb
  by_cases h4 : sumR xs xs.length = 0
  · refine ⟨.zc, ?_⟩
    have hp : catP xs xs.length xs.length = [] := List.eq_nil_of_length_eq_zero (by rw [catP_length, h4])
    rw [bytes_len (by omega), hp, h4]; rfl
  · refine ⟨.any, ?_⟩
    have hp := catP_u8 (xs := xs) (Nat.le_refl xs.length)
    have hpl := catP_length xs xs.length xs.length
    have hg := catG2_ok (w := (sumR xs xs.length + 7) / 8) rfl hs' hb'
    rw [bytes_len (by omega), flatten_rep, Int.toNat_natCast, Nat.mul_one, show List.replicate ((sumR xs xs.length + 7) / 8) (AV.int IntKind.u8 0) = zeros ((sumR xs xs.length + 7) / 8) from rfl, hg, take_all hpl, ints_flat hp, hpl, beq_self_eq_true, Nat.zero_add,
      show ((((sumR xs xs.length + 7) / 8 : Nat) : Int) == 0) = false from beq_eq_false_iff_ne.2 (by omega), dnn', decide_eq_true (Int.le_refl _), decide_eq_true (show (((sumR xs xs.length + 7) / 8 : Nat) : Int) * 1 ≤ 281474976710656 by omega), decide_eq_true (show (((sumR xs xs.length + 7) / 8 : Nat) : Int) ≤ 281474976710656 by omega), decide_eq_true (Nat.le_refl _)]
    rfl

/-- ferryman/ferrymanref03.fits -/
noncomputable def T58 : List (FuncId × FSpec) := []
theorem T58_ok : TabOK Try.prog T58 := TabOK.nil _
noncomputable def C58 : Ctx := (ctx E T58 [] [(0, [0, 1]), (1, [4])] [] 13 70)
theorem C58_ok : CtxOK Try.prog C58 := ctx_ok E_ok E_flds mixed T58_ok
noncomputable def S58 : FSpec := inlineK C58 Try.f58
theorem S58_ok : SpecOK Try.prog 58 S58 := inlineK_ok C58_ok Try.func58 (fun _ _ => LoopsOK.none _)
theorem En58 : Enters Try.prog 58 := ⟨_, Try.func58, by decide, rfl⟩
noncomputable def R58 (args : List AV) : Res := S58 args [] encK
noncomputable def V58 : FSpec := leafK (.bool) R58
theorem V58_ok : SpecOK Try.prog 58 V58 := leafK_ok S58_ok (fun _ => rfl)
theorem N58 (v n : Int) : S58 [.int .u64 v, .int .i64 n] [] encK =
  aIf (decide (n ≥ 64)) (some (AEnd.ret (AV.bool true), []))
  (aIf (decide (n < 0)) none (some (AEnd.ret (AV.bool (v.fdiv (2 ^ min n.toNat 64) == 0)), []))) := by kernel_rfl
theorem R58_is {v n : Int} (hn : 0 ≤ n) : R58 [.int .u64 v, .int .i64 n] = some (.ret (.bool (fitB v n)), []) := by
  show S58 _ [] encK = _
  rw [N58]
  exact fits_law hn (fun b => some (.ret (.bool b), []))

/-- ferryman/ferrymanref03.bytes -/
noncomputable def T59 : List (FuncId × FSpec) := []
theorem T59_ok : TabOK Try.prog T59 := TabOK.nil _
noncomputable def L59_3 : ATs → AH → KC → Res := fun ts H k => match ts, H with
  | [(0, .sl 0 ver 0 len 1), (3, .sl 1 v2 0 m 1), (4, .int .i64 i)], [.cells w ys, .cells w2 zs] => aIf (packG w ver len w2 v2 m ys zs i) (k (.exit 0) [(0, .sl 0 ver 0 len 1), (3, .sl 1 v2 0 m 1), (4, .int .i64 (len : Int)), (13, .bool false)] [.cells w ys, .cells v2 (packL ys)]) none
  | [(0, .fs 1 xs fl), (3, .fs 1 zs gl), (4, .int .i64 i)], [] => aIf (xs.length == 0 && i == 0) (k (.exit 0) [(0, .fs 1 xs fl), (3, .fs 1 zs gl), (4, .int .i64 i), (13, .bool false)] []) none
  | [(0, .fs 0 xs fl), (3, .fs 1 zs gl), (4, .int .i64 i)], [] => aIf (xs.length == 0 && i == 0) (k (.exit 0) [(0, .fs 0 xs fl), (3, .fs 1 zs gl), (4, .int .i64 i), (13, .bool false)] []) none
  | _, _ => none
noncomputable def C59 : Ctx := (ctx E T59 [(3, L59_3)] [(0, [0]), (1, [0, 3]), (2, [0, 3, 4]), (3, [0, 3, 4, 13]), (4, [0, 3, 4]), (5, [0, 3, 4, 20]), (6, [0, 3, 4]), (7, [2]), (1000003, [0, 3, 4])] [] 36 70)
theorem C59_ok : CtxOK Try.prog C59 := ctx_ok E_ok E_flds mixed T59_ok
theorem C59_l0 : C59.loop (loopId (loopB Try.f59 0)) = some L59_3 := by kernel_rfl
theorem L59_3_in : LoopsOK C59 (loopB Try.f59 0) := LoopsOK.within 0 (by kernel_rfl) (fun j hj S hS => by
  omega)
theorem M59_3a (ver len v2 m : Nat) (i : Int) (w : Nat) (ys : List AV) (w2 : Nat) (zs : List AV) (k : KC) : headedK C59 (loopB Try.f59 0) [(0, .sl 0 ver 0 len 1), (3, .sl 1 v2 0 m 1), (4, .int .i64 i)] [.cells w ys, .cells w2 zs] k =
  aIf (decide (i < (↑len : Int)))
  (aIf (decide (0 ≤ i))
    (aIf (decide (i < (↑len : Int)))
      (aIf (w == ver)
        (aIf (decide (0 + i.toNat * 1 + 1 ≤ ys.length))
          (aIf ((ys.getD (0 + i.toNat * 1) AV.junk).isInt IntKind.u64)
            (aIf ((ys.getD (0 + i.toNat * 1) AV.junk).toInt == 1)
              (aIf (decide (0 ≤ IntKind.i64.wrap (i.tdiv 8)))
                (aIf (decide (IntKind.i64.wrap (i.tdiv 8) < (↑m : Int)))
                  (aIf (w2 == v2)
                    (aIf (decide (0 + (IntKind.i64.wrap (i.tdiv 8)).toNat * 1 + 1 ≤ zs.length))
                      (aIf ((zs.getD (0 + (IntKind.i64.wrap (i.tdiv 8)).toNat * 1) AV.junk).isInt IntKind.u8)
                        (aIf (decide (IntKind.i64.wrap (7 - i.tmod 8) < 0)) none
                          (aIf (decide (0 ≤ IntKind.i64.wrap (i.tdiv 8)))
                            (aIf (decide (IntKind.i64.wrap (i.tdiv 8) < (↑m : Int)))
                              (aIf (w2 == v2)
                                (aIf (decide (0 + (IntKind.i64.wrap (i.tdiv 8)).toNat * 1 + 1 ≤ zs.length))
                                  (k AExit.normal
                                    [(0, AV.sl 0 ver 0 len 1), (3, AV.sl 1 v2 0 m 1),
                                      (4, AV.int IntKind.i64 (IntKind.i64.wrap (i + 1)))]
                                    [AO.cells w ys,
                                      AO.cells v2
                                        (zs.set (0 + (IntKind.i64.wrap (i.tdiv 8)).toNat * 1)
                                          (AV.int IntKind.u8
                                            (IntKind.u8.wrap
                                              ((zs.getD (0 + (IntKind.i64.wrap (i.tdiv 8)).toNat * 1) AV.junk).toInt +
                                                IntKind.u8.wrap
                                                  (1 * 2 ^ min (IntKind.i64.wrap (7 - i.tmod 8)).toNat 8)))))])
                                  none)
                                none)
                              none)
                            none))
                        none)
                      none)
                    none)
                  none)
                none)
              (k AExit.normal
                [(0, AV.sl 0 ver 0 len 1), (3, AV.sl 1 v2 0 m 1), (4, AV.int IntKind.i64 (IntKind.i64.wrap (i + 1)))]
                [AO.cells w ys, AO.cells w2 zs]))
            none)
          none)
        none)
      none)
    none)
  (k (AExit.exit 0)
    [(0, AV.sl 0 ver 0 len 1), (3, AV.sl 1 v2 0 m 1), (4, AV.int IntKind.i64 i),
      (13, AV.bool (decide (i < (↑len : Int))))]
    [AO.cells w ys, AO.cells w2 zs]) := by kernel_rfl
theorem M59_3b (xs : List AV) (fl : SF) (zs : List AV) (gl : SF) (i : Int) (k : KC) : headedK C59 (loopB Try.f59 0) [(0, .fs 1 xs fl), (3, .fs 1 zs gl), (4, .int .i64 i)] [] k =
  aIf (decide (i < (↑xs.length : Int)))
  (aIf (decide (0 ≤ i))
    (aIf (decide (i < (↑xs.length : Int)))
      (aIf ((xs.getD i.toNat AV.junk).cells.length == 1)
        (aIf (([(xs.getD i.toNat AV.junk).cells.getD 0 AV.junk].getD 0 AV.junk).isInt IntKind.u64)
          (aIf (([(xs.getD i.toNat AV.junk).cells.getD 0 AV.junk].getD 0 AV.junk).toInt == 1)
            (aIf (decide (0 ≤ IntKind.i64.wrap (i.tdiv 8)))
              (aIf (decide (IntKind.i64.wrap (i.tdiv 8) < (↑zs.length : Int)))
                (aIf ((zs.getD (IntKind.i64.wrap (i.tdiv 8)).toNat AV.junk).cells.length == 1)
                  (aIf
                    (([(zs.getD (IntKind.i64.wrap (i.tdiv 8)).toNat AV.junk).cells.getD 0 AV.junk].getD 0 AV.junk).isInt
                      IntKind.u8)
                    (aIf (decide (IntKind.i64.wrap (7 - i.tmod 8) < 0)) none
                      (aIf (decide (0 ≤ IntKind.i64.wrap (i.tdiv 8)))
                        (aIf (decide (IntKind.i64.wrap (i.tdiv 8) < (↑zs.length : Int)))
                          (aIf ((zs.getD (IntKind.i64.wrap (i.tdiv 8)).toNat AV.junk).cells.length == 1) none none)
                          none)
                        none))
                    none)
                  none)
                none)
              none)
            (k AExit.normal [(0, AV.fs 1 xs fl), (3, AV.fs 1 zs gl), (4, AV.int IntKind.i64 (IntKind.i64.wrap (i + 1)))]
              []))
          none)
        none)
      none)
    none)
  (k (AExit.exit 0)
    [(0, AV.fs 1 xs fl), (3, AV.fs 1 zs gl), (4, AV.int IntKind.i64 i), (13, AV.bool (decide (i < (↑xs.length : Int))))]
    []) := by kernel_rfl
theorem M59_3c (xs : List AV) (fl : SF) (zs : List AV) (gl : SF) (i : Int) (k : KC) : headedK C59 (loopB Try.f59 0) [(0, .fs 0 xs fl), (3, .fs 1 zs gl), (4, .int .i64 i)] [] k =
  aIf (decide (i < (↑xs.length : Int)))
  (aIf (decide (0 ≤ i))
    (aIf (decide (i < (↑xs.length : Int)))
      (aIf ((xs.getD i.toNat AV.junk).cells.length == 1)
        (aIf (([(xs.getD i.toNat AV.junk).cells.getD 0 AV.junk].getD 0 AV.junk).isInt IntKind.u64)
          (aIf (([(xs.getD i.toNat AV.junk).cells.getD 0 AV.junk].getD 0 AV.junk).toInt == 1)
            (aIf (decide (0 ≤ IntKind.i64.wrap (i.tdiv 8)))
              (aIf (decide (IntKind.i64.wrap (i.tdiv 8) < (↑zs.length : Int)))
                (aIf ((zs.getD (IntKind.i64.wrap (i.tdiv 8)).toNat AV.junk).cells.length == 1)
                  (aIf
                    (([(zs.getD (IntKind.i64.wrap (i.tdiv 8)).toNat AV.junk).cells.getD 0 AV.junk].getD 0 AV.junk).isInt
                      IntKind.u8)
                    (aIf (decide (IntKind.i64.wrap (7 - i.tmod 8) < 0)) none
                      (aIf (decide (0 ≤ IntKind.i64.wrap (i.tdiv 8)))
                        (aIf (decide (IntKind.i64.wrap (i.tdiv 8) < (↑zs.length : Int)))
                          (aIf ((zs.getD (IntKind.i64.wrap (i.tdiv 8)).toNat AV.junk).cells.length == 1) none none)
                          none)
                        none))
                    none)
                  none)
                none)
              none)
            (k AExit.normal [(0, AV.fs 0 xs fl), (3, AV.fs 1 zs gl), (4, AV.int IntKind.i64 (IntKind.i64.wrap (i + 1)))]
              []))
          none)
        none)
      none)
    none)
  (k (AExit.exit 0)
    [(0, AV.fs 0 xs fl), (3, AV.fs 1 zs gl), (4, AV.int IntKind.i64 i), (13, AV.bool (decide (i < (↑xs.length : Int))))]
    []) := by kernel_rfl
theorem L59_3_ok : LoopSum C59 (loopB Try.f59 0) L59_3 := LoopSum.of C59_ok L59_3_in (fun ts H => by
  unfold L59_3
  split
  · rename_i ver len v2 m i w ys w2 zs
    rcases Bool.eq_false_or_eq_true (packG w ver len w2 v2 m ys zs i) with hp | hp
    · refine .inr ?_
      simp only [aIf_pos hp]
      obtain ⟨rfl, rfl, rfl, rfl, hl, hb, rfl, hz, rfl⟩ := packG_of hp
      have main : ∀ d j : Nat, j + d = ys.length → ∃ m, ∀ k, aIterK m (headedK C59 (loopB Try.f59 0)) [(0, .sl 0 w 0 ys.length 1), (3, .sl 1 w2 0 ((ys.length + 7) / 8) 1), (4, .int .i64 (j : Int))] [.cells w ys, .cells w2 (putL (zeros ((ys.length + 7) / 8)) 0 (bitAt ys) j)] k =
          k (.exit 0) [(0, .sl 0 w 0 ys.length 1), (3, .sl 1 w2 0 ((ys.length + 7) / 8) 1), (4, .int .i64 (ys.length : Int)), (13, .bool false)] [.cells w ys, .cells w2 (packL ys)] := by
        intro d
        induction d with
        | zero =>
          intro j hj
          obtain rfl : j = ys.length := by omega
          refine ⟨1, fun k => ?_⟩
          rw [aIterK, M59_3a]
          simp only [dltf, aIf_false, packL]
        | succ d ih =>
          intro j hj
          obtain ⟨m, hm⟩ := ih (j + 1) (by omega)
          refine ⟨m + 1, fun k => ?_⟩
          have hjl : j < ys.length := by omega
          obtain ⟨b, hb01, he⟩ := binB_get hb j hjl
          have hba : bitAt ys j = b := by unfold bitAt; rw [he]; rfl
          have hzu := putL_u8 (a := 0) (zeros_u8 ((ys.length + 7) / 8)) j (fun i hi => bitAt_01 hb i (by omega))
          have hzl : (putL (zeros ((ys.length + 7) / 8)) 0 (bitAt ys) j).length = (ys.length + 7) / 8 := by rw [putL_length]; simp [zeros]
          have hz0 : bitV (putL (zeros ((ys.length + 7) / 8)) 0 (bitAt ys) j) j = 0 := by
            rw [putL_bit (zeros_u8 _) j (fun i hi => bitAt_01 hb i (by omega)) (by simp [zeros]; omega), if_neg (by omega), bitV_zeros]
          have hj8 : j / 8 < (putL (zeros ((ys.length + 7) / 8)) 0 (bitAt ys) j).length := by rw [hzl]; omega
          have hput : putL (zeros ((ys.length + 7) / 8)) 0 (bitAt ys) (j + 1) = setV (putL (zeros ((ys.length + 7) / 8)) 0 (bitAt ys) j) j b := by
            simp only [putL, Nat.zero_add, hba]
          rw [hput] at hm
          rw [aIterK, M59_3a, aIf_pos (dlt hjl), dnn', aIf_true, aIf_pos (dlt hjl), beq_self_eq_true, aIf_true, Int.toNat_natCast, Nat.mul_one, Nat.zero_add, aIf_pos (decide_eq_true (by omega)), he, isInt_self, aIf_true, i64s (by omega)]
          generalize putL (zeros ((ys.length + 7) / 8)) 0 (bitAt ys) j = zs at *
          rcases hb01 with rfl | rfl
          · rw [show ((AV.int IntKind.u64 0).toInt == 1) = false from rfl, aIf_false]
            rw [setV_same hzu hj8 hz0] at hm
            exact hm k
          · obtain ⟨x, hx, hxe⟩ := u8_get hzu (j / 8) hj8
            have hs : 7 - j % 8 < 8 := by omega
            have r1 := setByte_range (b := 1) hx hs (.inr rfl)
            have hsb : (x : Int) + 2 ^ (7 - j % 8) = setByte x (7 - j % 8) 1 := by
              unfold bitV at hz0
              rw [hxe] at hz0
              unfold setByte
              rw [show (x : Int) / 2 ^ (7 - j % 8) % 2 = 0 from hz0]
              omega
            have e3 : min (7 - j % 8) 8 = 7 - j % 8 := by omega
            rw [show ((AV.int IntKind.u64 1).toInt == 1) = true from rfl, aIf_true, div8 (by omega), dnn', aIf_true, aIf_pos (dlt (by omega)), beq_self_eq_true, aIf_true, Int.toNat_natCast, Nat.mul_one, Nat.zero_add, aIf_pos (decide_eq_true (by omega)), hxe, isInt_self, aIf_true, sh7, dnn, aIf_false,
              aIf_true, aIf_pos (dlt (by omega)), aIf_true, aIf_pos (decide_eq_true (by omega)), Int.toNat_natCast, e3, Int.one_mul, u8pow hs]
            simp only [AV.toInt, hsb, u8n r1.1 r1.2]
            have hset : setV zs j 1 = zs.set (j / 8) (.int .u8 (setByte x (7 - j % 8) 1)) := by unfold setV; rw [hxe]; rfl
            rw [← hset]
            exact hm k
      exact (main ys.length 0 (by omega)).imp fun m hm k => (hm k).symm
    · exact .inl fun k => by rw [aIf_neg hp]
  · rename_i xs fl zs gl i
    rcases Bool.eq_false_or_eq_true (xs.length == 0 && i == 0) with hp | hp
    · refine .inr ?_
      simp only [aIf_pos hp]
      simp only [Bool.and_eq_true, beq_iff_eq] at hp
      obtain ⟨h0, rfl⟩ := hp
      refine ⟨1, fun k => ?_⟩
      rw [aIterK, M59_3b, h0]
      rfl
    · exact .inl fun k => by rw [aIf_neg hp]
  · rename_i xs fl zs gl i
    rcases Bool.eq_false_or_eq_true (xs.length == 0 && i == 0) with hp | hp
    · refine .inr ?_
      simp only [aIf_pos hp]
      simp only [Bool.and_eq_true, beq_iff_eq] at hp
      obtain ⟨h0, rfl⟩ := hp
      refine ⟨1, fun k => ?_⟩
      rw [aIterK, M59_3c, h0]
      rfl
    · exact .inl fun k => by rw [aIf_neg hp]
  · exact .inl fun k => rfl)
theorem C59_loops : ∀ c, Try.f59.body = some c → LoopsOK C59 c := LoopsOK.of 1 (by kernel_rfl) (fun j hj S hS => by
  match j, hj with
  | 0, _ => rw [C59_l0] at hS; cases hS; exact L59_3_ok
  | n + 1, hj => omega)
noncomputable def S59 : FSpec := inlineK C59 Try.f59
theorem S59_ok : SpecOK Try.prog 59 S59 := inlineK_ok C59_ok Try.func59 C59_loops
theorem En59 : Enters Try.prog 59 := ⟨_, Try.func59, by decide, rfl⟩
noncomputable def R59 (args : List AV) : Res := S59 args [] encK
noncomputable def V59 : FSpec := leafK (.ints .u8) R59
theorem V59_ok : SpecOK Try.prog 59 V59 := leafK_ok S59_ok (fun _ => rfl)

noncomputable def W59 : FSpec := liveK C59 Try.f59
theorem W59_ok : SpecOK Try.prog 59 W59 := liveK_ok C59_ok Try.func59 C59_loops

/-- ferryman/ferrymanref03.Cat -/
noncomputable def T23 : List (FuncId × FSpec) := [(58, V58), (59, W59)]
theorem T23_ok : TabOK Try.prog T23 := TabOK.cons En58 V58_ok (TabOK.cons En59 W59_ok (TabOK.nil _))
noncomputable def L23_13 : ATs → AH → KC → Res := fun ts H k => match ts, H with
  | [(0, .fs 2 xs fl), (4, .bool m), (5, .sl 0 ver 0 len 1), (6, .int .i64 i), (7, .int .i64 n), (8, .int .i64 j)], [.cells w ys] => aIf (catI xs i n j && rowG w ver len ys) (aIf m (k (.exit 2) [(0, .fs 2 xs fl), (4, .bool m), (5, .sl 0 ver 0 len 1), (6, .int .i64 i), (7, .int .i64 n), (8, .int .i64 j), (48, .bool false)] [.cells w ys]) (k (.exit 2) [(0, .fs 2 xs fl), (4, .bool m), (5, .sl 0 (len + n.toNat) 0 (len + n.toNat) 1), (6, .int .i64 i), (7, .int .i64 n), (8, .int .i64 n), (48, .bool false)] [.cells (len + n.toNat) (ys ++ vbL (rV xs i.toNat) n.toNat)])) none
  | [(0, .fs 2 xs fl), (4, .bool m), (5, .fs 0 [] .nil), (6, .int .i64 i), (7, .int .i64 n), (8, .int .i64 j)], [] => aIf (catI xs i n j) (aIf m (k (.exit 2) [(0, .fs 2 xs fl), (4, .bool m), (5, .fs 0 [] .nil), (6, .int .i64 i), (7, .int .i64 n), (8, .int .i64 j), (48, .bool false)] []) (aIf (n == 0) (k (.exit 2) [(0, .fs 2 xs fl), (4, .bool m), (5, .fs 0 [] .nil), (6, .int .i64 i), (7, .int .i64 n), (8, .int .i64 n), (48, .bool false)] []) (k (.exit 2) [(0, .fs 2 xs fl), (4, .bool m), (5, .sl 0 n.toNat 0 n.toNat 1), (6, .int .i64 i), (7, .int .i64 n), (8, .int .i64 n), (48, .bool false)] [.cells n.toNat (vbL (rV xs i.toNat) n.toNat)]))) none
  | _, _ => none
noncomputable def L23_4 : ATs → AH → KC → Res := fun ts H k => match ts, H with
  | [(0, .fs 2 xs fl), (4, .bool m), (5, .fs 0 [] .nil), (6, .int .i64 i)], [] => aIf (runsB xs && decide (xs.length ≤ 1200) && i == 0 && !m) (aIf (badE xs xs.length 0 == 0) (aIf (outF xs xs.length).isEmpty (k (.exit 0) [(0, .fs 2 xs fl), (4, .bool (manyB xs xs.length)), (5, .fs 0 [] .nil), (6, .int .i64 (xs.length : Int)), (12, .bool false)] []) (k (.exit 0) [(0, .fs 2 xs fl), (4, .bool (manyB xs xs.length)), (5, .sl 0 (outF xs xs.length).length 0 (outF xs xs.length).length 1), (6, .int .i64 (xs.length : Int)), (12, .bool false)] [.cells (outF xs xs.length).length (outF xs xs.length)])) (aIf (outF xs (stopI xs xs.length 0)).isEmpty (k .ret [(2, .fs 0 [] .nil), (3, .int .i64 (badE xs xs.length 0))] []) (k .ret [(2, .fs 0 [] .nil), (3, .int .i64 (badE xs xs.length 0))] [.cells (outF xs (stopI xs xs.length 0)).length (outF xs (stopI xs xs.length 0))]))) none
  | _, _ => none
noncomputable def C23 : Ctx := (ctx E T23 [(13, L23_13), (4, L23_4)] [(0, [0]), (1, [0, 4]), (2, [0, 4, 5]), (3, [0, 4, 5, 6]), (4, [0, 4, 5, 6, 12]), (5, [0, 4, 5, 6]), (6, [0, 4, 5, 6, 7]), (7, [0, 4, 5, 6, 7, 25]), (8, [2, 3]), (9, [0, 4, 5, 6, 7, 33]), (10, [2, 3]), (11, [0, 4, 5, 6, 7]), (12, [0, 4, 5, 6, 7, 8]), (13, [0, 4, 5, 6, 7, 8, 48]), (14, [0, 4, 5, 6, 7, 8]), (15, [0, 4, 5, 6, 7, 8]), (16, [5, 65]), (17, [2, 3]), (18, [2, 3]), (1000004, [0, 4, 5, 6]), (1000013, [0, 4, 5, 6, 7, 8])] [] 68 70)
theorem C23_ok : CtxOK Try.prog C23 := ctx_ok E_ok E_flds mixed T23_ok
theorem C23_l0 : C23.loop (loopId (loopB Try.f23 0)) = some L23_4 := by kernel_rfl
theorem C23_l1 : C23.loop (loopId (loopB Try.f23 1)) = some L23_13 := by kernel_rfl
theorem L23_13_in : LoopsOK C23 (loopB Try.f23 1) := LoopsOK.within 0 (by kernel_rfl) (fun j hj S hS => by
  omega)
theorem M23_13a (xs : List AV) (fl : SF) (m : Bool) (ver len : Nat) (i n j : Int) (w : Nat) (ys : List AV) (k : KC) : headedK C23 (loopB Try.f23 1) [(0, .fs 2 xs fl), (4, .bool m), (5, .sl 0 ver 0 len 1), (6, .int .i64 i), (7, .int .i64 n), (8, .int .i64 j)] [.cells w ys] k =
  aIf (decide (j < n))
  (aIf (!m)
    (aIf (decide (0 ≤ i))
      (aIf (decide (i < (↑xs.length : Int)))
        (aIf ((xs.getD i.toNat AV.junk).cells.length == 2)
          (aIf (([(xs.getD i.toNat AV.junk).cells.getD 1 AV.junk].getD 0 AV.junk).isInt IntKind.u64)
            (aIf (decide (IntKind.i64.wrap (IntKind.i64.wrap (n - 1) - j) < 0)) none
              (aIf (ver == 0) none
                (aIf (w == ver)
                  (aIf (((len + 1) * 8).ble 140737488355328)
                    (k AExit.normal
                      [(0, AV.fs 2 xs fl), (4, AV.bool m), (5, AV.sl 0 (max ver ((len + 1) * 1)) 0 (len + 1) 1),
                        (6, AV.int IntKind.i64 i), (7, AV.int IntKind.i64 n),
                        (8, AV.int IntKind.i64 (IntKind.i64.wrap (j + 1)))]
                      [AO.cells (max ver ((len + 1) * 1))
                          (List.take (len * 1) ys ++
                              [AV.int IntKind.u64
                                  ((([(xs.getD i.toNat AV.junk).cells.getD 1 AV.junk].getD 0 AV.junk).toInt.fdiv
                                        (2 ^ min (IntKind.i64.wrap (IntKind.i64.wrap (n - 1) - j)).toNat 64)).tmod
                                    2)] ++
                            List.drop (len * 1 + 1) ys)])
                    none)
                  none)))
            none)
          none)
        none)
      none)
    (k (AExit.exit 2)
      [(0, AV.fs 2 xs fl), (4, AV.bool m), (5, AV.sl 0 ver 0 len 1), (6, AV.int IntKind.i64 i),
        (7, AV.int IntKind.i64 n), (8, AV.int IntKind.i64 j), (48, AV.bool !m)]
      [AO.cells w ys]))
  (k (AExit.exit 2)
    [(0, AV.fs 2 xs fl), (4, AV.bool m), (5, AV.sl 0 ver 0 len 1), (6, AV.int IntKind.i64 i), (7, AV.int IntKind.i64 n),
      (8, AV.int IntKind.i64 j), (48, AV.bool false)]
    [AO.cells w ys]) := by kernel_rfl
theorem M23_13b (xs : List AV) (fl : SF) (m : Bool) (i n j : Int) (k : KC) : headedK C23 (loopB Try.f23 1) [(0, .fs 2 xs fl), (4, .bool m), (5, .fs 0 [] .nil), (6, .int .i64 i), (7, .int .i64 n), (8, .int .i64 j)] [] k =
  aIf (decide (j < n))
  (aIf (!m)
    (aIf (decide (0 ≤ i))
      (aIf (decide (i < (↑xs.length : Int)))
        (aIf ((xs.getD i.toNat AV.junk).cells.length == 2)
          (aIf (([(xs.getD i.toNat AV.junk).cells.getD 1 AV.junk].getD 0 AV.junk).isInt IntKind.u64)
            (aIf (decide (IntKind.i64.wrap (IntKind.i64.wrap (n - 1) - j) < 0)) none
              (k AExit.normal
                [(0, AV.fs 2 xs fl), (4, AV.bool m), (5, AV.sl 0 1 0 1 1), (6, AV.int IntKind.i64 i),
                  (7, AV.int IntKind.i64 n), (8, AV.int IntKind.i64 (IntKind.i64.wrap (j + 1)))]
                [AO.cells 1
                    [AV.int IntKind.u64
                        ((([(xs.getD i.toNat AV.junk).cells.getD 1 AV.junk].getD 0 AV.junk).toInt.fdiv
                              (2 ^ min (IntKind.i64.wrap (IntKind.i64.wrap (n - 1) - j)).toNat 64)).tmod
                          2)]]))
            none)
          none)
        none)
      none)
    (k (AExit.exit 2)
      [(0, AV.fs 2 xs fl), (4, AV.bool m), (5, AV.fs 0 [] SF.nil), (6, AV.int IntKind.i64 i), (7, AV.int IntKind.i64 n),
        (8, AV.int IntKind.i64 j), (48, AV.bool !m)]
      []))
  (k (AExit.exit 2)
    [(0, AV.fs 2 xs fl), (4, AV.bool m), (5, AV.fs 0 [] SF.nil), (6, AV.int IntKind.i64 i), (7, AV.int IntKind.i64 n),
      (8, AV.int IntKind.i64 j), (48, AV.bool false)]
    []) := by kernel_rfl
theorem M23m {xs : List AV} {fl : SF} {n i : Nat} (hr : runsB xs = true) (hi : i < xs.length) (hn : n ≤ 64) : ∀ (d j : Nat) (ys : List AV), j + d = n → 1 ≤ ys.length → ys.length ≤ 65536 + j →
    ∃ m, ∀ k, aIterK m (headedK C23 (loopB Try.f23 1)) [(0, .fs 2 xs fl), (4, .bool false), (5, .sl 0 ys.length 0 ys.length 1), (6, .int .i64 (i : Int)), (7, .int .i64 (n : Int)), (8, .int .i64 (j : Int))] [.cells ys.length ys] k =
      k (.exit 2) [(0, .fs 2 xs fl), (4, .bool false), (5, .sl 0 (ys.length + d) 0 (ys.length + d) 1), (6, .int .i64 (i : Int)), (7, .int .i64 (n : Int)), (8, .int .i64 (n : Int)), (48, .bool false)] [.cells (ys.length + d) (ys ++ vbM (rV xs i) n j d)] := by
  intro d
  induction d with
  | zero =>
    intro j ys hj _ _
    obtain rfl : j = n := by omega
    refine ⟨1, fun k => ?_⟩
    rw [aIterK, M23_13a, dltf, aIf_false, show vbM (rV xs i) j j 0 = [] from rfl, List.append_nil, Nat.add_zero]
  | succ d ih =>
    intro j ys hj hy hz
    obtain ⟨he, _, v0, v1⟩ := runs_get hr i hi
    obtain ⟨m, hm⟩ := ih (j + 1) (ys ++ [.int .u64 (vbit (rV xs i) n j)]) (by omega) (by simp) (by rw [List.length_append]; simp; omega)
    have h2 : 0 ≤ rV xs i / 2 ^ (n - 1 - j) := Int.ediv_nonneg v0 (Int.le_of_lt (Int.pow_pos (by decide)))
    have e3 : min (n - 1 - j) 64 = n - 1 - j := by omega
    have e7 : max ys.length (ys.length + 1) = ys.length + 1 := by omega
    refine ⟨m + 1, fun k => ?_⟩
    have hk := hm k
    simp only [List.length_append, List.length_cons, List.length_nil, Nat.zero_add, List.append_assoc] at hk
    rw [aIterK, M23_13a]
    simp only [dlt (show j < n by omega), Bool.not_false, dnn', decide_eq_true (show (i : Int) < (xs.length : Int) by omega), Int.toNat_natCast, he, AV.cells, List.length_cons, List.length_nil, Nat.reduceAdd, List.getD_cons_zero, List.getD_cons_succ, isInt_self, beq_self_eq_true, aIf_true, sh_n1 (show j < n by omega) (show n < 9223372036854775808 by omega), dnn, aIf_false, e3, AV.toInt, shr_eq, Int.tmod_eq_emod_of_nonneg h2, i64s (show j + 1 < 9223372036854775808 by omega),
      show (ys.length == 0) = false from beq_eq_false_iff_ne.2 (by omega), Nat.ble_eq_true_of_le (show (ys.length + 1) * 8 ≤ 140737488355328 by omega), Nat.mul_one, e7, List.take_length, List.drop_of_length_le (show ys.length ≤ ys.length + 1 by omega), List.append_nil]
    rw [show ys.length + (d + 1) = ys.length + 1 + d by omega, vbM_succ]
    exact hk
theorem L23_13_ok : LoopSum C23 (loopB Try.f23 1) L23_13 := LoopSum.of C23_ok L23_13_in (fun ts H => by
  unfold L23_13
  split
  · rename_i xs fl m ver len i n j w ys
    rcases Bool.eq_false_or_eq_true (catI xs i n j && rowG w ver len ys) with hp | hp
    · refine .inr ?_
      simp only [aIf_pos hp]
      rw [Bool.and_eq_true] at hp
      obtain ⟨hp, hq⟩ := hp
      obtain ⟨hr, hL, hi0, hi1, hn0, hn1, rfl⟩ := catI_of hp
      obtain ⟨rfl, rfl, rfl, hy, hz⟩ := rowG_of hq
      obtain ⟨i, rfl⟩ := Int.eq_ofNat_of_zero_le hi0
      obtain ⟨n, rfl⟩ := Int.eq_ofNat_of_zero_le hn0
      cases m
      · obtain ⟨m, hm⟩ := M23m (fl := fl) (n := n) hr (i := i) (by omega) (by omega) n 0 ys (by omega) hy (by omega)
        refine ⟨m, fun k => ?_⟩
        rw [aIf_neg rfl, Int.toNat_natCast, Int.toNat_natCast, ← vbM_zero]
        exact (hm k).symm
      · refine ⟨1, fun k => ?_⟩
        rw [aIf_pos rfl, aIterK, M23_13a]
        rcases Bool.eq_false_or_eq_true (decide (0 < (n : Int))) with h | h
        · rw [aIf_pos h]; rfl
        · rw [aIf_neg h]
    · exact .inl fun k => by rw [aIf_neg hp]
  · rename_i xs fl m i n j
    rcases Bool.eq_false_or_eq_true (catI xs i n j) with hp | hp
    · refine .inr ?_
      simp only [aIf_pos hp]
      obtain ⟨hr, hL, hi0, hi1, hn0, hn1, rfl⟩ := catI_of hp
      obtain ⟨i, rfl⟩ := Int.eq_ofNat_of_zero_le hi0
      obtain ⟨n, rfl⟩ := Int.eq_ofNat_of_zero_le hn0
      cases m
      · simp only [aIf_false]
        by_cases h0 : n = 0
        · subst h0
          refine ⟨1, fun k => ?_⟩
          rw [aIf_pos (b := ((0 : Nat) : Int) == 0) rfl, aIterK, M23_13b]
          exact (aIf_neg (decide_eq_false (by omega))).symm
        · obtain ⟨he, _, v0, v1⟩ := runs_get hr i (by omega)
          obtain ⟨m, hm⟩ := M23m (fl := fl) (n := n) hr (i := i) (by omega) (by omega) (n - 1) 1 [.int .u64 (vbit (rV xs i) n 0)] (by omega) (Nat.le_refl _) (by simp)
          have h2 : 0 ≤ rV xs i / 2 ^ (n - 1 - 0) := Int.ediv_nonneg v0 (Int.le_of_lt (Int.pow_pos (by decide)))
          have e3 : min (n - 1 - 0) 64 = n - 1 - 0 := by omega
          have e5 : IntKind.i64.wrap ((0 : Int) + 1) = 1 := rfl
          have e6 : IntKind.i64.wrap (IntKind.i64.wrap ((n : Int) - 1) - 0) = ((n - 1 - 0 : Nat) : Int) := sh_n1 (j := 0) (by omega) (by omega)
          have hc : vbL (rV xs i) n = [.int .u64 (vbit (rV xs i) n 0)] ++ vbM (rV xs i) n 1 (n - 1) := by
            obtain ⟨p, rfl⟩ : ∃ p, n = p + 1 := ⟨n - 1, by omega⟩
            exact (vbM_zero _ _).symm.trans ((vbM_succ _ _ _ _).trans rfl)
          refine ⟨m + 1, fun k => ?_⟩
          rw [aIf_neg (b := (n : Int) == 0) (by rw [beq_eq_false_iff_ne]; omega), Int.toNat_natCast, Int.toNat_natCast, aIterK, M23_13b, hc]
          have hk := hm k
          simp only [List.length_cons, List.length_nil, Nat.zero_add, show 1 + (n - 1) = n by omega] at hk
          simp only [decide_eq_true (show (0 : Int) < (n : Int) by omega), Bool.not_false, dnn', decide_eq_true (show (i : Int) < (xs.length : Int) by omega), Int.toNat_natCast, he, AV.cells, List.length_cons, List.length_nil, Nat.reduceAdd, List.getD_cons_zero, List.getD_cons_succ, isInt_self, beq_self_eq_true, aIf_true, e6, dnn, aIf_false, e3, AV.toInt, shr_eq, Int.tmod_eq_emod_of_nonneg h2, e5]
          exact hk.symm
      · refine ⟨1, fun k => ?_⟩
        rw [aIf_pos rfl, aIterK, M23_13b]
        rcases Bool.eq_false_or_eq_true (decide (0 < (n : Int))) with h | h
        · rw [aIf_pos h]; rfl
        · rw [aIf_neg h]
    · exact .inl fun k => by rw [aIf_neg hp]
  · exact .inl fun k => rfl)
theorem L23_4_in : LoopsOK C23 (loopB Try.f23 0) := LoopsOK.within 1 (by kernel_rfl) (fun j hj S hS => by
  match j, hj with
  | 0, _ =>
    have e : C23.loop (loopId ((loopsOf (loopB Try.f23 0)).getD 0 .skip)) = some L23_13 := by kernel_rfl
    rw [e] at hS; cases hS; exact (show loopB Try.f23 1 = (loopsOf (loopB Try.f23 0)).getD 0 .skip by kernel_rfl) ▸ L23_13_ok
  | n + 1, hj => omega)
theorem M23_4a (xs : List AV) (fl : SF) (m : Bool) (i : Int) (k : KC) : headedK C23 (loopB Try.f23 0) [(0, .fs 2 xs fl), (4, .bool m), (5, .fs 0 [] .nil), (6, .int .i64 i)] [] k =
  aIf (decide (i < (↑xs.length : Int)))
  (aIf (decide (0 ≤ i))
    (aIf (decide (i < (↑xs.length : Int)))
      (aIf ((xs.getD i.toNat AV.junk).cells.length == 2)
        (aIf
          (([(xs.getD i.toNat AV.junk).cells.getD 0 AV.junk, (xs.getD i.toNat AV.junk).cells.getD 1 AV.junk].getD 0
                AV.junk).isInt
            IntKind.i64)
          (aIf
            (decide
              (([(xs.getD i.toNat AV.junk).cells.getD 0 AV.junk, (xs.getD i.toNat AV.junk).cells.getD 1 AV.junk].getD 0
                    AV.junk).toInt <
                0))
            (k AExit.ret [(2, AV.fs 0 [] SF.nil), (3, AV.int IntKind.i64 30)] [])
            (aIf
              (decide
                (([(xs.getD i.toNat AV.junk).cells.getD 0 AV.junk, (xs.getD i.toNat AV.junk).cells.getD 1 AV.junk].getD
                      0 AV.junk).toInt >
                  64))
              (k AExit.ret [(2, AV.fs 0 [] SF.nil), (3, AV.int IntKind.i64 30)] [])
              (aIf (decide (0 ≤ i))
                (aIf (decide (i < (↑xs.length : Int)))
                  (aIf ((xs.getD i.toNat AV.junk).cells.length == 2)
                    (aIf (([(xs.getD i.toNat AV.junk).cells.getD 1 AV.junk].getD 0 AV.junk).isInt IntKind.u64)
                      (aIf
                        (shOK Sh.bool
                          (R58
                            [AV.int IntKind.u64 ([(xs.getD i.toNat AV.junk).cells.getD 1 AV.junk].getD 0 AV.junk).toInt,
                              AV.int IntKind.i64
                                ([(xs.getD i.toNat AV.junk).cells.getD 0 AV.junk,
                                        (xs.getD i.toNat AV.junk).cells.getD 1 AV.junk].getD
                                    0 AV.junk).toInt]))
                        (aIf
                          (!(sel
                                (R58
                                  [AV.int IntKind.u64
                                      ([(xs.getD i.toNat AV.junk).cells.getD 1 AV.junk].getD 0 AV.junk).toInt,
                                    AV.int IntKind.i64
                                      ([(xs.getD i.toNat AV.junk).cells.getD 0 AV.junk,
                                              (xs.getD i.toNat AV.junk).cells.getD 1 AV.junk].getD
                                          0 AV.junk).toInt])
                                []).toBool)
                          (k AExit.ret [(2, AV.fs 0 [] SF.nil), (3, AV.int IntKind.i64 1)] [])
                          (aIf m
                            (aIf
                              (Pl.catI xs i
                                ([(xs.getD i.toNat AV.junk).cells.getD 0 AV.junk,
                                        (xs.getD i.toNat AV.junk).cells.getD 1 AV.junk].getD
                                    0 AV.junk).toInt
                                0)
                              (k AExit.normal
                                [(0, AV.fs 2 xs fl), (4, AV.bool true), (5, AV.fs 0 [] SF.nil),
                                  (6, AV.int IntKind.i64 (IntKind.i64.wrap (i + 1)))]
                                [])
                              none)
                            (aIf
                              (Pl.catI xs i
                                ([(xs.getD i.toNat AV.junk).cells.getD 0 AV.junk,
                                        (xs.getD i.toNat AV.junk).cells.getD 1 AV.junk].getD
                                    0 AV.junk).toInt
                                0)
                              (aIf
                                (decide
                                  (IntKind.i64.wrap
                                      (0 +
                                        ([(xs.getD i.toNat AV.junk).cells.getD 0 AV.junk,
                                                (xs.getD i.toNat AV.junk).cells.getD 1 AV.junk].getD
                                            0 AV.junk).toInt) >
                                    65536))
                                (k AExit.normal
                                  [(0, AV.fs 2 xs fl),
                                    (4,
                                      AV.bool
                                        (decide
                                          (IntKind.i64.wrap
                                              (0 +
                                                ([(xs.getD i.toNat AV.junk).cells.getD 0 AV.junk,
                                                        (xs.getD i.toNat AV.junk).cells.getD 1 AV.junk].getD
                                                    0 AV.junk).toInt) >
                                            65536))),
                                    (5, AV.fs 0 [] SF.nil), (6, AV.int IntKind.i64 (IntKind.i64.wrap (i + 1)))]
                                  [])
                                (aIf
                                  (([(xs.getD i.toNat AV.junk).cells.getD 0 AV.junk,
                                            (xs.getD i.toNat AV.junk).cells.getD 1 AV.junk].getD
                                        0 AV.junk).toInt ==
                                    0)
                                  (k AExit.normal
                                    [(0, AV.fs 2 xs fl),
                                      (4,
                                        AV.bool
                                          (decide
                                            (IntKind.i64.wrap
                                                (0 +
                                                  ([(xs.getD i.toNat AV.junk).cells.getD 0 AV.junk,
                                                          (xs.getD i.toNat AV.junk).cells.getD 1 AV.junk].getD
                                                      0 AV.junk).toInt) >
                                              65536))),
                                      (5, AV.fs 0 [] SF.nil), (6, AV.int IntKind.i64 (IntKind.i64.wrap (i + 1)))]
                                    [])
                                  (k AExit.normal
                                    [(0, AV.fs 2 xs fl),
                                      (4,
                                        AV.bool
                                          (decide
                                            (IntKind.i64.wrap
                                                (0 +
                                                  ([(xs.getD i.toNat AV.junk).cells.getD 0 AV.junk,
                                                          (xs.getD i.toNat AV.junk).cells.getD 1 AV.junk].getD
                                                      0 AV.junk).toInt) >
                                              65536))),
                                      (5,
                                        AV.sl 0
                                          ([(xs.getD i.toNat AV.junk).cells.getD 0 AV.junk,
                                                    (xs.getD i.toNat AV.junk).cells.getD 1 AV.junk].getD
                                                0 AV.junk).toInt.toNat
                                          0
                                          ([(xs.getD i.toNat AV.junk).cells.getD 0 AV.junk,
                                                    (xs.getD i.toNat AV.junk).cells.getD 1 AV.junk].getD
                                                0 AV.junk).toInt.toNat
                                          1),
                                      (6, AV.int IntKind.i64 (IntKind.i64.wrap (i + 1)))]
                                    [AO.cells
                                        ([(xs.getD i.toNat AV.junk).cells.getD 0 AV.junk,
                                                  (xs.getD i.toNat AV.junk).cells.getD 1 AV.junk].getD
                                              0 AV.junk).toInt.toNat
                                        (Pl.vbL (Pl.rV xs i.toNat)
                                          ([(xs.getD i.toNat AV.junk).cells.getD 0 AV.junk,
                                                    (xs.getD i.toNat AV.junk).cells.getD 1 AV.junk].getD
                                                0 AV.junk).toInt.toNat)])))
                              none)))
                        none)
                      none)
                    none)
                  none)
                none)))
          none)
        none)
      none)
    none)
  (k (AExit.exit 0)
    [(0, AV.fs 2 xs fl), (4, AV.bool m), (5, AV.fs 0 [] SF.nil), (6, AV.int IntKind.i64 i),
      (12, AV.bool (decide (i < (↑xs.length : Int))))]
    []) := by kernel_rfl
theorem M23_4r (xs : List AV) (fl : SF) (m : Bool) (ver len : Nat) (i : Int) (w : Nat) (ys : List AV) (k : KC) : headedK C23 (loopB Try.f23 0) [(0, .fs 2 xs fl), (4, .bool m), (5, .sl 0 ver 0 len 1), (6, .int .i64 i)] [.cells w ys] k =
  aIf (decide (i < (↑xs.length : Int)))
  (aIf (decide (0 ≤ i))
    (aIf (decide (i < (↑xs.length : Int)))
      (aIf ((xs.getD i.toNat AV.junk).cells.length == 2)
        (aIf
          (([(xs.getD i.toNat AV.junk).cells.getD 0 AV.junk, (xs.getD i.toNat AV.junk).cells.getD 1 AV.junk].getD 0
                AV.junk).isInt
            IntKind.i64)
          (aIf
            (decide
              (([(xs.getD i.toNat AV.junk).cells.getD 0 AV.junk, (xs.getD i.toNat AV.junk).cells.getD 1 AV.junk].getD 0
                    AV.junk).toInt <
                0))
            (k AExit.ret [(2, AV.fs 0 [] SF.nil), (3, AV.int IntKind.i64 30)] [AO.cells w ys])
            (aIf
              (decide
                (([(xs.getD i.toNat AV.junk).cells.getD 0 AV.junk, (xs.getD i.toNat AV.junk).cells.getD 1 AV.junk].getD
                      0 AV.junk).toInt >
                  64))
              (k AExit.ret [(2, AV.fs 0 [] SF.nil), (3, AV.int IntKind.i64 30)] [AO.cells w ys])
              (aIf (decide (0 ≤ i))
                (aIf (decide (i < (↑xs.length : Int)))
                  (aIf ((xs.getD i.toNat AV.junk).cells.length == 2)
                    (aIf (([(xs.getD i.toNat AV.junk).cells.getD 1 AV.junk].getD 0 AV.junk).isInt IntKind.u64)
                      (aIf
                        (shOK Sh.bool
                          (R58
                            [AV.int IntKind.u64 ([(xs.getD i.toNat AV.junk).cells.getD 1 AV.junk].getD 0 AV.junk).toInt,
                              AV.int IntKind.i64
                                ([(xs.getD i.toNat AV.junk).cells.getD 0 AV.junk,
                                        (xs.getD i.toNat AV.junk).cells.getD 1 AV.junk].getD
                                    0 AV.junk).toInt]))
                        (aIf
                          (!(sel
                                (R58
                                  [AV.int IntKind.u64
                                      ([(xs.getD i.toNat AV.junk).cells.getD 1 AV.junk].getD 0 AV.junk).toInt,
                                    AV.int IntKind.i64
                                      ([(xs.getD i.toNat AV.junk).cells.getD 0 AV.junk,
                                              (xs.getD i.toNat AV.junk).cells.getD 1 AV.junk].getD
                                          0 AV.junk).toInt])
                                []).toBool)
                          (k AExit.ret [(2, AV.fs 0 [] SF.nil), (3, AV.int IntKind.i64 1)] [AO.cells w ys])
                          (aIf m
                            (aIf
                              (Pl.catI xs i
                                  ([(xs.getD i.toNat AV.junk).cells.getD 0 AV.junk,
                                          (xs.getD i.toNat AV.junk).cells.getD 1 AV.junk].getD
                                      0 AV.junk).toInt
                                  0 &&
                                Pl.rowG w ver len ys)
                              (k AExit.normal
                                [(0, AV.fs 2 xs fl), (4, AV.bool true), (5, AV.sl 0 ver 0 len 1),
                                  (6, AV.int IntKind.i64 (IntKind.i64.wrap (i + 1)))]
                                [AO.cells w ys])
                              none)
                            (aIf
                              (Pl.catI xs i
                                  ([(xs.getD i.toNat AV.junk).cells.getD 0 AV.junk,
                                          (xs.getD i.toNat AV.junk).cells.getD 1 AV.junk].getD
                                      0 AV.junk).toInt
                                  0 &&
                                Pl.rowG w ver len ys)
                              (aIf
                                (decide
                                  (IntKind.i64.wrap
                                      ((↑len : Int) +
                                        ([(xs.getD i.toNat AV.junk).cells.getD 0 AV.junk,
                                                (xs.getD i.toNat AV.junk).cells.getD 1 AV.junk].getD
                                            0 AV.junk).toInt) >
                                    65536))
                                (k AExit.normal
                                  [(0, AV.fs 2 xs fl),
                                    (4,
                                      AV.bool
                                        (decide
                                          (IntKind.i64.wrap
                                              ((↑len : Int) +
                                                ([(xs.getD i.toNat AV.junk).cells.getD 0 AV.junk,
                                                        (xs.getD i.toNat AV.junk).cells.getD 1 AV.junk].getD
                                                    0 AV.junk).toInt) >
                                            65536))),
                                    (5, AV.sl 0 ver 0 len 1), (6, AV.int IntKind.i64 (IntKind.i64.wrap (i + 1)))]
                                  [AO.cells w ys])
                                (k AExit.normal
                                  [(0, AV.fs 2 xs fl),
                                    (4,
                                      AV.bool
                                        (decide
                                          (IntKind.i64.wrap
                                              ((↑len : Int) +
                                                ([(xs.getD i.toNat AV.junk).cells.getD 0 AV.junk,
                                                        (xs.getD i.toNat AV.junk).cells.getD 1 AV.junk].getD
                                                    0 AV.junk).toInt) >
                                            65536))),
                                    (5,
                                      AV.sl 0
                                        (len +
                                          ([(xs.getD i.toNat AV.junk).cells.getD 0 AV.junk,
                                                    (xs.getD i.toNat AV.junk).cells.getD 1 AV.junk].getD
                                                0 AV.junk).toInt.toNat)
                                        0
                                        (len +
                                          ([(xs.getD i.toNat AV.junk).cells.getD 0 AV.junk,
                                                    (xs.getD i.toNat AV.junk).cells.getD 1 AV.junk].getD
                                                0 AV.junk).toInt.toNat)
                                        1),
                                    (6, AV.int IntKind.i64 (IntKind.i64.wrap (i + 1)))]
                                  [AO.cells
                                      (len +
                                        ([(xs.getD i.toNat AV.junk).cells.getD 0 AV.junk,
                                                  (xs.getD i.toNat AV.junk).cells.getD 1 AV.junk].getD
                                              0 AV.junk).toInt.toNat)
                                      (ys ++
                                        Pl.vbL (Pl.rV xs i.toNat)
                                          ([(xs.getD i.toNat AV.junk).cells.getD 0 AV.junk,
                                                    (xs.getD i.toNat AV.junk).cells.getD 1 AV.junk].getD
                                                0 AV.junk).toInt.toNat)]))
                              none)))
                        none)
                      none)
                    none)
                  none)
                none)))
          none)
        none)
      none)
    none)
  (k (AExit.exit 0)
    [(0, AV.fs 2 xs fl), (4, AV.bool m), (5, AV.sl 0 ver 0 len 1), (6, AV.int IntKind.i64 i),
      (12, AV.bool (decide (i < (↑xs.length : Int))))]
    [AO.cells w ys]) := by kernel_rfl
def S23s (xs : List AV) (fl : SF) (m : Bool) (bs : List AV) (j : Nat) : ATs := [(0, .fs 2 xs fl), (4, .bool m), (5, bif bs.isEmpty then .fs 0 [] .nil else .sl 0 bs.length 0 bs.length 1), (6, .int .i64 (j : Int))]
def H23s (bs : List AV) : AH := bif bs.isEmpty then [] else [.cells bs.length bs]
theorem S23s_row {xs : List AV} {fl : SF} {m : Bool} {bs : List AV} {j : Nat} (h : bs.isEmpty = false) : S23s xs fl m bs j = [(0, .fs 2 xs fl), (4, .bool m), (5, .sl 0 bs.length 0 bs.length 1), (6, .int .i64 (j : Int))] := by unfold S23s; rw [h]; rfl
theorem H23s_row {bs : List AV} (h : bs.isEmpty = false) : H23s bs = [.cells bs.length bs] := by unfold H23s; rw [h]; rfl
theorem M23bad {xs : List AV} {fl : SF} {m : Bool} {bs : List AV} {j : Nat} (hr : runsB xs = true) (hjl : j < xs.length) (hb : (badE xs 1 j == 0) = false) (k : KC) :
    headedK C23 (loopB Try.f23 0) (S23s xs fl m bs j) (H23s bs) k = k .ret [(2, .fs 0 [] .nil), (3, .int .i64 (badE xs 1 j))] (H23s bs) := by
  obtain ⟨he, ⟨n0, n1⟩, v0, v1⟩ := runs_get hr j hjl
  simp only [badE] at hb ⊢
  have go : ∀ H : AH, (H = H23s bs → aIf (decide (rN xs j < 0)) (k .ret [(2, .fs 0 [] .nil), (3, .int .i64 30)] H) (aIf (decide (rN xs j > 64)) (k .ret [(2, .fs 0 [] .nil), (3, .int .i64 30)] H) (k .ret [(2, .fs 0 [] .nil), (3, .int .i64 1)] H)) =
      k .ret [(2, .fs 0 [] .nil), (3, .int .i64 (bif decide (rN xs j < 0) || decide (rN xs j > 64) then 30 else bif fitB (rV xs j) (rN xs j) then 0 else 1))] (H23s bs)) := by
    intro H hH
    rw [hH]
    cases h1 : decide (rN xs j < 0)
    · cases h2 : decide (rN xs j > 64)
      · rw [h1, h2] at hb
        cases h3 : fitB (rV xs j) (rN xs j)
        · rfl
        · rw [h3] at hb; exact absurd hb (by decide)
      · rfl
    · rfl
  have hw : (decide (rN xs j < 0) = false) → (decide (rN xs j > 64) = false) → R58 [.int .u64 (rV xs j), .int .i64 (rN xs j)] = some (.ret (.bool false), []) := by
    intro h1 h2
    have hw := R58_is (v := rV xs j) (n := rN xs j) (by have := of_decide_eq_false h1; have := of_decide_eq_false h2; omega)
    rw [h1, h2] at hb
    cases h3 : fitB (rV xs j) (rN xs j)
    · rw [hw, h3]
    · rw [h3] at hb; exact absurd hb (by decide)
  cases hbs : bs.isEmpty
  · rw [S23s_row hbs, H23s_row hbs, M23_4r, ← H23s_row hbs, ← go (H23s bs) rfl]
    simp only [Int.toNat_natCast, he, AV.cells, List.length_cons, List.length_nil, List.getD_cons_zero, List.getD_cons_succ, Nat.reduceAdd, isInt_self, AV.toInt, beq_self_eq_true, dlt hjl, dnn', aIf_true, H23s_row hbs]
    cases h1 : decide (rN xs j < 0)
    · cases h2 : decide (rN xs j > 64)
      · rw [hw h1 h2]; rfl
      · rfl
    · rfl
  · obtain rfl : bs = [] := List.isEmpty_iff.1 hbs
    rw [← go (H23s []) rfl]
    show headedK C23 (loopB Try.f23 0) [(0, .fs 2 xs fl), (4, .bool m), (5, .fs 0 [] .nil), (6, .int .i64 (j : Int))] [] k = _
    rw [M23_4a]
    simp only [Int.toNat_natCast, he, AV.cells, List.length_cons, List.length_nil, List.getD_cons_zero, List.getD_cons_succ, Nat.reduceAdd, isInt_self, AV.toInt, beq_self_eq_true, dlt hjl, dnn', aIf_true]
    cases h1 : decide (rN xs j < 0)
    · cases h2 : decide (rN xs j > 64)
      · rw [hw h1 h2]; rfl
      · rfl
    · rfl
theorem M23ok {xs : List AV} {fl : SF} {m : Bool} {bs : List AV} {j : Nat} (hr : runsB xs = true) (hL : xs.length ≤ 1200) (hjl : j < xs.length) (hb : badE xs 1 j = 0) (hz : bs.length ≤ 65536) (k : KC) :
    headedK C23 (loopB Try.f23 0) (S23s xs fl m bs j) (H23s bs) k = k .normal (S23s xs fl (m || !(Nat.ble (bs.length + (rN xs j).toNat) 65536)) (bif m || !(Nat.ble (bs.length + (rN xs j).toNat) 65536) then bs else bs ++ vbL (rV xs j) (rN xs j).toNat) (j + 1))
      (H23s (bif m || !(Nat.ble (bs.length + (rN xs j).toNat) 65536) then bs else bs ++ vbL (rV xs j) (rN xs j).toNat)) := by
  obtain ⟨he, ⟨n0, n1⟩, v0, v1⟩ := runs_get hr j hjl
  obtain ⟨b0, b1, b2⟩ := badE_ok hb j (by omega) (by omega)
  have hw := R58_is (v := rV xs j) (n := rN xs j) (by omega)
  rw [b2] at hw
  have hI := catI_ok (xs := xs) (i := (j : Int)) (n := rN xs j) hr hL (by omega) (by omega) b0 b1
  have e0 : ∀ l : Nat, l ≤ 65536 → decide (IntKind.i64.wrap ((l : Int) + rN xs j) > 65536) = !(Nat.ble (l + (rN xs j).toNat) 65536) := by
    intro l hl
    rw [show (l : Int) + rN xs j = ((l + (rN xs j).toNat : Nat) : Int) by omega, i64n (by omega)]
    cases hh : Nat.ble (l + (rN xs j).toNat) 65536
    · have : ¬ l + (rN xs j).toNat ≤ 65536 := fun h => by rw [Nat.ble_eq_true_of_le h] at hh; cases hh
      exact decide_eq_true (by omega)
    · have := Nat.le_of_ble_eq_true hh
      exact decide_eq_false (by omega)
  have e1 : IntKind.i64.wrap ((j : Int) + 1) = ((j + 1 : Nat) : Int) := i64s (by omega)
  have sb : sel (some (AEnd.ret (AV.bool true), [])) [] = .bool true := rfl
  cases hbs : bs.isEmpty
  · have h1 : 1 ≤ bs.length := by cases bs with
      | nil => cases hbs
      | cons => simp
    have hg := rowG_ok h1 hz
    have hap : (bs ++ vbL (rV xs j) (rN xs j).toNat).isEmpty = false := by cases bs with
      | nil => cases hbs
      | cons => rfl
    rw [S23s_row hbs, H23s_row hbs, M23_4r]
    simp only [Int.toNat_natCast, he, AV.cells, List.length_cons, List.length_nil, List.getD_cons_zero, List.getD_cons_succ, Nat.reduceAdd, isInt_self, AV.toInt, beq_self_eq_true, dlt hjl, dnn', aIf_true, decide_eq_false (show ¬ rN xs j < 0 by omega), decide_eq_false (show ¬ rN xs j > 64 by omega), aIf_false, hw, shOK_ret, has_bool, sb, AV.toBool, Bool.not_true, hI, hg, Bool.and_self, e0 _ hz, e1]
    cases m
    · cases hm : Nat.ble (bs.length + (rN xs j).toNat) 65536
      · simp only [Bool.not_false, Bool.or_true, cond_true, aIf_true, aIf_false]
        rw [S23s_row hbs, H23s_row hbs]
      · simp only [Bool.not_true, Bool.or_false, cond_false, aIf_false]
        rw [S23s_row hap, H23s_row hap, List.length_append, vbL_length]
    · simp only [Bool.true_or, cond_true, aIf_true]
      rw [S23s_row hbs, H23s_row hbs]
  · obtain rfl : bs = [] := List.isEmpty_iff.1 hbs
    show headedK C23 (loopB Try.f23 0) [(0, .fs 2 xs fl), (4, .bool m), (5, .fs 0 [] .nil), (6, .int .i64 (j : Int))] [] k = _
    have e2 : decide (IntKind.i64.wrap (0 + rN xs j) > 65536) = false := (e0 0 (by omega)).trans (by rw [Nat.ble_eq_true_of_le (by omega)]; rfl)
    have e3 : Nat.ble (([] : List AV).length + (rN xs j).toNat) 65536 = true := Nat.ble_eq_true_of_le (by simp; omega)
    rw [M23_4a, e3]
    simp only [Int.toNat_natCast, he, AV.cells, List.length_cons, List.length_nil, List.getD_cons_zero, List.getD_cons_succ, Nat.reduceAdd, isInt_self, AV.toInt, beq_self_eq_true, dlt hjl, dnn', aIf_true, decide_eq_false (show ¬ rN xs j < 0 by omega), decide_eq_false (show ¬ rN xs j > 64 by omega), aIf_false, hw, shOK_ret, has_bool, sb, AV.toBool, Bool.not_true, hI, e2, e1]
    cases m
    · simp only [Bool.false_or, cond_false, aIf_false, List.nil_append]
      by_cases h0 : rN xs j = 0
      · rw [h0]; rfl
      · have hv : (vbL (rV xs j) (rN xs j).toNat).isEmpty = false := by
          cases hc : vbL (rV xs j) (rN xs j).toNat with
          | nil =>
            have := congrArg List.length hc
            rw [vbL_length, List.length_nil] at this
            omega
          | cons => rfl
        rw [aIf_neg (beq_eq_false_iff_ne.2 h0), S23s_row hv, H23s_row hv, vbL_length]
    · simp only [Bool.true_or, cond_true, aIf_true]
      rfl
theorem outF_step (xs : List AV) (j : Nat) : (manyB xs j || !(Nat.ble ((outF xs j).length + (rN xs j).toNat) 65536)) = manyB xs (j + 1) ∧
    (bif manyB xs (j + 1) then outF xs j else outF xs j ++ vbL (rV xs j) (rN xs j).toNat) = outF xs (j + 1) := by
  have hm := sumR_mono (xs := xs) (show j ≤ j + 1 by omega)
  have key : (manyB xs j || !(Nat.ble ((outF xs j).length + (rN xs j).toNat) 65536)) = manyB xs (j + 1) := by
    unfold manyB
    cases h : Nat.ble (sumR xs j) 65536
    · have h1 : Nat.ble (sumR xs (j + 1)) 65536 = false := by
        cases h2 : Nat.ble (sumR xs (j + 1)) 65536
        · rfl
        · have h3 := Nat.le_of_ble_eq_true h2
          rw [Nat.ble_eq_true_of_le (show sumR xs j ≤ 65536 by omega)] at h
          cases h
      rw [h1]; rfl
    · rw [outF_cat (Nat.le_of_ble_eq_true h), catB_length]; rfl
  refine ⟨key, ?_⟩
  unfold manyB
  simp only [outF]
  cases Nat.ble (sumR xs (j + 1)) 65536 <;> rfl
theorem L23_4_ok : LoopSum C23 (loopB Try.f23 0) L23_4 := LoopSum.of C23_ok L23_4_in (fun ts H => by
  unfold L23_4
  split
  · rename_i xs fl m i
    rcases Bool.eq_false_or_eq_true (runsB xs && decide (xs.length ≤ 1200) && i == 0 && !m) with hp | hp
    · refine .inr ?_
      simp only [aIf_pos hp]
      simp only [Bool.and_eq_true, decide_eq_true_eq, beq_iff_eq, Bool.not_eq_true'] at hp
      obtain ⟨⟨⟨hr, hL⟩, rfl⟩, rfl⟩ := hp
      have main : ∀ d j : Nat, j + d = xs.length → badE xs xs.length 0 = badE xs d j → stopI xs xs.length 0 = stopI xs d j → ∃ m, ∀ k, aIterK m (headedK C23 (loopB Try.f23 0)) (S23s xs fl (manyB xs j) (outF xs j) j) (H23s (outF xs j)) k =
          aIf (badE xs xs.length 0 == 0) (aIf (outF xs xs.length).isEmpty (k (.exit 0) [(0, .fs 2 xs fl), (4, .bool (manyB xs xs.length)), (5, .fs 0 [] .nil), (6, .int .i64 (xs.length : Int)), (12, .bool false)] []) (k (.exit 0) [(0, .fs 2 xs fl), (4, .bool (manyB xs xs.length)), (5, .sl 0 (outF xs xs.length).length 0 (outF xs xs.length).length 1), (6, .int .i64 (xs.length : Int)), (12, .bool false)] [.cells (outF xs xs.length).length (outF xs xs.length)])) (aIf (outF xs (stopI xs xs.length 0)).isEmpty (k .ret [(2, .fs 0 [] .nil), (3, .int .i64 (badE xs xs.length 0))] []) (k .ret [(2, .fs 0 [] .nil), (3, .int .i64 (badE xs xs.length 0))] [.cells (outF xs (stopI xs xs.length 0)).length (outF xs (stopI xs xs.length 0))])) := by
        intro d
        induction d with
        | zero =>
          intro j hj hb _
          obtain rfl : j = xs.length := by omega
          refine ⟨1, fun k => ?_⟩
          have h0 : (badE xs xs.length 0 == 0) = true := by rw [hb]; rfl
          rw [aIf_pos h0, aIterK]
          cases hbs : (outF xs xs.length).isEmpty
          · rw [S23s_row hbs, H23s_row hbs, M23_4r, dltf]; rfl
          · have hbs' := List.isEmpty_iff.1 hbs
            rw [hbs']
            show headedK C23 (loopB Try.f23 0) [(0, .fs 2 xs fl), (4, .bool (manyB xs xs.length)), (5, .fs 0 [] .nil), (6, .int .i64 (xs.length : Int))] [] _ = _
            rw [M23_4a, dltf]; rfl
        | succ d ih =>
          intro j hj hb hs
          have hjl : j < xs.length := by omega
          rw [badE_one] at hb
          simp only [stopI] at hs
          cases h1 : badE xs 1 j == 0
          · rw [h1, cond_false] at hb hs
            refine ⟨1, fun k => ?_⟩
            rw [aIterK, M23bad hr hjl h1, hs, hb, h1, aIf_false]
            cases hbs : (outF xs j).isEmpty
            · rw [H23s_row hbs]; rfl
            · rw [List.isEmpty_iff.1 hbs]; rfl
          · rw [h1, cond_true] at hb hs
            have hb1 : badE xs 1 j = 0 := by simpa using h1
            obtain ⟨m, hm⟩ := ih (j + 1) (by omega) hb hs
            refine ⟨m + 1, fun k => ?_⟩
            obtain ⟨o1, o2⟩ := outF_step xs j
            rw [aIterK, M23ok hr hL hjl hb1 (outF_le xs j), o1, o2]
            exact hm k
      exact (main xs.length 0 (by omega) rfl rfl).imp fun m hm k => (hm k).symm
    · exact .inl fun k => by rw [aIf_neg hp]
  · exact .inl fun k => rfl)
theorem C23_loops : ∀ c, Try.f23.body = some c → LoopsOK C23 c := LoopsOK.of 2 (by kernel_rfl) (fun j hj S hS => by
  match j, hj with
  | 0, _ => rw [C23_l0] at hS; cases hS; exact L23_4_ok
  | 1, _ => rw [C23_l1] at hS; cases hS; exact L23_13_ok
  | n + 2, hj => omega)
noncomputable def S23 : FSpec := inlineK C23 Try.f23
theorem S23_ok : SpecOK Try.prog 23 S23 := inlineK_ok C23_ok Try.func23 C23_loops
theorem En23 : Enters Try.prog 23 := ⟨_, Try.func23, by decide, rfl⟩
noncomputable def R23 (args : List AV) : Res := S23 args [] encK
noncomputable def V23 : FSpec := leafK (.tup [.ints .u8, .int .i64]) R23
theorem V23_ok : SpecOK Try.prog 23 V23 := leafK_ok S23_ok (fun _ => rfl)
theorem N23 (xs : List AV) (fl : SF) : S23 [.fs 2 xs fl] [] encK =
  aIf (Pl.runsB xs && decide (xs.length ≤ 1200) && true && true)
  (aIf (Pl.badE xs xs.length 0 == 0)
    (aIf (Pl.outF xs xs.length).isEmpty
      (aIf (Pl.manyB xs xs.length) (some (AEnd.ret (AV.tup [AV.fs 1 [] SF.nil, AV.int IntKind.i64 3]), []))
        (some (AEnd.ret (AV.tup [AV.fs 1 [] SF.zc, AV.int IntKind.i64 0]), [])))
      (aIf (Pl.manyB xs xs.length) (some (AEnd.ret (AV.tup [AV.fs 1 [] SF.nil, AV.int IntKind.i64 3]), []))
        (aIf (decide (0 ≤ IntKind.i64.wrap ((IntKind.i64.wrap ((↑(Pl.outF xs xs.length).length : Int) + 7)).tdiv 8)))
          (aIf
            (decide
              (IntKind.i64.wrap ((IntKind.i64.wrap ((↑(Pl.outF xs xs.length).length : Int) + 7)).tdiv 8) ≤
                IntKind.i64.wrap ((IntKind.i64.wrap ((↑(Pl.outF xs xs.length).length : Int) + 7)).tdiv 8)))
            (aIf
              (decide
                (IntKind.i64.wrap ((IntKind.i64.wrap ((↑(Pl.outF xs xs.length).length : Int) + 7)).tdiv 8) * 1 ≤
                  281474976710656))
              (aIf
                (decide
                  (IntKind.i64.wrap ((IntKind.i64.wrap ((↑(Pl.outF xs xs.length).length : Int) + 7)).tdiv 8) ≤
                    281474976710656))
                (aIf (IntKind.i64.wrap ((IntKind.i64.wrap ((↑(Pl.outF xs xs.length).length : Int) + 7)).tdiv 8) == 0)
                  none
                  (aIf
                    (Pl.packG (Pl.outF xs xs.length).length (Pl.outF xs xs.length).length (Pl.outF xs xs.length).length
                      ((IntKind.i64.wrap
                            ((IntKind.i64.wrap ((↑(Pl.outF xs xs.length).length : Int) + 7)).tdiv 8)).toNat *
                        1)
                      ((IntKind.i64.wrap
                            ((IntKind.i64.wrap ((↑(Pl.outF xs xs.length).length : Int) + 7)).tdiv 8)).toNat *
                        1)
                      (IntKind.i64.wrap ((IntKind.i64.wrap ((↑(Pl.outF xs xs.length).length : Int) + 7)).tdiv 8)).toNat
                      (Pl.outF xs xs.length)
                      (List.replicate
                          (IntKind.i64.wrap
                              ((IntKind.i64.wrap ((↑(Pl.outF xs xs.length).length : Int) + 7)).tdiv 8)).toNat
                          [AV.int IntKind.u8 0]).flatten
                      0)
                    (aIf
                      ((IntKind.i64.wrap
                              ((IntKind.i64.wrap ((↑(Pl.outF xs xs.length).length : Int) + 7)).tdiv 8)).toNat *
                          1 ==
                        (IntKind.i64.wrap
                              ((IntKind.i64.wrap ((↑(Pl.outF xs xs.length).length : Int) + 7)).tdiv 8)).toNat *
                          1)
                      (aIf
                        (decide
                          (0 +
                              (IntKind.i64.wrap
                                    ((IntKind.i64.wrap ((↑(Pl.outF xs xs.length).length : Int) + 7)).tdiv 8)).toNat *
                                1 ≤
                            (Pl.packL (Pl.outF xs xs.length)).length))
                        (aIf
                          (flatL
                            (List.take
                              ((IntKind.i64.wrap
                                    ((IntKind.i64.wrap ((↑(Pl.outF xs xs.length).length : Int) + 7)).tdiv 8)).toNat *
                                1)
                              (List.drop 0 (Pl.packL (Pl.outF xs xs.length)))))
                          (some
                            (AEnd.ret
                                (AV.tup
                                  [AV.fs 1
                                      (List.take
                                        (IntKind.i64.wrap
                                            ((IntKind.i64.wrap ((↑(Pl.outF xs xs.length).length : Int) + 7)).tdiv
                                              8)).toNat
                                        (List.drop 0 (Pl.packL (Pl.outF xs xs.length))))
                                      SF.any,
                                    AV.int IntKind.i64 0]),
                              []))
                          none)
                        none)
                      none)
                    none))
                none)
              none)
            none)
          none)))
    (aIf (Pl.outF xs (Pl.stopI xs xs.length 0)).isEmpty
      (some (AEnd.ret (AV.tup [AV.fs 1 [] SF.nil, AV.int IntKind.i64 (Pl.badE xs xs.length 0)]), []))
      (some (AEnd.ret (AV.tup [AV.fs 1 [] SF.nil, AV.int IntKind.i64 (Pl.badE xs xs.length 0)]), []))))
  none := by kernel_rfl
theorem R23_is {xs : List AV} {fl : SF} (hr : runsB xs = true) (hL : xs.length ≤ 1200) : ∃ fl', R23 [.fs 2 xs fl] = some (.ret (.tup [.fs 1 (catX xs) fl', .int .i64 (catE xs)]), []) := by
  show ∃ fl', S23 _ [] encK = _
  unfold catX catE
  rw [N23, hr, decide_eq_true hL]
  cases hb : badE xs xs.length 0 == 0
  · cases (outF xs (stopI xs xs.length 0)).isEmpty <;> exact ⟨.nil, rfl⟩
  simp only [cond_true, Bool.and_self, aIf_true]
  cases hs : Nat.ble (sumR xs xs.length) 65536
  · have hm : manyB xs xs.length = true := by unfold manyB; rw [hs]; rfl
    rw [hm]
    cases (outF xs xs.length).isEmpty <;> exact ⟨.nil, rfl⟩
  have hs' := Nat.le_of_ble_eq_true hs
  have hm : manyB xs xs.length = false := by unfold manyB; rw [hs]; rfl
  rw [hm, outF_cat hs']
  cases he : (catB xs xs.length).isEmpty
  · refine ⟨.any, ?_⟩
    have hl := catB_length xs xs.length
    have h4 : sumR xs xs.length ≠ 0 := by
      intro h
      rw [h] at hl
      rw [List.eq_nil_of_length_eq_zero hl] at he
      cases he
    have hp := catP_u8 (xs := xs) (Nat.le_refl xs.length)
    have hpl := catP_length xs xs.length xs.length
    have hpk := packG_ok (w := (catB xs xs.length).length) (w2 := (sumR xs xs.length + 7) / 8) (m := (sumR xs xs.length + 7) / 8) (ys := catB xs xs.length) (by omega) (catB_bin xs xs.length) (by rw [hl])
    rw [hl] at hpk
    rw [← catP_pack, hl, bytes_len (by omega), flatten_rep, Int.toNat_natCast, Nat.mul_one, show List.replicate ((sumR xs xs.length + 7) / 8) (AV.int IntKind.u8 0) = zeros ((sumR xs xs.length + 7) / 8) from rfl, hpk, take_all hpl, ints_flat hp, hpl, beq_self_eq_true, Nat.zero_add,
      show ((((sumR xs xs.length + 7) / 8 : Nat) : Int) == 0) = false from beq_eq_false_iff_ne.2 (by omega), dnn', decide_eq_true (Int.le_refl _), decide_eq_true (show (((sumR xs xs.length + 7) / 8 : Nat) : Int) * 1 ≤ 281474976710656 by omega), decide_eq_true (show (((sumR xs xs.length + 7) / 8 : Nat) : Int) ≤ 281474976710656 by omega), decide_eq_true (Nat.le_refl _)]
    rfl
  · refine ⟨.zc, ?_⟩
    have h0 := List.isEmpty_iff.1 he
    rw [catP_pack, h0]
    rfl

/-- ferryman/ferrymanlaw03.FieldCats -/
noncomputable def T4 : List (FuncId × FSpec) := [(17, S17), (22, V22), (23, V23)]
theorem T4_ok : TabOK Try.prog T4 := TabOK.cons En17 S17_ok (TabOK.cons En22 V22_ok (TabOK.cons En23 V23_ok (TabOK.nil _)))
noncomputable def C4 : Ctx := (ctx E T4 [] [(0, [0]), (1, [0, 9]), (2, [0]), (3, [0, 3, 4]), (4, [3, 4, 5, 6]), (5, [2])] [] 35 70)
theorem C4_ok : CtxOK Try.prog C4 := ctx_ok E_ok E_flds mixed T4_ok
noncomputable def S4 : FSpec := inlineK C4 Try.f4
theorem S4_ok : SpecOK Try.prog 4 S4 := inlineK_ok C4_ok Try.func4 (fun _ _ => LoopsOK.none _)
theorem En4 : Enters Try.prog 4 := ⟨_, Try.func4, by decide, rfl⟩

end Go.Proofs.Ytkiipegoooldiaa

