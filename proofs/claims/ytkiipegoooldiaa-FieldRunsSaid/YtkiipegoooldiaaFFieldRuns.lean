import Derived.Test.YtkiipegoooldiaaA20
import Derived.Test.YtkiipegoooldiaaRows
import Derived.Test.YtkiipegoooldiaaPRuns
namespace Go.Proofs.Ytkiipegoooldiaa
open Go.Abs Go.Pl

noncomputable def E : Env := envOf Try.prog
theorem E_ok : EnvOK Try.prog E := envOf_ok _
theorem E_flds : FieldsOK E := fieldsB_ok (by kernel_rfl)
theorem mixed : Try.prog.follows .mixedOrders = true := by kernel_rfl
/-- ferryman/field.there -/
noncomputable def T52 : List (FuncId × FSpec) := []
theorem T52_ok : TabOK Try.prog T52 := TabOK.nil _
noncomputable def C52 : Ctx := (ctx E T52 [] [(0, [0, 1, 2]), (1, [6])] [] 29 70)
theorem C52_ok : CtxOK Try.prog C52 := ctx_ok E_ok E_flds mixed T52_ok
noncomputable def S52 : FSpec := inlineK C52 Try.f52
theorem S52_ok : SpecOK Try.prog 52 S52 := inlineK_ok C52_ok Try.func52 (fun _ _ => LoopsOK.none _)
theorem En52 : Enters Try.prog 52 := ⟨_, Try.func52, by decide, rfl⟩
noncomputable def R52 (args : List AV) : Res := S52 args [] encK
noncomputable def V52 : FSpec := leafK (.bool) R52
theorem V52_ok : SpecOK Try.prog 52 V52 := leafK_ok S52_ok (fun _ => rfl)
theorem N52 (xs : List AV) (fl : SF) (a n : Int) : S52 [.fs 1 xs fl, .int .i64 a, .int .i64 n] [] encK =
  aIf (decide (a ≥ 0))
  (aIf (decide (n ≥ 0))
    (aIf (decide (n ≤ IntKind.i64.wrap (8 * (↑xs.length : Int))))
      (some (AEnd.ret (AV.bool (decide (a ≤ IntKind.i64.wrap (IntKind.i64.wrap (8 * (↑xs.length : Int)) - n)))), []))
      (some (AEnd.ret (AV.bool false), [])))
    (some (AEnd.ret (AV.bool false), [])))
  (some (AEnd.ret (AV.bool false), [])) := by kernel_rfl
theorem R52_is {xs : List AV} {fl : SF} {a n : Int} (hL : xs.length ≤ 1000000) : R52 [.fs 1 xs fl, .int .i64 a, .int .i64 n] = some (.ret (.bool (thereB xs.length a n)), []) := by
  show S52 _ [] encK = _
  rw [N52]
  exact there_law hL (fun b => some (.ret (.bool b), []))

/-- ferryman/field.wide -/
noncomputable def T53 : List (FuncId × FSpec) := []
theorem T53_ok : TabOK Try.prog T53 := TabOK.nil _
noncomputable def C53 : Ctx := (ctx E T53 [] [(0, [0, 1]), (1, [4])] [] 14 70)
theorem C53_ok : CtxOK Try.prog C53 := ctx_ok E_ok E_flds mixed T53_ok
noncomputable def S53 : FSpec := inlineK C53 Try.f53
theorem S53_ok : SpecOK Try.prog 53 S53 := inlineK_ok C53_ok Try.func53 (fun _ _ => LoopsOK.none _)
theorem En53 : Enters Try.prog 53 := ⟨_, Try.func53, by decide, rfl⟩
noncomputable def R53 (args : List AV) : Res := S53 args [] encK
noncomputable def V53 : FSpec := leafK (.bool) R53
theorem V53_ok : SpecOK Try.prog 53 V53 := leafK_ok S53_ok (fun _ => rfl)
theorem N53 (v n : Int) : S53 [.int .u64 v, .int .i64 n] [] encK =
  aIf (decide (n < 64))
  (aIf (decide (IntKind.u64.wrap n < 0)) none
    (some (AEnd.ret (AV.bool (v.fdiv (2 ^ min (IntKind.u64.wrap n).toNat 64) != 0)), [])))
  (some (AEnd.ret (AV.bool false), [])) := by kernel_rfl
theorem R53_is {v n : Int} (hn : 0 ≤ n) : R53 [.int .u64 v, .int .i64 n] = some (.ret (.bool (!fitB v n)), []) := by
  show S53 _ [] encK = _
  rw [N53]
  exact wide_law hn (fun b => some (.ret (.bool b), []))

/-- slices.Clone[[]byte,byte] -/
noncomputable def T54 : List (FuncId × FSpec) := []
theorem T54_ok : TabOK Try.prog T54 := TabOK.nil _
noncomputable def C54 : Ctx := (ctx E T54 [] [(0, [0]), (1, [0, 4]), (2, [2]), (3, [2])] [] 8 70)
theorem C54_ok : CtxOK Try.prog C54 := ctx_ok E_ok E_flds mixed T54_ok
noncomputable def S54 : FSpec := inlineK C54 Try.f54
theorem S54_ok : SpecOK Try.prog 54 S54 := inlineK_ok C54_ok Try.func54 (fun _ _ => LoopsOK.none _)
theorem En54 : Enters Try.prog 54 := ⟨_, Try.func54, by decide, rfl⟩
noncomputable def R54 (args : List AV) : Res := S54 args [] encK
noncomputable def V54 : FSpec := leafK (.ints .u8) R54
theorem V54_ok : SpecOK Try.prog 54 V54 := leafK_ok S54_ok (fun _ => rfl)

noncomputable def W54 : FSpec := liveK C54 Try.f54
theorem W54_ok : SpecOK Try.prog 54 W54 := liveK_ok C54_ok Try.func54 (fun _ _ => LoopsOK.none _)

/-- ferryman/field.set -/
noncomputable def T55 : List (FuncId × FSpec) := []
theorem T55_ok : TabOK Try.prog T55 := TabOK.nil _
noncomputable def C55 : Ctx := (ctx E T55 [] [(0, [0, 1, 2, 6]), (1, [0, 1, 2, 6]), (2, [0, 1, 6, 21]), (3, [])] [] 30 70)
theorem C55_ok : CtxOK Try.prog C55 := ctx_ok E_ok E_flds mixed T55_ok
noncomputable def B55 : FSpec := inlineK C55 Try.f55
noncomputable def S55 : FSpec := fun args H k => match args, H with
  | [.sl 0 ver 0 len 1, .int .i64 i, .int .u64 v], (.cells w ys :: rest) => aIf (setG w ver len ys i v) (k (.ret (.tup [])) (.cells ver (setV ys i.toNat (v % 2)) :: rest)) none
  | _, _ => none
theorem B55_ok : SpecOK Try.prog 55 B55 := inlineK_ok C55_ok Try.func55 (fun _ _ => LoopsOK.none _)
theorem N55 (w ver len : Nat) (ys : List AV) (i v : Int) (rest : AH) (k : KE) : B55 [.sl 0 ver 0 len 1, .int .i64 i, .int .u64 v] (.cells w ys :: rest) k =
  aIf (decide (IntKind.i64.wrap (7 - i.tmod 8) < 0)) none
  (aIf (decide (0 ≤ IntKind.i64.wrap (i.tdiv 8)))
    (aIf (decide (IntKind.i64.wrap (i.tdiv 8) < (↑len : Int)))
      (aIf (w == ver)
        (aIf (decide (0 + (IntKind.i64.wrap (i.tdiv 8)).toNat * 1 + 1 ≤ ys.length))
          (aIf ((ys.getD (0 + (IntKind.i64.wrap (i.tdiv 8)).toNat * 1) AV.junk).isInt IntKind.u8)
            (aIf (decide (0 ≤ IntKind.i64.wrap (i.tdiv 8)))
              (aIf (decide (IntKind.i64.wrap (i.tdiv 8) < (↑len : Int)))
                (aIf (w == ver)
                  (aIf (decide (0 + (IntKind.i64.wrap (i.tdiv 8)).toNat * 1 + 1 ≤ ys.length))
                    (aIf (IntKind.u64.wrap (↑(BitVec.ofInt 64 v &&& BitVec.ofInt 64 1).toNat : Int) == 1)
                      (aIf (decide (0 ≤ IntKind.i64.wrap (i.tdiv 8)))
                        (aIf (decide (IntKind.i64.wrap (i.tdiv 8) < (↑len : Int)))
                          (aIf (ver == ver)
                            (aIf
                              (decide
                                (0 + (IntKind.i64.wrap (i.tdiv 8)).toNat * 1 + 1 ≤
                                  (ys.set (0 + (IntKind.i64.wrap (i.tdiv 8)).toNat * 1)
                                      (AV.int IntKind.u8
                                        (IntKind.u8.wrap
                                          (↑(BitVec.ofInt 8
                                                    (ys.getD (0 + (IntKind.i64.wrap (i.tdiv 8)).toNat * 1)
                                                        AV.junk).toInt &&&
                                                  ~~~BitVec.ofInt 8
                                                      (IntKind.u8.wrap
                                                        (1 *
                                                          2 ^ min (IntKind.i64.wrap (7 - i.tmod 8)).toNat 8))).toNat :
                                            Int)))).length))
                              (aIf
                                (((ys.set (0 + (IntKind.i64.wrap (i.tdiv 8)).toNat * 1)
                                          (AV.int IntKind.u8
                                            (IntKind.u8.wrap
                                              (↑(BitVec.ofInt 8
                                                        (ys.getD (0 + (IntKind.i64.wrap (i.tdiv 8)).toNat * 1)
                                                            AV.junk).toInt &&&
                                                      ~~~BitVec.ofInt 8
                                                          (IntKind.u8.wrap
                                                            (1 *
                                                              2 ^
                                                                min (IntKind.i64.wrap (7 - i.tmod 8)).toNat 8))).toNat :
                                                Int)))).getD
                                      (0 + (IntKind.i64.wrap (i.tdiv 8)).toNat * 1) AV.junk).isInt
                                  IntKind.u8)
                                (aIf (decide (0 ≤ IntKind.i64.wrap (i.tdiv 8)))
                                  (aIf (decide (IntKind.i64.wrap (i.tdiv 8) < (↑len : Int)))
                                    (aIf (ver == ver)
                                      (aIf
                                        (decide
                                          (0 + (IntKind.i64.wrap (i.tdiv 8)).toNat * 1 + 1 ≤
                                            (ys.set (0 + (IntKind.i64.wrap (i.tdiv 8)).toNat * 1)
                                                (AV.int IntKind.u8
                                                  (IntKind.u8.wrap
                                                    (↑(BitVec.ofInt 8
                                                              (ys.getD (0 + (IntKind.i64.wrap (i.tdiv 8)).toNat * 1)
                                                                  AV.junk).toInt &&&
                                                            ~~~BitVec.ofInt 8
                                                                (IntKind.u8.wrap
                                                                  (1 *
                                                                    2 ^
                                                                      min (IntKind.i64.wrap (7 - i.tmod 8)).toNat
                                                                        8))).toNat :
                                                      Int)))).length))
                                        (k (AEnd.ret (AV.tup []))
                                          (AO.cells ver
                                              ((ys.set (0 + (IntKind.i64.wrap (i.tdiv 8)).toNat * 1)
                                                    (AV.int IntKind.u8
                                                      (IntKind.u8.wrap
                                                        (↑(BitVec.ofInt 8
                                                                  (ys.getD (0 + (IntKind.i64.wrap (i.tdiv 8)).toNat * 1)
                                                                      AV.junk).toInt &&&
                                                                ~~~BitVec.ofInt 8
                                                                    (IntKind.u8.wrap
                                                                      (1 *
                                                                        2 ^
                                                                          min (IntKind.i64.wrap (7 - i.tmod 8)).toNat
                                                                            8))).toNat :
                                                          Int)))).set
                                                (0 + (IntKind.i64.wrap (i.tdiv 8)).toNat * 1)
                                                (AV.int IntKind.u8
                                                  (IntKind.u8.wrap
                                                    (↑(BitVec.ofInt 8
                                                              ((ys.set (0 + (IntKind.i64.wrap (i.tdiv 8)).toNat * 1)
                                                                      (AV.int IntKind.u8
                                                                        (IntKind.u8.wrap
                                                                          (↑(BitVec.ofInt 8
                                                                                    (ys.getD
                                                                                        (0 +
                                                                                          (IntKind.i64.wrap
                                                                                                (i.tdiv 8)).toNat *
                                                                                            1)
                                                                                        AV.junk).toInt &&&
                                                                                  ~~~BitVec.ofInt 8
                                                                                      (IntKind.u8.wrap
                                                                                        (1 *
                                                                                          2 ^
                                                                                            min
                                                                                              (IntKind.i64.wrap
                                                                                                  (7 - i.tmod 8)).toNat
                                                                                              8))).toNat :
                                                                            Int)))).getD
                                                                  (0 + (IntKind.i64.wrap (i.tdiv 8)).toNat * 1)
                                                                  AV.junk).toInt |||
                                                            BitVec.ofInt 8
                                                              (IntKind.u8.wrap
                                                                (1 *
                                                                  2 ^
                                                                    min (IntKind.i64.wrap (7 - i.tmod 8)).toNat
                                                                      8))).toNat :
                                                      Int)))) ::
                                            rest))
                                        none)
                                      none)
                                    none)
                                  none)
                                none)
                              none)
                            none)
                          none)
                        none)
                      (k (AEnd.ret (AV.tup []))
                        (AO.cells ver
                            (ys.set (0 + (IntKind.i64.wrap (i.tdiv 8)).toNat * 1)
                              (AV.int IntKind.u8
                                (IntKind.u8.wrap
                                  (↑(BitVec.ofInt 8
                                            (ys.getD (0 + (IntKind.i64.wrap (i.tdiv 8)).toNat * 1) AV.junk).toInt &&&
                                          ~~~BitVec.ofInt 8
                                              (IntKind.u8.wrap
                                                (1 * 2 ^ min (IntKind.i64.wrap (7 - i.tmod 8)).toNat 8))).toNat :
                                    Int)))) ::
                          rest)))
                    none)
                  none)
                none)
              none)
            none)
          none)
        none)
      none)
    none) := by kernel_rfl
theorem S55_ok : SpecOK Try.prog 55 S55 := by
  refine B55_ok.turn fun args H => ?_
  unfold S55
  split
  · rename_i ver len i v w ys rest
    rcases Bool.eq_false_or_eq_true (setG w ver len ys i v) with hp | hp
    · refine .inr fun k => ?_
      rw [aIf_pos hp, N55]
      obtain ⟨rfl, rfl, hL, hu, hi0, hi1, hv0, hv1⟩ := setG_of hp
      obtain ⟨j, rfl⟩ := Int.eq_ofNat_of_zero_le hi0
      have hj : j / 8 < ys.length := by omega
      obtain ⟨x, hx, he⟩ := u8_get hu (j / 8) hj
      have hs : 7 - j % 8 < 8 := by omega
      have e1 : IntKind.i64.wrap ((j : Int).tdiv 8) = ((j / 8 : Nat) : Int) := div8 (by omega)
      have e2 := sh7 j
      have e3 : min (7 - j % 8) 8 = 7 - j % 8 := by omega
      have e4 : decide (((j / 8 : Nat) : Int) < (ys.length : Int)) = true := decide_eq_true (by omega)
      have e5 : decide (j / 8 + 1 ≤ ys.length) = true := decide_eq_true (by omega)
      have e6 : IntKind.u64.wrap (v % 2) = v % 2 := u64n (by omega) (by omega)
      have r0 := setByte_range (b := 0) hx hs (.inl rfl)
      have r1 := setByte_range (b := 1) hx hs (.inr rfl)
      simp only [e1, e2, e3, e4, e5, dnn, dnn', Int.toNat_natCast, Nat.zero_add, Nat.mul_one, Int.one_mul, he, isInt_self, beq_self_eq_true, aIf_true, aIf_false, and1 hv0 hv1, e6, u8pow hs, AV.toInt, byte_and hx hs, u8n r0.1 r0.2,
        List.length_set, getD_set_self hj, byte_or hx hs, u8n r1.1 r1.2, List.set_set, setV]
      rcases (by omega : v % 2 = 0 ∨ v % 2 = 1) with h2 | h2
      · rw [h2]; rfl
      · rw [h2]; rfl
    · exact .inl fun k => by rw [aIf_neg hp]
  · exact .inl fun k => rfl
theorem En55 : Enters Try.prog 55 := ⟨_, Try.func55, by decide, rfl⟩

/-- ferryman/field.Put -/
noncomputable def T16 : List (FuncId × FSpec) := [(52, V52), (53, V53), (54, W54), (55, S55)]
theorem T16_ok : TabOK Try.prog T16 := TabOK.cons En52 V52_ok (TabOK.cons En53 V53_ok (TabOK.cons En54 W54_ok (TabOK.cons En55 S55_ok (TabOK.nil _))))
noncomputable def L16_7 : ATs → AH → KC → Res := fun ts H k => match ts, H with
  | [(1, .int .i64 a), (2, .int .i64 n), (3, .int .u64 v), (10, .sl 0 ver 0 len 1), (26, .int .i64 x), (27, .int .i64 y)], [.cells w ys] => aIf (putG w ver len ys a n v x y) (k (.exit 0) [(1, .int .i64 a), (2, .int .i64 n), (3, .int .u64 v), (10, .sl 0 ver 0 len 1), (26, .int .i64 x), (27, .int .i64 x), (28, .bool false)] [.cells ver (putL ys a.toNat (vbit v x.toNat) x.toNat)]) none
  | [(1, .int .i64 a), (2, .int .i64 n), (3, .int .u64 v), (10, .fs 1 xs fl), (26, .int .i64 x), (27, .int .i64 y)], [] => aIf (x == 0 && y == 0) (k (.exit 0) [(1, .int .i64 a), (2, .int .i64 n), (3, .int .u64 v), (10, .fs 1 xs fl), (26, .int .i64 x), (27, .int .i64 y), (28, .bool false)] []) none
  | _, _ => none
noncomputable def C16 : Ctx := (ctx E T16 [(7, L16_7)] [(0, [0, 1, 2, 3]), (1, [0, 1, 2, 3, 20]), (2, [8, 9]), (3, [0, 1, 2, 3, 23]), (4, [8, 9]), (5, [1, 2, 3, 10]), (6, [1, 2, 3, 10, 26, 27]), (7, [1, 2, 3, 10, 26, 27, 28]), (8, [1, 2, 3, 10, 11, 26, 27]), (9, [1, 2, 3, 10, 26, 27]), (10, [1, 2, 3, 10, 26, 27]), (11, [8, 9]), (1000007, [1, 2, 3, 10, 26, 27])] [54] 44 70)
theorem C16_ok : CtxOK Try.prog C16 := ctx_ok E_ok E_flds mixed T16_ok
theorem C16_l0 : C16.loop (loopId (loopB Try.f16 0)) = some L16_7 := by kernel_rfl
theorem L16_7_in : LoopsOK C16 (loopB Try.f16 0) := LoopsOK.within 0 (by kernel_rfl) (fun j hj S hS => by
  omega)
theorem M16_7a (a n v : Int) (ver len : Nat) (x y : Int) (w : Nat) (ys : List AV) (k : KC) : headedK C16 (loopB Try.f16 0) [(1, .int .i64 a), (2, .int .i64 n), (3, .int .u64 v), (10, .sl 0 ver 0 len 1), (26, .int .i64 x), (27, .int .i64 y)] [.cells w ys] k =
  aIf (decide (y < x))
  (aIf (decide (IntKind.u64.wrap (IntKind.i64.wrap (IntKind.i64.wrap (n - 1) - y)) < 0)) none
    (aIf
      (Pl.setG w ver len ys (IntKind.i64.wrap (a + y))
        (v.fdiv (2 ^ min (IntKind.u64.wrap (IntKind.i64.wrap (IntKind.i64.wrap (n - 1) - y))).toNat 64)))
      (k AExit.normal
        [(1, AV.int IntKind.i64 a), (2, AV.int IntKind.i64 n), (3, AV.int IntKind.u64 v), (10, AV.sl 0 ver 0 len 1),
          (26, AV.int IntKind.i64 x), (27, AV.int IntKind.i64 (IntKind.i64.wrap (y + 1)))]
        [AO.cells ver
            (Pl.setV ys (IntKind.i64.wrap (a + y)).toNat
              (v.fdiv (2 ^ min (IntKind.u64.wrap (IntKind.i64.wrap (IntKind.i64.wrap (n - 1) - y))).toNat 64) % 2))])
      none))
  (k (AExit.exit 0)
    [(1, AV.int IntKind.i64 a), (2, AV.int IntKind.i64 n), (3, AV.int IntKind.u64 v), (10, AV.sl 0 ver 0 len 1),
      (26, AV.int IntKind.i64 x), (27, AV.int IntKind.i64 y), (28, AV.bool (decide (y < x)))]
    [AO.cells w ys]) := by kernel_rfl
theorem M16_7b (a n v : Int) (xs : List AV) (fl : SF) (x y : Int) (k : KC) : headedK C16 (loopB Try.f16 0) [(1, .int .i64 a), (2, .int .i64 n), (3, .int .u64 v), (10, .fs 1 xs fl), (26, .int .i64 x), (27, .int .i64 y)] [] k =
  aIf (decide (y < x)) (aIf (decide (IntKind.u64.wrap (IntKind.i64.wrap (IntKind.i64.wrap (n - 1) - y)) < 0)) none none)
  (k (AExit.exit 0)
    [(1, AV.int IntKind.i64 a), (2, AV.int IntKind.i64 n), (3, AV.int IntKind.u64 v), (10, AV.fs 1 xs fl),
      (26, AV.int IntKind.i64 x), (27, AV.int IntKind.i64 y), (28, AV.bool (decide (y < x)))]
    []) := by kernel_rfl
theorem L16_7_ok : LoopSum C16 (loopB Try.f16 0) L16_7 := LoopSum.of C16_ok L16_7_in (fun ts H => by
  unfold L16_7
  split
  · rename_i a n v ver len x y w ys
    rcases Bool.eq_false_or_eq_true (putG w ver len ys a n v x y) with hp | hp
    · refine .inr ?_
      simp only [aIf_pos hp]
      obtain ⟨rfl, rfl, hL, hu, ha, rfl, rfl, hn0, hn1, han, hv0, hv1⟩ := putG_of hp
      obtain ⟨a, rfl⟩ := Int.eq_ofNat_of_zero_le ha
      obtain ⟨n, rfl⟩ := Int.eq_ofNat_of_zero_le hn0
      have main : ∀ d j : Nat, j + d = n → ∃ m, ∀ k, aIterK m (headedK C16 (loopB Try.f16 0)) [(1, .int .i64 (a : Int)), (2, .int .i64 (n : Int)), (3, .int .u64 v), (10, .sl 0 w 0 ys.length 1), (26, .int .i64 (n : Int)), (27, .int .i64 (j : Int))] [.cells w (putL ys a (vbit v n) j)] k =
          k (.exit 0) [(1, .int .i64 (a : Int)), (2, .int .i64 (n : Int)), (3, .int .u64 v), (10, .sl 0 w 0 ys.length 1), (26, .int .i64 (n : Int)), (27, .int .i64 (n : Int)), (28, .bool false)] [.cells w (putL ys a (vbit v n) n)] := by
        intro d
        induction d with
        | zero =>
          intro j hj
          obtain rfl : j = n := by omega
          refine ⟨1, fun k => ?_⟩
          rw [aIterK, M16_7a]
          simp only [dltf, aIf_false]
        | succ d ih =>
          intro j hj
          obtain ⟨m, hm⟩ := ih (j + 1) (by omega)
          refine ⟨m + 1, fun k => ?_⟩
          have r := shr_range hv0 hv1 (n - 1 - j)
          have e3 : min (n - 1 - j) 64 = n - 1 - j := by omega
          rw [aIterK, M16_7a, aIf_pos (dlt (by omega)), sh_n1 (by omega) (by omega), u64nn (by omega), dnn, aIf_false, i64a (by omega), i64s (by omega), Int.toNat_natCast, e3, shr_eq, Int.toNat_natCast,
            setG_ok (by rw [putL_length]) hL (putL_u8 hu j fun i _ => vbit_01 v n i) (by omega) (by omega) r.1 r.2, aIf_true]
          exact hm k
      exact (main n 0 (by omega)).imp fun m hm k => (hm k).symm
    · exact .inl fun k => by rw [aIf_neg hp]
  · rename_i a n v xs fl x y
    rcases Bool.eq_false_or_eq_true (x == 0 && y == 0) with hp | hp
    · refine .inr ?_
      simp only [aIf_pos hp]
      simp only [Bool.and_eq_true, beq_iff_eq] at hp
      obtain ⟨rfl, rfl⟩ := hp
      refine ⟨1, fun k => ?_⟩
      rw [aIterK, M16_7b]
      rfl
    · exact .inl fun k => by rw [aIf_neg hp]
  · exact .inl fun k => rfl)
theorem C16_loops : ∀ c, Try.f16.body = some c → LoopsOK C16 c := LoopsOK.of 1 (by kernel_rfl) (fun j hj S hS => by
  match j, hj with
  | 0, _ => rw [C16_l0] at hS; cases hS; exact L16_7_ok
  | n + 1, hj => omega)
noncomputable def S16 : FSpec := inlineK C16 Try.f16
theorem S16_ok : SpecOK Try.prog 16 S16 := inlineK_ok C16_ok Try.func16 C16_loops
theorem En16 : Enters Try.prog 16 := ⟨_, Try.func16, by decide, rfl⟩
noncomputable def R16 (args : List AV) : Res := S16 args [] encK
noncomputable def V16 : FSpec := leafK (.tup [.ints .u8, .int .i64]) R16
theorem V16_ok : SpecOK Try.prog 16 V16 := leafK_ok S16_ok (fun _ => rfl)
theorem N16a (xs : List AV) (a n v : Int) : S16 [.fs 1 xs .any, .int .i64 a, .int .i64 n, .int .u64 v] [] encK =
  aIf (decide (n > 64)) (some (AEnd.ret (AV.tup [AV.fs 1 [] SF.nil, AV.int IntKind.i64 30]), []))
  (aIf (shOK Sh.bool (R52 [AV.fs 1 xs SF.any, AV.int IntKind.i64 a, AV.int IntKind.i64 n]))
    (aIf (!(sel (R52 [AV.fs 1 xs SF.any, AV.int IntKind.i64 a, AV.int IntKind.i64 n]) []).toBool)
      (some (AEnd.ret (AV.tup [AV.fs 1 [] SF.nil, AV.int IntKind.i64 30]), []))
      (aIf (shOK Sh.bool (R53 [AV.int IntKind.u64 v, AV.int IntKind.i64 n]))
        (aIf (sel (R53 [AV.int IntKind.u64 v, AV.int IntKind.i64 n]) []).toBool
          (some (AEnd.ret (AV.tup [AV.fs 1 [] SF.nil, AV.int IntKind.i64 1]), []))
          (aIf (xs.length == 0)
            (aIf (n == 0 && true) (some (AEnd.ret (AV.tup [AV.fs 1 [] SF.zc, AV.int IntKind.i64 0]), [])) none)
            (aIf ((xs.length * 1).ble 140737488355328)
              (aIf ((List.flatMap AV.cells xs).length == xs.length * 1)
                (aIf (Pl.putG (xs.length * 1) (xs.length * 1) xs.length (List.flatMap AV.cells xs) a n v n 0)
                  (aIf (xs.length * 1 == xs.length * 1)
                    (aIf
                      (decide
                        (0 + xs.length * 1 ≤
                          (Pl.putL (List.flatMap AV.cells xs) a.toNat (Pl.vbit v n.toNat) n.toNat).length))
                      (aIf
                        (flatL
                          (List.take (xs.length * 1)
                            (List.drop 0 (Pl.putL (List.flatMap AV.cells xs) a.toNat (Pl.vbit v n.toNat) n.toNat))))
                        (some
                          (AEnd.ret
                              (AV.tup
                                [AV.fs 1
                                    (List.take xs.length
                                      (List.drop 0
                                        (Pl.putL (List.flatMap AV.cells xs) a.toNat (Pl.vbit v n.toNat) n.toNat)))
                                    SF.any,
                                  AV.int IntKind.i64 0]),
                            []))
                        none)
                      none)
                    none)
                  none)
                none)
              none)))
        none))
    none) := by kernel_rfl
theorem N16n (a n v : Int) : S16 [.fs 1 [] .nil, .int .i64 a, .int .i64 n, .int .u64 v] [] encK =
  aIf (decide (n > 64)) (some (AEnd.ret (AV.tup [AV.fs 1 [] SF.nil, AV.int IntKind.i64 30]), []))
  (aIf (shOK Sh.bool (R52 [AV.fs 1 [] SF.nil, AV.int IntKind.i64 a, AV.int IntKind.i64 n]))
    (aIf (!(sel (R52 [AV.fs 1 [] SF.nil, AV.int IntKind.i64 a, AV.int IntKind.i64 n]) []).toBool)
      (some (AEnd.ret (AV.tup [AV.fs 1 [] SF.nil, AV.int IntKind.i64 30]), []))
      (aIf (shOK Sh.bool (R53 [AV.int IntKind.u64 v, AV.int IntKind.i64 n]))
        (aIf (sel (R53 [AV.int IntKind.u64 v, AV.int IntKind.i64 n]) []).toBool
          (some (AEnd.ret (AV.tup [AV.fs 1 [] SF.nil, AV.int IntKind.i64 1]), []))
          (aIf (n == 0 && true) (some (AEnd.ret (AV.tup [AV.fs 1 [] SF.nil, AV.int IntKind.i64 0]), [])) none))
        none))
    none) := by kernel_rfl
theorem N16z (a n v : Int) : S16 [.fs 1 [] .zc, .int .i64 a, .int .i64 n, .int .u64 v] [] encK =
  aIf (decide (n > 64)) (some (AEnd.ret (AV.tup [AV.fs 1 [] SF.nil, AV.int IntKind.i64 30]), []))
  (aIf (shOK Sh.bool (R52 [AV.fs 1 [] SF.zc, AV.int IntKind.i64 a, AV.int IntKind.i64 n]))
    (aIf (!(sel (R52 [AV.fs 1 [] SF.zc, AV.int IntKind.i64 a, AV.int IntKind.i64 n]) []).toBool)
      (some (AEnd.ret (AV.tup [AV.fs 1 [] SF.nil, AV.int IntKind.i64 30]), []))
      (aIf (shOK Sh.bool (R53 [AV.int IntKind.u64 v, AV.int IntKind.i64 n]))
        (aIf (sel (R53 [AV.int IntKind.u64 v, AV.int IntKind.i64 n]) []).toBool
          (some (AEnd.ret (AV.tup [AV.fs 1 [] SF.nil, AV.int IntKind.i64 1]), []))
          (aIf (n == 0 && true) (some (AEnd.ret (AV.tup [AV.fs 1 [] SF.zc, AV.int IntKind.i64 0]), [])) none))
        none))
    none) := by kernel_rfl
theorem R16_is {xs : List AV} {fl : SF} {a n v : Int} (hu : intsB .u8 xs = true) (hL : xs.length ≤ 1000000) (hf : fl ≠ .any → xs = []) (hv0 : 0 ≤ v) (hv1 : v < 18446744073709551616) :
    ∃ fl', R16 [.fs 1 xs fl, .int .i64 a, .int .i64 n, .int .u64 v] = some (.ret (.tup [.fs 1 (putX xs a n v) fl', .int .i64 (putE xs.length a n v)]), []) := by
  show ∃ fl', S16 _ [] encK = _
  have empty : ∀ (gl : SF), thereB 0 a n = true → n = 0 := fun _ h => by have := there_of h; omega
  unfold putX putE
  cases fl with
  | nil =>
    obtain rfl := hf (by simp)
    rw [N16n, R52_is (by simp), shOK_ret, has_bool, aIf_true]
    simp only [List.length_nil]
    by_cases h1 : n > 64
    · refine ⟨.nil, ?_⟩
      rw [decide_eq_true h1]; rfl
    rw [decide_eq_false h1]
    simp only [aIf_false, Bool.false_or]
    cases h2 : thereB 0 a n
    · exact ⟨.nil, rfl⟩
    have hth := there_of h2
    obtain rfl := empty .nil h2
    rw [R53_is (Int.le_refl _), shOK_ret, has_bool, aIf_true]
    cases h3 : fitB v 0
    · exact ⟨.nil, rfl⟩
    · exact ⟨.nil, rfl⟩
  | zc =>
    obtain rfl := hf (by simp)
    rw [N16z, R52_is (by simp), shOK_ret, has_bool, aIf_true]
    simp only [List.length_nil]
    by_cases h1 : n > 64
    · refine ⟨.nil, ?_⟩
      rw [decide_eq_true h1]; rfl
    rw [decide_eq_false h1]
    simp only [aIf_false, Bool.false_or]
    cases h2 : thereB 0 a n
    · exact ⟨.nil, rfl⟩
    have hth := there_of h2
    obtain rfl := empty .zc h2
    rw [R53_is (Int.le_refl _), shOK_ret, has_bool, aIf_true]
    cases h3 : fitB v 0
    · exact ⟨.nil, rfl⟩
    · exact ⟨.zc, rfl⟩
  | any =>
    rw [N16a, R52_is hL, shOK_ret, has_bool, aIf_true]
    by_cases h1 : n > 64
    · refine ⟨.nil, ?_⟩
      rw [decide_eq_true h1]; rfl
    rw [decide_eq_false h1]
    simp only [aIf_false, Bool.false_or]
    cases h2 : thereB xs.length a n
    · exact ⟨.nil, rfl⟩
    have hth := there_of h2
    rw [R53_is hth.2.1, shOK_ret, has_bool, aIf_true]
    cases h3 : fitB v n
    · exact ⟨.nil, rfl⟩
    by_cases h4 : xs.length = 0
    · have hx : xs = [] := List.eq_nil_of_length_eq_zero h4
      subst hx
      obtain rfl := empty .any h2
      exact ⟨.zc, rfl⟩
    · refine ⟨.any, ?_⟩
      have hp := putL_u8 (a := a.toNat) hu n.toNat (fun i _ => vbit_01 v n.toNat i)
      have hpl := putL_length xs a.toNat (vbit v n.toNat) n.toNat
      rw [ints_cells hu, Nat.mul_one, putG_ok hu hL h1 h2 hv0 hv1, beq_self_eq_true, Nat.zero_add, take_all hpl, ints_flat hp, hpl, show (xs.length == 0) = false from beq_eq_false_iff_ne.2 h4, Nat.ble_eq_true_of_le (by omega), decide_eq_true (Nat.le_refl _)]
      rfl

/-- ferryman/field.bit -/
noncomputable def T56 : List (FuncId × FSpec) := []
theorem T56_ok : TabOK Try.prog T56 := TabOK.nil _
noncomputable def C56 : Ctx := (ctx E T56 [] [(0, [0, 1]), (1, [4])] [] 16 70)
theorem C56_ok : CtxOK Try.prog C56 := ctx_ok E_ok E_flds mixed T56_ok
noncomputable def S56 : FSpec := inlineK C56 Try.f56
theorem S56_ok : SpecOK Try.prog 56 S56 := inlineK_ok C56_ok Try.func56 (fun _ _ => LoopsOK.none _)
theorem En56 : Enters Try.prog 56 := ⟨_, Try.func56, by decide, rfl⟩
noncomputable def R56 (args : List AV) : Res := S56 args [] encK
noncomputable def V56 : FSpec := leafK (.int .u64) R56
theorem V56_ok : SpecOK Try.prog 56 V56 := leafK_ok S56_ok (fun _ => rfl)
theorem N56 (xs : List AV) (fl : SF) (i : Int) : S56 [.fs 1 xs fl, .int .i64 i] [] encK =
  aIf (decide (0 ≤ IntKind.i64.wrap (i.tdiv 8)))
  (aIf (decide (IntKind.i64.wrap (i.tdiv 8) < (↑xs.length : Int)))
    (aIf ((xs.getD (IntKind.i64.wrap (i.tdiv 8)).toNat AV.junk).cells.length == 1)
      (aIf
        (([(xs.getD (IntKind.i64.wrap (i.tdiv 8)).toNat AV.junk).cells.getD 0 AV.junk].getD 0 AV.junk).isInt IntKind.u8)
        (aIf (decide (IntKind.i64.wrap (7 - i.tmod 8) < 0)) none
          (some
            (AEnd.ret
                (AV.int IntKind.u64
                  (IntKind.u64.wrap
                    (↑(BitVec.ofInt 64
                              (IntKind.u64.wrap
                                (([(xs.getD (IntKind.i64.wrap (i.tdiv 8)).toNat AV.junk).cells.getD 0 AV.junk].getD 0
                                        AV.junk).toInt.fdiv
                                  (2 ^ min (IntKind.i64.wrap (7 - i.tmod 8)).toNat 8))) &&&
                            BitVec.ofInt 64 1).toNat :
                      Int))),
              [])))
        none)
      none)
    none)
  none := by kernel_rfl
theorem R56_is {xs : List AV} {fl : SF} {j : Nat} (hu : intsB .u8 xs = true) (hL : xs.length ≤ 1000000) (hj : j < 8 * xs.length) : R56 [.fs 1 xs fl, .int .i64 (j : Int)] = some (.ret (.int .u64 (bitV xs j)), []) := by
  show S56 _ [] encK = _
  obtain ⟨x, hx, he⟩ := u8_get hu (j / 8) (by omega)
  have e1 : IntKind.i64.wrap ((j : Int).tdiv 8) = ((j / 8 : Nat) : Int) := div8 (by omega)
  have e2 := sh7 j
  have e3 : min (7 - j % 8) 8 = 7 - j % 8 := by omega
  have e4 : decide (((j / 8 : Nat) : Int) < (xs.length : Int)) = true := decide_eq_true (by omega)
  have r := shr_byte hx (7 - j % 8)
  have e6 : IntKind.u64.wrap ((x : Int) / 2 ^ (7 - j % 8)) = (x : Int) / 2 ^ (7 - j % 8) := u64n (by omega) (by omega)
  rw [N56]
  simp only [e1, e2, e3, e4, dnn, dnn', Int.toNat_natCast, he, AV.cells, List.length_singleton, List.getD_cons_zero, isInt_self, beq_self_eq_true, aIf_true, aIf_false, AV.toInt, shr_eq, e6, and1 (u := (x : Int) / 2 ^ (7 - j % 8)) (by omega) (by omega), u64n (x := (x : Int) / 2 ^ (7 - j % 8) % 2) (by omega) (by omega), bitV]
theorem bit_shape {b : Int} (h : 0 ≤ b ∧ b ≤ 1) : shOK (.int .u64) (some (.ret (.int .u64 b), [])) = true := by
  rw [shOK_ret, has_int, inK_u64, decide_eq_true (show 0 ≤ b by omega), decide_eq_true (show b ≤ 18446744073709551615 by omega)]; rfl


/-- ferryman/field.Get -/
noncomputable def T18 : List (FuncId × FSpec) := [(52, V52), (56, V56)]
theorem T18_ok : TabOK Try.prog T18 := TabOK.cons En52 V52_ok (TabOK.cons En56 V56_ok (TabOK.nil _))
noncomputable def L18_5 : ATs → AH → KC → Res := fun ts H k => match ts, H with
  | [(0, .fs 1 xs fl), (1, .int .i64 a), (8, .int .u64 v), (19, .int .i64 x), (20, .int .i64 y)], [] => aIf (getG xs a v x y) (k (.exit 0) [(0, .fs 1 xs fl), (1, .int .i64 a), (8, .int .u64 (getN xs a.toNat x.toNat)), (19, .int .i64 x), (20, .int .i64 x), (21, .bool false)] []) none
  | _, _ => none
noncomputable def C18 : Ctx := (ctx E T18 [(5, L18_5)] [(0, [0, 1, 2]), (1, [0, 1, 2, 18]), (2, [6, 7]), (3, [0, 1, 2, 8]), (4, [0, 1, 8, 19, 20]), (5, [0, 1, 8, 19, 20, 21]), (6, [0, 1, 8, 9, 19, 20]), (7, [0, 1, 8, 19, 20]), (8, [0, 1, 8, 19, 20]), (9, [6, 7]), (1000005, [0, 1, 8, 19, 20])] [] 33 70)
theorem C18_ok : CtxOK Try.prog C18 := ctx_ok E_ok E_flds mixed T18_ok
theorem C18_l0 : C18.loop (loopId (loopB Try.f18 0)) = some L18_5 := by kernel_rfl
theorem L18_5_in : LoopsOK C18 (loopB Try.f18 0) := LoopsOK.within 0 (by kernel_rfl) (fun j hj S hS => by
  omega)
theorem M18_5 (xs : List AV) (fl : SF) (a v x y : Int) (k : KC) : headedK C18 (loopB Try.f18 0) [(0, .fs 1 xs fl), (1, .int .i64 a), (8, .int .u64 v), (19, .int .i64 x), (20, .int .i64 y)] [] k =
  aIf (decide (y < x))
  (aIf (shOK (Sh.int IntKind.u64) (R56 [AV.fs 1 xs fl, AV.int IntKind.i64 (IntKind.i64.wrap (a + y))]))
    (k AExit.normal
      [(0, AV.fs 1 xs fl), (1, AV.int IntKind.i64 a),
        (8,
          AV.int IntKind.u64
            (IntKind.u64.wrap
              (↑(BitVec.ofInt 64 (IntKind.u64.wrap (v * 2)) |||
                      BitVec.ofInt 64
                        (sel (R56 [AV.fs 1 xs fl, AV.int IntKind.i64 (IntKind.i64.wrap (a + y))]) []).toInt).toNat :
                Int))),
        (19, AV.int IntKind.i64 x), (20, AV.int IntKind.i64 (IntKind.i64.wrap (y + 1)))]
      [])
    none)
  (k (AExit.exit 0)
    [(0, AV.fs 1 xs fl), (1, AV.int IntKind.i64 a), (8, AV.int IntKind.u64 v), (19, AV.int IntKind.i64 x),
      (20, AV.int IntKind.i64 y), (21, AV.bool (decide (y < x)))]
    []) := by kernel_rfl
theorem L18_5_ok : LoopSum C18 (loopB Try.f18 0) L18_5 := LoopSum.of C18_ok L18_5_in (fun ts H => by
  unfold L18_5
  split
  · rename_i xs fl a v x y
    rcases Bool.eq_false_or_eq_true (getG xs a v x y) with hp | hp
    · refine .inr ?_
      simp only [aIf_pos hp]
      obtain ⟨hu, hL, ha, rfl, rfl, hx0, hx1, hax⟩ := getG_of hp
      obtain ⟨a, rfl⟩ := Int.eq_ofNat_of_zero_le ha
      obtain ⟨n, rfl⟩ := Int.eq_ofNat_of_zero_le hx0
      have main : ∀ d j : Nat, j + d = n → ∃ m, ∀ k, aIterK m (headedK C18 (loopB Try.f18 0)) [(0, .fs 1 xs fl), (1, .int .i64 (a : Int)), (8, .int .u64 (getN xs a j)), (19, .int .i64 (n : Int)), (20, .int .i64 (j : Int))] [] k =
          k (.exit 0) [(0, .fs 1 xs fl), (1, .int .i64 (a : Int)), (8, .int .u64 (getN xs a n)), (19, .int .i64 (n : Int)), (20, .int .i64 (n : Int)), (21, .bool false)] [] := by
        intro d
        induction d with
        | zero =>
          intro j hj
          obtain rfl : j = n := by omega
          refine ⟨1, fun k => ?_⟩
          rw [aIterK, M18_5]
          simp only [Int.lt_irrefl, decide_false, aIf_false]
        | succ d ih =>
          intro j hj
          obtain ⟨m, hm⟩ := ih (j + 1) (by omega)
          refine ⟨m + 1, fun k => ?_⟩
          have e1 : IntKind.i64.wrap ((a : Int) + (j : Int)) = ((a + j : Nat) : Int) := by rw [← Int.natCast_add]; exact i64n (by omega)
          have e2 : IntKind.i64.wrap ((j : Int) + 1) = ((j + 1 : Nat) : Int) := by rw [← Int.natCast_succ]; exact i64n (by omega)
          have b1 := bitV_01 xs (a + j)
          have b2 := getN_range xs a j
          have b3 := pow2_le (show j ≤ 63 by omega)
          have b4 : (2 : Int) ^ 63 = 9223372036854775808 := rfl
          have e3 : IntKind.u64.wrap (getN xs a j * 2) = 2 * getN xs a j := by rw [Int.mul_comm]; exact u64n (by omega) (by omega)
          rw [aIterK, M18_5, aIf_pos (decide_eq_true (by omega)), e1, R56_is hu hL (by omega), shOK_ret, has_int, inK_u64, decide_eq_true (show 0 ≤ bitV xs (a + j) by omega), decide_eq_true (show bitV xs (a + j) ≤ 18446744073709551615 by omega), Bool.and_self, aIf_true, e2, e3]
          have e4 : (sel (some (AEnd.ret (AV.int IntKind.u64 (bitV xs (a + j))), [])) []).toInt = bitV xs (a + j) := rfl
          rw [e4, or1 b2.1 (by omega) b1.1 b1.2, u64n (by omega) (by omega)]
          exact hm k
      exact (main n 0 (by omega)).imp fun m hm k => (hm k).symm
    · exact .inl fun k => by rw [aIf_neg hp]
  · exact .inl fun k => rfl)
theorem C18_loops : ∀ c, Try.f18.body = some c → LoopsOK C18 c := LoopsOK.of 1 (by kernel_rfl) (fun j hj S hS => by
  match j, hj with
  | 0, _ => rw [C18_l0] at hS; cases hS; exact L18_5_ok
  | n + 1, hj => omega)
noncomputable def S18 : FSpec := inlineK C18 Try.f18
theorem S18_ok : SpecOK Try.prog 18 S18 := inlineK_ok C18_ok Try.func18 C18_loops
theorem En18 : Enters Try.prog 18 := ⟨_, Try.func18, by decide, rfl⟩
noncomputable def R18 (args : List AV) : Res := S18 args [] encK
noncomputable def V18 : FSpec := leafK (.tup [.int .u64, .int .i64]) R18
theorem V18_ok : SpecOK Try.prog 18 V18 := leafK_ok S18_ok (fun _ => rfl)
theorem N18 (xs : List AV) (fl : SF) (a n : Int) : S18 [.fs 1 xs fl, .int .i64 a, .int .i64 n] [] encK =
  aIf (decide (n > 64)) (some (AEnd.ret (AV.tup [AV.int IntKind.u64 0, AV.int IntKind.i64 30]), []))
  (aIf (shOK Sh.bool (R52 [AV.fs 1 xs fl, AV.int IntKind.i64 a, AV.int IntKind.i64 n]))
    (aIf (!(sel (R52 [AV.fs 1 xs fl, AV.int IntKind.i64 a, AV.int IntKind.i64 n]) []).toBool)
      (some (AEnd.ret (AV.tup [AV.int IntKind.u64 0, AV.int IntKind.i64 30]), []))
      (aIf (Pl.getG xs a 0 n 0)
        (some (AEnd.ret (AV.tup [AV.int IntKind.u64 (Pl.getN xs a.toNat n.toNat), AV.int IntKind.i64 0]), [])) none))
    none) := by kernel_rfl
theorem R18_is {xs : List AV} {fl : SF} {a n : Int} (hu : intsB .u8 xs = true) (hL : xs.length ≤ 1000000) : R18 [.fs 1 xs fl, .int .i64 a, .int .i64 n] = some (.ret (.tup [.int .u64 (getX xs a n), .int .i64 (getE xs.length a n)]), []) := by
  show S18 _ [] encK = _
  rw [N18, R52_is hL, shOK_ret, has_bool, aIf_true]
  unfold getX getE
  by_cases h1 : n > 64
  · rw [decide_eq_true h1]; rfl
  · rw [decide_eq_false h1, aIf_false]
    cases h2 : thereB xs.length a n
    · rfl
    · rw [getG_ok hu hL h1 h2]; rfl

/-- ferryman/ferrymanlaw03.alive -/
noncomputable def T17 : List (FuncId × FSpec) := [(16, V16), (18, V18)]
theorem T17_ok : TabOK Try.prog T17 := TabOK.cons En16 V16_ok (TabOK.cons En18 V18_ok (TabOK.nil _))
noncomputable def C17 : Ctx := (ctx E T17 [] [(0, []), (1, [1, 2]), (2, [1, 2, 3, 4]), (3, [0])] [] 30 70)
theorem C17_ok : CtxOK Try.prog C17 := ctx_ok E_ok E_flds mixed T17_ok
noncomputable def B17 : FSpec := inlineK C17 Try.f17
noncomputable def S17 : FSpec := constK (AV.bool true)
theorem B17_ok : SpecOK Try.prog 17 B17 := inlineK_ok C17_ok Try.func17 (fun _ _ => LoopsOK.none _)
theorem B17_is (k : KE) : B17 [] [] k = k (.ret (AV.bool true)) [] := by kernel_rfl
theorem S17_ok : SpecOK Try.prog 17 S17 := constK_ok B17_ok B17_is
theorem En17 : Enters Try.prog 17 := ⟨_, Try.func17, by decide, rfl⟩

/-- ferryman/field.Cat -/
noncomputable def T22 : List (FuncId × FSpec) := [(53, V53), (55, S55)]
theorem T22_ok : TabOK Try.prog T22 := TabOK.cons En53 V53_ok (TabOK.cons En55 S55_ok (TabOK.nil _))
noncomputable def L22_2 : ATs → AH → KC → Res := fun ts H k => match ts, H with
  | [(0, .fs 2 xs fl), (14, .fs 2 ys gl), (15, .int .i64 n), (16, .int .i64 i)], [] => aIf (catG ys 0 n i) (aIf (badE ys ys.length 0 == 0) (k (.exit 0) [(0, .fs 2 xs fl), (14, .fs 2 ys gl), (15, .int .i64 n), (16, .int .i64 n), (17, .bool false)] []) (k .ret [(2, .fs 0 [] .nil), (3, .int .i64 (badE ys ys.length 0))] [])) none
  | _, _ => none
noncomputable def L22_11 : ATs → AH → KC → Res := fun ts H k => match ts, H with
  | [(0, .fs 2 xs fl), (6, .int .i64 a), (34, .fs 2 ys gl), (35, .int .i64 n), (36, .int .i64 i)], [] => aIf (catG ys a n i && badE ys ys.length 0 == 0) (aIf (Nat.ble (sumR ys ys.length) 65536) (k (.exit 2) [(0, .fs 2 xs fl), (6, .int .i64 (sumR ys ys.length : Int)), (34, .fs 2 ys gl), (35, .int .i64 n), (36, .int .i64 n), (37, .bool false)] []) (k .ret [(2, .fs 0 [] .nil), (3, .int .i64 3)] [])) none
  | _, _ => none
noncomputable def L22_23 : ATs → AH → KC → Res := fun ts H k => match ts, H with
  | [(9, .sl 0 ver 0 len 1), (10, .int .i64 a), (12, .ptr 1 0 0), (51, .fs 2 xs fl), (52, .int .i64 n), (53, .int .i64 i), (58, .int .i64 x), (59, .int .i64 y)], [.cells w ys, .cells 0 [.int .i64 c, .int .u64 v]] => aIf (putG w ver len ys a c v x y) (k (.exit 6) [(9, .sl 0 ver 0 len 1), (10, .int .i64 a), (12, .ptr 1 0 0), (51, .fs 2 xs fl), (52, .int .i64 n), (53, .int .i64 i), (58, .int .i64 x), (59, .int .i64 x), (60, .bool false)] [.cells ver (putL ys a.toNat (vbit v c.toNat) c.toNat), .cells 0 [.int .i64 c, .int .u64 v]]) none
  | [(9, .fs 1 zs gl), (10, .int .i64 a), (12, .ptr 0 0 0), (51, .fs 2 xs fl), (52, .int .i64 n), (53, .int .i64 i), (58, .int .i64 x), (59, .int .i64 y)], [.cells 0 [.int .i64 c, .int .u64 v]] => aIf (x == 0 && y == 0) (k (.exit 6) [(9, .fs 1 zs gl), (10, .int .i64 a), (12, .ptr 0 0 0), (51, .fs 2 xs fl), (52, .int .i64 n), (53, .int .i64 i), (58, .int .i64 x), (59, .int .i64 y), (60, .bool false)] [.cells 0 [.int .i64 c, .int .u64 v]]) none
  | _, _ => none
noncomputable def L22_20 : ATs → AH → KC → Res := fun ts H k => match ts, H with
  | [(9, .sl 0 ver 0 len 1), (10, .int .i64 a), (51, .fs 2 xs fl), (52, .int .i64 n), (53, .int .i64 i)], [.cells w ys] => aIf (catG xs a n i && catG2 w ver len xs ys) (k (.exit 4) [(9, .sl 0 ver 0 len 1), (10, .int .i64 (sumR xs xs.length : Int)), (51, .fs 2 xs fl), (52, .int .i64 n), (53, .int .i64 n), (54, .bool false)] [.cells ver (catP xs xs.length xs.length)]) none
  | [(9, .fs 1 zs gl), (10, .int .i64 a), (51, .fs 2 xs fl), (52, .int .i64 n), (53, .int .i64 i)], [] => aIf (catG xs a n i && badE xs xs.length 0 == 0 && sumR xs xs.length == 0) (k (.exit 4) [(9, .fs 1 zs gl), (10, .int .i64 0), (51, .fs 2 xs fl), (52, .int .i64 n), (53, .int .i64 n), (54, .bool false)] []) none
  | _, _ => none
noncomputable def C22 : Ctx := (ctx E T22 [(2, L22_2), (11, L22_11), (23, L22_23), (20, L22_20)] [(0, [0]), (1, [0, 14, 15, 16]), (2, [0, 14, 15, 16, 17]), (3, [0, 5, 14, 15, 16]), (4, [0, 5, 14, 15, 16, 27]), (5, [2, 3]), (6, [0, 14, 15, 16, 32]), (7, [2, 3]), (8, [0, 14, 15, 16]), (9, [0, 6]), (10, [0, 6, 34, 35, 36]), (11, [0, 6, 34, 35, 36, 37]), (12, [0, 6, 8, 34, 35, 36]), (13, [0, 6, 34, 35, 36]), (14, [0, 6, 34, 35, 36, 45]), (15, [2, 3]), (16, [0, 6, 34, 35, 36]), (17, [0, 9]), (18, [0, 9, 10]), (19, [9, 10, 51, 52, 53]), (20, [9, 10, 51, 52, 53, 54]), (21, [9, 10, 12, 51, 52, 53]), (22, [9, 10, 12, 51, 52, 53, 58, 59]), (23, [9, 10, 12, 51, 52, 53, 58, 59, 60]), (24, [9, 10, 12, 13, 51, 52, 53, 58, 59]), (25, [9, 10, 12, 51, 52, 53, 58, 59]), (26, [9, 10, 12, 51, 52, 53, 58, 59]), (27, [9, 10, 51, 52, 53]), (28, [9, 10, 51, 52, 53]), (29, [2, 3]), (1000002, [0, 14, 15, 16]), (1000011, [0, 6, 34, 35, 36]), (1000020, [9, 10, 51, 52, 53]), (1000023, [9, 10, 12, 51, 52, 53, 58, 59])] [] 83 70)
theorem C22_ok : CtxOK Try.prog C22 := ctx_ok E_ok E_flds mixed T22_ok
theorem C22_l0 : C22.loop (loopId (loopB Try.f22 0)) = some L22_2 := by kernel_rfl
theorem C22_l1 : C22.loop (loopId (loopB Try.f22 1)) = some L22_11 := by kernel_rfl
theorem C22_l2 : C22.loop (loopId (loopB Try.f22 2)) = some L22_20 := by kernel_rfl
theorem C22_l3 : C22.loop (loopId (loopB Try.f22 3)) = some L22_23 := by kernel_rfl
theorem L22_23_in : LoopsOK C22 (loopB Try.f22 3) := LoopsOK.within 0 (by kernel_rfl) (fun j hj S hS => by
  omega)
theorem M22_23a (ver len : Nat) (a : Int) (xs : List AV) (fl : SF) (n i x y : Int) (w : Nat) (ys : List AV) (c v : Int) (k : KC) : headedK C22 (loopB Try.f22 3) [(9, .sl 0 ver 0 len 1), (10, .int .i64 a), (12, .ptr 1 0 0), (51, .fs 2 xs fl), (52, .int .i64 n), (53, .int .i64 i), (58, .int .i64 x), (59, .int .i64 y)] [.cells w ys, .cells 0 [.int .i64 c, .int .u64 v]] k =
  aIf (decide (y < x))
  (aIf (decide (IntKind.u64.wrap (IntKind.i64.wrap (IntKind.i64.wrap (c - 1) - y)) < 0)) none
    (aIf
      (Pl.setG w ver len ys (IntKind.i64.wrap (a + y))
        (v.fdiv (2 ^ min (IntKind.u64.wrap (IntKind.i64.wrap (IntKind.i64.wrap (c - 1) - y))).toNat 64)))
      (k AExit.normal
        [(9, AV.sl 0 ver 0 len 1), (10, AV.int IntKind.i64 a), (12, AV.ptr 1 0 0), (51, AV.fs 2 xs fl),
          (52, AV.int IntKind.i64 n), (53, AV.int IntKind.i64 i), (58, AV.int IntKind.i64 x),
          (59, AV.int IntKind.i64 (IntKind.i64.wrap (y + 1)))]
        [AO.cells ver
            (Pl.setV ys (IntKind.i64.wrap (a + y)).toNat
              (v.fdiv (2 ^ min (IntKind.u64.wrap (IntKind.i64.wrap (IntKind.i64.wrap (c - 1) - y))).toNat 64) % 2)),
          AO.cells 0 [AV.int IntKind.i64 c, AV.int IntKind.u64 v]])
      none))
  (k (AExit.exit 6)
    [(9, AV.sl 0 ver 0 len 1), (10, AV.int IntKind.i64 a), (12, AV.ptr 1 0 0), (51, AV.fs 2 xs fl),
      (52, AV.int IntKind.i64 n), (53, AV.int IntKind.i64 i), (58, AV.int IntKind.i64 x), (59, AV.int IntKind.i64 y),
      (60, AV.bool (decide (y < x)))]
    [AO.cells w ys, AO.cells 0 [AV.int IntKind.i64 c, AV.int IntKind.u64 v]]) := by kernel_rfl
theorem M22_23b (zs : List AV) (gl : SF) (a : Int) (xs : List AV) (fl : SF) (n i x y c v : Int) (k : KC) : headedK C22 (loopB Try.f22 3) [(9, .fs 1 zs gl), (10, .int .i64 a), (12, .ptr 0 0 0), (51, .fs 2 xs fl), (52, .int .i64 n), (53, .int .i64 i), (58, .int .i64 x), (59, .int .i64 y)] [.cells 0 [.int .i64 c, .int .u64 v]] k =
  aIf (decide (y < x)) (aIf (decide (IntKind.u64.wrap (IntKind.i64.wrap (IntKind.i64.wrap (c - 1) - y)) < 0)) none none)
  (k (AExit.exit 6)
    [(9, AV.fs 1 zs gl), (10, AV.int IntKind.i64 a), (12, AV.ptr 0 0 0), (51, AV.fs 2 xs fl),
      (52, AV.int IntKind.i64 n), (53, AV.int IntKind.i64 i), (58, AV.int IntKind.i64 x), (59, AV.int IntKind.i64 y),
      (60, AV.bool (decide (y < x)))]
    [AO.cells 0 [AV.int IntKind.i64 c, AV.int IntKind.u64 v]]) := by kernel_rfl
theorem L22_23_ok : LoopSum C22 (loopB Try.f22 3) L22_23 := LoopSum.of C22_ok L22_23_in (fun ts H => by
  unfold L22_23
  split
  · rename_i ver len a xs fl n i x y w ys c v
    rcases Bool.eq_false_or_eq_true (putG w ver len ys a c v x y) with hp | hp
    · refine .inr ?_
      simp only [aIf_pos hp]
      obtain ⟨rfl, rfl, hL, hu, ha, rfl, rfl, hn0, hn1, han, hv0, hv1⟩ := putG_of hp
      obtain ⟨a, rfl⟩ := Int.eq_ofNat_of_zero_le ha
      obtain ⟨c, rfl⟩ := Int.eq_ofNat_of_zero_le hn0
      have main : ∀ d j : Nat, j + d = c → ∃ m, ∀ k, aIterK m (headedK C22 (loopB Try.f22 3)) [(9, .sl 0 w 0 ys.length 1), (10, .int .i64 (a : Int)), (12, .ptr 1 0 0), (51, .fs 2 xs fl), (52, .int .i64 n), (53, .int .i64 i), (58, .int .i64 (c : Int)), (59, .int .i64 (j : Int))] [.cells w (putL ys a (vbit v c) j), .cells 0 [.int .i64 (c : Int), .int .u64 v]] k =
          k (.exit 6) [(9, .sl 0 w 0 ys.length 1), (10, .int .i64 (a : Int)), (12, .ptr 1 0 0), (51, .fs 2 xs fl), (52, .int .i64 n), (53, .int .i64 i), (58, .int .i64 (c : Int)), (59, .int .i64 (c : Int)), (60, .bool false)] [.cells w (putL ys a (vbit v c) c), .cells 0 [.int .i64 (c : Int), .int .u64 v]] := by
        intro d
        induction d with
        | zero =>
          intro j hj
          obtain rfl : j = c := by omega
          refine ⟨1, fun k => ?_⟩
          rw [aIterK, M22_23a]
          simp only [dltf, aIf_false]
        | succ d ih =>
          intro j hj
          obtain ⟨m, hm⟩ := ih (j + 1) (by omega)
          refine ⟨m + 1, fun k => ?_⟩
          have r := shr_range hv0 hv1 (c - 1 - j)
          have e3 : min (c - 1 - j) 64 = c - 1 - j := by omega
          rw [aIterK, M22_23a, aIf_pos (dlt (by omega)), sh_n1 (by omega) (by omega), u64nn (by omega), dnn, aIf_false, i64a (by omega), i64s (by omega), Int.toNat_natCast, e3, shr_eq, Int.toNat_natCast,
            setG_ok (by rw [putL_length]) hL (putL_u8 hu j fun i _ => vbit_01 v c i) (by omega) (by omega) r.1 r.2, aIf_true]
          exact hm k
      exact (main c 0 (by omega)).imp fun m hm k => (hm k).symm
    · exact .inl fun k => by rw [aIf_neg hp]
  · rename_i zs gl a xs fl n i x y c v
    rcases Bool.eq_false_or_eq_true (x == 0 && y == 0) with hp | hp
    · refine .inr ?_
      simp only [aIf_pos hp]
      simp only [Bool.and_eq_true, beq_iff_eq] at hp
      obtain ⟨rfl, rfl⟩ := hp
      refine ⟨1, fun k => ?_⟩
      rw [aIterK, M22_23b]
      rfl
    · exact .inl fun k => by rw [aIf_neg hp]
  · exact .inl fun k => rfl)
theorem L22_20_in : LoopsOK C22 (loopB Try.f22 2) := LoopsOK.within 1 (by kernel_rfl) (fun j hj S hS => by
  match j, hj with
  | 0, _ =>
    have e : C22.loop (loopId ((loopsOf (loopB Try.f22 2)).getD 0 .skip)) = some L22_23 := by kernel_rfl
    rw [e] at hS; cases hS; exact (show loopB Try.f22 3 = (loopsOf (loopB Try.f22 2)).getD 0 .skip by kernel_rfl) ▸ L22_23_ok
  | n + 1, hj => omega)
theorem M22_20a (ver len : Nat) (a : Int) (xs : List AV) (fl : SF) (n i : Int) (w : Nat) (ys : List AV) (k : KC) : headedK C22 (loopB Try.f22 2) [(9, .sl 0 ver 0 len 1), (10, .int .i64 a), (51, .fs 2 xs fl), (52, .int .i64 n), (53, .int .i64 i)] [.cells w ys] k =
  aIf (decide (i < n))
  (aIf (decide (0 ≤ i))
    (aIf (decide (i < (↑xs.length : Int)))
      (aIf ((xs.getD i.toNat AV.junk).cells.length == 2)
        (aIf
          (([(xs.getD i.toNat AV.junk).cells.getD 0 AV.junk, (xs.getD i.toNat AV.junk).cells.getD 1 AV.junk].getD 0
                AV.junk).isInt
            IntKind.i64)
          (aIf
            (([(xs.getD i.toNat AV.junk).cells.getD 0 AV.junk, (xs.getD i.toNat AV.junk).cells.getD 1 AV.junk].getD 1
                  AV.junk).isInt
              IntKind.u64)
            (aIf
              (Pl.putG w ver len ys a
                ([(xs.getD i.toNat AV.junk).cells.getD 0 AV.junk, (xs.getD i.toNat AV.junk).cells.getD 1 AV.junk].getD 0
                    AV.junk).toInt
                ([(xs.getD i.toNat AV.junk).cells.getD 0 AV.junk, (xs.getD i.toNat AV.junk).cells.getD 1 AV.junk].getD 1
                    AV.junk).toInt
                ([(xs.getD i.toNat AV.junk).cells.getD 0 AV.junk, (xs.getD i.toNat AV.junk).cells.getD 1 AV.junk].getD 0
                    AV.junk).toInt
                0)
              (aIf
                (true &&
                  (AV.uptoL 1
                      (Pl.putL ys a.toNat
                        (Pl.vbit
                          ([(xs.getD i.toNat AV.junk).cells.getD 0 AV.junk,
                                  (xs.getD i.toNat AV.junk).cells.getD 1 AV.junk].getD
                              1 AV.junk).toInt
                          ([(xs.getD i.toNat AV.junk).cells.getD 0 AV.junk,
                                    (xs.getD i.toNat AV.junk).cells.getD 1 AV.junk].getD
                                0 AV.junk).toInt.toNat)
                        ([(xs.getD i.toNat AV.junk).cells.getD 0 AV.junk,
                                  (xs.getD i.toNat AV.junk).cells.getD 1 AV.junk].getD
                              0 AV.junk).toInt.toNat) &&
                    true))
                (k AExit.normal
                  [(9, AV.sl 0 ver 0 len 1),
                    (10,
                      AV.int IntKind.i64
                        (IntKind.i64.wrap
                          (a +
                            ([(xs.getD i.toNat AV.junk).cells.getD 0 AV.junk,
                                    (xs.getD i.toNat AV.junk).cells.getD 1 AV.junk].getD
                                0 AV.junk).toInt))),
                    (51, AV.fs 2 xs fl), (52, AV.int IntKind.i64 n),
                    (53, AV.int IntKind.i64 (IntKind.i64.wrap (i + 1)))]
                  [AO.cells ver
                      (Pl.putL ys a.toNat
                        (Pl.vbit
                          ([(xs.getD i.toNat AV.junk).cells.getD 0 AV.junk,
                                  (xs.getD i.toNat AV.junk).cells.getD 1 AV.junk].getD
                              1 AV.junk).toInt
                          ([(xs.getD i.toNat AV.junk).cells.getD 0 AV.junk,
                                    (xs.getD i.toNat AV.junk).cells.getD 1 AV.junk].getD
                                0 AV.junk).toInt.toNat)
                        ([(xs.getD i.toNat AV.junk).cells.getD 0 AV.junk,
                                  (xs.getD i.toNat AV.junk).cells.getD 1 AV.junk].getD
                              0 AV.junk).toInt.toNat)])
                (k AExit.normal
                  [(9, AV.sl 0 ver 0 len 1),
                    (10,
                      AV.int IntKind.i64
                        (IntKind.i64.wrap
                          (a +
                            ([(xs.getD i.toNat AV.junk).cells.getD 0 AV.junk,
                                    (xs.getD i.toNat AV.junk).cells.getD 1 AV.junk].getD
                                0 AV.junk).toInt))),
                    (51, AV.fs 2 xs fl), (52, AV.int IntKind.i64 n),
                    (53, AV.int IntKind.i64 (IntKind.i64.wrap (i + 1)))]
                  [AO.cells ver
                      (Pl.putL ys a.toNat
                        (Pl.vbit
                          ([(xs.getD i.toNat AV.junk).cells.getD 0 AV.junk,
                                  (xs.getD i.toNat AV.junk).cells.getD 1 AV.junk].getD
                              1 AV.junk).toInt
                          ([(xs.getD i.toNat AV.junk).cells.getD 0 AV.junk,
                                    (xs.getD i.toNat AV.junk).cells.getD 1 AV.junk].getD
                                0 AV.junk).toInt.toNat)
                        ([(xs.getD i.toNat AV.junk).cells.getD 0 AV.junk,
                                  (xs.getD i.toNat AV.junk).cells.getD 1 AV.junk].getD
                              0 AV.junk).toInt.toNat),
                    AO.cells 0
                      [AV.int IntKind.i64
                          ([(xs.getD i.toNat AV.junk).cells.getD 0 AV.junk,
                                  (xs.getD i.toNat AV.junk).cells.getD 1 AV.junk].getD
                              0 AV.junk).toInt,
                        AV.int IntKind.u64
                          ([(xs.getD i.toNat AV.junk).cells.getD 0 AV.junk,
                                  (xs.getD i.toNat AV.junk).cells.getD 1 AV.junk].getD
                              1 AV.junk).toInt]]))
              none)
            none)
          none)
        none)
      none)
    none)
  (k (AExit.exit 4)
    [(9, AV.sl 0 ver 0 len 1), (10, AV.int IntKind.i64 a), (51, AV.fs 2 xs fl), (52, AV.int IntKind.i64 n),
      (53, AV.int IntKind.i64 i), (54, AV.bool (decide (i < n)))]
    [AO.cells w ys]) := by kernel_rfl
theorem M22_20b (zs : List AV) (gl : SF) (a : Int) (xs : List AV) (fl : SF) (n i : Int) (k : KC) : headedK C22 (loopB Try.f22 2) [(9, .fs 1 zs gl), (10, .int .i64 a), (51, .fs 2 xs fl), (52, .int .i64 n), (53, .int .i64 i)] [] k =
  aIf (decide (i < n))
  (aIf (decide (0 ≤ i))
    (aIf (decide (i < (↑xs.length : Int)))
      (aIf ((xs.getD i.toNat AV.junk).cells.length == 2)
        (aIf
          (([(xs.getD i.toNat AV.junk).cells.getD 0 AV.junk, (xs.getD i.toNat AV.junk).cells.getD 1 AV.junk].getD 0
                AV.junk).isInt
            IntKind.i64)
          (aIf
            (([(xs.getD i.toNat AV.junk).cells.getD 0 AV.junk, (xs.getD i.toNat AV.junk).cells.getD 1 AV.junk].getD 1
                  AV.junk).isInt
              IntKind.u64)
            (aIf
              (([(xs.getD i.toNat AV.junk).cells.getD 0 AV.junk, (xs.getD i.toNat AV.junk).cells.getD 1 AV.junk].getD 0
                      AV.junk).toInt ==
                  0 &&
                true)
              (k AExit.normal
                [(9, AV.fs 1 zs gl),
                  (10,
                    AV.int IntKind.i64
                      (IntKind.i64.wrap
                        (a +
                          ([(xs.getD i.toNat AV.junk).cells.getD 0 AV.junk,
                                  (xs.getD i.toNat AV.junk).cells.getD 1 AV.junk].getD
                              0 AV.junk).toInt))),
                  (51, AV.fs 2 xs fl), (52, AV.int IntKind.i64 n), (53, AV.int IntKind.i64 (IntKind.i64.wrap (i + 1)))]
                [])
              none)
            none)
          none)
        none)
      none)
    none)
  (k (AExit.exit 4)
    [(9, AV.fs 1 zs gl), (10, AV.int IntKind.i64 a), (51, AV.fs 2 xs fl), (52, AV.int IntKind.i64 n),
      (53, AV.int IntKind.i64 i), (54, AV.bool (decide (i < n)))]
    []) := by kernel_rfl
theorem L22_20_ok : LoopSum C22 (loopB Try.f22 2) L22_20 := LoopSum.of C22_ok L22_20_in (fun ts H => by
  unfold L22_20
  split
  · rename_i ver len a xs fl n i w ys
    rcases Bool.eq_false_or_eq_true (catG xs a n i && catG2 w ver len xs ys) with hp | hp
    · refine .inr ?_
      simp only [aIf_pos hp]
      rw [Bool.and_eq_true] at hp
      obtain ⟨hp, hp2⟩ := hp
      obtain ⟨hr, hL, rfl, rfl, rfl⟩ := catG_of hp
      obtain ⟨rfl, rfl, hs, hb, rfl⟩ := catG2_of hp2
      have main : ∀ d j : Nat, j + d = xs.length → ∃ m, ∀ k, aIterK m (headedK C22 (loopB Try.f22 2)) [(9, .sl 0 w 0 ((sumR xs xs.length + 7) / 8) 1), (10, .int .i64 (sumR xs j : Int)), (51, .fs 2 xs fl), (52, .int .i64 (xs.length : Int)), (53, .int .i64 (j : Int))] [.cells w (catP xs xs.length j)] k =
          k (.exit 4) [(9, .sl 0 w 0 ((sumR xs xs.length + 7) / 8) 1), (10, .int .i64 (sumR xs xs.length : Int)), (51, .fs 2 xs fl), (52, .int .i64 (xs.length : Int)), (53, .int .i64 (xs.length : Int)), (54, .bool false)] [.cells w (catP xs xs.length xs.length)] := by
        intro d
        induction d with
        | zero =>
          intro j hj
          obtain rfl : j = xs.length := by omega
          refine ⟨1, fun k => ?_⟩
          rw [aIterK, M22_20a, dltf]; rfl
        | succ d ih =>
          intro j hj
          have hjl : j < xs.length := by omega
          obtain ⟨he, ⟨n0, n1⟩, v0, v1⟩ := runs_get hr j hjl
          obtain ⟨b0, b1, b2⟩ := badE_ok hb j (by omega) (by omega)
          have hm1 := sumR_mono (xs := xs) (show j + 1 ≤ xs.length by omega)
          have hsum : IntKind.i64.wrap ((sumR xs j : Int) + rN xs j) = (sumR xs (j + 1) : Int) := by
            simp only [sumR]
            rw [show (sumR xs j : Int) + rN xs j = ((sumR xs j + (rN xs j).toNat : Nat) : Int) by omega]
            simp only [sumR] at hm1
            exact i64n (by omega)
          have hg : putG w w ((sumR xs xs.length + 7) / 8) (catP xs xs.length j) (sumR xs j : Int) (rN xs j) (rV xs j) (rN xs j) 0 = true := by
            simp only [putG, Bool.and_eq_true, beq_iff_eq, decide_eq_true_eq]
            simp only [sumR] at hm1
            exact ⟨⟨⟨⟨⟨⟨⟨⟨⟨⟨⟨trivial, catP_length _ _ _⟩, by omega⟩, catP_u8 (by omega)⟩, by omega⟩, trivial⟩, trivial⟩, b0⟩, b1⟩, by omega⟩, v0⟩, by omega⟩
          have hup : AV.uptoL 1 (putL (catP xs xs.length j) (sumR xs j) (vbit (rV xs j) (rN xs j).toNat) (rN xs j).toNat) = true := ints_upto (putL_u8 (catP_u8 (by omega)) _ fun i _ => vbit_01 _ _ i)
          obtain ⟨m, hm⟩ := ih (j + 1) (by omega)
          refine ⟨m + 1, fun k => ?_⟩
          rw [← hm k, aIterK, M22_20a]
          simp only [Int.toNat_natCast, he, AV.cells, List.length_cons, List.length_nil, List.getD_cons_zero, List.getD_cons_succ, Nat.reduceAdd, isInt_self, AV.toInt, beq_self_eq_true, dlt hjl, dnn', aIf_true, hg, hup, Bool.and_self, hsum, i64s (show j + 1 < 9223372036854775808 by omega), catP_succ hjl]
      exact (main xs.length 0 (by omega)).imp fun m hm k => (hm k).symm
    · exact .inl fun k => by rw [aIf_neg hp]
  · rename_i zs gl a xs fl n i
    rcases Bool.eq_false_or_eq_true (catG xs a n i && badE xs xs.length 0 == 0 && sumR xs xs.length == 0) with hp | hp
    · refine .inr ?_
      simp only [aIf_pos hp]
      rw [Bool.and_eq_true, Bool.and_eq_true, beq_iff_eq, beq_iff_eq] at hp
      obtain ⟨⟨hp, hb⟩, hs⟩ := hp
      obtain ⟨hr, hL, rfl, rfl, rfl⟩ := catG_of hp
      have main : ∀ d j : Nat, j + d = xs.length → ∃ m, ∀ k, aIterK m (headedK C22 (loopB Try.f22 2)) [(9, .fs 1 zs gl), (10, .int .i64 0), (51, .fs 2 xs fl), (52, .int .i64 (xs.length : Int)), (53, .int .i64 (j : Int))] [] k =
          k (.exit 4) [(9, .fs 1 zs gl), (10, .int .i64 0), (51, .fs 2 xs fl), (52, .int .i64 (xs.length : Int)), (53, .int .i64 (xs.length : Int)), (54, .bool false)] [] := by
        intro d
        induction d with
        | zero =>
          intro j hj
          obtain rfl : j = xs.length := by omega
          refine ⟨1, fun k => ?_⟩
          rw [aIterK, M22_20b, dltf]; rfl
        | succ d ih =>
          intro j hj
          have hjl : j < xs.length := by omega
          obtain ⟨he, ⟨n0, n1⟩, v0, v1⟩ := runs_get hr j hjl
          obtain ⟨b0, b1, b2⟩ := badE_ok hb j (by omega) (by omega)
          have hm1 := sumR_mono (xs := xs) (show j + 1 ≤ xs.length by omega)
          have hz : rN xs j = 0 := by simp only [sumR] at hm1; omega
          rw [hz] at he
          obtain ⟨m, hm⟩ := ih (j + 1) (by omega)
          refine ⟨m + 1, fun k => ?_⟩
          rw [← hm k, aIterK, M22_20b]
          simp only [Int.toNat_natCast, he, AV.cells, List.length_cons, List.length_nil, List.getD_cons_zero, List.getD_cons_succ, Nat.reduceAdd, isInt_self, AV.toInt, beq_self_eq_true, dlt hjl, dnn', aIf_true, Bool.and_self, i64s (show j + 1 < 9223372036854775808 by omega)]
          rfl
      exact (main xs.length 0 (by omega)).imp fun m hm k => (hm k).symm
    · exact .inl fun k => by rw [aIf_neg hp]
  · exact .inl fun k => rfl)
theorem L22_11_in : LoopsOK C22 (loopB Try.f22 1) := LoopsOK.within 0 (by kernel_rfl) (fun j hj S hS => by
  omega)
theorem M22_11a (xs : List AV) (fl : SF) (a : Int) (ys : List AV) (gl : SF) (n i : Int) (k : KC) : headedK C22 (loopB Try.f22 1) [(0, .fs 2 xs fl), (6, .int .i64 a), (34, .fs 2 ys gl), (35, .int .i64 n), (36, .int .i64 i)] [] k =
  aIf (decide (i < n))
  (aIf (decide (0 ≤ i))
    (aIf (decide (i < (↑ys.length : Int)))
      (aIf ((ys.getD i.toNat AV.junk).cells.length == 2)
        (aIf
          (([(ys.getD i.toNat AV.junk).cells.getD 0 AV.junk, (ys.getD i.toNat AV.junk).cells.getD 1 AV.junk].getD 0
                AV.junk).isInt
            IntKind.i64)
          (aIf
            (([(ys.getD i.toNat AV.junk).cells.getD 0 AV.junk, (ys.getD i.toNat AV.junk).cells.getD 1 AV.junk].getD 1
                  AV.junk).isInt
              IntKind.u64)
            (aIf
              (decide
                (IntKind.i64.wrap
                    (a +
                      ([(ys.getD i.toNat AV.junk).cells.getD 0 AV.junk,
                              (ys.getD i.toNat AV.junk).cells.getD 1 AV.junk].getD
                          0 AV.junk).toInt) >
                  65536))
              (k AExit.ret [(2, AV.fs 0 [] SF.nil), (3, AV.int IntKind.i64 3)] [])
              (k AExit.normal
                [(0, AV.fs 2 xs fl),
                  (6,
                    AV.int IntKind.i64
                      (IntKind.i64.wrap
                        (a +
                          ([(ys.getD i.toNat AV.junk).cells.getD 0 AV.junk,
                                  (ys.getD i.toNat AV.junk).cells.getD 1 AV.junk].getD
                              0 AV.junk).toInt))),
                  (34, AV.fs 2 ys gl), (35, AV.int IntKind.i64 n), (36, AV.int IntKind.i64 (IntKind.i64.wrap (i + 1)))]
                []))
            none)
          none)
        none)
      none)
    none)
  (k (AExit.exit 2)
    [(0, AV.fs 2 xs fl), (6, AV.int IntKind.i64 a), (34, AV.fs 2 ys gl), (35, AV.int IntKind.i64 n),
      (36, AV.int IntKind.i64 i), (37, AV.bool (decide (i < n)))]
    []) := by kernel_rfl
theorem L22_11_ok : LoopSum C22 (loopB Try.f22 1) L22_11 := LoopSum.of C22_ok L22_11_in (fun ts H => by
  unfold L22_11
  split
  · rename_i xs fl a ys gl n i
    rcases Bool.eq_false_or_eq_true (catG ys a n i && badE ys ys.length 0 == 0) with hp | hp
    · refine .inr ?_
      simp only [aIf_pos hp]
      rw [Bool.and_eq_true, beq_iff_eq] at hp
      obtain ⟨hp, hb⟩ := hp
      obtain ⟨hr, hL, rfl, rfl, rfl⟩ := catG_of hp
      have main : ∀ d j : Nat, j + d = ys.length → sumR ys j ≤ 65536 → ∃ m, ∀ k, aIterK m (headedK C22 (loopB Try.f22 1)) [(0, .fs 2 xs fl), (6, .int .i64 (sumR ys j : Int)), (34, .fs 2 ys gl), (35, .int .i64 (ys.length : Int)), (36, .int .i64 (j : Int))] [] k =
          aIf (Nat.ble (sumR ys ys.length) 65536) (k (.exit 2) [(0, .fs 2 xs fl), (6, .int .i64 (sumR ys ys.length : Int)), (34, .fs 2 ys gl), (35, .int .i64 (ys.length : Int)), (36, .int .i64 (ys.length : Int)), (37, .bool false)] []) (k .ret [(2, .fs 0 [] .nil), (3, .int .i64 3)] []) := by
        intro d
        induction d with
        | zero =>
          intro j hj hs
          obtain rfl : j = ys.length := by omega
          refine ⟨1, fun k => ?_⟩
          rw [aIterK, M22_11a, dltf, Nat.ble_eq_true_of_le hs]; rfl
        | succ d ih =>
          intro j hj hs
          have hjl : j < ys.length := by omega
          obtain ⟨he, ⟨n0, n1⟩, v0, v1⟩ := runs_get hr j hjl
          obtain ⟨b0, b1, b2⟩ := badE_ok hb j (by omega) (by omega)
          have hsum : IntKind.i64.wrap ((sumR ys j : Int) + rN ys j) = (sumR ys (j + 1) : Int) := by
            simp only [sumR]
            rw [show (sumR ys j : Int) + rN ys j = ((sumR ys j + (rN ys j).toNat : Nat) : Int) by omega]
            exact i64n (by omega)
          by_cases c : sumR ys (j + 1) ≤ 65536
          · obtain ⟨m, hm⟩ := ih (j + 1) (by omega) c
            refine ⟨m + 1, fun k => ?_⟩
            rw [← hm k, aIterK, M22_11a]
            simp only [Int.toNat_natCast, he, AV.cells, List.length_cons, List.length_nil, List.getD_cons_zero, List.getD_cons_succ, Nat.reduceAdd, isInt_self, AV.toInt, beq_self_eq_true, dlt hjl, dnn', aIf_true, hsum, decide_eq_false (show ¬ (sumR ys (j + 1) : Int) > 65536 by omega), aIf_false, i64s (show j + 1 < 9223372036854775808 by omega)]
          · refine ⟨1, fun k => ?_⟩
            have hm := sumR_mono (xs := ys) (show j + 1 ≤ ys.length by omega)
            have hbl : Nat.ble (sumR ys ys.length) 65536 = false := by
              rw [Bool.eq_false_iff]; intro h; have := Nat.le_of_ble_eq_true h; omega
            rw [aIterK, M22_11a, hbl]
            simp only [Int.toNat_natCast, he, AV.cells, List.length_cons, List.length_nil, List.getD_cons_zero, List.getD_cons_succ, Nat.reduceAdd, isInt_self, AV.toInt, beq_self_eq_true, dlt hjl, dnn', aIf_true, hsum, decide_eq_true (show (sumR ys (j + 1) : Int) > 65536 by omega), aIf_false]
      exact (main ys.length 0 (by omega) (Nat.zero_le _)).imp fun m hm k => (hm k).symm
    · exact .inl fun k => by rw [aIf_neg hp]
  · exact .inl fun k => rfl)
theorem L22_2_in : LoopsOK C22 (loopB Try.f22 0) := LoopsOK.within 0 (by kernel_rfl) (fun j hj S hS => by
  omega)
theorem M22_2a (xs : List AV) (fl : SF) (ys : List AV) (gl : SF) (n i : Int) (k : KC) : headedK C22 (loopB Try.f22 0) [(0, .fs 2 xs fl), (14, .fs 2 ys gl), (15, .int .i64 n), (16, .int .i64 i)] [] k =
  aIf (decide (i < n))
  (aIf (decide (0 ≤ i))
    (aIf (decide (i < (↑ys.length : Int)))
      (aIf ((ys.getD i.toNat AV.junk).cells.length == 2)
        (aIf
          (([(ys.getD i.toNat AV.junk).cells.getD 0 AV.junk, (ys.getD i.toNat AV.junk).cells.getD 1 AV.junk].getD 0
                AV.junk).isInt
            IntKind.i64)
          (aIf
            (([(ys.getD i.toNat AV.junk).cells.getD 0 AV.junk, (ys.getD i.toNat AV.junk).cells.getD 1 AV.junk].getD 1
                  AV.junk).isInt
              IntKind.u64)
            (aIf
              (decide
                (([(ys.getD i.toNat AV.junk).cells.getD 0 AV.junk, (ys.getD i.toNat AV.junk).cells.getD 1 AV.junk].getD
                      0 AV.junk).toInt <
                  0))
              (k AExit.ret [(2, AV.fs 0 [] SF.nil), (3, AV.int IntKind.i64 30)] [])
              (aIf
                (decide
                  (([(ys.getD i.toNat AV.junk).cells.getD 0 AV.junk,
                            (ys.getD i.toNat AV.junk).cells.getD 1 AV.junk].getD
                        0 AV.junk).toInt >
                    64))
                (k AExit.ret [(2, AV.fs 0 [] SF.nil), (3, AV.int IntKind.i64 30)] [])
                (aIf
                  (shOK Sh.bool
                    (R53
                      [AV.int IntKind.u64
                          ([(ys.getD i.toNat AV.junk).cells.getD 0 AV.junk,
                                  (ys.getD i.toNat AV.junk).cells.getD 1 AV.junk].getD
                              1 AV.junk).toInt,
                        AV.int IntKind.i64
                          ([(ys.getD i.toNat AV.junk).cells.getD 0 AV.junk,
                                  (ys.getD i.toNat AV.junk).cells.getD 1 AV.junk].getD
                              0 AV.junk).toInt]))
                  (aIf
                    (sel
                        (R53
                          [AV.int IntKind.u64
                              ([(ys.getD i.toNat AV.junk).cells.getD 0 AV.junk,
                                      (ys.getD i.toNat AV.junk).cells.getD 1 AV.junk].getD
                                  1 AV.junk).toInt,
                            AV.int IntKind.i64
                              ([(ys.getD i.toNat AV.junk).cells.getD 0 AV.junk,
                                      (ys.getD i.toNat AV.junk).cells.getD 1 AV.junk].getD
                                  0 AV.junk).toInt])
                        []).toBool
                    (k AExit.ret [(2, AV.fs 0 [] SF.nil), (3, AV.int IntKind.i64 1)] [])
                    (k AExit.normal
                      [(0, AV.fs 2 xs fl), (14, AV.fs 2 ys gl), (15, AV.int IntKind.i64 n),
                        (16, AV.int IntKind.i64 (IntKind.i64.wrap (i + 1)))]
                      []))
                  none)))
            none)
          none)
        none)
      none)
    none)
  (k (AExit.exit 0)
    [(0, AV.fs 2 xs fl), (14, AV.fs 2 ys gl), (15, AV.int IntKind.i64 n), (16, AV.int IntKind.i64 i),
      (17, AV.bool (decide (i < n)))]
    []) := by kernel_rfl
theorem L22_2_ok : LoopSum C22 (loopB Try.f22 0) L22_2 := LoopSum.of C22_ok L22_2_in (fun ts H => by
  unfold L22_2
  split
  · rename_i xs fl ys gl n i
    rcases Bool.eq_false_or_eq_true (catG ys 0 n i) with hp | hp
    · refine .inr ?_
      simp only [aIf_pos hp]
      obtain ⟨hr, hL, rfl, _, rfl⟩ := catG_of hp
      have main : ∀ d j : Nat, j + d = ys.length → badE ys ys.length 0 = badE ys d j → ∃ m, ∀ k, aIterK m (headedK C22 (loopB Try.f22 0)) [(0, .fs 2 xs fl), (14, .fs 2 ys gl), (15, .int .i64 (ys.length : Int)), (16, .int .i64 (j : Int))] [] k =
          aIf (badE ys ys.length 0 == 0) (k (.exit 0) [(0, .fs 2 xs fl), (14, .fs 2 ys gl), (15, .int .i64 (ys.length : Int)), (16, .int .i64 (ys.length : Int)), (17, .bool false)] []) (k .ret [(2, .fs 0 [] .nil), (3, .int .i64 (badE ys ys.length 0))] []) := by
        intro d
        induction d with
        | zero =>
          intro j hj hb
          obtain rfl : j = ys.length := by omega
          refine ⟨1, fun k => ?_⟩
          rw [hb, aIterK, M22_2a, dltf]; rfl
        | succ d ih =>
          intro j hj hb
          have hjl : j < ys.length := by omega
          obtain ⟨he, ⟨n0, n1⟩, v0, v1⟩ := runs_get hr j hjl
          simp only [badE] at hb
          by_cases c1 : rN ys j < 0
          · refine ⟨1, fun k => ?_⟩
            rw [decide_eq_true c1] at hb
            rw [hb, aIterK, M22_2a]
            simp only [Int.toNat_natCast, he, AV.cells, List.length_cons, List.length_nil, List.getD_cons_zero, List.getD_cons_succ, Nat.reduceAdd, isInt_self, AV.toInt, beq_self_eq_true, dlt hjl, dnn', aIf_true, decide_eq_true c1]
            rfl
          by_cases c2 : rN ys j > 64
          · refine ⟨1, fun k => ?_⟩
            rw [decide_eq_true c2, Bool.or_true] at hb
            rw [hb, aIterK, M22_2a]
            simp only [Int.toNat_natCast, he, AV.cells, List.length_cons, List.length_nil, List.getD_cons_zero, List.getD_cons_succ, Nat.reduceAdd, isInt_self, AV.toInt, beq_self_eq_true, dlt hjl, dnn', aIf_true, decide_eq_false c1, aIf_false, decide_eq_true c2]
            rfl
          rw [decide_eq_false c1, decide_eq_false c2] at hb
          have hw := R53_is (v := rV ys j) (n := rN ys j) (by omega)
          cases c3 : fitB (rV ys j) (rN ys j) with
          | false =>
            refine ⟨1, fun k => ?_⟩
            rw [c3] at hb hw
            rw [hb, aIterK, M22_2a]
            simp only [Int.toNat_natCast, he, AV.cells, List.length_cons, List.length_nil, List.getD_cons_zero, List.getD_cons_succ, Nat.reduceAdd, isInt_self, AV.toInt, beq_self_eq_true, dlt hjl, dnn', aIf_true, decide_eq_false c1, aIf_false, decide_eq_false c2, hw, shOK_ret, has_bool]
            rfl
          | true =>
            rw [c3] at hb hw
            obtain ⟨m, hm⟩ := ih (j + 1) (by omega) hb
            refine ⟨m + 1, fun k => ?_⟩
            rw [← hm k, aIterK, M22_2a]
            simp only [Int.toNat_natCast, he, AV.cells, List.length_cons, List.length_nil, List.getD_cons_zero, List.getD_cons_succ, Nat.reduceAdd, isInt_self, AV.toInt, beq_self_eq_true, dlt hjl, dnn', aIf_true, decide_eq_false c1, aIf_false, decide_eq_false c2, hw, shOK_ret, has_bool, i64s (show j + 1 < 9223372036854775808 by omega)]
            rfl
      exact (main ys.length 0 (by omega) rfl).imp fun m hm k => (hm k).symm
    · exact .inl fun k => by rw [aIf_neg hp]
  · exact .inl fun k => rfl)
theorem C22_loops : ∀ c, Try.f22.body = some c → LoopsOK C22 c := LoopsOK.of 4 (by kernel_rfl) (fun j hj S hS => by
  match j, hj with
  | 0, _ => rw [C22_l0] at hS; cases hS; exact L22_2_ok
  | 1, _ => rw [C22_l1] at hS; cases hS; exact L22_11_ok
  | 2, _ => rw [C22_l2] at hS; cases hS; exact L22_20_ok
  | 3, _ => rw [C22_l3] at hS; cases hS; exact L22_23_ok
  | n + 4, hj => omega)
noncomputable def S22 : FSpec := inlineK C22 Try.f22
theorem S22_ok : SpecOK Try.prog 22 S22 := inlineK_ok C22_ok Try.func22 C22_loops
theorem En22 : Enters Try.prog 22 := ⟨_, Try.func22, by decide, rfl⟩
noncomputable def R22 (args : List AV) : Res := S22 args [] encK
noncomputable def V22 : FSpec := leafK (.tup [.ints .u8, .int .i64]) R22
theorem V22_ok : SpecOK Try.prog 22 V22 := leafK_ok S22_ok (fun _ => rfl)
theorem N22 (xs : List AV) (fl : SF) : S22 [.fs 2 xs fl] [] encK =
  aIf (Pl.catG xs 0 (↑xs.length : Int) 0)
  (aIf (Pl.badE xs xs.length 0 == 0)
    (aIf (Pl.catG xs 0 (↑xs.length : Int) 0 && Pl.badE xs xs.length 0 == 0)
      (aIf ((Pl.sumR xs xs.length).ble 65536)
        (aIf (decide (0 ≤ IntKind.i64.wrap ((IntKind.i64.wrap ((↑(Pl.sumR xs xs.length) : Int) + 7)).tdiv 8)))
          (aIf
            (decide
              (IntKind.i64.wrap ((IntKind.i64.wrap ((↑(Pl.sumR xs xs.length) : Int) + 7)).tdiv 8) ≤
                IntKind.i64.wrap ((IntKind.i64.wrap ((↑(Pl.sumR xs xs.length) : Int) + 7)).tdiv 8)))
            (aIf
              (decide
                (IntKind.i64.wrap ((IntKind.i64.wrap ((↑(Pl.sumR xs xs.length) : Int) + 7)).tdiv 8) * 1 ≤
                  281474976710656))
              (aIf
                (decide
                  (IntKind.i64.wrap ((IntKind.i64.wrap ((↑(Pl.sumR xs xs.length) : Int) + 7)).tdiv 8) ≤
                    281474976710656))
                (aIf (IntKind.i64.wrap ((IntKind.i64.wrap ((↑(Pl.sumR xs xs.length) : Int) + 7)).tdiv 8) == 0)
                  (aIf (Pl.catG xs 0 (↑xs.length : Int) 0 && Pl.badE xs xs.length 0 == 0 && Pl.sumR xs xs.length == 0)
                    (some (AEnd.ret (AV.tup [AV.fs 1 [] SF.zc, AV.int IntKind.i64 0]), [])) none)
                  (aIf
                    (Pl.catG xs 0 (↑xs.length : Int) 0 &&
                      Pl.catG2
                        ((IntKind.i64.wrap ((IntKind.i64.wrap ((↑(Pl.sumR xs xs.length) : Int) + 7)).tdiv 8)).toNat * 1)
                        ((IntKind.i64.wrap ((IntKind.i64.wrap ((↑(Pl.sumR xs xs.length) : Int) + 7)).tdiv 8)).toNat * 1)
                        (IntKind.i64.wrap ((IntKind.i64.wrap ((↑(Pl.sumR xs xs.length) : Int) + 7)).tdiv 8)).toNat xs
                        (List.replicate
                            (IntKind.i64.wrap ((IntKind.i64.wrap ((↑(Pl.sumR xs xs.length) : Int) + 7)).tdiv 8)).toNat
                            [AV.int IntKind.u8 0]).flatten)
                    (aIf
                      ((IntKind.i64.wrap ((IntKind.i64.wrap ((↑(Pl.sumR xs xs.length) : Int) + 7)).tdiv 8)).toNat * 1 ==
                        (IntKind.i64.wrap ((IntKind.i64.wrap ((↑(Pl.sumR xs xs.length) : Int) + 7)).tdiv 8)).toNat * 1)
                      (aIf
                        (decide
                          (0 +
                              (IntKind.i64.wrap
                                    ((IntKind.i64.wrap ((↑(Pl.sumR xs xs.length) : Int) + 7)).tdiv 8)).toNat *
                                1 ≤
                            (Pl.catP xs xs.length xs.length).length))
                        (aIf
                          (flatL
                            (List.take
                              ((IntKind.i64.wrap
                                    ((IntKind.i64.wrap ((↑(Pl.sumR xs xs.length) : Int) + 7)).tdiv 8)).toNat *
                                1)
                              (List.drop 0 (Pl.catP xs xs.length xs.length))))
                          (some
                            (AEnd.ret
                                (AV.tup
                                  [AV.fs 1
                                      (List.take
                                        (IntKind.i64.wrap
                                            ((IntKind.i64.wrap ((↑(Pl.sumR xs xs.length) : Int) + 7)).tdiv 8)).toNat
                                        (List.drop 0 (Pl.catP xs xs.length xs.length)))
                                      SF.any,
                                    AV.int IntKind.i64 0]),
                              []))
                          none)
                        none)
                      none)
                    none))
                none)
              none)
            none)
          none)
        (some (AEnd.ret (AV.tup [AV.fs 1 [] SF.nil, AV.int IntKind.i64 3]), [])))
      none)
    (some (AEnd.ret (AV.tup [AV.fs 1 [] SF.nil, AV.int IntKind.i64 (Pl.badE xs xs.length 0)]), [])))
  none := by kernel_rfl
theorem R22_is {xs : List AV} {fl : SF} (hr : runsB xs = true) (hL : xs.length ≤ 1200) : ∃ fl', R22 [.fs 2 xs fl] = some (.ret (.tup [.fs 1 (catX xs) fl', .int .i64 (catE xs)]), []) := by
  show ∃ fl', S22 _ [] encK = _
  have hc := catG_ok hr hL
  unfold catX catE
  rw [N22, hc]
  cases hb : badE xs xs.length 0 == 0
  · exact ⟨.nil, rfl⟩
  cases hs : Nat.ble (sumR xs xs.length) 65536
  · exact ⟨.nil, rfl⟩
  have hs' := Nat.le_of_ble_eq_true hs
  have hb' : badE xs xs.length 0 = 0 := by simpa using hb
  by_cases h4 : sumR xs xs.length = 0
  · refine ⟨.zc, ?_⟩
    have hp : catP xs xs.length xs.length = [] := List.eq_nil_of_length_eq_zero (by rw [catP_length, h4])
    rw [bytes_len (by omega), hp, h4]; rfl
  · refine ⟨.any, ?_⟩
    have hp := catP_u8 (xs := xs) (Nat.le_refl xs.length)
    have hpl := catP_length xs xs.length xs.length
    have hg := catG2_ok (w := (sumR xs xs.length + 7) / 8) rfl hs' hb'
    rw [bytes_len (by omega), flatten_rep, Int.toNat_natCast, Nat.mul_one, show List.replicate ((sumR xs xs.length + 7) / 8) (AV.int IntKind.u8 0) = zeros ((sumR xs xs.length + 7) / 8) from rfl, hg, take_all hpl, ints_flat hp, hpl, beq_self_eq_true, Nat.zero_add,
      show ((((sumR xs xs.length + 7) / 8 : Nat) : Int) == 0) = false from beq_eq_false_iff_ne.2 (by omega), dnn', decide_eq_true (Int.le_refl _), decide_eq_true (show (((sumR xs xs.length + 7) / 8 : Nat) : Int) * 1 ≤ 281474976710656 by omega), decide_eq_true (show (((sumR xs xs.length + 7) / 8 : Nat) : Int) ≤ 281474976710656 by omega), decide_eq_true (Nat.le_refl _)]
    rfl

/-- ferryman/ferrymanlaw03.FieldRuns -/
noncomputable def T7 : List (FuncId × FSpec) := [(17, S17), (18, V18), (22, V22)]
theorem T7_ok : TabOK Try.prog T7 := TabOK.cons En17 S17_ok (TabOK.cons En18 V18_ok (TabOK.cons En22 V22_ok (TabOK.nil _)))
noncomputable def L7_8 : ATs → AH → KC → Res := fun ts H k => match ts, H with
  | [(0, .fs 2 xs fl), (3, .fs 1 bs gl), (5, .int .i64 a), (6, .int .i64 i)], [] => aIf (catG xs a (xs.length : Int) i && runsIn bs xs && badE xs xs.length 0 == 0 && Nat.ble (sumR xs xs.length) 65536) (k (.exit 0) [(0, .fs 2 xs fl), (3, .fs 1 bs gl), (5, .int .i64 (sumR xs xs.length : Int)), (6, .int .i64 (xs.length : Int)), (30, .bool false)] []) none
  | _, _ => none
noncomputable def C7 : Ctx := (ctx E T7 [(8, L7_8)] [(0, [0]), (1, [0, 11]), (2, [0]), (3, [0, 3, 4]), (4, [0, 3, 20]), (5, [2]), (6, [0, 3, 5]), (7, [0, 3, 5, 6]), (8, [0, 3, 5, 6, 30]), (9, [0, 3, 5, 6]), (10, [0, 3, 5, 6, 7, 8]), (11, [0, 3, 5, 6, 54]), (12, [2]), (13, [0, 3, 5, 6]), (14, [2]), (1000008, [0, 3, 5, 6])] [] 71 70)
theorem C7_ok : CtxOK Try.prog C7 := ctx_ok E_ok E_flds mixed T7_ok
theorem C7_l0 : C7.loop (loopId (loopB Try.f7 0)) = some L7_8 := by kernel_rfl
theorem L7_8_in : LoopsOK C7 (loopB Try.f7 0) := LoopsOK.within 0 (by kernel_rfl) (fun j hj S hS => by
  omega)
theorem M7_8a (xs : List AV) (fl : SF) (bs : List AV) (gl : SF) (a i : Int) (k : KC) : headedK C7 (loopB Try.f7 0) [(0, .fs 2 xs fl), (3, .fs 1 bs gl), (5, .int .i64 a), (6, .int .i64 i)] [] k =
  aIf (decide (i < (↑xs.length : Int)))
  (aIf (decide (0 ≤ i))
    (aIf (decide (i < (↑xs.length : Int)))
      (aIf ((xs.getD i.toNat AV.junk).cells.length == 2)
        (aIf
          (([(xs.getD i.toNat AV.junk).cells.getD 0 AV.junk, (xs.getD i.toNat AV.junk).cells.getD 1 AV.junk].getD 0
                AV.junk).isInt
            IntKind.i64)
          (aIf
            (shOK (Sh.tup [Sh.int IntKind.u64, Sh.int IntKind.i64])
              (R18
                [AV.fs 1 bs gl, AV.int IntKind.i64 a,
                  AV.int IntKind.i64
                    ([(xs.getD i.toNat AV.junk).cells.getD 0 AV.junk,
                            (xs.getD i.toNat AV.junk).cells.getD 1 AV.junk].getD
                        0 AV.junk).toInt]))
            (aIf
              ((sel
                    (R18
                      [AV.fs 1 bs gl, AV.int IntKind.i64 a,
                        AV.int IntKind.i64
                          ([(xs.getD i.toNat AV.junk).cells.getD 0 AV.junk,
                                  (xs.getD i.toNat AV.junk).cells.getD 1 AV.junk].getD
                              0 AV.junk).toInt])
                    [1]).toInt !=
                0)
              (k AExit.ret [(2, AV.bool false)] [])
              (aIf (decide (0 ≤ i))
                (aIf (decide (i < (↑xs.length : Int)))
                  (aIf ((xs.getD i.toNat AV.junk).cells.length == 2)
                    (aIf (([(xs.getD i.toNat AV.junk).cells.getD 1 AV.junk].getD 0 AV.junk).isInt IntKind.u64)
                      (aIf
                        ((sel
                              (R18
                                [AV.fs 1 bs gl, AV.int IntKind.i64 a,
                                  AV.int IntKind.i64
                                    ([(xs.getD i.toNat AV.junk).cells.getD 0 AV.junk,
                                            (xs.getD i.toNat AV.junk).cells.getD 1 AV.junk].getD
                                        0 AV.junk).toInt])
                              [0]).toInt !=
                          ([(xs.getD i.toNat AV.junk).cells.getD 1 AV.junk].getD 0 AV.junk).toInt)
                        (k AExit.ret [(2, AV.bool false)] [])
                        (aIf (decide (0 ≤ i))
                          (aIf (decide (i < (↑xs.length : Int)))
                            (aIf ((xs.getD i.toNat AV.junk).cells.length == 2)
                              (aIf
                                (([(xs.getD i.toNat AV.junk).cells.getD 0 AV.junk,
                                          (xs.getD i.toNat AV.junk).cells.getD 1 AV.junk].getD
                                      0 AV.junk).isInt
                                  IntKind.i64)
                                (k AExit.normal
                                  [(0, AV.fs 2 xs fl), (3, AV.fs 1 bs gl),
                                    (5,
                                      AV.int IntKind.i64
                                        (IntKind.i64.wrap
                                          (a +
                                            ([(xs.getD i.toNat AV.junk).cells.getD 0 AV.junk,
                                                    (xs.getD i.toNat AV.junk).cells.getD 1 AV.junk].getD
                                                0 AV.junk).toInt))),
                                    (6, AV.int IntKind.i64 (IntKind.i64.wrap (i + 1)))]
                                  [])
                                none)
                              none)
                            none)
                          none))
                      none)
                    none)
                  none)
                none))
            none)
          none)
        none)
      none)
    none)
  (k (AExit.exit 0)
    [(0, AV.fs 2 xs fl), (3, AV.fs 1 bs gl), (5, AV.int IntKind.i64 a), (6, AV.int IntKind.i64 i),
      (30, AV.bool (decide (i < (↑xs.length : Int))))]
    []) := by kernel_rfl
theorem L7_8_ok : LoopSum C7 (loopB Try.f7 0) L7_8 := LoopSum.of C7_ok L7_8_in (fun ts H => by
  unfold L7_8
  split
  · rename_i xs fl bs gl a i
    rcases Bool.eq_false_or_eq_true (catG xs a (xs.length : Int) i && runsIn bs xs && badE xs xs.length 0 == 0 && Nat.ble (sumR xs xs.length) 65536) with hp | hp
    · refine .inr ?_
      simp only [aIf_pos hp]
      rw [Bool.and_eq_true, Bool.and_eq_true, Bool.and_eq_true, beq_iff_eq] at hp
      obtain ⟨⟨⟨hp, hin⟩, hb⟩, hs⟩ := hp
      have hs := Nat.le_of_ble_eq_true hs
      obtain ⟨hr, hL, _, rfl, rfl⟩ := catG_of hp
      obtain ⟨hu, hM, hin⟩ := runsIn_of hin
      have main : ∀ d j : Nat, j + d = xs.length → ∃ m, ∀ k, aIterK m (headedK C7 (loopB Try.f7 0)) [(0, .fs 2 xs fl), (3, .fs 1 bs gl), (5, .int .i64 (sumR xs j : Int)), (6, .int .i64 (j : Int))] [] k =
          k (.exit 0) [(0, .fs 2 xs fl), (3, .fs 1 bs gl), (5, .int .i64 (sumR xs xs.length : Int)), (6, .int .i64 (xs.length : Int)), (30, .bool false)] [] := by
        intro d
        induction d with
        | zero =>
          intro j hj
          obtain rfl : j = xs.length := by omega
          refine ⟨1, fun k => ?_⟩
          rw [aIterK, M7_8a, dltf]; rfl
        | succ d ih =>
          intro j hj
          have hjl : j < xs.length := by omega
          obtain ⟨he, ⟨n0, n1⟩, v0, v1⟩ := runs_get hr j hjl
          obtain ⟨b0, b1, b2⟩ := badE_ok hb j (by omega) (by omega)
          have hm1 := sumR_mono (xs := xs) (show j + 1 ≤ xs.length by omega)
          have hsum : IntKind.i64.wrap ((sumR xs j : Int) + rN xs j) = (sumR xs (j + 1) : Int) := by
            simp only [sumR]
            rw [show (sumR xs j : Int) + rN xs j = ((sumR xs j + (rN xs j).toNat : Nat) : Int) by omega]
            simp only [sumR] at hm1
            exact i64n (by omega)
          obtain ⟨g1, g2⟩ := hin j hjl
          have hR := R18_is (fl := gl) (a := (sumR xs j : Int)) (n := rN xs j) hu hM
          rw [g1, g2] at hR
          have hsh : shOK (.tup [.int .u64, .int .i64]) (some (.ret (.tup [.int .u64 (rV xs j), .int .i64 0]), [])) = true := by
            simp only [shOK_ret, has_tup, hasL_cons, hasL_nil, List.getD_cons_zero, List.getD_cons_succ, has_int, inK_of (k := .u64) ⟨v0, v1⟩, show inK .i64 0 = true from rfl, List.length_cons, List.length_nil, beq_self_eq_true, Bool.and_self]
          have s0 : sel (some (AEnd.ret (AV.tup [AV.int IntKind.u64 (rV xs j), AV.int IntKind.i64 0]), [])) [0] = .int .u64 (rV xs j) := rfl
          have s1 : sel (some (AEnd.ret (AV.tup [AV.int IntKind.u64 (rV xs j), AV.int IntKind.i64 0]), [])) [1] = .int .i64 0 := rfl
          obtain ⟨m, hm⟩ := ih (j + 1) (by omega)
          refine ⟨m + 1, fun k => ?_⟩
          rw [← hm k, aIterK, M7_8a]
          simp only [Int.toNat_natCast, he, AV.cells, List.length_cons, List.length_nil, List.getD_cons_zero, List.getD_cons_succ, Nat.reduceAdd, isInt_self, AV.toInt, beq_self_eq_true, dlt hjl, dnn', aIf_true, hR, hsh, s0, s1, bne_self_eq_false, aIf_false, hsum, i64s (show j + 1 < 9223372036854775808 by omega)]
      exact (main xs.length 0 (by omega)).imp fun m hm k => (hm k).symm
    · exact .inl fun k => by rw [aIf_neg hp]
  · exact .inl fun k => rfl)
theorem C7_loops : ∀ c, Try.f7.body = some c → LoopsOK C7 c := LoopsOK.of 1 (by kernel_rfl) (fun j hj S hS => by
  match j, hj with
  | 0, _ => rw [C7_l0] at hS; cases hS; exact L7_8_ok
  | n + 1, hj => omega)
noncomputable def S7 : FSpec := inlineK C7 Try.f7
theorem S7_ok : SpecOK Try.prog 7 S7 := inlineK_ok C7_ok Try.func7 C7_loops
theorem En7 : Enters Try.prog 7 := ⟨_, Try.func7, by decide, rfl⟩

end Go.Proofs.Ytkiipegoooldiaa

