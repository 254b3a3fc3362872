/- FieldBack: what is put is what is got, all other bits stay, and letters are read as the bits that they are of. -/
import Derived.Test.YtkiipegoooldiaaFFieldBack
import Derived.Test.YtkiipegoooldiaaA20
import Derived.Test.YtkiipegoooldiaaPBack
import Derived.ProofKit
namespace Go.Proofs.Ytkiipegoooldiaa
open Go.Abs Go.Pl Go.RowKit Go.ChangeShapes Go.WideShapes Go.ChangeAt

theorem own : ownKnob Try.prog.godebug = none := by kernel_rfl
theorem laidOut : laidOutB Try.prog = true := by kernel_rfl
theorem argT3 (xs : List AV) : argT E 4 3 xs = intT .i64 xs := by kernel_rfl
theorem agg3 : aggT E 3 = false := by kernel_rfl
theorem argT23 (xs : List AV) : argT E 4 23 xs = intT .u64 xs := by kernel_rfl
theorem agg23 : aggT E 23 = false := by kernel_rfl
theorem argT22 (xs : List AV) : argT E 4 22 xs = bytesT xs := by kernel_rfl
theorem agg22 : aggT E 22 = false := by kernel_rfl

theorem N3 (xs : List AV) (fl : SF) (a n v o : Int) : S3 [.fs 1 xs fl, .int .i64 a, .int .i64 n, .int .u64 v, .int .i64 o] [] (fun e H => some (e, H)) =
  aIf (shOK (Sh.ints IntKind.u8) (R15 [AV.fs 1 xs fl]))
  (aIf
    (shOK (Sh.tup [Sh.ints IntKind.u8, Sh.int IntKind.i64])
      (R16
        [AV.fs 1 (sel (R15 [AV.fs 1 xs fl]) []).toFs (sel (R15 [AV.fs 1 xs fl]) []).toFl, AV.int IntKind.i64 a,
          AV.int IntKind.i64 n, AV.int IntKind.u64 v]))
    (aIf
      ((sel
            (R16
              [AV.fs 1 (sel (R15 [AV.fs 1 xs fl]) []).toFs (sel (R15 [AV.fs 1 xs fl]) []).toFl, AV.int IntKind.i64 a,
                AV.int IntKind.i64 n, AV.int IntKind.u64 v])
            [1]).toInt !=
        0)
      (aIf
        ((↑(sel
                    (R16
                      [AV.fs 1 (sel (R15 [AV.fs 1 xs fl]) []).toFs (sel (R15 [AV.fs 1 xs fl]) []).toFl,
                        AV.int IntKind.i64 a, AV.int IntKind.i64 n, AV.int IntKind.u64 v])
                    [0]).toFs.length :
            Int) ==
          0)
        (some (AEnd.ret (AV.bool true), [])) (some (AEnd.ret (AV.bool false), [])))
      (aIf
        (shOK (Sh.tup [Sh.int IntKind.u64, Sh.int IntKind.i64])
          (R18
            [AV.fs 1
                (sel
                    (R16
                      [AV.fs 1 (sel (R15 [AV.fs 1 xs fl]) []).toFs (sel (R15 [AV.fs 1 xs fl]) []).toFl,
                        AV.int IntKind.i64 a, AV.int IntKind.i64 n, AV.int IntKind.u64 v])
                    [0]).toFs
                (sel
                    (R16
                      [AV.fs 1 (sel (R15 [AV.fs 1 xs fl]) []).toFs (sel (R15 [AV.fs 1 xs fl]) []).toFl,
                        AV.int IntKind.i64 a, AV.int IntKind.i64 n, AV.int IntKind.u64 v])
                    [0]).toFl,
              AV.int IntKind.i64 a, AV.int IntKind.i64 n]))
        (aIf
          (shOK (Sh.tup [Sh.int IntKind.u64, Sh.int IntKind.i64])
            (R18
              [AV.fs 1 (sel (R15 [AV.fs 1 xs fl]) []).toFs (sel (R15 [AV.fs 1 xs fl]) []).toFl, AV.int IntKind.i64 a,
                AV.int IntKind.i64 n]))
          (aIf
            (shOK (Sh.tup [Sh.ints IntKind.u8, Sh.int IntKind.i64])
              (R16
                [AV.fs 1
                    (sel
                        (R16
                          [AV.fs 1 (sel (R15 [AV.fs 1 xs fl]) []).toFs (sel (R15 [AV.fs 1 xs fl]) []).toFl,
                            AV.int IntKind.i64 a, AV.int IntKind.i64 n, AV.int IntKind.u64 v])
                        [0]).toFs
                    (sel
                        (R16
                          [AV.fs 1 (sel (R15 [AV.fs 1 xs fl]) []).toFs (sel (R15 [AV.fs 1 xs fl]) []).toFl,
                            AV.int IntKind.i64 a, AV.int IntKind.i64 n, AV.int IntKind.u64 v])
                        [0]).toFl,
                  AV.int IntKind.i64 a, AV.int IntKind.i64 n,
                  AV.int IntKind.u64
                    (sel
                        (R18
                          [AV.fs 1 (sel (R15 [AV.fs 1 xs fl]) []).toFs (sel (R15 [AV.fs 1 xs fl]) []).toFl,
                            AV.int IntKind.i64 a, AV.int IntKind.i64 n])
                        [0]).toInt]))
            (aIf
              ((sel
                    (R18
                      [AV.fs 1
                          (sel
                              (R16
                                [AV.fs 1 (sel (R15 [AV.fs 1 xs fl]) []).toFs (sel (R15 [AV.fs 1 xs fl]) []).toFl,
                                  AV.int IntKind.i64 a, AV.int IntKind.i64 n, AV.int IntKind.u64 v])
                              [0]).toFs
                          (sel
                              (R16
                                [AV.fs 1 (sel (R15 [AV.fs 1 xs fl]) []).toFs (sel (R15 [AV.fs 1 xs fl]) []).toFl,
                                  AV.int IntKind.i64 a, AV.int IntKind.i64 n, AV.int IntKind.u64 v])
                              [0]).toFl,
                        AV.int IntKind.i64 a, AV.int IntKind.i64 n])
                    [1]).toInt !=
                0)
              (some (AEnd.ret (AV.bool false), []))
              (aIf
                ((sel
                      (R18
                        [AV.fs 1 (sel (R15 [AV.fs 1 xs fl]) []).toFs (sel (R15 [AV.fs 1 xs fl]) []).toFl,
                          AV.int IntKind.i64 a, AV.int IntKind.i64 n])
                      [1]).toInt !=
                  0)
                (some (AEnd.ret (AV.bool false), []))
                (aIf
                  ((sel
                        (R16
                          [AV.fs 1
                              (sel
                                  (R16
                                    [AV.fs 1 (sel (R15 [AV.fs 1 xs fl]) []).toFs (sel (R15 [AV.fs 1 xs fl]) []).toFl,
                                      AV.int IntKind.i64 a, AV.int IntKind.i64 n, AV.int IntKind.u64 v])
                                  [0]).toFs
                              (sel
                                  (R16
                                    [AV.fs 1 (sel (R15 [AV.fs 1 xs fl]) []).toFs (sel (R15 [AV.fs 1 xs fl]) []).toFl,
                                      AV.int IntKind.i64 a, AV.int IntKind.i64 n, AV.int IntKind.u64 v])
                                  [0]).toFl,
                            AV.int IntKind.i64 a, AV.int IntKind.i64 n,
                            AV.int IntKind.u64
                              (sel
                                  (R18
                                    [AV.fs 1 (sel (R15 [AV.fs 1 xs fl]) []).toFs (sel (R15 [AV.fs 1 xs fl]) []).toFl,
                                      AV.int IntKind.i64 a, AV.int IntKind.i64 n])
                                  [0]).toInt])
                        [1]).toInt !=
                    0)
                  (some (AEnd.ret (AV.bool false), []))
                  (aIf
                    ((sel
                          (R18
                            [AV.fs 1
                                (sel
                                    (R16
                                      [AV.fs 1 (sel (R15 [AV.fs 1 xs fl]) []).toFs (sel (R15 [AV.fs 1 xs fl]) []).toFl,
                                        AV.int IntKind.i64 a, AV.int IntKind.i64 n, AV.int IntKind.u64 v])
                                    [0]).toFs
                                (sel
                                    (R16
                                      [AV.fs 1 (sel (R15 [AV.fs 1 xs fl]) []).toFs (sel (R15 [AV.fs 1 xs fl]) []).toFl,
                                        AV.int IntKind.i64 a, AV.int IntKind.i64 n, AV.int IntKind.u64 v])
                                    [0]).toFl,
                              AV.int IntKind.i64 a, AV.int IntKind.i64 n])
                          [0]).toInt !=
                      v)
                    (some (AEnd.ret (AV.bool false), []))
                    (aIf
                      ((↑(sel
                                  (R16
                                    [AV.fs 1 (sel (R15 [AV.fs 1 xs fl]) []).toFs (sel (R15 [AV.fs 1 xs fl]) []).toFl,
                                      AV.int IntKind.i64 a, AV.int IntKind.i64 n, AV.int IntKind.u64 v])
                                  [0]).toFs.length :
                          Int) !=
                        (↑(sel (R15 [AV.fs 1 xs fl]) []).toFs.length : Int))
                      (some (AEnd.ret (AV.bool false), []))
                      (aIf
                        (allU8
                          (sel
                              (R16
                                [AV.fs 1
                                    (sel
                                        (R16
                                          [AV.fs 1 (sel (R15 [AV.fs 1 xs fl]) []).toFs
                                              (sel (R15 [AV.fs 1 xs fl]) []).toFl,
                                            AV.int IntKind.i64 a, AV.int IntKind.i64 n, AV.int IntKind.u64 v])
                                        [0]).toFs
                                    (sel
                                        (R16
                                          [AV.fs 1 (sel (R15 [AV.fs 1 xs fl]) []).toFs
                                              (sel (R15 [AV.fs 1 xs fl]) []).toFl,
                                            AV.int IntKind.i64 a, AV.int IntKind.i64 n, AV.int IntKind.u64 v])
                                        [0]).toFl,
                                  AV.int IntKind.i64 a, AV.int IntKind.i64 n,
                                  AV.int IntKind.u64
                                    (sel
                                        (R18
                                          [AV.fs 1 (sel (R15 [AV.fs 1 xs fl]) []).toFs
                                              (sel (R15 [AV.fs 1 xs fl]) []).toFl,
                                            AV.int IntKind.i64 a, AV.int IntKind.i64 n])
                                        [0]).toInt])
                              [0]).toFs)
                        (aIf (allU8 (sel (R15 [AV.fs 1 xs fl]) []).toFs)
                          (aIf
                            (!(ByteArray.mk
                                    (Array.mk
                                      (List.map (fun v => UInt8.ofNat v.toInt.toNat)
                                        (sel
                                            (R16
                                              [AV.fs 1
                                                  (sel
                                                      (R16
                                                        [AV.fs 1 (sel (R15 [AV.fs 1 xs fl]) []).toFs
                                                            (sel (R15 [AV.fs 1 xs fl]) []).toFl,
                                                          AV.int IntKind.i64 a, AV.int IntKind.i64 n,
                                                          AV.int IntKind.u64 v])
                                                      [0]).toFs
                                                  (sel
                                                      (R16
                                                        [AV.fs 1 (sel (R15 [AV.fs 1 xs fl]) []).toFs
                                                            (sel (R15 [AV.fs 1 xs fl]) []).toFl,
                                                          AV.int IntKind.i64 a, AV.int IntKind.i64 n,
                                                          AV.int IntKind.u64 v])
                                                      [0]).toFl,
                                                AV.int IntKind.i64 a, AV.int IntKind.i64 n,
                                                AV.int IntKind.u64
                                                  (sel
                                                      (R18
                                                        [AV.fs 1 (sel (R15 [AV.fs 1 xs fl]) []).toFs
                                                            (sel (R15 [AV.fs 1 xs fl]) []).toFl,
                                                          AV.int IntKind.i64 a, AV.int IntKind.i64 n])
                                                      [0]).toInt])
                                            [0]).toFs))).toList ==
                                (ByteArray.mk
                                    (Array.mk
                                      (List.map (fun v => UInt8.ofNat v.toInt.toNat)
                                        (sel (R15 [AV.fs 1 xs fl]) []).toFs))).toList)
                            (some (AEnd.ret (AV.bool false), []))
                            (aIf (decide (o ≥ 0))
                              (aIf
                                (decide
                                  (o < IntKind.i64.wrap (8 * (↑(sel (R15 [AV.fs 1 xs fl]) []).toFs.length : Int))))
                                (aIf (decide (o < a))
                                  (aIf
                                    (shOK (Sh.int IntKind.u64)
                                      (R19
                                        [AV.fs 1
                                            (sel
                                                (R16
                                                  [AV.fs 1 (sel (R15 [AV.fs 1 xs fl]) []).toFs
                                                      (sel (R15 [AV.fs 1 xs fl]) []).toFl,
                                                    AV.int IntKind.i64 a, AV.int IntKind.i64 n, AV.int IntKind.u64 v])
                                                [0]).toFs
                                            (sel
                                                (R16
                                                  [AV.fs 1 (sel (R15 [AV.fs 1 xs fl]) []).toFs
                                                      (sel (R15 [AV.fs 1 xs fl]) []).toFl,
                                                    AV.int IntKind.i64 a, AV.int IntKind.i64 n, AV.int IntKind.u64 v])
                                                [0]).toFl,
                                          AV.int IntKind.i64 o]))
                                    (aIf
                                      (shOK (Sh.int IntKind.u64)
                                        (R19
                                          [AV.fs 1 (sel (R15 [AV.fs 1 xs fl]) []).toFs
                                              (sel (R15 [AV.fs 1 xs fl]) []).toFl,
                                            AV.int IntKind.i64 o]))
                                      (aIf
                                        ((sel
                                              (R19
                                                [AV.fs 1
                                                    (sel
                                                        (R16
                                                          [AV.fs 1 (sel (R15 [AV.fs 1 xs fl]) []).toFs
                                                              (sel (R15 [AV.fs 1 xs fl]) []).toFl,
                                                            AV.int IntKind.i64 a, AV.int IntKind.i64 n,
                                                            AV.int IntKind.u64 v])
                                                        [0]).toFs
                                                    (sel
                                                        (R16
                                                          [AV.fs 1 (sel (R15 [AV.fs 1 xs fl]) []).toFs
                                                              (sel (R15 [AV.fs 1 xs fl]) []).toFl,
                                                            AV.int IntKind.i64 a, AV.int IntKind.i64 n,
                                                            AV.int IntKind.u64 v])
                                                        [0]).toFl,
                                                  AV.int IntKind.i64 o])
                                              []).toInt !=
                                          (sel
                                              (R19
                                                [AV.fs 1 (sel (R15 [AV.fs 1 xs fl]) []).toFs
                                                    (sel (R15 [AV.fs 1 xs fl]) []).toFl,
                                                  AV.int IntKind.i64 o])
                                              []).toInt)
                                        (some (AEnd.ret (AV.bool false), []))
                                        (aIf
                                          (shOK (Sh.tup [Sh.str, Sh.int IntKind.i64])
                                            (R20
                                              [AV.fs 1 (sel (R15 [AV.fs 1 xs fl]) []).toFs
                                                  (sel (R15 [AV.fs 1 xs fl]) []).toFl,
                                                AV.int IntKind.i64 0,
                                                AV.int IntKind.i64
                                                  (IntKind.i64.wrap
                                                    (8 * (↑(sel (R15 [AV.fs 1 xs fl]) []).toFs.length : Int)))]))
                                          (aIf
                                            (shOK
                                              (Sh.tup
                                                [Sh.ints IntKind.u8, Sh.int IntKind.i64, Sh.int IntKind.i64,
                                                  Sh.int IntKind.i64])
                                              (R21
                                                [AV.str
                                                    (sel
                                                        (R20
                                                          [AV.fs 1 (sel (R15 [AV.fs 1 xs fl]) []).toFs
                                                              (sel (R15 [AV.fs 1 xs fl]) []).toFl,
                                                            AV.int IntKind.i64 0,
                                                            AV.int IntKind.i64
                                                              (IntKind.i64.wrap
                                                                (8 *
                                                                  (↑(sel (R15 [AV.fs 1 xs fl]) []).toFs.length :
                                                                    Int)))])
                                                        [0]).toStr]))
                                            (aIf
                                              ((sel
                                                    (R20
                                                      [AV.fs 1 (sel (R15 [AV.fs 1 xs fl]) []).toFs
                                                          (sel (R15 [AV.fs 1 xs fl]) []).toFl,
                                                        AV.int IntKind.i64 0,
                                                        AV.int IntKind.i64
                                                          (IntKind.i64.wrap
                                                            (8 * (↑(sel (R15 [AV.fs 1 xs fl]) []).toFs.length : Int)))])
                                                    [1]).toInt ==
                                                0)
                                              (aIf
                                                ((sel
                                                      (R21
                                                        [AV.str
                                                            (sel
                                                                (R20
                                                                  [AV.fs 1 (sel (R15 [AV.fs 1 xs fl]) []).toFs
                                                                      (sel (R15 [AV.fs 1 xs fl]) []).toFl,
                                                                    AV.int IntKind.i64 0,
                                                                    AV.int IntKind.i64
                                                                      (IntKind.i64.wrap
                                                                        (8 *
                                                                          (↑(sel (R15 [AV.fs 1 xs fl]) []).toFs.length :
                                                                            Int)))])
                                                                [0]).toStr])
                                                      [3]).toInt ==
                                                  0)
                                                (aIf
                                                  ((sel
                                                        (R21
                                                          [AV.str
                                                              (sel
                                                                  (R20
                                                                    [AV.fs 1 (sel (R15 [AV.fs 1 xs fl]) []).toFs
                                                                        (sel (R15 [AV.fs 1 xs fl]) []).toFl,
                                                                      AV.int IntKind.i64 0,
                                                                      AV.int IntKind.i64
                                                                        (IntKind.i64.wrap
                                                                          (8 *
                                                                            (↑(sel (R15 [AV.fs 1 xs fl])
                                                                                      []).toFs.length :
                                                                              Int)))])
                                                                  [0]).toStr])
                                                        [1]).toInt ==
                                                    IntKind.i64.wrap
                                                      (8 * (↑(sel (R15 [AV.fs 1 xs fl]) []).toFs.length : Int)))
                                                  (aIf
                                                    (allU8
                                                      (sel
                                                          (R21
                                                            [AV.str
                                                                (sel
                                                                    (R20
                                                                      [AV.fs 1 (sel (R15 [AV.fs 1 xs fl]) []).toFs
                                                                          (sel (R15 [AV.fs 1 xs fl]) []).toFl,
                                                                        AV.int IntKind.i64 0,
                                                                        AV.int IntKind.i64
                                                                          (IntKind.i64.wrap
                                                                            (8 *
                                                                              (↑(sel (R15 [AV.fs 1 xs fl])
                                                                                        []).toFs.length :
                                                                                Int)))])
                                                                    [0]).toStr])
                                                          [0]).toFs)
                                                    (aIf (allU8 (sel (R15 [AV.fs 1 xs fl]) []).toFs)
                                                      (aIf
                                                        ((ByteArray.mk
                                                              (Array.mk
                                                                (List.map (fun v => UInt8.ofNat v.toInt.toNat)
                                                                  (sel
                                                                      (R21
                                                                        [AV.str
                                                                            (sel
                                                                                (R20
                                                                                  [AV.fs 1
                                                                                      (sel (R15 [AV.fs 1 xs fl])
                                                                                          []).toFs
                                                                                      (sel (R15 [AV.fs 1 xs fl])
                                                                                          []).toFl,
                                                                                    AV.int IntKind.i64 0,
                                                                                    AV.int IntKind.i64
                                                                                      (IntKind.i64.wrap
                                                                                        (8 *
                                                                                          (↑(sel (R15 [AV.fs 1 xs fl])
                                                                                                    []).toFs.length :
                                                                                            Int)))])
                                                                                [0]).toStr])
                                                                      [0]).toFs))).toList ==
                                                          (ByteArray.mk
                                                              (Array.mk
                                                                (List.map (fun v => UInt8.ofNat v.toInt.toNat)
                                                                  (sel (R15 [AV.fs 1 xs fl]) []).toFs))).toList)
                                                        (some (AEnd.ret (AV.bool true), []))
                                                        (some (AEnd.ret (AV.bool false), [])))
                                                      none)
                                                    none)
                                                  (some (AEnd.ret (AV.bool false), [])))
                                                (some (AEnd.ret (AV.bool false), [])))
                                              (some (AEnd.ret (AV.bool false), [])))
                                            none)
                                          none))
                                      none)
                                    none)
                                  (aIf (decide (IntKind.i64.wrap (o - a) ≥ n))
                                    (aIf
                                      (shOK (Sh.int IntKind.u64)
                                        (R19
                                          [AV.fs 1
                                              (sel
                                                  (R16
                                                    [AV.fs 1 (sel (R15 [AV.fs 1 xs fl]) []).toFs
                                                        (sel (R15 [AV.fs 1 xs fl]) []).toFl,
                                                      AV.int IntKind.i64 a, AV.int IntKind.i64 n, AV.int IntKind.u64 v])
                                                  [0]).toFs
                                              (sel
                                                  (R16
                                                    [AV.fs 1 (sel (R15 [AV.fs 1 xs fl]) []).toFs
                                                        (sel (R15 [AV.fs 1 xs fl]) []).toFl,
                                                      AV.int IntKind.i64 a, AV.int IntKind.i64 n, AV.int IntKind.u64 v])
                                                  [0]).toFl,
                                            AV.int IntKind.i64 o]))
                                      (aIf
                                        (shOK (Sh.int IntKind.u64)
                                          (R19
                                            [AV.fs 1 (sel (R15 [AV.fs 1 xs fl]) []).toFs
                                                (sel (R15 [AV.fs 1 xs fl]) []).toFl,
                                              AV.int IntKind.i64 o]))
                                        (aIf
                                          ((sel
                                                (R19
                                                  [AV.fs 1
                                                      (sel
                                                          (R16
                                                            [AV.fs 1 (sel (R15 [AV.fs 1 xs fl]) []).toFs
                                                                (sel (R15 [AV.fs 1 xs fl]) []).toFl,
                                                              AV.int IntKind.i64 a, AV.int IntKind.i64 n,
                                                              AV.int IntKind.u64 v])
                                                          [0]).toFs
                                                      (sel
                                                          (R16
                                                            [AV.fs 1 (sel (R15 [AV.fs 1 xs fl]) []).toFs
                                                                (sel (R15 [AV.fs 1 xs fl]) []).toFl,
                                                              AV.int IntKind.i64 a, AV.int IntKind.i64 n,
                                                              AV.int IntKind.u64 v])
                                                          [0]).toFl,
                                                    AV.int IntKind.i64 o])
                                                []).toInt !=
                                            (sel
                                                (R19
                                                  [AV.fs 1 (sel (R15 [AV.fs 1 xs fl]) []).toFs
                                                      (sel (R15 [AV.fs 1 xs fl]) []).toFl,
                                                    AV.int IntKind.i64 o])
                                                []).toInt)
                                          (some (AEnd.ret (AV.bool false), []))
                                          (aIf
                                            (shOK (Sh.tup [Sh.str, Sh.int IntKind.i64])
                                              (R20
                                                [AV.fs 1 (sel (R15 [AV.fs 1 xs fl]) []).toFs
                                                    (sel (R15 [AV.fs 1 xs fl]) []).toFl,
                                                  AV.int IntKind.i64 0,
                                                  AV.int IntKind.i64
                                                    (IntKind.i64.wrap
                                                      (8 * (↑(sel (R15 [AV.fs 1 xs fl]) []).toFs.length : Int)))]))
                                            (aIf
                                              (shOK
                                                (Sh.tup
                                                  [Sh.ints IntKind.u8, Sh.int IntKind.i64, Sh.int IntKind.i64,
                                                    Sh.int IntKind.i64])
                                                (R21
                                                  [AV.str
                                                      (sel
                                                          (R20
                                                            [AV.fs 1 (sel (R15 [AV.fs 1 xs fl]) []).toFs
                                                                (sel (R15 [AV.fs 1 xs fl]) []).toFl,
                                                              AV.int IntKind.i64 0,
                                                              AV.int IntKind.i64
                                                                (IntKind.i64.wrap
                                                                  (8 *
                                                                    (↑(sel (R15 [AV.fs 1 xs fl]) []).toFs.length :
                                                                      Int)))])
                                                          [0]).toStr]))
                                              (aIf
                                                ((sel
                                                      (R20
                                                        [AV.fs 1 (sel (R15 [AV.fs 1 xs fl]) []).toFs
                                                            (sel (R15 [AV.fs 1 xs fl]) []).toFl,
                                                          AV.int IntKind.i64 0,
                                                          AV.int IntKind.i64
                                                            (IntKind.i64.wrap
                                                              (8 *
                                                                (↑(sel (R15 [AV.fs 1 xs fl]) []).toFs.length : Int)))])
                                                      [1]).toInt ==
                                                  0)
                                                (aIf
                                                  ((sel
                                                        (R21
                                                          [AV.str
                                                              (sel
                                                                  (R20
                                                                    [AV.fs 1 (sel (R15 [AV.fs 1 xs fl]) []).toFs
                                                                        (sel (R15 [AV.fs 1 xs fl]) []).toFl,
                                                                      AV.int IntKind.i64 0,
                                                                      AV.int IntKind.i64
                                                                        (IntKind.i64.wrap
                                                                          (8 *
                                                                            (↑(sel (R15 [AV.fs 1 xs fl])
                                                                                      []).toFs.length :
                                                                              Int)))])
                                                                  [0]).toStr])
                                                        [3]).toInt ==
                                                    0)
                                                  (aIf
                                                    ((sel
                                                          (R21
                                                            [AV.str
                                                                (sel
                                                                    (R20
                                                                      [AV.fs 1 (sel (R15 [AV.fs 1 xs fl]) []).toFs
                                                                          (sel (R15 [AV.fs 1 xs fl]) []).toFl,
                                                                        AV.int IntKind.i64 0,
                                                                        AV.int IntKind.i64
                                                                          (IntKind.i64.wrap
                                                                            (8 *
                                                                              (↑(sel (R15 [AV.fs 1 xs fl])
                                                                                        []).toFs.length :
                                                                                Int)))])
                                                                    [0]).toStr])
                                                          [1]).toInt ==
                                                      IntKind.i64.wrap
                                                        (8 * (↑(sel (R15 [AV.fs 1 xs fl]) []).toFs.length : Int)))
                                                    (aIf
                                                      (allU8
                                                        (sel
                                                            (R21
                                                              [AV.str
                                                                  (sel
                                                                      (R20
                                                                        [AV.fs 1 (sel (R15 [AV.fs 1 xs fl]) []).toFs
                                                                            (sel (R15 [AV.fs 1 xs fl]) []).toFl,
                                                                          AV.int IntKind.i64 0,
                                                                          AV.int IntKind.i64
                                                                            (IntKind.i64.wrap
                                                                              (8 *
                                                                                (↑(sel (R15 [AV.fs 1 xs fl])
                                                                                          []).toFs.length :
                                                                                  Int)))])
                                                                      [0]).toStr])
                                                            [0]).toFs)
                                                      (aIf (allU8 (sel (R15 [AV.fs 1 xs fl]) []).toFs)
                                                        (aIf
                                                          ((ByteArray.mk
                                                                (Array.mk
                                                                  (List.map (fun v => UInt8.ofNat v.toInt.toNat)
                                                                    (sel
                                                                        (R21
                                                                          [AV.str
                                                                              (sel
                                                                                  (R20
                                                                                    [AV.fs 1
                                                                                        (sel (R15 [AV.fs 1 xs fl])
                                                                                            []).toFs
                                                                                        (sel (R15 [AV.fs 1 xs fl])
                                                                                            []).toFl,
                                                                                      AV.int IntKind.i64 0,
                                                                                      AV.int IntKind.i64
                                                                                        (IntKind.i64.wrap
                                                                                          (8 *
                                                                                            (↑(sel (R15 [AV.fs 1 xs fl])
                                                                                                      []).toFs.length :
                                                                                              Int)))])
                                                                                  [0]).toStr])
                                                                        [0]).toFs))).toList ==
                                                            (ByteArray.mk
                                                                (Array.mk
                                                                  (List.map (fun v => UInt8.ofNat v.toInt.toNat)
                                                                    (sel (R15 [AV.fs 1 xs fl]) []).toFs))).toList)
                                                          (some (AEnd.ret (AV.bool true), []))
                                                          (some (AEnd.ret (AV.bool false), [])))
                                                        none)
                                                      none)
                                                    (some (AEnd.ret (AV.bool false), [])))
                                                  (some (AEnd.ret (AV.bool false), [])))
                                                (some (AEnd.ret (AV.bool false), [])))
                                              none)
                                            none))
                                        none)
                                      none)
                                    (aIf
                                      (shOK (Sh.tup [Sh.str, Sh.int IntKind.i64])
                                        (R20
                                          [AV.fs 1 (sel (R15 [AV.fs 1 xs fl]) []).toFs
                                              (sel (R15 [AV.fs 1 xs fl]) []).toFl,
                                            AV.int IntKind.i64 0,
                                            AV.int IntKind.i64
                                              (IntKind.i64.wrap
                                                (8 * (↑(sel (R15 [AV.fs 1 xs fl]) []).toFs.length : Int)))]))
                                      (aIf
                                        (shOK
                                          (Sh.tup
                                            [Sh.ints IntKind.u8, Sh.int IntKind.i64, Sh.int IntKind.i64,
                                              Sh.int IntKind.i64])
                                          (R21
                                            [AV.str
                                                (sel
                                                    (R20
                                                      [AV.fs 1 (sel (R15 [AV.fs 1 xs fl]) []).toFs
                                                          (sel (R15 [AV.fs 1 xs fl]) []).toFl,
                                                        AV.int IntKind.i64 0,
                                                        AV.int IntKind.i64
                                                          (IntKind.i64.wrap
                                                            (8 * (↑(sel (R15 [AV.fs 1 xs fl]) []).toFs.length : Int)))])
                                                    [0]).toStr]))
                                        (aIf
                                          ((sel
                                                (R20
                                                  [AV.fs 1 (sel (R15 [AV.fs 1 xs fl]) []).toFs
                                                      (sel (R15 [AV.fs 1 xs fl]) []).toFl,
                                                    AV.int IntKind.i64 0,
                                                    AV.int IntKind.i64
                                                      (IntKind.i64.wrap
                                                        (8 * (↑(sel (R15 [AV.fs 1 xs fl]) []).toFs.length : Int)))])
                                                [1]).toInt ==
                                            0)
                                          (aIf
                                            ((sel
                                                  (R21
                                                    [AV.str
                                                        (sel
                                                            (R20
                                                              [AV.fs 1 (sel (R15 [AV.fs 1 xs fl]) []).toFs
                                                                  (sel (R15 [AV.fs 1 xs fl]) []).toFl,
                                                                AV.int IntKind.i64 0,
                                                                AV.int IntKind.i64
                                                                  (IntKind.i64.wrap
                                                                    (8 *
                                                                      (↑(sel (R15 [AV.fs 1 xs fl]) []).toFs.length :
                                                                        Int)))])
                                                            [0]).toStr])
                                                  [3]).toInt ==
                                              0)
                                            (aIf
                                              ((sel
                                                    (R21
                                                      [AV.str
                                                          (sel
                                                              (R20
                                                                [AV.fs 1 (sel (R15 [AV.fs 1 xs fl]) []).toFs
                                                                    (sel (R15 [AV.fs 1 xs fl]) []).toFl,
                                                                  AV.int IntKind.i64 0,
                                                                  AV.int IntKind.i64
                                                                    (IntKind.i64.wrap
                                                                      (8 *
                                                                        (↑(sel (R15 [AV.fs 1 xs fl]) []).toFs.length :
                                                                          Int)))])
                                                              [0]).toStr])
                                                    [1]).toInt ==
                                                IntKind.i64.wrap
                                                  (8 * (↑(sel (R15 [AV.fs 1 xs fl]) []).toFs.length : Int)))
                                              (aIf
                                                (allU8
                                                  (sel
                                                      (R21
                                                        [AV.str
                                                            (sel
                                                                (R20
                                                                  [AV.fs 1 (sel (R15 [AV.fs 1 xs fl]) []).toFs
                                                                      (sel (R15 [AV.fs 1 xs fl]) []).toFl,
                                                                    AV.int IntKind.i64 0,
                                                                    AV.int IntKind.i64
                                                                      (IntKind.i64.wrap
                                                                        (8 *
                                                                          (↑(sel (R15 [AV.fs 1 xs fl]) []).toFs.length :
                                                                            Int)))])
                                                                [0]).toStr])
                                                      [0]).toFs)
                                                (aIf (allU8 (sel (R15 [AV.fs 1 xs fl]) []).toFs)
                                                  (aIf
                                                    ((ByteArray.mk
                                                          (Array.mk
                                                            (List.map (fun v => UInt8.ofNat v.toInt.toNat)
                                                              (sel
                                                                  (R21
                                                                    [AV.str
                                                                        (sel
                                                                            (R20
                                                                              [AV.fs 1
                                                                                  (sel (R15 [AV.fs 1 xs fl]) []).toFs
                                                                                  (sel (R15 [AV.fs 1 xs fl]) []).toFl,
                                                                                AV.int IntKind.i64 0,
                                                                                AV.int IntKind.i64
                                                                                  (IntKind.i64.wrap
                                                                                    (8 *
                                                                                      (↑(sel (R15 [AV.fs 1 xs fl])
                                                                                                []).toFs.length :
                                                                                        Int)))])
                                                                            [0]).toStr])
                                                                  [0]).toFs))).toList ==
                                                      (ByteArray.mk
                                                          (Array.mk
                                                            (List.map (fun v => UInt8.ofNat v.toInt.toNat)
                                                              (sel (R15 [AV.fs 1 xs fl]) []).toFs))).toList)
                                                    (some (AEnd.ret (AV.bool true), []))
                                                    (some (AEnd.ret (AV.bool false), [])))
                                                  none)
                                                none)
                                              (some (AEnd.ret (AV.bool false), [])))
                                            (some (AEnd.ret (AV.bool false), [])))
                                          (some (AEnd.ret (AV.bool false), [])))
                                        none)
                                      none)))
                                (aIf
                                  (shOK (Sh.tup [Sh.str, Sh.int IntKind.i64])
                                    (R20
                                      [AV.fs 1 (sel (R15 [AV.fs 1 xs fl]) []).toFs (sel (R15 [AV.fs 1 xs fl]) []).toFl,
                                        AV.int IntKind.i64 0,
                                        AV.int IntKind.i64
                                          (IntKind.i64.wrap
                                            (8 * (↑(sel (R15 [AV.fs 1 xs fl]) []).toFs.length : Int)))]))
                                  (aIf
                                    (shOK
                                      (Sh.tup
                                        [Sh.ints IntKind.u8, Sh.int IntKind.i64, Sh.int IntKind.i64,
                                          Sh.int IntKind.i64])
                                      (R21
                                        [AV.str
                                            (sel
                                                (R20
                                                  [AV.fs 1 (sel (R15 [AV.fs 1 xs fl]) []).toFs
                                                      (sel (R15 [AV.fs 1 xs fl]) []).toFl,
                                                    AV.int IntKind.i64 0,
                                                    AV.int IntKind.i64
                                                      (IntKind.i64.wrap
                                                        (8 * (↑(sel (R15 [AV.fs 1 xs fl]) []).toFs.length : Int)))])
                                                [0]).toStr]))
                                    (aIf
                                      ((sel
                                            (R20
                                              [AV.fs 1 (sel (R15 [AV.fs 1 xs fl]) []).toFs
                                                  (sel (R15 [AV.fs 1 xs fl]) []).toFl,
                                                AV.int IntKind.i64 0,
                                                AV.int IntKind.i64
                                                  (IntKind.i64.wrap
                                                    (8 * (↑(sel (R15 [AV.fs 1 xs fl]) []).toFs.length : Int)))])
                                            [1]).toInt ==
                                        0)
                                      (aIf
                                        ((sel
                                              (R21
                                                [AV.str
                                                    (sel
                                                        (R20
                                                          [AV.fs 1 (sel (R15 [AV.fs 1 xs fl]) []).toFs
                                                              (sel (R15 [AV.fs 1 xs fl]) []).toFl,
                                                            AV.int IntKind.i64 0,
                                                            AV.int IntKind.i64
                                                              (IntKind.i64.wrap
                                                                (8 *
                                                                  (↑(sel (R15 [AV.fs 1 xs fl]) []).toFs.length :
                                                                    Int)))])
                                                        [0]).toStr])
                                              [3]).toInt ==
                                          0)
                                        (aIf
                                          ((sel
                                                (R21
                                                  [AV.str
                                                      (sel
                                                          (R20
                                                            [AV.fs 1 (sel (R15 [AV.fs 1 xs fl]) []).toFs
                                                                (sel (R15 [AV.fs 1 xs fl]) []).toFl,
                                                              AV.int IntKind.i64 0,
                                                              AV.int IntKind.i64
                                                                (IntKind.i64.wrap
                                                                  (8 *
                                                                    (↑(sel (R15 [AV.fs 1 xs fl]) []).toFs.length :
                                                                      Int)))])
                                                          [0]).toStr])
                                                [1]).toInt ==
                                            IntKind.i64.wrap (8 * (↑(sel (R15 [AV.fs 1 xs fl]) []).toFs.length : Int)))
                                          (aIf
                                            (allU8
                                              (sel
                                                  (R21
                                                    [AV.str
                                                        (sel
                                                            (R20
                                                              [AV.fs 1 (sel (R15 [AV.fs 1 xs fl]) []).toFs
                                                                  (sel (R15 [AV.fs 1 xs fl]) []).toFl,
                                                                AV.int IntKind.i64 0,
                                                                AV.int IntKind.i64
                                                                  (IntKind.i64.wrap
                                                                    (8 *
                                                                      (↑(sel (R15 [AV.fs 1 xs fl]) []).toFs.length :
                                                                        Int)))])
                                                            [0]).toStr])
                                                  [0]).toFs)
                                            (aIf (allU8 (sel (R15 [AV.fs 1 xs fl]) []).toFs)
                                              (aIf
                                                ((ByteArray.mk
                                                      (Array.mk
                                                        (List.map (fun v => UInt8.ofNat v.toInt.toNat)
                                                          (sel
                                                              (R21
                                                                [AV.str
                                                                    (sel
                                                                        (R20
                                                                          [AV.fs 1 (sel (R15 [AV.fs 1 xs fl]) []).toFs
                                                                              (sel (R15 [AV.fs 1 xs fl]) []).toFl,
                                                                            AV.int IntKind.i64 0,
                                                                            AV.int IntKind.i64
                                                                              (IntKind.i64.wrap
                                                                                (8 *
                                                                                  (↑(sel (R15 [AV.fs 1 xs fl])
                                                                                            []).toFs.length :
                                                                                    Int)))])
                                                                        [0]).toStr])
                                                              [0]).toFs))).toList ==
                                                  (ByteArray.mk
                                                      (Array.mk
                                                        (List.map (fun v => UInt8.ofNat v.toInt.toNat)
                                                          (sel (R15 [AV.fs 1 xs fl]) []).toFs))).toList)
                                                (some (AEnd.ret (AV.bool true), []))
                                                (some (AEnd.ret (AV.bool false), [])))
                                              none)
                                            none)
                                          (some (AEnd.ret (AV.bool false), [])))
                                        (some (AEnd.ret (AV.bool false), [])))
                                      (some (AEnd.ret (AV.bool false), [])))
                                    none)
                                  none))
                              (aIf
                                (shOK (Sh.tup [Sh.str, Sh.int IntKind.i64])
                                  (R20
                                    [AV.fs 1 (sel (R15 [AV.fs 1 xs fl]) []).toFs (sel (R15 [AV.fs 1 xs fl]) []).toFl,
                                      AV.int IntKind.i64 0,
                                      AV.int IntKind.i64
                                        (IntKind.i64.wrap (8 * (↑(sel (R15 [AV.fs 1 xs fl]) []).toFs.length : Int)))]))
                                (aIf
                                  (shOK
                                    (Sh.tup
                                      [Sh.ints IntKind.u8, Sh.int IntKind.i64, Sh.int IntKind.i64, Sh.int IntKind.i64])
                                    (R21
                                      [AV.str
                                          (sel
                                              (R20
                                                [AV.fs 1 (sel (R15 [AV.fs 1 xs fl]) []).toFs
                                                    (sel (R15 [AV.fs 1 xs fl]) []).toFl,
                                                  AV.int IntKind.i64 0,
                                                  AV.int IntKind.i64
                                                    (IntKind.i64.wrap
                                                      (8 * (↑(sel (R15 [AV.fs 1 xs fl]) []).toFs.length : Int)))])
                                              [0]).toStr]))
                                  (aIf
                                    ((sel
                                          (R20
                                            [AV.fs 1 (sel (R15 [AV.fs 1 xs fl]) []).toFs
                                                (sel (R15 [AV.fs 1 xs fl]) []).toFl,
                                              AV.int IntKind.i64 0,
                                              AV.int IntKind.i64
                                                (IntKind.i64.wrap
                                                  (8 * (↑(sel (R15 [AV.fs 1 xs fl]) []).toFs.length : Int)))])
                                          [1]).toInt ==
                                      0)
                                    (aIf
                                      ((sel
                                            (R21
                                              [AV.str
                                                  (sel
                                                      (R20
                                                        [AV.fs 1 (sel (R15 [AV.fs 1 xs fl]) []).toFs
                                                            (sel (R15 [AV.fs 1 xs fl]) []).toFl,
                                                          AV.int IntKind.i64 0,
                                                          AV.int IntKind.i64
                                                            (IntKind.i64.wrap
                                                              (8 *
                                                                (↑(sel (R15 [AV.fs 1 xs fl]) []).toFs.length : Int)))])
                                                      [0]).toStr])
                                            [3]).toInt ==
                                        0)
                                      (aIf
                                        ((sel
                                              (R21
                                                [AV.str
                                                    (sel
                                                        (R20
                                                          [AV.fs 1 (sel (R15 [AV.fs 1 xs fl]) []).toFs
                                                              (sel (R15 [AV.fs 1 xs fl]) []).toFl,
                                                            AV.int IntKind.i64 0,
                                                            AV.int IntKind.i64
                                                              (IntKind.i64.wrap
                                                                (8 *
                                                                  (↑(sel (R15 [AV.fs 1 xs fl]) []).toFs.length :
                                                                    Int)))])
                                                        [0]).toStr])
                                              [1]).toInt ==
                                          IntKind.i64.wrap (8 * (↑(sel (R15 [AV.fs 1 xs fl]) []).toFs.length : Int)))
                                        (aIf
                                          (allU8
                                            (sel
                                                (R21
                                                  [AV.str
                                                      (sel
                                                          (R20
                                                            [AV.fs 1 (sel (R15 [AV.fs 1 xs fl]) []).toFs
                                                                (sel (R15 [AV.fs 1 xs fl]) []).toFl,
                                                              AV.int IntKind.i64 0,
                                                              AV.int IntKind.i64
                                                                (IntKind.i64.wrap
                                                                  (8 *
                                                                    (↑(sel (R15 [AV.fs 1 xs fl]) []).toFs.length :
                                                                      Int)))])
                                                          [0]).toStr])
                                                [0]).toFs)
                                          (aIf (allU8 (sel (R15 [AV.fs 1 xs fl]) []).toFs)
                                            (aIf
                                              ((ByteArray.mk
                                                    (Array.mk
                                                      (List.map (fun v => UInt8.ofNat v.toInt.toNat)
                                                        (sel
                                                            (R21
                                                              [AV.str
                                                                  (sel
                                                                      (R20
                                                                        [AV.fs 1 (sel (R15 [AV.fs 1 xs fl]) []).toFs
                                                                            (sel (R15 [AV.fs 1 xs fl]) []).toFl,
                                                                          AV.int IntKind.i64 0,
                                                                          AV.int IntKind.i64
                                                                            (IntKind.i64.wrap
                                                                              (8 *
                                                                                (↑(sel (R15 [AV.fs 1 xs fl])
                                                                                          []).toFs.length :
                                                                                  Int)))])
                                                                      [0]).toStr])
                                                            [0]).toFs))).toList ==
                                                (ByteArray.mk
                                                    (Array.mk
                                                      (List.map (fun v => UInt8.ofNat v.toInt.toNat)
                                                        (sel (R15 [AV.fs 1 xs fl]) []).toFs))).toList)
                                              (some (AEnd.ret (AV.bool true), []))
                                              (some (AEnd.ret (AV.bool false), [])))
                                            none)
                                          none)
                                        (some (AEnd.ret (AV.bool false), [])))
                                      (some (AEnd.ret (AV.bool false), [])))
                                    (some (AEnd.ret (AV.bool false), [])))
                                  none)
                                none)))
                          none)
                        none))))))
            none)
          none)
        none))
    none)
  none := by kernel_rfl

theorem law_holds : ∀ xs, argsV E 4 Try.f3.params.toList xs → S3 xs [] (fun e H => some (e, H)) = some (.ret (.bool true), []) := by
  intro xs h
  rw [Try.params3] at h
  obtain ⟨x, y, z, u, q, rfl, h1, h2, h3, h4, h5⟩ := args5 h
  obtain ⟨ys, fl, rfl, hl, hf, hu⟩ := bytesArg h1 argT22 agg22
  obtain ⟨a, rfl, ha⟩ := intArg h2 argT3 agg3
  obtain ⟨n, rfl, hn⟩ := intArg h3 argT3 agg3
  obtain ⟨v, rfl, hv⟩ := intArg h4 argT23 agg23
  obtain ⟨o, rfl, hoo⟩ := intArg h5 argT3 agg3
  have hv := rng_u64 hv
  have hv1 : v < 18446744073709551616 := by omega
  have hu2 : intsB .u8 (ys.take 200) = true := intsB_take hu 200
  have hL2 : (ys.take 200).length ≤ 200 := by rw [List.length_take]; omega
  have hf2 : fl ≠ .any → ys.take 200 = [] := fun h => by rw [hf h]; rfl
  have hs : (sel (some (AEnd.ret (AV.fs 1 (ys.take 200) fl), [])) []) = .fs 1 (ys.take 200) fl := rfl
  rw [N3, R15_is, shOK_ret, has_ints, hu2, hs]
  have ti : ∀ k n, (AV.int k n).toInt = n := fun _ _ => rfl
  have tf : ∀ z x f, (AV.fs z x f).toFs = x := fun _ _ _ => rfl
  have tl : ∀ z x f, (AV.fs z x f).toFl = f := fun _ _ _ => rfl
  have tz : ∀ s, (AV.str s).toStr = s := fun _ => rfl
  simp only [tf, tl]
  generalize ys.take 200 = b at hu2 hL2 hf2 ⊢
  have hL : b.length ≤ 1000000 := by omega
  have g0 : ∀ (x : AV), sel (some (AEnd.ret x, [])) [] = x := fun _ => rfl
  have g1 : ∀ (x y : AV), sel (some (AEnd.ret (AV.tup [x, y]), [])) [0] = x := fun _ _ => rfl
  have g2 : ∀ (x y : AV), sel (some (AEnd.ret (AV.tup [x, y]), [])) [1] = y := fun _ _ => rfl
  have i3 : ∀ L v, inK .i64 (putE L a n v) = true := by intro L v; unfold putE; cases decide (n > 64) || !thereB L a n <;> cases fitB v n <;> rfl
  obtain ⟨f1, k1, e1⟩ := R16_fl (a := a) (n := n) hu2 hL hf2 hv.1 hv1
  have p1 := putX_u8 (a := a) (n := n) (v := v) hu2
  rw [e1]
  simp only [shOK_ret, has_tup, hasL_cons, hasL_nil, List.getD_cons_zero, List.getD_cons_succ, has_int, has_ints, i3, p1, g1, g2, ti, tf, tl, List.length_cons, List.length_nil, beq_self_eq_true, Bool.and_self, aIf_true]
  by_cases he : putE b.length a n v = 0
  case neg =>
    have hx : putX b a n v = [] := by
      unfold putE at he
      unfold putX
      cases c1 : decide (n > 64) || !thereB b.length a n
      · cases c2 : fitB v n
        · rfl
        · rw [c1, c2] at he; exact absurd rfl he
      · rfl
    rw [aIf_pos (bne_iff_ne.2 he), hx]
    rfl
  obtain ⟨m1, m2, m3, m4, m5, m6⟩ := back_put hu2 hv.1 hv1 he
  obtain ⟨y0, y1⟩ := getX_range b a n
  obtain ⟨f2, e2⟩ := R16_is (a := a) (n := n) (v := getX b a n) p1 (by omega) k1 y0 (by omega)
  have hi1 : inK .u64 (getX b a n) = true := inK_of (k := .u64) ⟨y0, y1⟩
  have hi2 : inK .u64 v = true := inK_of (k := .u64) hv
  obtain ⟨t1, t2, t3, t4, t5⟩ := back_text hu2 (by omega)
  have hw : IntKind.i64.wrap (8 * (b.length : Int)) = ((8 * b.length : Nat) : Int) := wrap8 hL
  obtain ⟨f3, e3⟩ := R21_is (s := textV b 0 ((8 * b.length : Nat) : Int)) (by omega)
  have rx : readX (textV b 0 ((8 * b.length : Nat) : Int)) = b := by unfold readX; rw [t2, t3, t1]; exact t4
  have rn : readN (textV b 0 ((8 * b.length : Nat) : Int)) = ((8 * b.length : Nat) : Int) := by unfold readN; rw [t2, t3, t1]; rfl
  have ri : readI (textV b 0 ((8 * b.length : Nat) : Int)) = 0 := by unfold readI; rw [t2, t3]; rfl
  have re : readE (textV b 0 ((8 * b.length : Nat) : Int)) = 0 := by unfold readE; rw [t2, t3]; rfl
  rw [rx, rn, ri, re] at e3
  have hn8 : inK .i64 ((8 * b.length : Nat) : Int) = true := by rw [inK_i64, Bool.and_eq_true, decide_eq_true_eq, decide_eq_true_eq]; omega
  have q0 : ∀ (x y z u : AV), sel (some (AEnd.ret (AV.tup [x, y, z, u]), [])) [0] = x := fun _ _ _ _ => rfl
  have q1 : ∀ (x y z u : AV), sel (some (AEnd.ret (AV.tup [x, y, z, u]), [])) [1] = y := fun _ _ _ _ => rfl
  have q3 : ∀ (x y z u : AV), sel (some (AEnd.ret (AV.tup [x, y, z, u]), [])) [3] = u := fun _ _ _ _ => rfl
  have s1 := R18_is (fl := f1) (a := a) (n := n) p1 (by omega)
  have s2 := R18_is (fl := fl) (a := a) (n := n) hu2 hL
  have s3 := R20_is (fl := fl) (a := 0) (n := ((8 * b.length : Nat) : Int)) hu2 hL
  rw [m1, m3, m2] at s1
  rw [m2] at s2
  rw [m1, m4, m5] at e2
  rw [t5, cond_true] at s3
  simp only [hw, he, m1, s1, s2, s3, e2, shOK_ret, has_tup, hasL_cons, hasL_nil, List.getD_cons_zero, List.getD_cons_succ, has_int, has_str, has_ints, show inK .i64 0 = true from rfl, hi1, hi2, hu2, g1, g2, ti, tf, tz, List.length_cons, List.length_nil, beq_self_eq_true, bne_self_eq_false, Bool.and_self, aIf_true, aIf_false, allU8_of hu2, Bool.not_true, e3, q0, q1, q3, hn8]
  by_cases o1 : o ≥ 0
  case neg => rw [decide_eq_false o1]; rfl
  rw [decide_eq_true o1]
  by_cases o2 : o < ((8 * b.length : Nat) : Int)
  case neg => rw [decide_eq_false o2]; rfl
  rw [decide_eq_true o2]
  obtain ⟨o, rfl⟩ := Int.eq_ofNat_of_zero_le o1
  have b01 := bitV_01 b o
  have r1 := R19_is (fl := f1) (j := o) p1 (by omega) (by omega)
  have r2 := R19_is (fl := fl) (j := o) hu2 hL (by omega)
  have hib : inK .u64 (bitV b o) = true := inK_of (k := .u64) ⟨b01.1, by show _ ≤ (18446744073709551615 : Int); omega⟩
  by_cases o3 : (o : Int) < a
  · rw [decide_eq_true o3, r1, r2, m6 o (.inl o3)]
    simp only [shOK_ret, has_int, hib, g0, ti, bne_self_eq_false, aIf_true, aIf_false]
  · rw [decide_eq_false o3]
    have a0 : 0 ≤ a := by
      unfold putE at he
      cases c1 : decide (n > 64) || !thereB b.length a n
      · rw [Bool.or_eq_false_iff, Bool.not_eq_false'] at c1
        exact (there_of c1.2).1
      · rw [c1, cond_true] at he; exact absurd he (by decide)
    obtain ⟨a, rfl⟩ := Int.eq_ofNat_of_zero_le a0
    have hsub : IntKind.i64.wrap ((o : Int) - (a : Int)) = (o : Int) - (a : Int) := by
      rw [show (o : Int) - (a : Int) = ((o - a : Nat) : Int) by omega]
      exact i64n (by omega)
    rw [hsub]
    by_cases o4 : (o : Int) - (a : Int) ≥ n
    · rw [decide_eq_true o4, r1, r2, m6 o (.inr o4)]
      simp only [shOK_ret, has_int, hib, g0, ti, bne_self_eq_false, aIf_true, aIf_false]
    · rw [decide_eq_false o4]; rfl

theorem law_spec {H : Type} (ds : List (DataW H)) (h : ds.length = Try.f3.params.toList.length) : (Rows.fieldBackSpec.fn H (ds ++ [])).results = [.lit (.bool true)] ∧ (Rows.fieldBackSpec.fn H (ds ++ [])).args = ds ∧ (Rows.fieldBackSpec.fn H (ds ++ [])).vars = [] := by
  rw [Try.params3] at h
  match ds, h with
  | [d0, d1, d2, d3, d4], _ => exact ⟨rfl, rfl, rfl⟩

set_option maxRecDepth 100000 in
theorem law_lifted (os : Os) (started : os.Started) (H : Type) (enc : TypeId × Value → H) :
    ReturnsInHanded {} Try.checked os 3 .any (Rows.fieldBackSpec.pre6 enc Try.prog Try.f3 Rows.fieldBackRow.domain false) (Rows.fieldBackSpec.post enc Try.prog Try.f3 false true false false) := by
  refine returnsInHanded_of_change (C := Try.checked) own started (by kernel_rfl) Try.func3
    (ChangeSpec.witness6 (enc := enc) (C := Try.checked) false ⟨#[], #[.slice none 0 0, .int .i64 0, .int .i64 0, .int .u64 0, .int .i64 0], []⟩ 8 (by kernel_rfl) (by kernel_rfl) (by kernel_rfl) (by kernel_rfl)) ?_
  intro W base args ds gs before hval hW _ _
  exact law_post (P := Try.prog) (E := E) (D := 4) (tb := 4) (fn := Try.f3) E_ok laidOut (by kernel_rfl) rfl (by kernel_rfl) rfl law_spec S3_ok law_holds hval hW

theorem fieldBack_holds : Rows.FieldBackSaid :=
  OpenClaim.holds_of_wide 3 Try.f3 rfl rfl rfl rfl rfl rfl rfl ⟨rfl, rfl, rfl, rfl, rfl⟩ rfl rfl rfl rfl rfl (by kernel_rfl) Try.func3 (by kernel_rfl)
    (of_decide_eq_true (by kernel_rfl)) (by unfold Func.isWrapper; first | (rw [if_pos (by decide +kernel)]; kernel_rfl) | (rw [if_neg (by decide +kernel)]; exact ⟨rfl, rfl⟩))
    (fun os started H enc _ => law_lifted os started H enc)

#print axioms fieldBack_holds

end Go.Proofs.Ytkiipegoooldiaa

