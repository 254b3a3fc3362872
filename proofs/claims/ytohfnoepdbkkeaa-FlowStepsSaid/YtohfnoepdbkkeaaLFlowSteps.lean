import Derived.Test.YtohfnoepdbkkeaaFFlowSteps
import Derived.Test.YtohfnoepdbkkeaaA20
import Derived.Test.YtohfnoepdbkkeaaPPort
import Derived.ProofKit
namespace Go.Proofs.Ytohfnoepdbkkeaa
open Go.Abs Go.Pl Go.RowKit Go.ChangeShapes Go.WideShapes Go.ChangeAt

theorem own : ownKnob Try.prog.godebug = none := by kernel_rfl
theorem laidOut : laidOutB Try.prog = true := by kernel_rfl
theorem argT3 (xs : List AV) : argT E 4 3 xs = intT .i64 xs := by kernel_rfl
theorem agg3 : aggT E 3 = false := by kernel_rfl
theorem argT4 (xs : List AV) : argT E 4 4 xs = boolT xs := by kernel_rfl
theorem agg4 : aggT E 4 = false := by kernel_rfl
theorem argT5 (xs : List AV) : argT E 4 5 xs = intT .u8 xs := by kernel_rfl
theorem agg5 : aggT E 5 = false := by kernel_rfl

theorem N8 (s f p : Int) (b : Bool) : S8 [.int .i64 s, .bool b, .int .u8 f, .int .u8 p] [] (fun e H => some (e, H)) =
  aIf (shOK (Sh.tup [Sh.int IntKind.i64, Sh.bool]) (R26 [AV.int IntKind.i64 s, AV.bool b, AV.int IntKind.u8 f]))
  (aIf (shOK (Sh.tup [Sh.int IntKind.i64, Sh.bool]) (R27 [AV.int IntKind.i64 s, AV.bool b, AV.int IntKind.u8 f]))
    (aIf (shOK (Sh.tup [Sh.int IntKind.i64, Sh.int IntKind.i64]) (R28 [AV.int IntKind.u8 p, AV.int IntKind.u8 f]))
      (aIf (shOK (Sh.tup [Sh.int IntKind.i64, Sh.int IntKind.i64]) (R29 [AV.int IntKind.u8 p, AV.int IntKind.u8 f]))
        (aIf
          ((sel (R26 [AV.int IntKind.i64 s, AV.bool b, AV.int IntKind.u8 f]) [0]).toInt ==
            (sel (R27 [AV.int IntKind.i64 s, AV.bool b, AV.int IntKind.u8 f]) [0]).toInt)
          (aIf
            ((sel (R26 [AV.int IntKind.i64 s, AV.bool b, AV.int IntKind.u8 f]) [1]).toBool ==
              (sel (R27 [AV.int IntKind.i64 s, AV.bool b, AV.int IntKind.u8 f]) [1]).toBool)
            (aIf
              ((sel (R28 [AV.int IntKind.u8 p, AV.int IntKind.u8 f]) [0]).toInt ==
                (sel (R29 [AV.int IntKind.u8 p, AV.int IntKind.u8 f]) [0]).toInt)
              (aIf
                ((sel (R28 [AV.int IntKind.u8 p, AV.int IntKind.u8 f]) [1]).toInt ==
                  (sel (R29 [AV.int IntKind.u8 p, AV.int IntKind.u8 f]) [1]).toInt)
                (some (AEnd.ret (AV.bool true), [])) (some (AEnd.ret (AV.bool false), [])))
              (some (AEnd.ret (AV.bool false), [])))
            (some (AEnd.ret (AV.bool false), [])))
          (some (AEnd.ret (AV.bool false), [])))
        none)
      none)
    none)
  none := by kernel_rfl
theorem N26 (s f : Int) (b : Bool) : S26 [.int .i64 s, .bool b, .int .u8 f] [] encK =
  aIf (s == 1) (some (AEnd.ret (AV.tup [AV.int IntKind.i64 s, AV.bool true]), []))
  (aIf (s == 2) (some (AEnd.ret (AV.tup [AV.int IntKind.i64 s, AV.bool true]), []))
    (aIf (s == 3)
      (aIf (IntKind.u8.wrap ↑(BitVec.ofInt 8 f &&& BitVec.ofInt 8 2).toNat != 0)
        (aIf (!IntKind.u8.wrap ↑(BitVec.ofInt 8 f &&& BitVec.ofInt 8 4).toNat != 0)
          (aIf (!b) (some (AEnd.ret (AV.tup [AV.int IntKind.i64 4, AV.bool true]), []))
            (aIf (IntKind.u8.wrap ↑(BitVec.ofInt 8 f &&& BitVec.ofInt 8 2).toNat != 0)
              (some
                (AEnd.ret
                    (AV.tup
                      [AV.int IntKind.i64 s,
                        AV.bool !IntKind.u8.wrap ↑(BitVec.ofInt 8 f &&& BitVec.ofInt 8 4).toNat != 0]),
                  []))
              (some (AEnd.ret (AV.tup [AV.int IntKind.i64 s, AV.bool false]), []))))
          (aIf (IntKind.u8.wrap ↑(BitVec.ofInt 8 f &&& BitVec.ofInt 8 2).toNat != 0)
            (some
              (AEnd.ret
                  (AV.tup
                    [AV.int IntKind.i64 s,
                      AV.bool !IntKind.u8.wrap ↑(BitVec.ofInt 8 f &&& BitVec.ofInt 8 4).toNat != 0]),
                []))
            (some (AEnd.ret (AV.tup [AV.int IntKind.i64 s, AV.bool false]), []))))
        (aIf (IntKind.u8.wrap ↑(BitVec.ofInt 8 f &&& BitVec.ofInt 8 2).toNat != 0)
          (some
            (AEnd.ret
                (AV.tup
                  [AV.int IntKind.i64 s, AV.bool !IntKind.u8.wrap ↑(BitVec.ofInt 8 f &&& BitVec.ofInt 8 4).toNat != 0]),
              []))
          (some (AEnd.ret (AV.tup [AV.int IntKind.i64 s, AV.bool false]), []))))
      (aIf (s == 4)
        (aIf (IntKind.u8.wrap ↑(BitVec.ofInt 8 f &&& BitVec.ofInt 8 4).toNat != 0)
          (some (AEnd.ret (AV.tup [AV.int IntKind.i64 8, AV.bool true]), []))
          (aIf (IntKind.u8.wrap ↑(BitVec.ofInt 8 f &&& BitVec.ofInt 8 1).toNat != 0)
            (aIf b (some (AEnd.ret (AV.tup [AV.int IntKind.i64 5, AV.bool true]), []))
              (aIf (IntKind.u8.wrap ↑(BitVec.ofInt 8 f &&& BitVec.ofInt 8 1).toNat != 0)
                (some (AEnd.ret (AV.tup [AV.int IntKind.i64 6, AV.bool true]), []))
                (some (AEnd.ret (AV.tup [AV.int IntKind.i64 s, AV.bool true]), []))))
            (aIf (IntKind.u8.wrap ↑(BitVec.ofInt 8 f &&& BitVec.ofInt 8 1).toNat != 0)
              (some (AEnd.ret (AV.tup [AV.int IntKind.i64 6, AV.bool true]), []))
              (some (AEnd.ret (AV.tup [AV.int IntKind.i64 s, AV.bool true]), [])))))
        (aIf (s == 5)
          (aIf (IntKind.u8.wrap ↑(BitVec.ofInt 8 f &&& BitVec.ofInt 8 4).toNat != 0)
            (some (AEnd.ret (AV.tup [AV.int IntKind.i64 8, AV.bool true]), []))
            (aIf (IntKind.u8.wrap ↑(BitVec.ofInt 8 f &&& BitVec.ofInt 8 1).toNat != 0)
              (aIf (b == (s == 6)) (some (AEnd.ret (AV.tup [AV.int IntKind.i64 7, AV.bool true]), []))
                (some (AEnd.ret (AV.tup [AV.int IntKind.i64 s, AV.bool true]), [])))
              (some (AEnd.ret (AV.tup [AV.int IntKind.i64 s, AV.bool true]), []))))
          (aIf (s == 6)
            (aIf (IntKind.u8.wrap ↑(BitVec.ofInt 8 f &&& BitVec.ofInt 8 4).toNat != 0)
              (some (AEnd.ret (AV.tup [AV.int IntKind.i64 8, AV.bool true]), []))
              (aIf (IntKind.u8.wrap ↑(BitVec.ofInt 8 f &&& BitVec.ofInt 8 1).toNat != 0)
                (aIf (b == (s == 6)) (some (AEnd.ret (AV.tup [AV.int IntKind.i64 7, AV.bool true]), []))
                  (some (AEnd.ret (AV.tup [AV.int IntKind.i64 s, AV.bool true]), [])))
                (some (AEnd.ret (AV.tup [AV.int IntKind.i64 s, AV.bool true]), []))))
            (aIf (s == 8)
              (aIf (!IntKind.u8.wrap ↑(BitVec.ofInt 8 f &&& BitVec.ofInt 8 4).toNat != 0)
                (some (AEnd.ret (AV.tup [AV.int IntKind.i64 4, AV.bool true]), []))
                (some (AEnd.ret (AV.tup [AV.int IntKind.i64 s, AV.bool false]), [])))
              (some (AEnd.ret (AV.tup [AV.int IntKind.i64 s, AV.bool false]), [])))))))) := by kernel_rfl
theorem N27 (s f : Int) (b : Bool) : S27 [.int .i64 s, .bool b, .int .u8 f] [] encK =
  aIf (s == 1)
  (aIf (s == 1) (some (AEnd.ret (AV.tup [AV.int IntKind.i64 s, AV.bool true]), []))
    (aIf (s == 3)
      (aIf (IntKind.u8.wrap ↑(BitVec.ofInt 8 f &&& BitVec.ofInt 8 2).toNat != 0)
        (aIf (!IntKind.u8.wrap ↑(BitVec.ofInt 8 f &&& BitVec.ofInt 8 4).toNat != 0)
          (aIf (!b) (some (AEnd.ret (AV.tup [AV.int IntKind.i64 4, AV.bool true]), []))
            (aIf (IntKind.u8.wrap ↑(BitVec.ofInt 8 f &&& BitVec.ofInt 8 2).toNat != 0)
              (some
                (AEnd.ret
                    (AV.tup
                      [AV.int IntKind.i64 s,
                        AV.bool !IntKind.u8.wrap ↑(BitVec.ofInt 8 f &&& BitVec.ofInt 8 4).toNat != 0]),
                  []))
              (some (AEnd.ret (AV.tup [AV.int IntKind.i64 s, AV.bool false]), []))))
          (aIf (IntKind.u8.wrap ↑(BitVec.ofInt 8 f &&& BitVec.ofInt 8 2).toNat != 0)
            (some
              (AEnd.ret
                  (AV.tup
                    [AV.int IntKind.i64 s,
                      AV.bool !IntKind.u8.wrap ↑(BitVec.ofInt 8 f &&& BitVec.ofInt 8 4).toNat != 0]),
                []))
            (some (AEnd.ret (AV.tup [AV.int IntKind.i64 s, AV.bool false]), []))))
        (aIf (IntKind.u8.wrap ↑(BitVec.ofInt 8 f &&& BitVec.ofInt 8 2).toNat != 0)
          (some
            (AEnd.ret
                (AV.tup
                  [AV.int IntKind.i64 s, AV.bool !IntKind.u8.wrap ↑(BitVec.ofInt 8 f &&& BitVec.ofInt 8 4).toNat != 0]),
              []))
          (some (AEnd.ret (AV.tup [AV.int IntKind.i64 s, AV.bool false]), []))))
      (aIf (s == 4)
        (aIf (s == 4)
          (aIf (IntKind.u8.wrap ↑(BitVec.ofInt 8 f &&& BitVec.ofInt 8 4).toNat != 0)
            (some (AEnd.ret (AV.tup [AV.int IntKind.i64 8, AV.bool true]), []))
            (aIf (!IntKind.u8.wrap ↑(BitVec.ofInt 8 f &&& BitVec.ofInt 8 1).toNat != 0)
              (some (AEnd.ret (AV.tup [AV.int IntKind.i64 s, AV.bool true]), []))
              (aIf (s == 4)
                (aIf b (some (AEnd.ret (AV.tup [AV.int IntKind.i64 5, AV.bool true]), []))
                  (some (AEnd.ret (AV.tup [AV.int IntKind.i64 6, AV.bool true]), [])))
                (aIf (s == 5)
                  (aIf (!b) (some (AEnd.ret (AV.tup [AV.int IntKind.i64 7, AV.bool true]), []))
                    (some (AEnd.ret (AV.tup [AV.int IntKind.i64 s, AV.bool true]), [])))
                  (aIf (s == 6)
                    (aIf b (some (AEnd.ret (AV.tup [AV.int IntKind.i64 7, AV.bool true]), []))
                      (some (AEnd.ret (AV.tup [AV.int IntKind.i64 s, AV.bool true]), [])))
                    (some (AEnd.ret (AV.tup [AV.int IntKind.i64 s, AV.bool true]), [])))))))
          (aIf (s == 8)
            (aIf (IntKind.u8.wrap ↑(BitVec.ofInt 8 f &&& BitVec.ofInt 8 4).toNat != 0)
              (some (AEnd.ret (AV.tup [AV.int IntKind.i64 s, AV.bool false]), []))
              (some (AEnd.ret (AV.tup [AV.int IntKind.i64 4, AV.bool true]), [])))
            (some (AEnd.ret (AV.tup [AV.int IntKind.i64 s, AV.bool false]), []))))
        (aIf (s == 5)
          (aIf (s == 5)
            (aIf (IntKind.u8.wrap ↑(BitVec.ofInt 8 f &&& BitVec.ofInt 8 4).toNat != 0)
              (some (AEnd.ret (AV.tup [AV.int IntKind.i64 8, AV.bool true]), []))
              (aIf (!IntKind.u8.wrap ↑(BitVec.ofInt 8 f &&& BitVec.ofInt 8 1).toNat != 0)
                (some (AEnd.ret (AV.tup [AV.int IntKind.i64 s, AV.bool true]), []))
                (aIf (s == 4)
                  (aIf b (some (AEnd.ret (AV.tup [AV.int IntKind.i64 5, AV.bool true]), []))
                    (some (AEnd.ret (AV.tup [AV.int IntKind.i64 6, AV.bool true]), [])))
                  (aIf (s == 5)
                    (aIf (!b) (some (AEnd.ret (AV.tup [AV.int IntKind.i64 7, AV.bool true]), []))
                      (some (AEnd.ret (AV.tup [AV.int IntKind.i64 s, AV.bool true]), [])))
                    (aIf (s == 6)
                      (aIf b (some (AEnd.ret (AV.tup [AV.int IntKind.i64 7, AV.bool true]), []))
                        (some (AEnd.ret (AV.tup [AV.int IntKind.i64 s, AV.bool true]), [])))
                      (some (AEnd.ret (AV.tup [AV.int IntKind.i64 s, AV.bool true]), [])))))))
            (aIf (s == 8)
              (aIf (IntKind.u8.wrap ↑(BitVec.ofInt 8 f &&& BitVec.ofInt 8 4).toNat != 0)
                (some (AEnd.ret (AV.tup [AV.int IntKind.i64 s, AV.bool false]), []))
                (some (AEnd.ret (AV.tup [AV.int IntKind.i64 4, AV.bool true]), [])))
              (some (AEnd.ret (AV.tup [AV.int IntKind.i64 s, AV.bool false]), []))))
          (aIf (s == 6)
            (aIf (IntKind.u8.wrap ↑(BitVec.ofInt 8 f &&& BitVec.ofInt 8 4).toNat != 0)
              (some (AEnd.ret (AV.tup [AV.int IntKind.i64 8, AV.bool true]), []))
              (aIf (!IntKind.u8.wrap ↑(BitVec.ofInt 8 f &&& BitVec.ofInt 8 1).toNat != 0)
                (some (AEnd.ret (AV.tup [AV.int IntKind.i64 s, AV.bool true]), []))
                (aIf (s == 4)
                  (aIf b (some (AEnd.ret (AV.tup [AV.int IntKind.i64 5, AV.bool true]), []))
                    (some (AEnd.ret (AV.tup [AV.int IntKind.i64 6, AV.bool true]), [])))
                  (aIf (s == 5)
                    (aIf (!b) (some (AEnd.ret (AV.tup [AV.int IntKind.i64 7, AV.bool true]), []))
                      (some (AEnd.ret (AV.tup [AV.int IntKind.i64 s, AV.bool true]), [])))
                    (aIf (s == 6)
                      (aIf b (some (AEnd.ret (AV.tup [AV.int IntKind.i64 7, AV.bool true]), []))
                        (some (AEnd.ret (AV.tup [AV.int IntKind.i64 s, AV.bool true]), [])))
                      (some (AEnd.ret (AV.tup [AV.int IntKind.i64 s, AV.bool true]), [])))))))
            (aIf (s == 8)
              (aIf (IntKind.u8.wrap ↑(BitVec.ofInt 8 f &&& BitVec.ofInt 8 4).toNat != 0)
                (some (AEnd.ret (AV.tup [AV.int IntKind.i64 s, AV.bool false]), []))
                (some (AEnd.ret (AV.tup [AV.int IntKind.i64 4, AV.bool true]), [])))
              (some (AEnd.ret (AV.tup [AV.int IntKind.i64 s, AV.bool false]), []))))))))
  (aIf (s == 2) (some (AEnd.ret (AV.tup [AV.int IntKind.i64 s, AV.bool true]), []))
    (aIf (s == 3)
      (aIf (IntKind.u8.wrap ↑(BitVec.ofInt 8 f &&& BitVec.ofInt 8 2).toNat != 0)
        (aIf (!IntKind.u8.wrap ↑(BitVec.ofInt 8 f &&& BitVec.ofInt 8 4).toNat != 0)
          (aIf (!b) (some (AEnd.ret (AV.tup [AV.int IntKind.i64 4, AV.bool true]), []))
            (aIf (IntKind.u8.wrap ↑(BitVec.ofInt 8 f &&& BitVec.ofInt 8 2).toNat != 0)
              (some
                (AEnd.ret
                    (AV.tup
                      [AV.int IntKind.i64 s,
                        AV.bool !IntKind.u8.wrap ↑(BitVec.ofInt 8 f &&& BitVec.ofInt 8 4).toNat != 0]),
                  []))
              (some (AEnd.ret (AV.tup [AV.int IntKind.i64 s, AV.bool false]), []))))
          (aIf (IntKind.u8.wrap ↑(BitVec.ofInt 8 f &&& BitVec.ofInt 8 2).toNat != 0)
            (some
              (AEnd.ret
                  (AV.tup
                    [AV.int IntKind.i64 s,
                      AV.bool !IntKind.u8.wrap ↑(BitVec.ofInt 8 f &&& BitVec.ofInt 8 4).toNat != 0]),
                []))
            (some (AEnd.ret (AV.tup [AV.int IntKind.i64 s, AV.bool false]), []))))
        (aIf (IntKind.u8.wrap ↑(BitVec.ofInt 8 f &&& BitVec.ofInt 8 2).toNat != 0)
          (some
            (AEnd.ret
                (AV.tup
                  [AV.int IntKind.i64 s, AV.bool !IntKind.u8.wrap ↑(BitVec.ofInt 8 f &&& BitVec.ofInt 8 4).toNat != 0]),
              []))
          (some (AEnd.ret (AV.tup [AV.int IntKind.i64 s, AV.bool false]), []))))
      (aIf (s == 4)
        (aIf (s == 4)
          (aIf (IntKind.u8.wrap ↑(BitVec.ofInt 8 f &&& BitVec.ofInt 8 4).toNat != 0)
            (some (AEnd.ret (AV.tup [AV.int IntKind.i64 8, AV.bool true]), []))
            (aIf (!IntKind.u8.wrap ↑(BitVec.ofInt 8 f &&& BitVec.ofInt 8 1).toNat != 0)
              (some (AEnd.ret (AV.tup [AV.int IntKind.i64 s, AV.bool true]), []))
              (aIf (s == 4)
                (aIf b (some (AEnd.ret (AV.tup [AV.int IntKind.i64 5, AV.bool true]), []))
                  (some (AEnd.ret (AV.tup [AV.int IntKind.i64 6, AV.bool true]), [])))
                (aIf (s == 5)
                  (aIf (!b) (some (AEnd.ret (AV.tup [AV.int IntKind.i64 7, AV.bool true]), []))
                    (some (AEnd.ret (AV.tup [AV.int IntKind.i64 s, AV.bool true]), [])))
                  (aIf (s == 6)
                    (aIf b (some (AEnd.ret (AV.tup [AV.int IntKind.i64 7, AV.bool true]), []))
                      (some (AEnd.ret (AV.tup [AV.int IntKind.i64 s, AV.bool true]), [])))
                    (some (AEnd.ret (AV.tup [AV.int IntKind.i64 s, AV.bool true]), [])))))))
          (aIf (s == 8)
            (aIf (IntKind.u8.wrap ↑(BitVec.ofInt 8 f &&& BitVec.ofInt 8 4).toNat != 0)
              (some (AEnd.ret (AV.tup [AV.int IntKind.i64 s, AV.bool false]), []))
              (some (AEnd.ret (AV.tup [AV.int IntKind.i64 4, AV.bool true]), [])))
            (some (AEnd.ret (AV.tup [AV.int IntKind.i64 s, AV.bool false]), []))))
        (aIf (s == 5)
          (aIf (s == 5)
            (aIf (IntKind.u8.wrap ↑(BitVec.ofInt 8 f &&& BitVec.ofInt 8 4).toNat != 0)
              (some (AEnd.ret (AV.tup [AV.int IntKind.i64 8, AV.bool true]), []))
              (aIf (!IntKind.u8.wrap ↑(BitVec.ofInt 8 f &&& BitVec.ofInt 8 1).toNat != 0)
                (some (AEnd.ret (AV.tup [AV.int IntKind.i64 s, AV.bool true]), []))
                (aIf (s == 4)
                  (aIf b (some (AEnd.ret (AV.tup [AV.int IntKind.i64 5, AV.bool true]), []))
                    (some (AEnd.ret (AV.tup [AV.int IntKind.i64 6, AV.bool true]), [])))
                  (aIf (s == 5)
                    (aIf (!b) (some (AEnd.ret (AV.tup [AV.int IntKind.i64 7, AV.bool true]), []))
                      (some (AEnd.ret (AV.tup [AV.int IntKind.i64 s, AV.bool true]), [])))
                    (aIf (s == 6)
                      (aIf b (some (AEnd.ret (AV.tup [AV.int IntKind.i64 7, AV.bool true]), []))
                        (some (AEnd.ret (AV.tup [AV.int IntKind.i64 s, AV.bool true]), [])))
                      (some (AEnd.ret (AV.tup [AV.int IntKind.i64 s, AV.bool true]), [])))))))
            (aIf (s == 8)
              (aIf (IntKind.u8.wrap ↑(BitVec.ofInt 8 f &&& BitVec.ofInt 8 4).toNat != 0)
                (some (AEnd.ret (AV.tup [AV.int IntKind.i64 s, AV.bool false]), []))
                (some (AEnd.ret (AV.tup [AV.int IntKind.i64 4, AV.bool true]), [])))
              (some (AEnd.ret (AV.tup [AV.int IntKind.i64 s, AV.bool false]), []))))
          (aIf (s == 6)
            (aIf (IntKind.u8.wrap ↑(BitVec.ofInt 8 f &&& BitVec.ofInt 8 4).toNat != 0)
              (some (AEnd.ret (AV.tup [AV.int IntKind.i64 8, AV.bool true]), []))
              (aIf (!IntKind.u8.wrap ↑(BitVec.ofInt 8 f &&& BitVec.ofInt 8 1).toNat != 0)
                (some (AEnd.ret (AV.tup [AV.int IntKind.i64 s, AV.bool true]), []))
                (aIf (s == 4)
                  (aIf b (some (AEnd.ret (AV.tup [AV.int IntKind.i64 5, AV.bool true]), []))
                    (some (AEnd.ret (AV.tup [AV.int IntKind.i64 6, AV.bool true]), [])))
                  (aIf (s == 5)
                    (aIf (!b) (some (AEnd.ret (AV.tup [AV.int IntKind.i64 7, AV.bool true]), []))
                      (some (AEnd.ret (AV.tup [AV.int IntKind.i64 s, AV.bool true]), [])))
                    (aIf (s == 6)
                      (aIf b (some (AEnd.ret (AV.tup [AV.int IntKind.i64 7, AV.bool true]), []))
                        (some (AEnd.ret (AV.tup [AV.int IntKind.i64 s, AV.bool true]), [])))
                      (some (AEnd.ret (AV.tup [AV.int IntKind.i64 s, AV.bool true]), [])))))))
            (aIf (s == 8)
              (aIf (IntKind.u8.wrap ↑(BitVec.ofInt 8 f &&& BitVec.ofInt 8 4).toNat != 0)
                (some (AEnd.ret (AV.tup [AV.int IntKind.i64 s, AV.bool false]), []))
                (some (AEnd.ret (AV.tup [AV.int IntKind.i64 4, AV.bool true]), [])))
              (some (AEnd.ret (AV.tup [AV.int IntKind.i64 s, AV.bool false]), [])))))))) := by kernel_rfl
theorem N28 (p f : Int) : S28 [.int .u8 p, .int .u8 f] [] encK =
  aIf (p == 17) (some (AEnd.ret (AV.tup [AV.int IntKind.i64 1, AV.int IntKind.i64 0]), []))
  (aIf (p == 1) (some (AEnd.ret (AV.tup [AV.int IntKind.i64 2, AV.int IntKind.i64 0]), []))
    (aIf (p == 58) (some (AEnd.ret (AV.tup [AV.int IntKind.i64 2, AV.int IntKind.i64 0]), []))
      (aIf (p == 6)
        (aIf (IntKind.u8.wrap ↑(BitVec.ofInt 8 f &&& BitVec.ofInt 8 2).toNat != 0)
          (aIf (!!IntKind.u8.wrap ↑(BitVec.ofInt 8 f &&& BitVec.ofInt 8 4).toNat != 0)
            (some (AEnd.ret (AV.tup [AV.int IntKind.i64 0, AV.int IntKind.i64 191]), []))
            (some (AEnd.ret (AV.tup [AV.int IntKind.i64 3, AV.int IntKind.i64 0]), [])))
          (some (AEnd.ret (AV.tup [AV.int IntKind.i64 0, AV.int IntKind.i64 191]), [])))
        (some (AEnd.ret (AV.tup [AV.int IntKind.i64 0, AV.int IntKind.i64 64]), []))))) := by kernel_rfl
theorem N29 (p f : Int) : S29 [.int .u8 p, .int .u8 f] [] encK =
  aIf (p == 17) (some (AEnd.ret (AV.tup [AV.int IntKind.i64 1, AV.int IntKind.i64 0]), []))
  (aIf (p == 1)
    (aIf (p == 1) (some (AEnd.ret (AV.tup [AV.int IntKind.i64 2, AV.int IntKind.i64 0]), []))
      (aIf (p == 6)
        (aIf (IntKind.u8.wrap ↑(BitVec.ofInt 8 f &&& BitVec.ofInt 8 2).toNat != 0)
          (aIf (!IntKind.u8.wrap ↑(BitVec.ofInt 8 f &&& BitVec.ofInt 8 4).toNat != 0)
            (some (AEnd.ret (AV.tup [AV.int IntKind.i64 3, AV.int IntKind.i64 0]), []))
            (some (AEnd.ret (AV.tup [AV.int IntKind.i64 0, AV.int IntKind.i64 191]), [])))
          (some (AEnd.ret (AV.tup [AV.int IntKind.i64 0, AV.int IntKind.i64 191]), [])))
        (some (AEnd.ret (AV.tup [AV.int IntKind.i64 0, AV.int IntKind.i64 64]), []))))
    (aIf (p == 58) (some (AEnd.ret (AV.tup [AV.int IntKind.i64 2, AV.int IntKind.i64 0]), []))
      (aIf (p == 6)
        (aIf (IntKind.u8.wrap ↑(BitVec.ofInt 8 f &&& BitVec.ofInt 8 2).toNat != 0)
          (aIf (!IntKind.u8.wrap ↑(BitVec.ofInt 8 f &&& BitVec.ofInt 8 4).toNat != 0)
            (some (AEnd.ret (AV.tup [AV.int IntKind.i64 3, AV.int IntKind.i64 0]), []))
            (some (AEnd.ret (AV.tup [AV.int IntKind.i64 0, AV.int IntKind.i64 191]), [])))
          (some (AEnd.ret (AV.tup [AV.int IntKind.i64 0, AV.int IntKind.i64 191]), [])))
        (some (AEnd.ret (AV.tup [AV.int IntKind.i64 0, AV.int IntKind.i64 64]), []))))) := by kernel_rfl

theorem step_same (s f : Int) (b : Bool) : R26 [.int .i64 s, .bool b, .int .u8 f] = R27 [.int .i64 s, .bool b, .int .u8 f] := by
  show S26 _ [] encK = S27 _ [] encK
  rw [N26, N27]
  generalize (IntKind.u8.wrap ((BitVec.ofInt 8 f &&& BitVec.ofInt 8 1).toNat : Int) != 0) = f1
  generalize (IntKind.u8.wrap ((BitVec.ofInt 8 f &&& BitVec.ofInt 8 2).toNat : Int) != 0) = f2
  generalize (IntKind.u8.wrap ((BitVec.ofInt 8 f &&& BitVec.ofInt 8 4).toNat : Int) != 0) = f4
  by_cases h1 : s = 1
  · subst h1; cases f1 <;> cases f2 <;> cases f4 <;> cases b <;> rfl
  by_cases h2 : s = 2
  · subst h2; cases f1 <;> cases f2 <;> cases f4 <;> cases b <;> rfl
  by_cases h3 : s = 3
  · subst h3; cases f1 <;> cases f2 <;> cases f4 <;> cases b <;> rfl
  by_cases h4 : s = 4
  · subst h4; cases f1 <;> cases f2 <;> cases f4 <;> cases b <;> rfl
  by_cases h5 : s = 5
  · subst h5; cases f1 <;> cases f2 <;> cases f4 <;> cases b <;> rfl
  by_cases h6 : s = 6
  · subst h6; cases f1 <;> cases f2 <;> cases f4 <;> cases b <;> rfl
  by_cases h8 : s = 8
  · subst h8; cases f1 <;> cases f2 <;> cases f4 <;> cases b <;> rfl
  have g1 : (s == 1) = false := by simpa using h1
  have g2 : (s == 2) = false := by simpa using h2
  have g3 : (s == 3) = false := by simpa using h3
  have g4 : (s == 4) = false := by simpa using h4
  have g5 : (s == 5) = false := by simpa using h5
  have g6 : (s == 6) = false := by simpa using h6
  have g8 : (s == 8) = false := by simpa using h8
  simp only [g1, g2, g3, g4, g5, g6, g8]
  rfl

theorem begin_same (p f : Int) : R28 [.int .u8 p, .int .u8 f] = R29 [.int .u8 p, .int .u8 f] := by
  show S28 _ [] encK = S29 _ [] encK
  rw [N28, N29]
  generalize (IntKind.u8.wrap ((BitVec.ofInt 8 f &&& BitVec.ofInt 8 2).toNat : Int) != 0) = f2
  generalize (IntKind.u8.wrap ((BitVec.ofInt 8 f &&& BitVec.ofInt 8 4).toNat : Int) != 0) = f4
  generalize (p == 17) = p1
  generalize (p == 1) = p2
  generalize (p == 58) = p3
  generalize (p == 6) = p4
  cases f2 <;> cases f4 <;> cases p1 <;> cases p2 <;> cases p3 <;> cases p4 <;> rfl

theorem step_ok (s f : Int) (b : Bool) (h : inK .i64 s = true) : shOK (.tup [.int .i64, .bool]) (R26 [.int .i64 s, .bool b, .int .u8 f]) = true := by
  show shOK _ (S26 _ [] encK) = true
  rw [N26]
  simp only [shOK_aIf, shOK_ret, has_tup, hasL_cons, hasL_nil, List.getD_cons_zero, List.getD_cons_succ, has_int, has_bool, h]
  simp [inK_i64]

theorem begin_ok (p f : Int) : shOK (.tup [.int .i64, .int .i64]) (R28 [.int .u8 p, .int .u8 f]) = true := by
  show shOK _ (S28 _ [] encK) = true
  rw [N28]
  simp only [shOK_aIf, shOK_ret, has_tup, hasL_cons, hasL_nil, List.getD_cons_zero, List.getD_cons_succ, has_int]
  simp [inK_i64]

theorem law_holds : ∀ xs, argsV E 4 Try.f8.params.toList xs → S8 xs [] (fun e H => some (e, H)) = some (.ret (.bool true), []) := by
  intro xs h
  rw [Try.params8] at h
  obtain ⟨x, y, z, u, rfl, h1, h2, h3, h4⟩ := args4 h
  obtain ⟨s, rfl, hs⟩ := intArg h1 argT3 agg3
  obtain ⟨b, rfl⟩ := boolArg h2 argT4 agg4
  obtain ⟨f, rfl, _⟩ := intArg h3 argT5 agg5
  obtain ⟨p, rfl, _⟩ := intArg h4 argT5 agg5
  have hk := inK_of hs
  rw [N8, ← step_same, ← begin_same, step_ok s f b hk, begin_ok]
  simp only [beq_self_eq_true, aIf_true]

theorem law_spec {H : Type} (ds : List (DataW H)) (h : ds.length = Try.f8.params.toList.length) : (Rows.flowStepsSpec.fn H (ds ++ [])).results = [.lit (.bool true)] ∧ (Rows.flowStepsSpec.fn H (ds ++ [])).args = ds ∧ (Rows.flowStepsSpec.fn H (ds ++ [])).vars = [] := by
  rw [Try.params8] at h
  match ds, h with
  | [d0, d1, d2, d3], _ => exact ⟨rfl, rfl, rfl⟩

set_option maxRecDepth 100000 in
theorem law_lifted (os : Os) (started : os.Started) (H : Type) (enc : TypeId × Value → H) :
    ReturnsInHanded {} Try.checked os 8 .any (Rows.flowStepsSpec.pre6 enc Try.prog Try.f8 Rows.flowStepsRow.domain false) (Rows.flowStepsSpec.post enc Try.prog Try.f8 false true false false) := by
  refine returnsInHanded_of_change (C := Try.checked) own started (by kernel_rfl) Try.func8
    (ChangeSpec.witness6 (enc := enc) (C := Try.checked) false ⟨#[], #[.int .i64 0, .bool false, .int .u8 0, .int .u8 0], []⟩ 8 (by kernel_rfl) (by kernel_rfl) (by kernel_rfl) (by kernel_rfl)) ?_
  intro W base args ds gs before hval hW _ _
  exact law_post (P := Try.prog) (E := E) (D := 4) (tb := 4) (fn := Try.f8) E_ok laidOut (by kernel_rfl) rfl (by kernel_rfl) rfl law_spec S8_ok law_holds hval hW

theorem flowSteps_holds : Rows.FlowStepsSaid :=
  OpenClaim.holds_of_wide 8 Try.f8 rfl rfl rfl rfl rfl rfl rfl ⟨rfl, rfl, rfl, rfl, rfl⟩ rfl rfl rfl rfl rfl (by kernel_rfl) Try.func8 (by kernel_rfl)
    (of_decide_eq_true (by kernel_rfl)) (by unfold Func.isWrapper; first | (rw [if_pos (by decide +kernel)]; kernel_rfl) | (rw [if_neg (by decide +kernel)]; exact ⟨rfl, rfl⟩))
    (fun os started H enc _ => law_lifted os started H enc)

#print axioms flowSteps_holds

end Go.Proofs.Ytohfnoepdbkkeaa

