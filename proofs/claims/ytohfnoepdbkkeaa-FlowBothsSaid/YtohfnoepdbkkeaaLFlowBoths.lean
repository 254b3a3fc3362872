/- FlowBoths: how a session comes to be open, and to be closed, for every state, side and flags. -/
import Derived.Test.YtohfnoepdbkkeaaFFlowBoths
import Derived.Test.YtohfnoepdbkkeaaA20
import Derived.Test.YtohfnoepdbkkeaaPPort
import Derived.ProofKit
namespace Go.Proofs.Ytohfnoepdbkkeaa
open Go.Abs Go.Pl Go.RowKit Go.ChangeShapes Go.WideShapes Go.ChangeAt

theorem own : ownKnob Try.prog.godebug = none := by kernel_rfl
theorem laidOut : laidOutB Try.prog = true := by kernel_rfl
theorem argT3 (xs : List AV) : argT E 4 3 xs = intT .i64 xs := by kernel_rfl
theorem agg3 : aggT E 3 = false := by kernel_rfl
theorem argT4 (xs : List AV) : argT E 4 4 xs = boolT xs := by kernel_rfl
theorem agg4 : aggT E 4 = false := by kernel_rfl
theorem argT5 (xs : List AV) : argT E 4 5 xs = intT .u8 xs := by kernel_rfl
theorem agg5 : aggT E 5 = false := by kernel_rfl

theorem N12 (s f : Int) (b : Bool) : S12 [.int .i64 s, .bool b, .int .u8 f] [] (fun e H => some (e, H)) =
  aIf (shOK (Sh.tup [Sh.int IntKind.i64, Sh.bool]) (R26 [AV.int IntKind.i64 s, AV.bool b, AV.int IntKind.u8 f]))
  (aIf (s == 1)
    (aIf ((sel (R26 [AV.int IntKind.i64 s, AV.bool b, AV.int IntKind.u8 f]) [0]).toInt != s)
      (some (AEnd.ret (AV.bool false), []))
      (aIf ((sel (R26 [AV.int IntKind.i64 s, AV.bool b, AV.int IntKind.u8 f]) [0]).toInt == 4)
        (aIf (s != (sel (R26 [AV.int IntKind.i64 s, AV.bool b, AV.int IntKind.u8 f]) [0]).toInt)
          (aIf (s == 8)
            (aIf (!IntKind.u8.wrap ↑(BitVec.ofInt 8 f &&& BitVec.ofInt 8 4).toNat == 0)
              (aIf (s == 3)
                (aIf (!b)
                  (aIf (!IntKind.u8.wrap ↑(BitVec.ofInt 8 f &&& BitVec.ofInt 8 2).toNat != 0)
                    (some (AEnd.ret (AV.bool false), []))
                    (aIf ((sel (R26 [AV.int IntKind.i64 s, AV.bool b, AV.int IntKind.u8 f]) [0]).toInt == 7)
                      (aIf (s != (sel (R26 [AV.int IntKind.i64 s, AV.bool b, AV.int IntKind.u8 f]) [0]).toInt)
                        (aIf (IntKind.u8.wrap ↑(BitVec.ofInt 8 f &&& BitVec.ofInt 8 1).toNat != 0)
                          (aIf (s == 5)
                            (aIf (!b) (some (AEnd.ret (AV.bool true), []))
                              (aIf (s == 6)
                                (aIf (!b) (some (AEnd.ret (AV.bool false), [])) (some (AEnd.ret (AV.bool true), [])))
                                (some (AEnd.ret (AV.bool false), []))))
                            (aIf (s == 6)
                              (aIf (!b) (some (AEnd.ret (AV.bool false), [])) (some (AEnd.ret (AV.bool true), [])))
                              (some (AEnd.ret (AV.bool false), []))))
                          (some (AEnd.ret (AV.bool false), [])))
                        (some (AEnd.ret (AV.bool true), [])))
                      (some (AEnd.ret (AV.bool true), []))))
                  (some (AEnd.ret (AV.bool false), [])))
                (some (AEnd.ret (AV.bool false), [])))
              (aIf ((sel (R26 [AV.int IntKind.i64 s, AV.bool b, AV.int IntKind.u8 f]) [0]).toInt == 7)
                (aIf (s != (sel (R26 [AV.int IntKind.i64 s, AV.bool b, AV.int IntKind.u8 f]) [0]).toInt)
                  (aIf (IntKind.u8.wrap ↑(BitVec.ofInt 8 f &&& BitVec.ofInt 8 1).toNat != 0)
                    (aIf (s == 5)
                      (aIf (!b) (some (AEnd.ret (AV.bool true), []))
                        (aIf (s == 6)
                          (aIf (!b) (some (AEnd.ret (AV.bool false), [])) (some (AEnd.ret (AV.bool true), [])))
                          (some (AEnd.ret (AV.bool false), []))))
                      (aIf (s == 6)
                        (aIf (!b) (some (AEnd.ret (AV.bool false), [])) (some (AEnd.ret (AV.bool true), [])))
                        (some (AEnd.ret (AV.bool false), []))))
                    (some (AEnd.ret (AV.bool false), [])))
                  (some (AEnd.ret (AV.bool true), [])))
                (some (AEnd.ret (AV.bool true), []))))
            (aIf (s == 3)
              (aIf (!b)
                (aIf (!IntKind.u8.wrap ↑(BitVec.ofInt 8 f &&& BitVec.ofInt 8 2).toNat != 0)
                  (some (AEnd.ret (AV.bool false), []))
                  (aIf ((sel (R26 [AV.int IntKind.i64 s, AV.bool b, AV.int IntKind.u8 f]) [0]).toInt == 7)
                    (aIf (s != (sel (R26 [AV.int IntKind.i64 s, AV.bool b, AV.int IntKind.u8 f]) [0]).toInt)
                      (aIf (IntKind.u8.wrap ↑(BitVec.ofInt 8 f &&& BitVec.ofInt 8 1).toNat != 0)
                        (aIf (s == 5)
                          (aIf (!b) (some (AEnd.ret (AV.bool true), []))
                            (aIf (s == 6)
                              (aIf (!b) (some (AEnd.ret (AV.bool false), [])) (some (AEnd.ret (AV.bool true), [])))
                              (some (AEnd.ret (AV.bool false), []))))
                          (aIf (s == 6)
                            (aIf (!b) (some (AEnd.ret (AV.bool false), [])) (some (AEnd.ret (AV.bool true), [])))
                            (some (AEnd.ret (AV.bool false), []))))
                        (some (AEnd.ret (AV.bool false), [])))
                      (some (AEnd.ret (AV.bool true), [])))
                    (some (AEnd.ret (AV.bool true), []))))
                (some (AEnd.ret (AV.bool false), [])))
              (some (AEnd.ret (AV.bool false), []))))
          (aIf ((sel (R26 [AV.int IntKind.i64 s, AV.bool b, AV.int IntKind.u8 f]) [0]).toInt == 7)
            (aIf (s != (sel (R26 [AV.int IntKind.i64 s, AV.bool b, AV.int IntKind.u8 f]) [0]).toInt)
              (aIf (IntKind.u8.wrap ↑(BitVec.ofInt 8 f &&& BitVec.ofInt 8 1).toNat != 0)
                (aIf (s == 5)
                  (aIf (!b) (some (AEnd.ret (AV.bool true), []))
                    (aIf (s == 6) (aIf (!b) (some (AEnd.ret (AV.bool false), [])) (some (AEnd.ret (AV.bool true), [])))
                      (some (AEnd.ret (AV.bool false), []))))
                  (aIf (s == 6) (aIf (!b) (some (AEnd.ret (AV.bool false), [])) (some (AEnd.ret (AV.bool true), [])))
                    (some (AEnd.ret (AV.bool false), []))))
                (some (AEnd.ret (AV.bool false), [])))
              (some (AEnd.ret (AV.bool true), [])))
            (some (AEnd.ret (AV.bool true), []))))
        (aIf ((sel (R26 [AV.int IntKind.i64 s, AV.bool b, AV.int IntKind.u8 f]) [0]).toInt == 7)
          (aIf (s != (sel (R26 [AV.int IntKind.i64 s, AV.bool b, AV.int IntKind.u8 f]) [0]).toInt)
            (aIf (IntKind.u8.wrap ↑(BitVec.ofInt 8 f &&& BitVec.ofInt 8 1).toNat != 0)
              (aIf (s == 5)
                (aIf (!b) (some (AEnd.ret (AV.bool true), []))
                  (aIf (s == 6) (aIf (!b) (some (AEnd.ret (AV.bool false), [])) (some (AEnd.ret (AV.bool true), [])))
                    (some (AEnd.ret (AV.bool false), []))))
                (aIf (s == 6) (aIf (!b) (some (AEnd.ret (AV.bool false), [])) (some (AEnd.ret (AV.bool true), [])))
                  (some (AEnd.ret (AV.bool false), []))))
              (some (AEnd.ret (AV.bool false), [])))
            (some (AEnd.ret (AV.bool true), [])))
          (some (AEnd.ret (AV.bool true), [])))))
    (aIf (s == 2)
      (aIf ((sel (R26 [AV.int IntKind.i64 s, AV.bool b, AV.int IntKind.u8 f]) [0]).toInt != s)
        (some (AEnd.ret (AV.bool false), []))
        (aIf ((sel (R26 [AV.int IntKind.i64 s, AV.bool b, AV.int IntKind.u8 f]) [0]).toInt == 4)
          (aIf (s != (sel (R26 [AV.int IntKind.i64 s, AV.bool b, AV.int IntKind.u8 f]) [0]).toInt)
            (aIf (s == 8)
              (aIf (!IntKind.u8.wrap ↑(BitVec.ofInt 8 f &&& BitVec.ofInt 8 4).toNat == 0)
                (aIf (s == 3)
                  (aIf (!b)
                    (aIf (!IntKind.u8.wrap ↑(BitVec.ofInt 8 f &&& BitVec.ofInt 8 2).toNat != 0)
                      (some (AEnd.ret (AV.bool false), []))
                      (aIf ((sel (R26 [AV.int IntKind.i64 s, AV.bool b, AV.int IntKind.u8 f]) [0]).toInt == 7)
                        (aIf (s != (sel (R26 [AV.int IntKind.i64 s, AV.bool b, AV.int IntKind.u8 f]) [0]).toInt)
                          (aIf (IntKind.u8.wrap ↑(BitVec.ofInt 8 f &&& BitVec.ofInt 8 1).toNat != 0)
                            (aIf (s == 5)
                              (aIf (!b) (some (AEnd.ret (AV.bool true), []))
                                (aIf (s == 6)
                                  (aIf (!b) (some (AEnd.ret (AV.bool false), [])) (some (AEnd.ret (AV.bool true), [])))
                                  (some (AEnd.ret (AV.bool false), []))))
                              (aIf (s == 6)
                                (aIf (!b) (some (AEnd.ret (AV.bool false), [])) (some (AEnd.ret (AV.bool true), [])))
                                (some (AEnd.ret (AV.bool false), []))))
                            (some (AEnd.ret (AV.bool false), [])))
                          (some (AEnd.ret (AV.bool true), [])))
                        (some (AEnd.ret (AV.bool true), []))))
                    (some (AEnd.ret (AV.bool false), [])))
                  (some (AEnd.ret (AV.bool false), [])))
                (aIf ((sel (R26 [AV.int IntKind.i64 s, AV.bool b, AV.int IntKind.u8 f]) [0]).toInt == 7)
                  (aIf (s != (sel (R26 [AV.int IntKind.i64 s, AV.bool b, AV.int IntKind.u8 f]) [0]).toInt)
                    (aIf (IntKind.u8.wrap ↑(BitVec.ofInt 8 f &&& BitVec.ofInt 8 1).toNat != 0)
                      (aIf (s == 5)
                        (aIf (!b) (some (AEnd.ret (AV.bool true), []))
                          (aIf (s == 6)
                            (aIf (!b) (some (AEnd.ret (AV.bool false), [])) (some (AEnd.ret (AV.bool true), [])))
                            (some (AEnd.ret (AV.bool false), []))))
                        (aIf (s == 6)
                          (aIf (!b) (some (AEnd.ret (AV.bool false), [])) (some (AEnd.ret (AV.bool true), [])))
                          (some (AEnd.ret (AV.bool false), []))))
                      (some (AEnd.ret (AV.bool false), [])))
                    (some (AEnd.ret (AV.bool true), [])))
                  (some (AEnd.ret (AV.bool true), []))))
              (aIf (s == 3)
                (aIf (!b)
                  (aIf (!IntKind.u8.wrap ↑(BitVec.ofInt 8 f &&& BitVec.ofInt 8 2).toNat != 0)
                    (some (AEnd.ret (AV.bool false), []))
                    (aIf ((sel (R26 [AV.int IntKind.i64 s, AV.bool b, AV.int IntKind.u8 f]) [0]).toInt == 7)
                      (aIf (s != (sel (R26 [AV.int IntKind.i64 s, AV.bool b, AV.int IntKind.u8 f]) [0]).toInt)
                        (aIf (IntKind.u8.wrap ↑(BitVec.ofInt 8 f &&& BitVec.ofInt 8 1).toNat != 0)
                          (aIf (s == 5)
                            (aIf (!b) (some (AEnd.ret (AV.bool true), []))
                              (aIf (s == 6)
                                (aIf (!b) (some (AEnd.ret (AV.bool false), [])) (some (AEnd.ret (AV.bool true), [])))
                                (some (AEnd.ret (AV.bool false), []))))
                            (aIf (s == 6)
                              (aIf (!b) (some (AEnd.ret (AV.bool false), [])) (some (AEnd.ret (AV.bool true), [])))
                              (some (AEnd.ret (AV.bool false), []))))
                          (some (AEnd.ret (AV.bool false), [])))
                        (some (AEnd.ret (AV.bool true), [])))
                      (some (AEnd.ret (AV.bool true), []))))
                  (some (AEnd.ret (AV.bool false), [])))
                (some (AEnd.ret (AV.bool false), []))))
            (aIf ((sel (R26 [AV.int IntKind.i64 s, AV.bool b, AV.int IntKind.u8 f]) [0]).toInt == 7)
              (aIf (s != (sel (R26 [AV.int IntKind.i64 s, AV.bool b, AV.int IntKind.u8 f]) [0]).toInt)
                (aIf (IntKind.u8.wrap ↑(BitVec.ofInt 8 f &&& BitVec.ofInt 8 1).toNat != 0)
                  (aIf (s == 5)
                    (aIf (!b) (some (AEnd.ret (AV.bool true), []))
                      (aIf (s == 6)
                        (aIf (!b) (some (AEnd.ret (AV.bool false), [])) (some (AEnd.ret (AV.bool true), [])))
                        (some (AEnd.ret (AV.bool false), []))))
                    (aIf (s == 6) (aIf (!b) (some (AEnd.ret (AV.bool false), [])) (some (AEnd.ret (AV.bool true), [])))
                      (some (AEnd.ret (AV.bool false), []))))
                  (some (AEnd.ret (AV.bool false), [])))
                (some (AEnd.ret (AV.bool true), [])))
              (some (AEnd.ret (AV.bool true), []))))
          (aIf ((sel (R26 [AV.int IntKind.i64 s, AV.bool b, AV.int IntKind.u8 f]) [0]).toInt == 7)
            (aIf (s != (sel (R26 [AV.int IntKind.i64 s, AV.bool b, AV.int IntKind.u8 f]) [0]).toInt)
              (aIf (IntKind.u8.wrap ↑(BitVec.ofInt 8 f &&& BitVec.ofInt 8 1).toNat != 0)
                (aIf (s == 5)
                  (aIf (!b) (some (AEnd.ret (AV.bool true), []))
                    (aIf (s == 6) (aIf (!b) (some (AEnd.ret (AV.bool false), [])) (some (AEnd.ret (AV.bool true), [])))
                      (some (AEnd.ret (AV.bool false), []))))
                  (aIf (s == 6) (aIf (!b) (some (AEnd.ret (AV.bool false), [])) (some (AEnd.ret (AV.bool true), [])))
                    (some (AEnd.ret (AV.bool false), []))))
                (some (AEnd.ret (AV.bool false), [])))
              (some (AEnd.ret (AV.bool true), [])))
            (some (AEnd.ret (AV.bool true), [])))))
      (aIf ((sel (R26 [AV.int IntKind.i64 s, AV.bool b, AV.int IntKind.u8 f]) [0]).toInt == 4)
        (aIf (s != (sel (R26 [AV.int IntKind.i64 s, AV.bool b, AV.int IntKind.u8 f]) [0]).toInt)
          (aIf (s == 8)
            (aIf (!IntKind.u8.wrap ↑(BitVec.ofInt 8 f &&& BitVec.ofInt 8 4).toNat == 0)
              (aIf (s == 3)
                (aIf (!b)
                  (aIf (!IntKind.u8.wrap ↑(BitVec.ofInt 8 f &&& BitVec.ofInt 8 2).toNat != 0)
                    (some (AEnd.ret (AV.bool false), []))
                    (aIf ((sel (R26 [AV.int IntKind.i64 s, AV.bool b, AV.int IntKind.u8 f]) [0]).toInt == 7)
                      (aIf (s != (sel (R26 [AV.int IntKind.i64 s, AV.bool b, AV.int IntKind.u8 f]) [0]).toInt)
                        (aIf (IntKind.u8.wrap ↑(BitVec.ofInt 8 f &&& BitVec.ofInt 8 1).toNat != 0)
                          (aIf (s == 5)
                            (aIf (!b) (some (AEnd.ret (AV.bool true), []))
                              (aIf (s == 6)
                                (aIf (!b) (some (AEnd.ret (AV.bool false), [])) (some (AEnd.ret (AV.bool true), [])))
                                (some (AEnd.ret (AV.bool false), []))))
                            (aIf (s == 6)
                              (aIf (!b) (some (AEnd.ret (AV.bool false), [])) (some (AEnd.ret (AV.bool true), [])))
                              (some (AEnd.ret (AV.bool false), []))))
                          (some (AEnd.ret (AV.bool false), [])))
                        (some (AEnd.ret (AV.bool true), [])))
                      (some (AEnd.ret (AV.bool true), []))))
                  (some (AEnd.ret (AV.bool false), [])))
                (some (AEnd.ret (AV.bool false), [])))
              (aIf ((sel (R26 [AV.int IntKind.i64 s, AV.bool b, AV.int IntKind.u8 f]) [0]).toInt == 7)
                (aIf (s != (sel (R26 [AV.int IntKind.i64 s, AV.bool b, AV.int IntKind.u8 f]) [0]).toInt)
                  (aIf (IntKind.u8.wrap ↑(BitVec.ofInt 8 f &&& BitVec.ofInt 8 1).toNat != 0)
                    (aIf (s == 5)
                      (aIf (!b) (some (AEnd.ret (AV.bool true), []))
                        (aIf (s == 6)
                          (aIf (!b) (some (AEnd.ret (AV.bool false), [])) (some (AEnd.ret (AV.bool true), [])))
                          (some (AEnd.ret (AV.bool false), []))))
                      (aIf (s == 6)
                        (aIf (!b) (some (AEnd.ret (AV.bool false), [])) (some (AEnd.ret (AV.bool true), [])))
                        (some (AEnd.ret (AV.bool false), []))))
                    (some (AEnd.ret (AV.bool false), [])))
                  (some (AEnd.ret (AV.bool true), [])))
                (some (AEnd.ret (AV.bool true), []))))
            (aIf (s == 3)
              (aIf (!b)
                (aIf (!IntKind.u8.wrap ↑(BitVec.ofInt 8 f &&& BitVec.ofInt 8 2).toNat != 0)
                  (some (AEnd.ret (AV.bool false), []))
                  (aIf ((sel (R26 [AV.int IntKind.i64 s, AV.bool b, AV.int IntKind.u8 f]) [0]).toInt == 7)
                    (aIf (s != (sel (R26 [AV.int IntKind.i64 s, AV.bool b, AV.int IntKind.u8 f]) [0]).toInt)
                      (aIf (IntKind.u8.wrap ↑(BitVec.ofInt 8 f &&& BitVec.ofInt 8 1).toNat != 0)
                        (aIf (s == 5)
                          (aIf (!b) (some (AEnd.ret (AV.bool true), []))
                            (aIf (s == 6)
                              (aIf (!b) (some (AEnd.ret (AV.bool false), [])) (some (AEnd.ret (AV.bool true), [])))
                              (some (AEnd.ret (AV.bool false), []))))
                          (aIf (s == 6)
                            (aIf (!b) (some (AEnd.ret (AV.bool false), [])) (some (AEnd.ret (AV.bool true), [])))
                            (some (AEnd.ret (AV.bool false), []))))
                        (some (AEnd.ret (AV.bool false), [])))
                      (some (AEnd.ret (AV.bool true), [])))
                    (some (AEnd.ret (AV.bool true), []))))
                (some (AEnd.ret (AV.bool false), [])))
              (some (AEnd.ret (AV.bool false), []))))
          (aIf ((sel (R26 [AV.int IntKind.i64 s, AV.bool b, AV.int IntKind.u8 f]) [0]).toInt == 7)
            (aIf (s != (sel (R26 [AV.int IntKind.i64 s, AV.bool b, AV.int IntKind.u8 f]) [0]).toInt)
              (aIf (IntKind.u8.wrap ↑(BitVec.ofInt 8 f &&& BitVec.ofInt 8 1).toNat != 0)
                (aIf (s == 5)
                  (aIf (!b) (some (AEnd.ret (AV.bool true), []))
                    (aIf (s == 6) (aIf (!b) (some (AEnd.ret (AV.bool false), [])) (some (AEnd.ret (AV.bool true), [])))
                      (some (AEnd.ret (AV.bool false), []))))
                  (aIf (s == 6) (aIf (!b) (some (AEnd.ret (AV.bool false), [])) (some (AEnd.ret (AV.bool true), [])))
                    (some (AEnd.ret (AV.bool false), []))))
                (some (AEnd.ret (AV.bool false), [])))
              (some (AEnd.ret (AV.bool true), [])))
            (some (AEnd.ret (AV.bool true), []))))
        (aIf ((sel (R26 [AV.int IntKind.i64 s, AV.bool b, AV.int IntKind.u8 f]) [0]).toInt == 7)
          (aIf (s != (sel (R26 [AV.int IntKind.i64 s, AV.bool b, AV.int IntKind.u8 f]) [0]).toInt)
            (aIf (IntKind.u8.wrap ↑(BitVec.ofInt 8 f &&& BitVec.ofInt 8 1).toNat != 0)
              (aIf (s == 5)
                (aIf (!b) (some (AEnd.ret (AV.bool true), []))
                  (aIf (s == 6) (aIf (!b) (some (AEnd.ret (AV.bool false), [])) (some (AEnd.ret (AV.bool true), [])))
                    (some (AEnd.ret (AV.bool false), []))))
                (aIf (s == 6) (aIf (!b) (some (AEnd.ret (AV.bool false), [])) (some (AEnd.ret (AV.bool true), [])))
                  (some (AEnd.ret (AV.bool false), []))))
              (some (AEnd.ret (AV.bool false), [])))
            (some (AEnd.ret (AV.bool true), [])))
          (some (AEnd.ret (AV.bool true), []))))))
  none := by kernel_rfl
theorem N26 (s f : Int) (b : Bool) : S26 [.int .i64 s, .bool b, .int .u8 f] [] encK =
  aIf (s == 1) (some (AEnd.ret (AV.tup [AV.int IntKind.i64 s, AV.bool true]), []))
  (aIf (s == 2) (some (AEnd.ret (AV.tup [AV.int IntKind.i64 s, AV.bool true]), []))
    (aIf (s == 3)
      (aIf (IntKind.u8.wrap ↑(BitVec.ofInt 8 f &&& BitVec.ofInt 8 2).toNat != 0)
        (aIf (!IntKind.u8.wrap ↑(BitVec.ofInt 8 f &&& BitVec.ofInt 8 4).toNat != 0)
          (aIf (!b) (some (AEnd.ret (AV.tup [AV.int IntKind.i64 4, AV.bool true]), []))
            (aIf (IntKind.u8.wrap ↑(BitVec.ofInt 8 f &&& BitVec.ofInt 8 2).toNat != 0)
              (some
                (AEnd.ret
                    (AV.tup
                      [AV.int IntKind.i64 s,
                        AV.bool !IntKind.u8.wrap ↑(BitVec.ofInt 8 f &&& BitVec.ofInt 8 4).toNat != 0]),
                  []))
              (some (AEnd.ret (AV.tup [AV.int IntKind.i64 s, AV.bool false]), []))))
          (aIf (IntKind.u8.wrap ↑(BitVec.ofInt 8 f &&& BitVec.ofInt 8 2).toNat != 0)
            (some
              (AEnd.ret
                  (AV.tup
                    [AV.int IntKind.i64 s,
                      AV.bool !IntKind.u8.wrap ↑(BitVec.ofInt 8 f &&& BitVec.ofInt 8 4).toNat != 0]),
                []))
            (some (AEnd.ret (AV.tup [AV.int IntKind.i64 s, AV.bool false]), []))))
        (aIf (IntKind.u8.wrap ↑(BitVec.ofInt 8 f &&& BitVec.ofInt 8 2).toNat != 0)
          (some
            (AEnd.ret
                (AV.tup
                  [AV.int IntKind.i64 s, AV.bool !IntKind.u8.wrap ↑(BitVec.ofInt 8 f &&& BitVec.ofInt 8 4).toNat != 0]),
              []))
          (some (AEnd.ret (AV.tup [AV.int IntKind.i64 s, AV.bool false]), []))))
      (aIf (s == 4)
        (aIf (IntKind.u8.wrap ↑(BitVec.ofInt 8 f &&& BitVec.ofInt 8 4).toNat != 0)
          (some (AEnd.ret (AV.tup [AV.int IntKind.i64 8, AV.bool true]), []))
          (aIf (IntKind.u8.wrap ↑(BitVec.ofInt 8 f &&& BitVec.ofInt 8 1).toNat != 0)
            (aIf b (some (AEnd.ret (AV.tup [AV.int IntKind.i64 5, AV.bool true]), []))
              (aIf (IntKind.u8.wrap ↑(BitVec.ofInt 8 f &&& BitVec.ofInt 8 1).toNat != 0)
                (some (AEnd.ret (AV.tup [AV.int IntKind.i64 6, AV.bool true]), []))
                (some (AEnd.ret (AV.tup [AV.int IntKind.i64 s, AV.bool true]), []))))
            (aIf (IntKind.u8.wrap ↑(BitVec.ofInt 8 f &&& BitVec.ofInt 8 1).toNat != 0)
              (some (AEnd.ret (AV.tup [AV.int IntKind.i64 6, AV.bool true]), []))
              (some (AEnd.ret (AV.tup [AV.int IntKind.i64 s, AV.bool true]), [])))))
        (aIf (s == 5)
          (aIf (IntKind.u8.wrap ↑(BitVec.ofInt 8 f &&& BitVec.ofInt 8 4).toNat != 0)
            (some (AEnd.ret (AV.tup [AV.int IntKind.i64 8, AV.bool true]), []))
            (aIf (IntKind.u8.wrap ↑(BitVec.ofInt 8 f &&& BitVec.ofInt 8 1).toNat != 0)
              (aIf (b == (s == 6)) (some (AEnd.ret (AV.tup [AV.int IntKind.i64 7, AV.bool true]), []))
                (some (AEnd.ret (AV.tup [AV.int IntKind.i64 s, AV.bool true]), [])))
              (some (AEnd.ret (AV.tup [AV.int IntKind.i64 s, AV.bool true]), []))))
          (aIf (s == 6)
            (aIf (IntKind.u8.wrap ↑(BitVec.ofInt 8 f &&& BitVec.ofInt 8 4).toNat != 0)
              (some (AEnd.ret (AV.tup [AV.int IntKind.i64 8, AV.bool true]), []))
              (aIf (IntKind.u8.wrap ↑(BitVec.ofInt 8 f &&& BitVec.ofInt 8 1).toNat != 0)
                (aIf (b == (s == 6)) (some (AEnd.ret (AV.tup [AV.int IntKind.i64 7, AV.bool true]), []))
                  (some (AEnd.ret (AV.tup [AV.int IntKind.i64 s, AV.bool true]), [])))
                (some (AEnd.ret (AV.tup [AV.int IntKind.i64 s, AV.bool true]), []))))
            (aIf (s == 8)
              (aIf (!IntKind.u8.wrap ↑(BitVec.ofInt 8 f &&& BitVec.ofInt 8 4).toNat != 0)
                (some (AEnd.ret (AV.tup [AV.int IntKind.i64 4, AV.bool true]), []))
                (some (AEnd.ret (AV.tup [AV.int IntKind.i64 s, AV.bool false]), [])))
              (some (AEnd.ret (AV.tup [AV.int IntKind.i64 s, AV.bool false]), [])))))))) := by kernel_rfl

theorem eq0 (x : Int) : (x == 0) = !(x != 0) := by simp [bne]

theorem step_ok (s f : Int) (b : Bool) (h : inK .i64 s = true) : shOK (.tup [.int .i64, .bool]) (R26 [.int .i64 s, .bool b, .int .u8 f]) = true := by
  show shOK _ (S26 _ [] encK) = true
  rw [N26]
  simp only [shOK_aIf, shOK_ret, has_tup, hasL_cons, hasL_nil, List.getD_cons_zero, List.getD_cons_succ, has_int, has_bool, h]
  simp [inK_i64]

theorem both_law (s f : Int) (b : Bool) (h : inK .i64 s = true) : S12 [.int .i64 s, .bool b, .int .u8 f] [] (fun e H => some (e, H)) = some (.ret (.bool true), []) := by
  rw [N12, step_ok s f b h, aIf_true]
  rw [show R26 [.int .i64 s, .bool b, .int .u8 f] = _ from N26 s f b]
  simp only [eq0]
  generalize (IntKind.u8.wrap ((BitVec.ofInt 8 f &&& BitVec.ofInt 8 1).toNat : Int) != 0) = f1
  generalize (IntKind.u8.wrap ((BitVec.ofInt 8 f &&& BitVec.ofInt 8 2).toNat : Int) != 0) = f2
  generalize (IntKind.u8.wrap ((BitVec.ofInt 8 f &&& BitVec.ofInt 8 4).toNat : Int) != 0) = f4
  by_cases h1 : s = 1
  · subst h1; cases f1 <;> cases f2 <;> cases f4 <;> cases b <;> rfl
  by_cases h2 : s = 2
  · subst h2; cases f1 <;> cases f2 <;> cases f4 <;> cases b <;> rfl
  by_cases h3 : s = 3
  · subst h3; cases f1 <;> cases f2 <;> cases f4 <;> cases b <;> rfl
  by_cases h4 : s = 4
  · subst h4; cases f1 <;> cases f2 <;> cases f4 <;> cases b <;> rfl
  by_cases h5 : s = 5
  · subst h5; cases f1 <;> cases f2 <;> cases f4 <;> cases b <;> rfl
  by_cases h6 : s = 6
  · subst h6; cases f1 <;> cases f2 <;> cases f4 <;> cases b <;> rfl
  by_cases h7 : s = 7
  · subst h7; cases f1 <;> cases f2 <;> cases f4 <;> cases b <;> rfl
  by_cases h8 : s = 8
  · subst h8; cases f1 <;> cases f2 <;> cases f4 <;> cases b <;> rfl
  have g1 : (s == 1) = false := by simpa using h1
  have g2 : (s == 2) = false := by simpa using h2
  have g3 : (s == 3) = false := by simpa using h3
  have g4 : (s == 4) = false := by simpa using h4
  have g5 : (s == 5) = false := by simpa using h5
  have g6 : (s == 6) = false := by simpa using h6
  have g7 : (s == 7) = false := by simpa using h7
  have g8 : (s == 8) = false := by simpa using h8
  have hs : (s != s) = false := by simp
  have e1 : ∀ c : Bool, (sel (some (AEnd.ret (AV.tup [AV.int IntKind.i64 s, AV.bool c]), [])) [0]).toInt = s := fun _ => rfl
  simp only [g1, g2, g3, g4, g5, g6, g7, g8, aIf_false, e1, hs]

theorem law_holds : ∀ xs, argsV E 4 Try.f12.params.toList xs → S12 xs [] (fun e H => some (e, H)) = some (.ret (.bool true), []) := by
  intro xs h
  rw [Try.params12] at h
  obtain ⟨x, y, z, rfl, h1, h2, h3⟩ := args3 h
  obtain ⟨s, rfl, hs⟩ := intArg h1 argT3 agg3
  obtain ⟨b, rfl⟩ := boolArg h2 argT4 agg4
  obtain ⟨f, rfl, _⟩ := intArg h3 argT5 agg5
  exact both_law s f b (inK_of hs)

theorem law_spec {H : Type} (ds : List (DataW H)) (h : ds.length = Try.f12.params.toList.length) : (Rows.flowBothsSpec.fn H (ds ++ [])).results = [.lit (.bool true)] ∧ (Rows.flowBothsSpec.fn H (ds ++ [])).args = ds ∧ (Rows.flowBothsSpec.fn H (ds ++ [])).vars = [] := by
  rw [Try.params12] at h
  match ds, h with
  | [d0, d1, d2], _ => exact ⟨rfl, rfl, rfl⟩

set_option maxRecDepth 100000 in
theorem law_lifted (os : Os) (started : os.Started) (H : Type) (enc : TypeId × Value → H) :
    ReturnsInHanded {} Try.checked os 12 .any (Rows.flowBothsSpec.pre6 enc Try.prog Try.f12 Rows.flowBothsRow.domain false) (Rows.flowBothsSpec.post enc Try.prog Try.f12 false true false false) := by
  refine returnsInHanded_of_change (C := Try.checked) own started (by kernel_rfl) Try.func12
    (ChangeSpec.witness6 (enc := enc) (C := Try.checked) false ⟨#[], #[.int .i64 0, .bool false, .int .u8 0], []⟩ 8 (by kernel_rfl) (by kernel_rfl) (by kernel_rfl) (by kernel_rfl)) ?_
  intro W base args ds gs before hval hW _ _
  exact law_post (P := Try.prog) (E := E) (D := 4) (tb := 4) (fn := Try.f12) E_ok laidOut (by kernel_rfl) rfl (by kernel_rfl) rfl law_spec S12_ok law_holds hval hW

theorem flowBoths_holds : Rows.FlowBothsSaid :=
  OpenClaim.holds_of_wide 12 Try.f12 rfl rfl rfl rfl rfl rfl rfl ⟨rfl, rfl, rfl, rfl, rfl⟩ rfl rfl rfl rfl rfl (by kernel_rfl) Try.func12 (by kernel_rfl)
    (of_decide_eq_true (by kernel_rfl)) (by unfold Func.isWrapper; first | (rw [if_pos (by decide +kernel)]; kernel_rfl) | (rw [if_neg (by decide +kernel)]; exact ⟨rfl, rfl⟩))
    (fun os started H enc _ => law_lifted os started H enc)

#print axioms flowBoths_holds

end Go.Proofs.Ytohfnoepdbkkeaa

