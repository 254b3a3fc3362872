/- FlowEnds: a session ends at most its greatest life behind its last packet and at least its least life behind its first one, for every setting of lives, protocol and row of packets. -/
import Derived.Test.YtohfnoepdbkkeaaFFlowEnds
import Derived.Test.YtohfnoepdbkkeaaA20
import Derived.Test.YtohfnoepdbkkeaaPFlow
import Derived.ProofKit
namespace Go.Proofs.Ytohfnoepdbkkeaa
open Go.Abs Go.Pl Go.RowKit Go.ChangeShapes Go.WideShapes Go.ChangeAt

theorem own : ownKnob Try.prog.godebug = none := by kernel_rfl
theorem laidOut : laidOutB Try.prog = true := by kernel_rfl
theorem argT5 (xs : List AV) : argT E 4 5 xs = intT .u8 xs := by kernel_rfl
theorem agg5 : aggT E 5 = false := by kernel_rfl
theorem argT67 (xs : List AV) : argT E 4 67 xs = pksT xs := by kernel_rfl
theorem agg67 : aggT E 67 = false := by kernel_rfl
theorem argT61 (xs : List AV) : argT E 4 61 xs = seqP [intT .i64, intT .i64, intT .i64, intT .i64, intT .i64] xs := by kernel_rfl
theorem agg61 : aggT E 61 = true := by kernel_rfl

theorem R33_zero {a b c d e : Int} (h : (sel (R33 [.agg [.int .i64 a, .int .i64 b, .int .i64 c, .int .i64 d, .int .i64 e]]) []).toInt = 0) :
    (1 ≤ a ∧ a ≤ 2147483648) ∧ (1 ≤ b ∧ b ≤ 2147483648) ∧ (1 ≤ c ∧ c ≤ 2147483648) ∧ (1 ≤ d ∧ d ≤ 2147483648) ∧ (1 ≤ e ∧ e ≤ 2147483648) := by
  have step : ∀ (b : Bool) (x : Res), (sel (aIf b (some (.ret (.int .i64 190), [])) x) []).toInt = 0 → b = false ∧ (sel x []).toInt = 0 := by
    intro b x h
    cases b
    · exact ⟨rfl, h⟩
    · exact absurd (show (190 : Int) = 0 from h) (by decide)
  have e : R33 [.agg [.int .i64 a, .int .i64 b, .int .i64 c, .int .i64 d, .int .i64 e]] = S33 [.agg [.int .i64 a, .int .i64 b, .int .i64 c, .int .i64 d, .int .i64 e]] [] encK := rfl
  rw [e, Q33] at h
  obtain ⟨h1, h⟩ := step _ _ h
  obtain ⟨h2, h⟩ := step _ _ h
  obtain ⟨h3, h⟩ := step _ _ h
  obtain ⟨h4, h⟩ := step _ _ h
  obtain ⟨h5, h⟩ := step _ _ h
  obtain ⟨h6, h⟩ := step _ _ h
  obtain ⟨h7, h⟩ := step _ _ h
  obtain ⟨h8, h⟩ := step _ _ h
  obtain ⟨h9, h⟩ := step _ _ h
  obtain ⟨h10, h⟩ := step _ _ h
  simp only [decide_eq_false_iff_not] at h1 h2 h3 h4 h5 h6 h7 h8 h9 h10
  omega

theorem R26_valid {s f : Int} {b : Bool} (hs : 1 ≤ s ∧ s ≤ 8) : ∃ t l, R26 [.int .i64 s, .bool b, .int .u8 f] = some (.ret (.tup [.int .i64 t, .bool l]), []) ∧ 1 ≤ t ∧ t ≤ 8 := by
  show ∃ t l, S26 _ [] encK = _ ∧ _
  rw [Q26]
  generalize (IntKind.u8.wrap ((BitVec.ofInt 8 f &&& BitVec.ofInt 8 1).toNat : Int) != 0) = f1
  generalize (IntKind.u8.wrap ((BitVec.ofInt 8 f &&& BitVec.ofInt 8 2).toNat : Int) != 0) = f2
  generalize (IntKind.u8.wrap ((BitVec.ofInt 8 f &&& BitVec.ofInt 8 4).toNat : Int) != 0) = f4
  have h : s = 1 ∨ s = 2 ∨ s = 3 ∨ s = 4 ∨ s = 5 ∨ s = 6 ∨ s = 7 ∨ s = 8 := by omega
  rcases h with rfl | rfl | rfl | rfl | rfl | rfl | rfl | rfl <;> cases f1 <;> cases f2 <;> cases f4 <;> cases b <;> exact ⟨_, _, rfl, by decide, by decide⟩

theorem R28_valid {p f : Int} (h : (sel (R28 [.int .u8 p, .int .u8 f]) [1]).toInt = 0) : 1 ≤ (sel (R28 [.int .u8 p, .int .u8 f]) [0]).toInt ∧ (sel (R28 [.int .u8 p, .int .u8 f]) [0]).toInt ≤ 8 := by
  have e : R28 [.int .u8 p, .int .u8 f] = S28 [.int .u8 p, .int .u8 f] [] encK := rfl
  rw [e, Q28] at h ⊢
  revert h
  generalize (IntKind.u8.wrap ((BitVec.ofInt 8 f &&& BitVec.ofInt 8 2).toNat : Int) != 0) = f2
  generalize (IntKind.u8.wrap ((BitVec.ofInt 8 f &&& BitVec.ofInt 8 4).toNat : Int) != 0) = f4
  generalize (p == 17) = p1
  generalize (p == 1) = p2
  generalize (p == 58) = p3
  generalize (p == 6) = p4
  cases f2 <;> cases f4 <;> cases p1 <;> cases p2 <;> cases p3 <;> cases p4 <;> decide

theorem R31_life {a b c d e s : Int} (h : (sel (R33 [.agg [.int .i64 a, .int .i64 b, .int .i64 c, .int .i64 d, .int .i64 e]]) []).toInt = 0) (hs : 1 ≤ s ∧ s ≤ 8) :
    ∃ n, (sel (R31 [.agg [.int .i64 a, .int .i64 b, .int .i64 c, .int .i64 d, .int .i64 e], .int .i64 s]) [0]).toInt = n ∧ (n = a ∨ n = b ∨ n = c ∨ n = d ∨ n = e) := by
  have e0 : R31 [.agg [.int .i64 a, .int .i64 b, .int .i64 c, .int .i64 d, .int .i64 e], .int .i64 s] = S31 [.agg [.int .i64 a, .int .i64 b, .int .i64 c, .int .i64 d, .int .i64 e], .int .i64 s] [] encK := rfl
  rw [e0, Q31]
  obtain ⟨n, hn, hr⟩ := R33_is a b c d e
  have : n = 0 := by rw [hr] at h; exact h
  subst this
  rw [hr]
  have h : s = 1 ∨ s = 2 ∨ s = 3 ∨ s = 4 ∨ s = 5 ∨ s = 6 ∨ s = 7 ∨ s = 8 := by omega
  rcases h with rfl | rfl | rfl | rfl | rfl | rfl | rfl | rfl
  · exact ⟨a, rfl, .inl rfl⟩
  · exact ⟨b, rfl, .inr (.inl rfl)⟩
  · exact ⟨c, rfl, .inr (.inr (.inl rfl))⟩
  · exact ⟨d, rfl, .inr (.inr (.inr (.inl rfl)))⟩
  · exact ⟨d, rfl, .inr (.inr (.inr (.inl rfl)))⟩
  · exact ⟨d, rfl, .inr (.inr (.inr (.inl rfl)))⟩
  · exact ⟨e, rfl, .inr (.inr (.inr (.inr rfl)))⟩
  · exact ⟨e, rfl, .inr (.inr (.inr (.inr rfl)))⟩

theorem mx_le (x y : Int) : x ≤ mx x y ∧ y ≤ mx x y ∧ (mx x y = x ∨ mx x y = y) := by unfold mx; split <;> omega
theorem mn_le (x y : Int) : mn x y ≤ x ∧ mn x y ≤ y ∧ (mn x y = x ∨ mn x y = y) := by unfold mn; split <;> omega
theorem mx5 (a b c d e : Int) : (a ≤ mx (mx (mx (mx a b) c) d) e ∧ b ≤ mx (mx (mx (mx a b) c) d) e ∧ c ≤ mx (mx (mx (mx a b) c) d) e ∧ d ≤ mx (mx (mx (mx a b) c) d) e ∧ e ≤ mx (mx (mx (mx a b) c) d) e) ∧
    (mx (mx (mx (mx a b) c) d) e = a ∨ mx (mx (mx (mx a b) c) d) e = b ∨ mx (mx (mx (mx a b) c) d) e = c ∨ mx (mx (mx (mx a b) c) d) e = d ∨ mx (mx (mx (mx a b) c) d) e = e) := by
  have h1 := mx_le a b
  have h2 := mx_le (mx a b) c
  have h3 := mx_le (mx (mx a b) c) d
  have h4 := mx_le (mx (mx (mx a b) c) d) e
  omega
theorem mn5 (a b c d e : Int) : (mn (mn (mn (mn a b) c) d) e ≤ a ∧ mn (mn (mn (mn a b) c) d) e ≤ b ∧ mn (mn (mn (mn a b) c) d) e ≤ c ∧ mn (mn (mn (mn a b) c) d) e ≤ d ∧ mn (mn (mn (mn a b) c) d) e ≤ e) ∧
    (mn (mn (mn (mn a b) c) d) e = a ∨ mn (mn (mn (mn a b) c) d) e = b ∨ mn (mn (mn (mn a b) c) d) e = c ∨ mn (mn (mn (mn a b) c) d) e = d ∨ mn (mn (mn (mn a b) c) d) e = e) := by
  have h1 := mn_le a b
  have h2 := mn_le (mn a b) c
  have h3 := mn_le (mn (mn a b) c) d
  have h4 := mn_le (mn (mn (mn a b) c) d) e
  omega

theorem N11 (xs : List AV) (fl : SF) (p u1 u2 u3 u4 u5 : Int) : S11 [.agg [.int .i64 u1, .int .i64 u2, .int .i64 u3, .int .i64 u4, .int .i64 u5], .int .u8 p, .fs 3 xs fl] [] (fun e H => some (e, H)) =
  aIf (decide ((↑xs.length : Int) > 1000))
  (aIf (decide (1000 ≤ (↑xs.length : Int)))
    (aIf
      (shOK (Sh.tup [Sh.int IntKind.i64, Sh.int IntKind.i64, Sh.int IntKind.i64])
        (R36
          [AV.agg
              [AV.int IntKind.i64 u1, AV.int IntKind.i64 u2, AV.int IntKind.i64 u3, AV.int IntKind.i64 u4,
                AV.int IntKind.i64 u5],
            AV.int IntKind.u8 p, AV.fs 3 (List.drop 0 (List.take 1000 xs)) fl]))
      (aIf
        ((sel
              (R36
                [AV.agg
                    [AV.int IntKind.i64 u1, AV.int IntKind.i64 u2, AV.int IntKind.i64 u3, AV.int IntKind.i64 u4,
                      AV.int IntKind.i64 u5],
                  AV.int IntKind.u8 p, AV.fs 3 (List.drop 0 (List.take 1000 xs)) fl])
              [2]).toInt !=
          0)
        (aIf
          ((sel
                (R36
                  [AV.agg
                      [AV.int IntKind.i64 u1, AV.int IntKind.i64 u2, AV.int IntKind.i64 u3, AV.int IntKind.i64 u4,
                        AV.int IntKind.i64 u5],
                    AV.int IntKind.u8 p, AV.fs 3 (List.drop 0 (List.take 1000 xs)) fl])
                [0]).toInt ==
            0)
          (aIf
            ((sel
                  (R36
                    [AV.agg
                        [AV.int IntKind.i64 u1, AV.int IntKind.i64 u2, AV.int IntKind.i64 u3, AV.int IntKind.i64 u4,
                          AV.int IntKind.i64 u5],
                      AV.int IntKind.u8 p, AV.fs 3 (List.drop 0 (List.take 1000 xs)) fl])
                  [1]).toInt ==
              0)
            (some (AEnd.ret (AV.bool true), [])) (some (AEnd.ret (AV.bool false), [])))
          (some (AEnd.ret (AV.bool false), [])))
        (aIf (decide (0 ≤ IntKind.i64.wrap ((↑(List.drop 0 (List.take 1000 xs)).length : Int) - 1)))
          (aIf
            (decide
              (IntKind.i64.wrap ((↑(List.drop 0 (List.take 1000 xs)).length : Int) - 1) <
                (↑(List.drop 0 (List.take 1000 xs)).length : Int)))
            (aIf
              (((List.drop 0 (List.take 1000 xs)).getD
                      (IntKind.i64.wrap ((↑(List.drop 0 (List.take 1000 xs)).length : Int) - 1)).toNat
                      AV.junk).cells.length ==
                3)
              (aIf
                (([((List.drop 0 (List.take 1000 xs)).getD
                                  (IntKind.i64.wrap ((↑(List.drop 0 (List.take 1000 xs)).length : Int) - 1)).toNat
                                  AV.junk).cells.getD
                            0 AV.junk,
                          ((List.drop 0 (List.take 1000 xs)).getD
                                  (IntKind.i64.wrap ((↑(List.drop 0 (List.take 1000 xs)).length : Int) - 1)).toNat
                                  AV.junk).cells.getD
                            1 AV.junk,
                          ((List.drop 0 (List.take 1000 xs)).getD
                                  (IntKind.i64.wrap ((↑(List.drop 0 (List.take 1000 xs)).length : Int) - 1)).toNat
                                  AV.junk).cells.getD
                            2 AV.junk].getD
                      0 AV.junk).isInt
                  IntKind.i64)
                (aIf
                  (decide
                    (IntKind.i64.wrap
                        ((sel
                              (R36
                                [AV.agg
                                    [AV.int IntKind.i64 u1, AV.int IntKind.i64 u2, AV.int IntKind.i64 u3,
                                      AV.int IntKind.i64 u4, AV.int IntKind.i64 u5],
                                  AV.int IntKind.u8 p, AV.fs 3 (List.drop 0 (List.take 1000 xs)) fl])
                              [1]).toInt -
                          if
                              u5 >
                                if u4 > if u3 > if u2 > u1 then u2 else u1 then u3 else if u2 > u1 then u2 else u1 then
                                  u4
                                else if u3 > if u2 > u1 then u2 else u1 then u3 else if u2 > u1 then u2 else u1 then
                            u5
                          else
                            if u4 > if u3 > if u2 > u1 then u2 else u1 then u3 else if u2 > u1 then u2 else u1 then u4
                            else if u3 > if u2 > u1 then u2 else u1 then u3 else if u2 > u1 then u2 else u1) ≤
                      ([((List.drop 0 (List.take 1000 xs)).getD
                                      (IntKind.i64.wrap ((↑(List.drop 0 (List.take 1000 xs)).length : Int) - 1)).toNat
                                      AV.junk).cells.getD
                                0 AV.junk,
                              ((List.drop 0 (List.take 1000 xs)).getD
                                      (IntKind.i64.wrap ((↑(List.drop 0 (List.take 1000 xs)).length : Int) - 1)).toNat
                                      AV.junk).cells.getD
                                1 AV.junk,
                              ((List.drop 0 (List.take 1000 xs)).getD
                                      (IntKind.i64.wrap ((↑(List.drop 0 (List.take 1000 xs)).length : Int) - 1)).toNat
                                      AV.junk).cells.getD
                                2 AV.junk].getD
                          0 AV.junk).toInt))
                  (aIf (decide (0 < (↑(List.drop 0 (List.take 1000 xs)).length : Int)))
                    (aIf (((List.drop 0 (List.take 1000 xs)).getD 0 AV.junk).cells.length == 3)
                      (aIf
                        (([((List.drop 0 (List.take 1000 xs)).getD 0 AV.junk).cells.getD 0 AV.junk,
                                  ((List.drop 0 (List.take 1000 xs)).getD 0 AV.junk).cells.getD 1 AV.junk,
                                  ((List.drop 0 (List.take 1000 xs)).getD 0 AV.junk).cells.getD 2 AV.junk].getD
                              0 AV.junk).isInt
                          IntKind.i64)
                        (aIf
                          (decide
                            (IntKind.i64.wrap
                                ((sel
                                      (R36
                                        [AV.agg
                                            [AV.int IntKind.i64 u1, AV.int IntKind.i64 u2, AV.int IntKind.i64 u3,
                                              AV.int IntKind.i64 u4, AV.int IntKind.i64 u5],
                                          AV.int IntKind.u8 p, AV.fs 3 (List.drop 0 (List.take 1000 xs)) fl])
                                      [1]).toInt -
                                  if
                                      u5 <
                                        if
                                            u4 <
                                              if u3 < if u2 < u1 then u2 else u1 then u3
                                              else if u2 < u1 then u2 else u1 then
                                          u4
                                        else
                                          if u3 < if u2 < u1 then u2 else u1 then u3
                                          else if u2 < u1 then u2 else u1 then
                                    u5
                                  else
                                    if
                                        u4 <
                                          if u3 < if u2 < u1 then u2 else u1 then u3
                                          else if u2 < u1 then u2 else u1 then
                                      u4
                                    else if u3 < if u2 < u1 then u2 else u1 then u3 else if u2 < u1 then u2 else u1) ≥
                              ([((List.drop 0 (List.take 1000 xs)).getD 0 AV.junk).cells.getD 0 AV.junk,
                                      ((List.drop 0 (List.take 1000 xs)).getD 0 AV.junk).cells.getD 1 AV.junk,
                                      ((List.drop 0 (List.take 1000 xs)).getD 0 AV.junk).cells.getD 2 AV.junk].getD
                                  0 AV.junk).toInt))
                          (some (AEnd.ret (AV.bool true), [])) (some (AEnd.ret (AV.bool false), [])))
                        none)
                      none)
                    none)
                  (some (AEnd.ret (AV.bool false), [])))
                none)
              none)
            none)
          none))
      none)
    none)
  (aIf
    (shOK (Sh.tup [Sh.int IntKind.i64, Sh.int IntKind.i64, Sh.int IntKind.i64])
      (R36
        [AV.agg
            [AV.int IntKind.i64 u1, AV.int IntKind.i64 u2, AV.int IntKind.i64 u3, AV.int IntKind.i64 u4,
              AV.int IntKind.i64 u5],
          AV.int IntKind.u8 p, AV.fs 3 xs fl]))
    (aIf
      ((sel
            (R36
              [AV.agg
                  [AV.int IntKind.i64 u1, AV.int IntKind.i64 u2, AV.int IntKind.i64 u3, AV.int IntKind.i64 u4,
                    AV.int IntKind.i64 u5],
                AV.int IntKind.u8 p, AV.fs 3 xs fl])
            [2]).toInt !=
        0)
      (aIf
        ((sel
              (R36
                [AV.agg
                    [AV.int IntKind.i64 u1, AV.int IntKind.i64 u2, AV.int IntKind.i64 u3, AV.int IntKind.i64 u4,
                      AV.int IntKind.i64 u5],
                  AV.int IntKind.u8 p, AV.fs 3 xs fl])
              [0]).toInt ==
          0)
        (aIf
          ((sel
                (R36
                  [AV.agg
                      [AV.int IntKind.i64 u1, AV.int IntKind.i64 u2, AV.int IntKind.i64 u3, AV.int IntKind.i64 u4,
                        AV.int IntKind.i64 u5],
                    AV.int IntKind.u8 p, AV.fs 3 xs fl])
                [1]).toInt ==
            0)
          (some (AEnd.ret (AV.bool true), [])) (some (AEnd.ret (AV.bool false), [])))
        (some (AEnd.ret (AV.bool false), [])))
      (aIf (decide (0 ≤ IntKind.i64.wrap ((↑xs.length : Int) - 1)))
        (aIf (decide (IntKind.i64.wrap ((↑xs.length : Int) - 1) < (↑xs.length : Int)))
          (aIf ((xs.getD (IntKind.i64.wrap ((↑xs.length : Int) - 1)).toNat AV.junk).cells.length == 3)
            (aIf
              (([(xs.getD (IntKind.i64.wrap ((↑xs.length : Int) - 1)).toNat AV.junk).cells.getD 0 AV.junk,
                        (xs.getD (IntKind.i64.wrap ((↑xs.length : Int) - 1)).toNat AV.junk).cells.getD 1 AV.junk,
                        (xs.getD (IntKind.i64.wrap ((↑xs.length : Int) - 1)).toNat AV.junk).cells.getD 2 AV.junk].getD
                    0 AV.junk).isInt
                IntKind.i64)
              (aIf
                (decide
                  (IntKind.i64.wrap
                      ((sel
                            (R36
                              [AV.agg
                                  [AV.int IntKind.i64 u1, AV.int IntKind.i64 u2, AV.int IntKind.i64 u3,
                                    AV.int IntKind.i64 u4, AV.int IntKind.i64 u5],
                                AV.int IntKind.u8 p, AV.fs 3 xs fl])
                            [1]).toInt -
                        if
                            u5 >
                              if u4 > if u3 > if u2 > u1 then u2 else u1 then u3 else if u2 > u1 then u2 else u1 then u4
                              else if u3 > if u2 > u1 then u2 else u1 then u3 else if u2 > u1 then u2 else u1 then
                          u5
                        else
                          if u4 > if u3 > if u2 > u1 then u2 else u1 then u3 else if u2 > u1 then u2 else u1 then u4
                          else if u3 > if u2 > u1 then u2 else u1 then u3 else if u2 > u1 then u2 else u1) ≤
                    ([(xs.getD (IntKind.i64.wrap ((↑xs.length : Int) - 1)).toNat AV.junk).cells.getD 0 AV.junk,
                            (xs.getD (IntKind.i64.wrap ((↑xs.length : Int) - 1)).toNat AV.junk).cells.getD 1 AV.junk,
                            (xs.getD (IntKind.i64.wrap ((↑xs.length : Int) - 1)).toNat AV.junk).cells.getD 2
                              AV.junk].getD
                        0 AV.junk).toInt))
                (aIf (decide (0 < (↑xs.length : Int)))
                  (aIf ((xs.getD 0 AV.junk).cells.length == 3)
                    (aIf
                      (([(xs.getD 0 AV.junk).cells.getD 0 AV.junk, (xs.getD 0 AV.junk).cells.getD 1 AV.junk,
                                (xs.getD 0 AV.junk).cells.getD 2 AV.junk].getD
                            0 AV.junk).isInt
                        IntKind.i64)
                      (aIf
                        (decide
                          (IntKind.i64.wrap
                              ((sel
                                    (R36
                                      [AV.agg
                                          [AV.int IntKind.i64 u1, AV.int IntKind.i64 u2, AV.int IntKind.i64 u3,
                                            AV.int IntKind.i64 u4, AV.int IntKind.i64 u5],
                                        AV.int IntKind.u8 p, AV.fs 3 xs fl])
                                    [1]).toInt -
                                if
                                    u5 <
                                      if
                                          u4 <
                                            if u3 < if u2 < u1 then u2 else u1 then u3
                                            else if u2 < u1 then u2 else u1 then
                                        u4
                                      else
                                        if u3 < if u2 < u1 then u2 else u1 then u3 else if u2 < u1 then u2 else u1 then
                                  u5
                                else
                                  if
                                      u4 <
                                        if u3 < if u2 < u1 then u2 else u1 then u3 else if u2 < u1 then u2 else u1 then
                                    u4
                                  else if u3 < if u2 < u1 then u2 else u1 then u3 else if u2 < u1 then u2 else u1) ≥
                            ([(xs.getD 0 AV.junk).cells.getD 0 AV.junk, (xs.getD 0 AV.junk).cells.getD 1 AV.junk,
                                    (xs.getD 0 AV.junk).cells.getD 2 AV.junk].getD
                                0 AV.junk).toInt))
                        (some (AEnd.ret (AV.bool true), [])) (some (AEnd.ret (AV.bool false), [])))
                      none)
                    none)
                  none)
                (some (AEnd.ret (AV.bool false), [])))
              none)
            none)
          none)
        none))
    none) := by kernel_rfl

theorem law_holds : ∀ xs, argsV E 4 Try.f11.params.toList xs → S11 xs [] (fun e H => some (e, H)) = some (.ret (.bool true), []) := by
  intro xs h
  rw [Try.params11] at h
  obtain ⟨x, y, z, rfl, h1, h2, h3⟩ := args3 h
  obtain ⟨zs, rfl, h4⟩ := aggArg h1 argT61 agg61
  obtain ⟨a, b, c, d, e, rfl, ha, hb, hc, hd, he⟩ := ints5 h4
  obtain ⟨p, rfl, hp⟩ := intArg h2 argT5 agg5
  obtain ⟨ys, fl, rfl, hl, hf, hu⟩ := pksArg h3 argT67 agg67
  have t0 : ∀ (x y z : AV), sel (some (AEnd.ret (AV.tup [x, y, z]), [])) [0] = x := fun _ _ _ => rfl
  have t1 : ∀ (x y z : AV), sel (some (AEnd.ret (AV.tup [x, y, z]), [])) [1] = y := fun _ _ _ => rfl
  have t2 : ∀ (x y z : AV), sel (some (AEnd.ret (AV.tup [x, y, z]), [])) [2] = z := fun _ _ _ => rfl
  have ti : ∀ k n, (AV.int k n).toInt = n := fun _ _ => rfl
  have hM := mx5 a b c d e
  have hm := mn5 a b c d e
  have key : ∀ (zs : List AV) (gl : SF), pksB zs = true → zs.length ≤ 1000000 → ∃ u v w, R36 [.agg [.int .i64 a, .int .i64 b, .int .i64 c, .int .i64 d, .int .i64 e], .int .u8 p, .fs 3 zs gl] = some (.ret (.tup [.int .i64 u, .int .i64 v, .int .i64 w]), []) ∧
      (inK .i64 u = true ∧ inK .i64 v = true ∧ inK .i64 w = true) ∧ (w ≠ 0 → u = 0 ∧ v = 0) ∧
      (w = 0 → 0 < zs.length ∧ decide (IntKind.i64.wrap (v - mx (mx (mx (mx a b) c) d) e) ≤ pT zs (zs.length - 1)) = true ∧ decide (IntKind.i64.wrap (v - mn (mn (mn (mn a b) c) d) e) ≥ pT zs 0) = true) := by
    intro zs gl hz hz2
    have r1 := R36_is (fl := gl) (p := p) hz hz2 (inK_of ha) (inK_of hb) (inK_of hc) (inK_of hd) (inK_of he) _ rfl
    refine ⟨_, _, _, r1, ?_, ?_⟩
    · obtain ⟨n, hn, e33⟩ := R33_is a b c d e
      obtain ⟨s0, b0, e28, k0⟩ := val_ii (R28_ok p (pF zs 0))
      have k1 := shOK_some (R28_ok p (pF zs 0))
      refine flowR_in _ _ _ ?_ ?_ ?_ ?_
      · rw [e33]; rcases hn with rfl | rfl <;> rfl
      · rw [e28]; exact k0
      · have := k1.2
        rw [e28] at this ⊢
        have h5 : (Sh.tup [.int .i64, .int .i64]).has (.tup [.int .i64 s0, .int .i64 b0]) = true := this
        simp only [has_tup, hasL_cons, hasL_nil, List.getD_cons_zero, List.getD_cons_succ, has_int, List.length_cons, List.length_nil, beq_self_eq_true, Bool.true_and, Bool.and_true, Bool.and_eq_true] at h5
        exact h5.2
      · intro s b f hs
        obtain ⟨t, l, e26, k⟩ := R26_val s f b hs
        rw [e26]; exact k
    · have hE := flowR_ends (c := (sel (R33 [.agg [.int .i64 a, .int .i64 b, .int .i64 c, .int .i64 d, .int .i64 e]]) []).toInt) (bs := (sel (R28 [.int .u8 p, .int .u8 (pF zs 0)]) [0]).toInt) (be := (sel (R28 [.int .u8 p, .int .u8 (pF zs 0)]) [1]).toInt)
        (st := fun s b f => (sel (R26 [.int .i64 s, .bool b, .int .u8 f]) [0]).toInt) (fun s b f => (sel (R26 [.int .i64 s, .bool b, .int .u8 f]) [1]).toBool) (lf := fun s => (sel (R31 [.agg [.int .i64 a, .int .i64 b, .int .i64 c, .int .i64 d, .int .i64 e], .int .i64 s]) [0]).toInt) zs
        (lo := mn (mn (mn (mn a b) c) d) e) (hi := mx (mx (mx (mx a b) c) d) e)
        (fun s b f hs => by obtain ⟨t, l, e26, k⟩ := R26_valid (f := f) (b := b) hs; rw [e26]; exact k)
        (fun h0 s hs => by
          obtain ⟨n, e31, hn⟩ := R31_life h0 hs
          rw [e31]; omega)
        (fun h0 => R28_valid h0)
        (fun h0 => by have := R33_zero h0; omega) (fun h0 => by have := R33_zero h0; omega)
      refine ⟨hE.1, fun h0 => ?_⟩
      obtain ⟨q1, q2, q3, q4, q5, q6⟩ := hE.2 h0
      have := R33_zero q2
      have hc0 := i64_of (n := pT zs 0) (by omega) (by omega)
      refine ⟨q1, decide_eq_true ?_, decide_eq_true ?_⟩
      · rw [i64_of (by omega) (by omega)]; omega
      · rw [i64_of (by omega) (by omega)]; omega
  rw [N11]
  have last : ∀ zs : List AV, 0 < zs.length → zs.length ≤ 1000000 → IntKind.i64.wrap ((zs.length : Int) - 1) = ((zs.length - 1 : Nat) : Int) := fun zs h1 h2 => by rw [i64_of (by omega) (by omega)]; omega
  cases c0 : decide ((ys.length : Int) > 1000)
  · have hy : ys.length ≤ 1000000 := by have := of_decide_eq_false c0; omega
    obtain ⟨u, v, w, r1, ⟨k1, k2, k3⟩, kw, k0⟩ := key ys fl hu hy
    simp only [aIf_false, r1, t0, t1, t2, ti, shOK_ret, has_tup, hasL_cons, hasL_nil, List.getD_cons_zero, List.getD_cons_succ, has_int, List.length_cons, List.length_nil, beq_self_eq_true, Bool.and_self, aIf_true, k1, k2, k3]
    cases c1 : (w != 0)
    · obtain ⟨g0, g1, g2⟩ := k0 (by simpa using c1)
      obtain ⟨he0, _, _⟩ := pks_get hu 0 g0
      obtain ⟨he1, _, _⟩ := pks_get hu (ys.length - 1) (by omega)
      have gi : decide ((0 : Int) < (ys.length : Int)) = true := decide_eq_true (by omega)
      have gj : decide (((ys.length - 1 : Nat) : Int) < (ys.length : Int)) = true := decide_eq_true (by omega)
      simp only [last ys g0 hy, Int.toNat_natCast, dnn', gi, gj, he0, he1, AV.cells, List.length_cons, List.length_nil, List.getD_cons_zero, Nat.reduceAdd, isInt_self, ti, beq_self_eq_true, aIf_true, aIf_false]
      exact (aIf_pos g1).trans (aIf_pos g2)
    · obtain ⟨rfl, rfl⟩ := kw (by simpa using c1)
      rfl
  · have hc0 := of_decide_eq_true c0
    have hy : (List.drop 0 (List.take 1000 ys)).length ≤ 1000000 := by simp; omega
    have hz : pksB (List.drop 0 (List.take 1000 ys)) = true := pksB_take hu 1000
    obtain ⟨u, v, w, r1, ⟨k1, k2, k3⟩, kw, k0⟩ := key (List.drop 0 (List.take 1000 ys)) fl hz hy
    simp only [decide_eq_true (show 1000 ≤ (ys.length : Int) by omega), r1, t0, t1, t2, ti, shOK_ret, has_tup, hasL_cons, hasL_nil, List.getD_cons_zero, List.getD_cons_succ, has_int, List.length_cons, List.length_nil, beq_self_eq_true, Bool.and_self, aIf_true, k1, k2, k3]
    cases c1 : (w != 0)
    · obtain ⟨g0, g1, g2⟩ := k0 (by simpa using c1)
      revert g0 g1 g2 hy hz
      clear kw k0 r1 key
      generalize List.drop 0 (List.take 1000 ys) = zs
      intro hy hz g0 g1 g2
      obtain ⟨he0, _, _⟩ := pks_get hz 0 g0
      obtain ⟨he1, _, _⟩ := pks_get hz (zs.length - 1) (by omega)
      have gi : decide ((0 : Int) < (zs.length : Int)) = true := decide_eq_true (by omega)
      have gj : decide (((zs.length - 1 : Nat) : Int) < (zs.length : Int)) = true := decide_eq_true (by omega)
      simp only [last zs g0 hy, Int.toNat_natCast, dnn', gi, gj, he0, he1, AV.cells, List.length_cons, List.length_nil, List.getD_cons_zero, Nat.reduceAdd, isInt_self, ti, beq_self_eq_true, aIf_true, aIf_false]
      exact (aIf_pos g1).trans (aIf_pos g2)
    · obtain ⟨rfl, rfl⟩ := kw (by simpa using c1)
      rfl

theorem law_spec {H : Type} (ds : List (DataW H)) (h : ds.length = Try.f11.params.toList.length) : (Rows.flowEndsSpec.fn H (ds ++ [])).results = [.lit (.bool true)] ∧ (Rows.flowEndsSpec.fn H (ds ++ [])).args = ds ∧ (Rows.flowEndsSpec.fn H (ds ++ [])).vars = [] := by
  rw [Try.params11] at h
  match ds, h with
  | [d0, d1, d2], _ => exact ⟨rfl, rfl, rfl⟩

set_option maxRecDepth 100000 in
theorem law_lifted (os : Os) (started : os.Started) (H : Type) (enc : TypeId × Value → H) :
    ReturnsInHanded {} Try.checked os 11 .any (Rows.flowEndsSpec.pre6 enc Try.prog Try.f11 Rows.flowEndsRow.domain false) (Rows.flowEndsSpec.post enc Try.prog Try.f11 false true false false) := by
  refine returnsInHanded_of_change (C := Try.checked) own started (by kernel_rfl) Try.func11
    (ChangeSpec.witness6 (enc := enc) (C := Try.checked) false ⟨#[], #[.agg #[.int .i64 0, .int .i64 0, .int .i64 0, .int .i64 0, .int .i64 0], .int .u8 0, .slice none 0 0], []⟩ 8 (by kernel_rfl) (by kernel_rfl) (by kernel_rfl) (by kernel_rfl)) ?_
  intro W base args ds gs before hval hW _ _
  exact law_post (P := Try.prog) (E := E) (D := 4) (tb := 4) (fn := Try.f11) E_ok laidOut (by kernel_rfl) rfl (by kernel_rfl) rfl law_spec S11_ok law_holds hval hW

theorem flowEnds_holds : Rows.FlowEndsSaid :=
  OpenClaim.holds_of_wide 11 Try.f11 rfl rfl rfl rfl rfl rfl rfl ⟨rfl, rfl, rfl, rfl, rfl⟩ rfl rfl rfl rfl rfl (by kernel_rfl) Try.func11 (by kernel_rfl)
    (of_decide_eq_true (by kernel_rfl)) (by unfold Func.isWrapper; first | (rw [if_pos (by decide +kernel)]; kernel_rfl) | (rw [if_neg (by decide +kernel)]; exact ⟨rfl, rfl⟩))
    (fun os started H enc _ => law_lifted os started H enc)

#print axioms flowEnds_holds

end Go.Proofs.Ytohfnoepdbkkeaa

