/- Arguments of mapping's laws. -/
import Derived.Test.YtlfhkoajmjfbpaaDoorPMap
namespace Go.Pl
open Go.Abs

theorem p6_of {xs : List AV} (hq : p6T xs) : ∃ (b : Nat → Int) (n : Int), b8 b ∧ inK .i64 n = true ∧ xs = [.int .u8 (b 0), .int .u8 (b 1), .int .u8 (b 2), .int .u8 (b 3), .int .u8 (b 4), .int .u8 (b 5), .int .u8 (b 6), .int .u8 (b 7), .int .u8 (b 8), .int .u8 (b 9), .int .u8 (b 10), .int .u8 (b 11), .int .u8 (b 12), .int .u8 (b 13), .int .u8 (b 14), .int .u8 (b 15), .int .i64 n] := by
  obtain ⟨_, _, rfl, hq, _, _, rfl, ⟨n, rfl, qn⟩, rfl⟩ := hq
  obtain ⟨_, z0, rfl, ⟨c0, rfl, q0⟩, hq⟩ := hq
  obtain ⟨_, z1, rfl, ⟨c1, rfl, q1⟩, hq⟩ := hq
  obtain ⟨_, z2, rfl, ⟨c2, rfl, q2⟩, hq⟩ := hq
  obtain ⟨_, z3, rfl, ⟨c3, rfl, q3⟩, hq⟩ := hq
  obtain ⟨_, z4, rfl, ⟨c4, rfl, q4⟩, hq⟩ := hq
  obtain ⟨_, z5, rfl, ⟨c5, rfl, q5⟩, hq⟩ := hq
  obtain ⟨_, z6, rfl, ⟨c6, rfl, q6⟩, hq⟩ := hq
  obtain ⟨_, z7, rfl, ⟨c7, rfl, q7⟩, hq⟩ := hq
  obtain ⟨_, z8, rfl, ⟨c8, rfl, q8⟩, hq⟩ := hq
  obtain ⟨_, z9, rfl, ⟨c9, rfl, q9⟩, hq⟩ := hq
  obtain ⟨_, z10, rfl, ⟨c10, rfl, q10⟩, hq⟩ := hq
  obtain ⟨_, z11, rfl, ⟨c11, rfl, q11⟩, hq⟩ := hq
  obtain ⟨_, z12, rfl, ⟨c12, rfl, q12⟩, hq⟩ := hq
  obtain ⟨_, z13, rfl, ⟨c13, rfl, q13⟩, hq⟩ := hq
  obtain ⟨_, z14, rfl, ⟨c14, rfl, q14⟩, hq⟩ := hq
  obtain ⟨_, z15, rfl, ⟨c15, rfl, q15⟩, rfl⟩ := hq
  refine ⟨fun k => [c0, c1, c2, c3, c4, c5, c6, c7, c8, c9, c10, c11, c12, c13, c14, c15].getD k 0, n, ?_, inK_of qn, rfl⟩
  intro i
  have r0 := rng_u8 q0
  have r1 := rng_u8 q1
  have r2 := rng_u8 q2
  have r3 := rng_u8 q3
  have r4 := rng_u8 q4
  have r5 := rng_u8 q5
  have r6 := rng_u8 q6
  have r7 := rng_u8 q7
  have r8 := rng_u8 q8
  have r9 := rng_u8 q9
  have r10 := rng_u8 q10
  have r11 := rng_u8 q11
  have r12 := rng_u8 q12
  have r13 := rng_u8 q13
  have r14 := rng_u8 q14
  have r15 := rng_u8 q15
  match i with
  | 0 => exact r0
  | 1 => exact r1
  | 2 => exact r2
  | 3 => exact r3
  | 4 => exact r4
  | 5 => exact r5
  | 6 => exact r6
  | 7 => exact r7
  | 8 => exact r8
  | 9 => exact r9
  | 10 => exact r10
  | 11 => exact r11
  | 12 => exact r12
  | 13 => exact r13
  | 14 => exact r14
  | 15 => exact r15
  | i + 16 => exact ⟨by show (0 : Int) ≤ 0; omega, by show (0 : Int) ≤ 255; omega⟩

theorem a6_of {xs : List AV} (hq : a6T xs) : ∃ (b : Nat → Int), b8 b ∧ xs = [.int .u8 (b 0), .int .u8 (b 1), .int .u8 (b 2), .int .u8 (b 3), .int .u8 (b 4), .int .u8 (b 5), .int .u8 (b 6), .int .u8 (b 7), .int .u8 (b 8), .int .u8 (b 9), .int .u8 (b 10), .int .u8 (b 11), .int .u8 (b 12), .int .u8 (b 13), .int .u8 (b 14), .int .u8 (b 15)] := by
  obtain ⟨_, z0, rfl, ⟨c0, rfl, q0⟩, hq⟩ := hq
  obtain ⟨_, z1, rfl, ⟨c1, rfl, q1⟩, hq⟩ := hq
  obtain ⟨_, z2, rfl, ⟨c2, rfl, q2⟩, hq⟩ := hq
  obtain ⟨_, z3, rfl, ⟨c3, rfl, q3⟩, hq⟩ := hq
  obtain ⟨_, z4, rfl, ⟨c4, rfl, q4⟩, hq⟩ := hq
  obtain ⟨_, z5, rfl, ⟨c5, rfl, q5⟩, hq⟩ := hq
  obtain ⟨_, z6, rfl, ⟨c6, rfl, q6⟩, hq⟩ := hq
  obtain ⟨_, z7, rfl, ⟨c7, rfl, q7⟩, hq⟩ := hq
  obtain ⟨_, z8, rfl, ⟨c8, rfl, q8⟩, hq⟩ := hq
  obtain ⟨_, z9, rfl, ⟨c9, rfl, q9⟩, hq⟩ := hq
  obtain ⟨_, z10, rfl, ⟨c10, rfl, q10⟩, hq⟩ := hq
  obtain ⟨_, z11, rfl, ⟨c11, rfl, q11⟩, hq⟩ := hq
  obtain ⟨_, z12, rfl, ⟨c12, rfl, q12⟩, hq⟩ := hq
  obtain ⟨_, z13, rfl, ⟨c13, rfl, q13⟩, hq⟩ := hq
  obtain ⟨_, z14, rfl, ⟨c14, rfl, q14⟩, hq⟩ := hq
  obtain ⟨_, z15, rfl, ⟨c15, rfl, q15⟩, rfl⟩ := hq
  refine ⟨fun k => [c0, c1, c2, c3, c4, c5, c6, c7, c8, c9, c10, c11, c12, c13, c14, c15].getD k 0, ?_, rfl⟩
  intro i
  have r0 := rng_u8 q0
  have r1 := rng_u8 q1
  have r2 := rng_u8 q2
  have r3 := rng_u8 q3
  have r4 := rng_u8 q4
  have r5 := rng_u8 q5
  have r6 := rng_u8 q6
  have r7 := rng_u8 q7
  have r8 := rng_u8 q8
  have r9 := rng_u8 q9
  have r10 := rng_u8 q10
  have r11 := rng_u8 q11
  have r12 := rng_u8 q12
  have r13 := rng_u8 q13
  have r14 := rng_u8 q14
  have r15 := rng_u8 q15
  match i with
  | 0 => exact r0
  | 1 => exact r1
  | 2 => exact r2
  | 3 => exact r3
  | 4 => exact r4
  | 5 => exact r5
  | 6 => exact r6
  | 7 => exact r7
  | 8 => exact r8
  | 9 => exact r9
  | 10 => exact r10
  | 11 => exact r11
  | 12 => exact r12
  | 13 => exact r13
  | 14 => exact r14
  | 15 => exact r15
  | i + 16 => exact ⟨by show (0 : Int) ≤ 0; omega, by show (0 : Int) ≤ 255; omega⟩

theorem p4_of {xs : List AV} (hq : p4T xs) : ∃ (b : Nat → Int) (n : Int), b8 b ∧ inK .i64 n = true ∧ xs = [.int .u8 (b 0), .int .u8 (b 1), .int .u8 (b 2), .int .u8 (b 3), .int .i64 n] := by
  obtain ⟨_, _, rfl, hq, _, _, rfl, ⟨n, rfl, qn⟩, rfl⟩ := hq
  obtain ⟨_, z0, rfl, ⟨c0, rfl, q0⟩, hq⟩ := hq
  obtain ⟨_, z1, rfl, ⟨c1, rfl, q1⟩, hq⟩ := hq
  obtain ⟨_, z2, rfl, ⟨c2, rfl, q2⟩, hq⟩ := hq
  obtain ⟨_, z3, rfl, ⟨c3, rfl, q3⟩, rfl⟩ := hq
  refine ⟨fun k => [c0, c1, c2, c3].getD k 0, n, ?_, inK_of qn, rfl⟩
  intro i
  have r0 := rng_u8 q0
  have r1 := rng_u8 q1
  have r2 := rng_u8 q2
  have r3 := rng_u8 q3
  match i with
  | 0 => exact r0
  | 1 => exact r1
  | 2 => exact r2
  | 3 => exact r3
  | i + 4 => exact ⟨by show (0 : Int) ≤ 0; omega, by show (0 : Int) ≤ 255; omega⟩

theorem a4_of {xs : List AV} (hq : a4T xs) : ∃ (b : Nat → Int), b8 b ∧ xs = [.int .u8 (b 0), .int .u8 (b 1), .int .u8 (b 2), .int .u8 (b 3)] := by
  obtain ⟨_, z0, rfl, ⟨c0, rfl, q0⟩, hq⟩ := hq
  obtain ⟨_, z1, rfl, ⟨c1, rfl, q1⟩, hq⟩ := hq
  obtain ⟨_, z2, rfl, ⟨c2, rfl, q2⟩, hq⟩ := hq
  obtain ⟨_, z3, rfl, ⟨c3, rfl, q3⟩, rfl⟩ := hq
  refine ⟨fun k => [c0, c1, c2, c3].getD k 0, ?_, rfl⟩
  intro i
  have r0 := rng_u8 q0
  have r1 := rng_u8 q1
  have r2 := rng_u8 q2
  have r3 := rng_u8 q3
  match i with
  | 0 => exact r0
  | 1 => exact r1
  | 2 => exact r2
  | 3 => exact r3
  | i + 4 => exact ⟨by show (0 : Int) ≤ 0; omega, by show (0 : Int) ≤ 255; omega⟩

def ruleT (xs : List AV) : Prop := seqP [p6T, p4T, intT .i64, intT .i64, boolT] xs
theorem ruleArg {E : Env} {f t : Nat} {y : AV} (h : argV E f t y) (hT : ∀ xs, argT E f t xs = ruleT xs) (ha : aggT E t = true) :
    ∃ (x z : Nat → Int) (n m e o : Int) (f : Bool), b8 x ∧ b8 z ∧ inK .i64 n = true ∧ inK .i64 m = true ∧ inK .i64 e = true ∧ inK .i64 o = true ∧ y = .agg [.int .u8 (x 0), .int .u8 (x 1), .int .u8 (x 2), .int .u8 (x 3), .int .u8 (x 4), .int .u8 (x 5), .int .u8 (x 6), .int .u8 (x 7), .int .u8 (x 8), .int .u8 (x 9), .int .u8 (x 10), .int .u8 (x 11), .int .u8 (x 12), .int .u8 (x 13), .int .u8 (x 14), .int .u8 (x 15), .int .i64 n, .int .u8 (z 0), .int .u8 (z 1), .int .u8 (z 2), .int .u8 (z 3), .int .i64 m, .int .i64 e, .int .i64 o, .bool f] := by
  obtain ⟨zs, rfl, hq⟩ := aggArg h hT ha
  obtain ⟨_, _, rfl, h6, _, _, rfl, h4, _, _, rfl, ⟨e, rfl, he⟩, _, _, rfl, ⟨o, rfl, ho⟩, _, _, rfl, ⟨b, rfl⟩, rfl⟩ := hq
  obtain ⟨x, n, hx, hn, rfl⟩ := p6_of h6
  obtain ⟨z, m, hz, hm, rfl⟩ := p4_of h4
  exact ⟨x, z, n, m, e, o, b, hx, hz, hn, hm, inK_of he, inK_of ho, rfl⟩
def psetT (xs : List AV) : Prop := seqP [intT .i64, intT .i64, intT .u16] xs
def edgeT (xs : List AV) : Prop := seqP [p4T, psetT, p6T, a6T] xs
theorem edgeArg {E : Env} {f t : Nat} {y : AV} (h : argV E f t y) (hT : ∀ xs, argT E f t xs = edgeT xs) (ha : aggT E t = true) :
    ∃ (z x w : Nat → Int) (m n a b p : Int), b8 z ∧ b8 x ∧ b8 w ∧ inK .i64 m = true ∧ inK .i64 n = true ∧ psetB a b p = true ∧ y = .agg [.int .u8 (z 0), .int .u8 (z 1), .int .u8 (z 2), .int .u8 (z 3), .int .i64 m, .int .i64 a, .int .i64 b, .int .u16 p, .int .u8 (x 0), .int .u8 (x 1), .int .u8 (x 2), .int .u8 (x 3), .int .u8 (x 4), .int .u8 (x 5), .int .u8 (x 6), .int .u8 (x 7), .int .u8 (x 8), .int .u8 (x 9), .int .u8 (x 10), .int .u8 (x 11), .int .u8 (x 12), .int .u8 (x 13), .int .u8 (x 14), .int .u8 (x 15), .int .i64 n, .int .u8 (w 0), .int .u8 (w 1), .int .u8 (w 2), .int .u8 (w 3), .int .u8 (w 4), .int .u8 (w 5), .int .u8 (w 6), .int .u8 (w 7), .int .u8 (w 8), .int .u8 (w 9), .int .u8 (w 10), .int .u8 (w 11), .int .u8 (w 12), .int .u8 (w 13), .int .u8 (w 14), .int .u8 (w 15)] := by
  obtain ⟨zs, rfl, hq⟩ := aggArg h hT ha
  obtain ⟨_, _, rfl, h4, _, _, rfl, hs, _, _, rfl, h6, _, _, rfl, hw, rfl⟩ := hq
  obtain ⟨z, m, hz, hm, rfl⟩ := p4_of h4
  obtain ⟨x, n, hx, hn, rfl⟩ := p6_of h6
  obtain ⟨w, hw2, rfl⟩ := a6_of hw
  obtain ⟨a, b, p, rfl, ha, hb, hp⟩ := ints3 hs
  have ha := rng_i64 ha
  have hb := rng_i64 hb
  have hp := rng_u16 hp
  exact ⟨z, x, w, m, n, a, b, p, hz, hx, hw2, hm, hn, psetB_iff.2 ⟨ha.1, ha.2, hb.1, hb.2, hp.1, hp.2⟩, rfl⟩

end Go.Pl
