/- Arguments of chapter 12's laws. -/
import Derived.Test.YteaceebonkpipaaPPlatArg
import Derived.Test.YteaceebonkpipaaPAddr
namespace Go.Pl
open Go.Abs

def opT (xs : List AV) : Prop := seqP [intT .i64, seqP [seqP (List.replicate 4 (intT .u8)), intT .i64], seqP [seqP (List.replicate 16 (intT .u8)), intT .i64], seqP (List.replicate 4 (intT .u8)), seqP (List.replicate 16 (intT .u8)), intT .i64] xs -- Nx
theorem op_of {xs : List AV} (h : opT xs) : ∃ (kd : Int) (p : Nat → Int) (n : Int) (q : Nat → Int) (m : Int) (a b : Nat → Int) (v : Int), b8 p ∧ (-9223372036854775808 ≤ n ∧ n ≤ 9223372036854775807) ∧ b8 q ∧ (-9223372036854775808 ≤ m ∧ m ≤ 9223372036854775807) ∧ b8 a ∧ b8 b ∧ (-9223372036854775808 ≤ v ∧ v ≤ 9223372036854775807) ∧
    xs = [.int .i64 kd, .int .u8 (p 0), .int .u8 (p 1), .int .u8 (p 2), .int .u8 (p 3), .int .i64 n, .int .u8 (q 0), .int .u8 (q 1), .int .u8 (q 2), .int .u8 (q 3), .int .u8 (q 4), .int .u8 (q 5), .int .u8 (q 6), .int .u8 (q 7), .int .u8 (q 8), .int .u8 (q 9), .int .u8 (q 10), .int .u8 (q 11), .int .u8 (q 12), .int .u8 (q 13), .int .u8 (q 14), .int .u8 (q 15), .int .i64 m, .int .u8 (a 0), .int .u8 (a 1), .int .u8 (a 2), .int .u8 (a 3), .int .u8 (b 0), .int .u8 (b 1), .int .u8 (b 2), .int .u8 (b 3), .int .u8 (b 4), .int .u8 (b 5), .int .u8 (b 6), .int .u8 (b 7), .int .u8 (b 8), .int .u8 (b 9), .int .u8 (b 10), .int .u8 (b 11), .int .u8 (b 12), .int .u8 (b 13), .int .u8 (b 14), .int .u8 (b 15), .int .i64 v] := by
  obtain ⟨_, _, rfl, ⟨kd, rfl, hk⟩, _, _, rfl, ⟨_, _, rfl, hp, _, _, rfl, ⟨n, rfl, hn⟩, rfl⟩, _, _, rfl, ⟨_, _, rfl, hq, _, _, rfl, ⟨m, rfl, hm⟩, rfl⟩, _, _, rfl, ha, _, _, rfl, hb, _, _, rfl, ⟨v, rfl, hv⟩, rfl⟩ := h
  obtain ⟨p, qp, rfl⟩ := u8_fun hp
  obtain ⟨q, qq, rfl⟩ := u8_fun hq
  obtain ⟨a, qa, rfl⟩ := u8_fun ha
  obtain ⟨b, qb, rfl⟩ := u8_fun hb
  exact ⟨kd, p, n, q, m, a, b, v, qp, rng_i64 hn, qq, rng_i64 hm, qa, qb, rng_i64 hv, rfl⟩

end Go.Pl
