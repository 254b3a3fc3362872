/- A datagram that is handed in. -/
import Derived.Test.YtohfnoepdbkkeaaPFrag
import Derived.Test.YtohfnoepdbkkeaaA20
namespace Go.Pl
open Go.Abs

def v4a (xs : List AV) : Prop := seqP [intT .u8, intT .u8, intT .u8, intT .u8] xs -- Nx
def v4T (xs : List AV) : Prop := seqP [intT .u8, intT .u16, boolT, boolT, intT .i64, intT .u8, intT .u8, v4a, v4a, bytesT, bytesT] xs -- Nx
theorem v4a_of {xs : List AV} (h : v4a xs) : ∃ a b c d, xs = [.int .u8 a, .int .u8 b, .int .u8 c, .int .u8 d] := by
  obtain ⟨_, _, rfl, ⟨a, rfl, _⟩, _, _, rfl, ⟨b, rfl, _⟩, _, _, rfl, ⟨c, rfl, _⟩, _, _, rfl, ⟨d, rfl, _⟩, rfl⟩ := h
  exact ⟨a, b, c, d, rfl⟩
theorem okF_of {xs : List AV} {f : SF} (h : f ≠ .any → xs = []) : okF xs f = true := by
  cases f with
  | nil => rw [h (by decide)]; rfl
  | _ => rfl
theorem bytesT_of {xs : List AV} (h : bytesT xs) : ∃ ys f, xs = [.fs 1 ys f] ∧ okF ys f = true ∧ intsB .u8 ys = true := by
  obtain ⟨ys, f, rfl, _, h2, h3⟩ := h
  refine ⟨ys, f, rfl, okF_of h2, intsB_mem fun y hy => ?_⟩
  obtain ⟨⟨n, q1, q2, q3⟩, _, q4⟩ := h3 y hy
  have := (q4 rfl).symm.trans q1
  simp only [List.cons.injEq, and_true] at this
  subst this
  refine ⟨rfl, ?_⟩
  unfold inK
  rw [Bool.and_eq_true, decide_eq_true_eq, decide_eq_true_eq]
  exact ⟨q2, q3⟩
theorem v4Arg {E : Env} {f t : Nat} {y : AV} (h : argV E f t y) (hT : ∀ xs, argT E f t xs = v4T xs) (ha : aggT E t = true) :
    ∃ (t i : Int) (df mf : Bool) (off l q s0 s1 s2 s3 d0 d1 d2 d3 : Int) (os : List AV) (of : SF) (bs : List AV) (bf : SF), y = .agg [.int .u8 t, .int .u16 i, .bool df, .bool mf, .int .i64 off, .int .u8 l, .int .u8 q, .int .u8 s0, .int .u8 s1, .int .u8 s2, .int .u8 s3, .int .u8 d0, .int .u8 d1, .int .u8 d2, .int .u8 d3, .fs 1 os of, .fs 1 bs bf] ∧
      -9223372036854775808 ≤ off ∧ off ≤ 9223372036854775807 ∧ intsB .u8 os = true ∧ intsB .u8 bs = true ∧ okF os of = true ∧ okF bs bf = true := by
  obtain ⟨zs, rfl, hq⟩ := aggArg h hT ha
  obtain ⟨_, _, rfl, ⟨t, rfl, _⟩, _, _, rfl, ⟨i, rfl, _⟩, _, _, rfl, ⟨df, rfl⟩, _, _, rfl, ⟨mf, rfl⟩, _, _, rfl, ⟨off, rfl, ho⟩, _, _, rfl, ⟨l, rfl, _⟩, _, _, rfl, ⟨q, rfl, _⟩, _, _, rfl, hs, _, _, rfl, hd, _, _, rfl, hos, _, _, rfl, hbs, rfl⟩ := hq
  obtain ⟨s0, s1, s2, s3, rfl⟩ := v4a_of hs
  obtain ⟨d0, d1, d2, d3, rfl⟩ := v4a_of hd
  obtain ⟨os, of, rfl, h1, h2⟩ := bytesT_of hos
  obtain ⟨bs, bf, rfl, h3, h4⟩ := bytesT_of hbs
  have ho := rng_i64 ho
  exact ⟨t, i, df, mf, off, l, q, s0, s1, s2, s3, d0, d1, d2, d3, os, of, bs, bf, rfl, ho.1, ho.2, h2, h4, h1, h3⟩

end Go.Pl
