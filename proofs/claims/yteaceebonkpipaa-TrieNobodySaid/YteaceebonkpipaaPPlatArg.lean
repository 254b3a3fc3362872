/- Arguments of chapter 21's laws. -/
import Derived.Test.YteaceebonkpipaaPBits
import Derived.Test.YteaceebonkpipaaA20
namespace Go.Pl
open Go.Abs

theorem seq_u8 : ∀ (n : Nat) {xs : List AV}, seqP (List.replicate n (intT .u8)) xs → ∃ ys : List Int, ys.length = n ∧ (∀ y ∈ ys, 0 ≤ y ∧ y ≤ 255) ∧ xs = ys.map (AV.int .u8)
  | 0, xs, h => ⟨[], rfl, fun y hy => (by cases hy), h⟩
  | n + 1, xs, h => by
    obtain ⟨a, b, rfl, ⟨c, rfl, hc⟩, hb⟩ := h
    obtain ⟨ys, h1, h2, rfl⟩ := seq_u8 n hb
    refine ⟨c :: ys, by simp [h1], fun y hy => ?_, rfl⟩
    rcases List.mem_cons.1 hy with rfl | hy
    · exact rng_u8 hc
    · exact h2 y hy
theorem u8_fun {n : Nat} {xs : List AV} (h : seqP (List.replicate n (intT .u8)) xs) : ∃ x : Nat → Int, (∀ i, 0 ≤ x i ∧ x i ≤ 255) ∧ xs = (List.range n).map fun i => AV.int .u8 (x i) := by
  obtain ⟨ys, h1, h2, rfl⟩ := seq_u8 n h
  refine ⟨fun i => ys.getD i 0, fun i => ?_, ?_⟩
  · show 0 ≤ ys.getD i 0 ∧ ys.getD i 0 ≤ 255
    rw [List.getD_eq_getElem?_getD]
    cases hy : ys[i]? with
    | none => exact ⟨by simp, by simp⟩
    | some y => exact h2 y (List.mem_of_getElem? hy)
  · apply List.ext_getElem?
    intro i
    rcases Nat.lt_or_ge i n with hi | hi
    · rw [List.getElem?_map, List.getElem?_map, List.getElem?_range hi, List.getElem?_eq_getElem (by omega)]
      show some _ = some (AV.int .u8 (ys.getD i 0))
      rw [List.getD_eq_getElem?_getD, List.getElem?_eq_getElem (by omega)]; rfl
    · rw [List.getElem?_eq_none (by simp; omega), List.getElem?_eq_none (by simp; omega)]

def f6T (xs : List AV) : Prop := seqP [intT .u8, seqP (List.replicate 16 (intT .u8)), intT .u16, seqP (List.replicate 4 (intT .u8)), intT .u16] xs -- Nx
def f4T (xs : List AV) : Prop := seqP [intT .u8, seqP (List.replicate 4 (intT .u8)), intT .u16, seqP (List.replicate 4 (intT .u8)), intT .u16] xs -- Nx
theorem f6_of {xs : List AV} (h : f6T xs) : ∃ (p : Int) (x : Nat → Int) (s : Int) (y : Nat → Int) (d : Int), (0 ≤ p ∧ p ≤ 255) ∧ (∀ i, 0 ≤ x i ∧ x i ≤ 255) ∧ (0 ≤ s ∧ s ≤ 65535) ∧ (∀ i, 0 ≤ y i ∧ y i ≤ 255) ∧ (0 ≤ d ∧ d ≤ 65535) ∧
    xs = [.int .u8 p, .int .u8 (x 0), .int .u8 (x 1), .int .u8 (x 2), .int .u8 (x 3), .int .u8 (x 4), .int .u8 (x 5), .int .u8 (x 6), .int .u8 (x 7), .int .u8 (x 8), .int .u8 (x 9), .int .u8 (x 10), .int .u8 (x 11), .int .u8 (x 12), .int .u8 (x 13), .int .u8 (x 14), .int .u8 (x 15), .int .u16 s, .int .u8 (y 0), .int .u8 (y 1), .int .u8 (y 2), .int .u8 (y 3), .int .u16 d] := by
  obtain ⟨_, _, rfl, ⟨p, rfl, hp⟩, _, _, rfl, hx, _, _, rfl, ⟨s, rfl, hs⟩, _, _, rfl, hy, _, _, rfl, ⟨d, rfl, hd⟩, rfl⟩ := h
  obtain ⟨x, qx, rfl⟩ := u8_fun hx
  obtain ⟨y, qy, rfl⟩ := u8_fun hy
  exact ⟨p, x, s, y, d, rng_u8 hp, qx, rng_u16 hs, qy, rng_u16 hd, rfl⟩
theorem f4_of {xs : List AV} (h : f4T xs) : ∃ (p : Int) (x : Nat → Int) (s : Int) (y : Nat → Int) (d : Int), (0 ≤ p ∧ p ≤ 255) ∧ (∀ i, 0 ≤ x i ∧ x i ≤ 255) ∧ (0 ≤ s ∧ s ≤ 65535) ∧ (∀ i, 0 ≤ y i ∧ y i ≤ 255) ∧ (0 ≤ d ∧ d ≤ 65535) ∧
    xs = [.int .u8 p, .int .u8 (x 0), .int .u8 (x 1), .int .u8 (x 2), .int .u8 (x 3), .int .u16 s, .int .u8 (y 0), .int .u8 (y 1), .int .u8 (y 2), .int .u8 (y 3), .int .u16 d] := by
  obtain ⟨_, _, rfl, ⟨p, rfl, hp⟩, _, _, rfl, hx, _, _, rfl, ⟨s, rfl, hs⟩, _, _, rfl, hy, _, _, rfl, ⟨d, rfl, hd⟩, rfl⟩ := h
  obtain ⟨x, qx, rfl⟩ := u8_fun hx
  obtain ⟨y, qy, rfl⟩ := u8_fun hy
  exact ⟨p, x, s, y, d, rng_u8 hp, qx, rng_u16 hs, qy, rng_u16 hd, rfl⟩

end Go.Pl
