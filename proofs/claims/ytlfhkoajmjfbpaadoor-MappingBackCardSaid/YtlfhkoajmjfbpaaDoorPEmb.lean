/- What is laid into a prefix is found there again, and the other way round. -/
import Derived.Test.YtlfhkoajmjfbpaaDoorPAddr
namespace Go.Pl
open Go Go.Abs Go.RowKit

theorem getD_at {v : Nat → Int} {l : List Int} (h : v = fun k => l.getD k 0) (k : Nat) : v k = l.getD k 0 := by rw [h]
theorem same_at {xs ys : List AV} (hx : intsB .u8 xs = true) (hy : intsB .u8 ys = true) {m k : Nat} (h : sameB xs ys m = true) (hk : 8 * (k + 1) ≤ m) (h1 : k < xs.length) (h2 : k < ys.length) : xs.getD k .junk = ys.getD k .junk := by
  by_cases e : xs.getD k .junk = ys.getD k .junk
  · exact e
  · obtain ⟨t, ht, hne⟩ := byte_differs hx hy h1 h2 e
    exact absurd (sameB_iff.1 h (8 * k + t) (by omega)) hne
theorem bitV_at {xs ys : List AV} {j : Nat} (h : xs.getD (j / 8) .junk = ys.getD (j / 8) .junk) : bitV xs j = bitV ys j := by unfold bitV; rw [h]
theorem b8_list {l : List Int} (h : ∀ v ∈ l, 0 ≤ v ∧ v ≤ 255) : b8 (fun k => l.getD k 0) := by
  intro k
  show 0 ≤ l.getD k 0 ∧ l.getD k 0 ≤ 255
  by_cases hk : k < l.length
  · rw [List.getD_eq_getElem?_getD, List.getElem?_eq_getElem hk]
    exact h _ (List.getElem_mem hk)
  · rw [List.getD_eq_getElem?_getD, List.getElem?_eq_none (by omega)]
    exact ⟨by show (0 : Int) ≤ 0; omega, by show (0 : Int) ≤ 255; omega⟩
theorem embE_zero {xs : List AV} {n : Int} (h : embE xs n = 0) : chkE 128 xs n = 0 ∧ (n = 32 ∨ n = 40 ∨ n = 48 ∨ n = 56 ∨ n = 64 ∨ n = 96) ∧ lowB xs n.toNat = true ∧ byteAt xs 8 = 0 := by
  rcases embE_or xs n with ⟨_, h2, h3, h4⟩ | h1 | h1 | h1
  · refine ⟨?_, h2, h3, h4⟩
    rcases chkE_or 128 xs n with ⟨h5, _⟩ | h5
    · exact h5
    · unfold embE at h
      rw [h5] at h
      cases h
  · rw [h1] at h; cases h
  · rw [h1] at h; cases h
  · rw [h1] at h; cases h

theorem fwd_32 {x z : Nat → Int} (hx : b8 x) (hz : b8 z) (h : embE [.int .u8 (x 0), .int .u8 (x 1), .int .u8 (x 2), .int .u8 (x 3), .int .u8 (x 4), .int .u8 (x 5), .int .u8 (x 6), .int .u8 (x 7), .int .u8 (x 8), .int .u8 (x 9), .int .u8 (x 10), .int .u8 (x 11), .int .u8 (x 12), .int .u8 (x 13), .int .u8 (x 14), .int .u8 (x 15)] 32 = 0) : getEr 32 [.int .u8 (x 0), .int .u8 (x 1), .int .u8 (x 2), .int .u8 (x 3), .int .u8 (x 4), .int .u8 (x 5), .int .u8 (x 6), .int .u8 (x 7), .int .u8 (x 8), .int .u8 (x 9), .int .u8 (x 10), .int .u8 (x 11), .int .u8 (x 12), .int .u8 (x 13), .int .u8 (x 14), .int .u8 (x 15)] (layX 32 [.int .u8 (z 0), .int .u8 (z 1), .int .u8 (z 2), .int .u8 (z 3)] [.int .u8 (x 0), .int .u8 (x 1), .int .u8 (x 2), .int .u8 (x 3), .int .u8 (x 4), .int .u8 (x 5), .int .u8 (x 6), .int .u8 (x 7), .int .u8 (x 8), .int .u8 (x 9), .int .u8 (x 10), .int .u8 (x 11), .int .u8 (x 12), .int .u8 (x 13), .int .u8 (x 14), .int .u8 (x 15)]) = 0 ∧ strE 32 [.int .u8 (x 0), .int .u8 (x 1), .int .u8 (x 2), .int .u8 (x 3), .int .u8 (x 4), .int .u8 (x 5), .int .u8 (x 6), .int .u8 (x 7), .int .u8 (x 8), .int .u8 (x 9), .int .u8 (x 10), .int .u8 (x 11), .int .u8 (x 12), .int .u8 (x 13), .int .u8 (x 14), .int .u8 (x 15)] (layX 32 [.int .u8 (z 0), .int .u8 (z 1), .int .u8 (z 2), .int .u8 (z 3)] [.int .u8 (x 0), .int .u8 (x 1), .int .u8 (x 2), .int .u8 (x 3), .int .u8 (x 4), .int .u8 (x 5), .int .u8 (x 6), .int .u8 (x 7), .int .u8 (x 8), .int .u8 (x 9), .int .u8 (x 10), .int .u8 (x 11), .int .u8 (x 12), .int .u8 (x 13), .int .u8 (x 14), .int .u8 (x 15)]) = 0 ∧ takX 32 (layX 32 [.int .u8 (z 0), .int .u8 (z 1), .int .u8 (z 2), .int .u8 (z 3)] [.int .u8 (x 0), .int .u8 (x 1), .int .u8 (x 2), .int .u8 (x 3), .int .u8 (x 4), .int .u8 (x 5), .int .u8 (x 6), .int .u8 (x 7), .int .u8 (x 8), .int .u8 (x 9), .int .u8 (x 10), .int .u8 (x 11), .int .u8 (x 12), .int .u8 (x 13), .int .u8 (x 14), .int .u8 (x 15)]) z4 = [.int .u8 (z 0), .int .u8 (z 1), .int .u8 (z 2), .int .u8 (z 3)] := by
  obtain ⟨hc, _, h3, h8⟩ := embE_zero h
  have h3 : lowB [.int .u8 (x 0), .int .u8 (x 1), .int .u8 (x 2), .int .u8 (x 3), .int .u8 (x 4), .int .u8 (x 5), .int .u8 (x 6), .int .u8 (x 7), .int .u8 (x 8), .int .u8 (x 9), .int .u8 (x 10), .int .u8 (x 11), .int .u8 (x 12), .int .u8 (x 13), .int .u8 (x 14), .int .u8 (x 15)] 32 = true := h3
  rw [lay_32 hx hz h3]
  have ht : takX 32 [.int .u8 (x 0), .int .u8 (x 1), .int .u8 (x 2), .int .u8 (x 3), .int .u8 (z 0), .int .u8 (z 1), .int .u8 (z 2), .int .u8 (z 3), .int .u8 (x 8), .int .u8 (x 9), .int .u8 (x 10), .int .u8 (x 11), .int .u8 (x 12), .int .u8 (x 13), .int .u8 (x 14), .int .u8 (x 15)] z4 = [.int .u8 (z 0), .int .u8 (z 1), .int .u8 (z 2), .int .u8 (z 3)] := tak_32 (x := fun k => ([x 0, x 1, x 2, x 3, z 0, z 1, z 2, z 3, x 8, x 9, x 10, x 11, x 12, x 13, x 14, x 15] : List Int).getD k 0) (b8_list (by
    intro v hv
    simp only [List.mem_cons, List.not_mem_nil, or_false] at hv
    rcases hv with rfl | rfl | rfl | rfl | rfl | rfl | rfl | rfl | rfl | rfl | rfl | rfl | rfl | rfl | rfl | rfl
    · exact hx 0
    · exact hx 1
    · exact hx 2
    · exact hx 3
    · exact hz 0
    · exact hz 1
    · exact hz 2
    · exact hz 3
    · exact hx 8
    · exact hx 9
    · exact hx 10
    · exact hx 11
    · exact hx 12
    · exact hx 13
    · exact hx 14
    · exact hx 15))
  have hs : sameB [.int .u8 (x 0), .int .u8 (x 1), .int .u8 (x 2), .int .u8 (x 3), .int .u8 (x 4), .int .u8 (x 5), .int .u8 (x 6), .int .u8 (x 7), .int .u8 (x 8), .int .u8 (x 9), .int .u8 (x 10), .int .u8 (x 11), .int .u8 (x 12), .int .u8 (x 13), .int .u8 (x 14), .int .u8 (x 15)] [.int .u8 (x 0), .int .u8 (x 1), .int .u8 (x 2), .int .u8 (x 3), .int .u8 (z 0), .int .u8 (z 1), .int .u8 (z 2), .int .u8 (z 3), .int .u8 (x 8), .int .u8 (x 9), .int .u8 (x 10), .int .u8 (x 11), .int .u8 (x 12), .int .u8 (x 13), .int .u8 (x 14), .int .u8 (x 15)] 32 = true := sameB_iff.2 fun j hj => bitV_at (by
    have hq : j / 8 < 4 := by omega
    generalize j / 8 = q at hq
    match q, hq with
    | 0, _ => rfl
    | 1, _ => rfl
    | 2, _ => rfl
    | 3, _ => rfl
    | q + 4, hq => exact absurd hq (by omega))
  have hl : lowB [.int .u8 (x 0), .int .u8 (x 1), .int .u8 (x 2), .int .u8 (x 3), .int .u8 (z 0), .int .u8 (z 1), .int .u8 (z 2), .int .u8 (z 3), .int .u8 (x 8), .int .u8 (x 9), .int .u8 (x 10), .int .u8 (x 11), .int .u8 (x 12), .int .u8 (x 13), .int .u8 (x 14), .int .u8 (x 15)] 64 = true := lowB_iff.2 fun j h1 h2 => (bitV_at (by
    have h2 : j < 128 := h2
    have hq : j / 8 < 16 := by omega
    have hq2 : 8 ≤ j / 8 := by omega
    generalize j / 8 = q at hq hq2
    match q, hq, hq2 with
    | 8, _, _ => rfl
    | 9, _, _ => rfl
    | 10, _, _ => rfl
    | 11, _, _ => rfl
    | 12, _, _ => rfl
    | 13, _, _ => rfl
    | 14, _, _ => rfl
    | 15, _, _ => rfl
    | q + 16, hq, _ => exact absurd hq (by omega)
    | 0, _, hq2 => exact absurd hq2 (by omega)
    | 1, _, hq2 => exact absurd hq2 (by omega)
    | 2, _, hq2 => exact absurd hq2 (by omega)
    | 3, _, hq2 => exact absurd hq2 (by omega)
    | 4, _, hq2 => exact absurd hq2 (by omega)
    | 5, _, hq2 => exact absurd hq2 (by omega)
    | 6, _, hq2 => exact absurd hq2 (by omega)
    | 7, _, hq2 => exact absurd hq2 (by omega))).trans (lowB_iff.1 h3 j (by omega) h2)
  have h8' : byteAt [.int .u8 (x 0), .int .u8 (x 1), .int .u8 (x 2), .int .u8 (x 3), .int .u8 (z 0), .int .u8 (z 1), .int .u8 (z 2), .int .u8 (z 3), .int .u8 (x 8), .int .u8 (x 9), .int .u8 (x 10), .int .u8 (x 11), .int .u8 (x 12), .int .u8 (x 13), .int .u8 (x 14), .int .u8 (x 15)] 8 = 0 := h8
  have hg : getEr 32 [.int .u8 (x 0), .int .u8 (x 1), .int .u8 (x 2), .int .u8 (x 3), .int .u8 (x 4), .int .u8 (x 5), .int .u8 (x 6), .int .u8 (x 7), .int .u8 (x 8), .int .u8 (x 9), .int .u8 (x 10), .int .u8 (x 11), .int .u8 (x 12), .int .u8 (x 13), .int .u8 (x 14), .int .u8 (x 15)] [.int .u8 (x 0), .int .u8 (x 1), .int .u8 (x 2), .int .u8 (x 3), .int .u8 (z 0), .int .u8 (z 1), .int .u8 (z 2), .int .u8 (z 3), .int .u8 (x 8), .int .u8 (x 9), .int .u8 (x 10), .int .u8 (x 11), .int .u8 (x 12), .int .u8 (x 13), .int .u8 (x 14), .int .u8 (x 15)] = 0 := by
    unfold getEr
    have hi : inB 128 [.int .u8 (x 0), .int .u8 (x 1), .int .u8 (x 2), .int .u8 (x 3), .int .u8 (x 4), .int .u8 (x 5), .int .u8 (x 6), .int .u8 (x 7), .int .u8 (x 8), .int .u8 (x 9), .int .u8 (x 10), .int .u8 (x 11), .int .u8 (x 12), .int .u8 (x 13), .int .u8 (x 14), .int .u8 (x 15)] [.int .u8 (x 0), .int .u8 (x 1), .int .u8 (x 2), .int .u8 (x 3), .int .u8 (z 0), .int .u8 (z 1), .int .u8 (z 2), .int .u8 (z 3), .int .u8 (x 8), .int .u8 (x 9), .int .u8 (x 10), .int .u8 (x 11), .int .u8 (x 12), .int .u8 (x 13), .int .u8 (x 14), .int .u8 (x 15)] 32 = true := by
      unfold inB
      rw [hc]
      exact hs
    rw [h, hi, h8']; rfl
  refine ⟨hg, ?_, ht⟩
  unfold strE
  rw [hg, show placeN 32 31 + 1 = 64 from rfl, hl]; rfl

theorem bwd_32 {x y : Nat → Int} (hx : b8 x) (hy : b8 y) (h : strE 32 [.int .u8 (x 0), .int .u8 (x 1), .int .u8 (x 2), .int .u8 (x 3), .int .u8 (x 4), .int .u8 (x 5), .int .u8 (x 6), .int .u8 (x 7), .int .u8 (x 8), .int .u8 (x 9), .int .u8 (x 10), .int .u8 (x 11), .int .u8 (x 12), .int .u8 (x 13), .int .u8 (x 14), .int .u8 (x 15)] [.int .u8 (y 0), .int .u8 (y 1), .int .u8 (y 2), .int .u8 (y 3), .int .u8 (y 4), .int .u8 (y 5), .int .u8 (y 6), .int .u8 (y 7), .int .u8 (y 8), .int .u8 (y 9), .int .u8 (y 10), .int .u8 (y 11), .int .u8 (y 12), .int .u8 (y 13), .int .u8 (y 14), .int .u8 (y 15)] = 0) : layX 32 (takX 32 [.int .u8 (y 0), .int .u8 (y 1), .int .u8 (y 2), .int .u8 (y 3), .int .u8 (y 4), .int .u8 (y 5), .int .u8 (y 6), .int .u8 (y 7), .int .u8 (y 8), .int .u8 (y 9), .int .u8 (y 10), .int .u8 (y 11), .int .u8 (y 12), .int .u8 (y 13), .int .u8 (y 14), .int .u8 (y 15)] z4) [.int .u8 (x 0), .int .u8 (x 1), .int .u8 (x 2), .int .u8 (x 3), .int .u8 (x 4), .int .u8 (x 5), .int .u8 (x 6), .int .u8 (x 7), .int .u8 (x 8), .int .u8 (x 9), .int .u8 (x 10), .int .u8 (x 11), .int .u8 (x 12), .int .u8 (x 13), .int .u8 (x 14), .int .u8 (x 15)] = [.int .u8 (y 0), .int .u8 (y 1), .int .u8 (y 2), .int .u8 (y 3), .int .u8 (y 4), .int .u8 (y 5), .int .u8 (y 6), .int .u8 (y 7), .int .u8 (y 8), .int .u8 (y 9), .int .u8 (y 10), .int .u8 (y 11), .int .u8 (y 12), .int .u8 (y 13), .int .u8 (y 14), .int .u8 (y 15)] := by
  rcases strE_or 32 [.int .u8 (x 0), .int .u8 (x 1), .int .u8 (x 2), .int .u8 (x 3), .int .u8 (x 4), .int .u8 (x 5), .int .u8 (x 6), .int .u8 (x 7), .int .u8 (x 8), .int .u8 (x 9), .int .u8 (x 10), .int .u8 (x 11), .int .u8 (x 12), .int .u8 (x 13), .int .u8 (x 14), .int .u8 (x 15)] [.int .u8 (y 0), .int .u8 (y 1), .int .u8 (y 2), .int .u8 (y 3), .int .u8 (y 4), .int .u8 (y 5), .int .u8 (y 6), .int .u8 (y 7), .int .u8 (y 8), .int .u8 (y 9), .int .u8 (y 10), .int .u8 (y 11), .int .u8 (y 12), .int .u8 (y 13), .int .u8 (y 14), .int .u8 (y 15)] with ⟨_, hg, hl⟩ | h1 | ⟨h1, h2⟩
  rotate_left
  · rw [h1] at h; cases h
  · exact absurd (h1.symm.trans h) h2
  rcases getEr_or 32 [.int .u8 (x 0), .int .u8 (x 1), .int .u8 (x 2), .int .u8 (x 3), .int .u8 (x 4), .int .u8 (x 5), .int .u8 (x 6), .int .u8 (x 7), .int .u8 (x 8), .int .u8 (x 9), .int .u8 (x 10), .int .u8 (x 11), .int .u8 (x 12), .int .u8 (x 13), .int .u8 (x 14), .int .u8 (x 15)] [.int .u8 (y 0), .int .u8 (y 1), .int .u8 (y 2), .int .u8 (y 3), .int .u8 (y 4), .int .u8 (y 5), .int .u8 (y 6), .int .u8 (y 7), .int .u8 (y 8), .int .u8 (y 9), .int .u8 (y 10), .int .u8 (y 11), .int .u8 (y 12), .int .u8 (y 13), .int .u8 (y 14), .int .u8 (y 15)] with ⟨_, he, hi, h8y⟩ | h1 | h1 | h1 | h1
  rotate_left
  · rw [h1] at hg; cases hg
  · rw [h1] at hg; cases hg
  · rw [h1] at hg; cases hg
  · rw [h1] at hg; cases hg
  obtain ⟨hc, _, h3, h8⟩ := embE_zero he
  have h3 : lowB [.int .u8 (x 0), .int .u8 (x 1), .int .u8 (x 2), .int .u8 (x 3), .int .u8 (x 4), .int .u8 (x 5), .int .u8 (x 6), .int .u8 (x 7), .int .u8 (x 8), .int .u8 (x 9), .int .u8 (x 10), .int .u8 (x 11), .int .u8 (x 12), .int .u8 (x 13), .int .u8 (x 14), .int .u8 (x 15)] 32 = true := h3
  have hl : lowB [.int .u8 (y 0), .int .u8 (y 1), .int .u8 (y 2), .int .u8 (y 3), .int .u8 (y 4), .int .u8 (y 5), .int .u8 (y 6), .int .u8 (y 7), .int .u8 (y 8), .int .u8 (y 9), .int .u8 (y 10), .int .u8 (y 11), .int .u8 (y 12), .int .u8 (y 13), .int .u8 (y 14), .int .u8 (y 15)] 64 = true := hl
  have hs : sameB [.int .u8 (x 0), .int .u8 (x 1), .int .u8 (x 2), .int .u8 (x 3), .int .u8 (x 4), .int .u8 (x 5), .int .u8 (x 6), .int .u8 (x 7), .int .u8 (x 8), .int .u8 (x 9), .int .u8 (x 10), .int .u8 (x 11), .int .u8 (x 12), .int .u8 (x 13), .int .u8 (x 14), .int .u8 (x 15)] [.int .u8 (y 0), .int .u8 (y 1), .int .u8 (y 2), .int .u8 (y 3), .int .u8 (y 4), .int .u8 (y 5), .int .u8 (y 6), .int .u8 (y 7), .int .u8 (y 8), .int .u8 (y 9), .int .u8 (y 10), .int .u8 (y 11), .int .u8 (y 12), .int .u8 (y 13), .int .u8 (y 14), .int .u8 (y 15)] 32 = true := by
    unfold inB at hi
    rw [hc] at hi
    exact hi
  have q0 : x 0 = y 0 := (AV.int.inj (same_at (b8_16 hx) (b8_16 hy) hs (k := 0) (by decide) (show 0 < 16 by decide) (show 0 < 16 by decide))).2
  have q1 : x 1 = y 1 := (AV.int.inj (same_at (b8_16 hx) (b8_16 hy) hs (k := 1) (by decide) (show 1 < 16 by decide) (show 1 < 16 by decide))).2
  have q2 : x 2 = y 2 := (AV.int.inj (same_at (b8_16 hx) (b8_16 hy) hs (k := 2) (by decide) (show 2 < 16 by decide) (show 2 < 16 by decide))).2
  have q3 : x 3 = y 3 := (AV.int.inj (same_at (b8_16 hx) (b8_16 hy) hs (k := 3) (by decide) (show 3 < 16 by decide) (show 3 < 16 by decide))).2
  have q8 : x 8 = y 8 := (show x 8 = 0 from h8).trans (show y 8 = 0 from h8y).symm
  have q9 : x 9 = y 9 := (show x 9 = 0 from (AV.int.inj (low_byte (b8_16 hx) h3 (k := 9) (by decide) (show 9 < 16 by decide))).2).trans (show y 9 = 0 from (AV.int.inj (low_byte (b8_16 hy) hl (k := 9) (by decide) (show 9 < 16 by decide))).2).symm
  have q10 : x 10 = y 10 := (show x 10 = 0 from (AV.int.inj (low_byte (b8_16 hx) h3 (k := 10) (by decide) (show 10 < 16 by decide))).2).trans (show y 10 = 0 from (AV.int.inj (low_byte (b8_16 hy) hl (k := 10) (by decide) (show 10 < 16 by decide))).2).symm
  have q11 : x 11 = y 11 := (show x 11 = 0 from (AV.int.inj (low_byte (b8_16 hx) h3 (k := 11) (by decide) (show 11 < 16 by decide))).2).trans (show y 11 = 0 from (AV.int.inj (low_byte (b8_16 hy) hl (k := 11) (by decide) (show 11 < 16 by decide))).2).symm
  have q12 : x 12 = y 12 := (show x 12 = 0 from (AV.int.inj (low_byte (b8_16 hx) h3 (k := 12) (by decide) (show 12 < 16 by decide))).2).trans (show y 12 = 0 from (AV.int.inj (low_byte (b8_16 hy) hl (k := 12) (by decide) (show 12 < 16 by decide))).2).symm
  have q13 : x 13 = y 13 := (show x 13 = 0 from (AV.int.inj (low_byte (b8_16 hx) h3 (k := 13) (by decide) (show 13 < 16 by decide))).2).trans (show y 13 = 0 from (AV.int.inj (low_byte (b8_16 hy) hl (k := 13) (by decide) (show 13 < 16 by decide))).2).symm
  have q14 : x 14 = y 14 := (show x 14 = 0 from (AV.int.inj (low_byte (b8_16 hx) h3 (k := 14) (by decide) (show 14 < 16 by decide))).2).trans (show y 14 = 0 from (AV.int.inj (low_byte (b8_16 hy) hl (k := 14) (by decide) (show 14 < 16 by decide))).2).symm
  have q15 : x 15 = y 15 := (show x 15 = 0 from (AV.int.inj (low_byte (b8_16 hx) h3 (k := 15) (by decide) (show 15 < 16 by decide))).2).trans (show y 15 = 0 from (AV.int.inj (low_byte (b8_16 hy) hl (k := 15) (by decide) (show 15 < 16 by decide))).2).symm
  have e1 : takX 32 [.int .u8 (y 0), .int .u8 (y 1), .int .u8 (y 2), .int .u8 (y 3), .int .u8 (y 4), .int .u8 (y 5), .int .u8 (y 6), .int .u8 (y 7), .int .u8 (y 8), .int .u8 (y 9), .int .u8 (y 10), .int .u8 (y 11), .int .u8 (y 12), .int .u8 (y 13), .int .u8 (y 14), .int .u8 (y 15)] z4 = [.int .u8 (y 4), .int .u8 (y 5), .int .u8 (y 6), .int .u8 (y 7)] := tak_32 hy
  rw [e1]
  have e2 : layX 32 [.int .u8 (y 4), .int .u8 (y 5), .int .u8 (y 6), .int .u8 (y 7)] [.int .u8 (x 0), .int .u8 (x 1), .int .u8 (x 2), .int .u8 (x 3), .int .u8 (x 4), .int .u8 (x 5), .int .u8 (x 6), .int .u8 (x 7), .int .u8 (x 8), .int .u8 (x 9), .int .u8 (x 10), .int .u8 (x 11), .int .u8 (x 12), .int .u8 (x 13), .int .u8 (x 14), .int .u8 (x 15)] = [.int .u8 (x 0), .int .u8 (x 1), .int .u8 (x 2), .int .u8 (x 3), .int .u8 (y 4), .int .u8 (y 5), .int .u8 (y 6), .int .u8 (y 7), .int .u8 (x 8), .int .u8 (x 9), .int .u8 (x 10), .int .u8 (x 11), .int .u8 (x 12), .int .u8 (x 13), .int .u8 (x 14), .int .u8 (x 15)] := lay_32 (z := fun k => ([y 4, y 5, y 6, y 7] : List Int).getD k 0) hx (b8_list (by
    intro v hv
    simp only [List.mem_cons, List.not_mem_nil, or_false] at hv
    rcases hv with rfl | rfl | rfl | rfl
    · exact hy 4
    · exact hy 5
    · exact hy 6
    · exact hy 7)) h3
  rw [e2]
  simp only [q0, q1, q2, q3, q8, q9, q10, q11, q12, q13, q14, q15]

theorem fwd_40 {x z : Nat → Int} (hx : b8 x) (hz : b8 z) (h : embE [.int .u8 (x 0), .int .u8 (x 1), .int .u8 (x 2), .int .u8 (x 3), .int .u8 (x 4), .int .u8 (x 5), .int .u8 (x 6), .int .u8 (x 7), .int .u8 (x 8), .int .u8 (x 9), .int .u8 (x 10), .int .u8 (x 11), .int .u8 (x 12), .int .u8 (x 13), .int .u8 (x 14), .int .u8 (x 15)] 40 = 0) : getEr 40 [.int .u8 (x 0), .int .u8 (x 1), .int .u8 (x 2), .int .u8 (x 3), .int .u8 (x 4), .int .u8 (x 5), .int .u8 (x 6), .int .u8 (x 7), .int .u8 (x 8), .int .u8 (x 9), .int .u8 (x 10), .int .u8 (x 11), .int .u8 (x 12), .int .u8 (x 13), .int .u8 (x 14), .int .u8 (x 15)] (layX 40 [.int .u8 (z 0), .int .u8 (z 1), .int .u8 (z 2), .int .u8 (z 3)] [.int .u8 (x 0), .int .u8 (x 1), .int .u8 (x 2), .int .u8 (x 3), .int .u8 (x 4), .int .u8 (x 5), .int .u8 (x 6), .int .u8 (x 7), .int .u8 (x 8), .int .u8 (x 9), .int .u8 (x 10), .int .u8 (x 11), .int .u8 (x 12), .int .u8 (x 13), .int .u8 (x 14), .int .u8 (x 15)]) = 0 ∧ strE 40 [.int .u8 (x 0), .int .u8 (x 1), .int .u8 (x 2), .int .u8 (x 3), .int .u8 (x 4), .int .u8 (x 5), .int .u8 (x 6), .int .u8 (x 7), .int .u8 (x 8), .int .u8 (x 9), .int .u8 (x 10), .int .u8 (x 11), .int .u8 (x 12), .int .u8 (x 13), .int .u8 (x 14), .int .u8 (x 15)] (layX 40 [.int .u8 (z 0), .int .u8 (z 1), .int .u8 (z 2), .int .u8 (z 3)] [.int .u8 (x 0), .int .u8 (x 1), .int .u8 (x 2), .int .u8 (x 3), .int .u8 (x 4), .int .u8 (x 5), .int .u8 (x 6), .int .u8 (x 7), .int .u8 (x 8), .int .u8 (x 9), .int .u8 (x 10), .int .u8 (x 11), .int .u8 (x 12), .int .u8 (x 13), .int .u8 (x 14), .int .u8 (x 15)]) = 0 ∧ takX 40 (layX 40 [.int .u8 (z 0), .int .u8 (z 1), .int .u8 (z 2), .int .u8 (z 3)] [.int .u8 (x 0), .int .u8 (x 1), .int .u8 (x 2), .int .u8 (x 3), .int .u8 (x 4), .int .u8 (x 5), .int .u8 (x 6), .int .u8 (x 7), .int .u8 (x 8), .int .u8 (x 9), .int .u8 (x 10), .int .u8 (x 11), .int .u8 (x 12), .int .u8 (x 13), .int .u8 (x 14), .int .u8 (x 15)]) z4 = [.int .u8 (z 0), .int .u8 (z 1), .int .u8 (z 2), .int .u8 (z 3)] := by
  obtain ⟨hc, _, h3, h8⟩ := embE_zero h
  have h3 : lowB [.int .u8 (x 0), .int .u8 (x 1), .int .u8 (x 2), .int .u8 (x 3), .int .u8 (x 4), .int .u8 (x 5), .int .u8 (x 6), .int .u8 (x 7), .int .u8 (x 8), .int .u8 (x 9), .int .u8 (x 10), .int .u8 (x 11), .int .u8 (x 12), .int .u8 (x 13), .int .u8 (x 14), .int .u8 (x 15)] 40 = true := h3
  rw [lay_40 hx hz h3]
  have ht : takX 40 [.int .u8 (x 0), .int .u8 (x 1), .int .u8 (x 2), .int .u8 (x 3), .int .u8 (x 4), .int .u8 (z 0), .int .u8 (z 1), .int .u8 (z 2), .int .u8 (x 8), .int .u8 (z 3), .int .u8 (x 10), .int .u8 (x 11), .int .u8 (x 12), .int .u8 (x 13), .int .u8 (x 14), .int .u8 (x 15)] z4 = [.int .u8 (z 0), .int .u8 (z 1), .int .u8 (z 2), .int .u8 (z 3)] := tak_40 (x := fun k => ([x 0, x 1, x 2, x 3, x 4, z 0, z 1, z 2, x 8, z 3, x 10, x 11, x 12, x 13, x 14, x 15] : List Int).getD k 0) (b8_list (by
    intro v hv
    simp only [List.mem_cons, List.not_mem_nil, or_false] at hv
    rcases hv with rfl | rfl | rfl | rfl | rfl | rfl | rfl | rfl | rfl | rfl | rfl | rfl | rfl | rfl | rfl | rfl
    · exact hx 0
    · exact hx 1
    · exact hx 2
    · exact hx 3
    · exact hx 4
    · exact hz 0
    · exact hz 1
    · exact hz 2
    · exact hx 8
    · exact hz 3
    · exact hx 10
    · exact hx 11
    · exact hx 12
    · exact hx 13
    · exact hx 14
    · exact hx 15))
  have hs : sameB [.int .u8 (x 0), .int .u8 (x 1), .int .u8 (x 2), .int .u8 (x 3), .int .u8 (x 4), .int .u8 (x 5), .int .u8 (x 6), .int .u8 (x 7), .int .u8 (x 8), .int .u8 (x 9), .int .u8 (x 10), .int .u8 (x 11), .int .u8 (x 12), .int .u8 (x 13), .int .u8 (x 14), .int .u8 (x 15)] [.int .u8 (x 0), .int .u8 (x 1), .int .u8 (x 2), .int .u8 (x 3), .int .u8 (x 4), .int .u8 (z 0), .int .u8 (z 1), .int .u8 (z 2), .int .u8 (x 8), .int .u8 (z 3), .int .u8 (x 10), .int .u8 (x 11), .int .u8 (x 12), .int .u8 (x 13), .int .u8 (x 14), .int .u8 (x 15)] 40 = true := sameB_iff.2 fun j hj => bitV_at (by
    have hq : j / 8 < 5 := by omega
    generalize j / 8 = q at hq
    match q, hq with
    | 0, _ => rfl
    | 1, _ => rfl
    | 2, _ => rfl
    | 3, _ => rfl
    | 4, _ => rfl
    | q + 5, hq => exact absurd hq (by omega))
  have hl : lowB [.int .u8 (x 0), .int .u8 (x 1), .int .u8 (x 2), .int .u8 (x 3), .int .u8 (x 4), .int .u8 (z 0), .int .u8 (z 1), .int .u8 (z 2), .int .u8 (x 8), .int .u8 (z 3), .int .u8 (x 10), .int .u8 (x 11), .int .u8 (x 12), .int .u8 (x 13), .int .u8 (x 14), .int .u8 (x 15)] 80 = true := lowB_iff.2 fun j h1 h2 => (bitV_at (by
    have h2 : j < 128 := h2
    have hq : j / 8 < 16 := by omega
    have hq2 : 10 ≤ j / 8 := by omega
    generalize j / 8 = q at hq hq2
    match q, hq, hq2 with
    | 10, _, _ => rfl
    | 11, _, _ => rfl
    | 12, _, _ => rfl
    | 13, _, _ => rfl
    | 14, _, _ => rfl
    | 15, _, _ => rfl
    | q + 16, hq, _ => exact absurd hq (by omega)
    | 0, _, hq2 => exact absurd hq2 (by omega)
    | 1, _, hq2 => exact absurd hq2 (by omega)
    | 2, _, hq2 => exact absurd hq2 (by omega)
    | 3, _, hq2 => exact absurd hq2 (by omega)
    | 4, _, hq2 => exact absurd hq2 (by omega)
    | 5, _, hq2 => exact absurd hq2 (by omega)
    | 6, _, hq2 => exact absurd hq2 (by omega)
    | 7, _, hq2 => exact absurd hq2 (by omega)
    | 8, _, hq2 => exact absurd hq2 (by omega)
    | 9, _, hq2 => exact absurd hq2 (by omega))).trans (lowB_iff.1 h3 j (by omega) h2)
  have h8' : byteAt [.int .u8 (x 0), .int .u8 (x 1), .int .u8 (x 2), .int .u8 (x 3), .int .u8 (x 4), .int .u8 (z 0), .int .u8 (z 1), .int .u8 (z 2), .int .u8 (x 8), .int .u8 (z 3), .int .u8 (x 10), .int .u8 (x 11), .int .u8 (x 12), .int .u8 (x 13), .int .u8 (x 14), .int .u8 (x 15)] 8 = 0 := h8
  have hg : getEr 40 [.int .u8 (x 0), .int .u8 (x 1), .int .u8 (x 2), .int .u8 (x 3), .int .u8 (x 4), .int .u8 (x 5), .int .u8 (x 6), .int .u8 (x 7), .int .u8 (x 8), .int .u8 (x 9), .int .u8 (x 10), .int .u8 (x 11), .int .u8 (x 12), .int .u8 (x 13), .int .u8 (x 14), .int .u8 (x 15)] [.int .u8 (x 0), .int .u8 (x 1), .int .u8 (x 2), .int .u8 (x 3), .int .u8 (x 4), .int .u8 (z 0), .int .u8 (z 1), .int .u8 (z 2), .int .u8 (x 8), .int .u8 (z 3), .int .u8 (x 10), .int .u8 (x 11), .int .u8 (x 12), .int .u8 (x 13), .int .u8 (x 14), .int .u8 (x 15)] = 0 := by
    unfold getEr
    have hi : inB 128 [.int .u8 (x 0), .int .u8 (x 1), .int .u8 (x 2), .int .u8 (x 3), .int .u8 (x 4), .int .u8 (x 5), .int .u8 (x 6), .int .u8 (x 7), .int .u8 (x 8), .int .u8 (x 9), .int .u8 (x 10), .int .u8 (x 11), .int .u8 (x 12), .int .u8 (x 13), .int .u8 (x 14), .int .u8 (x 15)] [.int .u8 (x 0), .int .u8 (x 1), .int .u8 (x 2), .int .u8 (x 3), .int .u8 (x 4), .int .u8 (z 0), .int .u8 (z 1), .int .u8 (z 2), .int .u8 (x 8), .int .u8 (z 3), .int .u8 (x 10), .int .u8 (x 11), .int .u8 (x 12), .int .u8 (x 13), .int .u8 (x 14), .int .u8 (x 15)] 40 = true := by
      unfold inB
      rw [hc]
      exact hs
    rw [h, hi, h8']; rfl
  refine ⟨hg, ?_, ht⟩
  unfold strE
  rw [hg, show placeN 40 31 + 1 = 80 from rfl, hl]; rfl

theorem bwd_40 {x y : Nat → Int} (hx : b8 x) (hy : b8 y) (h : strE 40 [.int .u8 (x 0), .int .u8 (x 1), .int .u8 (x 2), .int .u8 (x 3), .int .u8 (x 4), .int .u8 (x 5), .int .u8 (x 6), .int .u8 (x 7), .int .u8 (x 8), .int .u8 (x 9), .int .u8 (x 10), .int .u8 (x 11), .int .u8 (x 12), .int .u8 (x 13), .int .u8 (x 14), .int .u8 (x 15)] [.int .u8 (y 0), .int .u8 (y 1), .int .u8 (y 2), .int .u8 (y 3), .int .u8 (y 4), .int .u8 (y 5), .int .u8 (y 6), .int .u8 (y 7), .int .u8 (y 8), .int .u8 (y 9), .int .u8 (y 10), .int .u8 (y 11), .int .u8 (y 12), .int .u8 (y 13), .int .u8 (y 14), .int .u8 (y 15)] = 0) : layX 40 (takX 40 [.int .u8 (y 0), .int .u8 (y 1), .int .u8 (y 2), .int .u8 (y 3), .int .u8 (y 4), .int .u8 (y 5), .int .u8 (y 6), .int .u8 (y 7), .int .u8 (y 8), .int .u8 (y 9), .int .u8 (y 10), .int .u8 (y 11), .int .u8 (y 12), .int .u8 (y 13), .int .u8 (y 14), .int .u8 (y 15)] z4) [.int .u8 (x 0), .int .u8 (x 1), .int .u8 (x 2), .int .u8 (x 3), .int .u8 (x 4), .int .u8 (x 5), .int .u8 (x 6), .int .u8 (x 7), .int .u8 (x 8), .int .u8 (x 9), .int .u8 (x 10), .int .u8 (x 11), .int .u8 (x 12), .int .u8 (x 13), .int .u8 (x 14), .int .u8 (x 15)] = [.int .u8 (y 0), .int .u8 (y 1), .int .u8 (y 2), .int .u8 (y 3), .int .u8 (y 4), .int .u8 (y 5), .int .u8 (y 6), .int .u8 (y 7), .int .u8 (y 8), .int .u8 (y 9), .int .u8 (y 10), .int .u8 (y 11), .int .u8 (y 12), .int .u8 (y 13), .int .u8 (y 14), .int .u8 (y 15)] := by
  rcases strE_or 40 [.int .u8 (x 0), .int .u8 (x 1), .int .u8 (x 2), .int .u8 (x 3), .int .u8 (x 4), .int .u8 (x 5), .int .u8 (x 6), .int .u8 (x 7), .int .u8 (x 8), .int .u8 (x 9), .int .u8 (x 10), .int .u8 (x 11), .int .u8 (x 12), .int .u8 (x 13), .int .u8 (x 14), .int .u8 (x 15)] [.int .u8 (y 0), .int .u8 (y 1), .int .u8 (y 2), .int .u8 (y 3), .int .u8 (y 4), .int .u8 (y 5), .int .u8 (y 6), .int .u8 (y 7), .int .u8 (y 8), .int .u8 (y 9), .int .u8 (y 10), .int .u8 (y 11), .int .u8 (y 12), .int .u8 (y 13), .int .u8 (y 14), .int .u8 (y 15)] with ⟨_, hg, hl⟩ | h1 | ⟨h1, h2⟩
  rotate_left
  · rw [h1] at h; cases h
  · exact absurd (h1.symm.trans h) h2
  rcases getEr_or 40 [.int .u8 (x 0), .int .u8 (x 1), .int .u8 (x 2), .int .u8 (x 3), .int .u8 (x 4), .int .u8 (x 5), .int .u8 (x 6), .int .u8 (x 7), .int .u8 (x 8), .int .u8 (x 9), .int .u8 (x 10), .int .u8 (x 11), .int .u8 (x 12), .int .u8 (x 13), .int .u8 (x 14), .int .u8 (x 15)] [.int .u8 (y 0), .int .u8 (y 1), .int .u8 (y 2), .int .u8 (y 3), .int .u8 (y 4), .int .u8 (y 5), .int .u8 (y 6), .int .u8 (y 7), .int .u8 (y 8), .int .u8 (y 9), .int .u8 (y 10), .int .u8 (y 11), .int .u8 (y 12), .int .u8 (y 13), .int .u8 (y 14), .int .u8 (y 15)] with ⟨_, he, hi, h8y⟩ | h1 | h1 | h1 | h1
  rotate_left
  · rw [h1] at hg; cases hg
  · rw [h1] at hg; cases hg
  · rw [h1] at hg; cases hg
  · rw [h1] at hg; cases hg
  obtain ⟨hc, _, h3, h8⟩ := embE_zero he
  have h3 : lowB [.int .u8 (x 0), .int .u8 (x 1), .int .u8 (x 2), .int .u8 (x 3), .int .u8 (x 4), .int .u8 (x 5), .int .u8 (x 6), .int .u8 (x 7), .int .u8 (x 8), .int .u8 (x 9), .int .u8 (x 10), .int .u8 (x 11), .int .u8 (x 12), .int .u8 (x 13), .int .u8 (x 14), .int .u8 (x 15)] 40 = true := h3
  have hl : lowB [.int .u8 (y 0), .int .u8 (y 1), .int .u8 (y 2), .int .u8 (y 3), .int .u8 (y 4), .int .u8 (y 5), .int .u8 (y 6), .int .u8 (y 7), .int .u8 (y 8), .int .u8 (y 9), .int .u8 (y 10), .int .u8 (y 11), .int .u8 (y 12), .int .u8 (y 13), .int .u8 (y 14), .int .u8 (y 15)] 80 = true := hl
  have hs : sameB [.int .u8 (x 0), .int .u8 (x 1), .int .u8 (x 2), .int .u8 (x 3), .int .u8 (x 4), .int .u8 (x 5), .int .u8 (x 6), .int .u8 (x 7), .int .u8 (x 8), .int .u8 (x 9), .int .u8 (x 10), .int .u8 (x 11), .int .u8 (x 12), .int .u8 (x 13), .int .u8 (x 14), .int .u8 (x 15)] [.int .u8 (y 0), .int .u8 (y 1), .int .u8 (y 2), .int .u8 (y 3), .int .u8 (y 4), .int .u8 (y 5), .int .u8 (y 6), .int .u8 (y 7), .int .u8 (y 8), .int .u8 (y 9), .int .u8 (y 10), .int .u8 (y 11), .int .u8 (y 12), .int .u8 (y 13), .int .u8 (y 14), .int .u8 (y 15)] 40 = true := by
    unfold inB at hi
    rw [hc] at hi
    exact hi
  have q0 : x 0 = y 0 := (AV.int.inj (same_at (b8_16 hx) (b8_16 hy) hs (k := 0) (by decide) (show 0 < 16 by decide) (show 0 < 16 by decide))).2
  have q1 : x 1 = y 1 := (AV.int.inj (same_at (b8_16 hx) (b8_16 hy) hs (k := 1) (by decide) (show 1 < 16 by decide) (show 1 < 16 by decide))).2
  have q2 : x 2 = y 2 := (AV.int.inj (same_at (b8_16 hx) (b8_16 hy) hs (k := 2) (by decide) (show 2 < 16 by decide) (show 2 < 16 by decide))).2
  have q3 : x 3 = y 3 := (AV.int.inj (same_at (b8_16 hx) (b8_16 hy) hs (k := 3) (by decide) (show 3 < 16 by decide) (show 3 < 16 by decide))).2
  have q4 : x 4 = y 4 := (AV.int.inj (same_at (b8_16 hx) (b8_16 hy) hs (k := 4) (by decide) (show 4 < 16 by decide) (show 4 < 16 by decide))).2
  have q8 : x 8 = y 8 := (show x 8 = 0 from h8).trans (show y 8 = 0 from h8y).symm
  have q10 : x 10 = y 10 := (show x 10 = 0 from (AV.int.inj (low_byte (b8_16 hx) h3 (k := 10) (by decide) (show 10 < 16 by decide))).2).trans (show y 10 = 0 from (AV.int.inj (low_byte (b8_16 hy) hl (k := 10) (by decide) (show 10 < 16 by decide))).2).symm
  have q11 : x 11 = y 11 := (show x 11 = 0 from (AV.int.inj (low_byte (b8_16 hx) h3 (k := 11) (by decide) (show 11 < 16 by decide))).2).trans (show y 11 = 0 from (AV.int.inj (low_byte (b8_16 hy) hl (k := 11) (by decide) (show 11 < 16 by decide))).2).symm
  have q12 : x 12 = y 12 := (show x 12 = 0 from (AV.int.inj (low_byte (b8_16 hx) h3 (k := 12) (by decide) (show 12 < 16 by decide))).2).trans (show y 12 = 0 from (AV.int.inj (low_byte (b8_16 hy) hl (k := 12) (by decide) (show 12 < 16 by decide))).2).symm
  have q13 : x 13 = y 13 := (show x 13 = 0 from (AV.int.inj (low_byte (b8_16 hx) h3 (k := 13) (by decide) (show 13 < 16 by decide))).2).trans (show y 13 = 0 from (AV.int.inj (low_byte (b8_16 hy) hl (k := 13) (by decide) (show 13 < 16 by decide))).2).symm
  have q14 : x 14 = y 14 := (show x 14 = 0 from (AV.int.inj (low_byte (b8_16 hx) h3 (k := 14) (by decide) (show 14 < 16 by decide))).2).trans (show y 14 = 0 from (AV.int.inj (low_byte (b8_16 hy) hl (k := 14) (by decide) (show 14 < 16 by decide))).2).symm
  have q15 : x 15 = y 15 := (show x 15 = 0 from (AV.int.inj (low_byte (b8_16 hx) h3 (k := 15) (by decide) (show 15 < 16 by decide))).2).trans (show y 15 = 0 from (AV.int.inj (low_byte (b8_16 hy) hl (k := 15) (by decide) (show 15 < 16 by decide))).2).symm
  have e1 : takX 40 [.int .u8 (y 0), .int .u8 (y 1), .int .u8 (y 2), .int .u8 (y 3), .int .u8 (y 4), .int .u8 (y 5), .int .u8 (y 6), .int .u8 (y 7), .int .u8 (y 8), .int .u8 (y 9), .int .u8 (y 10), .int .u8 (y 11), .int .u8 (y 12), .int .u8 (y 13), .int .u8 (y 14), .int .u8 (y 15)] z4 = [.int .u8 (y 5), .int .u8 (y 6), .int .u8 (y 7), .int .u8 (y 9)] := tak_40 hy
  rw [e1]
  have e2 : layX 40 [.int .u8 (y 5), .int .u8 (y 6), .int .u8 (y 7), .int .u8 (y 9)] [.int .u8 (x 0), .int .u8 (x 1), .int .u8 (x 2), .int .u8 (x 3), .int .u8 (x 4), .int .u8 (x 5), .int .u8 (x 6), .int .u8 (x 7), .int .u8 (x 8), .int .u8 (x 9), .int .u8 (x 10), .int .u8 (x 11), .int .u8 (x 12), .int .u8 (x 13), .int .u8 (x 14), .int .u8 (x 15)] = [.int .u8 (x 0), .int .u8 (x 1), .int .u8 (x 2), .int .u8 (x 3), .int .u8 (x 4), .int .u8 (y 5), .int .u8 (y 6), .int .u8 (y 7), .int .u8 (x 8), .int .u8 (y 9), .int .u8 (x 10), .int .u8 (x 11), .int .u8 (x 12), .int .u8 (x 13), .int .u8 (x 14), .int .u8 (x 15)] := lay_40 (z := fun k => ([y 5, y 6, y 7, y 9] : List Int).getD k 0) hx (b8_list (by
    intro v hv
    simp only [List.mem_cons, List.not_mem_nil, or_false] at hv
    rcases hv with rfl | rfl | rfl | rfl
    · exact hy 5
    · exact hy 6
    · exact hy 7
    · exact hy 9)) h3
  rw [e2]
  simp only [q0, q1, q2, q3, q4, q8, q10, q11, q12, q13, q14, q15]

theorem fwd_48 {x z : Nat → Int} (hx : b8 x) (hz : b8 z) (h : embE [.int .u8 (x 0), .int .u8 (x 1), .int .u8 (x 2), .int .u8 (x 3), .int .u8 (x 4), .int .u8 (x 5), .int .u8 (x 6), .int .u8 (x 7), .int .u8 (x 8), .int .u8 (x 9), .int .u8 (x 10), .int .u8 (x 11), .int .u8 (x 12), .int .u8 (x 13), .int .u8 (x 14), .int .u8 (x 15)] 48 = 0) : getEr 48 [.int .u8 (x 0), .int .u8 (x 1), .int .u8 (x 2), .int .u8 (x 3), .int .u8 (x 4), .int .u8 (x 5), .int .u8 (x 6), .int .u8 (x 7), .int .u8 (x 8), .int .u8 (x 9), .int .u8 (x 10), .int .u8 (x 11), .int .u8 (x 12), .int .u8 (x 13), .int .u8 (x 14), .int .u8 (x 15)] (layX 48 [.int .u8 (z 0), .int .u8 (z 1), .int .u8 (z 2), .int .u8 (z 3)] [.int .u8 (x 0), .int .u8 (x 1), .int .u8 (x 2), .int .u8 (x 3), .int .u8 (x 4), .int .u8 (x 5), .int .u8 (x 6), .int .u8 (x 7), .int .u8 (x 8), .int .u8 (x 9), .int .u8 (x 10), .int .u8 (x 11), .int .u8 (x 12), .int .u8 (x 13), .int .u8 (x 14), .int .u8 (x 15)]) = 0 ∧ strE 48 [.int .u8 (x 0), .int .u8 (x 1), .int .u8 (x 2), .int .u8 (x 3), .int .u8 (x 4), .int .u8 (x 5), .int .u8 (x 6), .int .u8 (x 7), .int .u8 (x 8), .int .u8 (x 9), .int .u8 (x 10), .int .u8 (x 11), .int .u8 (x 12), .int .u8 (x 13), .int .u8 (x 14), .int .u8 (x 15)] (layX 48 [.int .u8 (z 0), .int .u8 (z 1), .int .u8 (z 2), .int .u8 (z 3)] [.int .u8 (x 0), .int .u8 (x 1), .int .u8 (x 2), .int .u8 (x 3), .int .u8 (x 4), .int .u8 (x 5), .int .u8 (x 6), .int .u8 (x 7), .int .u8 (x 8), .int .u8 (x 9), .int .u8 (x 10), .int .u8 (x 11), .int .u8 (x 12), .int .u8 (x 13), .int .u8 (x 14), .int .u8 (x 15)]) = 0 ∧ takX 48 (layX 48 [.int .u8 (z 0), .int .u8 (z 1), .int .u8 (z 2), .int .u8 (z 3)] [.int .u8 (x 0), .int .u8 (x 1), .int .u8 (x 2), .int .u8 (x 3), .int .u8 (x 4), .int .u8 (x 5), .int .u8 (x 6), .int .u8 (x 7), .int .u8 (x 8), .int .u8 (x 9), .int .u8 (x 10), .int .u8 (x 11), .int .u8 (x 12), .int .u8 (x 13), .int .u8 (x 14), .int .u8 (x 15)]) z4 = [.int .u8 (z 0), .int .u8 (z 1), .int .u8 (z 2), .int .u8 (z 3)] := by
  obtain ⟨hc, _, h3, h8⟩ := embE_zero h
  have h3 : lowB [.int .u8 (x 0), .int .u8 (x 1), .int .u8 (x 2), .int .u8 (x 3), .int .u8 (x 4), .int .u8 (x 5), .int .u8 (x 6), .int .u8 (x 7), .int .u8 (x 8), .int .u8 (x 9), .int .u8 (x 10), .int .u8 (x 11), .int .u8 (x 12), .int .u8 (x 13), .int .u8 (x 14), .int .u8 (x 15)] 48 = true := h3
  rw [lay_48 hx hz h3]
  have ht : takX 48 [.int .u8 (x 0), .int .u8 (x 1), .int .u8 (x 2), .int .u8 (x 3), .int .u8 (x 4), .int .u8 (x 5), .int .u8 (z 0), .int .u8 (z 1), .int .u8 (x 8), .int .u8 (z 2), .int .u8 (z 3), .int .u8 (x 11), .int .u8 (x 12), .int .u8 (x 13), .int .u8 (x 14), .int .u8 (x 15)] z4 = [.int .u8 (z 0), .int .u8 (z 1), .int .u8 (z 2), .int .u8 (z 3)] := tak_48 (x := fun k => ([x 0, x 1, x 2, x 3, x 4, x 5, z 0, z 1, x 8, z 2, z 3, x 11, x 12, x 13, x 14, x 15] : List Int).getD k 0) (b8_list (by
    intro v hv
    simp only [List.mem_cons, List.not_mem_nil, or_false] at hv
    rcases hv with rfl | rfl | rfl | rfl | rfl | rfl | rfl | rfl | rfl | rfl | rfl | rfl | rfl | rfl | rfl | rfl
    · exact hx 0
    · exact hx 1
    · exact hx 2
    · exact hx 3
    · exact hx 4
    · exact hx 5
    · exact hz 0
    · exact hz 1
    · exact hx 8
    · exact hz 2
    · exact hz 3
    · exact hx 11
    · exact hx 12
    · exact hx 13
    · exact hx 14
    · exact hx 15))
  have hs : sameB [.int .u8 (x 0), .int .u8 (x 1), .int .u8 (x 2), .int .u8 (x 3), .int .u8 (x 4), .int .u8 (x 5), .int .u8 (x 6), .int .u8 (x 7), .int .u8 (x 8), .int .u8 (x 9), .int .u8 (x 10), .int .u8 (x 11), .int .u8 (x 12), .int .u8 (x 13), .int .u8 (x 14), .int .u8 (x 15)] [.int .u8 (x 0), .int .u8 (x 1), .int .u8 (x 2), .int .u8 (x 3), .int .u8 (x 4), .int .u8 (x 5), .int .u8 (z 0), .int .u8 (z 1), .int .u8 (x 8), .int .u8 (z 2), .int .u8 (z 3), .int .u8 (x 11), .int .u8 (x 12), .int .u8 (x 13), .int .u8 (x 14), .int .u8 (x 15)] 48 = true := sameB_iff.2 fun j hj => bitV_at (by
    have hq : j / 8 < 6 := by omega
    generalize j / 8 = q at hq
    match q, hq with
    | 0, _ => rfl
    | 1, _ => rfl
    | 2, _ => rfl
    | 3, _ => rfl
    | 4, _ => rfl
    | 5, _ => rfl
    | q + 6, hq => exact absurd hq (by omega))
  have hl : lowB [.int .u8 (x 0), .int .u8 (x 1), .int .u8 (x 2), .int .u8 (x 3), .int .u8 (x 4), .int .u8 (x 5), .int .u8 (z 0), .int .u8 (z 1), .int .u8 (x 8), .int .u8 (z 2), .int .u8 (z 3), .int .u8 (x 11), .int .u8 (x 12), .int .u8 (x 13), .int .u8 (x 14), .int .u8 (x 15)] 88 = true := lowB_iff.2 fun j h1 h2 => (bitV_at (by
    have h2 : j < 128 := h2
    have hq : j / 8 < 16 := by omega
    have hq2 : 11 ≤ j / 8 := by omega
    generalize j / 8 = q at hq hq2
    match q, hq, hq2 with
    | 11, _, _ => rfl
    | 12, _, _ => rfl
    | 13, _, _ => rfl
    | 14, _, _ => rfl
    | 15, _, _ => rfl
    | q + 16, hq, _ => exact absurd hq (by omega)
    | 0, _, hq2 => exact absurd hq2 (by omega)
    | 1, _, hq2 => exact absurd hq2 (by omega)
    | 2, _, hq2 => exact absurd hq2 (by omega)
    | 3, _, hq2 => exact absurd hq2 (by omega)
    | 4, _, hq2 => exact absurd hq2 (by omega)
    | 5, _, hq2 => exact absurd hq2 (by omega)
    | 6, _, hq2 => exact absurd hq2 (by omega)
    | 7, _, hq2 => exact absurd hq2 (by omega)
    | 8, _, hq2 => exact absurd hq2 (by omega)
    | 9, _, hq2 => exact absurd hq2 (by omega)
    | 10, _, hq2 => exact absurd hq2 (by omega))).trans (lowB_iff.1 h3 j (by omega) h2)
  have h8' : byteAt [.int .u8 (x 0), .int .u8 (x 1), .int .u8 (x 2), .int .u8 (x 3), .int .u8 (x 4), .int .u8 (x 5), .int .u8 (z 0), .int .u8 (z 1), .int .u8 (x 8), .int .u8 (z 2), .int .u8 (z 3), .int .u8 (x 11), .int .u8 (x 12), .int .u8 (x 13), .int .u8 (x 14), .int .u8 (x 15)] 8 = 0 := h8
  have hg : getEr 48 [.int .u8 (x 0), .int .u8 (x 1), .int .u8 (x 2), .int .u8 (x 3), .int .u8 (x 4), .int .u8 (x 5), .int .u8 (x 6), .int .u8 (x 7), .int .u8 (x 8), .int .u8 (x 9), .int .u8 (x 10), .int .u8 (x 11), .int .u8 (x 12), .int .u8 (x 13), .int .u8 (x 14), .int .u8 (x 15)] [.int .u8 (x 0), .int .u8 (x 1), .int .u8 (x 2), .int .u8 (x 3), .int .u8 (x 4), .int .u8 (x 5), .int .u8 (z 0), .int .u8 (z 1), .int .u8 (x 8), .int .u8 (z 2), .int .u8 (z 3), .int .u8 (x 11), .int .u8 (x 12), .int .u8 (x 13), .int .u8 (x 14), .int .u8 (x 15)] = 0 := by
    unfold getEr
    have hi : inB 128 [.int .u8 (x 0), .int .u8 (x 1), .int .u8 (x 2), .int .u8 (x 3), .int .u8 (x 4), .int .u8 (x 5), .int .u8 (x 6), .int .u8 (x 7), .int .u8 (x 8), .int .u8 (x 9), .int .u8 (x 10), .int .u8 (x 11), .int .u8 (x 12), .int .u8 (x 13), .int .u8 (x 14), .int .u8 (x 15)] [.int .u8 (x 0), .int .u8 (x 1), .int .u8 (x 2), .int .u8 (x 3), .int .u8 (x 4), .int .u8 (x 5), .int .u8 (z 0), .int .u8 (z 1), .int .u8 (x 8), .int .u8 (z 2), .int .u8 (z 3), .int .u8 (x 11), .int .u8 (x 12), .int .u8 (x 13), .int .u8 (x 14), .int .u8 (x 15)] 48 = true := by
      unfold inB
      rw [hc]
      exact hs
    rw [h, hi, h8']; rfl
  refine ⟨hg, ?_, ht⟩
  unfold strE
  rw [hg, show placeN 48 31 + 1 = 88 from rfl, hl]; rfl

theorem bwd_48 {x y : Nat → Int} (hx : b8 x) (hy : b8 y) (h : strE 48 [.int .u8 (x 0), .int .u8 (x 1), .int .u8 (x 2), .int .u8 (x 3), .int .u8 (x 4), .int .u8 (x 5), .int .u8 (x 6), .int .u8 (x 7), .int .u8 (x 8), .int .u8 (x 9), .int .u8 (x 10), .int .u8 (x 11), .int .u8 (x 12), .int .u8 (x 13), .int .u8 (x 14), .int .u8 (x 15)] [.int .u8 (y 0), .int .u8 (y 1), .int .u8 (y 2), .int .u8 (y 3), .int .u8 (y 4), .int .u8 (y 5), .int .u8 (y 6), .int .u8 (y 7), .int .u8 (y 8), .int .u8 (y 9), .int .u8 (y 10), .int .u8 (y 11), .int .u8 (y 12), .int .u8 (y 13), .int .u8 (y 14), .int .u8 (y 15)] = 0) : layX 48 (takX 48 [.int .u8 (y 0), .int .u8 (y 1), .int .u8 (y 2), .int .u8 (y 3), .int .u8 (y 4), .int .u8 (y 5), .int .u8 (y 6), .int .u8 (y 7), .int .u8 (y 8), .int .u8 (y 9), .int .u8 (y 10), .int .u8 (y 11), .int .u8 (y 12), .int .u8 (y 13), .int .u8 (y 14), .int .u8 (y 15)] z4) [.int .u8 (x 0), .int .u8 (x 1), .int .u8 (x 2), .int .u8 (x 3), .int .u8 (x 4), .int .u8 (x 5), .int .u8 (x 6), .int .u8 (x 7), .int .u8 (x 8), .int .u8 (x 9), .int .u8 (x 10), .int .u8 (x 11), .int .u8 (x 12), .int .u8 (x 13), .int .u8 (x 14), .int .u8 (x 15)] = [.int .u8 (y 0), .int .u8 (y 1), .int .u8 (y 2), .int .u8 (y 3), .int .u8 (y 4), .int .u8 (y 5), .int .u8 (y 6), .int .u8 (y 7), .int .u8 (y 8), .int .u8 (y 9), .int .u8 (y 10), .int .u8 (y 11), .int .u8 (y 12), .int .u8 (y 13), .int .u8 (y 14), .int .u8 (y 15)] := by
  rcases strE_or 48 [.int .u8 (x 0), .int .u8 (x 1), .int .u8 (x 2), .int .u8 (x 3), .int .u8 (x 4), .int .u8 (x 5), .int .u8 (x 6), .int .u8 (x 7), .int .u8 (x 8), .int .u8 (x 9), .int .u8 (x 10), .int .u8 (x 11), .int .u8 (x 12), .int .u8 (x 13), .int .u8 (x 14), .int .u8 (x 15)] [.int .u8 (y 0), .int .u8 (y 1), .int .u8 (y 2), .int .u8 (y 3), .int .u8 (y 4), .int .u8 (y 5), .int .u8 (y 6), .int .u8 (y 7), .int .u8 (y 8), .int .u8 (y 9), .int .u8 (y 10), .int .u8 (y 11), .int .u8 (y 12), .int .u8 (y 13), .int .u8 (y 14), .int .u8 (y 15)] with ⟨_, hg, hl⟩ | h1 | ⟨h1, h2⟩
  rotate_left
  · rw [h1] at h; cases h
  · exact absurd (h1.symm.trans h) h2
  rcases getEr_or 48 [.int .u8 (x 0), .int .u8 (x 1), .int .u8 (x 2), .int .u8 (x 3), .int .u8 (x 4), .int .u8 (x 5), .int .u8 (x 6), .int .u8 (x 7), .int .u8 (x 8), .int .u8 (x 9), .int .u8 (x 10), .int .u8 (x 11), .int .u8 (x 12), .int .u8 (x 13), .int .u8 (x 14), .int .u8 (x 15)] [.int .u8 (y 0), .int .u8 (y 1), .int .u8 (y 2), .int .u8 (y 3), .int .u8 (y 4), .int .u8 (y 5), .int .u8 (y 6), .int .u8 (y 7), .int .u8 (y 8), .int .u8 (y 9), .int .u8 (y 10), .int .u8 (y 11), .int .u8 (y 12), .int .u8 (y 13), .int .u8 (y 14), .int .u8 (y 15)] with ⟨_, he, hi, h8y⟩ | h1 | h1 | h1 | h1
  rotate_left
  · rw [h1] at hg; cases hg
  · rw [h1] at hg; cases hg
  · rw [h1] at hg; cases hg
  · rw [h1] at hg; cases hg
  obtain ⟨hc, _, h3, h8⟩ := embE_zero he
  have h3 : lowB [.int .u8 (x 0), .int .u8 (x 1), .int .u8 (x 2), .int .u8 (x 3), .int .u8 (x 4), .int .u8 (x 5), .int .u8 (x 6), .int .u8 (x 7), .int .u8 (x 8), .int .u8 (x 9), .int .u8 (x 10), .int .u8 (x 11), .int .u8 (x 12), .int .u8 (x 13), .int .u8 (x 14), .int .u8 (x 15)] 48 = true := h3
  have hl : lowB [.int .u8 (y 0), .int .u8 (y 1), .int .u8 (y 2), .int .u8 (y 3), .int .u8 (y 4), .int .u8 (y 5), .int .u8 (y 6), .int .u8 (y 7), .int .u8 (y 8), .int .u8 (y 9), .int .u8 (y 10), .int .u8 (y 11), .int .u8 (y 12), .int .u8 (y 13), .int .u8 (y 14), .int .u8 (y 15)] 88 = true := hl
  have hs : sameB [.int .u8 (x 0), .int .u8 (x 1), .int .u8 (x 2), .int .u8 (x 3), .int .u8 (x 4), .int .u8 (x 5), .int .u8 (x 6), .int .u8 (x 7), .int .u8 (x 8), .int .u8 (x 9), .int .u8 (x 10), .int .u8 (x 11), .int .u8 (x 12), .int .u8 (x 13), .int .u8 (x 14), .int .u8 (x 15)] [.int .u8 (y 0), .int .u8 (y 1), .int .u8 (y 2), .int .u8 (y 3), .int .u8 (y 4), .int .u8 (y 5), .int .u8 (y 6), .int .u8 (y 7), .int .u8 (y 8), .int .u8 (y 9), .int .u8 (y 10), .int .u8 (y 11), .int .u8 (y 12), .int .u8 (y 13), .int .u8 (y 14), .int .u8 (y 15)] 48 = true := by
    unfold inB at hi
    rw [hc] at hi
    exact hi
  have q0 : x 0 = y 0 := (AV.int.inj (same_at (b8_16 hx) (b8_16 hy) hs (k := 0) (by decide) (show 0 < 16 by decide) (show 0 < 16 by decide))).2
  have q1 : x 1 = y 1 := (AV.int.inj (same_at (b8_16 hx) (b8_16 hy) hs (k := 1) (by decide) (show 1 < 16 by decide) (show 1 < 16 by decide))).2
  have q2 : x 2 = y 2 := (AV.int.inj (same_at (b8_16 hx) (b8_16 hy) hs (k := 2) (by decide) (show 2 < 16 by decide) (show 2 < 16 by decide))).2
  have q3 : x 3 = y 3 := (AV.int.inj (same_at (b8_16 hx) (b8_16 hy) hs (k := 3) (by decide) (show 3 < 16 by decide) (show 3 < 16 by decide))).2
  have q4 : x 4 = y 4 := (AV.int.inj (same_at (b8_16 hx) (b8_16 hy) hs (k := 4) (by decide) (show 4 < 16 by decide) (show 4 < 16 by decide))).2
  have q5 : x 5 = y 5 := (AV.int.inj (same_at (b8_16 hx) (b8_16 hy) hs (k := 5) (by decide) (show 5 < 16 by decide) (show 5 < 16 by decide))).2
  have q8 : x 8 = y 8 := (show x 8 = 0 from h8).trans (show y 8 = 0 from h8y).symm
  have q11 : x 11 = y 11 := (show x 11 = 0 from (AV.int.inj (low_byte (b8_16 hx) h3 (k := 11) (by decide) (show 11 < 16 by decide))).2).trans (show y 11 = 0 from (AV.int.inj (low_byte (b8_16 hy) hl (k := 11) (by decide) (show 11 < 16 by decide))).2).symm
  have q12 : x 12 = y 12 := (show x 12 = 0 from (AV.int.inj (low_byte (b8_16 hx) h3 (k := 12) (by decide) (show 12 < 16 by decide))).2).trans (show y 12 = 0 from (AV.int.inj (low_byte (b8_16 hy) hl (k := 12) (by decide) (show 12 < 16 by decide))).2).symm
  have q13 : x 13 = y 13 := (show x 13 = 0 from (AV.int.inj (low_byte (b8_16 hx) h3 (k := 13) (by decide) (show 13 < 16 by decide))).2).trans (show y 13 = 0 from (AV.int.inj (low_byte (b8_16 hy) hl (k := 13) (by decide) (show 13 < 16 by decide))).2).symm
  have q14 : x 14 = y 14 := (show x 14 = 0 from (AV.int.inj (low_byte (b8_16 hx) h3 (k := 14) (by decide) (show 14 < 16 by decide))).2).trans (show y 14 = 0 from (AV.int.inj (low_byte (b8_16 hy) hl (k := 14) (by decide) (show 14 < 16 by decide))).2).symm
  have q15 : x 15 = y 15 := (show x 15 = 0 from (AV.int.inj (low_byte (b8_16 hx) h3 (k := 15) (by decide) (show 15 < 16 by decide))).2).trans (show y 15 = 0 from (AV.int.inj (low_byte (b8_16 hy) hl (k := 15) (by decide) (show 15 < 16 by decide))).2).symm
  have e1 : takX 48 [.int .u8 (y 0), .int .u8 (y 1), .int .u8 (y 2), .int .u8 (y 3), .int .u8 (y 4), .int .u8 (y 5), .int .u8 (y 6), .int .u8 (y 7), .int .u8 (y 8), .int .u8 (y 9), .int .u8 (y 10), .int .u8 (y 11), .int .u8 (y 12), .int .u8 (y 13), .int .u8 (y 14), .int .u8 (y 15)] z4 = [.int .u8 (y 6), .int .u8 (y 7), .int .u8 (y 9), .int .u8 (y 10)] := tak_48 hy
  rw [e1]
  have e2 : layX 48 [.int .u8 (y 6), .int .u8 (y 7), .int .u8 (y 9), .int .u8 (y 10)] [.int .u8 (x 0), .int .u8 (x 1), .int .u8 (x 2), .int .u8 (x 3), .int .u8 (x 4), .int .u8 (x 5), .int .u8 (x 6), .int .u8 (x 7), .int .u8 (x 8), .int .u8 (x 9), .int .u8 (x 10), .int .u8 (x 11), .int .u8 (x 12), .int .u8 (x 13), .int .u8 (x 14), .int .u8 (x 15)] = [.int .u8 (x 0), .int .u8 (x 1), .int .u8 (x 2), .int .u8 (x 3), .int .u8 (x 4), .int .u8 (x 5), .int .u8 (y 6), .int .u8 (y 7), .int .u8 (x 8), .int .u8 (y 9), .int .u8 (y 10), .int .u8 (x 11), .int .u8 (x 12), .int .u8 (x 13), .int .u8 (x 14), .int .u8 (x 15)] := lay_48 (z := fun k => ([y 6, y 7, y 9, y 10] : List Int).getD k 0) hx (b8_list (by
    intro v hv
    simp only [List.mem_cons, List.not_mem_nil, or_false] at hv
    rcases hv with rfl | rfl | rfl | rfl
    · exact hy 6
    · exact hy 7
    · exact hy 9
    · exact hy 10)) h3
  rw [e2]
  simp only [q0, q1, q2, q3, q4, q5, q8, q11, q12, q13, q14, q15]

theorem fwd_56 {x z : Nat → Int} (hx : b8 x) (hz : b8 z) (h : embE [.int .u8 (x 0), .int .u8 (x 1), .int .u8 (x 2), .int .u8 (x 3), .int .u8 (x 4), .int .u8 (x 5), .int .u8 (x 6), .int .u8 (x 7), .int .u8 (x 8), .int .u8 (x 9), .int .u8 (x 10), .int .u8 (x 11), .int .u8 (x 12), .int .u8 (x 13), .int .u8 (x 14), .int .u8 (x 15)] 56 = 0) : getEr 56 [.int .u8 (x 0), .int .u8 (x 1), .int .u8 (x 2), .int .u8 (x 3), .int .u8 (x 4), .int .u8 (x 5), .int .u8 (x 6), .int .u8 (x 7), .int .u8 (x 8), .int .u8 (x 9), .int .u8 (x 10), .int .u8 (x 11), .int .u8 (x 12), .int .u8 (x 13), .int .u8 (x 14), .int .u8 (x 15)] (layX 56 [.int .u8 (z 0), .int .u8 (z 1), .int .u8 (z 2), .int .u8 (z 3)] [.int .u8 (x 0), .int .u8 (x 1), .int .u8 (x 2), .int .u8 (x 3), .int .u8 (x 4), .int .u8 (x 5), .int .u8 (x 6), .int .u8 (x 7), .int .u8 (x 8), .int .u8 (x 9), .int .u8 (x 10), .int .u8 (x 11), .int .u8 (x 12), .int .u8 (x 13), .int .u8 (x 14), .int .u8 (x 15)]) = 0 ∧ strE 56 [.int .u8 (x 0), .int .u8 (x 1), .int .u8 (x 2), .int .u8 (x 3), .int .u8 (x 4), .int .u8 (x 5), .int .u8 (x 6), .int .u8 (x 7), .int .u8 (x 8), .int .u8 (x 9), .int .u8 (x 10), .int .u8 (x 11), .int .u8 (x 12), .int .u8 (x 13), .int .u8 (x 14), .int .u8 (x 15)] (layX 56 [.int .u8 (z 0), .int .u8 (z 1), .int .u8 (z 2), .int .u8 (z 3)] [.int .u8 (x 0), .int .u8 (x 1), .int .u8 (x 2), .int .u8 (x 3), .int .u8 (x 4), .int .u8 (x 5), .int .u8 (x 6), .int .u8 (x 7), .int .u8 (x 8), .int .u8 (x 9), .int .u8 (x 10), .int .u8 (x 11), .int .u8 (x 12), .int .u8 (x 13), .int .u8 (x 14), .int .u8 (x 15)]) = 0 ∧ takX 56 (layX 56 [.int .u8 (z 0), .int .u8 (z 1), .int .u8 (z 2), .int .u8 (z 3)] [.int .u8 (x 0), .int .u8 (x 1), .int .u8 (x 2), .int .u8 (x 3), .int .u8 (x 4), .int .u8 (x 5), .int .u8 (x 6), .int .u8 (x 7), .int .u8 (x 8), .int .u8 (x 9), .int .u8 (x 10), .int .u8 (x 11), .int .u8 (x 12), .int .u8 (x 13), .int .u8 (x 14), .int .u8 (x 15)]) z4 = [.int .u8 (z 0), .int .u8 (z 1), .int .u8 (z 2), .int .u8 (z 3)] := by
  obtain ⟨hc, _, h3, h8⟩ := embE_zero h
  have h3 : lowB [.int .u8 (x 0), .int .u8 (x 1), .int .u8 (x 2), .int .u8 (x 3), .int .u8 (x 4), .int .u8 (x 5), .int .u8 (x 6), .int .u8 (x 7), .int .u8 (x 8), .int .u8 (x 9), .int .u8 (x 10), .int .u8 (x 11), .int .u8 (x 12), .int .u8 (x 13), .int .u8 (x 14), .int .u8 (x 15)] 56 = true := h3
  rw [lay_56 hx hz h3]
  have ht : takX 56 [.int .u8 (x 0), .int .u8 (x 1), .int .u8 (x 2), .int .u8 (x 3), .int .u8 (x 4), .int .u8 (x 5), .int .u8 (x 6), .int .u8 (z 0), .int .u8 (x 8), .int .u8 (z 1), .int .u8 (z 2), .int .u8 (z 3), .int .u8 (x 12), .int .u8 (x 13), .int .u8 (x 14), .int .u8 (x 15)] z4 = [.int .u8 (z 0), .int .u8 (z 1), .int .u8 (z 2), .int .u8 (z 3)] := tak_56 (x := fun k => ([x 0, x 1, x 2, x 3, x 4, x 5, x 6, z 0, x 8, z 1, z 2, z 3, x 12, x 13, x 14, x 15] : List Int).getD k 0) (b8_list (by
    intro v hv
    simp only [List.mem_cons, List.not_mem_nil, or_false] at hv
    rcases hv with rfl | rfl | rfl | rfl | rfl | rfl | rfl | rfl | rfl | rfl | rfl | rfl | rfl | rfl | rfl | rfl
    · exact hx 0
    · exact hx 1
    · exact hx 2
    · exact hx 3
    · exact hx 4
    · exact hx 5
    · exact hx 6
    · exact hz 0
    · exact hx 8
    · exact hz 1
    · exact hz 2
    · exact hz 3
    · exact hx 12
    · exact hx 13
    · exact hx 14
    · exact hx 15))
  have hs : sameB [.int .u8 (x 0), .int .u8 (x 1), .int .u8 (x 2), .int .u8 (x 3), .int .u8 (x 4), .int .u8 (x 5), .int .u8 (x 6), .int .u8 (x 7), .int .u8 (x 8), .int .u8 (x 9), .int .u8 (x 10), .int .u8 (x 11), .int .u8 (x 12), .int .u8 (x 13), .int .u8 (x 14), .int .u8 (x 15)] [.int .u8 (x 0), .int .u8 (x 1), .int .u8 (x 2), .int .u8 (x 3), .int .u8 (x 4), .int .u8 (x 5), .int .u8 (x 6), .int .u8 (z 0), .int .u8 (x 8), .int .u8 (z 1), .int .u8 (z 2), .int .u8 (z 3), .int .u8 (x 12), .int .u8 (x 13), .int .u8 (x 14), .int .u8 (x 15)] 56 = true := sameB_iff.2 fun j hj => bitV_at (by
    have hq : j / 8 < 7 := by omega
    generalize j / 8 = q at hq
    match q, hq with
    | 0, _ => rfl
    | 1, _ => rfl
    | 2, _ => rfl
    | 3, _ => rfl
    | 4, _ => rfl
    | 5, _ => rfl
    | 6, _ => rfl
    | q + 7, hq => exact absurd hq (by omega))
  have hl : lowB [.int .u8 (x 0), .int .u8 (x 1), .int .u8 (x 2), .int .u8 (x 3), .int .u8 (x 4), .int .u8 (x 5), .int .u8 (x 6), .int .u8 (z 0), .int .u8 (x 8), .int .u8 (z 1), .int .u8 (z 2), .int .u8 (z 3), .int .u8 (x 12), .int .u8 (x 13), .int .u8 (x 14), .int .u8 (x 15)] 96 = true := lowB_iff.2 fun j h1 h2 => (bitV_at (by
    have h2 : j < 128 := h2
    have hq : j / 8 < 16 := by omega
    have hq2 : 12 ≤ j / 8 := by omega
    generalize j / 8 = q at hq hq2
    match q, hq, hq2 with
    | 12, _, _ => rfl
    | 13, _, _ => rfl
    | 14, _, _ => rfl
    | 15, _, _ => rfl
    | q + 16, hq, _ => exact absurd hq (by omega)
    | 0, _, hq2 => exact absurd hq2 (by omega)
    | 1, _, hq2 => exact absurd hq2 (by omega)
    | 2, _, hq2 => exact absurd hq2 (by omega)
    | 3, _, hq2 => exact absurd hq2 (by omega)
    | 4, _, hq2 => exact absurd hq2 (by omega)
    | 5, _, hq2 => exact absurd hq2 (by omega)
    | 6, _, hq2 => exact absurd hq2 (by omega)
    | 7, _, hq2 => exact absurd hq2 (by omega)
    | 8, _, hq2 => exact absurd hq2 (by omega)
    | 9, _, hq2 => exact absurd hq2 (by omega)
    | 10, _, hq2 => exact absurd hq2 (by omega)
    | 11, _, hq2 => exact absurd hq2 (by omega))).trans (lowB_iff.1 h3 j (by omega) h2)
  have h8' : byteAt [.int .u8 (x 0), .int .u8 (x 1), .int .u8 (x 2), .int .u8 (x 3), .int .u8 (x 4), .int .u8 (x 5), .int .u8 (x 6), .int .u8 (z 0), .int .u8 (x 8), .int .u8 (z 1), .int .u8 (z 2), .int .u8 (z 3), .int .u8 (x 12), .int .u8 (x 13), .int .u8 (x 14), .int .u8 (x 15)] 8 = 0 := h8
  have hg : getEr 56 [.int .u8 (x 0), .int .u8 (x 1), .int .u8 (x 2), .int .u8 (x 3), .int .u8 (x 4), .int .u8 (x 5), .int .u8 (x 6), .int .u8 (x 7), .int .u8 (x 8), .int .u8 (x 9), .int .u8 (x 10), .int .u8 (x 11), .int .u8 (x 12), .int .u8 (x 13), .int .u8 (x 14), .int .u8 (x 15)] [.int .u8 (x 0), .int .u8 (x 1), .int .u8 (x 2), .int .u8 (x 3), .int .u8 (x 4), .int .u8 (x 5), .int .u8 (x 6), .int .u8 (z 0), .int .u8 (x 8), .int .u8 (z 1), .int .u8 (z 2), .int .u8 (z 3), .int .u8 (x 12), .int .u8 (x 13), .int .u8 (x 14), .int .u8 (x 15)] = 0 := by
    unfold getEr
    have hi : inB 128 [.int .u8 (x 0), .int .u8 (x 1), .int .u8 (x 2), .int .u8 (x 3), .int .u8 (x 4), .int .u8 (x 5), .int .u8 (x 6), .int .u8 (x 7), .int .u8 (x 8), .int .u8 (x 9), .int .u8 (x 10), .int .u8 (x 11), .int .u8 (x 12), .int .u8 (x 13), .int .u8 (x 14), .int .u8 (x 15)] [.int .u8 (x 0), .int .u8 (x 1), .int .u8 (x 2), .int .u8 (x 3), .int .u8 (x 4), .int .u8 (x 5), .int .u8 (x 6), .int .u8 (z 0), .int .u8 (x 8), .int .u8 (z 1), .int .u8 (z 2), .int .u8 (z 3), .int .u8 (x 12), .int .u8 (x 13), .int .u8 (x 14), .int .u8 (x 15)] 56 = true := by
      unfold inB
      rw [hc]
      exact hs
    rw [h, hi, h8']; rfl
  refine ⟨hg, ?_, ht⟩
  unfold strE
  rw [hg, show placeN 56 31 + 1 = 96 from rfl, hl]; rfl

theorem bwd_56 {x y : Nat → Int} (hx : b8 x) (hy : b8 y) (h : strE 56 [.int .u8 (x 0), .int .u8 (x 1), .int .u8 (x 2), .int .u8 (x 3), .int .u8 (x 4), .int .u8 (x 5), .int .u8 (x 6), .int .u8 (x 7), .int .u8 (x 8), .int .u8 (x 9), .int .u8 (x 10), .int .u8 (x 11), .int .u8 (x 12), .int .u8 (x 13), .int .u8 (x 14), .int .u8 (x 15)] [.int .u8 (y 0), .int .u8 (y 1), .int .u8 (y 2), .int .u8 (y 3), .int .u8 (y 4), .int .u8 (y 5), .int .u8 (y 6), .int .u8 (y 7), .int .u8 (y 8), .int .u8 (y 9), .int .u8 (y 10), .int .u8 (y 11), .int .u8 (y 12), .int .u8 (y 13), .int .u8 (y 14), .int .u8 (y 15)] = 0) : layX 56 (takX 56 [.int .u8 (y 0), .int .u8 (y 1), .int .u8 (y 2), .int .u8 (y 3), .int .u8 (y 4), .int .u8 (y 5), .int .u8 (y 6), .int .u8 (y 7), .int .u8 (y 8), .int .u8 (y 9), .int .u8 (y 10), .int .u8 (y 11), .int .u8 (y 12), .int .u8 (y 13), .int .u8 (y 14), .int .u8 (y 15)] z4) [.int .u8 (x 0), .int .u8 (x 1), .int .u8 (x 2), .int .u8 (x 3), .int .u8 (x 4), .int .u8 (x 5), .int .u8 (x 6), .int .u8 (x 7), .int .u8 (x 8), .int .u8 (x 9), .int .u8 (x 10), .int .u8 (x 11), .int .u8 (x 12), .int .u8 (x 13), .int .u8 (x 14), .int .u8 (x 15)] = [.int .u8 (y 0), .int .u8 (y 1), .int .u8 (y 2), .int .u8 (y 3), .int .u8 (y 4), .int .u8 (y 5), .int .u8 (y 6), .int .u8 (y 7), .int .u8 (y 8), .int .u8 (y 9), .int .u8 (y 10), .int .u8 (y 11), .int .u8 (y 12), .int .u8 (y 13), .int .u8 (y 14), .int .u8 (y 15)] := by
  rcases strE_or 56 [.int .u8 (x 0), .int .u8 (x 1), .int .u8 (x 2), .int .u8 (x 3), .int .u8 (x 4), .int .u8 (x 5), .int .u8 (x 6), .int .u8 (x 7), .int .u8 (x 8), .int .u8 (x 9), .int .u8 (x 10), .int .u8 (x 11), .int .u8 (x 12), .int .u8 (x 13), .int .u8 (x 14), .int .u8 (x 15)] [.int .u8 (y 0), .int .u8 (y 1), .int .u8 (y 2), .int .u8 (y 3), .int .u8 (y 4), .int .u8 (y 5), .int .u8 (y 6), .int .u8 (y 7), .int .u8 (y 8), .int .u8 (y 9), .int .u8 (y 10), .int .u8 (y 11), .int .u8 (y 12), .int .u8 (y 13), .int .u8 (y 14), .int .u8 (y 15)] with ⟨_, hg, hl⟩ | h1 | ⟨h1, h2⟩
  rotate_left
  · rw [h1] at h; cases h
  · exact absurd (h1.symm.trans h) h2
  rcases getEr_or 56 [.int .u8 (x 0), .int .u8 (x 1), .int .u8 (x 2), .int .u8 (x 3), .int .u8 (x 4), .int .u8 (x 5), .int .u8 (x 6), .int .u8 (x 7), .int .u8 (x 8), .int .u8 (x 9), .int .u8 (x 10), .int .u8 (x 11), .int .u8 (x 12), .int .u8 (x 13), .int .u8 (x 14), .int .u8 (x 15)] [.int .u8 (y 0), .int .u8 (y 1), .int .u8 (y 2), .int .u8 (y 3), .int .u8 (y 4), .int .u8 (y 5), .int .u8 (y 6), .int .u8 (y 7), .int .u8 (y 8), .int .u8 (y 9), .int .u8 (y 10), .int .u8 (y 11), .int .u8 (y 12), .int .u8 (y 13), .int .u8 (y 14), .int .u8 (y 15)] with ⟨_, he, hi, h8y⟩ | h1 | h1 | h1 | h1
  rotate_left
  · rw [h1] at hg; cases hg
  · rw [h1] at hg; cases hg
  · rw [h1] at hg; cases hg
  · rw [h1] at hg; cases hg
  obtain ⟨hc, _, h3, h8⟩ := embE_zero he
  have h3 : lowB [.int .u8 (x 0), .int .u8 (x 1), .int .u8 (x 2), .int .u8 (x 3), .int .u8 (x 4), .int .u8 (x 5), .int .u8 (x 6), .int .u8 (x 7), .int .u8 (x 8), .int .u8 (x 9), .int .u8 (x 10), .int .u8 (x 11), .int .u8 (x 12), .int .u8 (x 13), .int .u8 (x 14), .int .u8 (x 15)] 56 = true := h3
  have hl : lowB [.int .u8 (y 0), .int .u8 (y 1), .int .u8 (y 2), .int .u8 (y 3), .int .u8 (y 4), .int .u8 (y 5), .int .u8 (y 6), .int .u8 (y 7), .int .u8 (y 8), .int .u8 (y 9), .int .u8 (y 10), .int .u8 (y 11), .int .u8 (y 12), .int .u8 (y 13), .int .u8 (y 14), .int .u8 (y 15)] 96 = true := hl
  have hs : sameB [.int .u8 (x 0), .int .u8 (x 1), .int .u8 (x 2), .int .u8 (x 3), .int .u8 (x 4), .int .u8 (x 5), .int .u8 (x 6), .int .u8 (x 7), .int .u8 (x 8), .int .u8 (x 9), .int .u8 (x 10), .int .u8 (x 11), .int .u8 (x 12), .int .u8 (x 13), .int .u8 (x 14), .int .u8 (x 15)] [.int .u8 (y 0), .int .u8 (y 1), .int .u8 (y 2), .int .u8 (y 3), .int .u8 (y 4), .int .u8 (y 5), .int .u8 (y 6), .int .u8 (y 7), .int .u8 (y 8), .int .u8 (y 9), .int .u8 (y 10), .int .u8 (y 11), .int .u8 (y 12), .int .u8 (y 13), .int .u8 (y 14), .int .u8 (y 15)] 56 = true := by
    unfold inB at hi
    rw [hc] at hi
    exact hi
  have q0 : x 0 = y 0 := (AV.int.inj (same_at (b8_16 hx) (b8_16 hy) hs (k := 0) (by decide) (show 0 < 16 by decide) (show 0 < 16 by decide))).2
  have q1 : x 1 = y 1 := (AV.int.inj (same_at (b8_16 hx) (b8_16 hy) hs (k := 1) (by decide) (show 1 < 16 by decide) (show 1 < 16 by decide))).2
  have q2 : x 2 = y 2 := (AV.int.inj (same_at (b8_16 hx) (b8_16 hy) hs (k := 2) (by decide) (show 2 < 16 by decide) (show 2 < 16 by decide))).2
  have q3 : x 3 = y 3 := (AV.int.inj (same_at (b8_16 hx) (b8_16 hy) hs (k := 3) (by decide) (show 3 < 16 by decide) (show 3 < 16 by decide))).2
  have q4 : x 4 = y 4 := (AV.int.inj (same_at (b8_16 hx) (b8_16 hy) hs (k := 4) (by decide) (show 4 < 16 by decide) (show 4 < 16 by decide))).2
  have q5 : x 5 = y 5 := (AV.int.inj (same_at (b8_16 hx) (b8_16 hy) hs (k := 5) (by decide) (show 5 < 16 by decide) (show 5 < 16 by decide))).2
  have q6 : x 6 = y 6 := (AV.int.inj (same_at (b8_16 hx) (b8_16 hy) hs (k := 6) (by decide) (show 6 < 16 by decide) (show 6 < 16 by decide))).2
  have q8 : x 8 = y 8 := (show x 8 = 0 from h8).trans (show y 8 = 0 from h8y).symm
  have q12 : x 12 = y 12 := (show x 12 = 0 from (AV.int.inj (low_byte (b8_16 hx) h3 (k := 12) (by decide) (show 12 < 16 by decide))).2).trans (show y 12 = 0 from (AV.int.inj (low_byte (b8_16 hy) hl (k := 12) (by decide) (show 12 < 16 by decide))).2).symm
  have q13 : x 13 = y 13 := (show x 13 = 0 from (AV.int.inj (low_byte (b8_16 hx) h3 (k := 13) (by decide) (show 13 < 16 by decide))).2).trans (show y 13 = 0 from (AV.int.inj (low_byte (b8_16 hy) hl (k := 13) (by decide) (show 13 < 16 by decide))).2).symm
  have q14 : x 14 = y 14 := (show x 14 = 0 from (AV.int.inj (low_byte (b8_16 hx) h3 (k := 14) (by decide) (show 14 < 16 by decide))).2).trans (show y 14 = 0 from (AV.int.inj (low_byte (b8_16 hy) hl (k := 14) (by decide) (show 14 < 16 by decide))).2).symm
  have q15 : x 15 = y 15 := (show x 15 = 0 from (AV.int.inj (low_byte (b8_16 hx) h3 (k := 15) (by decide) (show 15 < 16 by decide))).2).trans (show y 15 = 0 from (AV.int.inj (low_byte (b8_16 hy) hl (k := 15) (by decide) (show 15 < 16 by decide))).2).symm
  have e1 : takX 56 [.int .u8 (y 0), .int .u8 (y 1), .int .u8 (y 2), .int .u8 (y 3), .int .u8 (y 4), .int .u8 (y 5), .int .u8 (y 6), .int .u8 (y 7), .int .u8 (y 8), .int .u8 (y 9), .int .u8 (y 10), .int .u8 (y 11), .int .u8 (y 12), .int .u8 (y 13), .int .u8 (y 14), .int .u8 (y 15)] z4 = [.int .u8 (y 7), .int .u8 (y 9), .int .u8 (y 10), .int .u8 (y 11)] := tak_56 hy
  rw [e1]
  have e2 : layX 56 [.int .u8 (y 7), .int .u8 (y 9), .int .u8 (y 10), .int .u8 (y 11)] [.int .u8 (x 0), .int .u8 (x 1), .int .u8 (x 2), .int .u8 (x 3), .int .u8 (x 4), .int .u8 (x 5), .int .u8 (x 6), .int .u8 (x 7), .int .u8 (x 8), .int .u8 (x 9), .int .u8 (x 10), .int .u8 (x 11), .int .u8 (x 12), .int .u8 (x 13), .int .u8 (x 14), .int .u8 (x 15)] = [.int .u8 (x 0), .int .u8 (x 1), .int .u8 (x 2), .int .u8 (x 3), .int .u8 (x 4), .int .u8 (x 5), .int .u8 (x 6), .int .u8 (y 7), .int .u8 (x 8), .int .u8 (y 9), .int .u8 (y 10), .int .u8 (y 11), .int .u8 (x 12), .int .u8 (x 13), .int .u8 (x 14), .int .u8 (x 15)] := lay_56 (z := fun k => ([y 7, y 9, y 10, y 11] : List Int).getD k 0) hx (b8_list (by
    intro v hv
    simp only [List.mem_cons, List.not_mem_nil, or_false] at hv
    rcases hv with rfl | rfl | rfl | rfl
    · exact hy 7
    · exact hy 9
    · exact hy 10
    · exact hy 11)) h3
  rw [e2]
  simp only [q0, q1, q2, q3, q4, q5, q6, q8, q12, q13, q14, q15]

theorem fwd_64 {x z : Nat → Int} (hx : b8 x) (hz : b8 z) (h : embE [.int .u8 (x 0), .int .u8 (x 1), .int .u8 (x 2), .int .u8 (x 3), .int .u8 (x 4), .int .u8 (x 5), .int .u8 (x 6), .int .u8 (x 7), .int .u8 (x 8), .int .u8 (x 9), .int .u8 (x 10), .int .u8 (x 11), .int .u8 (x 12), .int .u8 (x 13), .int .u8 (x 14), .int .u8 (x 15)] 64 = 0) : getEr 64 [.int .u8 (x 0), .int .u8 (x 1), .int .u8 (x 2), .int .u8 (x 3), .int .u8 (x 4), .int .u8 (x 5), .int .u8 (x 6), .int .u8 (x 7), .int .u8 (x 8), .int .u8 (x 9), .int .u8 (x 10), .int .u8 (x 11), .int .u8 (x 12), .int .u8 (x 13), .int .u8 (x 14), .int .u8 (x 15)] (layX 64 [.int .u8 (z 0), .int .u8 (z 1), .int .u8 (z 2), .int .u8 (z 3)] [.int .u8 (x 0), .int .u8 (x 1), .int .u8 (x 2), .int .u8 (x 3), .int .u8 (x 4), .int .u8 (x 5), .int .u8 (x 6), .int .u8 (x 7), .int .u8 (x 8), .int .u8 (x 9), .int .u8 (x 10), .int .u8 (x 11), .int .u8 (x 12), .int .u8 (x 13), .int .u8 (x 14), .int .u8 (x 15)]) = 0 ∧ strE 64 [.int .u8 (x 0), .int .u8 (x 1), .int .u8 (x 2), .int .u8 (x 3), .int .u8 (x 4), .int .u8 (x 5), .int .u8 (x 6), .int .u8 (x 7), .int .u8 (x 8), .int .u8 (x 9), .int .u8 (x 10), .int .u8 (x 11), .int .u8 (x 12), .int .u8 (x 13), .int .u8 (x 14), .int .u8 (x 15)] (layX 64 [.int .u8 (z 0), .int .u8 (z 1), .int .u8 (z 2), .int .u8 (z 3)] [.int .u8 (x 0), .int .u8 (x 1), .int .u8 (x 2), .int .u8 (x 3), .int .u8 (x 4), .int .u8 (x 5), .int .u8 (x 6), .int .u8 (x 7), .int .u8 (x 8), .int .u8 (x 9), .int .u8 (x 10), .int .u8 (x 11), .int .u8 (x 12), .int .u8 (x 13), .int .u8 (x 14), .int .u8 (x 15)]) = 0 ∧ takX 64 (layX 64 [.int .u8 (z 0), .int .u8 (z 1), .int .u8 (z 2), .int .u8 (z 3)] [.int .u8 (x 0), .int .u8 (x 1), .int .u8 (x 2), .int .u8 (x 3), .int .u8 (x 4), .int .u8 (x 5), .int .u8 (x 6), .int .u8 (x 7), .int .u8 (x 8), .int .u8 (x 9), .int .u8 (x 10), .int .u8 (x 11), .int .u8 (x 12), .int .u8 (x 13), .int .u8 (x 14), .int .u8 (x 15)]) z4 = [.int .u8 (z 0), .int .u8 (z 1), .int .u8 (z 2), .int .u8 (z 3)] := by
  obtain ⟨hc, _, h3, h8⟩ := embE_zero h
  have h3 : lowB [.int .u8 (x 0), .int .u8 (x 1), .int .u8 (x 2), .int .u8 (x 3), .int .u8 (x 4), .int .u8 (x 5), .int .u8 (x 6), .int .u8 (x 7), .int .u8 (x 8), .int .u8 (x 9), .int .u8 (x 10), .int .u8 (x 11), .int .u8 (x 12), .int .u8 (x 13), .int .u8 (x 14), .int .u8 (x 15)] 64 = true := h3
  rw [lay_64 hx hz h3]
  have ht : takX 64 [.int .u8 (x 0), .int .u8 (x 1), .int .u8 (x 2), .int .u8 (x 3), .int .u8 (x 4), .int .u8 (x 5), .int .u8 (x 6), .int .u8 (x 7), .int .u8 (x 8), .int .u8 (z 0), .int .u8 (z 1), .int .u8 (z 2), .int .u8 (z 3), .int .u8 (x 13), .int .u8 (x 14), .int .u8 (x 15)] z4 = [.int .u8 (z 0), .int .u8 (z 1), .int .u8 (z 2), .int .u8 (z 3)] := tak_64 (x := fun k => ([x 0, x 1, x 2, x 3, x 4, x 5, x 6, x 7, x 8, z 0, z 1, z 2, z 3, x 13, x 14, x 15] : List Int).getD k 0) (b8_list (by
    intro v hv
    simp only [List.mem_cons, List.not_mem_nil, or_false] at hv
    rcases hv with rfl | rfl | rfl | rfl | rfl | rfl | rfl | rfl | rfl | rfl | rfl | rfl | rfl | rfl | rfl | rfl
    · exact hx 0
    · exact hx 1
    · exact hx 2
    · exact hx 3
    · exact hx 4
    · exact hx 5
    · exact hx 6
    · exact hx 7
    · exact hx 8
    · exact hz 0
    · exact hz 1
    · exact hz 2
    · exact hz 3
    · exact hx 13
    · exact hx 14
    · exact hx 15))
  have hs : sameB [.int .u8 (x 0), .int .u8 (x 1), .int .u8 (x 2), .int .u8 (x 3), .int .u8 (x 4), .int .u8 (x 5), .int .u8 (x 6), .int .u8 (x 7), .int .u8 (x 8), .int .u8 (x 9), .int .u8 (x 10), .int .u8 (x 11), .int .u8 (x 12), .int .u8 (x 13), .int .u8 (x 14), .int .u8 (x 15)] [.int .u8 (x 0), .int .u8 (x 1), .int .u8 (x 2), .int .u8 (x 3), .int .u8 (x 4), .int .u8 (x 5), .int .u8 (x 6), .int .u8 (x 7), .int .u8 (x 8), .int .u8 (z 0), .int .u8 (z 1), .int .u8 (z 2), .int .u8 (z 3), .int .u8 (x 13), .int .u8 (x 14), .int .u8 (x 15)] 64 = true := sameB_iff.2 fun j hj => bitV_at (by
    have hq : j / 8 < 8 := by omega
    generalize j / 8 = q at hq
    match q, hq with
    | 0, _ => rfl
    | 1, _ => rfl
    | 2, _ => rfl
    | 3, _ => rfl
    | 4, _ => rfl
    | 5, _ => rfl
    | 6, _ => rfl
    | 7, _ => rfl
    | q + 8, hq => exact absurd hq (by omega))
  have hl : lowB [.int .u8 (x 0), .int .u8 (x 1), .int .u8 (x 2), .int .u8 (x 3), .int .u8 (x 4), .int .u8 (x 5), .int .u8 (x 6), .int .u8 (x 7), .int .u8 (x 8), .int .u8 (z 0), .int .u8 (z 1), .int .u8 (z 2), .int .u8 (z 3), .int .u8 (x 13), .int .u8 (x 14), .int .u8 (x 15)] 104 = true := lowB_iff.2 fun j h1 h2 => (bitV_at (by
    have h2 : j < 128 := h2
    have hq : j / 8 < 16 := by omega
    have hq2 : 13 ≤ j / 8 := by omega
    generalize j / 8 = q at hq hq2
    match q, hq, hq2 with
    | 13, _, _ => rfl
    | 14, _, _ => rfl
    | 15, _, _ => rfl
    | q + 16, hq, _ => exact absurd hq (by omega)
    | 0, _, hq2 => exact absurd hq2 (by omega)
    | 1, _, hq2 => exact absurd hq2 (by omega)
    | 2, _, hq2 => exact absurd hq2 (by omega)
    | 3, _, hq2 => exact absurd hq2 (by omega)
    | 4, _, hq2 => exact absurd hq2 (by omega)
    | 5, _, hq2 => exact absurd hq2 (by omega)
    | 6, _, hq2 => exact absurd hq2 (by omega)
    | 7, _, hq2 => exact absurd hq2 (by omega)
    | 8, _, hq2 => exact absurd hq2 (by omega)
    | 9, _, hq2 => exact absurd hq2 (by omega)
    | 10, _, hq2 => exact absurd hq2 (by omega)
    | 11, _, hq2 => exact absurd hq2 (by omega)
    | 12, _, hq2 => exact absurd hq2 (by omega))).trans (lowB_iff.1 h3 j (by omega) h2)
  have h8' : byteAt [.int .u8 (x 0), .int .u8 (x 1), .int .u8 (x 2), .int .u8 (x 3), .int .u8 (x 4), .int .u8 (x 5), .int .u8 (x 6), .int .u8 (x 7), .int .u8 (x 8), .int .u8 (z 0), .int .u8 (z 1), .int .u8 (z 2), .int .u8 (z 3), .int .u8 (x 13), .int .u8 (x 14), .int .u8 (x 15)] 8 = 0 := h8
  have hg : getEr 64 [.int .u8 (x 0), .int .u8 (x 1), .int .u8 (x 2), .int .u8 (x 3), .int .u8 (x 4), .int .u8 (x 5), .int .u8 (x 6), .int .u8 (x 7), .int .u8 (x 8), .int .u8 (x 9), .int .u8 (x 10), .int .u8 (x 11), .int .u8 (x 12), .int .u8 (x 13), .int .u8 (x 14), .int .u8 (x 15)] [.int .u8 (x 0), .int .u8 (x 1), .int .u8 (x 2), .int .u8 (x 3), .int .u8 (x 4), .int .u8 (x 5), .int .u8 (x 6), .int .u8 (x 7), .int .u8 (x 8), .int .u8 (z 0), .int .u8 (z 1), .int .u8 (z 2), .int .u8 (z 3), .int .u8 (x 13), .int .u8 (x 14), .int .u8 (x 15)] = 0 := by
    unfold getEr
    have hi : inB 128 [.int .u8 (x 0), .int .u8 (x 1), .int .u8 (x 2), .int .u8 (x 3), .int .u8 (x 4), .int .u8 (x 5), .int .u8 (x 6), .int .u8 (x 7), .int .u8 (x 8), .int .u8 (x 9), .int .u8 (x 10), .int .u8 (x 11), .int .u8 (x 12), .int .u8 (x 13), .int .u8 (x 14), .int .u8 (x 15)] [.int .u8 (x 0), .int .u8 (x 1), .int .u8 (x 2), .int .u8 (x 3), .int .u8 (x 4), .int .u8 (x 5), .int .u8 (x 6), .int .u8 (x 7), .int .u8 (x 8), .int .u8 (z 0), .int .u8 (z 1), .int .u8 (z 2), .int .u8 (z 3), .int .u8 (x 13), .int .u8 (x 14), .int .u8 (x 15)] 64 = true := by
      unfold inB
      rw [hc]
      exact hs
    rw [h, hi, h8']; rfl
  refine ⟨hg, ?_, ht⟩
  unfold strE
  rw [hg, show placeN 64 31 + 1 = 104 from rfl, hl]; rfl

theorem bwd_64 {x y : Nat → Int} (hx : b8 x) (hy : b8 y) (h : strE 64 [.int .u8 (x 0), .int .u8 (x 1), .int .u8 (x 2), .int .u8 (x 3), .int .u8 (x 4), .int .u8 (x 5), .int .u8 (x 6), .int .u8 (x 7), .int .u8 (x 8), .int .u8 (x 9), .int .u8 (x 10), .int .u8 (x 11), .int .u8 (x 12), .int .u8 (x 13), .int .u8 (x 14), .int .u8 (x 15)] [.int .u8 (y 0), .int .u8 (y 1), .int .u8 (y 2), .int .u8 (y 3), .int .u8 (y 4), .int .u8 (y 5), .int .u8 (y 6), .int .u8 (y 7), .int .u8 (y 8), .int .u8 (y 9), .int .u8 (y 10), .int .u8 (y 11), .int .u8 (y 12), .int .u8 (y 13), .int .u8 (y 14), .int .u8 (y 15)] = 0) : layX 64 (takX 64 [.int .u8 (y 0), .int .u8 (y 1), .int .u8 (y 2), .int .u8 (y 3), .int .u8 (y 4), .int .u8 (y 5), .int .u8 (y 6), .int .u8 (y 7), .int .u8 (y 8), .int .u8 (y 9), .int .u8 (y 10), .int .u8 (y 11), .int .u8 (y 12), .int .u8 (y 13), .int .u8 (y 14), .int .u8 (y 15)] z4) [.int .u8 (x 0), .int .u8 (x 1), .int .u8 (x 2), .int .u8 (x 3), .int .u8 (x 4), .int .u8 (x 5), .int .u8 (x 6), .int .u8 (x 7), .int .u8 (x 8), .int .u8 (x 9), .int .u8 (x 10), .int .u8 (x 11), .int .u8 (x 12), .int .u8 (x 13), .int .u8 (x 14), .int .u8 (x 15)] = [.int .u8 (y 0), .int .u8 (y 1), .int .u8 (y 2), .int .u8 (y 3), .int .u8 (y 4), .int .u8 (y 5), .int .u8 (y 6), .int .u8 (y 7), .int .u8 (y 8), .int .u8 (y 9), .int .u8 (y 10), .int .u8 (y 11), .int .u8 (y 12), .int .u8 (y 13), .int .u8 (y 14), .int .u8 (y 15)] := by
  rcases strE_or 64 [.int .u8 (x 0), .int .u8 (x 1), .int .u8 (x 2), .int .u8 (x 3), .int .u8 (x 4), .int .u8 (x 5), .int .u8 (x 6), .int .u8 (x 7), .int .u8 (x 8), .int .u8 (x 9), .int .u8 (x 10), .int .u8 (x 11), .int .u8 (x 12), .int .u8 (x 13), .int .u8 (x 14), .int .u8 (x 15)] [.int .u8 (y 0), .int .u8 (y 1), .int .u8 (y 2), .int .u8 (y 3), .int .u8 (y 4), .int .u8 (y 5), .int .u8 (y 6), .int .u8 (y 7), .int .u8 (y 8), .int .u8 (y 9), .int .u8 (y 10), .int .u8 (y 11), .int .u8 (y 12), .int .u8 (y 13), .int .u8 (y 14), .int .u8 (y 15)] with ⟨_, hg, hl⟩ | h1 | ⟨h1, h2⟩
  rotate_left
  · rw [h1] at h; cases h
  · exact absurd (h1.symm.trans h) h2
  rcases getEr_or 64 [.int .u8 (x 0), .int .u8 (x 1), .int .u8 (x 2), .int .u8 (x 3), .int .u8 (x 4), .int .u8 (x 5), .int .u8 (x 6), .int .u8 (x 7), .int .u8 (x 8), .int .u8 (x 9), .int .u8 (x 10), .int .u8 (x 11), .int .u8 (x 12), .int .u8 (x 13), .int .u8 (x 14), .int .u8 (x 15)] [.int .u8 (y 0), .int .u8 (y 1), .int .u8 (y 2), .int .u8 (y 3), .int .u8 (y 4), .int .u8 (y 5), .int .u8 (y 6), .int .u8 (y 7), .int .u8 (y 8), .int .u8 (y 9), .int .u8 (y 10), .int .u8 (y 11), .int .u8 (y 12), .int .u8 (y 13), .int .u8 (y 14), .int .u8 (y 15)] with ⟨_, he, hi, h8y⟩ | h1 | h1 | h1 | h1
  rotate_left
  · rw [h1] at hg; cases hg
  · rw [h1] at hg; cases hg
  · rw [h1] at hg; cases hg
  · rw [h1] at hg; cases hg
  obtain ⟨hc, _, h3, h8⟩ := embE_zero he
  have h3 : lowB [.int .u8 (x 0), .int .u8 (x 1), .int .u8 (x 2), .int .u8 (x 3), .int .u8 (x 4), .int .u8 (x 5), .int .u8 (x 6), .int .u8 (x 7), .int .u8 (x 8), .int .u8 (x 9), .int .u8 (x 10), .int .u8 (x 11), .int .u8 (x 12), .int .u8 (x 13), .int .u8 (x 14), .int .u8 (x 15)] 64 = true := h3
  have hl : lowB [.int .u8 (y 0), .int .u8 (y 1), .int .u8 (y 2), .int .u8 (y 3), .int .u8 (y 4), .int .u8 (y 5), .int .u8 (y 6), .int .u8 (y 7), .int .u8 (y 8), .int .u8 (y 9), .int .u8 (y 10), .int .u8 (y 11), .int .u8 (y 12), .int .u8 (y 13), .int .u8 (y 14), .int .u8 (y 15)] 104 = true := hl
  have hs : sameB [.int .u8 (x 0), .int .u8 (x 1), .int .u8 (x 2), .int .u8 (x 3), .int .u8 (x 4), .int .u8 (x 5), .int .u8 (x 6), .int .u8 (x 7), .int .u8 (x 8), .int .u8 (x 9), .int .u8 (x 10), .int .u8 (x 11), .int .u8 (x 12), .int .u8 (x 13), .int .u8 (x 14), .int .u8 (x 15)] [.int .u8 (y 0), .int .u8 (y 1), .int .u8 (y 2), .int .u8 (y 3), .int .u8 (y 4), .int .u8 (y 5), .int .u8 (y 6), .int .u8 (y 7), .int .u8 (y 8), .int .u8 (y 9), .int .u8 (y 10), .int .u8 (y 11), .int .u8 (y 12), .int .u8 (y 13), .int .u8 (y 14), .int .u8 (y 15)] 64 = true := by
    unfold inB at hi
    rw [hc] at hi
    exact hi
  have q0 : x 0 = y 0 := (AV.int.inj (same_at (b8_16 hx) (b8_16 hy) hs (k := 0) (by decide) (show 0 < 16 by decide) (show 0 < 16 by decide))).2
  have q1 : x 1 = y 1 := (AV.int.inj (same_at (b8_16 hx) (b8_16 hy) hs (k := 1) (by decide) (show 1 < 16 by decide) (show 1 < 16 by decide))).2
  have q2 : x 2 = y 2 := (AV.int.inj (same_at (b8_16 hx) (b8_16 hy) hs (k := 2) (by decide) (show 2 < 16 by decide) (show 2 < 16 by decide))).2
  have q3 : x 3 = y 3 := (AV.int.inj (same_at (b8_16 hx) (b8_16 hy) hs (k := 3) (by decide) (show 3 < 16 by decide) (show 3 < 16 by decide))).2
  have q4 : x 4 = y 4 := (AV.int.inj (same_at (b8_16 hx) (b8_16 hy) hs (k := 4) (by decide) (show 4 < 16 by decide) (show 4 < 16 by decide))).2
  have q5 : x 5 = y 5 := (AV.int.inj (same_at (b8_16 hx) (b8_16 hy) hs (k := 5) (by decide) (show 5 < 16 by decide) (show 5 < 16 by decide))).2
  have q6 : x 6 = y 6 := (AV.int.inj (same_at (b8_16 hx) (b8_16 hy) hs (k := 6) (by decide) (show 6 < 16 by decide) (show 6 < 16 by decide))).2
  have q7 : x 7 = y 7 := (AV.int.inj (same_at (b8_16 hx) (b8_16 hy) hs (k := 7) (by decide) (show 7 < 16 by decide) (show 7 < 16 by decide))).2
  have q8 : x 8 = y 8 := (show x 8 = 0 from h8).trans (show y 8 = 0 from h8y).symm
  have q13 : x 13 = y 13 := (show x 13 = 0 from (AV.int.inj (low_byte (b8_16 hx) h3 (k := 13) (by decide) (show 13 < 16 by decide))).2).trans (show y 13 = 0 from (AV.int.inj (low_byte (b8_16 hy) hl (k := 13) (by decide) (show 13 < 16 by decide))).2).symm
  have q14 : x 14 = y 14 := (show x 14 = 0 from (AV.int.inj (low_byte (b8_16 hx) h3 (k := 14) (by decide) (show 14 < 16 by decide))).2).trans (show y 14 = 0 from (AV.int.inj (low_byte (b8_16 hy) hl (k := 14) (by decide) (show 14 < 16 by decide))).2).symm
  have q15 : x 15 = y 15 := (show x 15 = 0 from (AV.int.inj (low_byte (b8_16 hx) h3 (k := 15) (by decide) (show 15 < 16 by decide))).2).trans (show y 15 = 0 from (AV.int.inj (low_byte (b8_16 hy) hl (k := 15) (by decide) (show 15 < 16 by decide))).2).symm
  have e1 : takX 64 [.int .u8 (y 0), .int .u8 (y 1), .int .u8 (y 2), .int .u8 (y 3), .int .u8 (y 4), .int .u8 (y 5), .int .u8 (y 6), .int .u8 (y 7), .int .u8 (y 8), .int .u8 (y 9), .int .u8 (y 10), .int .u8 (y 11), .int .u8 (y 12), .int .u8 (y 13), .int .u8 (y 14), .int .u8 (y 15)] z4 = [.int .u8 (y 9), .int .u8 (y 10), .int .u8 (y 11), .int .u8 (y 12)] := tak_64 hy
  rw [e1]
  have e2 : layX 64 [.int .u8 (y 9), .int .u8 (y 10), .int .u8 (y 11), .int .u8 (y 12)] [.int .u8 (x 0), .int .u8 (x 1), .int .u8 (x 2), .int .u8 (x 3), .int .u8 (x 4), .int .u8 (x 5), .int .u8 (x 6), .int .u8 (x 7), .int .u8 (x 8), .int .u8 (x 9), .int .u8 (x 10), .int .u8 (x 11), .int .u8 (x 12), .int .u8 (x 13), .int .u8 (x 14), .int .u8 (x 15)] = [.int .u8 (x 0), .int .u8 (x 1), .int .u8 (x 2), .int .u8 (x 3), .int .u8 (x 4), .int .u8 (x 5), .int .u8 (x 6), .int .u8 (x 7), .int .u8 (x 8), .int .u8 (y 9), .int .u8 (y 10), .int .u8 (y 11), .int .u8 (y 12), .int .u8 (x 13), .int .u8 (x 14), .int .u8 (x 15)] := lay_64 (z := fun k => ([y 9, y 10, y 11, y 12] : List Int).getD k 0) hx (b8_list (by
    intro v hv
    simp only [List.mem_cons, List.not_mem_nil, or_false] at hv
    rcases hv with rfl | rfl | rfl | rfl
    · exact hy 9
    · exact hy 10
    · exact hy 11
    · exact hy 12)) h3
  rw [e2]
  simp only [q0, q1, q2, q3, q4, q5, q6, q7, q8, q13, q14, q15]

theorem fwd_96 {x z : Nat → Int} (hx : b8 x) (hz : b8 z) (h : embE [.int .u8 (x 0), .int .u8 (x 1), .int .u8 (x 2), .int .u8 (x 3), .int .u8 (x 4), .int .u8 (x 5), .int .u8 (x 6), .int .u8 (x 7), .int .u8 (x 8), .int .u8 (x 9), .int .u8 (x 10), .int .u8 (x 11), .int .u8 (x 12), .int .u8 (x 13), .int .u8 (x 14), .int .u8 (x 15)] 96 = 0) : getEr 96 [.int .u8 (x 0), .int .u8 (x 1), .int .u8 (x 2), .int .u8 (x 3), .int .u8 (x 4), .int .u8 (x 5), .int .u8 (x 6), .int .u8 (x 7), .int .u8 (x 8), .int .u8 (x 9), .int .u8 (x 10), .int .u8 (x 11), .int .u8 (x 12), .int .u8 (x 13), .int .u8 (x 14), .int .u8 (x 15)] (layX 96 [.int .u8 (z 0), .int .u8 (z 1), .int .u8 (z 2), .int .u8 (z 3)] [.int .u8 (x 0), .int .u8 (x 1), .int .u8 (x 2), .int .u8 (x 3), .int .u8 (x 4), .int .u8 (x 5), .int .u8 (x 6), .int .u8 (x 7), .int .u8 (x 8), .int .u8 (x 9), .int .u8 (x 10), .int .u8 (x 11), .int .u8 (x 12), .int .u8 (x 13), .int .u8 (x 14), .int .u8 (x 15)]) = 0 ∧ strE 96 [.int .u8 (x 0), .int .u8 (x 1), .int .u8 (x 2), .int .u8 (x 3), .int .u8 (x 4), .int .u8 (x 5), .int .u8 (x 6), .int .u8 (x 7), .int .u8 (x 8), .int .u8 (x 9), .int .u8 (x 10), .int .u8 (x 11), .int .u8 (x 12), .int .u8 (x 13), .int .u8 (x 14), .int .u8 (x 15)] (layX 96 [.int .u8 (z 0), .int .u8 (z 1), .int .u8 (z 2), .int .u8 (z 3)] [.int .u8 (x 0), .int .u8 (x 1), .int .u8 (x 2), .int .u8 (x 3), .int .u8 (x 4), .int .u8 (x 5), .int .u8 (x 6), .int .u8 (x 7), .int .u8 (x 8), .int .u8 (x 9), .int .u8 (x 10), .int .u8 (x 11), .int .u8 (x 12), .int .u8 (x 13), .int .u8 (x 14), .int .u8 (x 15)]) = 0 ∧ takX 96 (layX 96 [.int .u8 (z 0), .int .u8 (z 1), .int .u8 (z 2), .int .u8 (z 3)] [.int .u8 (x 0), .int .u8 (x 1), .int .u8 (x 2), .int .u8 (x 3), .int .u8 (x 4), .int .u8 (x 5), .int .u8 (x 6), .int .u8 (x 7), .int .u8 (x 8), .int .u8 (x 9), .int .u8 (x 10), .int .u8 (x 11), .int .u8 (x 12), .int .u8 (x 13), .int .u8 (x 14), .int .u8 (x 15)]) z4 = [.int .u8 (z 0), .int .u8 (z 1), .int .u8 (z 2), .int .u8 (z 3)] := by
  obtain ⟨hc, _, h3, h8⟩ := embE_zero h
  have h3 : lowB [.int .u8 (x 0), .int .u8 (x 1), .int .u8 (x 2), .int .u8 (x 3), .int .u8 (x 4), .int .u8 (x 5), .int .u8 (x 6), .int .u8 (x 7), .int .u8 (x 8), .int .u8 (x 9), .int .u8 (x 10), .int .u8 (x 11), .int .u8 (x 12), .int .u8 (x 13), .int .u8 (x 14), .int .u8 (x 15)] 96 = true := h3
  rw [lay_96 hx hz h3]
  have ht : takX 96 [.int .u8 (x 0), .int .u8 (x 1), .int .u8 (x 2), .int .u8 (x 3), .int .u8 (x 4), .int .u8 (x 5), .int .u8 (x 6), .int .u8 (x 7), .int .u8 (x 8), .int .u8 (x 9), .int .u8 (x 10), .int .u8 (x 11), .int .u8 (z 0), .int .u8 (z 1), .int .u8 (z 2), .int .u8 (z 3)] z4 = [.int .u8 (z 0), .int .u8 (z 1), .int .u8 (z 2), .int .u8 (z 3)] := tak_96 (x := fun k => ([x 0, x 1, x 2, x 3, x 4, x 5, x 6, x 7, x 8, x 9, x 10, x 11, z 0, z 1, z 2, z 3] : List Int).getD k 0) (b8_list (by
    intro v hv
    simp only [List.mem_cons, List.not_mem_nil, or_false] at hv
    rcases hv with rfl | rfl | rfl | rfl | rfl | rfl | rfl | rfl | rfl | rfl | rfl | rfl | rfl | rfl | rfl | rfl
    · exact hx 0
    · exact hx 1
    · exact hx 2
    · exact hx 3
    · exact hx 4
    · exact hx 5
    · exact hx 6
    · exact hx 7
    · exact hx 8
    · exact hx 9
    · exact hx 10
    · exact hx 11
    · exact hz 0
    · exact hz 1
    · exact hz 2
    · exact hz 3))
  have hs : sameB [.int .u8 (x 0), .int .u8 (x 1), .int .u8 (x 2), .int .u8 (x 3), .int .u8 (x 4), .int .u8 (x 5), .int .u8 (x 6), .int .u8 (x 7), .int .u8 (x 8), .int .u8 (x 9), .int .u8 (x 10), .int .u8 (x 11), .int .u8 (x 12), .int .u8 (x 13), .int .u8 (x 14), .int .u8 (x 15)] [.int .u8 (x 0), .int .u8 (x 1), .int .u8 (x 2), .int .u8 (x 3), .int .u8 (x 4), .int .u8 (x 5), .int .u8 (x 6), .int .u8 (x 7), .int .u8 (x 8), .int .u8 (x 9), .int .u8 (x 10), .int .u8 (x 11), .int .u8 (z 0), .int .u8 (z 1), .int .u8 (z 2), .int .u8 (z 3)] 96 = true := sameB_iff.2 fun j hj => bitV_at (by
    have hq : j / 8 < 12 := by omega
    generalize j / 8 = q at hq
    match q, hq with
    | 0, _ => rfl
    | 1, _ => rfl
    | 2, _ => rfl
    | 3, _ => rfl
    | 4, _ => rfl
    | 5, _ => rfl
    | 6, _ => rfl
    | 7, _ => rfl
    | 8, _ => rfl
    | 9, _ => rfl
    | 10, _ => rfl
    | 11, _ => rfl
    | q + 12, hq => exact absurd hq (by omega))
  have hl : lowB [.int .u8 (x 0), .int .u8 (x 1), .int .u8 (x 2), .int .u8 (x 3), .int .u8 (x 4), .int .u8 (x 5), .int .u8 (x 6), .int .u8 (x 7), .int .u8 (x 8), .int .u8 (x 9), .int .u8 (x 10), .int .u8 (x 11), .int .u8 (z 0), .int .u8 (z 1), .int .u8 (z 2), .int .u8 (z 3)] 128 = true := lowB_iff.2 fun j h1 h2 => (bitV_at (by
    have h2 : j < 128 := h2
    have hq : j / 8 < 16 := by omega
    have hq2 : 16 ≤ j / 8 := by omega
    generalize j / 8 = q at hq hq2
    match q, hq, hq2 with

    | q + 16, hq, _ => exact absurd hq (by omega)
    | 0, _, hq2 => exact absurd hq2 (by omega)
    | 1, _, hq2 => exact absurd hq2 (by omega)
    | 2, _, hq2 => exact absurd hq2 (by omega)
    | 3, _, hq2 => exact absurd hq2 (by omega)
    | 4, _, hq2 => exact absurd hq2 (by omega)
    | 5, _, hq2 => exact absurd hq2 (by omega)
    | 6, _, hq2 => exact absurd hq2 (by omega)
    | 7, _, hq2 => exact absurd hq2 (by omega)
    | 8, _, hq2 => exact absurd hq2 (by omega)
    | 9, _, hq2 => exact absurd hq2 (by omega)
    | 10, _, hq2 => exact absurd hq2 (by omega)
    | 11, _, hq2 => exact absurd hq2 (by omega)
    | 12, _, hq2 => exact absurd hq2 (by omega)
    | 13, _, hq2 => exact absurd hq2 (by omega)
    | 14, _, hq2 => exact absurd hq2 (by omega)
    | 15, _, hq2 => exact absurd hq2 (by omega))).trans (lowB_iff.1 h3 j (by omega) h2)
  have h8' : byteAt [.int .u8 (x 0), .int .u8 (x 1), .int .u8 (x 2), .int .u8 (x 3), .int .u8 (x 4), .int .u8 (x 5), .int .u8 (x 6), .int .u8 (x 7), .int .u8 (x 8), .int .u8 (x 9), .int .u8 (x 10), .int .u8 (x 11), .int .u8 (z 0), .int .u8 (z 1), .int .u8 (z 2), .int .u8 (z 3)] 8 = 0 := h8
  have hg : getEr 96 [.int .u8 (x 0), .int .u8 (x 1), .int .u8 (x 2), .int .u8 (x 3), .int .u8 (x 4), .int .u8 (x 5), .int .u8 (x 6), .int .u8 (x 7), .int .u8 (x 8), .int .u8 (x 9), .int .u8 (x 10), .int .u8 (x 11), .int .u8 (x 12), .int .u8 (x 13), .int .u8 (x 14), .int .u8 (x 15)] [.int .u8 (x 0), .int .u8 (x 1), .int .u8 (x 2), .int .u8 (x 3), .int .u8 (x 4), .int .u8 (x 5), .int .u8 (x 6), .int .u8 (x 7), .int .u8 (x 8), .int .u8 (x 9), .int .u8 (x 10), .int .u8 (x 11), .int .u8 (z 0), .int .u8 (z 1), .int .u8 (z 2), .int .u8 (z 3)] = 0 := by
    unfold getEr
    have hi : inB 128 [.int .u8 (x 0), .int .u8 (x 1), .int .u8 (x 2), .int .u8 (x 3), .int .u8 (x 4), .int .u8 (x 5), .int .u8 (x 6), .int .u8 (x 7), .int .u8 (x 8), .int .u8 (x 9), .int .u8 (x 10), .int .u8 (x 11), .int .u8 (x 12), .int .u8 (x 13), .int .u8 (x 14), .int .u8 (x 15)] [.int .u8 (x 0), .int .u8 (x 1), .int .u8 (x 2), .int .u8 (x 3), .int .u8 (x 4), .int .u8 (x 5), .int .u8 (x 6), .int .u8 (x 7), .int .u8 (x 8), .int .u8 (x 9), .int .u8 (x 10), .int .u8 (x 11), .int .u8 (z 0), .int .u8 (z 1), .int .u8 (z 2), .int .u8 (z 3)] 96 = true := by
      unfold inB
      rw [hc]
      exact hs
    rw [h, hi, h8']; rfl
  refine ⟨hg, ?_, ht⟩
  unfold strE
  rw [hg, show placeN 96 31 + 1 = 128 from rfl, hl]; rfl

theorem bwd_96 {x y : Nat → Int} (hx : b8 x) (hy : b8 y) (h : strE 96 [.int .u8 (x 0), .int .u8 (x 1), .int .u8 (x 2), .int .u8 (x 3), .int .u8 (x 4), .int .u8 (x 5), .int .u8 (x 6), .int .u8 (x 7), .int .u8 (x 8), .int .u8 (x 9), .int .u8 (x 10), .int .u8 (x 11), .int .u8 (x 12), .int .u8 (x 13), .int .u8 (x 14), .int .u8 (x 15)] [.int .u8 (y 0), .int .u8 (y 1), .int .u8 (y 2), .int .u8 (y 3), .int .u8 (y 4), .int .u8 (y 5), .int .u8 (y 6), .int .u8 (y 7), .int .u8 (y 8), .int .u8 (y 9), .int .u8 (y 10), .int .u8 (y 11), .int .u8 (y 12), .int .u8 (y 13), .int .u8 (y 14), .int .u8 (y 15)] = 0) : layX 96 (takX 96 [.int .u8 (y 0), .int .u8 (y 1), .int .u8 (y 2), .int .u8 (y 3), .int .u8 (y 4), .int .u8 (y 5), .int .u8 (y 6), .int .u8 (y 7), .int .u8 (y 8), .int .u8 (y 9), .int .u8 (y 10), .int .u8 (y 11), .int .u8 (y 12), .int .u8 (y 13), .int .u8 (y 14), .int .u8 (y 15)] z4) [.int .u8 (x 0), .int .u8 (x 1), .int .u8 (x 2), .int .u8 (x 3), .int .u8 (x 4), .int .u8 (x 5), .int .u8 (x 6), .int .u8 (x 7), .int .u8 (x 8), .int .u8 (x 9), .int .u8 (x 10), .int .u8 (x 11), .int .u8 (x 12), .int .u8 (x 13), .int .u8 (x 14), .int .u8 (x 15)] = [.int .u8 (y 0), .int .u8 (y 1), .int .u8 (y 2), .int .u8 (y 3), .int .u8 (y 4), .int .u8 (y 5), .int .u8 (y 6), .int .u8 (y 7), .int .u8 (y 8), .int .u8 (y 9), .int .u8 (y 10), .int .u8 (y 11), .int .u8 (y 12), .int .u8 (y 13), .int .u8 (y 14), .int .u8 (y 15)] := by
  rcases strE_or 96 [.int .u8 (x 0), .int .u8 (x 1), .int .u8 (x 2), .int .u8 (x 3), .int .u8 (x 4), .int .u8 (x 5), .int .u8 (x 6), .int .u8 (x 7), .int .u8 (x 8), .int .u8 (x 9), .int .u8 (x 10), .int .u8 (x 11), .int .u8 (x 12), .int .u8 (x 13), .int .u8 (x 14), .int .u8 (x 15)] [.int .u8 (y 0), .int .u8 (y 1), .int .u8 (y 2), .int .u8 (y 3), .int .u8 (y 4), .int .u8 (y 5), .int .u8 (y 6), .int .u8 (y 7), .int .u8 (y 8), .int .u8 (y 9), .int .u8 (y 10), .int .u8 (y 11), .int .u8 (y 12), .int .u8 (y 13), .int .u8 (y 14), .int .u8 (y 15)] with ⟨_, hg, hl⟩ | h1 | ⟨h1, h2⟩
  rotate_left
  · rw [h1] at h; cases h
  · exact absurd (h1.symm.trans h) h2
  rcases getEr_or 96 [.int .u8 (x 0), .int .u8 (x 1), .int .u8 (x 2), .int .u8 (x 3), .int .u8 (x 4), .int .u8 (x 5), .int .u8 (x 6), .int .u8 (x 7), .int .u8 (x 8), .int .u8 (x 9), .int .u8 (x 10), .int .u8 (x 11), .int .u8 (x 12), .int .u8 (x 13), .int .u8 (x 14), .int .u8 (x 15)] [.int .u8 (y 0), .int .u8 (y 1), .int .u8 (y 2), .int .u8 (y 3), .int .u8 (y 4), .int .u8 (y 5), .int .u8 (y 6), .int .u8 (y 7), .int .u8 (y 8), .int .u8 (y 9), .int .u8 (y 10), .int .u8 (y 11), .int .u8 (y 12), .int .u8 (y 13), .int .u8 (y 14), .int .u8 (y 15)] with ⟨_, he, hi, h8y⟩ | h1 | h1 | h1 | h1
  rotate_left
  · rw [h1] at hg; cases hg
  · rw [h1] at hg; cases hg
  · rw [h1] at hg; cases hg
  · rw [h1] at hg; cases hg
  obtain ⟨hc, _, h3, h8⟩ := embE_zero he
  have h3 : lowB [.int .u8 (x 0), .int .u8 (x 1), .int .u8 (x 2), .int .u8 (x 3), .int .u8 (x 4), .int .u8 (x 5), .int .u8 (x 6), .int .u8 (x 7), .int .u8 (x 8), .int .u8 (x 9), .int .u8 (x 10), .int .u8 (x 11), .int .u8 (x 12), .int .u8 (x 13), .int .u8 (x 14), .int .u8 (x 15)] 96 = true := h3
  have hl : lowB [.int .u8 (y 0), .int .u8 (y 1), .int .u8 (y 2), .int .u8 (y 3), .int .u8 (y 4), .int .u8 (y 5), .int .u8 (y 6), .int .u8 (y 7), .int .u8 (y 8), .int .u8 (y 9), .int .u8 (y 10), .int .u8 (y 11), .int .u8 (y 12), .int .u8 (y 13), .int .u8 (y 14), .int .u8 (y 15)] 128 = true := hl
  have hs : sameB [.int .u8 (x 0), .int .u8 (x 1), .int .u8 (x 2), .int .u8 (x 3), .int .u8 (x 4), .int .u8 (x 5), .int .u8 (x 6), .int .u8 (x 7), .int .u8 (x 8), .int .u8 (x 9), .int .u8 (x 10), .int .u8 (x 11), .int .u8 (x 12), .int .u8 (x 13), .int .u8 (x 14), .int .u8 (x 15)] [.int .u8 (y 0), .int .u8 (y 1), .int .u8 (y 2), .int .u8 (y 3), .int .u8 (y 4), .int .u8 (y 5), .int .u8 (y 6), .int .u8 (y 7), .int .u8 (y 8), .int .u8 (y 9), .int .u8 (y 10), .int .u8 (y 11), .int .u8 (y 12), .int .u8 (y 13), .int .u8 (y 14), .int .u8 (y 15)] 96 = true := by
    unfold inB at hi
    rw [hc] at hi
    exact hi
  have q0 : x 0 = y 0 := (AV.int.inj (same_at (b8_16 hx) (b8_16 hy) hs (k := 0) (by decide) (show 0 < 16 by decide) (show 0 < 16 by decide))).2
  have q1 : x 1 = y 1 := (AV.int.inj (same_at (b8_16 hx) (b8_16 hy) hs (k := 1) (by decide) (show 1 < 16 by decide) (show 1 < 16 by decide))).2
  have q2 : x 2 = y 2 := (AV.int.inj (same_at (b8_16 hx) (b8_16 hy) hs (k := 2) (by decide) (show 2 < 16 by decide) (show 2 < 16 by decide))).2
  have q3 : x 3 = y 3 := (AV.int.inj (same_at (b8_16 hx) (b8_16 hy) hs (k := 3) (by decide) (show 3 < 16 by decide) (show 3 < 16 by decide))).2
  have q4 : x 4 = y 4 := (AV.int.inj (same_at (b8_16 hx) (b8_16 hy) hs (k := 4) (by decide) (show 4 < 16 by decide) (show 4 < 16 by decide))).2
  have q5 : x 5 = y 5 := (AV.int.inj (same_at (b8_16 hx) (b8_16 hy) hs (k := 5) (by decide) (show 5 < 16 by decide) (show 5 < 16 by decide))).2
  have q6 : x 6 = y 6 := (AV.int.inj (same_at (b8_16 hx) (b8_16 hy) hs (k := 6) (by decide) (show 6 < 16 by decide) (show 6 < 16 by decide))).2
  have q7 : x 7 = y 7 := (AV.int.inj (same_at (b8_16 hx) (b8_16 hy) hs (k := 7) (by decide) (show 7 < 16 by decide) (show 7 < 16 by decide))).2
  have q8 : x 8 = y 8 := (AV.int.inj (same_at (b8_16 hx) (b8_16 hy) hs (k := 8) (by decide) (show 8 < 16 by decide) (show 8 < 16 by decide))).2
  have q9 : x 9 = y 9 := (AV.int.inj (same_at (b8_16 hx) (b8_16 hy) hs (k := 9) (by decide) (show 9 < 16 by decide) (show 9 < 16 by decide))).2
  have q10 : x 10 = y 10 := (AV.int.inj (same_at (b8_16 hx) (b8_16 hy) hs (k := 10) (by decide) (show 10 < 16 by decide) (show 10 < 16 by decide))).2
  have q11 : x 11 = y 11 := (AV.int.inj (same_at (b8_16 hx) (b8_16 hy) hs (k := 11) (by decide) (show 11 < 16 by decide) (show 11 < 16 by decide))).2
  have e1 : takX 96 [.int .u8 (y 0), .int .u8 (y 1), .int .u8 (y 2), .int .u8 (y 3), .int .u8 (y 4), .int .u8 (y 5), .int .u8 (y 6), .int .u8 (y 7), .int .u8 (y 8), .int .u8 (y 9), .int .u8 (y 10), .int .u8 (y 11), .int .u8 (y 12), .int .u8 (y 13), .int .u8 (y 14), .int .u8 (y 15)] z4 = [.int .u8 (y 12), .int .u8 (y 13), .int .u8 (y 14), .int .u8 (y 15)] := tak_96 hy
  rw [e1]
  have e2 : layX 96 [.int .u8 (y 12), .int .u8 (y 13), .int .u8 (y 14), .int .u8 (y 15)] [.int .u8 (x 0), .int .u8 (x 1), .int .u8 (x 2), .int .u8 (x 3), .int .u8 (x 4), .int .u8 (x 5), .int .u8 (x 6), .int .u8 (x 7), .int .u8 (x 8), .int .u8 (x 9), .int .u8 (x 10), .int .u8 (x 11), .int .u8 (x 12), .int .u8 (x 13), .int .u8 (x 14), .int .u8 (x 15)] = [.int .u8 (x 0), .int .u8 (x 1), .int .u8 (x 2), .int .u8 (x 3), .int .u8 (x 4), .int .u8 (x 5), .int .u8 (x 6), .int .u8 (x 7), .int .u8 (x 8), .int .u8 (x 9), .int .u8 (x 10), .int .u8 (x 11), .int .u8 (y 12), .int .u8 (y 13), .int .u8 (y 14), .int .u8 (y 15)] := lay_96 (z := fun k => ([y 12, y 13, y 14, y 15] : List Int).getD k 0) hx (b8_list (by
    intro v hv
    simp only [List.mem_cons, List.not_mem_nil, or_false] at hv
    rcases hv with rfl | rfl | rfl | rfl
    · exact hy 12
    · exact hy 13
    · exact hy 14
    · exact hy 15)) h3
  rw [e2]
  simp only [q0, q1, q2, q3, q4, q5, q6, q7, q8, q9, q10, q11]

theorem fwd_all {x z : Nat → Int} {n : Int} (hx : b8 x) (hz : b8 z) (h : embE [.int .u8 (x 0), .int .u8 (x 1), .int .u8 (x 2), .int .u8 (x 3), .int .u8 (x 4), .int .u8 (x 5), .int .u8 (x 6), .int .u8 (x 7), .int .u8 (x 8), .int .u8 (x 9), .int .u8 (x 10), .int .u8 (x 11), .int .u8 (x 12), .int .u8 (x 13), .int .u8 (x 14), .int .u8 (x 15)] n = 0) : getEr n [.int .u8 (x 0), .int .u8 (x 1), .int .u8 (x 2), .int .u8 (x 3), .int .u8 (x 4), .int .u8 (x 5), .int .u8 (x 6), .int .u8 (x 7), .int .u8 (x 8), .int .u8 (x 9), .int .u8 (x 10), .int .u8 (x 11), .int .u8 (x 12), .int .u8 (x 13), .int .u8 (x 14), .int .u8 (x 15)] (layX n [.int .u8 (z 0), .int .u8 (z 1), .int .u8 (z 2), .int .u8 (z 3)] [.int .u8 (x 0), .int .u8 (x 1), .int .u8 (x 2), .int .u8 (x 3), .int .u8 (x 4), .int .u8 (x 5), .int .u8 (x 6), .int .u8 (x 7), .int .u8 (x 8), .int .u8 (x 9), .int .u8 (x 10), .int .u8 (x 11), .int .u8 (x 12), .int .u8 (x 13), .int .u8 (x 14), .int .u8 (x 15)]) = 0 ∧ strE n [.int .u8 (x 0), .int .u8 (x 1), .int .u8 (x 2), .int .u8 (x 3), .int .u8 (x 4), .int .u8 (x 5), .int .u8 (x 6), .int .u8 (x 7), .int .u8 (x 8), .int .u8 (x 9), .int .u8 (x 10), .int .u8 (x 11), .int .u8 (x 12), .int .u8 (x 13), .int .u8 (x 14), .int .u8 (x 15)] (layX n [.int .u8 (z 0), .int .u8 (z 1), .int .u8 (z 2), .int .u8 (z 3)] [.int .u8 (x 0), .int .u8 (x 1), .int .u8 (x 2), .int .u8 (x 3), .int .u8 (x 4), .int .u8 (x 5), .int .u8 (x 6), .int .u8 (x 7), .int .u8 (x 8), .int .u8 (x 9), .int .u8 (x 10), .int .u8 (x 11), .int .u8 (x 12), .int .u8 (x 13), .int .u8 (x 14), .int .u8 (x 15)]) = 0 ∧ takX n (layX n [.int .u8 (z 0), .int .u8 (z 1), .int .u8 (z 2), .int .u8 (z 3)] [.int .u8 (x 0), .int .u8 (x 1), .int .u8 (x 2), .int .u8 (x 3), .int .u8 (x 4), .int .u8 (x 5), .int .u8 (x 6), .int .u8 (x 7), .int .u8 (x 8), .int .u8 (x 9), .int .u8 (x 10), .int .u8 (x 11), .int .u8 (x 12), .int .u8 (x 13), .int .u8 (x 14), .int .u8 (x 15)]) z4 = [.int .u8 (z 0), .int .u8 (z 1), .int .u8 (z 2), .int .u8 (z 3)] := by
  obtain ⟨_, hn, _⟩ := embE_zero h
  rcases hn with rfl | rfl | rfl | rfl | rfl | rfl
  · exact fwd_32 hx hz h
  · exact fwd_40 hx hz h
  · exact fwd_48 hx hz h
  · exact fwd_56 hx hz h
  · exact fwd_64 hx hz h
  · exact fwd_96 hx hz h
theorem bwd_all {x y : Nat → Int} {n : Int} (hx : b8 x) (hy : b8 y) (h : strE n [.int .u8 (x 0), .int .u8 (x 1), .int .u8 (x 2), .int .u8 (x 3), .int .u8 (x 4), .int .u8 (x 5), .int .u8 (x 6), .int .u8 (x 7), .int .u8 (x 8), .int .u8 (x 9), .int .u8 (x 10), .int .u8 (x 11), .int .u8 (x 12), .int .u8 (x 13), .int .u8 (x 14), .int .u8 (x 15)] [.int .u8 (y 0), .int .u8 (y 1), .int .u8 (y 2), .int .u8 (y 3), .int .u8 (y 4), .int .u8 (y 5), .int .u8 (y 6), .int .u8 (y 7), .int .u8 (y 8), .int .u8 (y 9), .int .u8 (y 10), .int .u8 (y 11), .int .u8 (y 12), .int .u8 (y 13), .int .u8 (y 14), .int .u8 (y 15)] = 0) : layX n (takX n [.int .u8 (y 0), .int .u8 (y 1), .int .u8 (y 2), .int .u8 (y 3), .int .u8 (y 4), .int .u8 (y 5), .int .u8 (y 6), .int .u8 (y 7), .int .u8 (y 8), .int .u8 (y 9), .int .u8 (y 10), .int .u8 (y 11), .int .u8 (y 12), .int .u8 (y 13), .int .u8 (y 14), .int .u8 (y 15)] z4) [.int .u8 (x 0), .int .u8 (x 1), .int .u8 (x 2), .int .u8 (x 3), .int .u8 (x 4), .int .u8 (x 5), .int .u8 (x 6), .int .u8 (x 7), .int .u8 (x 8), .int .u8 (x 9), .int .u8 (x 10), .int .u8 (x 11), .int .u8 (x 12), .int .u8 (x 13), .int .u8 (x 14), .int .u8 (x 15)] = [.int .u8 (y 0), .int .u8 (y 1), .int .u8 (y 2), .int .u8 (y 3), .int .u8 (y 4), .int .u8 (y 5), .int .u8 (y 6), .int .u8 (y 7), .int .u8 (y 8), .int .u8 (y 9), .int .u8 (y 10), .int .u8 (y 11), .int .u8 (y 12), .int .u8 (y 13), .int .u8 (y 14), .int .u8 (y 15)] ∧ embE [.int .u8 (x 0), .int .u8 (x 1), .int .u8 (x 2), .int .u8 (x 3), .int .u8 (x 4), .int .u8 (x 5), .int .u8 (x 6), .int .u8 (x 7), .int .u8 (x 8), .int .u8 (x 9), .int .u8 (x 10), .int .u8 (x 11), .int .u8 (x 12), .int .u8 (x 13), .int .u8 (x 14), .int .u8 (x 15)] n = 0 := by
  have he : embE [.int .u8 (x 0), .int .u8 (x 1), .int .u8 (x 2), .int .u8 (x 3), .int .u8 (x 4), .int .u8 (x 5), .int .u8 (x 6), .int .u8 (x 7), .int .u8 (x 8), .int .u8 (x 9), .int .u8 (x 10), .int .u8 (x 11), .int .u8 (x 12), .int .u8 (x 13), .int .u8 (x 14), .int .u8 (x 15)] n = 0 := by
    rcases strE_or n [.int .u8 (x 0), .int .u8 (x 1), .int .u8 (x 2), .int .u8 (x 3), .int .u8 (x 4), .int .u8 (x 5), .int .u8 (x 6), .int .u8 (x 7), .int .u8 (x 8), .int .u8 (x 9), .int .u8 (x 10), .int .u8 (x 11), .int .u8 (x 12), .int .u8 (x 13), .int .u8 (x 14), .int .u8 (x 15)] [.int .u8 (y 0), .int .u8 (y 1), .int .u8 (y 2), .int .u8 (y 3), .int .u8 (y 4), .int .u8 (y 5), .int .u8 (y 6), .int .u8 (y 7), .int .u8 (y 8), .int .u8 (y 9), .int .u8 (y 10), .int .u8 (y 11), .int .u8 (y 12), .int .u8 (y 13), .int .u8 (y 14), .int .u8 (y 15)] with ⟨_, hg, _⟩ | h1 | ⟨h1, h2⟩
    · rcases getEr_or n [.int .u8 (x 0), .int .u8 (x 1), .int .u8 (x 2), .int .u8 (x 3), .int .u8 (x 4), .int .u8 (x 5), .int .u8 (x 6), .int .u8 (x 7), .int .u8 (x 8), .int .u8 (x 9), .int .u8 (x 10), .int .u8 (x 11), .int .u8 (x 12), .int .u8 (x 13), .int .u8 (x 14), .int .u8 (x 15)] [.int .u8 (y 0), .int .u8 (y 1), .int .u8 (y 2), .int .u8 (y 3), .int .u8 (y 4), .int .u8 (y 5), .int .u8 (y 6), .int .u8 (y 7), .int .u8 (y 8), .int .u8 (y 9), .int .u8 (y 10), .int .u8 (y 11), .int .u8 (y 12), .int .u8 (y 13), .int .u8 (y 14), .int .u8 (y 15)] with ⟨_, he, _⟩ | h1 | h1 | h1 | h1
      · exact he
      · rw [h1] at hg; cases hg
      · rw [h1] at hg; cases hg
      · rw [h1] at hg; cases hg
      · rw [h1] at hg; cases hg
    · rw [h1] at h; cases h
    · exact absurd (h1.symm.trans h) h2
  obtain ⟨_, hn, _⟩ := embE_zero he
  refine ⟨?_, he⟩
  rcases hn with rfl | rfl | rfl | rfl | rfl | rfl
  · exact bwd_32 hx hy h
  · exact bwd_40 hx hy h
  · exact bwd_48 hx hy h
  · exact bwd_56 hx hy h
  · exact bwd_64 hx hy h
  · exact bwd_96 hx hy h

end Go.Pl
