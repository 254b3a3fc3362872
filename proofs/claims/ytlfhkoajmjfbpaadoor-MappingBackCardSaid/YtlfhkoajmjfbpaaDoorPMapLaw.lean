/- What mapping's laws say, in plain words. -/
import Derived.Test.YtlfhkoajmjfbpaaDoorPMapAns
namespace Go.Pl
open Go.Abs

theorem chkE_zero {N : Int} {X : List AV} {n : Int} (h0 : 0 ≤ n) (h1 : n ≤ N) (h2 : lowB X n.toNat = true) : chkE N X n = 0 := by
  unfold chkE
  rw [decide_eq_false (show ¬ n < 0 by omega), decide_eq_false (show ¬ n > N by omega), h2]; rfl
theorem inB_iff {N : Int} {X Y : List AV} {n : Int} (h : chkE N X n = 0) : inB N X Y n = true ↔ ∀ j, j < n.toNat → bitV X j = bitV Y j := by
  rw [← sameB_iff]
  unfold inB
  rw [h]; rfl
theorem getX_at {xs : List AV} {L : Nat} (hl : xs.length = L) {a n : Int} (h0 : 0 ≤ a) (h1 : 0 ≤ n) (h2 : n ≤ 64) (h3 : a + n ≤ 8 * (L : Int)) : getX xs a n = getN xs a.toNat n.toNat := by
  unfold getX
  rw [decide_eq_false (show ¬ n > 64 by omega), show thereB xs.length a n = true from by simp only [thereB, Bool.and_eq_true, decide_eq_true_eq]; rw [hl]; omega]
  rfl
/-- A number is what its bits say. -/
theorem getN_is {xs : List AV} {a n : Nat} {v : Int} (h0 : 0 ≤ v) (h1 : v < 2 ^ n) : getN xs a n = v ↔ ∀ i, i < n → bitV xs (a + i) = vbit v n i :=
  ⟨fun h i hi => by rw [← h, vbit_getN hi], fun h => getN_vbit h0 h1 h⟩
theorem ediv_lt {a : Int} {k : Nat} (h0 : 0 ≤ a) (h : a / 2 ^ k = 0) : a < 2 ^ k := by
  have hp : (0 : Int) < 2 ^ k := Int.pow_pos (by decide)
  rcases Int.lt_or_le a (2 ^ k) with hlt | hge
  · exact hlt
  · exfalso
    have := Int.ediv_le_ediv hp hge
    rw [Int.ediv_self (by omega), h] at this
    omega
section
variable {X Z W Y : List AV} {n m e o a p : Int}

theorem endB_bit (hX : X.length = 16) (h : okE n m e o a) {j : Nat} (hj : j < 128) : bitV (endB X n e a) j = if j < n.toNat then bitV X j else if j < n.toNat + e.toNat then vbit a e.toNat (j - n.toNat) else 0 :=
  (mkB_bit (catF_01 _) (by omega)).trans (catF_end hX h j)
theorem v4B_bit (hZ : Z.length = 4) (h : okE n m e o a) {j : Nat} (hj : j < 32) : bitV (v4B Z m e a) j = if j < m.toNat then bitV Z j else if j < m.toNat + (e - qR m e).toNat then vbit (a / 2 ^ (qR m e).toNat) (e - qR m e).toNat (j - m.toNat) else 0 :=
  (mkB_bit (catF_01 _) (by omega)).trans (catF_v4 hZ h j)
theorem ownB_bit (hX : X.length = 16) (h : okE n m e o a) {j : Nat} (hj : j < 64) : bitV (ownB X Z n m e a) j = if j < n.toNat then bitV X j else if j < n.toNat + e.toNat then vbit a e.toNat (j - n.toNat) else 0 := by
  refine (mkB_bit (catF_01 _) (by omega)).trans ((catF_own (Z := Z) hX h j).trans ?_)
  rw [if_pos (show j < 80 by omega)]
/-- Whose first bits are the edge's, has its EA bits. -/
theorem bits_end (hX : X.length = 16) (hY : Y.length = 16) (h : okE n m e o a) (hc : chkE 128 X n = 0) (hb : ∀ j, j < n.toNat + e.toNat → bitV Y j = if j < n.toNat then bitV X j else vbit a e.toNat (j - n.toNat)) : inB 128 X Y n = true ∧ getX Y n e = a := by
  obtain ⟨a1, a2, b1, b2, c1, c2, c3, c4, c5, d0, d1, d2⟩ := h
  refine ⟨(inB_iff hc).2 fun j hj => ?_, ?_⟩
  · rw [hb j (by omega), if_pos hj]
  · rw [getX_at hY a1 c1 (by omega) (by omega)]
    refine (getN_is d0 (ediv_lt d0 d2)).2 fun i hi => ?_
    rw [hb _ (by omega), if_neg (by omega), Nat.add_sub_cancel_left]
theorem back_own (hX : X.length = 16) (h : okE n m e o a) (hc : chkE 128 X n = 0) : inB 128 X (ownB X Z n m e a) n = true ∧ getX (ownB X Z n m e a) n e = a := by
  have h' := h
  obtain ⟨a1, a2, b1, b2, c1, c2, c3, c4, c5, d0, d1, d2⟩ := h'
  refine bits_end hX ownB_ok.2 h hc fun j hj => ?_
  rw [ownB_bit hX h (by omega)]
  by_cases h1 : j < n.toNat
  · rw [if_pos h1, if_pos h1]
  · rw [if_neg h1, if_neg h1, if_pos hj]
theorem back_end (hX : X.length = 16) (hY : Y.length = 16) (h : okE n m e o a) (hc : chkE 128 X n = 0) (hce : chkE 128 (endB X n e a) (n + e) = 0) (hi : inB 128 (endB X n e a) Y (n + e) = true) : inB 128 X Y n = true ∧ getX Y n e = a := by
  have h' := h
  obtain ⟨a1, a2, b1, b2, c1, c2, c3, c4, c5, d0, d1, d2⟩ := h'
  have hs := (inB_iff hce).1 hi
  refine bits_end hX hY h hc fun j hj => ?_
  rw [← hs j (by omega), endB_bit hX h (by omega)]
  by_cases h1 : j < n.toNat
  · rw [if_pos h1, if_pos h1]
  · rw [if_neg h1, if_neg h1, if_pos hj]
theorem chk_end (hX : X.length = 16) (h : okE n m e o a) : chkE 128 (endB X n e a) (n + e) = 0 := by
  have h' := h
  obtain ⟨a1, a2, b1, b2, c1, c2, c3, c4, c5, d0, d1, d2⟩ := h'
  refine chkE_zero (by omega) (by omega) (lowB_iff.2 fun j h1 h2 => ?_)
  rw [endB_ok.2] at h2
  rw [endB_bit hX h (by omega), if_neg (by omega), if_neg (by omega)]
theorem chk_v4 (hZ : Z.length = 4) (h : okE n m e o a) : chkE 32 (v4B Z m e a) (m + (e - qR m e)) = 0 := by
  have hq := qR_ok h
  have h' := h
  obtain ⟨a1, a2, b1, b2, c1, c2, c3, c4, c5, d0, d1, d2⟩ := h'
  refine chkE_zero (by omega) (by omega) (lowB_iff.2 fun j h1 h2 => ?_)
  rw [v4B_ok.2] at h2
  rw [v4B_bit hZ h (by omega), if_neg (by omega), if_neg (by omega)]
/-- An address is an edge's just if its bits say so. -/
theorem v4_in (hZ : Z.length = 4) (hW : W.length = 4) (h : okE n m e o a) (hc : chkE 32 Z m = 0) : inB 32 (v4B Z m e a) W (m + (e - qR m e)) = true ↔ inB 32 Z W m = true ∧ getX W m (e - qR m e) = a / 2 ^ (qR m e).toNat := by
  have hq := qR_ok h
  have h' := h
  obtain ⟨a1, a2, b1, b2, c1, c2, c3, c4, c5, d0, d1, d2⟩ := h'
  have hs := (shr_range d0 d1 (qR m e).toNat).1
  have hlt : a / 2 ^ (qR m e).toNat < 2 ^ (e - qR m e).toNat := by
    refine ediv_lt hs ?_
    rw [div_div2, show (qR m e).toNat + (e - qR m e).toNat = e.toNat by omega]; exact d2
  rw [inB_iff (chk_v4 hZ h), inB_iff hc, getX_at hW b1 (by omega) (by omega) (by omega), getN_is hs hlt]
  constructor
  · intro g
    refine ⟨fun j hj => ?_, fun i hi => ?_⟩
    · rw [← g j (by omega), v4B_bit hZ h (by omega), if_pos hj]
    · rw [← g (m.toNat + i) (by omega), v4B_bit hZ h (by omega), if_neg (by omega), if_pos (by omega), Nat.add_sub_cancel_left]
  · rintro ⟨g1, g2⟩ j hj
    rw [v4B_bit hZ h (by omega)]
    by_cases h1 : j < m.toNat
    · rw [if_pos h1]; exact g1 j h1
    · rw [if_neg h1, if_pos (by omega), ← g2 (j - m.toNat) (by omega), show m.toNat + (j - m.toNat) = j by omega]
theorem owns_ok (hZ : Z.length = 4) (h : okE n m e o a) : ownsE (v4B Z m e a) (m + (e - qR m e)) (offR m e o) (qR m e) (pidR m e a) = 0 ∧ psetB (offR m e o) (qR m e) (pidR m e a) = true ∧ right (offR m e o) (qR m e) (pidR m e a) = true := by
  have hq := qR_ok h
  have hp := pidR_ok h
  have hr : right (offR m e o) (qR m e) (pidR m e a) = true := right_iff.2 ⟨by omega, by omega, by omega, by omega, hp.2.1⟩
  refine ⟨?_, psetB_iff.2 ⟨by omega, by omega, by omega, by omega, by omega, by omega⟩, hr⟩
  unfold ownsE
  rw [chk_v4 hZ h]
  show ofE _ _ _ = 0
  unfold ofE
  rw [hr]; rfl
/-- Who has an address and a port is who is found by them. -/
theorem owns_of (hZ : Z.length = 4) (hW : W.length = 4) (h : okE n m e o a) (hc : chkR X Z n m e o = 0) (hcz : chkE 32 Z m = 0) (hp : 0 ≤ p ∧ p ≤ 65535) :
    ownsB (v4B Z m e a) W (m + (e - qR m e)) (offR m e o) (qR m e) (pidR m e a) p = true ↔ ofR X Z W n m e o p = 0 ∧ ofV X Z W n m e o p = a := by
  have hq := qR_ok h
  have hps := psetB_q hc hp
  have hoo := owns_ok hZ h
  have h' := h
  obtain ⟨a1, a2, b1, b2, c1, c2, c3, c4, c5, d0, d1, d2⟩ := h'
  have hP : (0 : Int) < 2 ^ (qR m e).toNat := Int.pow_pos (by decide)
  have hdm := Int.emod_add_mul_ediv a (2 ^ (qR m e).toNat)
  have hm0 := Int.emod_nonneg a (show (2 : Int) ^ (qR m e).toNat ≠ 0 by omega)
  have hm1 := Int.emod_lt_of_pos a hP
  have hO : ownsB (v4B Z m e a) W (m + (e - qR m e)) (offR m e o) (qR m e) (pidR m e a) p = (inB 32 (v4B Z m e a) W (m + (e - qR m e)) && (qR m e == 0 || hasB (offR m e o) (qR m e) (pidR m e a) p)) := by
    unfold ownsB
    rw [hoo.1]; rfl
  rw [hO, Bool.and_eq_true, v4_in hZ hW h hcz, Bool.or_eq_true, beq_iff_eq]
  by_cases hz : qR m e = 0
  · have e0 : (2 : Int) ^ (qR m e).toNat = 1 := by rw [hz]; rfl
    have hzb : (qR m e == 0) = true := by simpa using hz
    constructor
    · rintro ⟨⟨g1, g2⟩, _⟩
      have hr : ofR X Z W n m e o p = 0 := by unfold ofR; rw [hc, g1, hzb]; rfl
      refine ⟨hr, ?_⟩
      unfold ofV
      rw [hr, hzb, g2, e0]
      show a / 1 * 1 + 0 = a
      rw [Int.ediv_one]; omega
    · rintro ⟨g1, g2⟩
      refine ⟨⟨(ofR_zero g1).2.1, ?_⟩, .inl hz⟩
      unfold ofV at g2
      rw [g1, hzb, e0] at g2
      have g3 : getX W m (e - qR m e) * 1 + 0 = a := g2
      rw [e0, Int.ediv_one]; omega
  · have hzb : (qR m e == 0) = false := beq_eq_false_iff_ne.2 hz
    have hof : offR m e o = o := if_pos (show qR m e > 0 by omega)
    have hpe : pidR m e a = a % 2 ^ (qR m e).toNat := if_pos (show qR m e > 0 by omega)
    have hhas : hasB (offR m e o) (qR m e) (pidR m e a) p = true ↔ mine o p = true ∧ psid o (qR m e) p = a % 2 ^ (qR m e).toNat := by
      unfold hasB
      rw [hoo.2.2, hof, hpe, Bool.true_and, Bool.and_eq_true, beq_iff_eq]
    have hofB : ofB o (qR m e) p = true ↔ mine o p = true := by
      unfold ofB
      rw [hps.2, Bool.true_and]
    have hb := psid_bounds hps.1 hps.2
    rw [hhas]
    constructor
    · rintro ⟨⟨g1, g2⟩, g3⟩
      rcases g3 with g3 | ⟨g3, g4⟩
      · exact absurd g3 hz
      have hr : ofR X Z W n m e o p = 0 := by unfold ofR; rw [hc, g1, hzb, hofB.2 g3]; rfl
      refine ⟨hr, ?_⟩
      unfold ofV
      rw [hr, hzb, g2]
      show a / 2 ^ (qR m e).toNat * 2 ^ (qR m e).toNat + ofN o (qR m e) p = a
      have : ofN o (qR m e) p = psid o (qR m e) p := by unfold ofN; rw [hps.2, g3]; rfl
      rw [this, g4, Int.mul_comm]; omega
    · rintro ⟨g1, g2⟩
      obtain ⟨_, g3, g4⟩ := ofR_zero g1
      rcases g4 with g4 | g4
      · exact absurd g4 hz
      have g5 := hofB.1 g4
      unfold ofV at g2
      rw [g1, hzb] at g2
      have hN : ofN o (qR m e) p = psid o (qR m e) p := by unfold ofN; rw [hps.2, g5]; rfl
      have g6 : getX W m (e - qR m e) * 2 ^ (qR m e).toNat + psid o (qR m e) p = a := by rw [← hN]; exact g2
      have hdiv : a / 2 ^ (qR m e).toNat = getX W m (e - qR m e) := by
        rw [← g6, Int.add_comm, Int.add_mul_ediv_right _ _ (by omega), Int.ediv_eq_zero_of_lt hb.1 hb.2.2, Int.zero_add]
      have hmod : a % 2 ^ (qR m e).toNat = psid o (qR m e) p := by
        rw [← g6, Int.add_comm, Int.add_mul_emod_self_right, Int.emod_eq_of_lt hb.1 hb.2.2]
      exact ⟨⟨g3, hdiv.symm⟩, .inr ⟨g5, hmod.symm⟩⟩
end

theorem sel_tup (cs : List AV) (t : AV) (k : Nat) : sel (some (AEnd.ret (AV.tup [AV.agg cs, t]), [])) [0, k] = cs.getD k .junk := rfl
theorem ti_int (k : IntKind) (n : Int) : (AV.int k n).toInt = n := rfl
theorem selV_0 (X Z : List AV) (n m e o a : Int) (t : AV) : (sel (some (AEnd.ret (AV.tup [edgV X Z n m e o a, t]), [])) [0, 0]).toInt = byteAt (v4B Z m e a) 0 := by
  unfold edgV
  simp only [sel_tup, List.getD_cons_zero, List.getD_cons_succ, ti_int]
theorem selV_1 (X Z : List AV) (n m e o a : Int) (t : AV) : (sel (some (AEnd.ret (AV.tup [edgV X Z n m e o a, t]), [])) [0, 1]).toInt = byteAt (v4B Z m e a) 1 := by
  unfold edgV
  simp only [sel_tup, List.getD_cons_zero, List.getD_cons_succ, ti_int]
theorem selV_2 (X Z : List AV) (n m e o a : Int) (t : AV) : (sel (some (AEnd.ret (AV.tup [edgV X Z n m e o a, t]), [])) [0, 2]).toInt = byteAt (v4B Z m e a) 2 := by
  unfold edgV
  simp only [sel_tup, List.getD_cons_zero, List.getD_cons_succ, ti_int]
theorem selV_3 (X Z : List AV) (n m e o a : Int) (t : AV) : (sel (some (AEnd.ret (AV.tup [edgV X Z n m e o a, t]), [])) [0, 3]).toInt = byteAt (v4B Z m e a) 3 := by
  unfold edgV
  simp only [sel_tup, List.getD_cons_zero, List.getD_cons_succ, ti_int]
theorem selV_4 (X Z : List AV) (n m e o a : Int) (t : AV) : (sel (some (AEnd.ret (AV.tup [edgV X Z n m e o a, t]), [])) [0, 4]).toInt = m + (e - qR m e) := by
  unfold edgV
  simp only [sel_tup, List.getD_cons_zero, List.getD_cons_succ, ti_int]
theorem selV_5 (X Z : List AV) (n m e o a : Int) (t : AV) : (sel (some (AEnd.ret (AV.tup [edgV X Z n m e o a, t]), [])) [0, 5]).toInt = offR m e o := by
  unfold edgV
  simp only [sel_tup, List.getD_cons_zero, List.getD_cons_succ, ti_int]
theorem selV_6 (X Z : List AV) (n m e o a : Int) (t : AV) : (sel (some (AEnd.ret (AV.tup [edgV X Z n m e o a, t]), [])) [0, 6]).toInt = qR m e := by
  unfold edgV
  simp only [sel_tup, List.getD_cons_zero, List.getD_cons_succ, ti_int]
theorem selV_7 (X Z : List AV) (n m e o a : Int) (t : AV) : (sel (some (AEnd.ret (AV.tup [edgV X Z n m e o a, t]), [])) [0, 7]).toInt = pidR m e a := by
  unfold edgV
  simp only [sel_tup, List.getD_cons_zero, List.getD_cons_succ, ti_int]
theorem selV_8 (X Z : List AV) (n m e o a : Int) (t : AV) : (sel (some (AEnd.ret (AV.tup [edgV X Z n m e o a, t]), [])) [0, 8]).toInt = byteAt (endB X n e a) 0 := by
  unfold edgV
  simp only [sel_tup, List.getD_cons_zero, List.getD_cons_succ, ti_int]
theorem selV_9 (X Z : List AV) (n m e o a : Int) (t : AV) : (sel (some (AEnd.ret (AV.tup [edgV X Z n m e o a, t]), [])) [0, 9]).toInt = byteAt (endB X n e a) 1 := by
  unfold edgV
  simp only [sel_tup, List.getD_cons_zero, List.getD_cons_succ, ti_int]
theorem selV_10 (X Z : List AV) (n m e o a : Int) (t : AV) : (sel (some (AEnd.ret (AV.tup [edgV X Z n m e o a, t]), [])) [0, 10]).toInt = byteAt (endB X n e a) 2 := by
  unfold edgV
  simp only [sel_tup, List.getD_cons_zero, List.getD_cons_succ, ti_int]
theorem selV_11 (X Z : List AV) (n m e o a : Int) (t : AV) : (sel (some (AEnd.ret (AV.tup [edgV X Z n m e o a, t]), [])) [0, 11]).toInt = byteAt (endB X n e a) 3 := by
  unfold edgV
  simp only [sel_tup, List.getD_cons_zero, List.getD_cons_succ, ti_int]
theorem selV_12 (X Z : List AV) (n m e o a : Int) (t : AV) : (sel (some (AEnd.ret (AV.tup [edgV X Z n m e o a, t]), [])) [0, 12]).toInt = byteAt (endB X n e a) 4 := by
  unfold edgV
  simp only [sel_tup, List.getD_cons_zero, List.getD_cons_succ, ti_int]
theorem selV_13 (X Z : List AV) (n m e o a : Int) (t : AV) : (sel (some (AEnd.ret (AV.tup [edgV X Z n m e o a, t]), [])) [0, 13]).toInt = byteAt (endB X n e a) 5 := by
  unfold edgV
  simp only [sel_tup, List.getD_cons_zero, List.getD_cons_succ, ti_int]
theorem selV_14 (X Z : List AV) (n m e o a : Int) (t : AV) : (sel (some (AEnd.ret (AV.tup [edgV X Z n m e o a, t]), [])) [0, 14]).toInt = byteAt (endB X n e a) 6 := by
  unfold edgV
  simp only [sel_tup, List.getD_cons_zero, List.getD_cons_succ, ti_int]
theorem selV_15 (X Z : List AV) (n m e o a : Int) (t : AV) : (sel (some (AEnd.ret (AV.tup [edgV X Z n m e o a, t]), [])) [0, 15]).toInt = byteAt (endB X n e a) 7 := by
  unfold edgV
  simp only [sel_tup, List.getD_cons_zero, List.getD_cons_succ, ti_int]
theorem selV_16 (X Z : List AV) (n m e o a : Int) (t : AV) : (sel (some (AEnd.ret (AV.tup [edgV X Z n m e o a, t]), [])) [0, 16]).toInt = byteAt (endB X n e a) 8 := by
  unfold edgV
  simp only [sel_tup, List.getD_cons_zero, List.getD_cons_succ, ti_int]
theorem selV_17 (X Z : List AV) (n m e o a : Int) (t : AV) : (sel (some (AEnd.ret (AV.tup [edgV X Z n m e o a, t]), [])) [0, 17]).toInt = byteAt (endB X n e a) 9 := by
  unfold edgV
  simp only [sel_tup, List.getD_cons_zero, List.getD_cons_succ, ti_int]
theorem selV_18 (X Z : List AV) (n m e o a : Int) (t : AV) : (sel (some (AEnd.ret (AV.tup [edgV X Z n m e o a, t]), [])) [0, 18]).toInt = byteAt (endB X n e a) 10 := by
  unfold edgV
  simp only [sel_tup, List.getD_cons_zero, List.getD_cons_succ, ti_int]
theorem selV_19 (X Z : List AV) (n m e o a : Int) (t : AV) : (sel (some (AEnd.ret (AV.tup [edgV X Z n m e o a, t]), [])) [0, 19]).toInt = byteAt (endB X n e a) 11 := by
  unfold edgV
  simp only [sel_tup, List.getD_cons_zero, List.getD_cons_succ, ti_int]
theorem selV_20 (X Z : List AV) (n m e o a : Int) (t : AV) : (sel (some (AEnd.ret (AV.tup [edgV X Z n m e o a, t]), [])) [0, 20]).toInt = byteAt (endB X n e a) 12 := by
  unfold edgV
  simp only [sel_tup, List.getD_cons_zero, List.getD_cons_succ, ti_int]
theorem selV_21 (X Z : List AV) (n m e o a : Int) (t : AV) : (sel (some (AEnd.ret (AV.tup [edgV X Z n m e o a, t]), [])) [0, 21]).toInt = byteAt (endB X n e a) 13 := by
  unfold edgV
  simp only [sel_tup, List.getD_cons_zero, List.getD_cons_succ, ti_int]
theorem selV_22 (X Z : List AV) (n m e o a : Int) (t : AV) : (sel (some (AEnd.ret (AV.tup [edgV X Z n m e o a, t]), [])) [0, 22]).toInt = byteAt (endB X n e a) 14 := by
  unfold edgV
  simp only [sel_tup, List.getD_cons_zero, List.getD_cons_succ, ti_int]
theorem selV_23 (X Z : List AV) (n m e o a : Int) (t : AV) : (sel (some (AEnd.ret (AV.tup [edgV X Z n m e o a, t]), [])) [0, 23]).toInt = byteAt (endB X n e a) 15 := by
  unfold edgV
  simp only [sel_tup, List.getD_cons_zero, List.getD_cons_succ, ti_int]
theorem selV_24 (X Z : List AV) (n m e o a : Int) (t : AV) : (sel (some (AEnd.ret (AV.tup [edgV X Z n m e o a, t]), [])) [0, 24]).toInt = n + e := by
  unfold edgV
  simp only [sel_tup, List.getD_cons_zero, List.getD_cons_succ, ti_int]
theorem selV_25 (X Z : List AV) (n m e o a : Int) (t : AV) : (sel (some (AEnd.ret (AV.tup [edgV X Z n m e o a, t]), [])) [0, 25]).toInt = byteAt (ownB X Z n m e a) 0 := by
  unfold edgV
  simp only [sel_tup, List.getD_cons_zero, List.getD_cons_succ, ti_int]
theorem selV_26 (X Z : List AV) (n m e o a : Int) (t : AV) : (sel (some (AEnd.ret (AV.tup [edgV X Z n m e o a, t]), [])) [0, 26]).toInt = byteAt (ownB X Z n m e a) 1 := by
  unfold edgV
  simp only [sel_tup, List.getD_cons_zero, List.getD_cons_succ, ti_int]
theorem selV_27 (X Z : List AV) (n m e o a : Int) (t : AV) : (sel (some (AEnd.ret (AV.tup [edgV X Z n m e o a, t]), [])) [0, 27]).toInt = byteAt (ownB X Z n m e a) 2 := by
  unfold edgV
  simp only [sel_tup, List.getD_cons_zero, List.getD_cons_succ, ti_int]
theorem selV_28 (X Z : List AV) (n m e o a : Int) (t : AV) : (sel (some (AEnd.ret (AV.tup [edgV X Z n m e o a, t]), [])) [0, 28]).toInt = byteAt (ownB X Z n m e a) 3 := by
  unfold edgV
  simp only [sel_tup, List.getD_cons_zero, List.getD_cons_succ, ti_int]
theorem selV_29 (X Z : List AV) (n m e o a : Int) (t : AV) : (sel (some (AEnd.ret (AV.tup [edgV X Z n m e o a, t]), [])) [0, 29]).toInt = byteAt (ownB X Z n m e a) 4 := by
  unfold edgV
  simp only [sel_tup, List.getD_cons_zero, List.getD_cons_succ, ti_int]
theorem selV_30 (X Z : List AV) (n m e o a : Int) (t : AV) : (sel (some (AEnd.ret (AV.tup [edgV X Z n m e o a, t]), [])) [0, 30]).toInt = byteAt (ownB X Z n m e a) 5 := by
  unfold edgV
  simp only [sel_tup, List.getD_cons_zero, List.getD_cons_succ, ti_int]
theorem selV_31 (X Z : List AV) (n m e o a : Int) (t : AV) : (sel (some (AEnd.ret (AV.tup [edgV X Z n m e o a, t]), [])) [0, 31]).toInt = byteAt (ownB X Z n m e a) 6 := by
  unfold edgV
  simp only [sel_tup, List.getD_cons_zero, List.getD_cons_succ, ti_int]
theorem selV_32 (X Z : List AV) (n m e o a : Int) (t : AV) : (sel (some (AEnd.ret (AV.tup [edgV X Z n m e o a, t]), [])) [0, 32]).toInt = byteAt (ownB X Z n m e a) 7 := by
  unfold edgV
  simp only [sel_tup, List.getD_cons_zero, List.getD_cons_succ, ti_int]
theorem selV_33 (X Z : List AV) (n m e o a : Int) (t : AV) : (sel (some (AEnd.ret (AV.tup [edgV X Z n m e o a, t]), [])) [0, 33]).toInt = byteAt (ownB X Z n m e a) 8 := by
  unfold edgV
  simp only [sel_tup, List.getD_cons_zero, List.getD_cons_succ, ti_int]
theorem selV_34 (X Z : List AV) (n m e o a : Int) (t : AV) : (sel (some (AEnd.ret (AV.tup [edgV X Z n m e o a, t]), [])) [0, 34]).toInt = byteAt (ownB X Z n m e a) 9 := by
  unfold edgV
  simp only [sel_tup, List.getD_cons_zero, List.getD_cons_succ, ti_int]
theorem selV_35 (X Z : List AV) (n m e o a : Int) (t : AV) : (sel (some (AEnd.ret (AV.tup [edgV X Z n m e o a, t]), [])) [0, 35]).toInt = byteAt (ownB X Z n m e a) 10 := by
  unfold edgV
  simp only [sel_tup, List.getD_cons_zero, List.getD_cons_succ, ti_int]
theorem selV_36 (X Z : List AV) (n m e o a : Int) (t : AV) : (sel (some (AEnd.ret (AV.tup [edgV X Z n m e o a, t]), [])) [0, 36]).toInt = byteAt (ownB X Z n m e a) 11 := by
  unfold edgV
  simp only [sel_tup, List.getD_cons_zero, List.getD_cons_succ, ti_int]
theorem selV_37 (X Z : List AV) (n m e o a : Int) (t : AV) : (sel (some (AEnd.ret (AV.tup [edgV X Z n m e o a, t]), [])) [0, 37]).toInt = byteAt (ownB X Z n m e a) 12 := by
  unfold edgV
  simp only [sel_tup, List.getD_cons_zero, List.getD_cons_succ, ti_int]
theorem selV_38 (X Z : List AV) (n m e o a : Int) (t : AV) : (sel (some (AEnd.ret (AV.tup [edgV X Z n m e o a, t]), [])) [0, 38]).toInt = byteAt (ownB X Z n m e a) 13 := by
  unfold edgV
  simp only [sel_tup, List.getD_cons_zero, List.getD_cons_succ, ti_int]
theorem selV_39 (X Z : List AV) (n m e o a : Int) (t : AV) : (sel (some (AEnd.ret (AV.tup [edgV X Z n m e o a, t]), [])) [0, 39]).toInt = byteAt (ownB X Z n m e a) 14 := by
  unfold edgV
  simp only [sel_tup, List.getD_cons_zero, List.getD_cons_succ, ti_int]
theorem selV_40 (X Z : List AV) (n m e o a : Int) (t : AV) : (sel (some (AEnd.ret (AV.tup [edgV X Z n m e o a, t]), [])) [0, 40]).toInt = byteAt (ownB X Z n m e a) 15 := by
  unfold edgV
  simp only [sel_tup, List.getD_cons_zero, List.getD_cons_succ, ti_int]

theorem fin_owns {B : Bool} {R V a : Int} (h : B = true ↔ R = 0 ∧ V = a) : aIf (R == 0) (some (AEnd.ret (.bool (B == (V == a))), [])) (some (AEnd.ret (.bool (B == false)), [])) = some (AEnd.ret (.bool true), []) := by
  cases hB : B
  · cases hR : R == 0
    · rfl
    · have : (V == a) = false := by
        rw [beq_eq_false_iff_ne]
        intro hv
        have := h.2 ⟨by simpa using hR, hv⟩
        rw [hB] at this; cases this
      rw [this]; rfl
  · obtain ⟨h1, h2⟩ := h.1 hB
    rw [h1, h2, show (a == a) = true from beq_self_eq_true a]; rfl
theorem eq16_self (f : Nat → Int) : eq16 f f = true := by
  unfold eq16
  simp only [beq_self_eq_true, Bool.and_self]
theorem eq16_eq {xs ys : List AV} (hx : intsB .u8 xs = true) (hy : intsB .u8 ys = true) (hl : xs.length = 16) (hm : ys.length = 16) (h : eq16 (byteAt xs) (byteAt ys) = true) : xs = ys := by
  unfold eq16 at h
  simp only [Bool.and_eq_true, beq_iff_eq] at h
  obtain ⟨q0, q1, q2, q3, q4, q5, q6, q7, q8, q9, q10, q11, q12, q13, q14, q15, _⟩ := h
  rw [bytes16 hx hl, bytes16 hy hm]
  simp only [q0, q1, q2, q3, q4, q5, q6, q7, q8, q9, q10, q11, q12, q13, q14, q15]

theorem args6 {E : Env} {f t0 t1 t2 t3 t4 t5 : Nat} {xs : List AV} (h : argsV E f [t0, t1, t2, t3, t4, t5] xs) : ∃ x y z u v w, xs = [x, y, z, u, v, w] ∧ argV E f t0 x ∧ argV E f t1 y ∧ argV E f t2 z ∧ argV E f t3 u ∧ argV E f t4 v ∧ argV E f t5 w := by
  match xs, h with
  | [x, y, z, u, v, w], ⟨h0, h1, h2, h3, h4, h5, _⟩ => exact ⟨x, y, z, u, v, w, rfl, h0, h1, h2, h3, h4, h5⟩
/-- Who has nothing. -/
theorem ofR_91 {X Z W : List AV} {n m e o p : Int} (h : ofR X Z W n m e o p = 91) : chkR X Z n m e o = 0 ∧ (decide (qR m e > 0) && !ofB o (qR m e) p) = true := by
  unfold ofR at h
  rcases chkR_or X Z n m e o with ⟨hc, _⟩ | hc | hc
  · refine ⟨hc, ?_⟩
    rw [hc] at h
    cases hi : inB 32 Z W m
    · rw [hi] at h; cases h
    · rw [hi] at h
      cases hq : qR m e == 0
      · rw [hq] at h
        cases hb : ofB o (qR m e) p
        · have h1 : qR m e ≠ 0 := by simpa using hq
          have h2 : 0 ≤ qR m e := by unfold qR; split <;> omega
          rw [decide_eq_true (show qR m e > 0 by omega)]; rfl
        · rw [hb] at h; cases h
      · rw [hq] at h; cases h
  · rw [hc] at h; cases h
  · rw [hc] at h; cases h
theorem ofV_bad {X Z W : List AV} {n m e o p : Int} (h : ofR X Z W n m e o p ≠ 0) : ofV X Z W n m e o p = 0 := by
  unfold ofV
  rw [show (ofR X Z W n m e o p == 0) = false from beq_eq_false_iff_ne.2 h]; simp only [cond_false]

end Go.Pl
