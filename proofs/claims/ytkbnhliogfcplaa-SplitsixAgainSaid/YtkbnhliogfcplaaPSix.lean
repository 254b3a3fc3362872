/- IPv6 datagrams, in plain words. -/
import Derived.Test.YtkbnhliogfcplaaPV4Arg
namespace Go.Pl
open Go.Abs

/-- An extension header's kind and body. -/
def kAt (x : AV) : Int := (x.cells.getD 0 .junk).toInt
def bdAt (x : AV) : List AV := (x.cells.getD 1 .junk).toFs
def hdB (x : AV) : Bool := match x with
  | .agg [.int .u8 k, .fs 1 b f] => intsB .u8 b && okF b f && decide (0 ≤ k) && decide (k < 256)
  | _ => false
def hdsB (hs : List AV) : Bool := hs.all hdB
theorem hdB_iff {x : AV} : hdB x = true ↔ ∃ k b f, x = .agg [.int .u8 k, .fs 1 b f] ∧ intsB .u8 b = true ∧ okF b f = true ∧ 0 ≤ k ∧ k < 256 := by
  constructor
  · intro h
    unfold hdB at h
    split at h
    · simp only [Bool.and_eq_true, decide_eq_true_eq] at h
      exact ⟨_, _, _, rfl, h.1.1.1, h.1.1.2, h.1.2, h.2⟩
    · cases h
  · rintro ⟨k, b, f, rfl, h1, h2, h3, h4⟩
    simp only [hdB, h1, h2, decide_eq_true h3, decide_eq_true h4, Bool.and_self]
theorem hds_get {hs : List AV} (h : hdsB hs = true) {j : Nat} (hj : j < hs.length) : ∃ k b f, hs.getD j .junk = .agg [.int .u8 k, .fs 1 b f] ∧ intsB .u8 b = true ∧ okF b f = true ∧ 0 ≤ k ∧ k < 256 := by
  refine hdB_iff.1 ?_
  unfold hdsB at h
  rw [List.all_eq_true] at h
  rw [List.getD_eq_getElem?_getD, List.getElem?_eq_getElem hj]
  exact h _ (List.getElem_mem hj)
/-- Is a kind one of a head? -/
def exB (k : Int) : Bool := k == 0 || k == 43 || k == 60
def badH (hs : List AV) (i : Nat) : Bool := !exB (kAt (hs.getD i .junk)) || (kAt (hs.getD i .junk) == 0 && decide (0 < i)) || !((bdAt (hs.getD i .junk)).length % 8 == 6) || decide (2046 < (bdAt (hs.getD i .junk)).length)
def rightH (hs : List AV) : Bool := noneB (badH hs) hs.length 0
def right6 (lb : Int) (hs : List AV) (fr : Bool) (id off : Int) (mo : Bool) (pr : Int) : Bool := decide (lb < 1048576) && decide (hs.length ≤ 8) && rightH hs && (bif fr then decide (0 ≤ off) && decide (off ≤ 8191) else id == 0 && off == 0 && !mo && !exB pr && !(pr == 44))
/-- How many bytes the heads have. -/
def headsN (hs : List AV) : Nat := foldF (fun j n => n + 2 + (bdAt (hs.getD j .junk)).length) hs.length 0 0
def chk6 (lb : Int) (hs : List AV) (fr : Bool) (id off : Int) (mo : Bool) (pr : Int) (bs : List AV) : Int := bif right6 lb hs fr id off mo pr then (bif decide (headsN hs + (bif fr then 8 else 0) + bs.length ≤ 65535) then 0 else 2) else 54
def ahd6 (hs : List AV) (fr : Bool) : Nat := 40 + headsN hs + (bif fr then 8 else 0)

/-- A datagram's cells. -/
def v6L (cl lb hop : Int) (x y : Nat → Int) (hs : List AV) (hf : SF) (fr : Bool) (id off : Int) (mo : Bool) (pr : Int) (bs : List AV) (bf : SF) : List AV := [.int .u8 cl, .int .u32 lb, .int .u8 hop, .int .u8 (x 0), .int .u8 (x 1), .int .u8 (x 2), .int .u8 (x 3), .int .u8 (x 4), .int .u8 (x 5), .int .u8 (x 6), .int .u8 (x 7), .int .u8 (x 8), .int .u8 (x 9), .int .u8 (x 10), .int .u8 (x 11), .int .u8 (x 12), .int .u8 (x 13), .int .u8 (x 14), .int .u8 (x 15), .int .u8 (y 0), .int .u8 (y 1), .int .u8 (y 2), .int .u8 (y 3), .int .u8 (y 4), .int .u8 (y 5), .int .u8 (y 6), .int .u8 (y 7), .int .u8 (y 8), .int .u8 (y 9), .int .u8 (y 10), .int .u8 (y 11), .int .u8 (y 12), .int .u8 (y 13), .int .u8 (y 14), .int .u8 (y 15), .fs 2 hs hf, .bool fr, .int .u32 id, .int .i64 off, .bool mo, .int .u8 pr, .fs 1 bs bf] -- Nx
def v6Ok (lb : Int) (hs : List AV) (hf : SF) (id off pr : Int) (bs : List AV) (bf : SF) : Bool := hdsB hs && okF hs hf && intsB .u8 bs && okF bs bf && (decide (0 ≤ lb) && decide (lb < 4294967296) && decide (-9223372036854775808 ≤ off) && decide (off ≤ 9223372036854775807) && decide (0 ≤ pr) && decide (pr < 256) && decide (0 ≤ id) && decide (id < 4294967296))
noncomputable def v6G (cs : List AV) : Bool := @decide (∃ cl lb hop, ∃ x y : Nat → Int, ∃ hs hf fr id off mo pr bs bf, cs = v6L cl lb hop x y hs hf fr id off mo pr bs bf ∧ v6Ok lb hs hf id off pr bs bf = true) (Classical.propDecidable _)
theorem v6G_iff {cs : List AV} : v6G cs = true ↔ ∃ cl lb hop, ∃ x y : Nat → Int, ∃ hs hf fr id off mo pr bs bf, cs = v6L cl lb hop x y hs hf fr id off mo pr bs bf ∧ v6Ok lb hs hf id off pr bs bf = true := by unfold v6G; exact @decide_eq_true_iff _ (Classical.propDecidable _)
theorem v6Ok_iff {lb : Int} {hs : List AV} {hf : SF} {id off pr : Int} {bs : List AV} {bf : SF} : v6Ok lb hs hf id off pr bs bf = true ↔ hdsB hs = true ∧ okF hs hf = true ∧ intsB .u8 bs = true ∧ okF bs bf = true ∧ 0 ≤ lb ∧ lb < 4294967296 ∧ -9223372036854775808 ≤ off ∧ off ≤ 9223372036854775807 ∧ 0 ≤ pr ∧ pr < 256 ∧ 0 ≤ id ∧ id < 4294967296 := by
  unfold v6Ok
  simp only [Bool.and_eq_true, decide_eq_true_eq, and_assoc]

theorem rem8_eq (n : Nat) : ((n : Int).tmod 8 != 6) = !(n % 8 == 6) := by
  have e : (n : Int).tmod 8 = ((n % 8 : Nat) : Int) := by rw [Int.tmod_eq_emod_of_nonneg (by omega)]; simp
  rw [e, bne, Bool.not_eq_eq_eq_not, Bool.not_not, Bool.eq_iff_iff, beq_iff_eq, beq_iff_eq]; omega
theorem badH_at {hs : List AV} {j : Nat} {kk : Int} {b : List AV} {g : SF} (e : hs.getD j .junk = .agg [.int .u8 kk, .fs 1 b g]) : badH hs j = (!exB kk || (kk == 0 && decide (0 < j)) || !(b.length % 8 == 6) || decide (2046 < b.length)) := by
  unfold badH; rw [e]; rfl
theorem badH_if {hs : List AV} {j : Nat} {kk : Int} {b : List AV} {g : SF} (e : hs.getD j .junk = .agg [.int .u8 kk, .fs 1 b g]) (R N : Res) :
    aIf (!exB kk) R (aIf (kk == 0) (aIf (decide ((j : Int) > 0)) R (aIf ((b.length : Int).tmod 8 != 6) R (aIf (decide ((b.length : Int) > 2046)) R N))) (aIf ((b.length : Int).tmod 8 != 6) R (aIf (decide ((b.length : Int) > 2046)) R N))) = aIf (badH hs j) R N := by
  have h1 : decide ((j : Int) > 0) = decide (0 < j) := by rw [Bool.eq_iff_iff, decide_eq_true_eq, decide_eq_true_eq]; omega
  have h2 : decide ((b.length : Int) > 2046) = decide (2046 < b.length) := by rw [Bool.eq_iff_iff, decide_eq_true_eq, decide_eq_true_eq]; omega
  rw [badH_at e, rem8_eq, h1, h2]
  cases exB kk <;> cases kk == 0 <;> cases decide (0 < j) <;> cases b.length % 8 == 6 <;> cases decide (2046 < b.length) <;> rfl
theorem rightH_len {hs : List AV} (h : rightH hs = true) {j : Nat} (hj : j < hs.length) {kk : Int} {b : List AV} {g : SF} (e : hs.getD j .junk = .agg [.int .u8 kk, .fs 1 b g]) : b.length ≤ 2046 := by
  have := (noneB_iff _ _ _).1 h j (Nat.zero_le _) (by omega)
  rw [badH_at e] at this
  simp only [Bool.or_eq_false_iff, decide_eq_false_iff_not] at this
  omega
theorem exB_if (n : Int) (k : KE) : aIf (n == 0) (k (.ret (.bool true)) []) (aIf (n == 43) (k (.ret (.bool true)) []) (k (.ret (.bool (n == 60))) [])) = k (.ret (.bool (exB n))) [] := by
  unfold exB
  cases n == 0 <;> cases n == 43 <;> rfl
theorem headsN_le {hs : List AV} (hh : hdsB hs = true) (h : rightH hs = true) (hl : hs.length ≤ 8) : headsN hs ≤ 16384 := by
  have := foldF_inv (f := fun j n => n + 2 + (bdAt (hs.getD j .junk)).length) (I := fun j n => n ≤ j * 2048) (N := hs.length) (fun j d hj hd => by
    obtain ⟨kk, b, g, e, _⟩ := hds_get hh hj
    have := rightH_len h hj e
    rw [e]
    show d + 2 + b.length ≤ (j + 1) * 2048
    omega) hs.length 0 0 (by omega) (by omega)
  unfold headsN
  omega

theorem shr20 {lb : Int} (h0 : 0 ≤ lb) : (lb.fdiv 1048576 != 0) = !decide (lb < 1048576) := by
  have e : lb.fdiv 1048576 = lb / 1048576 := Int.fdiv_eq_ediv_of_nonneg _ (by omega)
  rw [e, bne, Bool.not_eq_eq_eq_not, Bool.not_not, Bool.eq_iff_iff, beq_iff_eq, decide_eq_true_eq]; omega
theorem right6_heads {lb : Int} {hs : List AV} {fr : Bool} {id off : Int} {mo : Bool} {pr : Int} (h : right6 lb hs fr id off mo pr = true) : rightH hs = true ∧ hs.length ≤ 8 := by
  unfold right6 at h
  simp only [Bool.and_eq_true, decide_eq_true_eq] at h
  exact ⟨h.1.2, h.1.1.2⟩
theorem chk6_ok {lb : Int} {hs : List AV} {fr : Bool} {id off : Int} {mo : Bool} {pr : Int} {bs : List AV} (h : chk6 lb hs fr id off mo pr bs = 0) : right6 lb hs fr id off mo pr = true ∧ headsN hs + (bif fr then 8 else 0) + bs.length ≤ 65535 := by
  unfold chk6 at h
  cases hr : right6 lb hs fr id off mo pr with
  | false => rw [hr] at h; cases h
  | true =>
    rw [hr, cond_true] at h
    refine ⟨rfl, ?_⟩
    cases hd : decide (headsN hs + (bif fr then 8 else 0) + bs.length ≤ 65535) with
    | false => rw [hd] at h; cases h
    | true => exact of_decide_eq_true hd
theorem ahd6_le {hs : List AV} (hh : hdsB hs = true) (h : rightH hs = true) (hl : hs.length ≤ 8) (fr : Bool) : ahd6 hs fr ≤ 16432 ∧ 40 ≤ ahd6 hs fr ∧ ahd6 hs fr = 40 + (headsN hs + (bif fr then 8 else 0)) := by
  have := headsN_le hh h hl
  unfold ahd6
  cases fr <;> simp only [cond_true, cond_false] <;> omega

/-- What a datagram is refused for, and does it fit? -/
def ask6 (lb : Int) (hs : List AV) (fr : Bool) (id off : Int) (mo : Bool) (pr : Int) (bs : List AV) (m : Int) : Int := bif chk6 lb hs fr id off mo pr bs == 0 then (bif decide (1280 ≤ m) && decide (m ≤ 65535) then 0 else 131) else chk6 lb hs fr id off mo pr bs
def fit6 (lb : Int) (hs : List AV) (fr : Bool) (id off : Int) (mo : Bool) (pr : Int) (bs : List AV) (m : Int) : Bool := ask6 lb hs fr id off mo pr bs m == 0 && decide (((ahd6 hs fr + bs.length : Nat) : Int) ≤ m)

theorem fit6_bad {lb : Int} {hs : List AV} {fr : Bool} {id off : Int} {mo : Bool} {pr : Int} {bs : List AV} {m : Int} (h : ¬ ask6 lb hs fr id off mo pr bs m = 0) : fit6 lb hs fr id off mo pr bs m = false := by
  unfold fit6
  rw [beq_eq_false_iff_ne.2 h]; rfl
theorem ask6_ok {lb : Int} {hs : List AV} {fr : Bool} {id off : Int} {mo : Bool} {pr : Int} {bs : List AV} {m : Int} (h : ask6 lb hs fr id off mo pr bs m = 0) : chk6 lb hs fr id off mo pr bs = 0 ∧ 1280 ≤ m ∧ m ≤ 65535 := by
  unfold ask6 at h
  cases hc : chk6 lb hs fr id off mo pr bs == 0 with
  | false => rw [hc, cond_false] at h; rw [h] at hc; cases hc
  | true =>
    rw [hc, cond_true] at h
    refine ⟨beq_iff_eq.1 hc, ?_⟩
    cases hd : decide (1280 ≤ m) && decide (m ≤ 65535) with
    | false => rw [hd] at h; cases h
    | true => simpa only [Bool.and_eq_true, decide_eq_true_eq] using hd
theorem fit6_if (lb : Int) (hs : List AV) (fr : Bool) (id off : Int) (mo : Bool) (pr : Int) (bs : List AV) (m : Int) (k : KE) :
    aIf (chk6 lb hs fr id off mo pr bs != 0) (k (.pan (.iface 31 (.int .i64 (chk6 lb hs fr id off mo pr bs)))) []) (aIf (decide (m < 1280)) (k (.pan (.iface 31 (.int .i64 131))) []) (aIf (decide (m > 65535)) (k (.pan (.iface 31 (.int .i64 131))) []) (k (.ret (.bool (decide ((bif chk6 lb hs fr id off mo pr bs == 0 then ((ahd6 hs fr + bs.length : Nat) : Int) else 0) ≤ m)))) [])))
      = aIf (ask6 lb hs fr id off mo pr bs m == 0) (k (.ret (.bool (fit6 lb hs fr id off mo pr bs m))) []) (k (.pan (.iface 31 (.int .i64 (ask6 lb hs fr id off mo pr bs m)))) []) := by
  unfold fit6 ask6
  cases hc : chk6 lb hs fr id off mo pr bs == 0 with
  | false => rw [bne, hc]; simp only [Bool.not_false, aIf_true, cond_false, hc, aIf_false]
  | true =>
    rw [bne, hc]
    have e1 : decide (m < 1280) = !decide (1280 ≤ m) := by rw [Bool.eq_iff_iff, Bool.not_eq_true', decide_eq_true_eq, decide_eq_false_iff_not]; omega
    have e2 : decide (m > 65535) = !decide (m ≤ 65535) := by rw [Bool.eq_iff_iff, Bool.not_eq_true', decide_eq_true_eq, decide_eq_false_iff_not]; omega
    rw [e1, e2]
    cases decide (1280 ≤ m)
    · rfl
    · cases decide (m ≤ 65535) <;> rfl
theorem fit6_ans (lb : Int) (hs : List AV) (fr : Bool) (id off : Int) (mo : Bool) (pr : Int) (bs : List AV) (m : Int) (k : KE) :
    aIf (ask6 lb hs fr id off mo pr bs m == 0) (k (.ret (.tup [.bool (fit6 lb hs fr id off mo pr bs m), .int .i64 0])) []) (k (.ret (.tup [.bool false, .int .i64 (ask6 lb hs fr id off mo pr bs m)])) []) = k (.ret (.tup [.bool (fit6 lb hs fr id off mo pr bs m), .int .i64 (ask6 lb hs fr id off mo pr bs m)])) [] := by
  by_cases h : ask6 lb hs fr id off mo pr bs m = 0
  · rw [h]; rfl
  · rw [fit6_bad h, beq_eq_false_iff_ne.2 h, aIf_false]

/-- A head's copy. -/
def cloH (x : AV) : AV := match x with
  | .agg [.int .u8 k, .fs 1 b f] => .agg [.int .u8 k, .fs 1 b (cloF b f)]
  | y => y

/-- So many heads. -/
def hdsR (n : Nat) (kk : Nat → Int) (bb : Nat → List AV) (ff : Nat → SF) : List AV := (List.range n).map fun i => .agg [.int .u8 (kk i), .fs 1 (bb i) (ff i)] -- Nx
theorem hdsR_of {hs : List AV} (h : hdsB hs = true) : ∃ kk bb ff, hs = hdsR hs.length kk bb ff := by
  refine ⟨fun i => kAt (hs.getD i .junk), fun i => bdAt (hs.getD i .junk), fun i => ((hs.getD i .junk).cells.getD 1 .junk).toFl, ?_⟩
  refine List.ext_getElem (by simp [hdsR]) fun i h1 h2 => ?_
  obtain ⟨k, b, f, e, _⟩ := hds_get h h1
  have e2 : hs[i] = .agg [.int .u8 k, .fs 1 b f] := by
    rw [List.getD_eq_getElem?_getD, List.getElem?_eq_getElem h1] at e
    exact e
  simp only [hdsR, List.getElem_map, List.getElem_range, e, e2]
  rfl
theorem hdsR_at {hs : List AV} {n : Nat} {kk : Nat → Int} {bb : Nat → List AV} {ff : Nat → SF} (h : hdsB hs = true) (hr : rightH hs = true) (e : hs = hdsR n kk bb ff) (i : Nat) (hi : i < n) : (intsB .u8 (bb i) && decide ((bb i).length ≤ 1000000) && okF (bb i) (ff i)) = true := by
  have hl : hs.length = n := by rw [e]; simp [hdsR]
  have eg : hs.getD i .junk = .agg [.int .u8 (kk i), .fs 1 (bb i) (ff i)] := by
    rw [e, List.getD_eq_getElem?_getD]
    simp [hdsR, hi]
  obtain ⟨k, b, f, e1, h1, h2, _⟩ := hds_get h (by omega : i < hs.length)
  have hb := rightH_len hr (by omega : i < hs.length) eg
  rw [eg] at e1
  simp only [AV.agg.injEq, List.cons.injEq, AV.fs.injEq, true_and, and_true] at e1
  obtain ⟨_, rfl, rfl⟩ := e1
  rw [h1, h2, decide_eq_true (by omega)]; rfl

theorem heads_cells : ∀ {hs : List AV}, hdsB hs = true → (List.flatMap AV.cells hs).length = hs.length * 2
  | [], _ => rfl
  | x :: r, h => by
    have h' : (hdB x && hdsB r) = true := h
    rw [Bool.and_eq_true] at h'
    obtain ⟨k, b, f, rfl, _⟩ := hdB_iff.1 h'.1
    rw [List.flatMap_cons, List.length_append, heads_cells h'.2, List.length_cons]
    show 2 + r.length * 2 = _
    omega
theorem clone_heads {hs : List AV} (hh : hdsB hs = true) (hl : hs.length ≤ 8) (k : KE) (c0 c1 : List AV) :
    aIf (isNil hs) (k (.ret (.fs 2 [] .zc)) [.cells 0 c0, .cells 0 c1]) (k (.ret (.sl 2 (hs.length * 2) 0 hs.length 2)) [.cells 0 c0, .cells 0 c1, .cells (hs.length * 2) (hs.flatMap AV.cells)])
      = aIf (hs.length == 0) (k (.ret (.fs 2 [] .zc)) [.cells 0 c0, .cells 0 c1]) (aIf ((hs.length * 32).ble 140737488355328) (aIf ((List.flatMap AV.cells hs).length == hs.length * 2) (k (.ret (.sl 2 (hs.length * 2) 0 hs.length 2)) [.cells 0 c0, .cells 0 c1, .cells (hs.length * 2) (List.flatMap AV.cells hs)]) none) none) := by
  rw [heads_cells hh, beq_self_eq_true, aIf_true, show (hs.length * 32).ble 140737488355328 = true by rw [Nat.ble_eq]; omega, aIf_true]
  cases hs <;> rfl

/-- What a fragment header is refused for; and none. -/
def at6E (lb : Int) (hs : List AV) (fr : Bool) (id off : Int) (mo : Bool) (pr : Int) (bs : List AV) (i2 : Int) : Int := bif chk6 lb hs fr id off mo pr bs == 0 then (bif fr then 140 else chk6 lb hs true i2 off mo pr bs) else chk6 lb hs fr id off mo pr bs
def ba6E (lb : Int) (hs : List AV) (fr : Bool) (id off : Int) (mo : Bool) (pr : Int) (bs : List AV) : Int := bif chk6 lb hs fr id off mo pr bs == 0 then (bif fr && (mo || decide (off > 0)) then 140 else chk6 lb hs false 0 off mo pr bs) else chk6 lb hs fr id off mo pr bs
/-- The same, as text. -/
def bareH (x : AV) : Int × List AV := (kAt x, bdAt x)
noncomputable def same6G (cs ds : List AV) : Bool := @decide (∃ cl lb hop, ∃ x y : Nat → Int, ∃ hs hf fr id off mo pr bs bf gs gf bg, cs = v6L cl lb hop x y hs hf fr id off mo pr bs bf ∧ v6Ok lb hs hf id off pr bs bf = true ∧ ds = v6L cl lb hop x y gs gf fr id off mo pr bs bg ∧ v6Ok lb gs gf id off pr bs bg = true ∧ hs.map bareH = gs.map bareH ∧ hs.length ≤ 100 ∧ bs.length ≤ 70000) (Classical.propDecidable _)
theorem same6G_iff {cs ds : List AV} : same6G cs ds = true ↔ ∃ cl lb hop, ∃ x y : Nat → Int, ∃ hs hf fr id off mo pr bs bf gs gf bg, cs = v6L cl lb hop x y hs hf fr id off mo pr bs bf ∧ v6Ok lb hs hf id off pr bs bf = true ∧ ds = v6L cl lb hop x y gs gf fr id off mo pr bs bg ∧ v6Ok lb gs gf id off pr bs bg = true ∧ hs.map bareH = gs.map bareH ∧ hs.length ≤ 100 ∧ bs.length ≤ 70000 := by unfold same6G; exact @decide_eq_true_iff _ (Classical.propDecidable _)

theorem kAt_clo (x : AV) : kAt (cloH x) = kAt x := by unfold cloH; split <;> rfl
theorem bdAt_clo (x : AV) : bdAt (cloH x) = bdAt x := by unfold cloH; split <;> rfl
theorem getD_clo (hs : List AV) (j : Nat) : (hs.map cloH).getD j .junk = cloH (hs.getD j .junk) := by
  rw [List.getD_eq_getElem?_getD, List.getD_eq_getElem?_getD, List.getElem?_map]
  cases hs[j]? <;> rfl
theorem hdsB_clo {hs : List AV} (h : hdsB hs = true) : hdsB (hs.map cloH) = true := by
  unfold hdsB at h ⊢
  rw [List.all_eq_true] at h ⊢
  intro x hx
  obtain ⟨y, hy, rfl⟩ := List.mem_map.1 hx
  obtain ⟨k, b, f, rfl, h1, h2, h3, h4⟩ := hdB_iff.1 (h y hy)
  exact hdB_iff.2 ⟨k, b, _, rfl, h1, okF_clo b f, h3, h4⟩
theorem okF_clos (hs : List AV) (f : SF) : okF (hs.map cloH) (cloF hs f) = true := by
  unfold cloF
  cases hs <;> cases f <;> rfl
theorem badH_clo (hs : List AV) : badH (hs.map cloH) = badH hs := by
  funext i
  unfold badH
  rw [getD_clo, kAt_clo, bdAt_clo]
theorem rightH_clo (hs : List AV) : rightH (hs.map cloH) = rightH hs := by
  unfold rightH
  rw [badH_clo, List.length_map]
theorem headsN_clo (hs : List AV) : headsN (hs.map cloH) = headsN hs := by
  unfold headsN
  rw [List.length_map, show (fun j n => n + 2 + (bdAt ((hs.map cloH).getD j .junk)).length) = (fun j n => n + 2 + (bdAt (hs.getD j .junk)).length) from funext fun j => funext fun n => by rw [getD_clo, bdAt_clo]]
theorem right6_clo (lb : Int) (hs : List AV) (fr : Bool) (id off : Int) (mo : Bool) (pr : Int) : right6 lb (hs.map cloH) fr id off mo pr = right6 lb hs fr id off mo pr := by
  unfold right6
  rw [rightH_clo, List.length_map]
theorem chk6_clo (lb : Int) (hs : List AV) (fr : Bool) (id off : Int) (mo : Bool) (pr : Int) (bs : List AV) : chk6 lb (hs.map cloH) fr id off mo pr bs = chk6 lb hs fr id off mo pr bs := by
  unfold chk6
  rw [right6_clo, headsN_clo]
theorem bareH_clo (hs : List AV) : (hs.map cloH).map bareH = hs.map bareH := by
  rw [List.map_map]
  refine List.map_congr_left fun x _ => ?_
  show (kAt (cloH x), bdAt (cloH x)) = _
  rw [kAt_clo, bdAt_clo]; rfl
theorem v6Ok_clo {lb : Int} {hs : List AV} {hf : SF} {id off pr : Int} {bs : List AV} {bf : SF} (h : v6Ok lb hs hf id off pr bs bf = true) {i2 : Int} (h0 : 0 ≤ i2) (h1 : i2 < 4294967296) : v6Ok lb (hs.map cloH) (cloF hs hf) i2 off pr bs (cloF bs bf) = true := by
  obtain ⟨q1, q2, q3, q4, q5, q6, q7, q8, q9, q10, _, _⟩ := v6Ok_iff.1 h
  exact v6Ok_iff.2 ⟨hdsB_clo q1, okF_clos _ _, q3, okF_clo _ _, q5, q6, q7, q8, q9, q10, h0, h1⟩
theorem v6Ok_id {lb : Int} {hs : List AV} {hf : SF} {id off pr : Int} {bs : List AV} {bf : SF} (h : v6Ok lb hs hf id off pr bs bf = true) {i2 : Int} (h0 : 0 ≤ i2) (h1 : i2 < 4294967296) : v6Ok lb hs hf i2 off pr bs bf = true := by
  obtain ⟨q1, q2, q3, q4, q5, q6, q7, q8, q9, q10, _, _⟩ := v6Ok_iff.1 h
  exact v6Ok_iff.2 ⟨q1, q2, q3, q4, q5, q6, q7, q8, q9, q10, h0, h1⟩
theorem chk6_heads {lb : Int} {hs : List AV} {fr : Bool} {id off : Int} {mo : Bool} {pr : Int} {bs : List AV} (h : chk6 lb hs fr id off mo pr bs = 0) : (rightH hs && decide (hs.length ≤ 8) && decide (bs.length ≤ 65535)) = true := by
  obtain ⟨h1, h2⟩ := chk6_ok h
  obtain ⟨h3, h4⟩ := right6_heads h1
  rw [h3, decide_eq_true h4, decide_eq_true (show bs.length ≤ 65535 by omega)]; rfl
theorem aIf_ne (x y : Int) (A B : Res) : aIf (x != y) A B = aIf (x == y) B A := by
  rw [bne]; cases x == y <;> rfl
theorem chk6_at {lb : Int} {hs : List AV} {id off : Int} {mo : Bool} {pr : Int} {bs : List AV} (h : chk6 lb hs false id off mo pr bs = 0) (i2 : Int) : chk6 lb hs true i2 off mo pr bs = 0 ∨ chk6 lb hs true i2 off mo pr bs = 2 := by
  obtain ⟨h1, h2⟩ := chk6_ok h
  have hr : right6 lb hs true i2 off mo pr = true := by
    unfold right6 at h1 ⊢
    simp only [Bool.and_eq_true, decide_eq_true_eq, cond_false, cond_true, beq_iff_eq] at h1 ⊢
    obtain ⟨⟨⟨q1, q2⟩, q3⟩, ⟨⟨⟨_, q4⟩, _⟩, _⟩, _⟩ := h1
    exact ⟨⟨⟨q1, q2⟩, q3⟩, by omega, by omega⟩
  unfold chk6
  rw [hr, cond_true]
  cases decide (headsN hs + (bif true then 8 else 0) + bs.length ≤ 65535)
  · exact .inr rfl
  · exact .inl rfl
theorem chk6_ba {lb : Int} {hs : List AV} {fr : Bool} {id off : Int} {mo : Bool} {pr : Int} {bs : List AV} (h : chk6 lb hs fr id off mo pr bs = 0) : chk6 lb hs false 0 off mo pr bs = 0 ∨ chk6 lb hs false 0 off mo pr bs = 54 := by
  obtain ⟨h1, h2⟩ := chk6_ok h
  unfold chk6
  cases right6 lb hs false 0 off mo pr
  · exact .inr rfl
  · refine .inl ?_
    rw [cond_true, decide_eq_true (show headsN hs + (bif false then 8 else 0) + bs.length ≤ 65535 by rw [cond_false]; omega)]; rfl
theorem at6E_bad {lb : Int} {hs : List AV} {fr : Bool} {id off : Int} {mo : Bool} {pr : Int} {bs : List AV} {i2 : Int} (h : ¬ chk6 lb hs fr id off mo pr bs = 0) : at6E lb hs fr id off mo pr bs i2 = chk6 lb hs fr id off mo pr bs := by
  unfold at6E; rw [beq_eq_false_iff_ne.2 h]; rfl
theorem at6E_good {lb : Int} {hs : List AV} {fr : Bool} {id off : Int} {mo : Bool} {pr : Int} {bs : List AV} {i2 : Int} (h : chk6 lb hs fr id off mo pr bs = 0) : at6E lb hs fr id off mo pr bs i2 = bif fr then 140 else chk6 lb hs true i2 off mo pr bs := by
  unfold at6E; rw [h]; rfl
theorem ba6E_bad {lb : Int} {hs : List AV} {fr : Bool} {id off : Int} {mo : Bool} {pr : Int} {bs : List AV} (h : ¬ chk6 lb hs fr id off mo pr bs = 0) : ba6E lb hs fr id off mo pr bs = chk6 lb hs fr id off mo pr bs := by
  unfold ba6E; rw [beq_eq_false_iff_ne.2 h]; rfl
theorem ba6E_good {lb : Int} {hs : List AV} {fr : Bool} {id off : Int} {mo : Bool} {pr : Int} {bs : List AV} (h : chk6 lb hs fr id off mo pr bs = 0) : ba6E lb hs fr id off mo pr bs = bif fr && (mo || decide (off > 0)) then 140 else chk6 lb hs false 0 off mo pr bs := by
  unfold ba6E; rw [h]; rfl

def v6a (xs : List AV) : Prop := seqP [intT .u8, intT .u8, intT .u8, intT .u8, intT .u8, intT .u8, intT .u8, intT .u8, intT .u8, intT .u8, intT .u8, intT .u8, intT .u8, intT .u8, intT .u8, intT .u8] xs -- Nx
def headT (xs : List AV) : Prop := seqP [intT .u8, bytesT] xs -- Nx
def headsT (xs : List AV) : Prop := ∃ ys fl, xs = [.fs 2 ys fl] ∧ ys.length ≤ maxLen ∧ (fl ≠ .any → ys = []) ∧ ∀ y ∈ ys, headT y.cells ∧ ((true : Bool) = true → ∃ zs, y = .agg zs) ∧ ((true : Bool) = false → y.cells = [y]) -- Nx
def v6T (xs : List AV) : Prop := seqP [intT .u8, intT .u32, intT .u8, v6a, v6a, headsT, boolT, intT .u32, intT .i64, boolT, intT .u8, bytesT] xs -- Nx
theorem v6a_of {xs : List AV} (h : v6a xs) : ∃ x : Nat → Int, xs = [.int .u8 (x 0), .int .u8 (x 1), .int .u8 (x 2), .int .u8 (x 3), .int .u8 (x 4), .int .u8 (x 5), .int .u8 (x 6), .int .u8 (x 7), .int .u8 (x 8), .int .u8 (x 9), .int .u8 (x 10), .int .u8 (x 11), .int .u8 (x 12), .int .u8 (x 13), .int .u8 (x 14), .int .u8 (x 15)] := by
  obtain ⟨_, _, rfl, ⟨a0, rfl, _⟩, _, _, rfl, ⟨a1, rfl, _⟩, _, _, rfl, ⟨a2, rfl, _⟩, _, _, rfl, ⟨a3, rfl, _⟩, _, _, rfl, ⟨a4, rfl, _⟩, _, _, rfl, ⟨a5, rfl, _⟩, _, _, rfl, ⟨a6, rfl, _⟩, _, _, rfl, ⟨a7, rfl, _⟩, _, _, rfl, ⟨a8, rfl, _⟩, _, _, rfl, ⟨a9, rfl, _⟩, _, _, rfl, ⟨a10, rfl, _⟩, _, _, rfl, ⟨a11, rfl, _⟩, _, _, rfl, ⟨a12, rfl, _⟩, _, _, rfl, ⟨a13, rfl, _⟩, _, _, rfl, ⟨a14, rfl, _⟩, _, _, rfl, ⟨a15, rfl, _⟩, rfl⟩ := h
  exact ⟨fun i => ([a0, a1, a2, a3, a4, a5, a6, a7, a8, a9, a10, a11, a12, a13, a14, a15] : List Int).getD i 0, rfl⟩
theorem head_of {y : AV} (h : headT y.cells) (ha : ∃ zs, y = .agg zs) : hdB y = true := by
  obtain ⟨zs, rfl⟩ := ha
  obtain ⟨_, _, e, ⟨k, rfl, k0, k1⟩, _, _, rfl, hb, rfl⟩ := h
  obtain ⟨b, f, rfl, h1, h2⟩ := bytesT_of hb
  have e' : zs = [.int .u8 k, .fs 1 b f] := e
  rw [e']
  have m3 : IntKind.u8.max = 255 := rfl
  have m4 : IntKind.u8.min = 0 := rfl
  exact hdB_iff.2 ⟨k, b, f, rfl, h2, h1, by omega, by omega⟩
theorem headsT_of {xs : List AV} (h : headsT xs) : ∃ hs hf, xs = [.fs 2 hs hf] ∧ hdsB hs = true ∧ okF hs hf = true := by
  obtain ⟨hs, hf, rfl, _, h2, h3⟩ := h
  refine ⟨hs, hf, rfl, ?_, okF_of h2⟩
  unfold hdsB
  rw [List.all_eq_true]
  intro y hy
  obtain ⟨q1, q2, _⟩ := h3 y hy
  exact head_of q1 (q2 rfl)
theorem v6Arg {E : Env} {f t : Nat} {X : AV} (h : argV E f t X) (hT : ∀ xs, argT E f t xs = v6T xs) (ha : aggT E t = true) :
    ∃ cl lb hop, ∃ x y : Nat → Int, ∃ hs hf fr id off mo pr bs bf, X = .agg (v6L cl lb hop x y hs hf fr id off mo pr bs bf) ∧ v6Ok lb hs hf id off pr bs bf = true := by
  obtain ⟨zs, rfl, hq⟩ := aggArg h hT ha
  obtain ⟨_, _, rfl, ⟨cl, rfl, _⟩, _, _, rfl, ⟨lb, rfl, l0, l1⟩, _, _, rfl, ⟨hop, rfl, _⟩, _, _, rfl, hx, _, _, rfl, hy, _, _, rfl, hh, _, _, rfl, ⟨fr, rfl⟩, _, _, rfl, ⟨id, rfl, i0, i1⟩, _, _, rfl, ⟨off, rfl, ho⟩, _, _, rfl, ⟨mo, rfl⟩, _, _, rfl, ⟨pr, rfl, p0, p1⟩, _, _, rfl, hb, rfl⟩ := hq
  obtain ⟨x, rfl⟩ := v6a_of hx
  obtain ⟨y, rfl⟩ := v6a_of hy
  obtain ⟨hs, hf, rfl, h1, h2⟩ := headsT_of hh
  obtain ⟨bs, bf, rfl, h3, h4⟩ := bytesT_of hb
  have ho := rng_i64 ho
  have m1 : IntKind.u32.max = 4294967295 := rfl
  have m2 : IntKind.u32.min = 0 := rfl
  have m3 : IntKind.u8.max = 255 := rfl
  have m4 : IntKind.u8.min = 0 := rfl
  exact ⟨cl, lb, hop, x, y, hs, hf, fr, id, off, mo, pr, bs, bf, rfl, v6Ok_iff.2 ⟨h1, h2, h4, h3, by omega, by omega, ho.1, ho.2, by omega, by omega, by omega, by omega⟩⟩

theorem at6_facts {lb : Int} {hs : List AV} {fr : Bool} {id off : Int} {mo : Bool} {pr : Int} {bs : List AV} {i2 : Int} (h : at6E lb hs fr id off mo pr bs i2 = 0) : chk6 lb hs fr id off mo pr bs = 0 ∧ fr = false ∧ id = 0 ∧ off = 0 ∧ mo = false ∧ chk6 lb hs true i2 off mo pr bs = 0 := by
  by_cases hc : chk6 lb hs fr id off mo pr bs = 0
  · rw [at6E_good hc] at h
    cases fr with
    | true => cases h
    | false =>
      rw [cond_false] at h
      obtain ⟨h1, _⟩ := chk6_ok hc
      unfold right6 at h1
      simp only [Bool.and_eq_true, decide_eq_true_eq, cond_false, beq_iff_eq, Bool.not_eq_true'] at h1
      exact ⟨hc, rfl, h1.2.1.1.1.1, h1.2.1.1.1.2, h1.2.1.1.2, h⟩
  · rw [at6E_bad hc] at h; exact absurd h hc
theorem ba6_facts {lb : Int} {hs : List AV} {fr : Bool} {id off : Int} {mo : Bool} {pr : Int} {bs : List AV} (h : ba6E lb hs fr id off mo pr bs = 0) : chk6 lb hs fr id off mo pr bs = 0 := by
  by_cases hc : chk6 lb hs fr id off mo pr bs = 0
  · exact hc
  · rw [ba6E_bad hc] at h; exact absurd h hc
theorem ba6_at {lb : Int} {hs : List AV} {pr : Int} {bs : List AV} {i2 : Int} (h1 : chk6 lb hs true i2 0 false pr bs = 0) (h2 : chk6 lb hs false 0 0 false pr bs = 0) : ba6E lb (hs.map cloH) true i2 0 false pr bs = 0 := by
  rw [ba6E_good (by rw [chk6_clo]; exact h1)]
  show chk6 lb (hs.map cloH) false 0 0 false pr bs = 0
  rw [chk6_clo]; exact h2
theorem chk6_len {lb : Int} {hs : List AV} {fr : Bool} {id off : Int} {mo : Bool} {pr : Int} {bs : List AV} (h : chk6 lb hs fr id off mo pr bs = 0) : hs.length ≤ 8 ∧ bs.length ≤ 65535 := by
  have := chk6_heads h
  simp only [Bool.and_eq_true, decide_eq_true_eq] at this
  exact ⟨this.1.2, this.2⟩
theorem same6_of {cl lb hop : Int} {x y : Nat → Int} {hs : List AV} {hf : SF} {fr : Bool} {id off : Int} {mo : Bool} {pr : Int} {bs : List AV} {bf : SF} {gs : List AV} {gf bg : SF} (h : v6Ok lb hs hf id off pr bs bf = true) (h2 : v6Ok lb gs gf id off pr bs bg = true) (hb : hs.map bareH = gs.map bareH) (hl : hs.length ≤ 8) (hbl : bs.length ≤ 65535) :
    same6G (v6L cl lb hop x y hs hf fr id off mo pr bs bf) (v6L cl lb hop x y gs gf fr id off mo pr bs bg) = true :=
  same6G_iff.2 ⟨cl, lb, hop, x, y, hs, hf, fr, id, off, mo, pr, bs, bf, gs, gf, bg, rfl, h, rfl, h2, hb, by omega, by omega⟩

end Go.Pl
