/- Any order of a region that draws. -/
import Derived.Test.YteaceebonkpipaaB2
namespace Go.Abs
open Go.RowKit

theorem mem_once {u : Nat} : ∀ (l acc : List Nat), u ∈ onceL l acc → u ∈ l ∨ u ∈ acc
  | [], _, h => .inr h
  | x :: r, acc, h => by
    simp only [onceL] at h
    split at h
    · rcases mem_once r acc h with h | h
      · exact .inl (List.mem_cons_of_mem _ h)
      · exact .inr h
    · rcases mem_once r (x :: acc) h with h | h
      · exact .inl (List.mem_cons_of_mem _ h)
      · rcases List.mem_cons.1 h with rfl | h
        · exact .inl (by simp)
        · exact .inr h

theorem anc_ok {L : Nat → Prop} : ∀ (l : List Oper) (T : List (List Nat)) (ops : List Oper), T.length + l.length = ops.length → (∀ j, l[j]? = ops[T.length + j]?) →
    (∀ (j : Nat) (p : Oper), ops[j]? = some p → L j → ∀ e ∈ edgesOf p, L e) → (∀ (j : Nat) (p : Oper), ops[j]? = some p → ∀ e ∈ edgesOf p, e < j) →
    (∀ (j : Nat) (p : Oper), j < T.length → ops[j]? = some p → (∀ e ∈ edgesOf p, L e) → ∀ i ∈ T.getD j [], L i) →
    ∀ (j : Nat) (p : Oper), ops[j]? = some p → (∀ e ∈ edgesOf p, L e) → ∀ i ∈ (ancT l T).getD j [], L i
  | [], T, ops, hlen, _, _, _, hT, j, p, hp, he, i, hi => by
    have : j < T.length := by
      have := (List.getElem?_eq_some_iff.1 hp).1
      simp at hlen; omega
    exact hT j p this hp he i hi
  | o :: l, T, ops, hlen, hl, hcl, hback, hT, j, p, hp, he, i, hi => by
    have ho : ops[T.length]? = some o := by simpa using (hl 0).symm
    refine anc_ok l (T ++ [onceL ((edgesOf o).flatMap fun e => e :: T.getD e []) []]) ops (by simp at hlen ⊢; omega) (fun m => ?_) hcl hback ?_ j p hp he i hi
    · have := hl (m + 1)
      rw [List.getElem?_cons_succ] at this
      rw [this]
      simp only [List.length_append, List.length_cons, List.length_nil]
      congr 1; omega
    · intro m q hm hq hqe u hu
      rcases Nat.lt_or_ge m T.length with hlt | hge
      · rw [List.getD_eq_getElem?_getD, List.getElem?_append_left hlt, ← List.getD_eq_getElem?_getD] at hu
        exact hT m q hlt hq hqe u hu
      · obtain rfl : m = T.length := by simp at hm; omega
        rw [ho] at hq; cases hq
        rw [List.getD_eq_getElem?_getD, List.getElem?_append_right (Nat.le_refl _)] at hu
        simp only [Nat.sub_self, List.getElem?_cons_zero, Option.getD_some] at hu
        rcases mem_once _ _ hu with hu | hu
        rotate_left
        · cases hu
        rw [List.mem_flatMap] at hu
        obtain ⟨e, hem, hu⟩ := hu
        have hLe := hqe e hem
        rcases List.mem_cons.1 hu with rfl | hu
        · exact hLe
        · have hlt := hback _ _ ho e hem
          have hx : ∃ q, ops[e]? = some q := ⟨_, List.getElem?_eq_getElem (by have := (List.getElem?_eq_some_iff.1 ho).1; omega)⟩
          obtain ⟨q, hq⟩ := hx
          exact hT e q hlt hq (hcl e q hq hLe) u hu

theorem drawOk_spec {C : Ctx} {ops : Array Oper} {T : List (List Nat)} : ∀ (l : List Oper) (j : Nat), (∀ m, l[m]? = ops[j + m]?) → drawOk C ops T j l = true →
    ∀ (m : Nat) (p : Oper), j ≤ m → ops[m]? = some p → (∀ e ∈ edgesOf p, e < m) ∧ ∀ (i : Nat) (o : Oper), i < m → ops[i]? = some o → (apartB ops o p = true ∧ (barB C o.op = false ∨ barB C p.op = false)) ∨ i ∈ T.getD m []
  | [], j, hl, _, m, p, hm, hp => by
    have := hl (m - j)
    rw [show j + (m - j) = m by omega, hp] at this
    simp at this
  | p0 :: l, j, hl, h, m, p, hm, hp => by
    simp only [drawOk, Bool.and_eq_true, List.all_eq_true, decide_eq_true_eq] at h
    obtain ⟨⟨h1, h2⟩, h3⟩ := h
    rcases Nat.lt_or_ge j m with hlt | hge
    · exact drawOk_spec l (j + 1) (fun u => by have := hl (u + 1); simpa [Nat.add_assoc, Nat.add_comm 1 u] using this) h3 m p hlt hp
    · obtain rfl : j = m := by omega
      have : ops[j]? = some p0 := by simpa using (hl 0).symm
      obtain rfl : p0 = p := Option.some.inj (this.symm.trans hp)
      refine ⟨h1, fun i o hi ho => ?_⟩
      have key : ∀ (r : List Oper) (u : Nat), pairsOk C ops T j p0 u r = true → ∀ x, r[x]? = some o → u + x < j → ((apartB ops o p0 = true ∧ (barB C o.op = false ∨ barB C p0.op = false)) ∨ (u + x) ∈ T.getD j []) := by
        intro r
        induction r with
        | nil => intro u _ x hx; simp at hx
        | cons q r ih =>
          intro u hu x hx hlt
          simp only [pairsOk] at hu
          split at hu
          · rename_i hd
            have := of_decide_eq_false hd
            omega
          · simp only [Bool.and_eq_true, Bool.or_eq_true, Bool.not_eq_true', Bool.and_eq_false_iff, List.contains_iff_mem] at hu
            cases x with
            | zero =>
              simp at hx; subst hx
              rcases hu.1 with ⟨a1, a2⟩ | a
              · exact .inl ⟨a1, a2⟩
              · exact .inr a
            | succ x =>
              have := ih (u + 1) hu.2 x (by simpa using hx) (by omega)
              rwa [show u + 1 + x = u + (x + 1) by omega] at this
      have := key ops.toList 0 h2 i (by rw [Array.getElem?_toList]; exact ho) (by omega)
      simpa using this

def HL (C : Ctx) (ops : Array Oper) (Hs : Nat → AH) (L : Nat → Bool) : Nat → AH
  | 0 => Hs 0
  | j + 1 => match L j && (match ops[j]? with
      | some o => barB C o.op
      | none => false) with
    | true => Hs (j + 1)
    | false => HL C ops Hs L j

def cnt (L : Nat → Bool) : Nat → Nat
  | 0 => 0
  | n + 1 => cnt L n + (match L n with
    | true => 0
    | false => 1)

theorem cnt_ext {L : Nat → Bool} {i : Nat} (hi : L i = false) : ∀ n, cnt (ext L i true) n = cnt L n - (if i < n then 1 else 0) ∧ (i < n → 1 ≤ cnt L n)
  | 0 => ⟨rfl, fun h => absurd h (Nat.not_lt_zero _)⟩
  | n + 1 => by
    obtain ⟨h1, h2⟩ := cnt_ext hi n
    simp only [cnt, h1]
    by_cases hn : n = i
    · subst hn
      have : ¬ n < n := Nat.lt_irrefl _
      simp [ext, hi]
    · have he : ext L i true n = L n := by simp [ext, hn]
      rw [he]
      by_cases hin : i < n
      · have := h2 hin
        have h3 : i < n + 1 := by omega
        simp only [hin, h3, if_true]
        exact ⟨by omega, fun _ => by omega⟩
      · have h3 : ¬ i < n + 1 := by omega
        rw [if_neg hin, if_neg h3]
        exact ⟨by omega, fun h => absurd h h3⟩

theorem cnt_zero {L : Nat → Bool} : ∀ n, cnt L n = 0 → ∀ j, j < n → L j = true
  | 0, _, j, hj => absurd hj (Nat.not_lt_zero _)
  | n + 1, h, j, hj => by
    simp only [cnt] at h
    cases hL : L n with
    | true =>
      rw [hL] at h
      rcases Nat.lt_or_ge j n with hlt | hge
      · exact cnt_zero n (by omega) j hlt
      · obtain rfl : j = n := by omega
        exact hL
    | false => rw [hL] at h; simp at h

section
variable {P : Program} {C : Ctx} {ro : Option Nat} {r : Fin'} {n : Nat} {ops : Array Oper}

theorem tmpsOf_mem {xs : List Operand} {t : Nat} : t ∈ tmpsOf xs ↔ Operand.tmp t ∈ xs := by
  induction xs with
  | nil => simp [tmpsOf]
  | cons x xs ih => cases x <;> simp [tmpsOf, ih]

theorem usesOp_op {o : Oper} {t : Nat} (h : Operand.tmp t ∈ o.op.operands.toList) : t ∈ usesOp ops o := by
  have := tmpsOf_mem.2 h
  unfold usesOp
  split
  · exact this
  · split
    · exact List.mem_cons_of_mem _ this
    · exact this

/-- The pairs of a region, and what is listed. -/
structure Listed (C : Ctx) (ops : Array Oper) (L : Nat → Bool) : Prop where
  pairs : ∀ (m : Nat) (p : Oper), ops[m]? = some p → (∀ e ∈ edgesOf p, e < m) ∧ ∀ (i : Nat) (o : Oper), i < m → ops[i]? = some o → (apartB ops o p = true ∧ (barB C o.op = false ∨ barB C p.op = false)) ∨ i ∈ (ancT ops.toList []).getD m []
  closed : ∀ (j : Nat) (p : Oper), ops[j]? = some p → L j = true → ∀ e ∈ edgesOf p, L e = true

theorem Listed.anc {L : Nat → Bool} (h : Listed C ops L) {j : Nat} {p : Oper} (hp : ops[j]? = some p) (he : ∀ e ∈ edgesOf p, L e = true) : ∀ i ∈ (ancT ops.toList []).getD j [], L i = true := by
  refine anc_ok (L := fun j => L j = true) ops.toList [] ops.toList (by simp) (fun j => by simp) (fun j p hp => h.closed j p (by simpa using hp)) (fun j p hp => (h.pairs j p (by simpa using hp)).1) (fun j p hj => by simp at hj) j p (by simpa using hp) he

/-- The one that comes next, against the others: behind it none is listed that is not apart from it; ahead of it all that are not apart from it. -/
theorem Listed.behind {L : Nat → Bool} (h : Listed C ops L) {i j : Nat} {o p : Oper} (ho : ops[i]? = some o) (hp : ops[j]? = some p) (hij : i < j) (hi : L i = false) (hj : L j = true) : apartB ops o p = true ∧ (barB C o.op = false ∨ barB C p.op = false) := by
  rcases (h.pairs j p hp).2 i o hij ho with h1 | h1
  · exact h1
  · have := h.anc hp (h.closed j p hp hj) i h1
    rw [hi] at this; cases this
theorem Listed.ahead {L : Nat → Bool} (h : Listed C ops L) {i j : Nat} {o p : Oper} (ho : ops[i]? = some o) (hp : ops[j]? = some p) (hij : j < i) (he : ∀ e ∈ edgesOf o, L e = true) (hj : L j = false) : apartB ops p o = true ∧ (barB C p.op = false ∨ barB C o.op = false) := by
  rcases (h.pairs i o ho).2 j p hij hp with h1 | h1
  · exact h1
  · have := h.anc ho he j h1
    rw [hj] at this; cases this

theorem apart_uses {o p : Oper} (h : apartB ops o p = true) : (∀ d, o.dst = some d → d ∉ usesOp ops p ∧ p.dst ≠ some d) ∧ (∀ d, p.dst = some d → d ∉ usesOp ops o) := by
  simp only [apartB, Bool.and_eq_true] at h
  obtain ⟨h1, h2⟩ := h
  constructor
  · intro d hd
    rw [hd] at h1
    simp only [Bool.and_eq_true, Bool.not_eq_true', beq_eq_false_iff_ne, ne_eq] at h1
    exact ⟨fun hm => by simp [hm] at h1, h1.2⟩
  · intro d hd
    rw [hd] at h2
    simp only [Bool.not_eq_true'] at h2
    exact fun hm => by simp [hm] at h2

/-- The temporaries that the next one looks at. -/
theorem Listed.look {L : Nat → Bool} (h : Listed C ops L) {ts0 : ATs} {xs : Nat → AV} {i : Nat} {o : Oper} (ho : ops[i]? = some o) (hi : L i = false) (he : ∀ e ∈ edgesOf o, L e = true) {t : Nat} (ht : t ∈ usesOp ops o) :
    (tsL ops ts0 xs L ops.size).get t = (tsL ops ts0 xs all i).get t := by
  have ilt : i < ops.size := (Array.getElem?_eq_some_iff.1 ho).1
  have low : ∀ m, m ≤ i → (tsL ops ts0 xs L m).get t = (tsL ops ts0 xs all m).get t := by
    intro m
    induction m with
    | zero => intro _; rfl
    | succ m ih =>
      intro hm
      have ih := ih (by omega)
      have hp : ops[m]? = some (ops[m]'(by omega)) := Array.getElem?_eq_getElem (by omega)
      have hall : all m = true := rfl
      simp only [tsL, hall]
      cases hL : L m with
      | true => simp only [put_get]; rw [ih]
      | false =>
        simp only []
        rw [put_get, if_neg]
        · exact ih
        · rw [hp]
          simp only [Option.bind_some]
          intro hd
          exact ((apart_uses (h.ahead ho hp (by omega) he hL).1).1 t hd).1 ht
  have high : ∀ d, i + d ≤ ops.size → (tsL ops ts0 xs L (i + d)).get t = (tsL ops ts0 xs L i).get t := by
    intro d
    induction d with
    | zero => intro _; rfl
    | succ d ih =>
      intro hm
      have ih := ih (by omega)
      have hp : ops[i + d]? = some (ops[i + d]'(by omega)) := Array.getElem?_eq_getElem (by omega)
      rw [show i + (d + 1) = (i + d) + 1 by omega]
      simp only [tsL]
      cases hL : L (i + d) with
      | false => exact ih
      | true =>
        simp only []
        rw [put_get, if_neg]
        · exact ih
        · rw [hp]
          simp only [Option.bind_some]
          intro hd
          rcases Nat.eq_zero_or_pos d with hd0 | hpos
          · subst hd0; rw [Nat.add_zero, hi] at hL; cases hL
          · exact (apart_uses (h.behind ho hp (by omega) hi hL).1).2 t hd ht
  have := high (ops.size - i) (by omega)
  rw [show i + (ops.size - i) = ops.size by omega] at this
  rw [this, low i (Nat.le_refl _)]

/-- The temporaries behind the next one. -/
theorem Listed.done {L : Nat → Bool} (h : Listed C ops L) {ts0 : ATs} {xs : Nat → AV} {i : Nat} {o : Oper} (ho : ops[i]? = some o) (hi : L i = false) : same ((tsL ops ts0 xs L ops.size).put o.dst (xs i)) (tsL ops ts0 xs (ext L i true) ops.size) := by
  have ilt : i < ops.size := (Array.getElem?_eq_some_iff.1 ho).1
  intro t
  have hLi : ext L i true i = true := by simp [ext]
  have hLo : ∀ j, j ≠ i → ext L i true j = L j := fun j hj => by simp [ext, hj]
  rw [put_get]
  have low : ∀ m, m ≤ i → tsL ops ts0 xs (ext L i true) m = tsL ops ts0 xs L m := by
    intro m
    induction m with
    | zero => intro _; rfl
    | succ m ih =>
      intro hm
      simp only [tsL, ih (by omega), hLo m (by omega)]
  by_cases hd : o.dst = some t
  · rw [if_pos hd]
    have high : ∀ d, i + 1 + d ≤ ops.size → (tsL ops ts0 xs (ext L i true) (i + 1 + d)).get t = xs i := by
      intro d
      induction d with
      | zero =>
        intro _
        simp only [tsL, hLi, ho, Option.bind_some, put_get, hd, if_true]
      | succ d ih =>
        intro hm
        have ih := ih (by omega)
        have hp : ops[i + 1 + d]? = some (ops[i + 1 + d]'(by omega)) := Array.getElem?_eq_getElem (by omega)
        rw [show i + 1 + (d + 1) = (i + 1 + d) + 1 by omega]
        simp only [tsL, hLo (i + 1 + d) (by omega)]
        cases hL : L (i + 1 + d) with
        | false => exact ih
        | true =>
          simp only []
          rw [put_get, if_neg]
          · exact ih
          · rw [hp]
            simp only [Option.bind_some]
            intro hd2
            exact ((apart_uses (h.behind ho hp (by omega) hi hL).1).1 t hd).2 hd2
    have := high (ops.size - (i + 1)) (by omega)
    rw [show i + 1 + (ops.size - (i + 1)) = ops.size by omega] at this
    exact this.symm
  · rw [if_neg hd]
    have high : ∀ d, i + 1 + d ≤ ops.size → (tsL ops ts0 xs (ext L i true) (i + 1 + d)).get t = (tsL ops ts0 xs L (i + 1 + d)).get t := by
      intro d
      induction d with
      | zero =>
        intro _
        simp only [tsL, hLi, hi, ho, Option.bind_some, put_get, low i (Nat.le_refl _)]
        rw [if_neg hd]
      | succ d ih =>
        intro hm
        have ih := ih (by omega)
        rw [show i + 1 + (d + 1) = (i + 1 + d) + 1 by omega]
        simp only [tsL, hLo (i + 1 + d) (by omega)]
        cases hL : L (i + 1 + d) with
        | false => exact ih
        | true => simp only [put_get, ih]
    have := high (ops.size - (i + 1)) (by omega)
    rw [show i + 1 + (ops.size - (i + 1)) = ops.size by omega] at this
    exact this.symm

theorem steadyL_spec {C : Ctx} {T : List (List Nat)} {g : Op → Bool} {j : Nat} : ∀ (l : List Oper) (i : Nat), steadyL C T g j i l = true → ∀ (m : Nat) (o : Oper), l[m]? = some o → barB C o.op = true → g o.op = false → (i + m < j → (i + m) ∈ T.getD j []) ∧ (j < i + m → j ∈ T.getD (i + m) [])
  | [], i, _, m, o, h, _, _ => by simp at h
  | p :: l, i, hs, m, o, h, hb, hg => by
    simp only [steadyL, Bool.and_eq_true] at hs
    cases m with
    | zero =>
      simp at h; subst h
      rw [hb, hg] at hs
      simp only [Bool.not_true, Bool.false_or, Nat.add_zero] at hs ⊢
      have h1 := hs.1
      split at h1
      · rename_i hlt
        have hlt := Nat.le_of_ble_eq_true hlt
        exact ⟨fun _ => by simpa using h1, fun hgt => by omega⟩
      · split at h1
        · rename_i hn hgt
          have hgt := Nat.le_of_ble_eq_true hgt
          exact ⟨fun hlt => by omega, fun _ => by simpa using h1⟩
        · rename_i hn _ hm
          refine ⟨fun hlt => ?_, fun hgt => ?_⟩
          · rw [show Nat.blt i j = true from Nat.ble_eq_true_of_le hlt] at hn; cases hn
          · rw [show Nat.blt j i = true from Nat.ble_eq_true_of_le hgt] at hm; cases hm
    | succ m =>
      have := steadyL_spec l (i + 1) hs.2 m o (by simpa using h) hb hg
      rwa [show i + 1 + m = i + (m + 1) by omega] at this

/-- What comes next and is no bar leaves the rows as they are. -/
theorem HL_nobar {Hs : Nat → AH} {L : Nat → Bool} {i : Nat} {o : Oper} (ho : ops[i]? = some o) (hb : barB C o.op = false) : ∀ m, HL C ops Hs (ext L i true) m = HL C ops Hs L m
  | 0 => rfl
  | m + 1 => by
    simp only [HL, HL_nobar ho hb m]
    by_cases hm : m = i
    · subst hm
      simp only [ho, hb, Bool.and_false]
    · have : ext L i true m = L m := by simp [ext, hm]
      rw [this]

/-- Our rows when the next one comes, and behind it. -/
theorem Listed.rows {L : Nat → Bool} (h : Listed C ops L) {Hs : Nat → AH} (hst : ∀ (j : Nat) (p : Oper), ops[j]? = some p → barB C p.op = false → Hs (j + 1) = Hs j) {i : Nat} {o : Oper} (ho : ops[i]? = some o) (hi : L i = false) (he : ∀ e ∈ edgesOf o, L e = true)
    (hfix : barB C o.op = true ∨ steadyB C ops (fun _ => false) i = true) :
    HL C ops Hs L ops.size = Hs i ∧ HL C ops Hs (ext L i true) ops.size = Hs (i + 1) := by
  have ilt : i < ops.size := (Array.getElem?_eq_some_iff.1 ho).1
  have hLi : ext L i true i = true := by simp [ext]
  have hLo : ∀ j, j ≠ i → ext L i true j = L j := fun j hj => by simp [ext, hj]
  have ahead : ∀ (m : Nat) (p : Oper), m < i → ops[m]? = some p → barB C p.op = true → L m = true := by
    intro m p hm hp hb
    cases hL : L m with
    | true => rfl
    | false =>
      rcases hfix with hf | hf
      · have := (h.ahead ho hp hm he hL).2
        rw [hb, hf] at this
        rcases this with h | h <;> cases h
      · have := (steadyL_spec ops.toList 0 hf m p (by simpa using hp) hb rfl).1 (by omega)
        rw [Nat.zero_add] at this
        rw [h.anc ho he m this] at hL; cases hL
  have behind : ∀ (m : Nat) (p : Oper), i < m → ops[m]? = some p → L m = true → barB C p.op = false := by
    intro m p hm hp hL
    cases hb : barB C p.op with
    | false => rfl
    | true =>
      rcases hfix with hf | hf
      · have := (h.behind ho hp hm hi hL).2
        rw [hb, hf] at this
        rcases this with h | h <;> cases h
      · have := (steadyL_spec ops.toList 0 hf m p (by simpa using hp) hb rfl).2 (by omega)
        rw [Nat.zero_add] at this
        rw [h.anc hp (h.closed m p hp hL) i this] at hi; cases hi
  have low : ∀ m, m ≤ i → HL C ops Hs L m = Hs m ∧ HL C ops Hs (ext L i true) m = Hs m := by
    intro m
    induction m with
    | zero => intro _; exact ⟨rfl, rfl⟩
    | succ m ih =>
      intro hm
      obtain ⟨i1, i2⟩ := ih (by omega)
      have hp : ops[m]? = some (ops[m]'(by omega)) := Array.getElem?_eq_getElem (by omega)
      simp only [HL, hp, hLo m (by omega)]
      cases hb : barB C (ops[m]'(by omega)).op with
      | false =>
        simp only [Bool.and_false, i1, i2, hst m _ hp hb, and_self]
      | true =>
        rw [ahead m _ (by omega) hp hb]
        exact ⟨rfl, rfl⟩
  have high : ∀ (L' : Nat → Bool) (H : AH), (∀ j, i < j → L' j = L j) → HL C ops Hs L' (i + 1) = H → ∀ d, i + 1 + d ≤ ops.size → HL C ops Hs L' (i + 1 + d) = H := by
    intro L' H hL' hH d
    induction d with
    | zero => intro _; exact hH
    | succ d ih =>
      intro hm
      have ih := ih (by omega)
      have hp : ops[i + 1 + d]? = some (ops[i + 1 + d]'(by omega)) := Array.getElem?_eq_getElem (by omega)
      rw [show i + 1 + (d + 1) = (i + 1 + d) + 1 by omega]
      simp only [HL, hp, hL' (i + 1 + d) (by omega)]
      cases hL : L (i + 1 + d) with
      | false => exact ih
      | true =>
        rw [behind _ _ (by omega) hp hL]
        exact ih
  obtain ⟨l1, l2⟩ := low i (Nat.le_refl _)
  have h1 : HL C ops Hs L (i + 1) = Hs i := by simp only [HL, hi, Bool.false_and, l1]
  have h2 : HL C ops Hs (ext L i true) (i + 1) = Hs (i + 1) := by
    simp only [HL, hLi, ho, Bool.true_and]
    cases hb : barB C o.op with
    | true => rfl
    | false => simp only [l2, hst i o ho hb]
  have g1 := high L _ (fun _ _ => rfl) h1 (ops.size - (i + 1)) (by omega)
  have g2 := high (ext L i true) _ (fun j hj => hLo j (by omega)) h2 (ops.size - (i + 1)) (by omega)
  rw [show i + 1 + (ops.size - (i + 1)) = ops.size by omega] at g1 g2
  exact ⟨g1, g2⟩

/-- What comes next and but reads a row: that row as it lies is as it would lie. -/
theorem Listed.near {L : Nat → Bool} (h : Listed C ops L) {Hs : Nat → AH} {g : Op → Bool} {id : Nat} (hst : ∀ (j : Nat) (p : Oper), ops[j]? = some p → barB C p.op = false → Hs (j + 1) = Hs j)
    (hgr : ∀ (j : Nat) (p : Oper), ops[j]? = some p → g p.op = true → id < (Hs j).length → (Hs (j + 1))[id]? = (Hs j)[id]? ∧ id < (Hs (j + 1)).length)
    {i : Nat} {o : Oper} (ho : ops[i]? = some o) (hi : L i = false) (he : ∀ e ∈ edgesOf o, L e = true) (hf : steadyB C ops g i = true) (hthere : id < (Hs i).length) (hlive : id < (HL C ops Hs L ops.size).length) :
    (HL C ops Hs L ops.size)[id]? = (Hs i)[id]? := by
  have ilt : i < ops.size := (Array.getElem?_eq_some_iff.1 ho).1
  have ahead : ∀ (m : Nat) (p : Oper), m < i → ops[m]? = some p → barB C p.op = true → g p.op = false → L m = true := by
    intro m p hm hp hb hg
    have := (steadyL_spec ops.toList 0 hf m p (by simpa using hp) hb hg).1 (by omega)
    rw [Nat.zero_add] at this
    exact h.anc ho he m this
  have behind : ∀ (m : Nat) (p : Oper), i < m → ops[m]? = some p → L m = true → barB C p.op = true → g p.op = true := by
    intro m p hm hp hL hb
    cases hg : g p.op with
    | true => rfl
    | false =>
      have := (steadyL_spec ops.toList 0 hf m p (by simpa using hp) hb hg).2 (by omega)
      rw [Nat.zero_add] at this
      rw [h.anc hp (h.closed m p hp hL) i this] at hi; cases hi
  have low : ∀ m, m ≤ i → id < (HL C ops Hs L m).length → (HL C ops Hs L m)[id]? = (Hs m)[id]? ∧ id < (Hs m).length := by
    intro m
    induction m with
    | zero => intro _ hl; exact ⟨rfl, hl⟩
    | succ m ih =>
      intro hm
      have ih := ih (by omega)
      have hp : ops[m]? = some (ops[m]'(by omega)) := Array.getElem?_eq_getElem (by omega)
      simp only [HL, hp]
      cases hb : barB C (ops[m]'(by omega)).op with
      | false =>
        simp only [Bool.and_false, hst m _ hp hb]
        exact ih
      | true =>
        cases hL : L m with
        | true => intro hl; exact ⟨rfl, hl⟩
        | false =>
          simp only [Bool.false_and]
          intro hl
          cases hg : g (ops[m]'(by omega)).op with
          | true =>
            obtain ⟨i1, i2⟩ := ih hl
            obtain ⟨g1, g2⟩ := hgr m _ hp hg i2
            exact ⟨by rw [g1]; exact i1, g2⟩
          | false => rw [ahead m _ (by omega) hp hb hg] at hL; cases hL
  have high : ∀ d, i + 1 + d ≤ ops.size → id < (HL C ops Hs L (i + 1 + d)).length → (HL C ops Hs L (i + 1 + d))[id]? = (Hs i)[id]? := by
    intro d
    induction d with
    | zero =>
      intro _
      show id < (HL C ops Hs L (i + 1)).length → (HL C ops Hs L (i + 1))[id]? = (Hs i)[id]?
      simp only [HL, hi, Bool.false_and]
      exact fun hl => (low i (Nat.le_refl _) hl).1
    | succ d ih =>
      intro hm
      have ih := ih (by omega)
      have hp : ops[i + 1 + d]? = some (ops[i + 1 + d]'(by omega)) := Array.getElem?_eq_getElem (by omega)
      rw [show i + 1 + (d + 1) = (i + 1 + d) + 1 by omega]
      simp only [HL, hp]
      cases hL : L (i + 1 + d) with
      | false => exact ih
      | true =>
        cases hb : barB C (ops[i + 1 + d]'(by omega)).op with
        | false => exact ih
        | true =>
          simp only [Bool.true_and]
          intro _
          have all : ∀ u, i + u ≤ i + 1 + d + 1 → (Hs (i + u))[id]? = (Hs i)[id]? ∧ id < (Hs (i + u)).length := by
            intro u
            induction u with
            | zero => intro _; exact ⟨rfl, hthere⟩
            | succ u ihu =>
              intro hu
              obtain ⟨a1, a2⟩ := ihu (by omega)
              have hq : ops[i + u]? = some (ops[i + u]'(by omega)) := Array.getElem?_eq_getElem (by omega)
              show (Hs (i + u + 1))[id]? = _ ∧ id < (Hs (i + u + 1)).length
              cases hbq : barB C (ops[i + u]'(by omega)).op with
              | false => rw [hst _ _ hq hbq]; exact ⟨a1, a2⟩
              | true =>
                cases hgq : g (ops[i + u]'(by omega)).op with
                | true =>
                  obtain ⟨g1, g2⟩ := hgr _ _ hq hgq a2
                  exact ⟨by rw [g1]; exact a1, g2⟩
                | false =>
                  exfalso
                  have hLq : L (i + u) = true := by
                    rcases Nat.lt_trichotomy (i + u) (i + 1 + d) with hlt | heq | hgt
                    · rcases (h.pairs (i + 1 + d) _ hp).2 (i + u) _ hlt hq with ⟨_, h1 | h1⟩ | h1
                      · rw [hbq] at h1; cases h1
                      · rw [hb] at h1; cases h1
                      · exact h.anc hp (h.closed _ _ hp hL) _ h1
                    · rw [heq]; exact hL
                    · omega
                  rcases Nat.eq_zero_or_pos u with hu0 | hpos
                  · subst hu0
                    rw [Nat.add_zero, hi] at hLq; cases hLq
                  · have := behind (i + u) _ (by omega) hq hLq hbq
                    rw [hgq] at this; cases this
          have := (all (1 + d + 1) (by omega)).1
          rwa [show i + (1 + d + 1) = i + 1 + d + 1 by omega] at this
  have := high (ops.size - (i + 1)) (by omega)
  rw [show i + 1 + (ops.size - (i + 1)) = ops.size by omega] at this
  exact this hlive

def Lf (listed : Array Bool) : Nat → Bool := fun j => listed.getD j false

theorem Lf_set {listed : Array Bool} {i : Nat} (hi : i < listed.size) : Lf (listed.setIfInBounds i true) = ext (Lf listed) i true := by
  funext j
  simp only [Lf, ext, Array.getD_eq_getD_getElem?, Array.getElem?_setIfInBounds]
  by_cases h : i = j
  · subst h; simp [hi]
  · rw [if_neg h, if_neg (Ne.symm h)]

theorem edges_mem {o : Oper} {e : Edge} (he : e ∈ o.after) (hb : Region.binds .any e = true) : e.on ∈ edgesOf o := by
  simp only [edgesOf, List.mem_map, List.mem_filter]
  exact ⟨e, ⟨by simpa using he, hb⟩, rfl⟩
theorem mem_edges {o : Oper} {j : Nat} (h : j ∈ edgesOf o) : ∃ e ∈ o.after, Region.binds .any e = true ∧ e.on = j := by
  simp only [edgesOf, List.mem_map, List.mem_filter] at h
  obtain ⟨e, ⟨h1, h2⟩, h3⟩ := h
  exact ⟨e, by simpa using h1, h2, h3⟩

theorem same.tr {M : Mem} {ι : Io} {nt : Nat} {a b : ATs} {tmps : Array Value} (h : same a b) (hT : TR M ι nt a tmps) : TR M ι nt b tmps := ⟨hT.1, fun t => by rw [← h t]; exact hT.2 t⟩

/-- **Any order.** -/
theorem draw_any (hC : CtxOK P C) {ts0 : ATs} {xs : Nat → AV} {Hs : Nat → AH} {M0 : Mem} {ι0 : Io} {w0 : World} {ds : List Deferred} {Q : Exit → Act → World → Prop}
    (hpairs : ∀ (m : Nat) (p : Oper), ops[m]? = some p → (∀ e ∈ edgesOf p, e < m) ∧ ∀ (i : Nat) (o : Oper), i < m → ops[i]? = some o → (apartB ops o p = true ∧ (barB C o.op = false ∨ barB C p.op = false)) ∨ i ∈ (ancT ops.toList []).getD m [])
    (hfacts : ∀ (i : Nat) (o : Oper), ops[i]? = some o → Fact C ops ts0 xs Hs i o)
    (hend : ∀ M ι a w, Stp M0 ι0 (Hs 0) w0 M ι (Hs ops.size) w → TR M ι C.nt (tsL ops ts0 xs all ops.size) a.tmps → a.defers = ds → Q .normal a w) :
    ∀ (fuel : Nat) (listed : Array Bool) (a : Act) (w : World) (M : Mem) (ι : Io), listed.size = ops.size → Listed C ops (Lf listed) → cnt (Lf listed) ops.size ≤ fuel →
      Stp M0 ι0 (Hs 0) w0 M ι (HL C ops Hs (Lf listed) ops.size) w → TR M ι C.nt (tsL ops ts0 xs (Lf listed) ops.size) a.tmps → a.defers = ds →
      wpAnyIn (fen ro) n P .any ops Q fuel listed a w := by
  have hst : ∀ (j : Nat) (p : Oper), ops[j]? = some p → barB C p.op = false → Hs (j + 1) = Hs j := fun j p hp hb => (hfacts j p hp).still hb
  -- all listed
  have full : ∀ (L : Nat → Bool), (∀ j, j < ops.size → L j = true) → tsL ops ts0 xs L ops.size = tsL ops ts0 xs all ops.size ∧ HL C ops Hs L ops.size = Hs ops.size := by
    intro L hL
    have : ∀ m, m ≤ ops.size → tsL ops ts0 xs L m = tsL ops ts0 xs all m ∧ HL C ops Hs L m = Hs m := by
      intro m
      induction m with
      | zero => intro _; exact ⟨rfl, rfl⟩
      | succ m ih =>
        intro hm
        obtain ⟨i1, i2⟩ := ih (by omega)
        have hall : all m = true := rfl
        have hp : ops[m]? = some (ops[m]'(by omega)) := Array.getElem?_eq_getElem (by omega)
        refine ⟨by simp only [tsL, hL m (by omega), hall, i1], ?_⟩
        simp only [HL, hL m (by omega), hp, Bool.true_and]
        cases hb : barB C (ops[m]'(by omega)).op with
        | true => rfl
        | false => simp only [i2, hst m _ hp hb]
    exact this _ (Nat.le_refl _)
  have fin : ∀ (listed : Array Bool) (a : Act) (w : World) (M : Mem) (ι : Io), (∀ j, j < ops.size → Lf listed j = true) → Stp M0 ι0 (Hs 0) w0 M ι (HL C ops Hs (Lf listed) ops.size) w →
      TR M ι C.nt (tsL ops ts0 xs (Lf listed) ops.size) a.tmps → a.defers = ds → Q .normal a w := by
    intro listed a w M ι hL h1 h2 h3
    obtain ⟨f1, f2⟩ := full _ hL
    rw [f2] at h1; rw [f1] at h2
    exact hend M ι a w h1 h2 h3
  -- none is ready: all are listed
  have stuck : ∀ listed : Array Bool, listed.size = ops.size → Region.ready .any ops listed = [] → ∀ j, j < ops.size → Lf listed j = true := by
    intro listed hsz hr j
    induction j using Nat.strongRecOn with
    | _ j ih =>
      intro hj
      cases hL : Lf listed j with
      | true => rfl
      | false =>
        exfalso
        have hp : ops[j]? = some (ops[j]'hj) := Array.getElem?_eq_getElem hj
        have : j ∈ Region.ready .any ops listed := mem_ready.2 ⟨?_, _, hp, fun e he hb => ?_⟩
        · rw [hr] at this; cases this
        · simp only [Lf, Array.getD_eq_getD_getElem?, Array.getElem?_eq_getElem (show j < listed.size by omega), Option.getD_some] at hL ⊢
          exact hL
        · have hlt := (hpairs j _ hp).1 e.on (edges_mem he hb)
          exact ih e.on hlt (by omega)
  intro fuel
  induction fuel with
  | zero =>
    intro listed a w M ι hsz hL hc h1 h2 h3
    have hall : ∀ j, j < ops.size → Lf listed j = true := cnt_zero _ (by omega)
    refine ⟨?_, fin listed a w M ι hall h1 h2 h3⟩
    cases hr : Region.ready .any ops listed with
    | nil => rfl
    | cons i l =>
      have hi : i ∈ Region.ready .any ops listed := by rw [hr]; simp
      obtain ⟨hi1, o, ho, _⟩ := mem_ready.1 hi
      have hlt := (Array.getElem?_eq_some_iff.1 ho).1
      have := hall i hlt
      simp only [Lf, Array.getD_eq_getD_getElem?, Array.getElem?_eq_getElem (show i < listed.size by omega), Option.getD_some] at this hi1
      rw [this] at hi1; cases hi1
  | succ fuel ih =>
    intro listed a w M ι hsz hL hc h1 h2 h3
    refine ⟨fun hr => fin listed a w M ι (stuck listed hsz hr) h1 h2 h3, fun i hi => ?_⟩
    obtain ⟨hi1, o, ho, hall⟩ := mem_ready.1 hi
    have hlt := (Array.getElem?_eq_some_iff.1 ho).1
    have hi0 : Lf listed i = false := by
      simp only [Lf, Array.getD_eq_getD_getElem?, Array.getElem?_eq_getElem (show i < listed.size by omega), Option.getD_some] at hi1 ⊢
      exact hi1
    have he : ∀ e ∈ edgesOf o, Lf listed e = true := by
      intro j hj
      obtain ⟨e, he1, he2, rfl⟩ := mem_edges hj
      exact hall e he1 he2
    obtain ⟨fdst, frun, fstill, floose, fgrow⟩ := hfacts i o ho
    -- what it comes to, at the rows asg they lie
    have hrows : ∃ Hx Hy, HL C ops Hs (Lf listed) ops.size = Hx ∧ HL C ops Hs (ext (Lf listed) i true) ops.size = Hy ∧
        ((guardV ops (tsL ops ts0 xs all i) o = some true ∧ ∀ kv kp, aOpK C (tsL ops ts0 xs all i) o.op Hx kv kp = kv (xs i) Hy) ∨
          (guardV ops (tsL ops ts0 xs all i) o = some false ∧ xs i = .tup [] ∧ Hy = Hx)) := by
      by_cases hfix : barB C o.op = true ∨ steadyB C ops (fun _ => false) i = true
      · obtain ⟨r1, r2⟩ := hL.rows hst ho hi0 he hfix
        refine ⟨_, _, r1, r2, ?_⟩
        rcases frun with ⟨g1, g2⟩ | ⟨g1, g2, g3⟩
        · exact .inl ⟨g1, g2⟩
        · exact .inr ⟨g1, g2, g3⟩
      · have hb : barB C o.op = false := by
          cases h : barB C o.op with
          | false => rfl
          | true => exact absurd (.inl h) hfix
        refine ⟨_, _, rfl, HL_nobar ho hb ops.size, ?_⟩
        rcases floose with h | h | h | ⟨id, hlk, hsg⟩
        · exact absurd (.inl h) hfix
        · exact absurd (.inr h) hfix
        · rcases frun with ⟨g1, g2⟩ | ⟨g1, g2, g3⟩
          · exact .inl ⟨g1, fun kv kp => h g1 _ kv kp⟩
          · exact .inr ⟨g1, g2, rfl⟩
        · rcases frun with ⟨g1, g2⟩ | ⟨g1, g2, g3⟩
          · refine .inl ⟨g1, fun kv kp => ?_⟩
            refine look_same hlk ?_ g2 kv kp
            -- the row that is read lies there
            obtain ⟨ad, hmem, hnames⟩ := look_names hlk
            have hev : VR M ι (evalO (tsL ops ts0 xs (Lf listed) ops.size) ad) (a.eval ad) := vr_evalO h1.inv.glob h2 ad
            have hsame : evalO (tsL ops ts0 xs (Lf listed) ops.size) ad = evalO (tsL ops ts0 xs all i) ad := by
              cases ad with
              | tmp u => exact hL.look ho hi0 he (usesOp_op hmem)
              | _ => rfl
            rw [hsame] at hev
            have hlive : id < (HL C ops Hs (Lf listed) ops.size).length := by
              generalize a.eval ad = cv at hev
              rcases hnames with ⟨ver, off, hn⟩ | ⟨ver, off, len, sz, hn⟩
              · rw [hn] at hev
                cases hev with
                | ptr _ hio => exact h1.inv.dom_lt hio
              · rw [hn] at hev
                cases hev with
                | sl _ _ hio => exact h1.inv.dom_lt hio
            have hthere : id < (Hs i).length := look_there hlk g2
            exact hL.near hst (fun j p hp hg hlt => (hfacts j p hp).grow id hg hlt) ho hi0 he hsg hthere hlive
          · exact .inr ⟨g1, g2, rfl⟩
    obtain ⟨Hx, Hy, r1, r2, frun⟩ := hrows
    have hlook : ∀ t ∈ usesOp ops o, (tsL ops ts0 xs (Lf listed) ops.size).get t = (tsL ops ts0 xs all i).get t := fun t ht => hL.look ho hi0 he ht
    have hset := Lf_set (listed := listed) (i := i) (by omega)
    -- what comes behind it
    have next : ∀ (c : Value) (w1 : World) (M1 : Mem) (ι1 : Io), Stp M ι Hx w M1 ι1 Hy w1 → VR M1 ι1 (xs i) c → wpAnyIn (fen ro) n P .any ops Q fuel (listed.setIfInBounds i true) (a.put o.dst c) w1 := by
      intro c w1 M1 ι1 hs hv
      refine ih _ _ _ M1 ι1 (by simpa using hsz) ⟨hpairs, fun j p hp hj e hem => ?_⟩ ?_ ?_ ?_ (by rw [put_defers]; exact h3)
      · rw [hset] at hj ⊢
        have hkeep : ∀ u, Lf listed u = true → ext (Lf listed) i true u = true := fun u hu => by
          unfold ext; split
          · rfl
          · exact hu
        by_cases hji : j = i
        · subst hji
          rw [ho] at hp; cases hp
          exact hkeep _ (he e hem)
        · have : Lf listed j = true := by simpa [ext, hji] using hj
          exact hkeep _ (hL.closed j p hp this e hem)
      · rw [hset, (cnt_ext hi0 ops.size).1, if_pos hlt]
        omega
      · rw [hset, r2]
        rw [r1] at h1
        exact h1.trans hs
      · rw [hset]
        exact (hL.done ho hi0).tr ((h2.stp hs).put fdst hv)
    -- the guard
    have hgv : guardV ops (tsL ops ts0 xs (Lf listed) ops.size) o = guardV ops (tsL ops ts0 xs all i) o := by
      unfold guardV
      split
      · rfl
      · rename_i j want hg
        split
        · rfl
        · rename_i t ht
          rw [hlook t (by unfold usesOp; rw [hg]; simp only [ht]; exact List.mem_cons_self ..)]
    have hwant : ∀ b, guardV ops (tsL ops ts0 xs all i) o = some b → Region.wanted o (yielded ops a.tmps) = b := by
      intro b hb
      rw [← hgv] at hb
      unfold guardV at hb
      split at hb
      · rename_i hg
        cases hb
        simp only [Region.wanted, hg]
      · rename_i j want hg
        split at hb
        · cases hb
        · rename_i t ht
          obtain ⟨y1, y2⟩ := yielded_of h2 ht
          split at hb
          · rename_i b' hb'
            cases hb
            simp only [Region.wanted, hg, y1 b' hb']
            cases b' <;> cases want <;> rfl
          · rename_i hb'
            cases hb
            simp only [Region.wanted, hg, y2 hb']
            rfl
          · cases hb
    unfold wpOpIn
    simp only [ho]
    rcases frun with ⟨g1, g2⟩ | ⟨g1, g2, g3⟩
    · rw [hwant true g1, if_pos rfl]
      have hop : aOpK C (tsL ops ts0 xs (Lf listed) ops.size) o.op Hx encV encP = encV (xs i) Hy := by
        rw [← g2 encV encP]
        refine aOpK_local fun x hx => ?_
        cases x <;> first | rfl | exact hlook _ (usesOp_op hx)
      rw [r1] at h1
      refine aOpK_ok (r := (.ret (xs i), Hy)) hC h1.inv h2 hop (fun v H' M' ι' w' c q1 q2 q3 => ?_) (fun v H' M' ι' w' c q1 q2 q3 => ?_)
      · simp only [encV, Option.some.injEq, Prod.mk.injEq, AEnd.ret.injEq] at q1
        obtain ⟨rfl, rfl⟩ := q1
        exact next c w' M' ι' q2 q3
      · simp [encP] at q1
    · rw [hwant false g1]
      refine ⟨fun _ _ => trivial, ?_⟩
      refine next undef w M ι ?_ ?_
      · rw [g3, ← r1]
        exact .refl h1.inv
      · rw [g2]
        exact .tup (ys := #[]) rfl (fun i x y hx => by simp at hx)

end
end Go.Abs
