/- Answers of a known shape. -/
import Derived.Test.YteaceebonkpipaaA19
namespace Go.Abs

theorem selV_append (v : AV) (p : List Nat) (i : Nat) : selV v (p ++ [i]) = (selV v p).parts.getD i .junk := by
  induction p generalizing v with
  | nil => rfl
  | cons j p ih => exact ih _

mutual
theorem Sh.re_eq : ∀ (s : Sh) (r : Res) (p : List Nat), s.has (sel r p) = true → s.re r p = sel r p
  | .int k, r, p, h => by simp only [Sh.has, Bool.and_eq_true] at h; exact (isInt_eq h.1).symm
  | .bool, r, p, h => by simp only [Sh.has] at h; exact (isBool_eq h).symm
  | .str, r, p, h => by simp only [Sh.has] at h; exact (isStr_eq h).symm
  | .ints k, r, p, h => by simp only [Sh.has, Bool.and_eq_true] at h; exact (isFs_eq h.1).symm
  | .fs sz, r, p, h => by simp only [Sh.has] at h; exact (isFs_eq h).symm
  | .agg l, r, p, h => by
    simp only [Sh.has, Bool.and_eq_true] at h
    have hp := Sh.reL_eq l r p 0 h.2
    cases hv : sel r p with
    | agg cs =>
      rw [hv] at h hp
      have hl : cs.length = l.length := by simpa [AV.isAgg] using h.1
      simp only [Sh.re]
      congr 1
      rw [hp]
      simp only [AV.parts, List.drop_zero]
      exact List.take_of_length_le (by omega)
    | _ => rw [hv] at h; simp [AV.isAgg] at h
  | .tup l, r, p, h => by
    simp only [Sh.has, Bool.and_eq_true] at h
    have hp := Sh.reL_eq l r p 0 h.2
    cases hv : sel r p with
    | tup cs =>
      rw [hv] at h hp
      have hl : cs.length = l.length := by simpa [AV.isTup] using h.1
      simp only [Sh.re]
      congr 1
      rw [hp]
      simp only [AV.parts, List.drop_zero]
      exact List.take_of_length_le (by omega)
    | _ => rw [hv] at h; simp [AV.isTup] at h
theorem Sh.reL_eq : ∀ (l : List Sh) (r : Res) (p : List Nat) (i : Nat), Sh.hasL l (sel r p).parts i = true → Sh.reL l r p i = ((sel r p).parts.drop i).take l.length
  | [], r, p, i, h => by simp [Sh.reL]
  | s :: l, r, p, i, h => by
    simp only [Sh.hasL, Bool.and_eq_true] at h
    have e : sel r (p ++ [i]) = (sel r p).parts.getD i .junk := selV_append _ _ _
    have h1 := Sh.re_eq s r (p ++ [i]) (by rw [e]; exact h.1)
    have h2 := Sh.reL_eq l r p (i + 1) h.2
    simp only [Sh.reL, h1, h2, e, List.length_cons]
    rcases Nat.lt_or_ge i (sel r p).parts.length with hlt | hge
    · rw [List.drop_eq_getElem_cons hlt, List.take_succ_cons, List.getD_eq_getElem?_getD, List.getElem?_eq_getElem hlt]; rfl
    · exfalso
      have : (sel r p).parts.getD i .junk = .junk := by simp [List.getD_eq_getElem?_getD, List.getElem?_eq_none hge]
      rw [this] at h
      cases s <;> simp [Sh.has, AV.isInt, AV.isBool, AV.isStr, AV.isFs, AV.isAgg, AV.isTup] at h
end

theorem shOK_some {sh : Sh} {r : Res} (h : shOK sh r = true) : r = some (.ret (sh.re r []), []) ∧ sh.has (retOf r) = true := by
  unfold shOK at h
  split at h
  · rename_i v
    have := Sh.re_eq sh (some (.ret v, [])) [] (by simpa [sel, selV, retOf] using h)
    rw [this]
    exact ⟨rfl, h⟩
  · cases h

theorem leafK_ok {P : Program} {f : FuncId} {S : FSpec} {sh : Sh} {R : List AV → Res} (h : SpecOK P f S) (hR : ∀ args, R args = S args [] encK) : SpecOK P f (leafK sh R) := by
  refine h.turn fun args H => ?_
  unfold leafK
  split
  · rcases Bool.eq_false_or_eq_true (shOK sh (R args)) with hp | hp
    · refine .inr fun k => ?_
      rw [aIf_pos hp]
      obtain ⟨h1, _⟩ := shOK_some hp
      rw [hR] at h1
      obtain ⟨e, H', h2, h3⟩ := h.nat args [] _ _ h1
      simp only [encK, Option.some.injEq, Prod.mk.injEq] at h2
      obtain ⟨rfl, rfl⟩ := h2
      rw [h3, hR]
    · exact .inl fun k => aIf_neg hp
  · exact .inl fun k => rfl

theorem shOK_aIf (sh : Sh) (b : Bool) (x y : Res) : shOK sh (aIf b x y) = bif b then shOK sh x else shOK sh y := by cases b <;> rfl

theorem shOK_ret (sh : Sh) (v : AV) : shOK sh (some (.ret v, [])) = sh.has v := rfl
theorem has_int (k : IntKind) (n : Int) : (Sh.int k).has (.int k n) = inK k n := by cases k <;> rfl
theorem has_bool (b : Bool) : Sh.bool.has (.bool b) = true := rfl
theorem has_str (b : ByteArray) : Sh.str.has (.str b) = true := rfl
theorem has_ints (k : IntKind) (xs : List AV) (fl : SF) : (Sh.ints k).has (.fs 1 xs fl) = intsB k xs := by
  show (((1 : Nat) == 1) && intsB k xs) = intsB k xs
  rfl
theorem has_fs (sz : Nat) (xs : List AV) (fl : SF) : (Sh.fs sz).has (.fs sz xs fl) = true := by
  show (sz == sz) = true
  simp
theorem has_tup (l : List Sh) (vs : List AV) : (Sh.tup l).has (.tup vs) = (vs.length == l.length && Sh.hasL l vs 0) := rfl
theorem has_agg (l : List Sh) (vs : List AV) : (Sh.agg l).has (.agg vs) = (vs.length == l.length && Sh.hasL l vs 0) := rfl
theorem hasL_nil (vs : List AV) (i : Nat) : Sh.hasL [] vs i = true := rfl
theorem hasL_cons (s : Sh) (l : List Sh) (vs : List AV) (i : Nat) : Sh.hasL (s :: l) vs i = (s.has (vs.getD i .junk) && Sh.hasL l vs (i + 1)) := rfl
theorem inK_i64 (n : Int) : inK .i64 n = (decide (-9223372036854775808 ≤ n) && decide (n ≤ 9223372036854775807)) := rfl
theorem inK_u64 (n : Int) : inK .u64 n = (decide (0 ≤ n) && decide (n ≤ 18446744073709551615)) := rfl
theorem inK_u32 (n : Int) : inK .u32 n = (decide (0 ≤ n) && decide (n ≤ 4294967295)) := rfl
theorem inK_u16 (n : Int) : inK .u16 n = (decide (0 ≤ n) && decide (n ≤ 65535)) := rfl
theorem inK_u8 (n : Int) : inK .u8 n = (decide (0 ≤ n) && decide (n ≤ 255)) := rfl
theorem inK_i32 (n : Int) : inK .i32 n = (decide (-2147483648 ≤ n) && decide (n ≤ 2147483647)) := rfl
theorem inK_of {k : IntKind} {n : Int} (h : k.min ≤ n ∧ n ≤ k.max) : inK k n = true := by unfold inK; rw [decide_eq_true h.1, decide_eq_true h.2]; rfl
theorem encK_ret (v : AV) : encK (.ret v) [] = some (.ret v, []) := rfl

theorem ints4 {k0 k1 k2 k3 : IntKind} {zs : List AV} (h : seqP [intT k0, intT k1, intT k2, intT k3] zs) : ∃ a b c d, zs = [.int k0 a, .int k1 b, .int k2 c, .int k3 d] ∧ (k0.min ≤ a ∧ a ≤ k0.max) ∧ (k1.min ≤ b ∧ b ≤ k1.max) ∧ (k2.min ≤ c ∧ c ≤ k2.max) ∧ (k3.min ≤ d ∧ d ≤ k3.max) := by
  obtain ⟨_, _, rfl, ⟨a, rfl, a1, a2⟩, h⟩ := h
  obtain ⟨b, c, d, rfl, h1⟩ := ints3 h
  exact ⟨a, b, c, d, rfl, ⟨a1, a2⟩, h1⟩
theorem ints5 {k0 k1 k2 k3 k4 : IntKind} {zs : List AV} (h : seqP [intT k0, intT k1, intT k2, intT k3, intT k4] zs) : ∃ a b c d e, zs = [.int k0 a, .int k1 b, .int k2 c, .int k3 d, .int k4 e] ∧ (k0.min ≤ a ∧ a ≤ k0.max) ∧ (k1.min ≤ b ∧ b ≤ k1.max) ∧ (k2.min ≤ c ∧ c ≤ k2.max) ∧ (k3.min ≤ d ∧ d ≤ k3.max) ∧ (k4.min ≤ e ∧ e ≤ k4.max) := by
  obtain ⟨_, _, rfl, ⟨a, rfl, a1, a2⟩, h⟩ := h
  obtain ⟨b, c, d, e, rfl, h1⟩ := ints4 h
  exact ⟨a, b, c, d, e, rfl, ⟨a1, a2⟩, h1⟩

theorem aIf_false (x y : Res) : aIf false x y = y := rfl
theorem aIf_not (b : Bool) (x y : Res) : aIf (!b) x y = aIf b y x := by cases b <;> rfl
theorem ge_not (a b : Int) : decide (a ≥ b) = !decide (a < b) := by
  rw [Bool.eq_iff_iff]; simp
theorem le_not (a b : Int) : decide (a ≤ b) = !decide (a > b) := by
  rw [Bool.eq_iff_iff]; simp
theorem shOK_int {k : IntKind} {r : Res} (h : shOK (.int k) r = true) : r = some (.ret (.int k (sel r []).toInt), []) ∧ inK k (sel r []).toInt = true := by
  obtain ⟨h1, h2⟩ := shOK_some h
  simp only [Sh.has, Bool.and_eq_true] at h2
  exact ⟨h1, h2.2⟩

theorem aIf_cases {b : Bool} {x y z : Res} (hx : b = true → x = z) (hy : b = false → y = z) : aIf b x y = z := by
  cases b
  · exact hy rfl
  · exact hx rfl

theorem hasL_get : ∀ (l : List Sh) (vs : List AV) (i j : Nat), Sh.hasL l vs i = true → (hj : j < l.length) → (l[j]).has (vs.getD (i + j) .junk) = true
  | s :: l, vs, i, 0, h, _ => by simp only [Sh.hasL, Bool.and_eq_true] at h; exact h.1
  | s :: l, vs, i, j + 1, h, hj => by
    simp only [Sh.hasL, Bool.and_eq_true] at h
    have := hasL_get l vs (i + 1) j h.2 (by simpa using hj)
    rw [show i + (j + 1) = i + 1 + j by omega]
    exact this

/-- Bytes that a law is handed. -/
def bytesT (xs : List AV) : Prop := ∃ ys fl, xs = [.fs 1 ys fl] ∧ ys.length ≤ maxLen ∧ (fl ≠ .any → ys = []) ∧ ∀ y ∈ ys, intT .u8 y.cells ∧ ((false : Bool) = true → ∃ zs, y = .agg zs) ∧ ((false : Bool) = false → y.cells = [y])

theorem intsB_mem {k : IntKind} : ∀ {xs : List AV}, (∀ x ∈ xs, x.isInt k = true ∧ inK k x.toInt = true) → intsB k xs = true
  | [], _ => rfl
  | v :: r, h => by
    have hv := h v (by simp)
    have hr : intsB k r = true := intsB_mem (fun x hx => h x (List.mem_cons_of_mem _ hx))
    simp only [intsB, hv.1, hv.2, hr, Bool.and_self]

theorem bytesArg {E : Env} {f t : Nat} {x : AV} (h : argV E f t x) (hT : ∀ xs, argT E f t xs = bytesT xs) (ha : aggT E t = false) : ∃ ys fl, x = .fs 1 ys fl ∧ ys.length ≤ maxLen ∧ (fl ≠ .any → ys = []) ∧ intsB .u8 ys = true := by
  obtain ⟨ys, fl, e, h1, h2, h3⟩ := oneArg h hT ha
  refine ⟨ys, fl, by simpa using e, h1, h2, intsB_mem fun y hy => ?_⟩
  obtain ⟨⟨n, q1, q2, q3⟩, _, q4⟩ := h3 y hy
  have := (q4 rfl).symm.trans q1
  simp only [List.cons.injEq, and_true] at this
  subst this
  exact ⟨rfl, inK_of ⟨q2, q3⟩⟩

theorem intsB_take {k : IntKind} : ∀ {xs : List AV}, intsB k xs = true → ∀ n, intsB k (xs.take n) = true
  | [], _, n => by simp [intsB]
  | v :: r, h, 0 => rfl
  | v :: r, h, n + 1 => by
    simp only [intsB, Bool.and_eq_true] at h
    simp only [List.take_succ_cons, intsB, h.1.1, h.1.2, intsB_take h.2 n, Bool.and_self]

end Go.Abs
