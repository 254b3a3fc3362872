/- A law's arguments, one by one. -/
import Derived.Test.YteaceebonkpipaaA18
namespace Go.Abs

theorem args1 {E : Env} {f t0 : Nat} {xs : List AV} (h : argsV E f [t0] xs) : ∃ x, xs = [x] ∧ argV E f t0 x := by
  match xs, h with
  | [x], ⟨h0, _⟩ => exact ⟨x, rfl, h0⟩
theorem args2 {E : Env} {f t0 t1 : Nat} {xs : List AV} (h : argsV E f [t0, t1] xs) : ∃ x y, xs = [x, y] ∧ argV E f t0 x ∧ argV E f t1 y := by
  match xs, h with
  | [x, y], ⟨h0, h1, _⟩ => exact ⟨x, y, rfl, h0, h1⟩
theorem args3 {E : Env} {f t0 t1 t2 : Nat} {xs : List AV} (h : argsV E f [t0, t1, t2] xs) : ∃ x y z, xs = [x, y, z] ∧ argV E f t0 x ∧ argV E f t1 y ∧ argV E f t2 z := by
  match xs, h with
  | [x, y, z], ⟨h0, h1, h2, _⟩ => exact ⟨x, y, z, rfl, h0, h1, h2⟩
theorem args4 {E : Env} {f t0 t1 t2 t3 : Nat} {xs : List AV} (h : argsV E f [t0, t1, t2, t3] xs) : ∃ x y z u, xs = [x, y, z, u] ∧ argV E f t0 x ∧ argV E f t1 y ∧ argV E f t2 z ∧ argV E f t3 u := by
  match xs, h with
  | [x, y, z, u], ⟨h0, h1, h2, h3, _⟩ => exact ⟨x, y, z, u, rfl, h0, h1, h2, h3⟩
theorem args5 {E : Env} {f t0 t1 t2 t3 t4 : Nat} {xs : List AV} (h : argsV E f [t0, t1, t2, t3, t4] xs) : ∃ x y z u v, xs = [x, y, z, u, v] ∧ argV E f t0 x ∧ argV E f t1 y ∧ argV E f t2 z ∧ argV E f t3 u ∧ argV E f t4 v := by
  match xs, h with
  | [x, y, z, u, v], ⟨h0, h1, h2, h3, h4, _⟩ => exact ⟨x, y, z, u, v, rfl, h0, h1, h2, h3, h4⟩

theorem aggArg {E : Env} {f t : Nat} {x : AV} {Q : List AV → Prop} (h : argV E f t x) (hT : ∀ xs, argT E f t xs = Q xs) (ha : aggT E t = true) : ∃ zs, x = .agg zs ∧ Q zs := by
  obtain ⟨h1, h2, _⟩ := h
  obtain ⟨zs, rfl⟩ := h2 ha
  rw [hT] at h1
  exact ⟨zs, rfl, h1⟩
theorem oneArg {E : Env} {f t : Nat} {x : AV} {Q : List AV → Prop} (h : argV E f t x) (hT : ∀ xs, argT E f t xs = Q xs) (ha : aggT E t = false) : Q [x] := by
  obtain ⟨h1, _, h3⟩ := h
  rw [hT, h3 ha] at h1
  exact h1
theorem intArg {E : Env} {f t : Nat} {k : IntKind} {x : AV} (h : argV E f t x) (hT : ∀ xs, argT E f t xs = intT k xs) (ha : aggT E t = false) : ∃ n, x = .int k n ∧ k.min ≤ n ∧ n ≤ k.max := by
  obtain ⟨n, e, h1, h2⟩ := oneArg h hT ha
  exact ⟨n, by simpa using e, h1, h2⟩
theorem boolArg {E : Env} {f t : Nat} {x : AV} (h : argV E f t x) (hT : ∀ xs, argT E f t xs = boolT xs) (ha : aggT E t = false) : ∃ b, x = .bool b := by
  obtain ⟨n, e⟩ := oneArg h hT ha
  exact ⟨n, by simpa using e⟩

/-- A struct of whole numbers. -/
theorem ints1 {k0 : IntKind} {zs : List AV} (h : seqP [intT k0] zs) : ∃ a, zs = [.int k0 a] ∧ (k0.min ≤ a ∧ a ≤ k0.max) := by
  obtain ⟨_, _, rfl, ⟨a, rfl, a1, a2⟩, rfl⟩ := h
  exact ⟨a, rfl, a1, a2⟩
theorem ints2 {k0 k1 : IntKind} {zs : List AV} (h : seqP [intT k0, intT k1] zs) : ∃ a b, zs = [.int k0 a, .int k1 b] ∧ (k0.min ≤ a ∧ a ≤ k0.max) ∧ (k1.min ≤ b ∧ b ≤ k1.max) := by
  obtain ⟨_, _, rfl, ⟨a, rfl, a1, a2⟩, h⟩ := h
  obtain ⟨b, rfl, h1⟩ := ints1 h
  exact ⟨a, b, rfl, ⟨a1, a2⟩, h1⟩
theorem ints3 {k0 k1 k2 : IntKind} {zs : List AV} (h : seqP [intT k0, intT k1, intT k2] zs) : ∃ a b c, zs = [.int k0 a, .int k1 b, .int k2 c] ∧ (k0.min ≤ a ∧ a ≤ k0.max) ∧ (k1.min ≤ b ∧ b ≤ k1.max) ∧ (k2.min ≤ c ∧ c ≤ k2.max) := by
  obtain ⟨_, _, rfl, ⟨a, rfl, a1, a2⟩, h⟩ := h
  obtain ⟨b, c, rfl, h1⟩ := ints2 h
  exact ⟨a, b, c, rfl, ⟨a1, a2⟩, h1⟩

theorem rng_i64 {n : Int} (h : IntKind.i64.min ≤ n ∧ n ≤ IntKind.i64.max) : -9223372036854775808 ≤ n ∧ n ≤ 9223372036854775807 := by
  simpa [IntKind.min, IntKind.max, IntKind.signed, IntKind.bits] using h
theorem rng_u64 {n : Int} (h : IntKind.u64.min ≤ n ∧ n ≤ IntKind.u64.max) : 0 ≤ n ∧ n ≤ 18446744073709551615 := by
  simpa [IntKind.min, IntKind.max, IntKind.signed, IntKind.bits] using h
theorem rng_u16 {n : Int} (h : IntKind.u16.min ≤ n ∧ n ≤ IntKind.u16.max) : 0 ≤ n ∧ n ≤ 65535 := by
  simpa [IntKind.min, IntKind.max, IntKind.signed, IntKind.bits] using h
theorem rng_u8 {n : Int} (h : IntKind.u8.min ≤ n ∧ n ≤ IntKind.u8.max) : 0 ≤ n ∧ n ≤ 255 := by
  simpa [IntKind.min, IntKind.max, IntKind.signed, IntKind.bits] using h
theorem rng_u32 {n : Int} (h : IntKind.u32.min ≤ n ∧ n ≤ IntKind.u32.max) : 0 ≤ n ∧ n ≤ 4294967295 := by
  simpa [IntKind.min, IntKind.max, IntKind.signed, IntKind.bits] using h

end Go.Abs
