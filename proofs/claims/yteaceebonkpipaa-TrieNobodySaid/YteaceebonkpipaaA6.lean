/- The evaluator's operations against the model's, fourth part: equality, operators. -/
import Derived.Test.YteaceebonkpipaaA5
import Derived.Laws.StructEq
namespace Go.Abs
open Go.RowKit

section
variable {P : Program} {E : Env} {M : Mem} {ι : Io} {H : AH} {w : World} {r : Fin'}

/-- Elements in order, as equality goes over them. -/
def eqElems (d : Nat) (e : TypeId) (n : Nat) (xs ys : Array Value) : Nat → Nat → Sem Bool
  | 0, _ => pure true
  | m + 1, i => do
    let a ← part e xs (i * n)
    let b ← part e ys (i * n)
    let r ← Op.equalIn d e a b
    if (!r) = true then pure false else eqElems d e n xs ys m (i + 1)

theorem run_equalIn_array (d : Nat) {t e : TypeId} {len n : Nat} (xs ys : Array Value) (ht : P.underlying t = some (.array len e)) (hn : ∀ w : World, (sizeOf e).run P w = .ok n w) :
    (Op.equalIn (d + 1) t (.agg xs) (.agg ys)).run P w = (eqElems d e n xs ys len 0).run P w := by
  simp only [Op.equalIn, Sem.run_bind, run_underlying ht, Result.andThen_ok, hn]
  rw [Std.Legacy.Range.forIn_eq_forIn_range']
  simp only [Std.Legacy.Range.size, Nat.sub_zero, Nat.add_sub_cancel, Nat.div_one]
  clear ht
  generalize 0 = i
  induction len generalizing w i with
  | zero => simp [eqElems]
  | succ m ih =>
    simp only [List.range'_succ, List.forIn_cons, eqElems, Sem.run_bind]
    generalize (part e xs (i * n)).run P w = r1
    cases r1 with
    | ok a w1 =>
      simp only [Result.andThen_ok]
      generalize (part e ys (i * n)).run P w1 = r2
      cases r2 with
      | ok b w2 =>
        simp only [Result.andThen_ok]
        generalize (Op.equalIn d e a b).run P w2 = r3
        cases r3 with
        | ok r w3 =>
          cases r
          · simp only [Result.andThen_ok, Bool.not_false, if_true, Sem.run_pure]
          · simp only [Result.andThen_ok, Bool.not_true, Bool.false_eq_true, if_false, Sem.run_pure]
            exact ih (i + 1)
        | halt x w3 => simp [Result.andThen]
      | halt x w2 => simp [Result.andThen]
    | halt x w1 => simp [Result.andThen]

theorem run_eq_nil_slice (d : Nat) {t e : TypeId} (b : Option Addr) (n c : Nat) (hu : P.underlying t = some (.slice e)) : (Op.equalIn (d + 1) t (.slice none 0 0) (.slice b n c)).run P w = .ok b.isNone w := by
  simp [Op.equalIn, run_underlying hu]
theorem run_eq_slice_nil (d : Nat) {t e : TypeId} (b : Option Addr) (n c : Nat) (hu : P.underlying t = some (.slice e)) : (Op.equalIn (d + 1) t (.slice b n c) (.slice none 0 0)).run P w = .ok b.isNone w := by
  cases b <;> simp [Op.equalIn, run_underlying hu]

set_option maxHeartbeats 1000000 in
mutual
theorem aEq_ok (hE : EnvOK P E) : ∀ (d : Nat) (t : TypeId) (x y : AV) (b : Bool) (c c' : Value) (d' : Nat), aEq E d t x y = some b → VR M ι x c → VR M ι y c' → d ≤ d' →
    (Op.equalIn d' t c c').run P w = .ok b w
  | 0, _, _, _, _, _, _, _, h, _, _, _ => by simp [aEq] at h
  | d + 1, t, x, y, b, c, c', d', h, hx, hy, hd' => by
    obtain ⟨d', rfl⟩ : ∃ m, d' = m + 1 := ⟨d' - 1, by omega⟩
    rw [aEq] at h
    split at h
    · cases h
    rename_i i hi
    have hT := hE t i hi
    have hu := hT.und
    split at h
    · rename_i hd; rw [hd] at hu; cases h; cases hx.bool_inv; cases hy.bool_inv
      simp [Op.equalIn, run_underlying hu]
    · rename_i hd
      rw [hd] at hu
      cases hx.int_inv; cases hy.int_inv
      split at h
      · rename_i hk; obtain rfl := of_decide_eq_true (by simpa using hk); cases h
        simp [Op.equalIn, run_underlying hu]
      · cases h
    · rename_i hd; rw [hd] at hu; cases h; cases hx.str_inv; cases hy.str_inv
      simp [Op.equalIn, run_underlying hu]
    · rename_i hd; rw [hd] at hu; cases h; cases hx; cases hy
      simp [Op.equalIn, run_underlying hu]
    · rename_i hd; rw [hd] at hu; cases h; cases hx; cases hy
      simp [Op.equalIn, run_underlying hu]
    · rename_i hd; rw [hd] at hu; cases h; cases hx; cases hy
      simp [Op.equalIn, run_underlying hu]
    · rename_i hd; rw [hd] at hu; cases h; cases hx; cases hy
      simp [Op.equalIn, run_underlying hu]
    · rename_i hd; rw [hd] at hu; cases h; cases hx; cases hy
      simp [Op.equalIn, run_underlying hu]
    · rename_i hd; rw [hd] at hu; cases h; cases hx; cases hy
      simp [Op.equalIn, run_underlying hu]
    · rename_i hd; rw [hd] at hu; cases h; cases hx; cases hy
      simp [Op.equalIn, run_underlying hu]
    · rename_i hd; rw [hd] at hu; cases h; cases hx; cases hy
      simp [Op.equalIn, run_underlying hu]
    · rename_i ms tx vx ty vy hd
      rw [hd] at hu
      cases hx with
      | iface _ hvx =>
        cases hy with
        | iface _ hvy =>
          split at h
          · rename_i hne
            cases h
            have : tx ≠ ty := by simpa using hne
            simp [Op.equalIn, run_underlying hu, this]
          · rename_i he
            obtain rfl : tx = ty := by simpa using he
            split at h
            · cases h
            rename_i j hj
            split at h
            · rename_i hcmp
              obtain ⟨info, hinfo, _, _, _, hc⟩ := (hE tx j hj).info
              have := aEq_ok hE d tx vx vy b _ _ d' h hvx hvy (by omega)
              simp [Op.equalIn, run_underlying hu, run_typeInfo hinfo, hc hcmp, this]
            · cases h
    · rename_i fields xs ys hd
      rw [hd] at hu
      split at h
      · rename_i hok
        have hx' := hx
        have hy' := hy
        cases hx with
        | agg h1 h2 h3 =>
          cases hy with
          | agg k1 k2 k3 =>
            have hf : P.fieldsOf t = fields := by simp [Program.fieldsOf, hu]
            rw [run_equalIn_struct w d' t _ _ (by rw [hf]; exact hu) (hT.eqOk hok).1, hf]
            exact aEqFields_ok hE d fields.toList xs ys b _ _ d' h hx' hy' (by omega)
      · cases h
    · rename_i len e xs ys hd
      rw [hd] at hu
      split at h
      · cases h
      rename_i j hj
      have hx' := hx
      have hy' := hy
      cases hx with
      | agg h1 h2 h3 =>
        cases hy with
        | agg k1 k2 k3 =>
          rw [run_equalIn_array d' _ _ hu (fun w => (hE e j hj).run_size)]
          exact aEqElems_ok hE d e j.size len 0 xs ys b _ _ d' h hx' hy' (by omega)
    · rename_i hd; rw [hd] at hu; cases h
      rcases hx.fs_inv with ⟨_, _, rfl⟩ | ⟨h, _⟩ | ⟨h, _⟩
      · rcases hy.fs_inv with ⟨rfl, _, rfl⟩ | ⟨rfl, _, za, rfl⟩ | ⟨hf, b, o, cap, rfl, _⟩ <;> (try obtain rfl | rfl := SF.mem_cases hf) <;> exact run_eq_nil_slice _ _ _ _ hu
      · cases h
      · cases h
    · rename_i hd; rw [hd] at hu; cases h
      rcases hy.fs_inv with ⟨_, _, rfl⟩ | ⟨h, _⟩ | ⟨h, _⟩
      · rcases hx.fs_inv with ⟨rfl, _, rfl⟩ | ⟨rfl, _, za, rfl⟩ | ⟨hf, b, o, cap, rfl, _⟩ <;> (try obtain rfl | rfl := SF.mem_cases hf) <;> exact run_eq_slice_nil _ _ _ _ hu
      · cases h
      · cases h
    · rename_i hd; rw [hd] at hu; cases h
      rcases hx.fs_inv with ⟨_, _, rfl⟩ | ⟨h, _⟩ | ⟨h, _⟩
      · cases hy; exact run_eq_nil_slice _ _ _ _ hu
      · cases h
      · cases h
    · rename_i hd; rw [hd] at hu; cases h
      rcases hy.fs_inv with ⟨_, _, rfl⟩ | ⟨h, _⟩ | ⟨h, _⟩
      · cases hx; exact run_eq_slice_nil _ _ _ _ hu
      · cases h
      · cases h
    · rename_i hd; rw [hd] at hu; cases h; cases hx; cases hy
      simp [Op.equalIn, run_underlying hu]
    · rename_i hd; rw [hd] at hu; cases h; cases hx; cases hy
      simp [Op.equalIn, run_underlying hu]
    · rename_i hd; rw [hd] at hu; cases h; cases hx; cases hy
      simp [Op.equalIn, run_underlying hu]
    · cases h
theorem aEqFields_ok (hE : EnvOK P E) : ∀ (d : Nat) (fs : List Field) (xs ys : List AV) (b : Bool) (cs ds : Array Value) (d' : Nat), aEqFields E d fs xs ys = some b →
    VR M ι (.agg xs) (.agg cs) → VR M ι (.agg ys) (.agg ds) → d ≤ d' → (Op.eqFields d' cs ds fs).run P w = .ok b w
  | 0, _, _, _, _, _, _, _, h, _, _, _ => by simp [aEqFields] at h
  | d + 1, [], _, _, b, _, _, _, h, _, _, _ => by
    simp [aEqFields] at h; subst h; rfl
  | d + 1, f :: fs, xs, ys, b, cs, ds, d', h, hx, hy, hd => by
    rw [aEqFields] at h
    split at h
    · rename_i hn
      have hn : f.name = "_" := by simpa using hn
      simp only [Op.eqFields, hn, ne_eq, not_true_eq_false, if_false]
      exact aEqFields_ok hE d fs xs ys b cs ds d' h hx hy (by omega)
    · rename_i hn
      have hn : ¬ (f.name = "_") := by simpa using hn
      split at h
      · rename_i a a' ha ha'
        split at h
        · rename_i p q hp hq
          cases h
          obtain ⟨c1, hc1, hr1⟩ := partOf_ok (w := w) hE hx ha
          obtain ⟨c2, hc2, hr2⟩ := partOf_ok (w := w) hE hy ha'
          have he := aEq_ok hE d f.type a a' p c1 c2 d' hp hc1 hc2 (by omega)
          have hrest := aEqFields_ok hE d fs xs ys q cs ds d' hq hx hy (by omega)
          cases p <;> simp [Op.eqFields, hn, hr1, hr2, he, hrest]
        · cases h
      · cases h
theorem aEqElems_ok (hE : EnvOK P E) : ∀ (d : Nat) (e : TypeId) (n m i : Nat) (xs ys : List AV) (b : Bool) (cs ds : Array Value) (d' : Nat), aEqElems E d e n m i xs ys = some b →
    VR M ι (.agg xs) (.agg cs) → VR M ι (.agg ys) (.agg ds) → d ≤ d' → (eqElems d' e n cs ds m i).run P w = .ok b w
  | 0, _, _, _, _, _, _, _, _, _, _, h, _, _, _ => by simp [aEqElems] at h
  | d + 1, e, n, 0, i, _, _, b, _, _, _, h, _, _, _ => by
    simp [aEqElems] at h; subst h; rfl
  | d + 1, e, n, m + 1, i, xs, ys, b, cs, ds, d', h, hx, hy, hd => by
    rw [aEqElems] at h
    split at h
    · rename_i a a' ha ha'
      split at h
      · rename_i p q hp hq
        cases h
        obtain ⟨c1, hc1, hr1⟩ := partOf_ok (w := w) hE hx ha
        obtain ⟨c2, hc2, hr2⟩ := partOf_ok (w := w) hE hy ha'
        have he := aEq_ok hE d e a a' p c1 c2 d' hp hc1 hc2 (by omega)
        have hrest := aEqElems_ok hE d e n m (i + 1) xs ys q cs ds d' hq hx hy (by omega)
        cases p <;> simp [eqElems, hr1, hr2, he, hrest]
      · cases h
    · cases h
end

end
end Go.Abs
