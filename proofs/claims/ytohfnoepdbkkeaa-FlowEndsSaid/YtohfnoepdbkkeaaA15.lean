/- What a call has made, by value; tables of functions. -/
import Derived.Test.YtohfnoepdbkkeaaA14
namespace Go.Abs
open Go.RowKit

theorem mapM_some {α β : Type} {f : α → Option β} : ∀ {l : List α} {ys : List β}, l.mapM f = some ys → ys.length = l.length ∧ ∀ (i : Nat) (x : α), l[i]? = some x → ∃ y, ys[i]? = some y ∧ f x = some y
  | [], ys, h => by
    simp at h; subst h
    exact ⟨rfl, fun i x hx => by simp at hx⟩
  | a :: l, ys, h => by
    simp only [List.mapM_cons] at h
    cases ha : f a with
    | none => rw [ha] at h; cases h
    | some b =>
      rw [ha] at h
      cases hl : l.mapM f with
      | none => rw [hl] at h; cases h
      | some bs =>
        rw [hl] at h; cases h
        obtain ⟨h1, h2⟩ := mapM_some hl
        refine ⟨by simp [h1], fun i x hx => ?_⟩
        cases i with
        | zero => simp at hx; subst hx; exact ⟨b, rfl, ha⟩
        | succ i => exact h2 i x (by simpa using hx)

theorem mapM_get {α β : Type} {f : α → Option β} {l : List α} {ys : List β} (h : l.mapM f = some ys) {i : Nat} {y : β} (hy : ys[i]? = some y) : ∃ x, l[i]? = some x ∧ f x = some y := by
  obtain ⟨h1, h2⟩ := mapM_some h
  have hi : i < l.length := by rw [← h1]; exact (List.getElem?_eq_some_iff.1 hy).1
  obtain ⟨y', h3, h4⟩ := h2 i l[i] (List.getElem?_eq_getElem hi)
  rw [hy] at h3; cases h3
  exact ⟨_, List.getElem?_eq_getElem hi, h4⟩

open Classical in
/-- What lies still: what lay still before, and all rows of ours. -/
noncomputable def still (M : Mem) (ι : Io) (H : AH) (w : World) : Mem := fun a => match M a with
  | some v => some v
  | none => if owns ι H a.block then w.cell? a else none

def encV1 : AV → Res := fun v => some (.ret v, [])

section
variable {P : Program} {M : Mem} {ι : Io} {H : AH} {w : World} {r : Fin'}

theorem still_old {a : Addr} {v : Value} (h : M a = some v) : still M ι H w a = some v := by
  unfold still; rw [h]

theorem still_own (hI : Inv M ι H w) {a : Addr} {v : Value} (ho : owns ι H a.block) (h : w.cell? a = some v) : still M ι H w a = some v := by
  unfold still
  cases hm : M a with
  | none => simp only [if_pos ho, h]
  | some u =>
    have := hI.mem a u hm
    rw [h] at this
    exact this.symm

theorem still_mem (hI : Inv M ι H w) {a : Addr} {v : Value} (h : still M ι H w a = some v) : w.cell? a = some v := by
  unfold still at h
  split at h
  · rename_i u hu
    cases h
    exact hI.mem a v hu
  · split at h
    · exact h
    · cases h

theorem freezeLK_nat {f : AV → (AV → Res) → Res} (hf : ∀ v kk, f v kk = some r → ∃ x, kk x = some r ∧ ∀ kk', f v kk' = kk' x) : ∀ (l : List AV) (kk : List AV → Res), freezeLK f l kk = some r →
    ∃ xs, kk xs = some r ∧ (∀ kk', freezeLK f l kk' = kk' xs) ∧ xs.length = l.length ∧ ∀ (i : Nat) (v : AV), l[i]? = some v → ∃ x, xs[i]? = some x ∧ ∀ kk', f v kk' = kk' x
  | [], kk, h => ⟨[], h, fun _ => rfl, rfl, fun i v hv => by simp at hv⟩
  | v :: l, kk, h => by
    simp only [freezeLK] at h
    obtain ⟨x, h1, h2⟩ := hf v _ h
    obtain ⟨xs, h3, h4, h5, h6⟩ := freezeLK_nat hf l _ h1
    refine ⟨x :: xs, h3, fun kk' => by simp only [freezeLK, h2, h4], by simp [h5], fun i u hu => ?_⟩
    cases i with
    | zero => simp at hu; subst hu; exact ⟨x, rfl, h2⟩
    | succ i => exact h6 i u (by simpa using hu)

theorem freezeK_nat : ∀ (d : Nat) (v : AV) (kk : AV → Res), freezeK H d v kk = some r → ∃ x, kk x = some r ∧ ∀ kk', freezeK H d v kk' = kk' x := by
  intro d
  induction d with
  | zero => intro v kk h; cases h
  | succ d ih =>
    intro v kk h
    cases v with
    | sl id ver off len sz =>
      simp only [freezeK] at h ⊢
      split at h
      · obtain ⟨h1, h⟩ := aIf_none h
        obtain ⟨h2, h⟩ := aIf_none h
        obtain ⟨h3, h⟩ := aIf_none h
        refine ⟨_, h, fun kk' => ?_⟩
        simp only [h1, h2, h3]; rfl
      · cases h
    | agg cs =>
      simp only [freezeK] at h ⊢
      obtain ⟨xs, h1, h2, _⟩ := freezeLK_nat (f := freezeK H d) ih cs _ h
      exact ⟨_, h1, fun kk' => by rw [h2]⟩
    | tup cs =>
      simp only [freezeK] at h ⊢
      obtain ⟨xs, h1, h2, _⟩ := freezeLK_nat (f := freezeK H d) ih cs _ h
      exact ⟨_, h1, fun kk' => by rw [h2]⟩
    | iface t v =>
      simp only [freezeK] at h ⊢
      obtain ⟨x, h1, h2⟩ := ih v _ h
      exact ⟨_, h1, fun kk' => by rw [h2]⟩
    | ptr id ver off =>
      simp only [freezeK] at h ⊢
      split at h
      · obtain ⟨h1, h⟩ := aIf_none h
        obtain ⟨xs, h2, h3, _⟩ := freezeLK_nat (f := freezeK H d) ih _ _ h
        refine ⟨_, h2, fun kk' => ?_⟩
        simp only [h1, h3]; rfl
      · cases h
    | fn f a b =>
      simp only [freezeK] at h ⊢
      obtain ⟨xs, h1, h2, _⟩ := freezeLK_nat (f := freezeK H d) ih a _ h
      obtain ⟨ys, h3, h4, _⟩ := freezeLK_nat (f := freezeK H d) ih b _ h1
      exact ⟨_, h3, fun kk' => by rw [h2, h4]⟩
    | yld => cases h
    | _ => exact ⟨_, h, fun _ => rfl⟩

theorem freezeK_ok (hI : Inv M ι H w) : ∀ (d : Nat) {x x' : AV} {c : Value}, (∀ kk : AV → Res, freezeK H d x kk = kk x') → VR M ι x c → ∀ ι', VR (still M ι H w) ι' x' c := by
  intro d
  induction d with
  | zero => intro x x' c h; have := h encV1; cases this
  | succ d ih =>
    intro x x' c h hv ι'
    have some' : ∀ {v : AV} {d : Nat}, (∀ kk : AV → Res, freezeK H d v kk = kk x') → freezeK H d v encV1 = some (.ret x', []) := fun h => h encV1
    have keep : ∀ {y : AV}, y.closed = true → VR M ι y c → VR (still M ι H w) ι' y c := fun hy hv =>
      (hv.free hy io0).mono (fun a v ha => still_old ha) (fun _ _ _ h => by cases h)
    have freecell : ∀ {y : AV} {u : Value} (ι'' : Io), y.closed = true → VR M ι y u → VR (still M ι H w) ι'' y u := fun ι'' hy hv =>
      (hv.free hy io0).mono (fun a v ha => still_old ha) (fun _ _ _ h => by cases h)
    have list : ∀ {l : List AV} {g : List AV → AV}, (∀ kk : AV → Res, freezeLK (freezeK H d) l (fun xs => kk (g xs)) = kk x') → ∃ xs, g xs = x' ∧ xs.length = l.length ∧
        ∀ (i : Nat) (y : AV), xs[i]? = some y → ∃ y0, l[i]? = some y0 ∧ ∀ {u : Value}, VR M ι y0 u → ∀ ι', VR (still M ι H w) ι' y u := by
      intro l g hg
      obtain ⟨xs, h1, _, h3, h4⟩ := freezeLK_nat (f := freezeK H d) (freezeK_nat d) l _ (hg encV1)
      simp only [encV1, Option.some.injEq, Prod.mk.injEq, AEnd.ret.injEq, and_true] at h1
      refine ⟨xs, h1, h3, fun i y hy => ?_⟩
      have hi : i < l.length := by rw [← h3]; exact (List.getElem?_eq_some_iff.1 hy).1
      obtain ⟨y', q1, q2⟩ := h4 i l[i] (List.getElem?_eq_getElem hi)
      rw [hy] at q1; cases q1
      exact ⟨_, List.getElem?_eq_getElem hi, fun hu ι' => ih q2 hu ι'⟩
    cases x with
    | sl id ver off len sz =>
      have h0 := h encV1
      simp only [freezeK] at h0
      split at h0
      · rename_i w0 cs hH
        have hq := aIf_none h0
        clear h0
        obtain ⟨e1, h0⟩ := hq
        obtain ⟨e2, h0⟩ := aIf_none h0
        obtain ⟨e3, h0⟩ := aIf_none h0
        have hver : w0 = ver := by simpa using e1
        have hle : off + len * sz ≤ cs.length := by simpa using e2
        simp only [encV1, Option.some.injEq, Prod.mk.injEq, AEnd.ret.injEq, and_true] at h0
        subst h0
        subst hver
        obtain ⟨b, n, c0, t, h1, h2, h3, h4, h5, h6, h7⟩ := hI.obj id _ hH
        have hown : owns ι H b := ⟨id, _, n, hH, h1⟩
        cases hv with
        | sl o cap hb hlc hoff hv4 =>
        rw [h1] at hb; cases hb
        have cellv : ∀ (i : Nat) (y : AV), cs[i]? = some y → ∃ v : Value, w.cell? ⟨b, i, none⟩ = some v ∧ VR M ι y v ∧ vone v = true := by
          intro i y hy
          obtain ⟨v, q1, q2, q3⟩ := h6 i y hy
          exact ⟨v, by simp [World.cell?, h2, q1], q2, q3⟩
        have flat : ∀ (i : Nat) (y : AV), i < len * sz → cs[off + i]? = some y → y.closed = true ∧ y.one = true := by
          intro i y hi hy
          refine flatL_get _ e3 y (List.mem_of_getElem? (i := i) ?_)
          rw [List.getElem?_take_of_lt hi, List.getElem?_drop]; exact hy
        by_cases hcap : cap = 0
        · subst hcap
          obtain rfl : len = 0 := by omega
          have : chunkF sz off 0 cs = [] := by unfold chunkF; split <;> simp
          rw [this]
          exact .fsAny (xs := []) b o 0 (fun _ _ => undef) (Nat.le_refl _) (fun i x hx => by simp at hx) (fun i x j y hx => by simp at hx) (fun i x j y hx => by simp at hx)
        · obtain rfl : o = off := hoff.resolve_left hcap
          -- an element, its cells
          have hlen : (chunkF sz o len cs).length = len := by
            unfold chunkF
            split
            · rename_i hs; simp at hs; subst hs; simp; omega
            · simp
          have hel : ∀ (i : Nat) (x : AV), (chunkF sz o len cs)[i]? = some x → x.cells.length = sz ∧ ∀ (j : Nat) (y : AV), x.cells[j]? = some y → j < sz ∧ cs[o + i * sz + j]? = some y ∧ i * sz + j < len * sz := by
            intro i x hx
            have hil : i < len := by rw [← hlen]; exact (List.getElem?_eq_some_iff.1 hx).1
            have hb : i * sz + sz ≤ len * sz := by
              have := Nat.mul_le_mul_right sz (show i + 1 ≤ len by omega)
              rwa [Nat.succ_mul] at this
            unfold chunkF at hx
            split at hx
            · rename_i hs
              obtain rfl : sz = 1 := by simpa using hs
              rw [List.getElem?_take_of_lt hil, List.getElem?_drop] at hx
              have hone := (flat i x (by omega) hx).2
              rw [one_cells hone]
              refine ⟨rfl, fun j y hy => ?_⟩
              cases j with
              | zero => simp at hy; subst hy; exact ⟨by omega, by simpa using hx, by omega⟩
              | succ j => simp at hy
            · simp only [List.getElem?_map, List.getElem?_range hil, Option.map_some, Option.some.injEq] at hx
              subst hx
              refine ⟨by simp [AV.cells]; omega, fun j y hy => ?_⟩
              have hj : j < sz := by
                have := (List.getElem?_eq_some_iff.1 hy).1
                simp [AV.cells] at this; omega
              simp only [AV.cells] at hy
              rw [List.getElem?_take_of_lt hj, List.getElem?_drop] at hy
              exact ⟨hj, hy, by omega⟩
          have hgoal : VR (still M ι H w) ι' (.fs sz (chunkF sz o len cs) .any) (.slice (some ⟨b, o, none⟩) (chunkF sz o len cs).length cap) := by
            refine .fsAny b o cap (fun i j => (w.cell? ⟨b, o + i * sz + j, none⟩).getD undef) (by omega) (fun i x hx => (hel i x hx).1) (fun i x j y hx hy => ?_) (fun i x j y hx hy => ?_)
            · obtain ⟨q0, q1, q2⟩ := (hel i x hx).2 j y hy
              obtain ⟨v, p2, p3, p4⟩ := cellv _ y q1
              simp only [p2, Option.getD_some]
              exact ⟨still_own hI hown p2, p4⟩
            · obtain ⟨q0, q1, q2⟩ := (hel i x hx).2 j y hy
              obtain ⟨v, p2, p3, p4⟩ := cellv _ y q1
              simp only [p2, Option.getD_some]
              exact freecell io0 (flat (i * sz + j) y q2 (by rw [← Nat.add_assoc]; exact q1)).1 p3
          rw [hlen] at hgoal
          exact hgoal
      · cases h0
    | agg cs =>
      obtain ⟨xs, rfl, h1, h2⟩ := list (g := AV.agg) (l := cs) (fun kk => h kk)
      cases c <;> (try (cases hv; done))
      cases hv with
      | agg g1 g2 g3 =>
      refine .agg (by rw [h1]; exact g1) (fun i x y hx hy => ?_) g3
      obtain ⟨x0, hx0, hf0⟩ := h2 i x hx
      exact hf0 (g2 i x0 y hx0 hy) _
    | tup cs =>
      obtain ⟨xs, rfl, h1, h2⟩ := list (g := AV.tup) (l := cs) (fun kk => h kk)
      cases c <;> (try (cases hv; done))
      cases hv with
      | tup g1 g2 =>
      refine .tup (by rw [h1]; exact g1) (fun i x y hx hy => ?_)
      obtain ⟨x0, hx0, hf0⟩ := h2 i x hx
      exact hf0 (g2 i x0 y hx0 hy) _
    | iface t v =>
      obtain ⟨v', h1, h2⟩ := freezeK_nat d v _ (h encV1)
      simp only [encV1, Option.some.injEq, Prod.mk.injEq, AEnd.ret.injEq, and_true] at h1
      subst h1
      cases c <;> (try (cases hv; done))
      cases hv with
      | iface _ g => exact .iface t (ih h2 g _)
    | ptr id ver off =>
      have h0 := h encV1
      simp only [freezeK] at h0
      split at h0
      · rename_i w0 cs hH
        obtain ⟨e1, _⟩ := aIf_none h0
        have hver : w0 = ver := by simpa using e1
        obtain ⟨xs, rfl, hx1, hx2⟩ := list (g := AV.fp) (l := cs.drop off) (fun kk => by
          have := h kk
          simp only [freezeK, hH, e1] at this
          exact this)
        subst hver
        obtain ⟨b, n, c0, t, h1, h2, h3, h4, h5, h6, h7⟩ := hI.obj id _ hH
        have hown : owns ι H b := ⟨id, _, n, hH, h1⟩
        cases hv with
        | ptr _ hb =>
        rw [h1] at hb; cases hb
        have hel : ∀ (i : Nat) (x : AV), xs[i]? = some x → ∃ (v : Value), w.cell? ⟨b, off + i, none⟩ = some v ∧ vone v = true ∧ VR (still M ι H w) io0 x v := by
          intro i x hx
          obtain ⟨y, hy, hfy⟩ := hx2 i x hx
          rw [List.getElem?_drop] at hy
          obtain ⟨v, q1, q2, q3⟩ := h6 _ y hy
          exact ⟨v, by simp [World.cell?, h2, q1], q3, hfy q2 _⟩
        refine .fp b off (fun i => (w.cell? ⟨b, off + i, none⟩).getD undef) (fun i x hx => ?_) (fun i x hx => ?_)
        · obtain ⟨v, q2, q3, q4⟩ := hel i x hx
          simp only [q2, Option.getD_some]
          exact ⟨still_own hI hown q2, q3⟩
        · obtain ⟨v, q2, q3, q4⟩ := hel i x hx
          simp only [q2, Option.getD_some]
          exact q4
      · cases h0
    | fn f a b =>
      obtain ⟨xs, h1, h2, h3, h4⟩ := freezeLK_nat (f := freezeK H d) (freezeK_nat d) a _ (h encV1)
      obtain ⟨ys, g1, g2, g3, g4⟩ := freezeLK_nat (f := freezeK H d) (freezeK_nat d) b _ h1
      simp only [encV1, Option.some.injEq, Prod.mk.injEq, AEnd.ret.injEq, and_true] at g1
      subst g1
      cases c <;> (try (cases hv; done))
      cases hv with
      | fn _ k1 k2 k3 k4 =>
      refine .fn f (by rw [h3]; exact k1) (by rw [g3]; exact k2) (fun i x y hx hy => ?_) (fun i x y hx hy => ?_)
      · have hi : i < a.length := by rw [← h3]; exact (List.getElem?_eq_some_iff.1 hx).1
        obtain ⟨x', q1, q2⟩ := h4 i a[i] (List.getElem?_eq_getElem hi)
        rw [hx] at q1; cases q1
        exact ih q2 (k3 i _ y (List.getElem?_eq_getElem hi) hy) _
      · have hi : i < b.length := by rw [← g3]; exact (List.getElem?_eq_some_iff.1 hx).1
        obtain ⟨x', q1, q2⟩ := g4 i b[i] (List.getElem?_eq_getElem hi)
        rw [hx] at q1; cases q1
        exact ih q2 (k4 i _ y (List.getElem?_eq_getElem hi) hy) _
    | yld => have := h encV1; cases this
    | _ =>
      have h0 := h encV1
      simp only [freezeK, encV1, Option.some.injEq, Prod.mk.injEq, AEnd.ret.injEq, and_true] at h0
      subst h0
      exact keep rfl hv

/-- A step in memory of its own whose rows nobody needs any more. -/
theorem Stp.frozen {M' : Mem} {ι' : Io} {H' : AH} {w' : World} (h : Stp M io0 [] w M' ι' H' w') : Stp M io0 [] w (still M' ι' H' w') io0 [] w' := by
  have hno : ∀ b, ¬ owns io0 [] b := by rintro b ⟨id, o, n, h1, _⟩; simp at h1
  refine ⟨fun _ _ _ h => h, fun a v hv => still_old (h.mem a v hv), fun a v h1 h2 => ?_, ⟨fun a v hv => still_mem h.inv hv, fun _ _ _ h => (by cases h), fun _ _ h => (by simp at h), fun _ _ _ _ _ _ _ h => (by simp at h)⟩,
    h.keep, fun b _ hb => absurd hb (hno b), h.size, h.os, h.tape, h.output⟩
  unfold still at h1
  split at h1
  · rename_i u hu
    exact h.newmem a u hu h2
  · split at h1
    · rename_i ho
      refine .inl ?_
      rcases Nat.lt_or_ge a.block w.heap.size with hlt | hge
      · exact absurd (h.own _ hlt ho) (hno _)
      · exact hge
    · cases h1

end

structure SpecOK (P : Program) (f : FuncId) (S : FSpec) : Prop where
  ok : ∀ args H k r, S args H k = some r → CallOK P f args H k r
  nat : ∀ args H k r, S args H k = some r → ∃ e H', k e H' = some r ∧ ∀ k', S args H k' = k' e H'


theorem inlineK_ok {P : Program} {C : Ctx} (hC : CtxOK P C) {f : FuncId} {fn : Func} (hf : P.funcs[f]? = some fn) (hL : ∀ c, fn.body = some c → LoopsOK C c) : SpecOK P f (inlineK C fn) := by
  refine ⟨fun args H k r h => ?_, fun args H k r h => ?_⟩
  rotate_left
  · unfold inlineK at h ⊢
    split at h
    · obtain ⟨e, H1, h1, h2⟩ := aBodyK_nat hC.nat hC.rnat hL h
      cases e with
      | ret v =>
        simp only [freezeEK] at h1
        obtain ⟨x, h3, h4⟩ := freezeK_nat 8 v _ h1
        exact ⟨.ret x, [], h3, fun k' => by rw [h2]; simp only [freezeEK, h4]⟩
      | pan v =>
        simp only [freezeEK] at h1
        obtain ⟨x, h3, h4⟩ := freezeK_nat 8 v _ h1
        exact ⟨.pan x, [], h3, fun k' => by rw [h2]; simp only [freezeEK, h4]⟩
    · exact aBodyK_nat hC.nat hC.rnat hL h
  unfold inlineK at h
  split at h
  · intro M ι w cargs hI ha
    have hI0 : Inv M io0 [] w := hI.alone
    -- rows: none
    have hia : ∀ i v p, ι i v = some p → io0 i v = some p := fun i v p hp => by
      obtain ⟨o, ho, _⟩ := hI.dom i v p hp
      simp at ho
    have ha0 : VRs M io0 args cargs := ha.mono (fun _ _ h => h) hia
    refine CallsIn.mono (aBodyK_ok hC hf hL h M io0 w cargs hI0 ha0) ?_
    rintro en w' ⟨e, H1, M', ι', hk, hs, he⟩
    have hs0 : Stp M ι [] w (still M' ι' H1 w') ι [] w' := by
      have := hs.frozen.embed hI
      exact this
    cases e with
    | ret v =>
      simp only [freezeEK] at hk
      obtain ⟨x, h3, h4⟩ := freezeK_nat 8 v _ hk
      refine ⟨.ret x, [], still M' ι' H1 w', ι, h3, hs0, ?_⟩
      cases en with
      | returned c => exact freezeK_ok hs.inv 8 h4 he ι
      | _ => exact he.elim
    | pan v =>
      simp only [freezeEK] at hk
      obtain ⟨x, h3, h4⟩ := freezeK_nat 8 v _ hk
      refine ⟨.pan x, [], still M' ι' H1 w', ι, h3, hs0, ?_⟩
      cases en with
      | panicked chain =>
        obtain ⟨c, hc, hv⟩ := he
        exact ⟨c, hc, freezeK_ok hs.inv 8 h4 hv ι⟩
      | _ => exact he.elim
  · exact aBodyK_ok hC hf hL h

/-- Another way to say what a function does. -/
theorem SpecOK.turn {P : Program} {f : FuncId} {B S : FSpec} (h : SpecOK P f B) (hs : ∀ args H, (∀ k, S args H k = none) ∨ ∀ k, S args H k = B args H k) : SpecOK P f S := by
  refine ⟨fun args H k r hr => ?_, fun args H k r hr => ?_⟩
  · rcases hs args H with h1 | h1
    · rw [h1] at hr; cases hr
    · rw [h1] at hr; exact h.ok args H k r hr
  · rcases hs args H with h1 | h1
    · rw [h1] at hr; cases hr
    · rw [h1] at hr
      obtain ⟨e, H', h2, h3⟩ := h.nat args H k r hr
      exact ⟨e, H', h2, fun k' => by rw [h1]; exact h3 k'⟩

/-- One of two, as the arguments say. -/
def eitherK (c : List AV → Bool) (S1 S2 : FSpec) : FSpec := fun args H k => aIf (c args) (S1 args H k) (S2 args H k)
theorem SpecOK.either {P : Program} {f : FuncId} {S1 S2 : FSpec} (c : List AV → Bool) (h1 : SpecOK P f S1) (h2 : SpecOK P f S2) : SpecOK P f (eitherK c S1 S2) := by
  refine ⟨fun args H k r hr => ?_, fun args H k r hr => ?_⟩
  · rcases aIf_some hr with ⟨_, hr⟩ | ⟨_, hr⟩
    · exact h1.ok args H k r hr
    · exact h2.ok args H k r hr
  · unfold eitherK at hr ⊢
    cases hc : c args with
    | true =>
      rw [hc] at hr
      exact h1.nat args H k r hr
    | false =>
      rw [hc] at hr
      exact h2.nat args H k r hr

theorem aIf_ite (b : Bool) (x y : Res) : aIf b x y = if b = true then x else y := by cases b <;> rfl
theorem aIf_pos {b : Bool} {x y : Res} (h : b = true) : aIf b x y = x := by rw [h]; rfl
theorem aIf_neg {b : Bool} {x y : Res} (h : b = false) : aIf b x y = y := by rw [h]; rfl

theorem constK_ok {P : Program} {f : FuncId} {S : FSpec} {v : AV} (h : SpecOK P f S) (he : ∀ k, S [] [] k = k (.ret v) []) : SpecOK P f (constK v) := by
  refine ⟨fun args H k r hr => ?_, fun args H k r hr => ?_⟩
  · unfold constK at hr
    split at hr
    · exact h.ok [] [] k r (by rw [he]; exact hr)
    · cases hr
  · unfold constK at hr ⊢
    split at hr
    · exact ⟨_, _, hr, fun _ => rfl⟩
    · cases hr

def TabOK (P : Program) (T : List (FuncId × FSpec)) : Prop := ∀ p ∈ T, Enters P p.1 ∧ SpecOK P p.1 p.2

theorem TabOK.nil (P : Program) : TabOK P [] := fun p hp => by cases hp
theorem TabOK.cons {P : Program} {T : List (FuncId × FSpec)} {f : FuncId} {S : FSpec} (h1 : Enters P f) (h2 : SpecOK P f S) (h : TabOK P T) : TabOK P ((f, S) :: T) := by
  intro p hp
  rcases List.mem_cons.1 hp with rfl | hp
  · exact ⟨h1, h2⟩
  · exact h p hp

theorem TabOK.get {P : Program} {f : FuncId} {S : FSpec} : ∀ (T : List (FuncId × FSpec)), TabOK P T → tabGet T f = some S → Enters P f ∧ SpecOK P f S
  | [], _, h => by cases h
  | (g, S') :: T, hT, h => by
    simp only [tabGet] at h
    split at h
    · rename_i hg
      cases h
      have hg : g = f := by simpa using hg
      subst hg
      exact hT _ (List.mem_cons_self ..)
    · exact TabOK.get T (fun p hp => hT p (List.mem_cons_of_mem _ hp)) h

theorem ctx_ok {P : Program} {E : Env} {T : List (FuncId × FSpec)} {loops : List (Nat × (ATs → AH → KC → Res))} {keep : List (Nat × List Nat)} {live : List Nat} {nt fuel : Nat} (hE : EnvOK P E) (hF : FieldsOK E) (hm : P.follows .mixedOrders = true) (hT : TabOK P T) :
    CtxOK P (ctx E T loops keep live nt fuel) := by
  refine ⟨hE, hF, hm, fun f args H k r h => ?_, fun l args H k r h => (by cases h), fun f args H k => ?_, fun l args H k => rfl⟩
  · change (match tabGet T f with | some S => S args H k | none => none) = some r at h
    split at h
    · rename_i S hS
      obtain ⟨q1, q2⟩ := hT.get T hS
      exact ⟨q1, q2.ok _ _ _ _ h⟩
    · cases h
  · change (match tabGet T f with | some S => S args H k | none => none) = decE (match tabGet T f with | some S => S args H encE | none => none) k
    cases hS : tabGet T f with
    | none => rfl
    | some S =>
      simp only
      obtain ⟨_, q2⟩ := hT.get T hS
      cases hx : S args H k with
      | some r =>
        obtain ⟨e, H', h1, h2⟩ := q2.nat args H k r hx
        rw [h2 encE]
        simp only [encE, decE]
        exact h1.symm
      | none =>
        cases hy : S args H encE with
        | none => rfl
        | some p =>
          obtain ⟨e, H', h1, h2⟩ := q2.nat args H encE p hy
          simp only [encE, Option.some.injEq] at h1
          subst h1
          simp only [decE]
          rw [← h2 k, hx]

theorem Ctx.ranging_ok {P : Program} {C : Ctx} (h : CtxOK P C) : CtxOK P C.ranging := ⟨h.env, h.flds, h.mixed, h.call, h.round, h.nat, h.rnat⟩

theorem liveK_ok {P : Program} {C : Ctx} (hC : CtxOK P C) {f : FuncId} {fn : Func} (hf : P.funcs[f]? = some fn) (hL : ∀ c, fn.body = some c → LoopsOK C c) : SpecOK P f (liveK C fn) :=
  ⟨fun _ _ _ _ h => aBodyK_ok hC hf hL h, fun _ _ _ _ h => aBodyK_nat hC.nat hC.rnat hL h⟩

theorem bindPs_ok {M : Mem} {ι : Io} {nt : Nat} : ∀ (ps : List Tmp) (args : List AV) {ts : ATs} {tmps : Array Value} {cargs : List Value}, TR M ι nt ts tmps → args.length = ps.length → (∀ p ∈ ps, p < nt) →
    args.length = cargs.length → (∀ (i : Nat) (x : AV) (y : Value), args[i]? = some x → cargs[i]? = some y → VR M ι x y) →
    TR M ι nt (bindPs ps args ts) ((ps.zip cargs).foldl (fun tmps p => tmps.setIfInBounds p.1 p.2) tmps)
  | [], [], _, _, _, hT, _, _, _, _ => hT
  | p :: ps, a :: as, ts, tmps, [], _, _, _, hc, _ => by simp at hc
  | p :: ps, a :: as, ts, tmps, c :: cs, hT, hl, hp, hc, hv => by
    simp only [bindPs, List.zip_cons_cons, List.foldl_cons]
    refine bindPs_ok ps as (ts := (p, a) :: ts) ?_ (by simpa using hl) (fun q hq => hp q (by simp [hq])) (by simpa using hc) (fun i x y hx hy => hv (i + 1) x y (by simpa using hx) (by simpa using hy))
    have := TR.put (a := { tmps := tmps, defers := [] }) (d := some p) hT (by simpa [dstOk] using hp p (by simp)) (hv 0 a c rfl rfl)
    simpa [Act.put, ATs.put] using this
  | [], _ :: _, _, _, _, _, hl, _, _, _ => by simp at hl
  | _ :: _, [], _, _, _, _, hl, _, _, _ => by simp at hl

theorem endRoundK_ok {P : Program} {l : Nat} {jump : Option Code} {H : AH} {k : KE} {r : Fin'} (h : endRoundK l jump H k = some r) {M : Mem} {ι : Io} {w : World} {b n : Nat} (hI : Inv M ι H w) (hb : ι l 0 = some (b, n)) :
    ∃ v w' e H' M' ι', (Instr.endRound b jump).run P w = .ok v w' ∧ k e H' = some r ∧ Stp M ι H w M' ι' H' w' ∧ EndR M' ι' e (.returned v) := by
  unfold endRoundK at h
  split at h
  · rename_i st pe nt ts ps as bd hl
    obtain ⟨fn, tmps, db, h1, h2⟩ := hI.loop_block hl hb
    have hend := run_endRound (P := P) jump h1
    cases jump with
    | none =>
      obtain ⟨ι', hs⟩ := Stp.turnLoop (st' := .ready) (pend' := none) hI hl hb h1 h2
      exact ⟨_, _, _, _, M, ι', hend, h, hs, .bool _⟩
    | some j =>
      obtain ⟨ι', hs⟩ := Stp.turnLoop (st' := .done) (pend' := some j) hI hl hb h1 h2
      exact ⟨_, _, _, _, M, ι', hend, h, hs, .bool _⟩
  · cases h

theorem endRoundK_nat {l : Nat} {jump : Option Code} {H : AH} {k : KE} {r : Fin'} (h : endRoundK l jump H k = some r) : ∃ e H', k e H' = some r ∧ ∀ k', endRoundK l jump H k' = k' e H' := by
  unfold endRoundK at h ⊢
  split at h
  · cases jump with
    | none => exact ⟨_, _, h, fun _ => rfl⟩
    | some j => exact ⟨_, _, h, fun _ => rfl⟩
  · cases h

theorem roundK_ok {P : Program} {C : Ctx} (hC : CtxOK P C) (hl : ∀ n, C.loop n = none) (hr : C.ranges = false) {l : Nat} {args : List AV} {H : AH} {k : KE} {r : Fin'} (h : roundK C l args H k = some r) : RoundOK P l args H k r := by
  intro M ι w cargs b n hI ha hb
  have hLs : ∀ c, LoopsOK C c := fun c b _ S hS => by rw [hl] at hS; cases hS
  unfold roundK at h
  split at h
  · rename_i pe nt ts ps as bd hrow
    split at h
    · cases h
    rename_i hg
    simp only [Bool.and_eq_true, beq_iff_eq, List.all_eq_true, decide_eq_true_eq] at hg
    obtain ⟨⟨rfl, g2⟩, g3⟩ := hg
    obtain ⟨fn, tmps, db, h1, h2⟩ := hI.loop_block hrow hb
    have hy := run_yield (P := P) (args := cargs) h1 (by simpa [← ha.1] using g2)
    refine ⟨fn, _, as, bd, w, hy, roundIn_of_wpIn trivial ?_⟩
    have hT1 : TR M ι C.nt (bindPs ps args ts) ((ps.toArray.zip cargs).foldl (fun tmps (t, a) => tmps.setIfInBounds t a) tmps) := by
      have := bindPs_ok ps args (cargs := cargs.toList) h2 g2 g3 (by simpa using ha.1) (fun i x y hx hy => ha.2 i x y hx (by simpa using hy))
      rw [← Array.foldl_toList, Array.toList_zip]
      exact this
    refine aCodeK_ok (ro := some b) (base := w.heap.size) (a := { tmps := _, defers := [] }) hC (fun hx => by rw [hr] at hx; cases hx) as (hLs as) h hI hT1 (Dfs.nil (Nat.le_refl _)) ?_
    intro ex ts2 H2 hx e M2 ι2 a2 w2 s1 s2 s3 s4
    cases ex with
    | normal =>
      cases e with
      | normal =>
        simp only at hx
        split at hx
        · rename_i pe' nt' ts' ps' as' bd' hrow2
          have hb2 := s1.io _ _ _ hb
          obtain ⟨fn2, tmps2, db2, o1, o2⟩ := s1.inv.loop_block hrow2 hb2
          obtain ⟨ι3, hs3⟩ := Stp.turnLoop (st' := .busy) (pend' := pe') s1.inv hrow2 hb2 o1 o2
          have hbr := run_beginRound (P := P) o1 rfl
          refine ⟨_, hbr, ?_⟩
          have s13 := s1.trans hs3
          refine aCodeK_ok (ro := some b) (base := w.heap.size) hC (fun hx => by rw [hr] at hx; cases hx) bd (hLs bd) hx hs3.inv (s2.stp hs3) (s3.stp s1.inv hs3) ?_
          intro ex4 ts4 H4 hx4 e4 M4 ι4 a4 w4 t1 t2 t3 t4
          have s14 := s13.trans t1
          have hb4 := s14.io _ _ _ hb
          have fin : ∀ jump, endRoundK l jump H4 k = some r → ∃ v w', (Instr.endRound b jump).run P w4 = .ok v w' ∧ ∃ e H' M' ι', k e H' = some r ∧ Stp M ι H w M' ι' H' w' ∧ EndR M' ι' e (.returned v) := by
            intro jump hj
            obtain ⟨v, w', e, H', M', ι', p1, p2, p3, p4⟩ := endRoundK_ok (P := P) hj s14.inv hb4
            exact ⟨v, w', p1, e, H', M', ι', p2, s14.trans p3, p4⟩
          cases ex4 with
          | normal =>
            cases e4 with
            | normal => exact fin none hx4
            | _ => exact t4.elim
          | ret =>
            cases e4 with
            | ret => exact fin (some .ret) hx4
            | _ => exact t4.elim
          | exit i =>
            cases e4 with
            | exit j =>
              obtain rfl : i = j := t4
              exact fin (some (.exit i)) hx4
            | _ => exact t4.elim
          | pan v => cases hx4
        · cases hx
      | _ => exact s4.elim
    | _ => cases hx
  · cases h

theorem roundK_nat {P : Program} {C : Ctx} (hC : CtxOK P C) (hl : ∀ n, C.loop n = none) {l : Nat} {args : List AV} {H : AH} {k : KE} {r : Fin'} (h : roundK C l args H k = some r) : ∃ e H', k e H' = some r ∧ ∀ k', roundK C l args H k' = k' e H' := by
  have hLs : ∀ c, LoopsOK C c := fun c b _ S hS => by rw [hl] at hS; cases hS
  unfold roundK at h ⊢
  split at h
  · rename_i pe nt ts ps as bd hrow
    split at h
    · cases h
    rename_i hg
    try simp only [hg]
    obtain ⟨ex, ts2, H2, h1, h2⟩ := aCodeK_nat hC.nat hC.rnat as (hLs as) _ H _ r h
    cases ex with
    | normal =>
      simp only at h1
      split at h1
      · rename_i pe' nt' ts' ps' as' bd' hrow2
        obtain ⟨ex4, ts4, H4, h3, h4⟩ := aCodeK_nat hC.nat hC.rnat bd (hLs bd) _ _ _ r h1
        have hk : ∀ k' : KE, _ := fun k' : KE => h2 (fun e ts2 H2 => match e with
          | .normal => match H2[l]? with
            | some (.loop .ready pe nt' ts' ps' as' bd') => aCodeK C bd ts2 (H2.set l (.loop .busy pe nt' ts' ps' as' bd')) fun e ts3 H3 => match e with
              | .normal => endRoundK l none H3 k'
              | .ret => endRoundK l (some .ret) H3 k'
              | .exit id => endRoundK l (some (.exit id)) H3 k'
              | .pan _ => none
            | _ => none
          | _ => none)
        simp only [hrow2] at hk
        cases ex4 with
        | normal =>
          obtain ⟨e, H', q1, q2⟩ := endRoundK_nat h3
          exact ⟨e, H', q1, fun k' => by rw [← q2 k']; exact (hk k').trans (h4 _)⟩
        | ret =>
          obtain ⟨e, H', q1, q2⟩ := endRoundK_nat h3
          exact ⟨e, H', q1, fun k' => by rw [← q2 k']; exact (hk k').trans (h4 _)⟩
        | exit i =>
          obtain ⟨e, H', q1, q2⟩ := endRoundK_nat h3
          exact ⟨e, H', q1, fun k' => by rw [← q2 k']; exact (hk k').trans (h4 _)⟩
        | pan v => cases h3
      · cases h1
    | _ => cases h1
  · cases h

theorem dec_of_nat {S : KE → Res} (h : ∀ k r, S k = some r → ∃ e H', k e H' = some r ∧ ∀ k', S k' = k' e H') (k : KE) : S k = decE (S encE) k := by
  cases hx : S k with
  | some r =>
    obtain ⟨e, H', h1, h2⟩ := h k r hx
    rw [h2 encE]
    simp only [encE, decE]
    exact h1.symm
  | none =>
    cases hy : S encE with
    | none => rfl
    | some p =>
      obtain ⟨e, H', h1, h2⟩ := h encE p hy
      simp only [encE, Option.some.injEq] at h1
      subst h1
      simp only [decE]
      rw [← h2 k, hx]

/-- A function over which is ranged, in the caller's context. -/
theorem Ctx.yields_ok {P : Program} {C C0 : Ctx} (h : CtxOK P C) (h0 : CtxOK P C0) (hl : ∀ n, C0.loop n = none) (hr : C0.ranges = false) : CtxOK P (C.yields C0) :=
  ⟨h.env, h.flds, h.mixed, h.call, fun _ _ _ _ _ hx => roundK_ok h0 hl hr hx, h.nat, fun _ _ _ k => dec_of_nat (fun _ _ hx => roundK_nat h0 hl hx) k⟩

theorem LoopsOK.none {E : Env} {T : List (FuncId × FSpec)} {keep : List (Nat × List Nat)} {live : List Nat} {nt fuel : Nat} (c : Code) : LoopsOK (ctx E T [] keep live nt fuel) c := fun _ _ _ h => by cases h

theorem LoopsOK.of {C : Ctx} {fn : Func} (n : Nat) (hn : (loopsOf (bodyOf fn)).length = n) (h : ∀ i, i < n → ∀ S, C.loop (loopId (loopB fn i)) = some S → LoopSum C (loopB fn i) S) : ∀ c, fn.body = some c → LoopsOK C c := by
  intro c hc b hb S hS
  have hbo : bodyOf fn = c := by unfold bodyOf; rw [hc]
  obtain ⟨i, hi⟩ := List.getElem?_of_mem hb
  have hlt := (List.getElem?_eq_some_iff.1 hi).1
  have hbi : loopB fn i = b := by
    unfold loopB
    rw [hbo, List.getD_eq_getElem?_getD, hi]; rfl
  rw [← hbi] at hS ⊢
  exact h i (by rw [← hn, hbo]; exact hlt) S hS

/-- The loops within a loop. -/
theorem LoopsOK.within {C : Ctx} {b : Code} (n : Nat) (hn : (loopsOf b).length = n) (h : ∀ i, i < n → ∀ S, C.loop (loopId ((loopsOf b).getD i .skip)) = some S → LoopSum C ((loopsOf b).getD i .skip) S) : LoopsOK C b := by
  intro b' hb S hS
  obtain ⟨i, hi⟩ := List.getElem?_of_mem hb
  have hlt := (List.getElem?_eq_some_iff.1 hi).1
  have hbi : (loopsOf b).getD i .skip = b' := by
    rw [List.getD_eq_getElem?_getD, hi]; rfl
  rw [← hbi] at hS ⊢
  exact h i (by rw [← hn]; exact hlt) S hS

/-- A loop's summary, out of its rounds. -/
theorem LoopSum.of {P : Program} {C : Ctx} {b : Code} {S : ATs → AH → KC → Res} (hC : CtxOK P C) (hb : LoopsOK C b) (h : ∀ ts H, (∀ k, S ts H k = none) ∨ ∃ n, ∀ k, S ts H k = aIterK n (headedK C b) ts H k) : LoopSum C b S := by
  refine ⟨fun ts H k r hr => ?_, fun ts H k r hr => ?_⟩
  · rcases h ts H with h1 | ⟨n, h1⟩
    · rw [h1] at hr; cases hr
    · exact ⟨n, by rw [← h1]; exact hr⟩
  · rcases h ts H with h1 | ⟨n, h1⟩
    · rw [h1] at hr; cases hr
    · rw [h1] at hr
      obtain ⟨ex, ts', H', h2, h3⟩ := aIterK_nat (F := headedK C b) (headedK_nat (fun ts H => aCodeK_nat hC.nat hC.rnat b hb ts H)) n ts H k r hr
      exact ⟨ex, ts', H', h2, fun k' => by rw [h1]; exact h3 k'⟩

end Go.Abs
