/- What a call has made, by value; calls that only look. -/
import Derived.Test.YteaceebonkpipaaA12
namespace Go.Abs
open Go.RowKit

theorem mapM_some {α β : Type} {f : α → Option β} : ∀ {l : List α} {ys : List β}, l.mapM f = some ys → ys.length = l.length ∧ ∀ (i : Nat) (x : α), l[i]? = some x → ∃ y, ys[i]? = some y ∧ f x = some y
  | [], ys, h => by
    simp at h; subst h
    exact ⟨rfl, fun i x hx => by simp at hx⟩
  | a :: l, ys, h => by
    simp only [List.mapM_cons] at h
    cases ha : f a with
    | none => rw [ha] at h; cases h
    | some b =>
      rw [ha] at h
      cases hl : l.mapM f with
      | none => rw [hl] at h; cases h
      | some bs =>
        rw [hl] at h; cases h
        obtain ⟨h1, h2⟩ := mapM_some hl
        refine ⟨by simp [h1], fun i x hx => ?_⟩
        cases i with
        | zero => simp at hx; subst hx; exact ⟨b, rfl, ha⟩
        | succ i => exact h2 i x (by simpa using hx)

theorem mapM_get {α β : Type} {f : α → Option β} {l : List α} {ys : List β} (h : l.mapM f = some ys) {i : Nat} {y : β} (hy : ys[i]? = some y) : ∃ x, l[i]? = some x ∧ f x = some y := by
  obtain ⟨h1, h2⟩ := mapM_some h
  have hi : i < l.length := by rw [← h1]; exact (List.getElem?_eq_some_iff.1 hy).1
  obtain ⟨y', h3, h4⟩ := h2 i l[i] (List.getElem?_eq_getElem hi)
  rw [hy] at h3; cases h3
  exact ⟨_, List.getElem?_eq_getElem hi, h4⟩

open Classical in
/-- What lies still: what lay still before, and all rows of ours. -/
noncomputable def still (M : Mem) (ι : Io) (H : AH) (w : World) : Mem := fun a => match M a with
  | some v => some v
  | none => if owns ι H a.block then w.cell? a else none

def encV1 : AV → Res := fun v => some (.ret v, [])

section
variable {P : Program} {M : Mem} {ι : Io} {H : AH} {w : World} {r : Fin'}

theorem still_old {a : Addr} {v : Value} (h : M a = some v) : still M ι H w a = some v := by
  unfold still; rw [h]

theorem cell_real {w : World} {a : Addr} {v : Value} (h : w.cell? a = some v) : w.cell? a.real = some v := by
  unfold World.cell? at h ⊢
  split at h
  · rename_i c _ _ hc
    rw [show w.heap[a.real.block]? = _ from hc]
    split at h
    · cases h
    · exact h
  · cases h

theorem still_own (hI : Inv M ι H w) {a : Addr} {v : Value} (ho : owns ι H a.block) (h : w.cell? a = some v) : still M ι H w a = some v := by
  unfold still
  cases hm : M a with
  | none => simp only [if_pos ho, h]
  | some u =>
    have := hI.mem a u hm
    rw [cell_real h] at this
    exact this.symm

theorem still_mem (hI : Inv M ι H w) {a : Addr} {v : Value} (h : still M ι H w a = some v) : w.cell? a.real = some v := by
  unfold still at h
  split at h
  · rename_i u hu
    cases h
    exact hI.mem a v hu
  · split at h
    · exact cell_real h
    · cases h

theorem freezeLK_nat {f : AV → (AV → Res) → Res} (hf : ∀ v kk, f v kk = some r → ∃ x, kk x = some r ∧ ∀ kk', f v kk' = kk' x) : ∀ (l : List AV) (kk : List AV → Res), freezeLK f l kk = some r →
    ∃ xs, kk xs = some r ∧ (∀ kk', freezeLK f l kk' = kk' xs) ∧ xs.length = l.length ∧ ∀ (i : Nat) (v : AV), l[i]? = some v → ∃ x, xs[i]? = some x ∧ ∀ kk', f v kk' = kk' x
  | [], kk, h => ⟨[], h, fun _ => rfl, rfl, fun i v hv => by simp at hv⟩
  | v :: l, kk, h => by
    simp only [freezeLK] at h
    obtain ⟨x, h1, h2⟩ := hf v _ h
    obtain ⟨xs, h3, h4, h5, h6⟩ := freezeLK_nat hf l _ h1
    refine ⟨x :: xs, h3, fun kk' => by simp only [freezeLK, h2, h4], by simp [h5], fun i u hu => ?_⟩
    cases i with
    | zero => simp at hu; subst hu; exact ⟨x, rfl, h2⟩
    | succ i => exact h6 i u (by simpa using hu)

theorem freezeK_nat : ∀ (d : Nat) (v : AV) (kk : AV → Res), freezeK H d v kk = some r → ∃ x, kk x = some r ∧ ∀ kk', freezeK H d v kk' = kk' x := by
  intro d
  induction d with
  | zero => intro v kk h; cases h
  | succ d ih =>
    intro v kk h
    cases v with
    | sl id ver off len sz =>
      simp only [freezeK] at h ⊢
      split at h
      · obtain ⟨h1, h⟩ := aIf_none h
        obtain ⟨h2, h⟩ := aIf_none h
        obtain ⟨h3, h⟩ := aIf_none h
        refine ⟨_, h, fun kk' => ?_⟩
        simp only [h1, h2, h3]; rfl
      · cases h
    | agg cs =>
      simp only [freezeK] at h ⊢
      obtain ⟨xs, h1, h2, _⟩ := freezeLK_nat (f := freezeK H d) ih cs _ h
      exact ⟨_, h1, fun kk' => by rw [h2]⟩
    | tup cs =>
      simp only [freezeK] at h ⊢
      obtain ⟨xs, h1, h2, _⟩ := freezeLK_nat (f := freezeK H d) ih cs _ h
      exact ⟨_, h1, fun kk' => by rw [h2]⟩
    | iface t v =>
      simp only [freezeK] at h ⊢
      obtain ⟨x, h1, h2⟩ := ih v _ h
      exact ⟨_, h1, fun kk' => by rw [h2]⟩
    | ptr id ver off =>
      simp only [freezeK] at h ⊢
      split at h
      · obtain ⟨h1, h⟩ := aIf_none h
        obtain ⟨xs, h2, h3, _⟩ := freezeLK_nat (f := freezeK H d) ih _ _ h
        refine ⟨_, h2, fun kk' => ?_⟩
        simp only [h1, h3]; rfl
      · cases h
    | fn f a b =>
      simp only [freezeK] at h ⊢
      obtain ⟨xs, h1, h2, _⟩ := freezeLK_nat (f := freezeK H d) ih a _ h
      obtain ⟨ys, h3, h4, _⟩ := freezeLK_nat (f := freezeK H d) ih b _ h1
      exact ⟨_, h3, fun kk' => by rw [h2, h4]⟩
    | yld => cases h
    | mp => cases h
    | _ => exact ⟨_, h, fun _ => rfl⟩

theorem freezeK_ok (hI : Inv M ι H w) : ∀ (d : Nat) {x x' : AV} {c : Value}, (∀ kk : AV → Res, freezeK H d x kk = kk x') → VR M ι x c → ∀ ι', VR (still M ι H w) ι' x' c := by
  intro d
  induction d with
  | zero => intro x x' c h; have := h encV1; cases this
  | succ d ih =>
    intro x x' c h hv ι'
    have some' : ∀ {v : AV} {d : Nat}, (∀ kk : AV → Res, freezeK H d v kk = kk x') → freezeK H d v encV1 = some (.ret x', []) := fun h => h encV1
    have keep : ∀ {y : AV}, y.closed = true → VR M ι y c → VR (still M ι H w) ι' y c := fun hy hv =>
      (hv.free hy io0).mono (fun a v ha => still_old ha) (fun _ _ _ h => by cases h)
    have freecell : ∀ {y : AV} {u : Value} (ι'' : Io), y.closed = true → VR M ι y u → VR (still M ι H w) ι'' y u := fun ι'' hy hv =>
      (hv.free hy io0).mono (fun a v ha => still_old ha) (fun _ _ _ h => by cases h)
    have list : ∀ {l : List AV} {g : List AV → AV}, (∀ kk : AV → Res, freezeLK (freezeK H d) l (fun xs => kk (g xs)) = kk x') → ∃ xs, g xs = x' ∧ xs.length = l.length ∧
        ∀ (i : Nat) (y : AV), xs[i]? = some y → ∃ y0, l[i]? = some y0 ∧ ∀ {u : Value}, VR M ι y0 u → ∀ ι', VR (still M ι H w) ι' y u := by
      intro l g hg
      obtain ⟨xs, h1, _, h3, h4⟩ := freezeLK_nat (f := freezeK H d) (freezeK_nat d) l _ (hg encV1)
      simp only [encV1, Option.some.injEq, Prod.mk.injEq, AEnd.ret.injEq, and_true] at h1
      refine ⟨xs, h1, h3, fun i y hy => ?_⟩
      have hi : i < l.length := by rw [← h3]; exact (List.getElem?_eq_some_iff.1 hy).1
      obtain ⟨y', q1, q2⟩ := h4 i l[i] (List.getElem?_eq_getElem hi)
      rw [hy] at q1; cases q1
      exact ⟨_, List.getElem?_eq_getElem hi, fun hu ι' => ih q2 hu ι'⟩
    cases x with
    | sl id ver off len sz =>
      have h0 := h encV1
      simp only [freezeK] at h0
      split at h0
      · rename_i w0 cs hH
        have hq := aIf_none h0
        clear h0
        obtain ⟨e1, h0⟩ := hq
        obtain ⟨e2, h0⟩ := aIf_none h0
        obtain ⟨e3, h0⟩ := aIf_none h0
        have hver : w0 = ver := by simpa using e1
        have hle : off + len * sz ≤ cs.length := by simpa using e2
        simp only [encV1, Option.some.injEq, Prod.mk.injEq, AEnd.ret.injEq, and_true] at h0
        subst h0
        subst hver
        obtain ⟨b, n, c0, t, h1, h2, h3, h4, h5, h6, h7⟩ := hI.obj id _ hH
        have hown : owns ι H b := ⟨id, _, n, hH, h1⟩
        cases hv with
        | sl o cap hb hlc hoff hv4 =>
        rw [h1] at hb; cases hb
        have cellv : ∀ (i : Nat) (y : AV), cs[i]? = some y → ∃ v : Value, w.cell? ⟨b, i, none⟩ = some v ∧ VR M ι y v ∧ vone v = true := by
          intro i y hy
          obtain ⟨v, q1, q2, q3⟩ := h6 i y hy
          exact ⟨v, by simp [World.cell?, h2, q1], q2, q3⟩
        have flat : ∀ (i : Nat) (y : AV), i < len * sz → cs[off + i]? = some y → y.closed = true ∧ y.one = true := by
          intro i y hi hy
          refine flatL_get _ e3 y (List.mem_of_getElem? (i := i) ?_)
          rw [List.getElem?_take_of_lt hi, List.getElem?_drop]; exact hy
        by_cases hcap : cap = 0
        · subst hcap
          obtain rfl : len = 0 := by omega
          have : chunkF sz off 0 cs = [] := by unfold chunkF; split <;> simp
          rw [this]
          exact .fsAny (xs := []) rfl b o 0 (fun _ _ => undef) (Nat.le_refl _) (fun i x hx => by simp at hx) (fun i x j y hx => by simp at hx) (fun i x j y hx => by simp at hx)
        · obtain rfl : o = off := hoff.resolve_left hcap
          -- an element, its cells
          have hlen : (chunkF sz o len cs).length = len := by
            unfold chunkF
            split
            · rename_i hs; simp at hs; subst hs; simp; omega
            · simp
          have hel : ∀ (i : Nat) (x : AV), (chunkF sz o len cs)[i]? = some x → x.cells.length = sz ∧ ∀ (j : Nat) (y : AV), x.cells[j]? = some y → j < sz ∧ cs[o + i * sz + j]? = some y ∧ i * sz + j < len * sz := by
            intro i x hx
            have hil : i < len := by rw [← hlen]; exact (List.getElem?_eq_some_iff.1 hx).1
            have hb : i * sz + sz ≤ len * sz := by
              have := Nat.mul_le_mul_right sz (show i + 1 ≤ len by omega)
              rwa [Nat.succ_mul] at this
            unfold chunkF at hx
            split at hx
            · rename_i hs
              obtain rfl : sz = 1 := by simpa using hs
              rw [List.getElem?_take_of_lt hil, List.getElem?_drop] at hx
              have hone := (flat i x (by omega) hx).2
              rw [one_cells hone]
              refine ⟨rfl, fun j y hy => ?_⟩
              cases j with
              | zero => simp at hy; subst hy; exact ⟨by omega, by simpa using hx, by omega⟩
              | succ j => simp at hy
            · simp only [List.getElem?_map, List.getElem?_range hil, Option.map_some, Option.some.injEq] at hx
              subst hx
              refine ⟨by simp [AV.cells]; omega, fun j y hy => ?_⟩
              have hj : j < sz := by
                have := (List.getElem?_eq_some_iff.1 hy).1
                simp [AV.cells] at this; omega
              simp only [AV.cells] at hy
              rw [List.getElem?_take_of_lt hj, List.getElem?_drop] at hy
              exact ⟨hj, hy, by omega⟩
          have hgoal : VR (still M ι H w) ι' (.fs sz (chunkF sz o len cs) .any) (.slice (some ⟨b, o, none⟩) (chunkF sz o len cs).length cap) := by
            refine .fsAny rfl b o cap (fun i j => (w.cell? ⟨b, o + i * sz + j, none⟩).getD undef) (by omega) (fun i x hx => (hel i x hx).1) (fun i x j y hx hy => ?_) (fun i x j y hx hy => ?_)
            · obtain ⟨q0, q1, q2⟩ := (hel i x hx).2 j y hy
              obtain ⟨v, p2, p3, p4⟩ := cellv _ y q1
              simp only [p2, Option.getD_some]
              exact ⟨still_own hI hown p2, p4⟩
            · obtain ⟨q0, q1, q2⟩ := (hel i x hx).2 j y hy
              obtain ⟨v, p2, p3, p4⟩ := cellv _ y q1
              simp only [p2, Option.getD_some]
              exact freecell io0 (flat (i * sz + j) y q2 (by rw [← Nat.add_assoc]; exact q1)).1 p3
          rw [hlen] at hgoal
          exact hgoal
      · cases h0
    | agg cs =>
      obtain ⟨xs, rfl, h1, h2⟩ := list (g := AV.agg) (l := cs) (fun kk => h kk)
      cases c <;> (try (cases hv; done))
      cases hv with
      | agg g1 g2 g3 =>
      refine .agg (by rw [h1]; exact g1) (fun i x y hx hy => ?_) g3
      obtain ⟨x0, hx0, hf0⟩ := h2 i x hx
      exact hf0 (g2 i x0 y hx0 hy) _
    | tup cs =>
      obtain ⟨xs, rfl, h1, h2⟩ := list (g := AV.tup) (l := cs) (fun kk => h kk)
      cases c <;> (try (cases hv; done))
      cases hv with
      | tup g1 g2 =>
      refine .tup (by rw [h1]; exact g1) (fun i x y hx hy => ?_)
      obtain ⟨x0, hx0, hf0⟩ := h2 i x hx
      exact hf0 (g2 i x0 y hx0 hy) _
    | iface t v =>
      obtain ⟨v', h1, h2⟩ := freezeK_nat d v _ (h encV1)
      simp only [encV1, Option.some.injEq, Prod.mk.injEq, AEnd.ret.injEq, and_true] at h1
      subst h1
      cases c <;> (try (cases hv; done))
      cases hv with
      | iface _ g => exact .iface t (ih h2 g _)
    | ptr id ver off =>
      have h0 := h encV1
      simp only [freezeK] at h0
      split at h0
      · rename_i w0 cs hH
        obtain ⟨e1, _⟩ := aIf_none h0
        have hver : w0 = ver := by simpa using e1
        obtain ⟨xs, rfl, hx1, hx2⟩ := list (g := AV.fp) (l := cs.drop off) (fun kk => by
          have := h kk
          simp only [freezeK, hH, e1] at this
          exact this)
        subst hver
        obtain ⟨b, n, c0, t, h1, h2, h3, h4, h5, h6, h7⟩ := hI.obj id _ hH
        have hown : owns ι H b := ⟨id, _, n, hH, h1⟩
        cases hv with
        | ptr _ hb =>
        rw [h1] at hb; cases hb
        have hel : ∀ (i : Nat) (x : AV), xs[i]? = some x → ∃ (v : Value), w.cell? ⟨b, off + i, none⟩ = some v ∧ vone v = true ∧ VR (still M ι H w) io0 x v := by
          intro i x hx
          obtain ⟨y, hy, hfy⟩ := hx2 i x hx
          rw [List.getElem?_drop] at hy
          obtain ⟨v, q1, q2, q3⟩ := h6 _ y hy
          exact ⟨v, by simp [World.cell?, h2, q1], q3, hfy q2 _⟩
        refine .fp none b off (fun i => (w.cell? ⟨b, off + i, none⟩).getD undef) (fun i x hx => ?_) (fun i x hx => ?_)
        · obtain ⟨v, q2, q3, q4⟩ := hel i x hx
          simp only [q2, Option.getD_some]
          exact ⟨still_own hI hown q2, q3⟩
        · obtain ⟨v, q2, q3, q4⟩ := hel i x hx
          simp only [q2, Option.getD_some]
          exact q4
      · cases h0
    | fn f a b =>
      obtain ⟨xs, h1, h2, h3, h4⟩ := freezeLK_nat (f := freezeK H d) (freezeK_nat d) a _ (h encV1)
      obtain ⟨ys, g1, g2, g3, g4⟩ := freezeLK_nat (f := freezeK H d) (freezeK_nat d) b _ h1
      simp only [encV1, Option.some.injEq, Prod.mk.injEq, AEnd.ret.injEq, and_true] at g1
      subst g1
      cases c <;> (try (cases hv; done))
      cases hv with
      | fn _ k1 k2 k3 k4 =>
      refine .fn f (by rw [h3]; exact k1) (by rw [g3]; exact k2) (fun i x y hx hy => ?_) (fun i x y hx hy => ?_)
      · have hi : i < a.length := by rw [← h3]; exact (List.getElem?_eq_some_iff.1 hx).1
        obtain ⟨x', q1, q2⟩ := h4 i a[i] (List.getElem?_eq_getElem hi)
        rw [hx] at q1; cases q1
        exact ih q2 (k3 i _ y (List.getElem?_eq_getElem hi) hy) _
      · have hi : i < b.length := by rw [← g3]; exact (List.getElem?_eq_some_iff.1 hx).1
        obtain ⟨x', q1, q2⟩ := g4 i b[i] (List.getElem?_eq_getElem hi)
        rw [hx] at q1; cases q1
        exact ih q2 (k4 i _ y (List.getElem?_eq_getElem hi) hy) _
    | yld => have := h encV1; cases this
    | mp => have := h encV1; cases this
    | _ =>
      have h0 := h encV1
      simp only [freezeK, encV1, Option.some.injEq, Prod.mk.injEq, AEnd.ret.injEq, and_true] at h0
      subst h0
      exact keep rfl hv

/-- A step in memory of its own whose rows nobody needs any more. -/
theorem Stp.frozen {M' : Mem} {ι' : Io} {H' : AH} {w' : World} (h : Stp M io0 [] w M' ι' H' w') : Stp M io0 [] w (still M' ι' H' w') io0 [] w' := by
  have hno : ∀ b, ¬ owns io0 [] b := by rintro b ⟨id, o, n, h1, _⟩; simp at h1
  refine ⟨fun _ _ _ h => h, fun a v hv => still_old (h.mem a v hv), fun a v h1 h2 => ?_, ⟨fun a v hv => still_mem h.inv hv, fun _ _ _ h => (by cases h), fun _ _ h => (by simp at h), fun _ _ _ _ _ _ _ h => (by simp at h), h.inv.glob.mono (fun _ _ h => still_old h)⟩,
    h.keep, fun b _ hb => absurd hb (hno b), h.size, h.os, h.tape, h.output⟩
  unfold still at h1
  split at h1
  · rename_i u hu
    exact h.newmem a u hu h2
  · split at h1
    · rename_i ho
      refine .inl ?_
      rcases Nat.lt_or_ge a.block w.heap.size with hlt | hge
      · exact absurd (h.own _ hlt ho) (hno _)
      · exact hge
    · cases h1

theorem plainL_mem {l : List AV} (h : AV.plainL l = true) : ∀ x ∈ l, x.plain = true := by
  induction l with
  | nil => intro x hx; cases hx
  | cons v r ih =>
    rw [AV.plainL, Bool.and_eq_true] at h
    intro x hx
    cases hx with
    | head => exact h.1
    | tail _ hx => exact ih h.2 x hx

/-- What names no memory stands in any. -/
theorem VR.still {M : Mem} {ι : Io} {x : AV} {c : Value} (h : VR M ι x c) (hc : x.plain = true) (M' : Mem) (ι' : Io) : VR M' ι' x c := by
  induction h with
  | junk c => simp [AV.plain] at hc
  | bool b => exact .bool b
  | int k n => exact .int k n
  | str s => exact .str s
  | nilp => exact .nilp
  | ptr off h => simp [AV.plain] at hc
  | fp sp b o g h1 h2 _ => simp [AV.plain] at hc
  | sl => simp [AV.plain] at hc
  | fsNil sz => exact .fsNil sz
  | fsZc sz za => exact .fsZc sz za
  | @fsAny _ sz xs fl hf b o cap g h1 h2 h3 h4 _ => rcases fl with _ | _ | _ | _ <;> cases xs <;> first | (cases hf; done) | (cases hc; done)
  | fn f h1 h2 _ _ ih1 ih2 => simp [AV.plain] at hc
  | yld => simp [AV.plain] at hc
  | nilf => exact .nilf
  | mp => simp [AV.plain] at hc
  | nilm => simp [AV.plain] at hc
  | iface t _ ih => exact .iface t (ih (by simpa [AV.plain] using hc))
  | nili => exact .nili
  | agg h1 _ h3 ih =>
    rw [AV.plain] at hc
    exact .agg h1 (fun i x y hx hy => ih i x y hx hy (plainL_mem hc x (List.mem_of_getElem? hx))) h3
  | tup h1 _ ih =>
    rw [AV.plain] at hc
    exact .tup h1 (fun i x y hx hy => ih i x y hx hy (plainL_mem hc x (List.mem_of_getElem? hx)))

/-- A call that only looks, in memory that is frozen for it alone: nothing of ours is turned by it. -/
theorem Stp.looked {M' : Mem} {ι' : Io} {w' : World} (hI : Inv M ι H w) (h : Stp (still M ι H w) io0 [] w M' ι' [] w') : Stp M ι H w M ι H w' := by
  have hno : ∀ b, ¬ owns io0 [] b := by rintro b ⟨id, o, n, h1, _⟩; simp at h1
  have hk : ∀ b, b < w.heap.size → w'.heap[b]? = w.heap[b]? := fun b hb => h.keep b hb (hno b)
  refine ⟨fun _ _ _ h => h, fun _ _ h => h, fun a v h1 h2 => (by rw [h1] at h2; cases h2), ⟨fun a v hv => ?_, hI.dom, fun id o ho => ?_, hI.inj, hI.glob⟩, fun b hb _ => hk b hb, fun _ _ h => h, h.size, h.os, h.tape, h.output⟩
  · have h1 := hI.mem a v hv
    rw [World.cell_of_block (a := a.real) (hk _ (World.block_lt_of_cell? w a.real h1))]
    exact h1
  · exact (hI.obj id o ho).mono (fun _ _ h => h) (fun _ _ _ h => h) (fun b n hb => hk b (hI.owned_lt ⟨id, o, n, ho, hb⟩)) (fun b n a hb ha hm => hm)

theorem Inv.look (hI : Inv M ι H w) : Inv (still M ι H w) io0 [] w :=
  ⟨fun a v h => still_mem hI h, fun _ _ _ h => (by cases h), fun _ _ h => (by simp at h), fun _ _ _ _ _ _ _ h => (by simp at h), hI.glob.mono (fun _ _ h => still_old h)⟩

open Classical in
/-- What lies still for a call to which rows of ours are lent: these in the shadow. -/
noncomputable def lent (M : Mem) (ι : Io) (H : AH) (w : World) : Mem := fun a => match M a with
  | some v => some v
  | none => if owns ι H a.block ∧ a.spot = some 0 then w.cell? a.real else none

theorem lent_old {a : Addr} {v : Value} (h : M a = some v) : lent M ι H w a = some v := by
  unfold lent; rw [h]

theorem lent_own (hI : Inv M ι H w) {a : Addr} {v : Value} (ho : owns ι H a.block) (hs : a.spot = some 0) (h : w.cell? a.real = some v) : lent M ι H w a = some v := by
  unfold lent
  cases hm : M a with
  | none => simp only [if_pos (And.intro ho hs), h]
  | some u =>
    have := hI.mem a u hm
    rw [h] at this
    exact this.symm

theorem lent_mem (hI : Inv M ι H w) {a : Addr} {v : Value} (h : lent M ι H w a = some v) : w.cell? a.real = some v := by
  unfold lent at h
  split at h
  · rename_i u hu
    cases h
    exact hI.mem a v hu
  · split at h
    · exact h
    · cases h

theorem lendK_nat : ∀ (d : Nat) (v : AV) (kk : AV → Res), lendK H d v kk = some r → ∃ x, kk x = some r ∧ ∀ kk', lendK H d v kk' = kk' x := by
  intro d
  induction d with
  | zero => intro v kk h; cases h
  | succ d ih =>
    intro v kk h
    cases v with
    | sl id ver off len sz =>
      simp only [lendK] at h ⊢
      split at h
      · obtain ⟨h1, h⟩ := aIf_none h
        obtain ⟨h2, h⟩ := aIf_none h
        obtain ⟨h3, h⟩ := aIf_none h
        refine ⟨_, h, fun kk' => ?_⟩
        simp only [h1, h2, h3]; rfl
      · cases h
    | agg cs =>
      simp only [lendK] at h ⊢
      obtain ⟨xs, h1, h2, _⟩ := freezeLK_nat (f := lendK H d) ih cs _ h
      exact ⟨_, h1, fun kk' => by rw [h2]⟩
    | tup cs =>
      simp only [lendK] at h ⊢
      obtain ⟨xs, h1, h2, _⟩ := freezeLK_nat (f := lendK H d) ih cs _ h
      exact ⟨_, h1, fun kk' => by rw [h2]⟩
    | iface t v => cases h
    | ptr id ver off => cases h
    | fn f a b => cases h
    | yld => cases h
    | mp => cases h
    | _ => exact ⟨_, h, fun _ => rfl⟩

theorem lendK_ok (hI : Inv M ι H w) : ∀ (d : Nat) {x x' : AV} {c : Value}, (∀ kk : AV → Res, lendK H d x kk = kk x') → VR M ι x c → ∀ ι', VR (lent M ι H w) ι' x' c := by
  intro d
  induction d with
  | zero => intro x x' c h; have := h encV1; cases this
  | succ d ih =>
    intro x x' c h hv ι'
    have keep : ∀ {y : AV}, y.closed = true → VR M ι y c → VR (lent M ι H w) ι' y c := fun hy hv =>
      (hv.free hy io0).mono (fun a v ha => lent_old ha) (fun _ _ _ h => by cases h)
    have freecell : ∀ {y : AV} {u : Value} (ι'' : Io), y.closed = true → VR M ι y u → VR (lent M ι H w) ι'' y u := fun ι'' hy hv =>
      (hv.free hy io0).mono (fun a v ha => lent_old ha) (fun _ _ _ h => by cases h)
    have list : ∀ {l : List AV} {g : List AV → AV}, (∀ kk : AV → Res, freezeLK (lendK H d) l (fun xs => kk (g xs)) = kk x') → ∃ xs, g xs = x' ∧ xs.length = l.length ∧
        ∀ (i : Nat) (y : AV), xs[i]? = some y → ∃ y0, l[i]? = some y0 ∧ ∀ {u : Value}, VR M ι y0 u → ∀ ι', VR (lent M ι H w) ι' y u := by
      intro l g hg
      obtain ⟨xs, h1, _, h3, h4⟩ := freezeLK_nat (f := lendK H d) (lendK_nat d) l _ (hg encV1)
      simp only [encV1, Option.some.injEq, Prod.mk.injEq, AEnd.ret.injEq, and_true] at h1
      refine ⟨xs, h1, h3, fun i y hy => ?_⟩
      have hi : i < l.length := by rw [← h3]; exact (List.getElem?_eq_some_iff.1 hy).1
      obtain ⟨y', q1, q2⟩ := h4 i l[i] (List.getElem?_eq_getElem hi)
      rw [hy] at q1; cases q1
      exact ⟨_, List.getElem?_eq_getElem hi, fun hu ι' => ih q2 hu ι'⟩
    cases x with
    | sl id ver off len sz =>
      have h0 := h encV1
      simp only [lendK] at h0
      split at h0
      · rename_i w0 cs hH
        have hq := aIf_none h0
        clear h0
        obtain ⟨e1, h0⟩ := hq
        obtain ⟨e2, h0⟩ := aIf_none h0
        obtain ⟨e3, h0⟩ := aIf_none h0
        have hver : w0 = ver := by simpa using e1
        have hle : off + len * sz ≤ cs.length := by simpa using e2
        simp only [encV1, Option.some.injEq, Prod.mk.injEq, AEnd.ret.injEq, and_true] at h0
        subst h0
        subst hver
        obtain ⟨b, n, c0, t, h1, h2, h3, h4, h5, h6, h7⟩ := hI.obj id _ hH
        have hown : owns ι H b := ⟨id, _, n, hH, h1⟩
        cases hv with
        | sl o cap hb hlc hoff hv4 =>
        rw [h1] at hb; cases hb
        have cellv : ∀ (i : Nat) (y : AV), cs[i]? = some y → ∃ v : Value, w.cell? ⟨b, i, none⟩ = some v ∧ VR M ι y v ∧ vone v = true := by
          intro i y hy
          obtain ⟨v, q1, q2, q3⟩ := h6 i y hy
          exact ⟨v, by simp [World.cell?, h2, q1], q2, q3⟩
        have flat : ∀ (i : Nat) (y : AV), i < len * sz → cs[off + i]? = some y → y.closed = true ∧ y.one = true := by
          intro i y hi hy
          refine flatL_get _ e3 y (List.mem_of_getElem? (i := i) ?_)
          rw [List.getElem?_take_of_lt hi, List.getElem?_drop]; exact hy
        by_cases hcap : cap = 0
        · subst hcap
          obtain rfl : len = 0 := by omega
          have : chunkF sz off 0 cs = [] := by unfold chunkF; split <;> simp
          rw [this]
          exact .fsAny (xs := []) rfl b o 0 (fun _ _ => undef) (Nat.le_refl _) (fun i x hx => by simp at hx) (fun i x j y hx => by simp at hx) (fun i x j y hx => by simp at hx)
        · obtain rfl : o = off := hoff.resolve_left hcap
          -- an element, its cells
          have hlen : (chunkF sz o len cs).length = len := by
            unfold chunkF
            split
            · rename_i hs; simp at hs; subst hs; simp; omega
            · simp
          have hel : ∀ (i : Nat) (x : AV), (chunkF sz o len cs)[i]? = some x → x.cells.length = sz ∧ ∀ (j : Nat) (y : AV), x.cells[j]? = some y → j < sz ∧ cs[o + i * sz + j]? = some y ∧ i * sz + j < len * sz := by
            intro i x hx
            have hil : i < len := by rw [← hlen]; exact (List.getElem?_eq_some_iff.1 hx).1
            have hb : i * sz + sz ≤ len * sz := by
              have := Nat.mul_le_mul_right sz (show i + 1 ≤ len by omega)
              rwa [Nat.succ_mul] at this
            unfold chunkF at hx
            split at hx
            · rename_i hs
              obtain rfl : sz = 1 := by simpa using hs
              rw [List.getElem?_take_of_lt hil, List.getElem?_drop] at hx
              have hone := (flat i x (by omega) hx).2
              rw [one_cells hone]
              refine ⟨rfl, fun j y hy => ?_⟩
              cases j with
              | zero => simp at hy; subst hy; exact ⟨by omega, by simpa using hx, by omega⟩
              | succ j => simp at hy
            · simp only [List.getElem?_map, List.getElem?_range hil, Option.map_some, Option.some.injEq] at hx
              subst hx
              refine ⟨by simp [AV.cells]; omega, fun j y hy => ?_⟩
              have hj : j < sz := by
                have := (List.getElem?_eq_some_iff.1 hy).1
                simp [AV.cells] at this; omega
              simp only [AV.cells] at hy
              rw [List.getElem?_take_of_lt hj, List.getElem?_drop] at hy
              exact ⟨hj, hy, by omega⟩
          have hgoal : VR (lent M ι H w) ι' (.fs sz (chunkF sz o len cs) .bor) (.slice (some ⟨b, o, none⟩) (chunkF sz o len cs).length cap) := by
            refine .fsAny rfl b o cap (fun i j => (w.cell? ⟨b, o + i * sz + j, none⟩).getD undef) (by omega) (fun i x hx => (hel i x hx).1) (fun i x j y hx hy => ?_) (fun i x j y hx hy => ?_)
            · obtain ⟨q0, q1, q2⟩ := (hel i x hx).2 j y hy
              obtain ⟨v, p2, p3, p4⟩ := cellv _ y q1
              simp only [p2, Option.getD_some]
              exact ⟨lent_own hI hown rfl p2, p4⟩
            · obtain ⟨q0, q1, q2⟩ := (hel i x hx).2 j y hy
              obtain ⟨v, p2, p3, p4⟩ := cellv _ y q1
              simp only [p2, Option.getD_some]
              exact freecell io0 (flat (i * sz + j) y q2 (by rw [← Nat.add_assoc]; exact q1)).1 p3
          rw [hlen] at hgoal
          exact hgoal
      · cases h0
    | agg cs =>
      obtain ⟨xs, rfl, h1, h2⟩ := list (g := AV.agg) (l := cs) (fun kk => h kk)
      cases c <;> (try (cases hv; done))
      cases hv with
      | agg g1 g2 g3 =>
      refine .agg (by rw [h1]; exact g1) (fun i x y hx hy => ?_) g3
      obtain ⟨x0, hx0, hf0⟩ := h2 i x hx
      exact hf0 (g2 i x0 y hx0 hy) _
    | tup cs =>
      obtain ⟨xs, rfl, h1, h2⟩ := list (g := AV.tup) (l := cs) (fun kk => h kk)
      cases c <;> (try (cases hv; done))
      cases hv with
      | tup g1 g2 =>
      refine .tup (by rw [h1]; exact g1) (fun i x y hx hy => ?_)
      obtain ⟨x0, hx0, hf0⟩ := h2 i x hx
      exact hf0 (g2 i x0 y hx0 hy) _
    | iface t v => have := h encV1; cases this
    | ptr id ver off => have := h encV1; cases this
    | fn f a b => have := h encV1; cases this
    | yld => have := h encV1; cases this
    | mp => have := h encV1; cases this
    | _ =>
      have h0 := h encV1
      simp only [lendK, encV1, Option.some.injEq, Prod.mk.injEq, AEnd.ret.injEq, and_true] at h0
      subst h0
      exact keep rfl hv

theorem firmL_mem {l : List AV} (h : AV.firmL l = true) : ∀ x ∈ l, x.firm = true := by
  induction l with
  | nil => intro x hx; cases hx
  | cons v r ih =>
    rw [AV.firmL, Bool.and_eq_true] at h
    intro x hx
    cases hx with
    | head => exact h.1
    | tail _ hx => exact ih h.2 x hx

theorem firmL_cells {x : AV} (h : x.firm = true) : AV.firmL x.cells = true := by
  cases x with
  | agg cs => simpa [AV.firm, AV.cells] using h
  | _ => simp only [AV.cells, AV.firmL, Bool.and_true]; exact h

/-- What names nothing lent stands without the shadow. -/
theorem VR.unlend {M : Mem} {ι : Io} {x : AV} {c : Value} (h : VR M ι x c) {M' : Mem} (hM : ∀ a v, a.spot = none → M a = some v → M' a = some v) (hc : x.firm = true) : VR M' ι x c := by
  induction h with
  | junk c => exact .junk c
  | bool b => exact .bool b
  | int k n => exact .int k n
  | str s => exact .str s
  | nilp => exact .nilp
  | ptr off h => exact .ptr off h
  | fp sp b o g h1 h2 ih => cases hc
  | sl o cap h1 h2 h3 h4 => exact .sl o cap h1 h2 h3 h4
  | fsNil sz => exact .fsNil sz
  | fsZc sz za => exact .fsZc sz za
  | @fsAny ι sz xs fl hf b o cap g h1 h2 h3 h4 ih =>
    rw [AV.firm, Bool.and_eq_true] at hc
    have hs : fl.spot = none := by cases fl <;> first | rfl | exact absurd hc.1 (by decide)
    exact .fsAny hf b o cap g h1 h2 (fun i x j y hx hy => ⟨hM _ _ hs (h3 i x j y hx hy).1, (h3 i x j y hx hy).2⟩)
      (fun i x j y hx hy => ih i x j y hx hy (firmL_mem (firmL_cells (firmL_mem hc.2 x (List.mem_of_getElem? hx))) y (List.mem_of_getElem? hy)))
  | fn f h1 h2 _ _ ih1 ih2 =>
    rw [AV.firm, Bool.and_eq_true] at hc
    exact .fn f h1 h2 (fun i x y hx hy => ih1 i x y hx hy (firmL_mem hc.1 x (List.mem_of_getElem? hx))) (fun i x y hx hy => ih2 i x y hx hy (firmL_mem hc.2 x (List.mem_of_getElem? hx)))
  | yld h => exact .yld h
  | nilf => exact .nilf
  | mp h => exact .mp h
  | nilm => exact .nilm
  | iface t _ ih => exact .iface t (ih (by simpa [AV.firm] using hc))
  | nili => exact .nili
  | agg h1 _ h3 ih =>
    rw [AV.firm] at hc
    exact .agg h1 (fun i x y hx hy => ih i x y hx hy (firmL_mem hc x (List.mem_of_getElem? hx))) h3
  | tup h1 _ ih =>
    rw [AV.firm] at hc
    exact .tup h1 (fun i x y hx hy => ih i x y hx hy (firmL_mem hc x (List.mem_of_getElem? hx)))

/-- Memory behind a call to which something was lent. -/
def backM (M M' : Mem) : Mem := fun a => match a.spot with
  | none => M' a
  | some _ => M a

/-- A call to which rows of ours are lent: none of them is turned by it. -/
theorem Stp.backed {M' : Mem} {ι' : Io} {w' : World} (hI : Inv M ι H w) (h : Stp (lent M ι H w) io0 [] w M' ι' [] w') : Stp M ι H w (backM M M') ι H w' := by
  have hno : ∀ b, ¬ owns io0 [] b := by rintro b ⟨id, o, n, h1, _⟩; simp at h1
  have hk : ∀ b, b < w.heap.size → w'.heap[b]? = w.heap[b]? := fun b hb => h.keep b hb (hno b)
  have hnone : ∀ a, a.spot = none → M a = none → lent M ι H w a = none := by
    intro a hs hm
    unfold lent
    rw [hm]
    simp only
    rw [if_neg (fun q => by rw [hs] at q; cases q.2)]
  have hmem : ∀ a v, M a = some v → backM M M' a = some v := by
    intro a v hv
    unfold backM
    split
    · exact h.mem _ _ (lent_old hv)
    · exact hv
  have hnew : ∀ a v, backM M M' a = some v → M a = none → w.heap.size ≤ a.block := by
    intro a v hv hm
    unfold backM at hv
    split at hv
    · rename_i hs
      rcases h.newmem a v hv (hnone a hs hm) with h1 | h1
      · exact h1
      · exact absurd h1 (hno _)
    · rw [hm] at hv; cases hv
  refine ⟨fun _ _ _ h => h, hmem, fun a v h1 h2 => .inl (hnew a v h1 h2), ⟨fun a v hv => ?_, hI.dom, fun id o ho => ?_, hI.inj, hI.glob.mono hmem⟩, fun b hb _ => hk b hb, fun _ _ h => h, h.size, h.os, h.tape, h.output⟩
  · unfold backM at hv
    split at hv
    · exact h.inv.mem a v hv
    · have h1 := hI.mem a v hv
      rw [World.cell_of_block (a := a.real) (hk _ (World.block_lt_of_cell? w a.real h1))]
      exact h1
  · refine (hI.obj id o ho).mono hmem (fun _ _ _ h => h) (fun b n hb => hk b (hI.owned_lt ⟨id, o, n, ho, hb⟩)) (fun b n a hb ha hm => ?_)
    cases hq : backM M M' a with
    | none => rfl
    | some v =>
      have h1 := hnew a v hq hm
      have h2 := hI.owned_lt ⟨id, o, n, ho, hb⟩
      omega

theorem Inv.lend (hI : Inv M ι H w) : Inv (lent M ι H w) io0 [] w :=
  ⟨fun a v h => lent_mem hI h, fun _ _ _ h => (by cases h), fun _ _ h => (by simp at h), fun _ _ _ _ _ _ _ h => (by simp at h), hI.glob.mono (fun _ _ h => lent_old h)⟩

end
end Go.Abs
