/- What a call has made, by value; tables of functions. -/
import Derived.Test.YtkiipegoooldiaaA14
namespace Go.Abs
open Go.RowKit

theorem mapM_some {α β : Type} {f : α → Option β} : ∀ {l : List α} {ys : List β}, l.mapM f = some ys → ys.length = l.length ∧ ∀ (i : Nat) (x : α), l[i]? = some x → ∃ y, ys[i]? = some y ∧ f x = some y
  | [], ys, h => by
    simp at h; subst h
    exact ⟨rfl, fun i x hx => by simp at hx⟩
  | a :: l, ys, h => by
    simp only [List.mapM_cons] at h
    cases ha : f a with
    | none => rw [ha] at h; cases h
    | some b =>
      rw [ha] at h
      cases hl : l.mapM f with
      | none => rw [hl] at h; cases h
      | some bs =>
        rw [hl] at h; cases h
        obtain ⟨h1, h2⟩ := mapM_some hl
        refine ⟨by simp [h1], fun i x hx => ?_⟩
        cases i with
        | zero => simp at hx; subst hx; exact ⟨b, rfl, ha⟩
        | succ i => exact h2 i x (by simpa using hx)

theorem mapM_get {α β : Type} {f : α → Option β} {l : List α} {ys : List β} (h : l.mapM f = some ys) {i : Nat} {y : β} (hy : ys[i]? = some y) : ∃ x, l[i]? = some x ∧ f x = some y := by
  obtain ⟨h1, h2⟩ := mapM_some h
  have hi : i < l.length := by rw [← h1]; exact (List.getElem?_eq_some_iff.1 hy).1
  obtain ⟨y', h3, h4⟩ := h2 i l[i] (List.getElem?_eq_getElem hi)
  rw [hy] at h3; cases h3
  exact ⟨_, List.getElem?_eq_getElem hi, h4⟩

open Classical in
/-- What lies still: what lay still before, and all rows of ours. -/
noncomputable def still (M : Mem) (ι : Io) (H : AH) (w : World) : Mem := fun a => match M a with
  | some v => some v
  | none => if owns ι H a.block then w.cell? a else none

section
variable {P : Program} {M : Mem} {ι : Io} {H : AH} {w : World} {r : Fin'}

theorem still_old {a : Addr} {v : Value} (h : M a = some v) : still M ι H w a = some v := by
  unfold still; rw [h]

theorem still_own (hI : Inv M ι H w) {a : Addr} {v : Value} (ho : owns ι H a.block) (h : w.cell? a = some v) : still M ι H w a = some v := by
  unfold still
  rw [hI.mem_owned ho, if_pos ho, h]

theorem still_mem (hI : Inv M ι H w) {a : Addr} {v : Value} (h : still M ι H w a = some v) : w.cell? a = some v := by
  unfold still at h
  split at h
  · rename_i u hu
    cases h
    exact hI.mem a v hu
  · split at h
    · exact h
    · cases h

/-- One cell of a frozen value. -/
theorem freeze_one {d : Nat} {x x' : AV} {c : Value} {M' : Mem} {ι' : Io} (hf : freezeV H d x = some x') (hv : VR M' ι' x c) (ho : vone c = true) : x'.cells = [x'] := by
  cases d with
  | zero => cases hf
  | succ d =>
    cases x with
    | agg cs => cases hv; simp [vone] at ho
    | tup cs => cases hv; simp [vone] at ho
    | sl =>
      simp only [freezeV] at hf
      repeat' (split at hf)
      all_goals (try (cases hf; done))
      all_goals (cases hf; rfl)
    | iface t v =>
      simp only [freezeV] at hf
      split at hf
      · cases hf; rfl
      · cases hf
    | ptr => cases hf
    | yld => cases hf
    | fn => cases hf
    | _ => cases hf; rfl

theorem freezeV_ok (hI : Inv M ι H w) : ∀ (d : Nat) {x x' : AV} {c : Value}, freezeV H d x = some x' → VR M ι x c → ∀ ι', VR (still M ι H w) ι' x' c := by
  intro d
  induction d with
  | zero => intro x x' c h; cases h
  | succ d ih =>
    intro x x' c h hv ι'
    have keep : ∀ {y : AV}, y.closed = true → VR M ι y c → VR (still M ι H w) ι' y c := fun hy hv =>
      (hv.free hy io0).mono (fun a v ha => still_old ha) (fun _ _ _ h => by cases h)
    cases x with
    | sl id ver off len sz =>
      simp only [freezeV] at h
      split at h
      · rename_i w0 cs hH
        split at h
        · rename_i hc
          simp only [Bool.and_eq_true, beq_iff_eq, decide_eq_true_eq] at hc
          obtain ⟨rfl, hle⟩ := hc
          obtain ⟨b, n, c0, t, h1, h2, h3, h4, h5, h6, h7⟩ := hI.obj id _ hH
          have hown : owns ι H b := ⟨id, _, n, hH, h1⟩
          cases hv with
          | sl o cap hb hlc hoff hver =>
          rw [h1] at hb; cases hb
          -- a cell of the row
          have cellv : ∀ (i : Nat) (y : AV), cs[i]? = some y → ∃ v : Value, w.cell? ⟨b, i, none⟩ = some v ∧ VR M ι y v ∧ vone v = true := by
            intro i y hy
            obtain ⟨v, q1, q2, q3⟩ := h6 i y hy
            refine ⟨v, ?_, q2, q3⟩
            simp [World.cell?, h2, q1]
          by_cases hcap : cap = 0
          · subst hcap
            obtain rfl : len = 0 := by omega
            have : x' = .fs sz [] .any := by
              split at h
              · simp at h
                exact h.symm
              · simp at h
                exact h.symm
            subst this
            exact .fsAny b o 0 (fun _ _ => undef) (Nat.le_refl _) (fun i x hx => by simp at hx) (fun i x j y hx => by simp at hx) (fun i x j y hx => by simp at hx)
          · obtain rfl : o = off := hoff.resolve_left hcap
            split at h
            · -- one cell an element
              rename_i hsz
              obtain rfl : sz = 1 := by simpa using hsz
              split at h
              · rename_i xs hxs
                cases h
                obtain ⟨hl, hg⟩ := mapM_some hxs
                have hlen : xs.length = len := by rw [hl]; simp; omega
                have hel : ∀ (i : Nat) (x : AV), xs[i]? = some x → ∃ (y : AV) (v : Value), freezeV H d y = some x ∧ w.cell? ⟨b, o + i, none⟩ = some v ∧ VR M ι y v ∧ vone v = true := by
                  intro i x hx
                  obtain ⟨y, hy, hfy⟩ := mapM_get hxs hx
                  have hil : i < len := by rw [← hlen]; exact (List.getElem?_eq_some_iff.1 hx).1
                  rw [List.getElem?_take_of_lt hil, List.getElem?_drop] at hy
                  obtain ⟨v, q1, q2, q3⟩ := cellv _ y hy
                  exact ⟨y, v, hfy, q1, q2, q3⟩
                have hone : ∀ (i : Nat) (x : AV), xs[i]? = some x → x.cells = [x] := by
                  intro i x hx
                  obtain ⟨y, v, q1, q2, q3, q4⟩ := hel i x hx
                  exact freeze_one q1 q3 q4
                rw [← hlen]
                refine .fsAny b o cap (fun i _ => (w.cell? ⟨b, o + i, none⟩).getD undef) (by omega) (fun i x hx => by rw [hone i x hx]; rfl) (fun i x j y hx hy => ?_) (fun i x j y hx hy => ?_)
                · rw [hone i x hx] at hy
                  obtain ⟨y0, v, q1, q2, q3, q4⟩ := hel i x hx
                  obtain rfl : j = 0 := by
                    have := (List.getElem?_eq_some_iff.1 hy).1
                    simp at this; exact this
                  simp only [Nat.mul_one, Nat.add_zero, q2, Option.getD_some]
                  exact ⟨still_own hI hown q2, q4⟩
                · rw [hone i x hx] at hy
                  obtain ⟨y0, v, q1, q2, q3, q4⟩ := hel i x hx
                  obtain rfl : j = 0 := by
                    have := (List.getElem?_eq_some_iff.1 hy).1
                    simp at this; exact this
                  simp at hy; subst hy
                  simp only [q2, Option.getD_some]
                  exact ih q1 q3 _
              · cases h
            · split at h
              · rename_i xs hxs
                cases h
                obtain ⟨hl, hg⟩ := mapM_some hxs
                have hlen : xs.length = len := by rw [hl]; simp
                have hel : ∀ (i : Nat) (x : AV), xs[i]? = some x → ∃ ys, x = .agg ys ∧ ys.length = sz ∧ ∀ (j : Nat) (y : AV), ys[j]? = some y → ∃ (y0 : AV) (v : Value), freezeV H (d - 1) y0 = some y ∧ w.cell? ⟨b, o + i * sz + j, none⟩ = some v ∧ VR M ι y0 v ∧ vone v = true := by
                  intro i x hx
                  obtain ⟨y, hy, hfy⟩ := mapM_get hxs hx
                  have hil : i < len := by rw [← hlen]; exact (List.getElem?_eq_some_iff.1 hx).1
                  simp only [List.getElem?_map, List.getElem?_range hil, Option.map_some, Option.some.injEq] at hy
                  subst hy
                  cases d with
                  | zero => cases hfy
                  | succ d =>
                    simp only [freezeV] at hfy
                    split at hfy
                    · rename_i ys hys
                      cases hfy
                      obtain ⟨l1, l2⟩ := mapM_some hys
                      have hb : i * sz + sz ≤ len * sz := by
                        have := Nat.mul_le_mul_right sz (show i + 1 ≤ len by omega)
                        rwa [Nat.succ_mul] at this
                      refine ⟨ys, rfl, ?_, fun j y hj => ?_⟩
                      · rw [l1]; simp; omega
                      · obtain ⟨y0, hy0, hfy0⟩ := mapM_get hys hj
                        have hjl : j < sz := by
                          have := (List.getElem?_eq_some_iff.1 hy0).1
                          simp at this; omega
                        rw [List.getElem?_take_of_lt hjl, List.getElem?_drop] at hy0
                        obtain ⟨v, q1, q2, q3⟩ := cellv _ y0 hy0
                        exact ⟨y0, v, hfy0, q1, q2, q3⟩
                    · cases hfy
                rw [← hlen]
                refine .fsAny b o cap (fun i j => (w.cell? ⟨b, o + i * sz + j, none⟩).getD undef) (by omega) (fun i x hx => ?_) (fun i x j y hx hy => ?_) (fun i x j y hx hy => ?_)
                · obtain ⟨ys, rfl, q1, _⟩ := hel i x hx
                  exact q1
                · obtain ⟨ys, rfl, q1, q2⟩ := hel i x hx
                  obtain ⟨y0, v, p1, p2, p3, p4⟩ := q2 j y hy
                  simp only [p2, Option.getD_some]
                  exact ⟨still_own hI hown p2, p4⟩
                · obtain ⟨ys, rfl, q1, q2⟩ := hel i x hx
                  obtain ⟨y0, v, p1, p2, p3, p4⟩ := q2 j y hy
                  simp only [p2, Option.getD_some]
                  cases d with
                  | zero => cases p1
                  | succ d =>
                    have hmore : ∀ (e : Nat) {a a' : AV}, freezeV H e a = some a' → freezeV H (e + 1) a = some a' := by
                      intro e
                      induction e with
                      | zero => intro a a' h; cases h
                      | succ e ihe =>
                        intro a a' h
                        have hall : ∀ (l : List AV) {ys : List AV}, l.mapM (freezeV H e) = some ys → l.mapM (freezeV H (e + 1)) = some ys := by
                          intro l
                          induction l with
                          | nil => intro ys h; simpa using h
                          | cons a l ihl =>
                            intro ys h
                            simp only [List.mapM_cons] at h ⊢
                            cases ha : freezeV H e a with
                            | none => rw [ha] at h; cases h
                            | some a' =>
                              rw [ha] at h
                              cases hl : l.mapM (freezeV H e) with
                              | none => rw [hl] at h; cases h
                              | some l' =>
                                rw [hl] at h
                                rw [ihe ha, ihl hl]
                                exact h
                        cases a with
                        | sl id ver off len sz =>
                          simp only [freezeV] at h
                          split at h
                          · rename_i w1 cs1 hH1
                            split at h
                            · rename_i hc1
                              split at h
                              · rename_i hz
                                split at h
                                · rename_i xs1 hx1
                                  cases h
                                  show freezeV H (e + 1 + 1) _ = _
                                  rw [freezeV]
                                  simp only [hH1, hc1, hz, hall _ hx1]
                                · cases h
                              · rename_i hz
                                split at h
                                · rename_i xs1 hx1
                                  cases h
                                  rw [freezeV]
                                  simp only [hH1, hc1, hz, hall _ hx1]
                                · cases h
                            · cases h
                          · cases h
                        | agg cs1 =>
                          simp only [freezeV] at h
                          split at h
                          · rename_i xs1 hx1
                            cases h
                            rw [freezeV]
                            simp only [hall _ hx1]
                          · cases h
                        | tup cs1 =>
                          simp only [freezeV] at h
                          split at h
                          · rename_i xs1 hx1
                            cases h
                            rw [freezeV]
                            simp only [hall _ hx1]
                          · cases h
                        | iface t v =>
                          simp only [freezeV] at h
                          split at h
                          · rename_i x1 hx1
                            cases h
                            rw [freezeV]
                            simp only [ihe hx1]
                          · cases h
                        | ptr => cases h
                        | yld => cases h
                        | fn => cases h
                        | _ => cases h; rfl
                    exact ih (hmore _ p1) p3 _
              · cases h
        · cases h
      · cases h
    | agg cs =>
      simp only [freezeV] at h
      split at h
      · rename_i xs hxs
        cases h
        cases c <;> (try (cases hv; done))
        rename_i ys
        cases hv with
        | agg g1 g2 g3 =>
        refine .agg (by rw [(mapM_some hxs).1]; exact g1) (fun i x y hx hy => ?_) g3
        obtain ⟨x0, hx0, hf0⟩ := mapM_get hxs hx
        exact ih hf0 (g2 i x0 y hx0 hy) _
      · cases h
    | tup cs =>
      simp only [freezeV] at h
      split at h
      · rename_i xs hxs
        cases h
        cases c <;> (try (cases hv; done))
        rename_i ys
        cases hv with
        | tup g1 g2 =>
        refine .tup (by rw [(mapM_some hxs).1]; exact g1) (fun i x y hx hy => ?_)
        obtain ⟨x0, hx0, hf0⟩ := mapM_get hxs hx
        exact ih hf0 (g2 i x0 y hx0 hy) _
      · cases h
    | iface t v =>
      simp only [freezeV] at h
      split at h
      · rename_i v' hv'
        cases h
        cases c <;> (try (cases hv; done))
        cases hv with
        | iface _ g => exact .iface t (ih hv' g _)
      · cases h
    | ptr => cases h
    | yld => cases h
    | fn => cases h
    | _ => cases h; exact keep rfl hv

/-- A step in memory of its own whose rows nobody needs any more. -/
theorem Stp.frozen {M' : Mem} {ι' : Io} {H' : AH} {w' : World} (h : Stp M io0 [] w M' ι' H' w') : Stp M io0 [] w (still M' ι' H' w') io0 [] w' := by
  have hno : ∀ b, ¬ owns io0 [] b := by rintro b ⟨id, o, n, h1, _⟩; simp at h1
  refine ⟨fun _ _ _ h => h, fun a v hv => still_old (h.mem a v hv), fun a v h1 h2 => ?_, ⟨fun a v hv => still_mem h.inv hv, fun _ _ _ h => (by cases h), fun _ _ h => (by simp at h), fun _ _ _ _ _ _ _ h => (by simp at h)⟩,
    h.keep, fun b _ hb => absurd hb (hno b), h.size, h.os, h.tape, h.output⟩
  unfold still at h1
  split at h1
  · rename_i u hu
    exact h.newmem a u hu h2
  · split at h1
    · rename_i ho
      refine .inl ?_
      rcases Nat.lt_or_ge a.block w.heap.size with hlt | hge
      · exact absurd (h.own _ hlt ho) (hno _)
      · exact hge
    · cases h1

end

structure SpecOK (P : Program) (f : FuncId) (S : FSpec) : Prop where
  ok : ∀ args H k r, S args H k = some r → CallOK P f args H k r
  nat : ∀ args H k r, S args H k = some r → ∃ e H', k e H' = some r ∧ ∀ k', S args H k' = k' e H'


theorem inlineK_ok {P : Program} {C : Ctx} (hC : CtxOK P C) {f : FuncId} {fn : Func} (hf : P.funcs[f]? = some fn) (hL : ∀ c, fn.body = some c → LoopsOK C c) : SpecOK P f (inlineK C fn) := by
  refine ⟨fun args H k r h => ?_, fun args H k r h => ?_⟩
  rotate_left
  · unfold inlineK at h ⊢
    split at h
    · obtain ⟨e, H1, h1, h2⟩ := aBodyK_nat hC.nat hC.rnat hL h
      try simp only at h1
      split at h1
      · rename_i e' he'
        exact ⟨e', [], h1, fun k' => by rw [h2]; simp only [he']⟩
      · cases h1
    · exact aBodyK_nat hC.nat hC.rnat hL h
  unfold inlineK at h
  split at h
  · intro M ι w cargs hI ha
    have hI0 : Inv M io0 [] w := hI.alone
    -- rows: none
    have hia : ∀ i v p, ι i v = some p → io0 i v = some p := fun i v p hp => by
      obtain ⟨o, ho, _⟩ := hI.dom i v p hp
      simp at ho
    have ha0 : VRs M io0 args cargs := ha.mono (fun _ _ h => h) hia
    refine CallsIn.mono (aBodyK_ok hC hf hL h M io0 w cargs hI0 ha0) ?_
    rintro en w' ⟨e, H1, M', ι', hk, hs, he⟩
    split at hk
    · rename_i e' hfe
      have hs0 : Stp M ι [] w (still M' ι' H1 w') ι [] w' := by
        have := hs.frozen.embed hI
        exact this
      refine ⟨e', [], still M' ι' H1 w', ι, hk, hs0, ?_⟩
      cases e with
      | ret v =>
        simp only [freezeE] at hfe
        split at hfe
        · rename_i v' hv'
          cases hfe
          cases en with
          | returned c => exact freezeV_ok hs.inv 8 hv' he ι
          | _ => exact he.elim
        · cases hfe
      | pan v =>
        simp only [freezeE] at hfe
        split at hfe
        · rename_i v' hv'
          cases hfe
          cases en with
          | panicked chain =>
            obtain ⟨c, hc, hv⟩ := he
            exact ⟨c, hc, freezeV_ok hs.inv 8 hv' hv ι⟩
          | _ => exact he.elim
        · cases hfe
    · cases hk
  · exact aBodyK_ok hC hf hL h

/-- Another way to say what a function does. -/
theorem SpecOK.turn {P : Program} {f : FuncId} {B S : FSpec} (h : SpecOK P f B) (hs : ∀ args H, (∀ k, S args H k = none) ∨ ∀ k, S args H k = B args H k) : SpecOK P f S := by
  refine ⟨fun args H k r hr => ?_, fun args H k r hr => ?_⟩
  · rcases hs args H with h1 | h1
    · rw [h1] at hr; cases hr
    · rw [h1] at hr; exact h.ok args H k r hr
  · rcases hs args H with h1 | h1
    · rw [h1] at hr; cases hr
    · rw [h1] at hr
      obtain ⟨e, H', h2, h3⟩ := h.nat args H k r hr
      exact ⟨e, H', h2, fun k' => by rw [h1]; exact h3 k'⟩

/-- One of two, as the arguments say. -/
def eitherK (c : List AV → Bool) (S1 S2 : FSpec) : FSpec := fun args H k => aIf (c args) (S1 args H k) (S2 args H k)
theorem SpecOK.either {P : Program} {f : FuncId} {S1 S2 : FSpec} (c : List AV → Bool) (h1 : SpecOK P f S1) (h2 : SpecOK P f S2) : SpecOK P f (eitherK c S1 S2) := by
  refine ⟨fun args H k r hr => ?_, fun args H k r hr => ?_⟩
  · rcases aIf_some hr with ⟨_, hr⟩ | ⟨_, hr⟩
    · exact h1.ok args H k r hr
    · exact h2.ok args H k r hr
  · unfold eitherK at hr ⊢
    cases hc : c args with
    | true =>
      rw [hc] at hr
      exact h1.nat args H k r hr
    | false =>
      rw [hc] at hr
      exact h2.nat args H k r hr

theorem aIf_ite (b : Bool) (x y : Res) : aIf b x y = if b = true then x else y := by cases b <;> rfl
theorem aIf_pos {b : Bool} {x y : Res} (h : b = true) : aIf b x y = x := by rw [h]; rfl
theorem aIf_neg {b : Bool} {x y : Res} (h : b = false) : aIf b x y = y := by rw [h]; rfl

theorem constK_ok {P : Program} {f : FuncId} {S : FSpec} {v : AV} (h : SpecOK P f S) (he : ∀ k, S [] [] k = k (.ret v) []) : SpecOK P f (constK v) := by
  refine ⟨fun args H k r hr => ?_, fun args H k r hr => ?_⟩
  · unfold constK at hr
    split at hr
    · exact h.ok [] [] k r (by rw [he]; exact hr)
    · cases hr
  · unfold constK at hr ⊢
    split at hr
    · exact ⟨_, _, hr, fun _ => rfl⟩
    · cases hr

def TabOK (P : Program) (T : List (FuncId × FSpec)) : Prop := ∀ p ∈ T, Enters P p.1 ∧ SpecOK P p.1 p.2

theorem TabOK.nil (P : Program) : TabOK P [] := fun p hp => by cases hp
theorem TabOK.cons {P : Program} {T : List (FuncId × FSpec)} {f : FuncId} {S : FSpec} (h1 : Enters P f) (h2 : SpecOK P f S) (h : TabOK P T) : TabOK P ((f, S) :: T) := by
  intro p hp
  rcases List.mem_cons.1 hp with rfl | hp
  · exact ⟨h1, h2⟩
  · exact h p hp

theorem TabOK.get {P : Program} {f : FuncId} {S : FSpec} : ∀ (T : List (FuncId × FSpec)), TabOK P T → tabGet T f = some S → Enters P f ∧ SpecOK P f S
  | [], _, h => by cases h
  | (g, S') :: T, hT, h => by
    simp only [tabGet] at h
    split at h
    · rename_i hg
      cases h
      have hg : g = f := by simpa using hg
      subst hg
      exact hT _ (List.mem_cons_self ..)
    · exact TabOK.get T (fun p hp => hT p (List.mem_cons_of_mem _ hp)) h

theorem ctx_ok {P : Program} {E : Env} {T : List (FuncId × FSpec)} {loops : List (Nat × (ATs → AH → KC → Res))} {keep : List (Nat × List Nat)} {live : List Nat} {nt fuel : Nat} (hE : EnvOK P E) (hF : FieldsOK E) (hm : P.follows .mixedOrders = true) (hT : TabOK P T) :
    CtxOK P (ctx E T loops keep live nt fuel) := by
  refine ⟨hE, hF, hm, fun f args H k r h => ?_, fun l args H k r h => (by cases h), fun f args H k => ?_, fun l args H k => rfl⟩
  · change (match tabGet T f with | some S => S args H k | none => none) = some r at h
    split at h
    · rename_i S hS
      obtain ⟨q1, q2⟩ := hT.get T hS
      exact ⟨q1, q2.ok _ _ _ _ h⟩
    · cases h
  · change (match tabGet T f with | some S => S args H k | none => none) = decE (match tabGet T f with | some S => S args H encE | none => none) k
    cases hS : tabGet T f with
    | none => rfl
    | some S =>
      simp only
      obtain ⟨_, q2⟩ := hT.get T hS
      cases hx : S args H k with
      | some r =>
        obtain ⟨e, H', h1, h2⟩ := q2.nat args H k r hx
        rw [h2 encE]
        simp only [encE, decE]
        exact h1.symm
      | none =>
        cases hy : S args H encE with
        | none => rfl
        | some p =>
          obtain ⟨e, H', h1, h2⟩ := q2.nat args H encE p hy
          simp only [encE, Option.some.injEq] at h1
          subst h1
          simp only [decE]
          rw [← h2 k, hx]

theorem LoopsOK.none {E : Env} {T : List (FuncId × FSpec)} {keep : List (Nat × List Nat)} {live : List Nat} {nt fuel : Nat} (c : Code) : LoopsOK (ctx E T [] keep live nt fuel) c := fun _ _ _ h => by cases h

end Go.Abs
