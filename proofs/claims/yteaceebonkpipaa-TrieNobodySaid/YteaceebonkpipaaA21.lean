/- A call that reads rows of ours: they are frozen for it, and are dead behind it. -/
import Derived.Test.YteaceebonkpipaaA15
namespace Go.Abs

noncomputable def deadH (H : AH) : AH := H.map fun o => .dead o.ver
noncomputable def shareK (S : FSpec) : FSpec := fun args H k => freezeLK (freezeK H 8) args fun xs => match AV.closedL xs with
  | true => S xs [] fun e H1 => match H1 with
    | [] => match e with
      | .ret v => match v.closed with
        | true => k (.ret v) (deadH H)
        | false => none
      | .pan v => match v.closed with
        | true => k (.pan v) (deadH H)
        | false => none
    | _ => none
  | false => none

section
variable {M : Mem} {ι : Io} {H : AH} {w : World} {r : Fin'}
theorem deadH_get {i : Nat} {o : AO} (h : (deadH H)[i]? = some o) : ∃ p, H[i]? = some p ∧ o = .dead p.ver := by
  unfold deadH at h
  rw [List.getElem?_map] at h
  cases hp : H[i]? with
  | none => rw [hp] at h; cases h
  | some p => rw [hp] at h; exact ⟨p, rfl, (Option.some.inj h).symm⟩
theorem deadH_of {i : Nat} {p : AO} (h : H[i]? = some p) : (deadH H)[i]? = some (.dead p.ver) := by
  unfold deadH
  rw [List.getElem?_map, h]; rfl
theorem Stp.kill (hI : Inv M ι H w) : Stp M ι H w (still M ι H w) ι (deadH H) w := by
  refine ⟨fun _ _ _ h => h, fun a v h => still_old h, fun a v h hn => ?_, ⟨fun a v h => still_mem hI h, fun id v p hp => ?_, fun id o ho => ?_, fun i j o p b n n' hi hj hb hc => ?_, hI.glob.mono (fun _ _ h => still_old h)⟩, fun _ _ _ => rfl, fun b _ ho => ?_, Nat.le_refl _, rfl, rfl, rfl⟩
  · unfold still at h
    rw [hn] at h
    by_cases ho : owns ι H a.block
    · exact .inr ho
    · simp only [if_neg ho] at h; cases h
  · obtain ⟨o, h1, h2⟩ := hI.dom id v p hp
    exact ⟨_, deadH_of h1, h2⟩
  · obtain ⟨p, h1, rfl⟩ := deadH_get ho
    have hO := hI.obj id p h1
    cases p with
    | cells ver cs =>
      obtain ⟨b, n, c, t, h1, h2, _⟩ := hO
      exact ⟨b, n, _, h1, h2, fun d h => by cases h⟩
    | iter s pos =>
      obtain ⟨b, n, h1, h2⟩ := hO
      exact ⟨b, n, _, h1, h2, fun d h => by cases h⟩
    | loop st pend nt ts key =>
      obtain ⟨b, n, fn, tmps, db, _, _, _, h1, h2, _⟩ := hO
      exact ⟨b, n, _, h1, h2, fun d h => by cases h⟩
    | dead ver => exact hO
    | mp es =>
      obtain ⟨b, n, ents, clock, h1, h2, _⟩ := hO
      exact ⟨b, n, _, h1, h2, fun d h => by cases h⟩
  · obtain ⟨q, q1, rfl⟩ := deadH_get hi
    obtain ⟨q', q2, rfl⟩ := deadH_get hj
    exact hI.inj i j q q' b n n' q1 q2 hb hc
  · obtain ⟨id, o, n, h1, h2⟩ := ho
    obtain ⟨q, q1, rfl⟩ := deadH_get h1
    exact ⟨id, q, n, q1, h2⟩
end

theorem SpecOK.share {P : Program} {f : FuncId} {S : FSpec} (hS : SpecOK P f S) : SpecOK P f (shareK S) := by
  refine ⟨fun args H k r h => ?_, fun args H k r h => ?_⟩
  · intro M ι w cargs hI hargs
    obtain ⟨xs, h1, _, h3, h4⟩ := freezeLK_nat (f := freezeK H 8) (freezeK_nat 8) args _ h
    split at h1
    · rename_i hcl
      have hs1 := Stp.kill hI
      have hall : VRs (still M ι H w) ι xs cargs := by
        refine ⟨by rw [h3]; exact hargs.1, fun i x y hx hy => ?_⟩
        have hi : i < args.length := by rw [← h3]; exact (List.getElem?_eq_some_iff.1 hx).1
        obtain ⟨x', q1, q2⟩ := h4 i _ (List.getElem?_eq_getElem hi)
        rw [hx] at q1; cases q1
        exact freezeK_ok hI 8 q2 (hargs.2 i _ y (List.getElem?_eq_getElem hi) hy) ι
      refine CallsIn.mono (hS.ok _ _ _ _ h1 (still M ι H w) io0 w cargs hs1.inv.alone (hall.free hcl _)) ?_
      rintro en w' ⟨e, H1, M', ι', hk, hs, he⟩
      split at hk
      · have hs' := hs1.trans (hs.embed hs1.inv)
        cases e with
        | ret v =>
          simp only at hk
          split at hk
          · rename_i hvc
            cases en with
            | returned cv => exact ⟨.ret v, deadH H, M', ι, hk, hs', VR.free he hvc ι⟩
            | _ => exact he.elim
          · cases hk
        | pan v =>
          simp only at hk
          split at hk
          · rename_i hvc
            cases en with
            | panicked chain =>
              obtain ⟨cv, rfl, hc⟩ := he
              exact ⟨.pan v, deadH H, M', ι, hk, hs', cv, rfl, VR.free hc hvc ι⟩
            | _ => exact he.elim
          · cases hk
      · cases hk
    · cases h1
  · obtain ⟨xs, h1, h2, _⟩ := freezeLK_nat (f := freezeK H 8) (freezeK_nat 8) args _ h
    unfold shareK
    split at h1
    · rename_i hcl
      obtain ⟨e, H1, h5, h6⟩ := hS.nat _ _ _ _ h1
      split at h5
      · cases e with
        | ret v =>
          simp only at h5
          split at h5
          · rename_i hvc
            exact ⟨_, _, h5, fun k' => by rw [h2]; simp only [hcl, h6, hvc]⟩
          · cases h5
        | pan v =>
          simp only at h5
          split at h5
          · rename_i hvc
            exact ⟨_, _, h5, fun k' => by rw [h2]; simp only [hcl, h6, hvc]⟩
          · cases h5
      · cases h5
    · cases h1

/-- A nil slice serves for any kind of element. -/
noncomputable def nilK (n : Nat) (S : FSpec) : FSpec := fun args H k => match args with
  | [.fs 0 [] .nil] => S [.fs n [] .nil] H k
  | args => S args H k
theorem SpecOK.nil {P : Program} {f : FuncId} {S : FSpec} (n : Nat) (hS : SpecOK P f S) : SpecOK P f (nilK n S) := by
  refine ⟨fun args H k r h => ?_, fun args H k r h => ?_⟩
  · unfold nilK at h
    split at h
    · intro M ι w cargs hI hargs
      refine hS.ok _ _ _ _ h M ι w cargs hI ⟨hargs.1, fun i x y hx hy => ?_⟩
      cases i with
      | zero =>
        simp only [List.getElem?_cons_zero, Option.some.injEq] at hx
        subst hx
        have h0 := hargs.2 0 _ y rfl hy
        cases h0 with
        | fsNil => exact .fsNil n
        | fsAny hf => cases hf
      | succ i => simp at hx
    · exact hS.ok _ _ _ _ h
  · unfold nilK at h ⊢
    split at h
    · exact hS.nat _ _ _ _ h
    · exact hS.nat _ _ _ _ h

end Go.Abs
