/- Functions with a deferred call that recovers, third part: one answer. -/
import Derived.Test.YtkbnhliogfcplaaA23
namespace Go.Abs
open Go.RowKit

theorem aDBodyK_nat {C : Ctx} (hn : CallNat C) (hr : RoundNat C) {fn : Func} (hL : ∀ a c, fn.body = some (.seq a c) → LoopsOK C c) {rv : Option AV} {args : List AV} {H : AH} {k : KE} {r : Fin'} (h : aDBodyK C fn rv args H k = some r) :
    ∃ e H', k e H' = some r ∧ ∀ k', aDBodyK C fn rv args H k' = k' e H' := by
  unfold aDBodyK at h ⊢
  split at h
  · rename_i id ops c hb
    try simp only [hb]
    split at h
    · rename_i o1 o2 hops
      try simp only [hops]
      split at h
      · rename_i d hd
        try simp only [hd]
        rw [hd] at h
        split at h
        · cases h
        · rename_i hg
          try simp only [hg]
          obtain ⟨ex, ts1, H1, h1, h2⟩ := aCodeK_nat hn hr c (hL _ c hb) _ _ _ r h
          cases ex with
          | normal =>
            obtain ⟨vs, h3, h4⟩ := resultsK_nat _ h1
            exact ⟨_, _, h3, fun k' => by rw [h2]; exact h4 _⟩
          | ret =>
            obtain ⟨vs, h3, h4⟩ := resultsK_nat _ h1
            exact ⟨_, _, h3, fun k' => by rw [h2]; exact h4 _⟩
          | pan v => exact ⟨_, _, h1, fun k' => by rw [h2]⟩
          | exit i => cases h1
      · cases h
    · cases h
  · cases h

theorem aRangeK_nat {C : Ctx} (hn : CallNat C) (hr : RoundNat C) (i : Nat) : ∀ (c : Code) (_ : LoopsOK C c) (ts : ATs) (H : AH), NatC (aRangeK C i c ts H) := by
  intro c
  induction c with
  | seq x y ihx ihy =>
    intro hL ts H k r h
    simp only [aRangeK] at h ⊢
    obtain ⟨ex, ts1, H1, h1, h2⟩ := ihx (hL.mem (fun b hb => by simp [loopsOf, hb]) (fun b hb => by simp [rangesOf, hb])) ts H _ r h
    cases ex with
    | normal =>
      obtain ⟨ex2, ts2, H2, h3, h4⟩ := ihy (hL.mem (fun b hb => by simp [loopsOf, hb]) (fun b hb => by simp [rangesOf, hb])) ts1 H1 _ r h1
      exact ⟨ex2, ts2, H2, h3, fun k' => by rw [h2]; exact h4 k'⟩
    | exit j => exact ⟨.exit j, ts1, H1, h1, fun k' => by rw [h2]⟩
    | ret => exact ⟨.ret, ts1, H1, h1, fun k' => by rw [h2]⟩
    | pan v => exact ⟨.pan v, ts1, H1, h1, fun k' => by rw [h2]⟩
  | block id b ih =>
    intro hL ts H k r h
    simp only [aRangeK] at h ⊢
    obtain ⟨ex, ts1, H1, h1, h2⟩ := ih (hL.mem (fun b hb => by simpa [loopsOf] using hb) (fun b hb => by simpa [rangesOf] using hb)) ts H _ r h
    cases ex with
    | normal => exact ⟨.normal, ts1, H1, h1, fun k' => by rw [h2]⟩
    | exit j =>
      simp only at h1
      split at h1
      · rename_i hj; exact ⟨.normal, ts1, H1, h1, fun k' => by rw [h2]; simp only [hj]⟩
      · rename_i hj; exact ⟨.exit j, ts1, H1, h1, fun k' => by rw [h2]; simp only [hj]⟩
    | ret => exact ⟨.ret, ts1, H1, h1, fun k' => by rw [h2]⟩
    | pan v => exact ⟨.pan v, ts1, H1, h1, fun k' => by rw [h2]⟩
  | rangeFunc g ps asg bd _ _ =>
    intro hL ts H k r h
    simp only [aRangeK] at h ⊢
    split at h
    · exact rangeAt_nat hn ts H k r h
    · cases h
  | _ =>
    intro hL ts H k r h
    simp only [aRangeK] at h ⊢
    exact aCodeK_nat hn hr _ hL ts H k r h

theorem aDeferK_nat {C : Ctx} {i : Nat} {D : FuncId → Option DSpec} (hn : CallNat C) (hr : RoundNat C) (hD : ∀ g S, D g = some S → ∀ rv args H k r, S rv args H k = some r → ∃ e H', k e H' = some r ∧ ∀ k', S rv args H k' = k' e H')
    {fn : Func} (hL : ∀ a b c, fn.body = some (.seq a (.seq b c)) → LoopsOK C c) {args : List AV} {H : AH} {k : KE} {r : Fin'} (h : aDeferK C i D fn args H k = some r) :
    ∃ e H', k e H' = some r ∧ ∀ k', aDeferK C i D fn args H k' = k' e H' := by
  unfold aDeferK at h ⊢
  split at h
  · rename_i i0 ops0 d0 i1 ops c hb
    try simp only [hb]
    split at h
    · rename_i o hops
      try simp only [hops]
      split at h
      · rename_i g xs hdo
        try simp only [hdo]
        split at h
        · rename_i S hS
          try simp only [hS]
          split at h
          · cases h
          · rename_i hg
            try simp only [hg]
            obtain ⟨ex, ts1, H1, h1, h2⟩ := aCodeK_nat hn hr _ LoopsOK.region _ _ _ r h
            cases ex with
            | normal =>
              obtain ⟨ex2, ts2, H2, h3, h4⟩ := aRangeK_nat hn hr i c (hL _ _ c hb) _ _ _ r h1
              have fin : ∀ rv, S rv (xs.map (evalO ts1)) H2 (fun (e : AEnd) H => match e with
                    | .ret _ => resultsK C.E ts2 H fn.results.toList fun vs => k (.ret (oneOf (szTs C.E fn.resultTypes.toList vs))) H
                    | .pan _ => none) = some r → ∃ e H', k e H' = some r ∧ ∀ k' : KE, S rv (xs.map (evalO ts1)) H2 (fun (e : AEnd) H => match e with
                    | .ret _ => resultsK C.E ts2 H fn.results.toList fun vs => k' (.ret (oneOf (szTs C.E fn.resultTypes.toList vs))) H
                    | .pan _ => none) = k' e H' := by
                intro rv hs
                obtain ⟨e, H3, h5, h6⟩ := hD g S hS _ _ _ _ _ hs
                cases e with
                | pan v => cases h5
                | ret v =>
                  obtain ⟨vs, h7, h8⟩ := resultsK_nat _ h5
                  exact ⟨_, _, h7, fun k' => by rw [h6]; exact h8 _⟩
              cases ex2 with
              | normal => obtain ⟨e, H', q1, q2⟩ := fin _ h3; exact ⟨e, H', q1, fun k' => by rw [h2]; simp only; rw [h4]; exact q2 k'⟩
              | ret => obtain ⟨e, H', q1, q2⟩ := fin _ h3; exact ⟨e, H', q1, fun k' => by rw [h2]; simp only; rw [h4]; exact q2 k'⟩
              | pan v => obtain ⟨e, H', q1, q2⟩ := fin _ h3; exact ⟨e, H', q1, fun k' => by rw [h2]; simp only; rw [h4]; exact q2 k'⟩
              | exit i => cases h3
            | _ => cases h1
        · cases h
      · cases h
    · cases h
  · cases h

/-- A deferred function's summary. -/
structure DSpecOK (P : Program) (g : FuncId) (S : DSpec) : Prop where
  enters : Enters P g
  ok : ∀ rv args H k r, S rv args H k = some r → CallDOK P g rv args H k r
  nat : ∀ rv args H k r, S rv args H k = some r → ∃ e H', k e H' = some r ∧ ∀ k', S rv args H k' = k' e H'

theorem dbodyK_ok {P : Program} {C : Ctx} (hC : CtxOK P C) {f : FuncId} {fn : Func} (hf : P.funcs[f]? = some fn) (he : Enters P f) (hL : ∀ a c, fn.body = some (.seq a c) → LoopsOK C c) : DSpecOK P f (aDBodyK C fn) :=
  ⟨he, fun _ _ _ _ _ h => aDBodyK_ok hC hf hL h, fun _ _ _ _ _ h => aDBodyK_nat hC.nat hC.rnat hL h⟩

theorem deferK_ok {P : Program} {C : Ctx} (hC : CtxOK P C) {g : FuncId} {S : DSpec} (hS : DSpecOK P g S) {f : FuncId} {fn : Func} (hf : P.funcs[f]? = some fn)
    (hrg : C.ranges = false) (hL : ∀ a b c, fn.body = some (.seq a (.seq b c)) → LoopsOK C c ∧ ∀ g ps asg bd, Code.rangeFunc g ps asg bd ∈ rangesOf c → recTab (1000000000 + 10000 * f + loopId bd) = some (ps.toList, asg, bd)) : SpecOK P f (aDeferK C f (oneD g S) fn) := by
  have hone : ∀ g' S', oneD g S g' = some S' → g' = g ∧ S' = S := by
    intro g' S' h
    unfold oneD at h
    split at h
    · rename_i hb
      simp only [beq_iff_eq] at hb
      cases h
      exact ⟨hb, rfl⟩
    · cases h
  refine ⟨fun args H k r h => aDeferK_ok hC hrg (fun g' S' h' => ?_) hf hL h, fun args H k r h => aDeferK_nat hC.nat hC.rnat (fun g' S' h' => ?_) (fun a b c hb => (hL a b c hb).1) h⟩
  · obtain ⟨rfl, rfl⟩ := hone g' S' h'
    exact ⟨hS.enters, hS.ok⟩
  · obtain ⟨rfl, rfl⟩ := hone g' S' h'
    exact hS.nat

theorem frozenK_ok {P : Program} {f : FuncId} {S : FSpec} (h : SpecOK P f S) : SpecOK P f (frozenK S) := by
  refine ⟨fun args H k r hr => ?_, fun args H k r hr => ?_⟩
  rotate_left
  · unfold frozenK at hr ⊢
    split at hr
    · obtain ⟨e, H1, h1, h2⟩ := h.nat _ _ _ _ hr
      cases e with
      | ret v =>
        simp only [freezeEK] at h1
        obtain ⟨x, h3, h4⟩ := freezeK_nat 8 v _ h1
        exact ⟨.ret x, [], h3, fun k' => by rw [h2]; simp only [freezeEK, h4]⟩
      | pan v =>
        simp only [freezeEK] at h1
        obtain ⟨x, h3, h4⟩ := freezeK_nat 8 v _ h1
        exact ⟨.pan x, [], h3, fun k' => by rw [h2]; simp only [freezeEK, h4]⟩
    · exact h.nat _ _ _ _ hr
  unfold frozenK at hr
  split at hr
  · intro M ι w cargs hI ha
    have hia : ∀ i v p, ι i v = some p → io0 i v = some p := fun i v p hp => by
      obtain ⟨o, ho, _⟩ := hI.dom i v p hp
      simp at ho
    refine CallsIn.mono (h.ok _ _ _ _ hr M io0 w cargs hI.alone (ha.mono (fun _ _ h => h) hia)) ?_
    rintro en w' ⟨e, H1, M', ι', hk, hs, he⟩
    have hs0 : Stp M ι [] w (still M' ι' H1 w') ι [] w' := hs.frozen.embed hI
    cases e with
    | ret v =>
      simp only [freezeEK] at hk
      obtain ⟨x, h3, h4⟩ := freezeK_nat 8 v _ hk
      refine ⟨.ret x, [], still M' ι' H1 w', ι, h3, hs0, ?_⟩
      cases en with
      | returned c => exact freezeK_ok hs.inv 8 h4 he ι
      | _ => exact he.elim
    | pan v =>
      simp only [freezeEK] at hk
      obtain ⟨x, h3, h4⟩ := freezeK_nat 8 v _ hk
      refine ⟨.pan x, [], still M' ι' H1 w', ι, h3, hs0, ?_⟩
      cases en with
      | panicked chain =>
        obtain ⟨c, hc, hv⟩ := he
        exact ⟨c, hc, freezeK_ok hs.inv 8 h4 hv ι⟩
      | _ => exact he.elim
  · exact h.ok _ _ _ _ hr

/-- The keys of a function's loops over functions whose rounds may panic. -/
noncomputable def keyAtV (i : Nat) : Code → Option (List Tmp × Code × Code)
  | .rangeFunc _ _ _ bd => recTab (1000000000 + 10000 * i + loopId bd)
  | _ => none
theorem keysV {i : Nat} {fn : Func} (h : (rangesOf (bodyOf fn)).map (keyAtV i) = (rangesOf (bodyOf fn)).map bodyAt) {a b c : Code} (hb : fn.body = some (.seq a (.seq b c))) :
    ∀ g ps asg bd, Code.rangeFunc g ps asg bd ∈ rangesOf c → recTab (1000000000 + 10000 * i + loopId bd) = some (ps.toList, asg, bd) := by
  intro g ps asg bd hm
  have hbo : bodyOf fn = .seq a (.seq b c) := by unfold bodyOf; rw [hb]
  have hm' : Code.rangeFunc g ps asg bd ∈ rangesOf (bodyOf fn) := by rw [hbo]; simp only [rangesOf, List.mem_append]; exact .inr (.inr hm)
  obtain ⟨j, hj⟩ := List.getElem?_of_mem hm'
  have := congrArg (·[j]?) h
  simpa [hj, keyAtV, bodyAt] using this

end Go.Abs
