/- Tables of functions. -/
import Derived.Test.YteaceebonkpipaaA14
namespace Go.Abs
open Go.RowKit

structure SpecOK (P : Program) (f : FuncId) (S : FSpec) : Prop where
  ok : ∀ args H k r, S args H k = some r → CallOK P f args H k r
  nat : ∀ args H k r, S args H k = some r → ∃ e H', k e H' = some r ∧ ∀ k', S args H k' = k' e H'


theorem SpecOK.never {P : Program} {f : FuncId} : SpecOK P f (fun _ _ _ => none) := ⟨fun _ _ _ _ h => (by cases h), fun _ _ _ _ h => (by cases h)⟩

theorem inlineK_ok {P : Program} {C : Ctx} (hC : CtxOK P C) {f : FuncId} {fn : Func} (hf : P.funcs[f]? = some fn) (hL : ∀ c, fn.body = some c → LoopsOK C c) : SpecOK P f (inlineK C fn) := by
  refine ⟨fun args H k r h => ?_, fun args H k r h => ?_⟩
  rotate_left
  · unfold inlineK at h ⊢
    split at h
    · obtain ⟨e, H1, h1, h2⟩ := aBodyK_nat hC.nat hC.rnat hL h
      cases e with
      | ret v =>
        simp only [freezeEK] at h1
        obtain ⟨x, h3, h4⟩ := freezeK_nat 8 v _ h1
        exact ⟨.ret x, [], h3, fun k' => by rw [h2]; simp only [freezeEK, h4]⟩
      | pan v =>
        simp only [freezeEK] at h1
        obtain ⟨x, h3, h4⟩ := freezeK_nat 8 v _ h1
        exact ⟨.pan x, [], h3, fun k' => by rw [h2]; simp only [freezeEK, h4]⟩
    · exact aBodyK_nat hC.nat hC.rnat hL h
  unfold inlineK at h
  split at h
  · intro M ι w cargs hI ha
    have hI0 : Inv M io0 [] w := hI.alone
    -- rows: none
    have hia : ∀ i v p, ι i v = some p → io0 i v = some p := fun i v p hp => by
      obtain ⟨o, ho, _⟩ := hI.dom i v p hp
      simp at ho
    have ha0 : VRs M io0 args cargs := ha.mono (fun _ _ h => h) hia
    refine CallsIn.mono (aBodyK_ok hC hf hL h M io0 w cargs hI0 ha0) ?_
    rintro en w' ⟨e, H1, M', ι', hk, hs, he⟩
    have hs0 : Stp M ι [] w (still M' ι' H1 w') ι [] w' := by
      have := hs.frozen.embed hI
      exact this
    cases e with
    | ret v =>
      simp only [freezeEK] at hk
      obtain ⟨x, h3, h4⟩ := freezeK_nat 8 v _ hk
      refine ⟨.ret x, [], still M' ι' H1 w', ι, h3, hs0, ?_⟩
      cases en with
      | returned c => exact freezeK_ok hs.inv 8 h4 he ι
      | _ => exact he.elim
    | pan v =>
      simp only [freezeEK] at hk
      obtain ⟨x, h3, h4⟩ := freezeK_nat 8 v _ hk
      refine ⟨.pan x, [], still M' ι' H1 w', ι, h3, hs0, ?_⟩
      cases en with
      | panicked chain =>
        obtain ⟨c, hc, hv⟩ := he
        exact ⟨c, hc, freezeK_ok hs.inv 8 h4 hv ι⟩
      | _ => exact he.elim
  · exact aBodyK_ok hC hf hL h

/-- Another way to say what a function does. -/
theorem SpecOK.turn {P : Program} {f : FuncId} {B S : FSpec} (h : SpecOK P f B) (hs : ∀ args H, (∀ k, S args H k = none) ∨ ∀ k, S args H k = B args H k) : SpecOK P f S := by
  refine ⟨fun args H k r hr => ?_, fun args H k r hr => ?_⟩
  · rcases hs args H with h1 | h1
    · rw [h1] at hr; cases hr
    · rw [h1] at hr; exact h.ok args H k r hr
  · rcases hs args H with h1 | h1
    · rw [h1] at hr; cases hr
    · rw [h1] at hr
      obtain ⟨e, H', h2, h3⟩ := h.nat args H k r hr
      exact ⟨e, H', h2, fun k' => by rw [h1]; exact h3 k'⟩

/-- One of two, as the arguments say. -/
theorem SpecOK.either {P : Program} {f : FuncId} {S1 S2 : FSpec} (c : List AV → Bool) (h1 : SpecOK P f S1) (h2 : SpecOK P f S2) : SpecOK P f (eitherK c S1 S2) := by
  refine ⟨fun args H k r hr => ?_, fun args H k r hr => ?_⟩
  · rcases aIf_some hr with ⟨_, hr⟩ | ⟨_, hr⟩
    · exact h1.ok args H k r hr
    · exact h2.ok args H k r hr
  · unfold eitherK at hr ⊢
    cases hc : c args with
    | true =>
      rw [hc] at hr
      exact h1.nat args H k r hr
    | false =>
      rw [hc] at hr
      exact h2.nat args H k r hr

theorem aIf_ite (b : Bool) (x y : Res) : aIf b x y = if b = true then x else y := by cases b <;> rfl
theorem aIf_pos {b : Bool} {x y : Res} (h : b = true) : aIf b x y = x := by rw [h]; rfl
theorem aIf_neg {b : Bool} {x y : Res} (h : b = false) : aIf b x y = y := by rw [h]; rfl

theorem constK_ok {P : Program} {f : FuncId} {S : FSpec} {v : AV} (h : SpecOK P f S) (he : ∀ k, S [] [] k = k (.ret v) []) : SpecOK P f (constK v) := by
  refine ⟨fun args H k r hr => ?_, fun args H k r hr => ?_⟩
  · unfold constK at hr
    split at hr
    · exact h.ok [] [] k r (by rw [he]; exact hr)
    · cases hr
  · unfold constK at hr ⊢
    split at hr
    · exact ⟨_, _, hr, fun _ => rfl⟩
    · cases hr

def TabOK (P : Program) (T : List (FuncId × FSpec)) : Prop := ∀ p ∈ T, Enters P p.1 ∧ SpecOK P p.1 p.2

theorem TabOK.nil (P : Program) : TabOK P [] := fun p hp => by cases hp
theorem TabOK.cons {P : Program} {T : List (FuncId × FSpec)} {f : FuncId} {S : FSpec} (h1 : Enters P f) (h2 : SpecOK P f S) (h : TabOK P T) : TabOK P ((f, S) :: T) := by
  intro p hp
  rcases List.mem_cons.1 hp with rfl | hp
  · exact ⟨h1, h2⟩
  · exact h p hp

theorem TabOK.get {P : Program} {f : FuncId} {S : FSpec} : ∀ (T : List (FuncId × FSpec)), TabOK P T → tabGet T f = some S → Enters P f ∧ SpecOK P f S
  | [], _, h => by cases h
  | (g, S') :: T, hT, h => by
    simp only [tabGet] at h
    split at h
    · rename_i hg
      cases h
      have hg : g = f := by simpa using hg
      subst hg
      exact hT _ (List.mem_cons_self ..)
    · exact TabOK.get T (fun p hp => hT p (List.mem_cons_of_mem _ hp)) h

theorem ctx_ok {P : Program} {E : Env} {T : List (FuncId × FSpec)} {loops : List (Nat × (ATs → AH → KC → Res))} {keep : List (Nat × List Nat)} {live : List Nat} {nt fuel : Nat} (hE : EnvOK P E) (hF : FieldsOK E) (hm : P.follows .mixedOrders = true) (hT : TabOK P T) :
    CtxOK P (ctx E T loops keep live nt fuel) := by
  refine ⟨hE, hF, hm, fun f args H k r h => ?_, fun l args H k r h => (by cases h), fun f args H k => ?_, fun l args H k => rfl, fun h => (by cases h), fun _ h => (by cases h)⟩
  · change (match tabGet T f with | some S => S args H k | none => none) = some r at h
    split at h
    · rename_i S hS
      obtain ⟨q1, q2⟩ := hT.get T hS
      exact ⟨q1, q2.ok _ _ _ _ h⟩
    · cases h
  · change (match tabGet T f with | some S => S args H k | none => none) = decE (match tabGet T f with | some S => S args H encE | none => none) k
    cases hS : tabGet T f with
    | none => rfl
    | some S =>
      simp only
      obtain ⟨_, q2⟩ := hT.get T hS
      cases hx : S args H k with
      | some r =>
        obtain ⟨e, H', h1, h2⟩ := q2.nat args H k r hx
        rw [h2 encE]
        simp only [encE, decE]
        exact h1.symm
      | none =>
        cases hy : S args H encE with
        | none => rfl
        | some p =>
          obtain ⟨e, H', h1, h2⟩ := q2.nat args H encE p hy
          simp only [encE, Option.some.injEq] at h1
          subst h1
          simp only [decE]
          rw [← h2 k, hx]

theorem Ctx.ranging_ok {P : Program} {C : Ctx} (h : CtxOK P C) (i : Nat) : CtxOK P (C.ranging i) := ⟨h.env, h.flds, h.mixed, h.call, h.round, h.nat, h.rnat, fun _ n => Nat.mod_lt _ (by decide), h.self⟩
/-- A context whose frames are of function i. -/
theorem Ctx.of_ok {P : Program} {C : Ctx} (h : CtxOK P C) {i : Nat} {fn : Func} (hf : P.funcs[i]? = some fn) : CtxOK P (C.of i) := ⟨h.env, h.flds, h.mixed, h.call, h.round, h.nat, h.rnat, h.keys, fun j hj => (by cases hj; exact ⟨fn, hf⟩)⟩

theorem liveK_ok {P : Program} {C : Ctx} (hC : CtxOK P C) {f : FuncId} {fn : Func} (hf : P.funcs[f]? = some fn) (hL : ∀ c, fn.body = some c → LoopsOK C c) : SpecOK P f (liveK C fn) :=
  ⟨fun _ _ _ _ h => aBodyK_ok hC hf hL h, fun _ _ _ _ h => aBodyK_nat hC.nat hC.rnat hL h⟩

theorem bindPs_ok {M : Mem} {ι : Io} {nt : Nat} : ∀ (ps : List Tmp) (args : List AV) {ts : ATs} {tmps : Array Value} {cargs : List Value}, TR M ι nt ts tmps → args.length = ps.length → (∀ p ∈ ps, p < nt) →
    args.length = cargs.length → (∀ (i : Nat) (x : AV) (y : Value), args[i]? = some x → cargs[i]? = some y → VR M ι x y) →
    TR M ι nt (bindPs ps args ts) ((ps.zip cargs).foldl (fun tmps p => tmps.setIfInBounds p.1 p.2) tmps)
  | [], [], _, _, _, hT, _, _, _, _ => hT
  | p :: ps, a :: asg, ts, tmps, [], _, _, _, hc, _ => by simp at hc
  | p :: ps, a :: asg, ts, tmps, c :: cs, hT, hl, hp, hc, hv => by
    simp only [bindPs, List.zip_cons_cons, List.foldl_cons]
    refine bindPs_ok ps asg (ts := (p, a) :: ts) ?_ (by simpa using hl) (fun q hq => hp q (by simp [hq])) (by simpa using hc) (fun i x y hx hy => hv (i + 1) x y (by simpa using hx) (by simpa using hy))
    have := TR.put (a := { tmps := tmps, defers := [] }) (d := some p) hT (by simpa [dstOk] using hp p (by simp)) (hv 0 a c rfl rfl)
    simpa [Act.put, ATs.put] using this
  | [], _ :: _, _, _, _, _, hl, _, _, _ => by simp at hl
  | _ :: _, [], _, _, _, _, hl, _, _, _ => by simp at hl

theorem endRoundK_ok {P : Program} {l : Nat} {jump : Option Code} {H : AH} {k : KE} {r : Fin'} (h : endRoundK l jump H k = some r) {M : Mem} {ι : Io} {w : World} {b n : Nat} (hI : Inv M ι H w) (hb : ι l 0 = some (b, n)) :
    ∃ v w' e H' M' ι', (Instr.endRound b jump).run P w = .ok v w' ∧ k e H' = some r ∧ Stp M ι H w M' ι' H' w' ∧ EndR M' ι' e (.returned v) := by
  unfold endRoundK at h
  split at h
  · rename_i st pe nt ts key hl
    obtain ⟨fn, tmps, db, ps, asg, bd, h1, hkey, hfn, h2⟩ := hI.loop_block hl hb
    have hend := run_endRound (P := P) jump h1
    cases jump with
    | none =>
      obtain ⟨ι', hs⟩ := Stp.turnLoop (st' := .ready) (pend' := none) hI hl hkey hb h1 hfn h2
      exact ⟨_, _, _, _, M, ι', hend, h, hs, .bool _⟩
    | some j =>
      obtain ⟨ι', hs⟩ := Stp.turnLoop (st' := .done) (pend' := some j) hI hl hkey hb h1 hfn h2
      exact ⟨_, _, _, _, M, ι', hend, h, hs, .bool _⟩
  · cases h

theorem endRoundK_nat {l : Nat} {jump : Option Code} {H : AH} {k : KE} {r : Fin'} (h : endRoundK l jump H k = some r) : ∃ e H', k e H' = some r ∧ ∀ k', endRoundK l jump H k' = k' e H' := by
  unfold endRoundK at h ⊢
  split at h
  · cases jump with
    | none => exact ⟨_, _, h, fun _ => rfl⟩
    | some j => exact ⟨_, _, h, fun _ => rfl⟩
  · cases h

/-- What is asked at a round's end, a panic too. -/
def roundPost' (P : Program) (l : Nat) (f : FuncId) (R : Ending → World → Prop) : Exit → Act → World → Prop
  | .panic chain, a, w => a.defers = [] ∧ (∃ fn, P.funcs[f]? = some fn) ∧ R (.panicked chain) w
  | e, a, w => roundPost P l R e a w

theorem roundIn_of_wpIn' {F : Fence} {n : Nat} {P : Program} {l : Nat} {f : FuncId} {tmps : Array Value} {assign body : Code} {w : World} {R : Ending → World → Prop} (hF : F.fn f)
    (h : assign.wpIn (F.inRound l) n P (Exit.then (fun a₁ w₁ => ∃ w₂, (Instr.beginRound l).run P w₁ = .ok () w₂ ∧ body.wpIn (F.inRound l) n P (roundPost' P l f R) a₁ w₂) (fun _ _ _ => False))
      { tmps := tmps, defers := [] } w) :
    RoundIn F n P l f tmps assign body w R := by
  refine ⟨hF, fun c cs hr => ?_⟩
  obtain ⟨b, rfl, hb2, hb3⟩ : ∃ b : Frame, b.fn = f ∧ b.roundOf = some l ∧ Frame.round l f tmps assign body .normal = b.atR { tmps := tmps, defers := [] } [.code assign, .beginRound, .code body] :=
    ⟨{ (default : Frame) with fn := f, kind := .normal, roundOf := some l }, rfl, rfl, by simp [Frame.round, Frame.atR]⟩
  have hkind : b.kind = .normal := by
    have := congrArg Frame.kind hb3
    simpa [Frame.round, Frame.atR] using this.symm
  have hroom : (F.inRound l).room ((c :: cs).length + 1 + n) := hr
  have calm : ∀ a x k w, (b.atR a (x :: k)).about P w = none → (lone (b.atR a (x :: k)) (c :: cs) w).fenced P F := fun a x k w ha => fenced_calm (fr := b.atR a (x :: k)) (F := F) (n := n) hF hr ha
  obtain ⟨e, a₁, w₁, hq, harr⟩ := h b [.beginRound, .code body] (c :: cs) hb2 hF hroom
  rw [← hb3] at harr
  cases e with
  | normal =>
    obtain ⟨w₂, hbr, hbody⟩ := hq
    have s1 := StepsIn.trans harr (.one (calm a₁ _ _ w₁ rfl) (stepR_beginRound hb2 hbr))
    obtain ⟨e₂, a₂, w₃, hq₂, harr₂⟩ := hbody b [] (c :: cs) hb2 hF hroom
    cases e₂ with
    | normal =>
      obtain ⟨v, w₄, hend, hR⟩ := hq₂
      exact ⟨.returned v, w₄, hR, s1.trans (StepsIn.trans harr₂ (.one (fenced_calm (fr := b.atR a₂ []) (F := F) (n := n) hF hr rfl) (stepR_round_end hb2 hkind hend)))⟩
    | ret =>
      obtain ⟨v, w₄, hend, hR⟩ := hq₂
      obtain ⟨k₁, hs⟩ := harr₂.2 (by rw [hb2]; rfl)
      exact ⟨.returned v, w₄, hR, s1.trans (StepsIn.trans hs (.one (calm a₂ _ k₁ w₃ rfl) (stepR_round_ret hb2 hkind hend)))⟩
    | exit id =>
      obtain ⟨v, w₄, hend, hR⟩ := hq₂
      obtain ⟨k₁, hk, hs⟩ := harr₂.2 (by rw [hb2]; rfl) rfl
      exact ⟨.returned v, w₄, hR, s1.trans (StepsIn.trans hs (.one (calm a₂ _ k₁ w₃ rfl) (stepR_round_exit hb2 hkind hk hend)))⟩
    | goto t =>
      obtain ⟨v, w₄, hend, hR⟩ := hq₂
      obtain ⟨k₁, hk, hs⟩ := harr₂.2 (by rw [hb2]; rfl) rfl
      exact ⟨.returned v, w₄, hR, s1.trans (StepsIn.trans hs (.one (calm a₂ _ k₁ w₃ rfl) (stepR_round_goto hb2 hkind hk hend)))⟩
    | panic chain =>
      obtain ⟨hd, ⟨fn, hfn⟩, hR⟩ := hq₂
      obtain ⟨todo, hs⟩ := harr₂
      have hl : ({ b.atR a₂ todo with mode := .panicking chain } : Frame).leaving P w₃ (.panicked chain) := ⟨rfl, hd, fn, hfn⟩
      exact ⟨.panicked chain, w₃, hR, s1.trans (StepsIn.trans hs (.one (fenced_leaving (F := F) (n := n) (fr := { b.atR a₂ todo with mode := .panicking chain }) hF hr hl) (step_leave_panicked hl)))⟩
    | outgrown => exact hq₂.elim
  | _ => exact hq.elim

theorem roundK_ok {P : Program} {C : Ctx} (hC : CtxOK P C) (hl : ∀ n, C.loop n = none) (hr : C.ranges = false) {l : Nat} {args : List AV} {H : AH} {k : KE} {r : Fin'} (h : roundK C l args H k = some r) : RoundOK P l args H k r := by
  intro M ι w cargs b n hI ha hb
  have hLs : ∀ c, LoopsOK C c := fun c => ⟨fun b _ S hS => (by rw [hl] at hS; cases hS), fun hx => (by rw [hr] at hx; cases hx)⟩
  unfold roundK at h
  split at h
  · rename_i pe nt ts key hrow
    split at h
    · cases h
    rename_i ps asg bd hkey
    split at h
    · cases h
    rename_i hg
    simp only [Bool.and_eq_true, beq_iff_eq, List.all_eq_true, decide_eq_true_eq] at hg
    obtain ⟨⟨rfl, g2⟩, g3⟩ := hg
    obtain ⟨fn, tmps, db, ps', asg', bd', h1, hkey', hfn, h2⟩ := hI.loop_block hrow hb
    rw [hkey] at hkey'
    cases hkey'
    have hy := run_yield (P := P) (args := cargs) h1 (by simpa [← ha.1] using g2)
    refine ⟨fn, _, asg, bd, w, hy, roundIn_of_wpIn' trivial ?_⟩
    have hT1 : TR M ι C.nt (bindPs ps args ts) ((ps.toArray.zip cargs).foldl (fun tmps (t, a) => tmps.setIfInBounds t a) tmps) := by
      have := bindPs_ok ps args (cargs := cargs.toList) h2 g2 g3 (by simpa using ha.1) (fun i x y hx hy => ha.2 i x y hx (by simpa using hy))
      rw [← Array.foldl_toList, Array.toList_zip]
      exact this
    refine aCodeK_ok (ro := some b) (base := (w.heap.size, [], true)) (a := { tmps := _, defers := [] }) hC (fun hx => by rw [hr] at hx; cases hx) (fun _ => hr) asg (hLs asg) h hI hT1 (Dfs.nil (Nat.le_refl _)) ?_
    intro ex ts2 H2 hx e M2 ι2 a2 w2 s1 s2 s3 s4
    cases ex with
    | normal =>
      cases e with
      | normal =>
        simp only at hx
        split at hx
        · rename_i pe' nt' ts' key' hrow2
          have hb2 := s1.io _ _ _ hb
          obtain ⟨fn2, tmps2, db2, ps2, as2, bd2, o1, hkey2, hfn2, o2⟩ := s1.inv.loop_block hrow2 hb2
          obtain ⟨ι3, hs3⟩ := Stp.turnLoop (st' := .busy) (pend' := pe') s1.inv hrow2 hkey2 hb2 o1 hfn2 o2
          have hbr := run_beginRound (P := P) o1 rfl
          refine ⟨_, hbr, ?_⟩
          have s13 := s1.trans hs3
          refine aCodeK_ok (ro := some b) (base := (w.heap.size, [], true)) hC (fun hx => by rw [hr] at hx; cases hx) (fun _ => hr) bd (hLs bd) hx hs3.inv (s2.stp hs3) (s3.stp s1.inv hs3) ?_
          intro ex4 ts4 H4 hx4 e4 M4 ι4 a4 w4 t1 t2 t3 t4
          have s14 := s13.trans t1
          have hb4 := s14.io _ _ _ hb
          have fin : ∀ jump, endRoundK l jump H4 k = some r → ∃ v w', (Instr.endRound b jump).run P w4 = .ok v w' ∧ ∃ e H' M' ι', k e H' = some r ∧ Stp M ι H w M' ι' H' w' ∧ EndR M' ι' e (.returned v) := by
            intro jump hj
            obtain ⟨v, w', e, H', M', ι', p1, p2, p3, p4⟩ := endRoundK_ok (P := P) hj s14.inv hb4
            exact ⟨v, w', p1, e, H', M', ι', p2, s14.trans p3, p4⟩
          cases ex4 with
          | normal =>
            cases e4 with
            | normal => exact fin none hx4
            | _ => exact t4.elim
          | ret =>
            cases e4 with
            | ret => exact fin (some .ret) hx4
            | _ => exact t4.elim
          | exit i =>
            cases e4 with
            | exit j =>
              obtain rfl : i = j := t4
              exact fin (some (.exit i)) hx4
            | _ => exact t4.elim
          | pan v =>
            cases e4 with
            | panic ch =>
              simp only at hx4
              split at hx4
              · rename_i i hself
                split at hx4
                · rename_i hq
                  rw [Bool.and_eq_true] at hq
                  have hq1 := Nat.le_of_ble_eq_true hq.1
                  have hq2 := Nat.eq_of_beq_eq_true hq.2
                  refine ⟨?_, ?_, _, _, M4, ι4, hx4, s14, t4⟩
                  · obtain ⟨_, rs, q1, _, q3, _⟩ := t3
                    obtain rfl := q3 rfl
                    simpa using q1
                  · rw [hfn hq1, hq2]
                    exact hC.self i hself
                · cases hx4
              · cases hx4
            | _ => exact t4.elim
        · cases hx
      | _ => exact s4.elim
    | _ => cases hx
  · cases h

theorem roundK_nat {P : Program} {C : Ctx} (hC : CtxOK P C) (hl : ∀ n, C.loop n = none) (hr : C.ranges = false) {l : Nat} {args : List AV} {H : AH} {k : KE} {r : Fin'} (h : roundK C l args H k = some r) : ∃ e H', k e H' = some r ∧ ∀ k', roundK C l args H k' = k' e H' := by
  have hLs : ∀ c, LoopsOK C c := fun c => ⟨fun b _ S hS => (by rw [hl] at hS; cases hS), fun hx => (by rw [hr] at hx; cases hx)⟩
  unfold roundK at h ⊢
  split at h
  · rename_i pe nt ts key hrow
    split at h
    · cases h
    rename_i ps asg bd hkey
    try simp only [hkey]
    split at h
    · cases h
    rename_i hg
    try simp only [hg]
    obtain ⟨ex, ts2, H2, h1, h2⟩ := aCodeK_nat hC.nat hC.rnat asg (hLs asg) _ H _ r h
    cases ex with
    | normal =>
      simp only at h1
      split at h1
      · rename_i pe' nt' ts' key' hrow2
        obtain ⟨ex4, ts4, H4, h3, h4⟩ := aCodeK_nat hC.nat hC.rnat bd (hLs bd) _ _ _ r h1
        have hk : ∀ k' : KE, _ := fun k' : KE => h2 (fun e ts2 H2 => match e with
          | .normal => match H2[l]? with
            | some (.loop .ready pe nt' ts' key') => aCodeK C bd ts2 (H2.set l (.loop .busy pe nt' ts' key')) fun e ts3 H3 => match e with
              | .normal => endRoundK l none H3 k'
              | .ret => endRoundK l (some .ret) H3 k'
              | .exit id => endRoundK l (some (.exit id)) H3 k'
              | .pan v => match C.self with
                | some i => match Nat.ble 1000000000 key && Nat.beq ((key - 1000000000) / 10000) i with
                  | true => k' (.pan v) H3
                  | false => none
                | none => none
            | _ => none
          | _ => none)
        simp only [hrow2] at hk
        cases ex4 with
        | normal =>
          obtain ⟨e, H', q1, q2⟩ := endRoundK_nat h3
          exact ⟨e, H', q1, fun k' => by rw [← q2 k']; exact (hk k').trans (h4 _)⟩
        | ret =>
          obtain ⟨e, H', q1, q2⟩ := endRoundK_nat h3
          exact ⟨e, H', q1, fun k' => by rw [← q2 k']; exact (hk k').trans (h4 _)⟩
        | exit i =>
          obtain ⟨e, H', q1, q2⟩ := endRoundK_nat h3
          exact ⟨e, H', q1, fun k' => by rw [← q2 k']; exact (hk k').trans (h4 _)⟩
        | pan v =>
          simp only at h3
          split at h3
          · rename_i i hself
            split at h3
            · rename_i hq
              exact ⟨.pan v, H4, h3, fun k' => by
                have h5 := hk k'
                simp only [hself, hq] at h5
                exact h5.trans (h4 _)⟩
            · cases h3
          · cases h3
      · cases h1
    | _ => cases h1
  · cases h

theorem dec_of_nat {S : KE → Res} (h : ∀ k r, S k = some r → ∃ e H', k e H' = some r ∧ ∀ k', S k' = k' e H') (k : KE) : S k = decE (S encE) k := by
  cases hx : S k with
  | some r =>
    obtain ⟨e, H', h1, h2⟩ := h k r hx
    rw [h2 encE]
    simp only [encE, decE]
    exact h1.symm
  | none =>
    cases hy : S encE with
    | none => rfl
    | some p =>
      obtain ⟨e, H', h1, h2⟩ := h encE p hy
      simp only [encE, Option.some.injEq] at h1
      subst h1
      simp only [decE]
      rw [← h2 k, hx]

/-- A function over which is ranged, in the caller's context. -/
theorem Ctx.yields_ok {P : Program} {C C0 : Ctx} (h : CtxOK P C) (h0 : CtxOK P C0) (hl : ∀ n, C0.loop n = none) (hr : C0.ranges = false) : CtxOK P (C.yields C0) :=
  ⟨h.env, h.flds, h.mixed, h.call, fun _ _ _ _ _ hx => roundK_ok h0 hl hr hx, h.nat, fun l args H k => dec_of_nat (S := fun k => roundK C0 l args H k) (fun _ _ hx => roundK_nat h0 hl hr hx) k, h.keys, h.self⟩

theorem LoopsOK.none {E : Env} {T : List (FuncId × FSpec)} {keep : List (Nat × List Nat)} {live : List Nat} {nt fuel : Nat} (c : Code) : LoopsOK (ctx E T [] keep live nt fuel) c := ⟨fun _ _ _ h => (by cases h), fun h => (by cases h)⟩

theorem LoopsOK.of {C : Ctx} {fn : Func} (n : Nat) (hn : (loopsOf (bodyOf fn)).length = n) (h : ∀ i, i < n → ∀ S, C.loop (loopId (loopB fn i)) = some S → LoopSum C (loopB fn i) S) (hr : C.ranges = true → ∀ g ps asg bd, Code.rangeFunc g ps asg bd ∈ rangesOf (bodyOf fn) → recTab (C.rkey (loopId bd)) = some (ps.toList, asg, bd) := by intro h; cases h) : ∀ c, fn.body = some c → LoopsOK C c := by
  intro c hc
  have hbo : bodyOf fn = c := by unfold bodyOf; rw [hc]
  refine ⟨fun b hb S hS => ?_, by rw [← hbo]; exact hr⟩
  obtain ⟨i, hi⟩ := List.getElem?_of_mem hb
  have hlt := (List.getElem?_eq_some_iff.1 hi).1
  have hbi : loopB fn i = b := by
    unfold loopB
    rw [hbo, List.getD_eq_getElem?_getD, hi]; rfl
  rw [← hbi] at hS ⊢
  exact h i (by rw [← hn, hbo]; exact hlt) S hS

/-- The keys of a function's loops over functions. -/
theorem keys_of {C : Ctx} {c : Code} (h : (rangesOf c).map (keyAt C) = (rangesOf c).map bodyAt) : C.ranges = true → ∀ g ps asg bd, Code.rangeFunc g ps asg bd ∈ rangesOf c → recTab (C.rkey (loopId bd)) = some (ps.toList, asg, bd) := by
  intro _ g ps asg bd hm
  obtain ⟨i, hi⟩ := List.getElem?_of_mem hm
  have := congrArg (·[i]?) h
  simpa [hi, keyAt, bodyAt] using this

/-- The loops within a loop. -/
theorem LoopsOK.within {C : Ctx} {b : Code} (n : Nat) (hn : (loopsOf b).length = n) (h : ∀ i, i < n → ∀ S, C.loop (loopId ((loopsOf b).getD i .skip)) = some S → LoopSum C ((loopsOf b).getD i .skip) S) (hr : C.ranges = true → ∀ g ps asg bd, Code.rangeFunc g ps asg bd ∈ rangesOf b → recTab (C.rkey (loopId bd)) = some (ps.toList, asg, bd) := by intro h; cases h) : LoopsOK C b := by
  refine ⟨fun b' hb S hS => ?_, hr⟩
  obtain ⟨i, hi⟩ := List.getElem?_of_mem hb
  have hlt := (List.getElem?_eq_some_iff.1 hi).1
  have hbi : (loopsOf b).getD i .skip = b' := by
    rw [List.getD_eq_getElem?_getD, hi]; rfl
  rw [← hbi] at hS ⊢
  exact h i (by rw [← hn]; exact hlt) S hS

/-- A loop's summary, out of its rounds. -/
theorem LoopSum.of {P : Program} {C : Ctx} {b : Code} {S : ATs → AH → KC → Res} (hC : CtxOK P C) (hb : LoopsOK C b) (h : ∀ ts H, (∀ k, S ts H k = none) ∨ ∃ n, ∀ k, S ts H k = aIterK n (headedK C b) ts H k) : LoopSum C b S := by
  refine ⟨fun ts H k r hr => ?_, fun ts H k r hr => ?_⟩
  · rcases h ts H with h1 | ⟨n, h1⟩
    · rw [h1] at hr; cases hr
    · exact ⟨n, by rw [← h1]; exact hr⟩
  · rcases h ts H with h1 | ⟨n, h1⟩
    · rw [h1] at hr; cases hr
    · rw [h1] at hr
      obtain ⟨ex, ts', H', h2, h3⟩ := aIterK_nat (F := headedK C b) (headedK_nat (fun ts H => aCodeK_nat hC.nat hC.rnat b hb ts H)) n ts H k r hr
      exact ⟨ex, ts', H', h2, fun k' => by rw [h1]; exact h3 k'⟩

end Go.Abs
