/- Regions and code of the evaluator's against the model's. -/
import Derived.Test.YteaceebonkpipaaB0
namespace Go.Abs
open Go.RowKit

/-- The fence under which all is walked: nothing is asked; in a round's frame or not. -/
def fen (ro : Option Nat) : Fence := { Fence.wide with round := ro }

def ExR (M : Mem) (ι : Io) : AExit → Exit → Prop
  | .normal, .normal => True
  | .exit i, .exit j => i = j
  | .ret, .ret => True
  | .pan v, .panic chain => ∃ c, chain = [{ v := c, recovered := false }] ∧ VR M ι v c
  | _, _ => False

section
variable {P : Program} {M : Mem} {ι : Io} {H : AH} {w : World} {r : Fin'} {C : Ctx} {ro : Option Nat}

theorem getD_set {tmps : Array Value} {d t : Nat} {c : Value} : (tmps.setIfInBounds d c).getD t undef = if d = t ∧ d < tmps.size then c else tmps.getD t undef := by
  simp only [Array.getD_eq_getD_getElem?, Array.getElem?_setIfInBounds]
  by_cases h : d = t
  · subst h
    by_cases h2 : d < tmps.size
    · simp [h2]
    · simp [h2]
  · simp [h]

theorem TR.put {nt : Nat} {ts : ATs} {a : Act} {d : Option Tmp} {v : AV} {c : Value} (hT : TR M ι nt ts a.tmps) (hd : dstOk nt d = true) (hv : VR M ι v c) : TR M ι nt (ts.put d v) (a.put d c).tmps := by
  cases d with
  | none => exact hT
  | some d =>
    have hd : d < nt := by simpa [dstOk] using hd
    refine ⟨by simpa [Act.put] using hT.1, fun t => ?_⟩
    simp only [Act.put, getD_set, ATs.put, ATs.get]
    by_cases h : d = t
    · subst h
      rw [if_pos ⟨rfl, by rw [hT.1]; exact hd⟩]
      simpa using hv
    · rw [if_neg (fun x => h x.1)]
      have : (d == t) = false := by simpa using h
      rw [this]
      exact hT.2 t

theorem TR.learn {nt : Nat} {ts : ATs} {tmps : Array Value} {t : Nat} {v : AV} (hT : TR M ι nt ts tmps) (hv : VR M ι v (tmps.getD t undef)) : TR M ι nt (ts.put (some t) v) tmps := by
  refine ⟨hT.1, fun u => ?_⟩
  simp only [ATs.put, ATs.get]
  by_cases h : t = u
  · subst h; simpa using hv
  · have : (t == u) = false := by simpa using h
    rw [this]; exact hT.2 u

theorem trim_get (ts : ATs) (l : List Nat) (t : Nat) : (ts.trim l).get t = ts.get t ∨ (ts.trim l).get t = .junk := by
  induction l with
  | nil => exact .inr rfl
  | cons k l ih =>
    simp only [ATs.trim, ATs.get]
    by_cases h : k = t
    · subst h; simp
    · have : (k == t) = false := by simpa using h
      rw [this]; exact ih

theorem TR.trim {nt : Nat} {ts : ATs} {tmps : Array Value} (hT : TR M ι nt ts tmps) (l : List Nat) : TR M ι nt (ts.trim l) tmps := by
  refine ⟨hT.1, fun t => ?_⟩
  rcases trim_get ts l t with h | h <;> rw [h]
  · exact hT.2 t
  · exact .junk _

theorem TR.trimK {nt : Nat} {ts : ATs} {tmps : Array Value} (hT : TR M ι nt ts tmps) (id : Nat) : TR M ι nt (trimK C id ts) tmps := by
  unfold Abs.trimK
  split
  · exact hT.trim _
  · exact hT

theorem TR.stp {M' : Mem} {ι' : Io} {H' : AH} {w' : World} {nt : Nat} {ts : ATs} {tmps : Array Value} (hT : TR M ι nt ts tmps) (h : Stp M ι H w M' ι' H' w') : TR M' ι' nt ts tmps := hT.mono h.mem h.io

@[simp] theorem put_defers (a : Act) (d : Option Tmp) (v : Value) : (a.put d v).defers = a.defers := by cases d <;> rfl

theorem uponIn_run {o : Oper} {a : Act} {next : Act → World → Prop} {Q : Exit → Act → World → Prop} {c : Value} {w' : World} {ns : Sem Next} {n : Nat}
    (h : ns.run P w = .ok (.value c) w' ∨ (ns.run P w = .ok .skip w' ∧ c = undef)) (hn : next (a.put o.dst c) w') : o.uponIn (fen ro) n P a next Q (ns.run P w) := by
  rcases h with h | ⟨h, rfl⟩ <;> rw [h] <;> exact hn

/-- One operation, calls and panics too. -/
theorem aOpK_ok (hC : CtxOK P C) {n : Nat} {ts : ATs} {o : Oper} {a : Act} {kv kp : AV → AH → Res} {next : Act → World → Prop} {Q : Exit → Act → World → Prop}
    (hI : Inv M ι H w) (hT : TR M ι C.nt ts a.tmps) (h : aOpK C ts o.op H kv kp = some r)
    (hv : ∀ v H' M' ι' w' c, kv v H' = some r → Stp M ι H w M' ι' H' w' → VR M' ι' v c → next (a.put o.dst c) w')
    (hp : ∀ v H' M' ι' w' c, kp v H' = some r → Stp M ι H w M' ι' H' w' → VR M' ι' v c → Q (.panic [{ v := c, recovered := false }]) a w') :
    o.wpIn (fen ro) n P a w next Q := by
  refine ⟨fun _ _ => trivial, ?_⟩
  have plain : (∀ c, o.op = .call c → ∃ b, c.callee = .builtin b ∧ stillB C b (c.args.toList.map (evalO ts)) = false) → (∀ x, o.op ≠ .panic x) → o.uponIn (fen ro) n P a next Q ((o.semAt (fen ro).round a.eval).run P w) := by
    intro h1 h2
    obtain ⟨v, H', M', ι', w', c, q1, q2, q3, q4⟩ := aOpK_plain hC.env hC.flds hI hT h1 h2 h
    have hd : ∀ c, o.op ≠ .defer c := by
      intro c ho
      rw [ho] at h; simp [aOpK] at h
    rw [Oper.semAt_eq _ _ _ hd]
    exact uponIn_run q4 (hv v H' M' ι' w' c q1 q2 q3)
  cases ho : o.op with
  | call c =>
    cases hcal : c.callee with
    | builtin b =>
      cases hst : stillB C b (c.args.toList.map (evalO ts)) with
      | false => exact plain (fun c' hc' => by rw [ho] at hc'; cases hc'; exact ⟨b, hcal, hst⟩) (fun x hx => by rw [ho] at hx; cases hx)
      | true =>
        rw [ho] at h
        simp only [aOpK, aCallK, hcal, hst] at h
        have hargs := map_evalO hI.glob hT c.args
        have hcl : AV.closedL (c.args.toList.map (evalO ts)) = true := by
          unfold stillB at hst
          simp only [Bool.and_eq_true] at hst
          have hz := hst.1.2
          unfold zcBase at hz
          split at hz
          · rename_i hq; rw [hq]; rfl
          · cases hz
        obtain ⟨s, hs, v, H1, M', ι', w', cv, q1, q2, q3, q4⟩ := aBuiltinK_ok (C := C) (ty := o.type) (consts := c.args.map fun | .const _ => true | _ => false) hC.env hI.alone (hargs.free hcl io0) h
        obtain ⟨x, h3, h4⟩ := freezeK_nat 8 v _ q1
        have hrun : OpOK P M ι H w o a kv r := by
          refine .of_run (s := s) ?_ ⟨x, H, still M' ι' H1 w', ι, w', cv, h3, q2.frozen.embed hI, freezeK_ok q2.inv 8 h4 q3 ι, q4⟩
          simp only [execOp, ho, resolve, hcal, pure_bind, invoke]
          exact hs
        obtain ⟨v', H', M2, ι2, w2, c2, p1, p2, p3, p4⟩ := hrun
        have hd : ∀ c, o.op ≠ .defer c := fun c' hx => by rw [ho] at hx; cases hx
        rw [Oper.semAt_eq _ _ _ hd]
        exact uponIn_run p4 (hv v' H' M2 ι2 w2 c2 p1 p2 p3)
    | invoke x y => rw [ho] at h; simp only [aOpK, aCallK, hcal] at h; cases h
    | value f =>
      rw [ho] at h; simp only [aOpK, aCallK, hcal] at h
      have hf := vr_evalO hI.glob hT f
      have hargs := map_evalO hI.glob hT c.args
      have hex : ∀ {fv : Fn} {fi ca : Array Value}, a.eval f = .func fv fi ca → ∀ w0, (o.semAt (fen ro).round a.eval).run P w0 = (invoke (.fn fv ca) (fi ++ c.args.map a.eval)).run P w0 := by
        intro fv fi ca he w0
        rw [Oper.semAt_eq _ _ _ (fun c' hc' => by rw [ho] at hc'; cases hc')]
        simp only [execOp, ho, resolve, hcal, he, Deferred.ofValue, pure_bind]
      split at h
      · -- a function
        rename_i g first captured hfe
        rw [hfe] at hf
        cases hc : a.eval f <;> rw [hc] at hf <;> (try (cases hf; done))
        rename_i fv fi ca
        cases hf with
        | fn _ f1 f2 f3 f4 =>
        rw [hex hc w]
        have hall : VRs M ι (first ++ c.args.toList.map (evalO ts) ++ captured) (fi ++ c.args.map a.eval ++ ca) := by
          have app : ∀ {l1 l2 : List AV} {a1 a2 : Array Value}, VRs M ι l1 a1 → VRs M ι l2 a2 → VRs M ι (l1 ++ l2) (a1 ++ a2) := by
            intro l1 l2 a1 a2 g1 g2
            refine ⟨by simp [g1.1, g2.1], fun i x y hx hy => ?_⟩
            rcases Nat.lt_or_ge i l1.length with hlt | hge
            · rw [List.getElem?_append_left hlt] at hx
              rw [Array.getElem?_append_left (by rw [← g1.1]; exact hlt)] at hy
              exact g1.2 i x y hx hy
            · rw [List.getElem?_append_right hge] at hx
              rw [Array.getElem?_append_right (by rw [← g1.1]; exact hge)] at hy
              rw [g1.1] at hx
              exact g2.2 _ x y hx hy
          exact app (app ⟨f1, f3⟩ hargs) ⟨f2, f4⟩
        generalize hA : first ++ c.args.toList.map (evalO ts) ++ captured = args at h hall
        generalize hB : fi ++ c.args.map a.eval = cargs0 at hall
        have henter : ∀ {fn : Func}, P.funcs[g]? = some fn → fn.name ≠ "runtime.NumGoroutine" → fn.body.isSome = true → (invoke (.fn (.func g) ca) cargs0).run P w = .ok (.enter g (cargs0 ++ ca)) w := by
          intro fn g1 g2 g3
          have g2' : (fn.name == "runtime.NumGoroutine") = false := by simpa using g2
          have g3' : fn.body.isNone = false := by cases hb : fn.body <;> simp_all
          simp only [invoke, callFunc, Sem.run_bind, run_program, Result.andThen_ok, g1, g2', g3', Bool.false_eq_true, if_false, Sem.run_pure]
        unfold aEnterK at h
        split at h
        · -- nothing of ours goes in
          rename_i hcl
          have hcl : AV.closedL args = true := (Bool.and_eq_true_iff.1 hcl).1
          obtain ⟨⟨fn, q1, q2, q3⟩, hcall⟩ := hC.call _ _ _ _ _ h
          rw [henter q1 q2 q3]
          refine ⟨fun hx => (by cases hx), ?_⟩
          refine CallsIn.mono (F := fen ro) ((hcall M io0 w _ hI.alone (hall.free hcl _)).more (Nat.zero_le _)) ?_
          · rintro en w' ⟨e, H1, M', ι', hk, hs, he⟩
            simp only at hk
            split at hk
            · have hs' := hs.embed hI
              cases e with
              | ret v =>
                simp only at hk
                split at hk
                · rename_i hvc
                  cases en with
                  | returned cv => exact hv v H M' ι w' cv hk hs' (VR.free he hvc ι)
                  | _ => exact he.elim
                · cases hk
              | pan v =>
                simp only at hk
                split at hk
                · rename_i hvc
                  cases en with
                  | panicked chain =>
                    obtain ⟨cv, rfl, hc⟩ := he
                    exact hp v H M' ι w' cv hk hs' (VR.free hc hvc ι)
                  | _ => exact he.elim
                · cases hk
            · cases hk
        · split at h
          · -- a look
            obtain ⟨xs, h1, _, h3, h4⟩ := freezeLK_nat (f := freezeK H 8) (freezeK_nat 8) args _ h
            split at h1
            · rename_i hcl
              obtain ⟨⟨fn, q1, q2, q3⟩, hcall⟩ := hC.call _ _ _ _ _ h1
              rw [henter q1 q2 q3]
              refine ⟨fun hx => (by cases hx), ?_⟩
              have hall' : VRs (still M ι H w) io0 xs (cargs0 ++ ca) := by
                refine ⟨by rw [h3]; exact hall.1, fun i x y hx hy => ?_⟩
                have hi : i < args.length := by rw [← h3]; exact (List.getElem?_eq_some_iff.1 hx).1
                obtain ⟨x', q1, q2⟩ := h4 i _ (List.getElem?_eq_getElem hi)
                rw [hx] at q1; cases q1
                exact freezeK_ok hI 8 q2 (hall.2 i _ y (List.getElem?_eq_getElem hi) hy) io0
              refine CallsIn.mono (F := fen ro) ((hcall (still M ι H w) io0 w _ hI.look hall').more (Nat.zero_le _)) ?_
              · rintro en w' ⟨e, H1, M', ι', hk, hs, he⟩
                simp only at hk
                split at hk
                · have hs' := hs.looked hI
                  cases e with
                  | ret v =>
                    simp only at hk
                    split at hk
                    · rename_i hvp
                      cases en with
                      | returned cv => exact hv v H M ι w' cv hk hs' (VR.still he hvp M ι)
                      | _ => exact he.elim
                    · cases hk
                  | pan v => cases hk
                · cases hk
            · cases h1
          · split at h
            · -- lent
              obtain ⟨xs, h1, _, h3, h4⟩ := freezeLK_nat (f := lendK H 8) (lendK_nat 8) args _ h
              split at h1
              · rename_i hcl
                obtain ⟨⟨fn, q1, q2, q3⟩, hcall⟩ := hC.call _ _ _ _ _ h1
                rw [henter q1 q2 q3]
                refine ⟨fun hx => (by cases hx), ?_⟩
                have hall' : VRs (lent M ι H w) io0 xs (cargs0 ++ ca) := by
                  refine ⟨by rw [h3]; exact hall.1, fun i x y hx hy => ?_⟩
                  have hi : i < args.length := by rw [← h3]; exact (List.getElem?_eq_some_iff.1 hx).1
                  obtain ⟨x', q1, q2⟩ := h4 i _ (List.getElem?_eq_getElem hi)
                  rw [hx] at q1; cases q1
                  exact lendK_ok hI 8 q2 (hall.2 i _ y (List.getElem?_eq_getElem hi) hy) io0
                refine CallsIn.mono (F := fen ro) ((hcall (lent M ι H w) io0 w _ hI.lend hall').more (Nat.zero_le _)) ?_
                · rintro en w' ⟨e, H1, M', ι', hk, hs, he⟩
                  simp only at hk
                  split at hk
                  · have hs' := hs.backed hI
                    cases e with
                    | ret v =>
                      simp only at hk
                      split at hk
                      · rename_i hvc
                        obtain ⟨hvf, hk⟩ := aIf_none hk
                        cases en with
                        | returned cv => exact hv v H (backM M M') ι w' cv hk hs' (VR.free (VR.unlend he (fun a v hs hm => by unfold backM; rw [hs]; exact hm) hvf) hvc ι)
                        | _ => exact he.elim
                      · cases hk
                    | pan v => cases hk
                  · cases hk
              · cases h1
            · obtain ⟨⟨fn, q1, q2, q3⟩, hcall⟩ := hC.call _ _ _ _ _ h
              rw [henter q1 q2 q3]
              refine ⟨fun hx => (by cases hx), ?_⟩
              refine CallsIn.mono (F := fen ro) ((hcall M ι w _ hI hall).more (Nat.zero_le _)) ?_
              · rintro en w' ⟨e, H1, M', ι', hk, hs, he⟩
                cases e with
                | ret v =>
                  cases en with
                  | returned cv => exact hv v H1 M' ι' w' cv hk hs he
                  | _ => exact he.elim
                | pan v =>
                  cases en with
                  | panicked chain =>
                    obtain ⟨cv, rfl, hc⟩ := he
                    exact hp v H1 M' ι' w' cv hk hs hc
                  | _ => exact he.elim
      · -- a round
        rename_i l hfe
        rw [hfe] at hf
        cases hc : a.eval f <;> rw [hc] at hf <;> (try (cases hf; done))
        rename_i fv fi ca
        cases hf with
        | yld hio =>
        rename_i b nn
        rw [hex hc w]
        obtain ⟨fn, tmps, assign, body, w1, g1, g2⟩ := hC.round _ _ _ _ _ h M ι w _ b nn hI hargs hio
        have : (invoke (.fn (.yield b) #[]) (#[] ++ c.args.map a.eval)).run P w = .ok (.round b fn tmps assign body) w1 := by
          simp only [invoke, Array.empty_append]; exact g1
        rw [this]
        refine ⟨fun hx => (by cases hx), ?_⟩
        refine RoundIn.mono (F := fen ro) (show RoundIn (fen ro) (n - 1) P b fn tmps assign body w1 _ from ⟨g2.1, fun cc cs hroom => g2.2 cc cs (Fence.room_le hroom (by omega))⟩) ?_
        · rintro en w' ⟨e, H1, M', ι', hk, hs, he⟩
          cases e with
          | ret v =>
            cases en with
            | returned cv => exact hv v H1 M' ι' w' cv hk hs he
            | _ => exact he.elim
          | pan v =>
            cases en with
            | panicked chain =>
              obtain ⟨cv, rfl, hc⟩ := he
              exact hp v H1 M' ι' w' cv hk hs hc
            | _ => exact he.elim
      · cases h
  | panic x =>
    rw [ho] at h; simp only [aOpK] at h
    have hx := vr_evalO hI.glob hT x
    split at h
    · rename_i t v hxe
      rw [hxe] at hx
      cases hc : a.eval x <;> rw [hc] at hx <;> (try (cases hx; done))
      rename_i t' c
      have hx' := hx
      cases hx with
      | iface _ hvc =>
      rw [Oper.semAt_eq _ _ _ (fun c' hc' => by rw [ho] at hc'; cases hc')]
      have : (execOp a.eval o).run P w = .halt (.panic (.iface t c)) w := by
        simp [execOp, ho, Instr.panic, hc, goPanic]
      rw [this]
      exact hp _ H M ι w _ h (.refl hI) hx'
    · cases h
  | _ => exact plain (fun c' hc' => by rw [ho] at hc'; cases hc') (fun x hx => by rw [ho] at hx; cases hx)

end
end Go.Abs
