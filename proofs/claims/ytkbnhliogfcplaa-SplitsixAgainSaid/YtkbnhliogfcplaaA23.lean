/- Functions with a deferred call that recovers, second part: the function that defers it. -/
import Derived.Test.YtkbnhliogfcplaaA22
namespace Go.Abs
open Go.RowKit

section
variable {P : Program}

theorem run_defer {o : Oper} {ρ : Operand → Value} {w : World} {g : FuncId} {xs : List Operand} (hρ : ρ (.func g) = .func (.func g) #[] #[]) (h : deferOf o = some (g, xs)) :
    ∃ args : Array Value, args.toList = xs.map ρ ∧ (execOp ρ o).run P w = .ok (.defer { target := .fn (.func g) #[], args := args }) w := by
  obtain ⟨d, op, t, p, af, gd⟩ := o
  cases op with
  | defer c =>
    obtain ⟨ce, as', ts⟩ := c
    cases ce with
    | value v =>
      cases v with
      | func g' =>
        simp only [deferOf, Option.some.injEq, Prod.mk.injEq] at h
        obtain ⟨rfl, rfl⟩ := h
        refine ⟨as'.map ρ, by simp, ?_⟩
        simp [execOp, resolve, Deferred.ofValue, hρ]
      | _ => cases h
    | _ => cases h
  | _ => cases h

theorem CallsDIn.imp {F : Fence} {n : Nat} {f : FuncId} {args : Array Value} {u : FrameMode} {w : World} {R R' : Ending → FrameMode → World → Prop} (h : CallsDIn F n P f args u w R) (hR : ∀ e u' w', R e u' w' → R' e u' w') : CallsDIn F n P f args u w R' :=
  ⟨h.1, fun c cs hm hr => let ⟨e, u', w', fr, q, rest⟩ := h.2 c cs hm hr; ⟨e, u', w', fr, hR _ _ _ q, rest⟩⟩

/-- The deferred call, at a frame's end. -/
theorem leaves_defer {fn : Func} {tmps : Array Value} {R : Ending → World → Prop} {M : Mem} {ι : Io} {H : AH} {w : World} {g : FuncId} {rv : Option AV} {rc : Option Value} {args : List AV} {cargs : Array Value} {k : KE} {r : Fin'}
    (hg : Enters P g) (hc : CallDOK P g rv args H k r) (hI : Inv M ι H w) (ha : VRs M ι args cargs) (hr : PanR M ι rv rc)
    (hk : ∀ e H' M' ι' w', k e H' = some r → Stp M ι H w M' ι' H' w' → (∃ v, e = .ret v) ∧ LeavesIn Fence.wide 0 P fn tmps R [] .returning w') :
    LeavesInM Fence.wide 0 P fn tmps R [{ target := .fn (.func g) #[], args := cargs }] (modeOf rc false) w := by
  obtain ⟨fn', q1, q2, q3⟩ := hg
  have henter : (invoke (.fn (.func g) #[]) cargs).run P w = .ok (.enter g cargs) w := by
    have g2' : (fn'.name == "runtime.NumGoroutine") = false := by simpa using q2
    have g3' : fn'.body.isNone = false := by cases hb : fn'.body <;> simp_all
    simp only [invoke, callFunc, Sem.run_bind, run_program, Result.andThen_ok, q1, g2', g3', Bool.false_eq_true, if_false, Sem.run_pure, Array.append_empty]
  refine ⟨modeOf_ne _ _, .inr ⟨fun h => (by cases h), .func g, #[], g, cargs, rfl, henter, fun _ _ => trivial, ?_⟩⟩
  refine CallsDIn.imp (hc M ι w cargs rc hI ha hr) ?_
  rintro e u' w' ⟨rfl, e', H', M', ι', hk', hs, he⟩
  obtain ⟨⟨v, rfl⟩, hl⟩ := hk e' H' M' ι' w' hk' hs
  cases e with
  | returned c =>
    show LeavesInM Fence.wide 0 P fn tmps R [] (settle (modeOf rc true)) w'
    rw [settle_modeOf]
    exact hl
  | _ => exact he.elim

theorem LoopsOK.region {C : Ctx} {i : Nat} {ops : Array Oper} {d : Bool} : LoopsOK C (.region i ops d) := ⟨fun b hb => by simp [loopsOf] at hb, fun _ g ps asg bd hb => by simp [rangesOf] at hb⟩

/-- A function, out of its body in its own frames. -/
theorem callsIn_of_wpV {f : FuncId} {fn : Func} {c : Code} {args : Array Value} {w : World} {R : Ending → World → Prop} (hf : P.funcs[f]? = some fn) (hb : fn.body = some c)
    (h : wpV f P c (bodyPostM Fence.wide 0 P fn R) { tmps := args ++ Array.replicate (fn.ntmps - args.size) undef, defers := [] } w) : CallsIn Fence.wide 0 P f args w R := by
  refine ⟨trivial, fun cs hr => ?_⟩
  obtain ⟨b, rfl, hb2, hb4, hb3⟩ : ∃ b : Frame, b.fn = f ∧ b.roundOf = none ∧ b.kind = .normal ∧ Frame.enter P f args .normal = b.atR { tmps := args ++ Array.replicate (fn.ntmps - args.size) undef, defers := [] } [.code c] :=
    ⟨{ (default : Frame) with fn := f, kind := .normal, roundOf := none }, rfl, rfl, rfl, by simp [Frame.enter, Frame.atR, hf, hb]⟩
  obtain ⟨e, a', w', hq, harr⟩ := h b [] cs hb2 rfl
  rw [← hb3] at harr
  have out : ∀ (fr : Frame) (u : FrameMode), fr.mode = u → fr.defers = a'.defers → fr.tmps = a'.tmps → fr.fn = b.fn → fr.kind = .normal → LeavesInM Fence.wide 0 P fn a'.tmps R a'.defers u w' → StepsIn (Machine.fenced P (fen none)) P (lone (Frame.enter P b.fn args .normal) cs w) (lone fr cs w') →
      ∃ e w' fr, R e w' ∧ ComesIn (Machine.fenced P Fence.wide) P (lone (Frame.enter P b.fn args .normal) cs w) (lone fr cs w') e ∧ fr.fn = b.fn ∧ fr.leaving P w' e := by
    intro fr u h1 h2 h3 h4 h5 h6 h7
    obtain ⟨e', w'', fr', hR, hs, hfn, hl⟩ := leaves_stepsInM (F := Fence.wide) (n := 0) a'.defers u w' fr cs h1 h2 h3 (by rw [h4]; exact hf) h5 trivial hr h6
    exact ⟨e', w'', fr', hR, ComesIn.of_steps h7 hs, hfn.trans h4, hl⟩
  have hk : ∀ a k, (b.atR a k).kind = .normal := fun a k => hb4
  cases e with
  | normal => exact out { b.atR a' [] with mode := .returning } _ rfl rfl rfl rfl hb4 hq (StepsIn.trans harr (.one calm_fen (stepR_end hb2)))
  | ret =>
    obtain ⟨todo, hs⟩ := harr.1 hb2
    exact out { b.atR a' todo with mode := .returning } _ rfl rfl rfl rfl hb4 hq hs
  | panic chain =>
    obtain ⟨todo, hs⟩ := harr
    exact out { b.atR a' todo with mode := .panicking chain } _ rfl rfl rfl rfl hb4 hq hs
  | outgrown => exact ⟨.outgrown, w', b, hq, harr.resolve_left (by rw [hb4]; simp), rfl, trivial⟩
  | _ => exact hq.elim

theorem aDeferK_ok {C : Ctx} {D : FuncId → Option DSpec} {r : Fin'} (hC : CtxOK P C) (hrg : C.ranges = false) (hD : ∀ g S, D g = some S → Enters P g ∧ ∀ rv args H k r, S rv args H k = some r → CallDOK P g rv args H k r)
    {f : FuncId} {fn : Func} {args : List AV} {H : AH} {k : KE} (hf : P.funcs[f]? = some fn)
    (hL : ∀ a b c, fn.body = some (.seq a (.seq b c)) → LoopsOK C c ∧ ∀ g ps asg bd, Code.rangeFunc g ps asg bd ∈ rangesOf c → recTab (1000000000 + 10000 * f + loopId bd) = some (ps.toList, asg, bd)) (h : aDeferK C f D fn args H k = some r) : CallOK P f args H k r := by
  intro M ι w cargs hI ha
  unfold aDeferK at h
  split at h
  · rename_i i0 ops0 d0 i1 ops c hb
    split at h
    · rename_i o hops
      split at h
      · rename_i g xs hdo
        split at h
        · rename_i S hS
          obtain ⟨hE, hS⟩ := hD g S hS
          split at h
          · cases h
          rename_i hn
          simp only [Bool.and_eq_true, decide_eq_true_eq, beq_iff_eq, Option.isNone_iff_eq_none] at hn
          obtain ⟨⟨⟨n1, n2⟩, n3⟩, n4⟩ := hn
          have hops' : ops = #[o] := by cases ops; simpa using hops
          subst hops'
          refine callsIn_of_wpV hf hb (wpV_seq (wpV_of ?_))
          refine aCodeK_ok (ro := none) (base := (w.heap.size, [], true)) (M := M) (ι := ι) hC (fun _ => rfl) (fun _ => hrg) _ LoopsOK.region h hI ?_ (Dfs.nil (Nat.le_refl _)) ?_
          · refine ⟨by simp; rw [← ha.1, ← n2]; omega, fun t => ?_⟩
            rw [numbered_get]
            simp only [Nat.zero_le, if_true, Nat.sub_zero]
            rw [List.getD_eq_getElem?_getD, Array.getD_eq_getD_getElem?]
            rcases Nat.lt_or_ge t args.length with hlt | hge
            · have hlt2 : t < cargs.size := by rw [← ha.1]; exact hlt
              rw [List.getElem?_eq_getElem hlt, Array.getElem?_append_left hlt2, Array.getElem?_eq_getElem hlt2]
              exact ha.2 t _ _ (List.getElem?_eq_getElem hlt) (Array.getElem?_eq_getElem hlt2)
            · rw [List.getElem?_eq_none hge]
              exact .junk _
          intro ex ts H1 hx en M1 ι1 a w1 g1 g2 g3 g4
          obtain ⟨hbs, rs, hrs, _, hnil, _⟩ := g3
          obtain rfl := hnil rfl
          simp only [List.map_nil, List.nil_append] at hrs
          cases ex with
          | normal =>
            cases en with
            | normal =>
              refine wpV_seq (wpV_of (wpIn_region_list ?_))
              obtain ⟨dargs, hda, hrun⟩ := run_defer (P := P) (o := o) (ρ := a.eval) (w := w1) rfl hdo
              simp only [wpListIn, Region.wanted, n3, if_true]
              refine ⟨fun _ _ => trivial, ?_⟩
              have hsem : o.semAt (fen none).round a.eval = execOp a.eval o := Oper.semAt_none _ _
              rw [hsem, hrun]
              rw [Oper.uponIn_defer, n4, hrs]
              have hargs : VRs M1 ι1 (xs.map (evalO ts)) dargs := by
                refine ⟨by rw [← Array.length_toList, hda]; simp, fun i x y h1 h2 => ?_⟩
                rw [← Array.getElem?_toList, hda] at h2
                simp only [List.getElem?_map, Option.map_eq_some_iff] at h1 h2
                obtain ⟨z, hz, rfl⟩ := h1
                obtain ⟨z', hz', rfl⟩ := h2
                rw [hz] at hz'; cases hz'
                exact vr_evalO g1.inv.glob g2 z
              refine aRangeK_ok (base := (w1.heap.size, [{ target := .fn (.func g) #[], args := dargs }], false)) (M := M1) (ι := ι1) hC hrg rfl f c (hL _ _ c hb).1 (hL _ _ c hb).2 hx g1.inv g2 (Dfs.nil (Nat.le_refl _)) ?_
              intro ex ts2 H2 hx2 en2 M2 ι2 a2 w2 k1 k2 k3 k4
              obtain ⟨_, rs2, hrs2, hnd2, _, hrm2⟩ := k3
              have fin : ∀ (rv : Option AV) (rc : Option Value), PanR M2 ι2 rv rc →
                  S rv (xs.map (evalO ts)) H2 (fun (e : AEnd) H => match e with
                    | .ret _ => resultsK C.E ts2 H fn.results.toList fun vs => k (.ret (oneOf (szTs C.E fn.resultTypes.toList vs))) H
                    | .pan _ => none) = some r →
                  LeavesInM Fence.wide 0 P fn a2.tmps (fun en w' => ∃ e H' M' ι', k e H' = some r ∧ Stp M ι H w M' ι' H' w' ∧ EndR M' ι' e en) a2.defers (modeOf rc false) w2 := by
                intro rv rc hp hs
                rw [hrs2]
                refine leaves_marksT (modeOf_ne _ _) (fun w3 s3 => ?_) rs2 w2 k1 hnd2 hrm2
                refine leaves_defer hE (hS _ _ _ _ _ hs) s3.inv ⟨hargs.1, fun i x y h1 h2 => (hargs.2 i x y h1 h2).mono k1.mem k1.io⟩ hp ?_
                intro e H' M' ι' w' he s4
                cases e with
                | pan v => cases he
                | ret v =>
                  refine ⟨⟨v, rfl⟩, ?_⟩
                  obtain ⟨vs, c', heq, q1, q2⟩ := results_ok (P := P) (w := w') hC.env s4.inv (k2.stp s4) he
                  exact ⟨c', q1, _, _, M', ι', heq, g1.trans (s3.trans s4), q2 _⟩
              cases ex with
              | normal =>
                cases en2 with
                | normal => exact fin none none trivial hx2
                | _ => exact k4.elim
              | exit i => cases hx2
              | ret =>
                cases en2 with
                | ret => exact fin none none trivial hx2
                | _ => exact k4.elim
              | pan v =>
                cases en2 with
                | panic ch =>
                  obtain ⟨x, rfl, hv⟩ := k4
                  exact fin (some v) (some x) hv hx2
                | _ => exact k4.elim
            | _ => exact g4.elim
          | _ => cases hx
        · cases h
      · cases h
    · cases h
  · cases h

end
end Go.Abs
