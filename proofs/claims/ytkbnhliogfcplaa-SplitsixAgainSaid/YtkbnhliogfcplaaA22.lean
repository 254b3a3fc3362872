/- Functions with a deferred call that recovers, first part. -/
import Derived.Test.YtkbnhliogfcplaaA15
import Derived.RecoverIn
namespace Go.Abs
open Go.RowKit

section
variable {P : Program} {n : Nat}

/-- Marks over other deferred calls. -/
theorem leaves_marksT {fn : Func} {tmps : Array Value} {R : Ending → World → Prop} {M : Mem} {ι : Io} {H : AH} {w : World} {M' : Mem} {ι' : Io} {H' : AH} {u : FrameMode} {tl : List Deferred} (hu : u ≠ .run)
    (hend : ∀ w', Stp M ι H w M' ι' H' w' → LeavesInM Fence.wide n P fn tmps R tl u w') : ∀ (rs : List Nat) (w' : World), Stp M ι H w M' ι' H' w' → rs.Nodup → (∀ r ∈ rs, w.heap.size ≤ r ∧ w'.heap[r]? = some (.deferred (some []))) →
      LeavesInM Fence.wide n P fn tmps R (rs.map markOf ++ tl) u w'
  | [], w', hs, _, _ => hend w' hs
  | r :: rs, w', hs, hn, hr => by
    obtain ⟨h1, h2⟩ := hr r (by simp)
    rw [List.nodup_cons] at hn
    refine ⟨hu, .inl ⟨r, w'.putObj r (.deferred none), rfl, run_takeDeferred h2, leaves_marksT hu hend rs _ (hs.shut h1 h2) hn.2 fun r' hr' => ?_⟩⟩
    obtain ⟨h3, h4⟩ := hr r' (by simp [hr'])
    exact ⟨h3, by rw [World.putObj_heap_other (by rintro rfl; exact hn.1 hr')]; exact h4⟩

/-- What the panic of a frame is, and whether it is recovered. -/
def modeOf : Option Value → Bool → FrameMode
  | none, _ => .returning
  | some c, b => .panicking [{ v := c, recovered := b }]

theorem modeOf_ne (x : Option Value) (b : Bool) : modeOf x b ≠ .run := by cases x <;> simp [modeOf]

theorem settle_modeOf (x : Option Value) : settle (modeOf x true) = .returning := by cases x <;> rfl

theorem recoverD_modeOf (x : Option Value) (c : Frame) (cs : List Frame) (h : c.mode = modeOf x false) :
    recoverD (c :: cs) = x.map fun v => (v, { c with mode := modeOf x true } :: cs) := by
  cases x with
  | none => simp only [recoverD, h, modeOf, Option.map]
  | some v => simp only [recoverD, h, modeOf, Option.map]

/-- An operation that gives a value or panics. -/
def onlyVal : Op → Bool
  | .binOp .. | .typeAssert .. | .extract .. => true
  | _ => false

theorem run_val {s : Sem Value} {w w' : World} {x : Next} (hr : (do pure (Next.value (← s)) : Sem Next).run P w = .ok x w') : ∃ v, x = .value v := by
  rw [Sem.run_bind] at hr
  cases h : s.run P w with
  | ok v w1 =>
    rw [h] at hr
    simp only [Result.andThen, Sem.run_pure, Result.ok.injEq] at hr
    exact ⟨_, hr.1.symm⟩
  | halt a w1 => rw [h] at hr; cases hr

theorem execOp_onlyVal {o : Oper} {ρ : Operand → Value} {w w' : World} {x : Next} (h : onlyVal o.op = true) (hr : (execOp ρ o).run P w = .ok x w') : ∃ v, x = .value v := by
  obtain ⟨d, op, t, p, af, g⟩ := o
  cases op with
  | binOp op xType a b i => exact run_val hr
  | typeAssert a t s ok => exact run_val hr
  | extract a i => exact run_val hr
  | _ => cases h

theorem wpOpsSIn_of_list {F : Fence} (hro : F.round = none) {ops : Array Oper} {Q : Exit → Act → List Frame → World → Prop} {cs : List Frame} : ∀ (l : List Oper) (k : Nat) (a : Act) (w : World), (∀ j, l[j]? = ops[k + j]?) → (∀ o ∈ l, onlyVal o.op = true) →
    wpListIn F n P ops (fun e a w => Q e a cs w) l a w → wpOpsSIn F n P ops Q (List.range' k l.length) a cs w
  | [], k, a, w, _, _, h => h
  | o :: l, k, a, w, hj, hv, h => by
    have h0 : ops[k]? = some o := by simpa using (hj 0).symm
    have hj' : ∀ j, l[j]? = ops[k + 1 + j]? := fun j => by have := hj (j + 1); simpa [Nat.add_assoc, Nat.add_comm 1 j] using this
    have ih := fun a w => wpOpsSIn_of_list (Q := Q) (cs := cs) hro l (k + 1) a w hj' (fun o ho => hv o (by simp [ho]))
    have hv0 := hv o (by simp)
    simp only [List.length_cons, List.range'_succ, wpOpsSIn, h0]
    simp only [wpListIn] at h
    split at h
    · rename_i hw
      obtain ⟨g1, g2⟩ := h
      refine ⟨g1, ?_⟩
      rw [if_pos hw]
      rw [hro, Oper.semAt_none] at g2
      cases hx : (execOp a.eval o).run P w with
      | ok x w' =>
        obtain ⟨v, rfl⟩ := execOp_onlyVal hv0 hx
        rw [hx] at g2
        exact ih _ _ g2
      | halt s w' =>
        rw [hx] at g2
        cases s <;> first | exact g2 | exact g2.elim
    · rename_i hw
      obtain ⟨g1, g2⟩ := h
      refine ⟨g1, ?_⟩
      rw [if_neg hw]
      exact ih _ _ g2

theorem run_recover {o : Oper} {ρ : Operand → Value} {w : World} (h : isRec o = true) : (execOp ρ o).run P w = .ok .recover w := by
  obtain ⟨d, op, t, p, af, g⟩ := o
  cases op with
  | call c =>
    obtain ⟨ce, xs, ts⟩ := c
    cases ce with
    | builtin b =>
      cases b with
      | recover => simp [execOp, resolve, invoke, builtin]
      | _ => cases h
    | _ => cases h
  | _ => cases h

/-- The value of the panic, if there is one. -/
def PanR (M : Mem) (ι : Io) : Option AV → Option Value → Prop
  | none, none => True
  | some v, some c => VR M ι v c
  | _, _ => False

/-- What a deferred call comes to that recovers. -/
def CallDOK (P : Program) (f : FuncId) (rv : Option AV) (args : List AV) (H : AH) (k : KE) (r : Fin') : Prop :=
  ∀ (M : Mem) (ι : Io) (w : World) (cargs : Array Value) (rc : Option Value), Inv M ι H w → VRs M ι args cargs → PanR M ι rv rc →
    CallsDIn Fence.wide 0 P f cargs (modeOf rc false) w fun en u' w' => u' = modeOf rc true ∧ ∃ e H' M' ι', k e H' = some r ∧ Stp M ι H w M' ι' H' w' ∧ EndR M' ι' e en

theorem getD_put {a : Act} {d : Tmp} {v : Value} (h : d < a.tmps.size) : (a.put (some d) v).eval (.tmp d) = v := by
  simp [Act.put, Act.eval, h]

theorem aDBodyK_ok {C : Ctx} {r : Fin'} (hC : CtxOK P C) {f : FuncId} {fn : Func} {rv : Option AV} {args : List AV} {H : AH} {k : KE} (hf : P.funcs[f]? = some fn)
    (hL : ∀ a c, fn.body = some (.seq a c) → LoopsOK C c) (h : aDBodyK C fn rv args H k = some r) : CallDOK P f rv args H k r := by
  intro M ι w cargs rc hI ha hrc
  unfold aDBodyK at h
  split at h
  · rename_i id ops c hb
    split at h
    · rename_i o1 o2 hops
      split at h
      · rename_i d hd
        split at h
        · cases h
        rename_i hn
        simp only [Bool.and_eq_true, decide_eq_true_eq, beq_iff_eq, Bool.not_eq_true', Option.isNone_iff_eq_none] at hn
        obtain ⟨⟨⟨⟨⟨⟨⟨⟨n1, n2⟩, n3⟩, n4⟩, n5⟩, n6⟩, n7⟩, n8⟩, n9⟩ := hn
        have hops' : ops = #[o1, o2] := by cases ops; simpa using hops
        have hasg : o2.op = .assign (.tmp d) := by
          split at n9
          · rename_i d' he; rw [he]; simp only [beq_iff_eq] at n9; rw [n9]
          · cases n9
        refine callsDIn_of_wpSIn hf hb trivial ?_
        intro c₀ cs hm
        refine wpSIn_seq (wpSIn_region ?_)
        subst hops'
        have hT0 : TR M ι C.nt (numbered 0 args) (cargs ++ Array.replicate (fn.ntmps - cargs.size) undef) := by
          refine ⟨by simp; rw [← ha.1, ← n2]; omega, fun t => ?_⟩
          rw [numbered_get]
          simp only [Nat.zero_le, if_true, Nat.sub_zero]
          rw [List.getD_eq_getElem?_getD, Array.getD_eq_getD_getElem?]
          rcases Nat.lt_or_ge t args.length with hlt | hge
          · have hlt2 : t < cargs.size := by rw [← ha.1]; exact hlt
            rw [List.getElem?_eq_getElem hlt, Array.getElem?_append_left hlt2, Array.getElem?_eq_getElem hlt2]
            exact ha.2 t _ _ (List.getElem?_eq_getElem hlt) (Array.getElem?_eq_getElem hlt2)
          · rw [List.getElem?_eq_none hge]
            exact .junk _
        generalize (cargs ++ Array.replicate (fn.ntmps - cargs.size) undef) = tm at hT0
        have rest : ∀ x : Value, VR M ι (rv.getD .nili) x → wpOpsSIn Fence.wide 0 P #[o1, o2] (Exit.thenS (c.wpSIn Fence.wide 0 P (bodyPostS P fn c₀ cs fun en u' w' => u' = modeOf rc true ∧ ∃ e H' M' ι', k e H' = some r ∧ Stp M ι H w M' ι' H' w' ∧ EndR M' ι' e en)) (bodyPostS P fn c₀ cs fun en u' w' => u' = modeOf rc true ∧ ∃ e H' M' ι', k e H' = some r ∧ Stp M ι H w M' ι' H' w' ∧ EndR M' ι' e en)) [1] (Act.put { tmps := tm, defers := [] } o1.dst x) ({ c₀ with mode := modeOf rc true } :: cs) w := by
          intro x hx
          have hT1 := TR.put (a := { tmps := tm, defers := [] }) hT0 n6 hx
          have hT2 := TR.put hT1 n7 hx
          have hev : (Act.put { tmps := tm, defers := [] } o1.dst x).eval (.tmp d) = x := by
            rw [hd]
            refine getD_put ?_
            have hs := hT0.1
            rw [hd] at n6
            simp only [dstOk, decide_eq_true_eq] at n6
            show d < tm.size
            exact Nat.lt_of_lt_of_le n6 (Nat.le_of_eq hs.symm)
          have h1 : (#[o1, o2] : Array Oper)[1]? = some o2 := rfl
          simp only [wpOpsSIn, h1]
          refine ⟨fun _ _ => trivial, ?_⟩
          simp only [Region.wanted, n5, if_true]
          simp only [execOp, hasg, Sem.run_pure, hev]
          refine wpSIn_of_wpIn rfl ?_
          refine aCodeK_ok (ro := none) (base := (w.heap.size, [], true)) (M := M) (ι := ι) hC (fun _ => rfl) (fun _ => n8) c (hL _ c hb) h hI hT2 (by rw [put_defers, put_defers]; exact Dfs.nil (Nat.le_refl _)) ?_
          intro ex ts' H1 hx en M' ι' a' w' g1 g2 g3 g4
          obtain ⟨_, rs, hrs, _, hnil, _⟩ := g3
          obtain rfl := hnil rfl
          have fin : resultsK C.E ts' H1 fn.results.toList (fun vs => k (.ret (oneOf (szTs C.E fn.resultTypes.toList vs))) H1) = some r →
              a'.defers = [] ∧ ∃ u', ({ c₀ with mode := modeOf rc true } :: cs : List Frame) = { c₀ with mode := u' } :: cs ∧ ∃ v, (results fn a'.tmps).run P w' = .ok v w' ∧ (u' = modeOf rc true ∧ ∃ e H' M' ι', k e H' = some r ∧ Stp M ι H w M' ι' H' w' ∧ EndR M' ι' e (.returned v)) := by
            intro hvs
            obtain ⟨vs, c', heq, q1, q2⟩ := results_ok (P := P) (w := w') hC.env g1.inv g2 hvs
            exact ⟨by simpa using hrs, _, rfl, c', q1, rfl, _, _, M', ι', heq, g1, q2 _⟩
          cases ex with
          | normal =>
            cases en with
            | normal => exact fin hx
            | _ => exact g4.elim
          | exit i => cases hx
          | ret =>
            cases en with
            | ret => exact fin hx
            | _ => exact g4.elim
          | pan v =>
            cases en with
            | panic ch => exact ⟨by simpa using hrs, _, rfl, rfl, _, _, M', ι', hx, g1, g4⟩
            | _ => exact g4.elim
        show wpOpsSIn _ _ _ _ _ [0, 1] _ _ _
        have h0 : (#[o1, o2] : Array Oper)[0]? = some o1 := rfl
        rw [wpOpsSIn]
        simp only [h0]
        refine ⟨fun _ _ => trivial, ?_⟩
        simp only [Region.wanted, n4, if_true, run_recover n3, recoverD_modeOf rc c₀ cs hm]
        match rv, rc, hrc with
        | none, none, _ =>
          have : ({ c₀ with mode := modeOf none true } : Frame) = c₀ := by
            have : c₀.mode = modeOf none true := hm
            rw [← this]
          have h2 := rest .nilIface .nili
          rw [this] at h2
          exact h2
        | some v, some x, hv => exact rest x hv
      · cases h
    · cases h
  · cases h

/-- Code, in frames of function i. -/
def wpV (i : FuncId) (P : Program) (c : Code) (Q : Exit → Act → World → Prop) (a : Act) (w : World) : Prop :=
  ∀ (b : Frame) (k : List Item) (cs : List Frame), b.roundOf = none → b.fn = i →
    ∃ e a' w', Q e a' w' ∧ ArrivesIn (Machine.fenced P (fen none)) P (lone (b.atR a (.code c :: k)) cs w) b k cs e a' w'

theorem room_fen (n : Nat) : (fen none).room n := fun _ h => by simp [fen, Fence.wide] at h
theorem calm_fen {P : Program} {m : Machine} : m.fenced P (fen none) := by
  intro g _
  refine ⟨fun h => ?_, Or.inl trivial, fun _ _ => trivial, room_fen _⟩
  simp [fen, Fence.wide] at h

section
variable {i : FuncId} {Q : Exit → Act → World → Prop} {a : Act} {w : World}
theorem wpV_of {c : Code} (h : c.wpIn (fen none) 0 P Q a w) : wpV i P c Q a w := fun b k cs hro _ => h b k cs hro trivial (room_fen _)

theorem wpV_seq {x y : Code} (h : wpV i P x (Exit.then (wpV i P y Q) Q) a w) : wpV i P (.seq x y) Q a w := by
  intro b k cs hro hb
  obtain ⟨e, a₁, w₁, hq, harr⟩ := h b (.code y :: k) cs hro hb
  have hs := ArrivesIn.of_steps (StepsIn.one (calm_fen (P := P)) (stepR_seq (b := b) (a := a) (k := k) (cs := cs) (w := w) (x := x) (y := y))) harr
  cases e with
  | normal =>
    obtain ⟨e₂, a₂, w₂, hq₂, harr₂⟩ := hq b k cs hro hb
    exact ⟨e₂, a₂, w₂, hq₂, .of_steps hs harr₂⟩
  | _ => exact ⟨_, a₁, w₁, hq, ArrivesIn.pass (x := .code y) rfl (fun _ _ => .inl (fun h => by cases h)) hs⟩

theorem wpV_block {id : Nat} {c : Code} (h : wpV i P c (Exit.inBlock id Q) a w) : wpV i P (.block id c) Q a w := by
  intro b k cs hro hb
  obtain ⟨e, a₁, w₁, hq, harr⟩ := h b (.inBlock id :: k) cs hro hb
  have hs := ArrivesIn.of_steps (StepsIn.one (calm_fen (P := P)) (stepR_block (b := b) (a := a) (k := k) (cs := cs) (w := w) (id := id) (c := c))) harr
  have none' : ¬ b.roundOf.isSome = true := by rw [hro]; decide
  cases e with
  | normal => exact ⟨.normal, a₁, w₁, hq, StepsIn.trans hs (.one calm_fen stepR_inBlock)⟩
  | exit j =>
    rcases Decidable.em (j = id) with rfl | hne
    · exact ⟨.normal, a₁, w₁, by simpa [Exit.inBlock] using hq, hs.1 k (by simp [exitTo])⟩
    · have hne' : (id == j) = false := by simpa using fun h => hne h.symm
      exact ⟨.exit j, a₁, w₁, by simpa [Exit.inBlock, hne] using hq, fun k' hk => hs.1 k' (by simpa [exitTo, hne'] using hk), fun h _ => absurd h none'⟩
  | goto l => exact ⟨.goto l, a₁, w₁, hq, fun k' hk => hs.1 k' (by simpa [gotoIn] using hk), fun h _ => absurd h none'⟩
  | ret => exact ⟨.ret, a₁, w₁, hq, hs⟩
  | panic ch => exact ⟨.panic ch, a₁, w₁, hq, hs⟩
  | outgrown => exact ⟨.outgrown, a₁, w₁, hq, hs⟩

/-- A loop over a function, in a frame of function i. -/
theorem wpV_range {g : Operand} {ps : Array Tmp} {assign body : Code}
    (h : ∃ (l : Nat) (mark : List Deferred) (w₁ : World) (d : Deferred) (w₁' : World) (f : FuncId) (args : Array Value) (w₂ : World),
      (Instr.enterLoop i a.tmps ps assign body (fen none).round).run P w = .ok (l, mark) w₁ ∧
      (resolve a.eval (rangeCall g l) 0).run P w₁ = .ok d w₁' ∧
      (∀ f', Target.leads P w₁' d.target d.args = some f' → (fen none).fn f') ∧
      (invoke d.target d.args).run P w₁' = .ok (.enter f args) w₂ ∧
      ((fen none).depth.isSome = true → 1 ≤ n) ∧
      CallsIn (fen none) (n - 1) P f args w₂ (rangePost (fen none) n P l Q { a with defers := mark ++ a.defers })) :
    wpV i P (.rangeFunc g ps assign body) Q a w := by
  intro b k cs hro hb
  obtain ⟨l, mark, w₁, d, w₁', f, args, w₂, he, hres, hlead, hinv, hn, hF, hcall⟩ := h
  subst hb
  have hr : (fen none).room (cs.length + 1 + n) := room_fen _
  have hb : (fen none).fn b.fn := trivial
  rw [show (fen none).round = b.roundOf from hro.symm] at he
  have h0 : (lone (b.atR a (.code (.rangeFunc g ps assign body) :: k)) cs w).fenced P (fen none) := calm_fen
  have henter := stepR_rangeFunc (P := P) (b := b) (a := a) (k := k) (cs := cs) (w := w) he hres hinv
  obtain ⟨e, w₃, fr, hR, hsteps, hfn, hleave⟩ := hcall (b.atR { a with defers := mark ++ a.defers } (.inRangeFunc l :: k) :: cs) (room_fen _)
  cases e with
  | outgrown =>
    obtain ⟨a₀, w₀, hq⟩ := hR
    exact ⟨.outgrown, a₀, w₀, hq, .inr (Outgrown.of_steps (.one henter) hsteps)⟩
  | returned v =>
    obtain ⟨jump, w₄, hend, hj⟩ := hR
    have sback : StepsIn (Machine.fenced P (fen none)) P (lone (b.atR a (.code (.rangeFunc g ps assign body) :: k)) cs w) (lone (b.atR { a with defers := mark ++ a.defers } ((jump.map Item.code).toList ++ k)) cs w₄) := by
      refine .head h0 henter (StepsIn.trans hsteps (.head calm_fen ?_ (.one calm_fen (stepR_endRangeFunc hend))))
      rw [← finish_atR_inRangeFunc l v]; exact step_leave_returned hleave
    cases jump with
    | none => exact ⟨.normal, _, w₄, hj, sback⟩
    | some c =>
      obtain ⟨e', a'', w₅, hq, harr⟩ := hj b k cs hro hb hr
      exact ⟨e', a'', w₅, hq, .of_steps sback harr⟩
  | panicked chain =>
    refine ⟨.panic chain, _, w₃, hR, .inRangeFunc l :: k, .head h0 henter (StepsIn.trans hsteps (.one calm_fen ?_))⟩
    rw [← Frame.raise_atR]; exact step_leave_panicked hleave
end

theorem aRangeK_ok {C : Ctx} {r : Fin'} (hC : CtxOK P C) (hr : C.ranges = false) {base : Base} (hnm : base.2.2 = false) (i : Nat) : ∀ (c : Code) (_ : LoopsOK C c) (_ : ∀ g ps asg bd, Code.rangeFunc g ps asg bd ∈ rangesOf c → recTab (1000000000 + 10000 * i + loopId bd) = some (ps.toList, asg, bd)) {M : Mem} {ι : Io} {H : AH} {w : World} {ts : ATs} {a : Act} {k : KC} {Q : Exit → Act → World → Prop},
    aRangeK C i c ts H k = some r → Inv M ι H w → TR M ι C.nt ts a.tmps → Dfs base w a.defers → Behind M ι H w C.nt base Q k r → wpV i P c Q a w := by
  intro c
  induction c with
  | seq x y ihx ihy =>
    intro hL hV M ι H w ts a k Q h hI hT hD hk
    simp only [aRangeK] at h
    refine wpV_seq (ihx (hL.mem (fun b hb => by simp [loopsOf, hb]) (fun b hb => by simp [rangesOf, hb])) (fun g ps asg bd hb => hV g ps asg bd (by simp [rangesOf, hb])) h hI hT hD ?_)
    intro ex ts' H' hx e M' ι' a' w' g1 g2 g3 g4
    cases ex with
    | normal =>
      cases e with
      | normal => exact ihy (hL.mem (fun b hb => by simp [loopsOf, hb]) (fun b hb => by simp [rangesOf, hb])) (fun g ps asg bd hb => hV g ps asg bd (by simp [rangesOf, hb])) hx g1.inv g2 g3 (hk.later g1)
      | _ => exact g4.elim
    | exit j =>
      cases e with
      | exit j' => exact hk _ ts' H' hx (.exit j') M' ι' a' w' g1 g2 g3 g4
      | _ => exact g4.elim
    | ret =>
      cases e with
      | ret => exact hk _ ts' H' hx .ret M' ι' a' w' g1 g2 g3 g4
      | _ => exact g4.elim
    | pan v =>
      cases e with
      | panic ch => exact hk _ ts' H' hx (.panic ch) M' ι' a' w' g1 g2 g3 g4
      | _ => exact g4.elim
  | block id b ih =>
    intro hL hV M ι H w ts a k Q h hI hT hD hk
    simp only [aRangeK] at h
    refine wpV_block (ih (hL.mem (fun b' hb' => by simp [loopsOf, hb']) (fun b' hb' => by simp [rangesOf, hb'])) (fun g ps asg bd hb => hV g ps asg bd (by simp [rangesOf, hb])) h hI hT hD ?_)
    intro ex ts' H' hx e M' ι' a' w' g1 g2 g3 g4
    cases ex with
    | normal =>
      cases e with
      | normal => exact hk _ ts' H' hx .normal M' ι' a' w' g1 g2 g3 trivial
      | _ => exact g4.elim
    | exit i =>
      cases e with
      | exit j =>
        obtain rfl : i = j := g4
        simp only [Exit.inBlock]
        simp only at hx
        split at hx
        · rename_i hi
          rw [if_pos (by simpa using hi)]
          exact hk _ ts' H' hx .normal M' ι' a' w' g1 g2 g3 trivial
        · rename_i hi
          rw [if_neg (by simpa using hi)]
          exact hk _ ts' H' hx (.exit i) M' ι' a' w' g1 g2 g3 rfl
      | _ => exact g4.elim
    | ret =>
      cases e with
      | ret => exact hk _ ts' H' hx .ret M' ι' a' w' g1 g2 g3 g4
      | _ => exact g4.elim
    | pan v =>
      cases e with
      | panic ch => exact hk _ ts' H' hx (.panic ch) M' ι' a' w' g1 g2 g3 g4
      | _ => exact g4.elim
  | rangeFunc g ps asg bd _ _ =>
    intro hL hV M ι H w ts a k Q h hI hT hD hk
    simp only [aRangeK] at h
    split at h
    · rename_i hq
      have hq := Nat.le_of_ble_eq_true hq
      exact wpV_range (rangeAt_ok (n := 0) hnm hC.call h (hV g ps asg bd (by simp [rangesOf])) hI hT hD hk i (fun _ => by show (i : Nat) = _; omega))
    · cases h
  | _ =>
    intro hL hV M ι H w ts a k Q h hI hT hD hk
    simp only [aRangeK] at h
    exact wpV_of (aCodeK_ok (ro := none) hC (fun _ => rfl) (fun _ => hr) _ hL h hI hT hD hk)

end
end Go.Abs
