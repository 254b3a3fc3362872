/- One operation of the evaluator's against the model's. -/
import Derived.Test.YteaceebonkpipaaA25
namespace Go.Abs
open Go.RowKit

def EndR (M : Mem) (ι : Io) : AEnd → Ending → Prop
  | .ret v, .returned c => VR M ι v c
  | .pan v, .panicked chain => ∃ c, chain = [{ v := c, recovered := false }] ∧ VR M ι v c
  | _, _ => False

/-- What a call of a function comes to. -/
def CallOK (P : Program) (f : FuncId) (args : List AV) (H : AH) (k : KE) (r : Fin') : Prop :=
  ∀ (M : Mem) (ι : Io) (w : World) (cargs : Array Value), Inv M ι H w → VRs M ι args cargs →
    CallsIn Fence.wide 0 P f cargs w fun en w' => ∃ e H' M' ι', k e H' = some r ∧ Stp M ι H w M' ι' H' w' ∧ EndR M' ι' e en

def RoundOK (P : Program) (l : Nat) (args : List AV) (H : AH) (k : KE) (r : Fin') : Prop :=
  ∀ (M : Mem) (ι : Io) (w : World) (cargs : Array Value) (b n : Nat), Inv M ι H w → VRs M ι args cargs → ι l 0 = some (b, n) →
    ∃ fn tmps assign body w1, (Instr.yield b cargs).run P w = .ok (.round b fn tmps assign body) w1 ∧
      RoundIn Fence.wide 0 P b fn tmps assign body w1 fun en w' => ∃ e H' M' ι', k e H' = some r ∧ Stp M ι H w M' ι' H' w' ∧ EndR M' ι' e en

def encE : KE := fun e H => some (e, H)
def decE (x : Res) (k : KE) : Res :=
  match x with
  | some (e, H) => k e H
  | none => none

/-- A function that may be entered. -/
def Enters (P : Program) (f : FuncId) : Prop := ∃ fn, P.funcs[f]? = some fn ∧ fn.name ≠ "runtime.NumGoroutine" ∧ fn.body.isSome = true

structure CtxOK (P : Program) (C : Ctx) : Prop where
  env : EnvOK P C.E
  flds : FieldsOK C.E
  mixed : P.follows .mixedOrders = true
  call : ∀ f args H k r, C.call f args H k = some r → Enters P f ∧ CallOK P f args H k r
  round : ∀ l args H k r, C.round l args H k = some r → RoundOK P l args H k r
  nat : ∀ f args H k, C.call f args H k = decE (C.call f args H encE) k
  rnat : ∀ l args H k, C.round l args H k = decE (C.round l args H encE) k
  keys : C.ranges = true → ∀ n, C.rkey n < 1000000000
  self : ∀ i, C.self = some i → ∃ fn, P.funcs[i]? = some fn

section
variable {P : Program} {M : Mem} {ι : Io} {H : AH} {w : World} {r : Fin'}

theorem Inv.alone (hI : Inv M ι H w) : Inv M io0 [] w :=
  ⟨hI.mem, fun _ _ _ h => (by cases h), fun _ _ h => (by simp at h), fun _ _ _ _ _ _ _ h => (by simp at h), hI.glob⟩

/-- A step in memory of its own is a step beside whatever rows are ours. -/
theorem Stp.embed {M' : Mem} {ι' : Io} {w' : World} (hI : Inv M ι H w) (h : Stp M io0 [] w M' ι' [] w') : Stp M ι H w M' ι H w' := by
  have hno : ∀ b, ¬ owns io0 [] b := by rintro b ⟨id, o, n, h1, _⟩; simp at h1
  have hk : ∀ b, b < w.heap.size → w'.heap[b]? = w.heap[b]? := fun b hb => h.keep b hb (hno b)
  have hnew : ∀ a v, M' a = some v → M a = none → w.heap.size ≤ a.block := by
    intro a v h1 h2
    rcases h.newmem a v h1 h2 with h3 | h3
    · exact h3
    · exact absurd h3 (hno _)
  refine ⟨fun _ _ _ h => h, h.mem, fun a v h1 h2 => .inl (hnew a v h1 h2), ⟨h.inv.mem, hI.dom, fun id o ho => ?_, hI.inj, h.inv.glob⟩, fun b hb _ => hk b hb, fun _ _ h => h, h.size, h.os, h.tape, h.output⟩
  refine (hI.obj id o ho).mono h.mem (fun _ _ _ h => h) (fun b n hb => hk b (hI.owned_lt ⟨id, o, n, ho, hb⟩)) (fun b n a hb ha hm => ?_)
  have hlt := hI.owned_lt ⟨id, o, n, ho, hb⟩
  cases hm' : M' a with
  | none => rfl
  | some v =>
    have := hnew a v hm' hm
    omega

/-- The operation is over: what it has yielded. -/
def OpRun (P : Program) (o : Oper) (a : Act) (w : World) (c : Value) (w' : World) : Prop :=
  (execOp a.eval o).run P w = .ok (.value c) w' ∨ ((execOp a.eval o).run P w = .ok .skip w' ∧ c = undef)

def OpOK (P : Program) (M : Mem) (ι : Io) (H : AH) (w : World) (o : Oper) (a : Act) (kv : AV → AH → Res) (r : Fin') : Prop :=
  ∃ v H' M' ι' w' c, kv v H' = some r ∧ Stp M ι H w M' ι' H' w' ∧ VR M' ι' v c ∧ OpRun P o a w c w'

theorem OpOK.of_run {o : Oper} {a : Act} {s : Sem Value} {kv : AV → AH → Res} (hs : execOp a.eval o = (do pure (.value (← s)))) (h : RunOK P M ι H w s kv r) : OpOK P M ι H w o a kv r := by
  obtain ⟨v, H', M', ι', w', c, h1, h2, h3, h4⟩ := h
  exact ⟨v, H', M', ι', w', c, h1, h2, h3, .inl (by rw [hs]; simp only [Sem.run_bind, h4, Result.andThen_ok, Sem.run_pure])⟩
theorem OpOK.of_pure {o : Oper} {a : Act} {s : Sem Value} {kv : AV → AH → Res} (hI : Inv M ι H w) (hs : execOp a.eval o = (do pure (.value (← s)))) (h : PureOK P M ι w s (fun v => kv v H) r) : OpOK P M ι H w o a kv r :=
  .of_run hs (h.runOK hI)

theorem map_evalO (hG : GlobOK M) {nt : Nat} {ts : ATs} {a : Act} (hT : TR M ι nt ts a.tmps) (xs : Array Operand) : VRs M ι (xs.toList.map (evalO ts)) (xs.map a.eval) := by
  refine ⟨by simp, fun i x y hx hy => ?_⟩
  simp only [List.getElem?_map, Array.getElem?_toList, Option.map_eq_some_iff] at hx
  simp only [Array.getElem?_map, Option.map_eq_some_iff] at hy
  obtain ⟨p, hp, rfl⟩ := hx
  obtain ⟨q, hq, rfl⟩ := hy
  rw [hp] at hq; cases hq
  exact vr_evalO hG hT p

theorem optVR (hG : GlobOK M) {nt : Nat} {ts : ATs} {a : Act} (hT : TR M ι nt ts a.tmps) (x : Option Operand) : OptVR M ι (x.map (evalO ts)) (x.map a.eval) := by
  cases x with
  | none => trivial
  | some x => exact vr_evalO hG hT x

/-- Builtins. -/
theorem aBuiltinK_ok {C : Ctx} {b : Builtin} {ats : Array TypeId} {ty : TypeId} {consts : Array Bool} {args : List AV} {cargs : Array Value} {kv : AV → AH → Res} (hE : EnvOK P C.E) (hI : Inv M ι H w) (ha : VRs M ι args cargs) (h : aBuiltinK C.E b ats args H kv = some r) :
    ∃ s, (builtin b ats ty consts cargs = do pure (.value (← s))) ∧ RunOK P M ι H w s kv r := by
  have h1 : ∀ {x : AV}, args = [x] → ∃ c, cargs = #[c] ∧ VR M ι x c := by
    rintro x rfl
    have hs : cargs.size = 1 := by simpa using ha.1.symm
    obtain ⟨l⟩ := cargs
    match l, hs with
    | [c], _ => exact ⟨c, rfl, ha.2 0 x c rfl rfl⟩
  have h2 : ∀ {x y : AV}, args = [x, y] → ∃ c d, cargs = #[c, d] ∧ VR M ι x c ∧ VR M ι y d := by
    rintro x y rfl
    have hs : cargs.size = 2 := by simpa using ha.1.symm
    obtain ⟨l⟩ := cargs
    match l, hs with
    | [c, d], _ => exact ⟨c, d, rfl, ha.2 0 x c rfl rfl, ha.2 1 y d rfl rfl⟩
  have hn : ∀ {x : AV} {l : List AV}, args = x :: l → ∃ (c : Value) (cs : List Value), cargs = (c :: cs).toArray ∧ VR M ι x c ∧ l.length = cs.length ∧ ∀ (i : Nat) (x : AV) (y : Value), l[i]? = some x → cs[i]? = some y → VR M ι x y := by
    rintro x l rfl
    obtain ⟨cl⟩ := cargs
    match cl, ha with
    | [], ha => exact absurd ha.1 (by simp)
    | c :: cs, ha => exact ⟨c, cs, rfl, ha.2 0 x c rfl rfl, by simpa using ha.1, fun i x y hx hy => ha.2 (i + 1) x y (by simpa using hx) (by simpa using hy)⟩
  unfold aBuiltinK at h
  split at h
  · obtain ⟨c, rfl, hc⟩ := h1 rfl
    split at h
    · rename_i t ht
      exact ⟨_, rfl, (aLenK_ok hE hc ht h).runOK hI⟩
    · cases h
  · obtain ⟨c, d, rfl, hc, hd⟩ := h2 rfl
    exact ⟨_, rfl, aAppendK_ok hE hI hc hd h⟩
  · obtain ⟨c, d, rfl, hc, hd⟩ := h2 rfl
    exact ⟨_, rfl, aCopyK_ok hE hI hc hd h⟩
  · obtain ⟨c, rfl, hc⟩ := h1 rfl
    exact ⟨_, rfl, aClearK_ok hE hI hc h⟩
  · rename_i k n l
    obtain ⟨c, cs, rfl, hc, hl, hr⟩ := hn rfl
    cases hc.int_inv
    split at h
    · rename_i m hm
      refine ⟨_, rfl, PureOK.runOK hI ⟨_, _, h, .int _ _, ?_⟩⟩
      exact maxL_ok (f := Builtin.max2) (fun k x y w => by simp [Builtin.max2, mx]) k l cs n m hl hr hm
    · cases h
  · rename_i k n l
    obtain ⟨c, cs, rfl, hc, hl, hr⟩ := hn rfl
    cases hc.int_inv
    split at h
    · rename_i m hm
      refine ⟨_, rfl, PureOK.runOK hI ⟨_, _, h, .int _ _, ?_⟩⟩
      exact maxL_ok (f := Builtin.min2) (fun k x y w => by simp [Builtin.min2, mn]) k l cs n m hl hr hm
    · cases h
  · cases h

theorem evalP_rel (hG : GlobOK M) {nt : Nat} {ts : ATs} {a : Act} (hT : TR M ι nt ts a.tmps) (parts : Array (Nat × Operand)) : (evalP ts parts).length = (parts.map fun (i, x) => (i, a.eval x)).size ∧
    ∀ (i : Nat) (p : Nat × AV) (q : Nat × Value), (evalP ts parts)[i]? = some p → (parts.map fun (i, x) => (i, a.eval x))[i]? = some q → p.1 = q.1 ∧ VR M ι p.2 q.2 := by
  refine ⟨by simp [evalP], fun i p q hp hq => ?_⟩
  simp only [evalP, List.getElem?_map, Array.getElem?_toList, Option.map_eq_some_iff] at hp
  simp only [Array.getElem?_map, Option.map_eq_some_iff] at hq
  obtain ⟨x, hx, rfl⟩ := hp
  obtain ⟨y, hy, rfl⟩ := hq
  rw [hx] at hy; cases hy
  exact ⟨rfl, vr_evalO hG hT _⟩

/-- Every operation but calls of functions and panics. -/
theorem aOpK_plain {C : Ctx} {nt : Nat} {ts : ATs} {o : Oper} {a : Act} {kv kp : AV → AH → Res} (hE : EnvOK P C.E) (hF : FieldsOK C.E) (hI : Inv M ι H w) (hT : TR M ι nt ts a.tmps)
    (hcall : ∀ c, o.op = .call c → ∃ b, c.callee = .builtin b ∧ stillB C b (c.args.toList.map (evalO ts)) = false) (hpan : ∀ x, o.op ≠ .panic x) (h : aOpK C ts o.op H kv kp = some r) : OpOK P M ι H w o a kv r := by
  have ev := fun x => vr_evalO hI.glob hT x
  cases ho : o.op with
  | move x => rw [ho] at h; exact ⟨_, H, M, ι, w, _, h, .refl hI, ev x, .inl (by simp [execOp, ho])⟩
  | assign x => rw [ho] at h; exact ⟨_, H, M, ι, w, _, h, .refl hI, ev x, .inl (by simp [execOp, ho])⟩
  | pick c x y =>
    rw [ho] at h
    simp only [aOpK] at h
    split at h
    · rename_i t ht
      have hc := ev c
      rw [ht] at hc
      have hc := hc.bool_inv
      rcases aIf_some h with ⟨rfl, h⟩ | ⟨rfl, h⟩
      · exact ⟨_, H, M, ι, w, _, h, .refl hI, ev x, .inl (by simp [execOp, ho, hc, asBool])⟩
      · exact ⟨_, H, M, ι, w, _, h, .refl hI, ev y, .inl (by simp [execOp, ho, hc, asBool])⟩
    · cases h
  | alloc t =>
    rw [ho] at h; simp only [aOpK] at h
    split at h
    · rename_i i hi
      exact .of_run (by simp only [execOp, ho]) (aAlloc_ok (hE t i hi) hI h)
    · cases h
  | box t x =>
    rw [ho] at h; simp only [aOpK] at h
    split at h
    · rename_i hs
      exact .of_run (s := Instr.box t (a.eval x)) (by simp only [execOp, ho]) (aBox_ok hI (ev x) hs h)
    · cases h
  | build t parts =>
    rw [ho] at h; simp only [aOpK] at h
    split at h
    · cases h
    rename_i i hi
    split at h
    · cases h
    rename_i pl hpl
    split at h
    · rename_i cs hcs
      obtain ⟨q1, q2⟩ := evalP_rel hI.glob hT parts
      exact .of_pure hI (by simp only [execOp, ho]) (aBuild_ok (kv := kv) hE hF hi hpl q1 q2 hcs h)
    · cases h
  | buildSlice t len parts =>
    rw [ho] at h; simp only [aOpK] at h
    split at h
    · cases h
    rename_i i hi
    split at h
    · rename_i e hd
      have hu := (hE t i hi).und; rw [hd] at hu
      split at h
      · cases h
      rename_i ei hei
      split at h
      · rename_i hle
        have hle : len * ei.size ≤ 2 ^ 24 := of_decide_eq_true hle
        split at h
        · rename_i h0 hl0
          obtain rfl : len = 0 := by simpa using hl0
          split at h
          · rename_i hp
            have hpe : parts = #[] := by simpa using hp
            subst hpe
            have hst := hI.freeze #[] e (0, 0) (w.alloc (.cells #[] e)) (fun k hk => Go.RowKit.Below.heap_alloc w _ k hk) (by show (w.heap.push _)[w.heap.size]? = _; simp) (by simp) rfl rfl rfl
            refine .of_run (s := Instr.buildSlice t 0 #[]) (by simp [execOp, ho]) ⟨_, _, _, _, _, _, h, hst, .fsZc _ ⟨w.heap.size, 0, none⟩, ?_⟩
            simp [Instr.buildSlice, run_underlying hu, (hE e ei hei).run_size, Instr.fill, newRow]
            congr 2
            apply Array.ext'
            simp
          · cases h
        · cases h
        · rename_i hne
          have hne : len * ei.size ≠ 0 := by simpa using hne
          split at h
          · rename_i cs hcs
            obtain ⟨q1, q2⟩ := evalP_rel hI.glob hT parts
            split at h
            · rename_i hfl
              exact .of_run (by simp only [execOp, ho]) (aBuildSliceV_ok hI hu (hE e ei hei) hle hne q1 q2 hcs hfl h)
            · exact .of_run (by simp only [execOp, ho]) (aBuildSlice_ok hI hu (hE e ei hei) hle hne q1 q2 hcs h)
          · cases h
      · cases h
    · cases h
  | load t x => rw [ho] at h; exact .of_run (by simp only [execOp, ho]) (aLoadK_ok hE hI (ev x) h)
  | store t x y =>
    rw [ho] at h
    obtain ⟨v, H', M', ι', w', q1, q2, rfl, q4⟩ := aStoreK_ok hE hI (ev x) (ev y) h
    exact ⟨_, H', M', ι', w', undef, q1, q2, .tup rfl (fun i x y hx => by simp at hx), .inr ⟨by simp [execOp, ho, q4], rfl⟩⟩
  | nilCheck x =>
    rw [ho] at h; simp only [aOpK] at h
    have hx := ev x
    split at h
    · rename_i id ver off hv
      rw [hv] at hx
      cases hc : a.eval x <;> rw [hc] at hx <;> cases hx
      rename_i hp
      exact ⟨_, H, M, ι, w, _, h, .refl hI, .ptr off hp, .inl (by simp [execOp, ho, hc])⟩
    · rename_i cs hv
      rw [hv] at hx
      cases hc : a.eval x <;> rw [hc] at hx <;> cases hx
      rename_i sp b o' g g1 g2
      exact ⟨_, H, M, ι, w, _, h, .refl hI, .fp sp b o' g g1 g2, .inl (by simp [execOp, ho, hc])⟩
    · cases h
  | binOp op t x y yt => rw [ho] at h; exact .of_pure hI (by simp only [execOp, ho]) (aBinK_ok (kk := fun v => kv v H) hE (ev x) (ev y) h)
  | unOp op t x => rw [ho] at h; exact .of_pure hI (by simp only [execOp, ho]) (aUnK_ok (kk := fun v => kv v H) (ev x) h)
  | convert src dst x => rw [ho] at h; exact .of_run (by simp only [execOp, ho]) (aConvertK_ok hE hI (ev x) h)
  | makeInterface t x =>
    rw [ho] at h; simp only [aOpK] at h
    split at h
    · rename_i i hi
      have hu := (hE t i hi).und
      split at h
      · cases h
      · rename_i hni
        refine .of_pure hI (s := Instr.makeInterface t (a.eval x)) (by simp only [execOp, ho]) ⟨_, _, h, .iface t (ev x), ?_⟩
        simp only [Instr.makeInterface, Sem.run_bind, run_underlying hu, Result.andThen_ok]
        cases hd : i.desc <;> first | rfl | exact absurd hd (hni _)
    · cases h
  | makeFunc f first captured =>
    rw [ho] at h
    have h1 := map_evalO hI.glob hT first
    have h2 := map_evalO hI.glob hT captured
    exact ⟨_, H, M, ι, w, _, h, .refl hI, .fn f h1.1 h2.1 h1.2 h2.2, .inl (by simp [execOp, ho, Instr.makeFunc])⟩
  | makeSlice t l c => rw [ho] at h; exact .of_run (by simp only [execOp, ho]) (aMakeSliceK_ok hE hI (ev l) (ev c) h)
  | slice t x lo hi m => rw [ho] at h; exact .of_pure hI (by simp only [execOp, ho]) (aSliceK_ok hE (ev x) (optVR hI.glob hT lo) (optVR hI.glob hT hi) (optVR hI.glob hT m) h)
  | fieldAddr s x f => rw [ho] at h; exact .of_pure hI (by simp only [execOp, ho]) (aFieldAddrK_ok (kk := fun v => kv v H) hE (ev x) h)
  | field t x f =>
    rw [ho] at h; simp only [aOpK] at h
    split at h
    · rename_i i hi
      have hu := (hE t i hi).und
      have hx := ev x
      split at h
      · rename_i fields cs hd hv
        rw [hv] at hx
        rw [hd] at hu
        split at h
        · rename_i fd hfd
          split at h
          · rename_i v hp
            cases hc : a.eval x <;> rw [hc] at hx <;> (try (cases hx; done))
            rename_i ys
            obtain ⟨c, q1, q2⟩ := partOf_ok (P := P) (w := w) hE hx hp
            refine .of_pure hI (s := Instr.field t (a.eval x) f) (by simp only [execOp, ho]) ⟨_, c, h, q1, ?_⟩
            simp [Instr.field, run_underlying hu, hfd, hc, asAgg, q2]
          · cases h
        · cases h
      · cases h
    · cases h
  | makeMap t res =>
    cases res with
    | none => rw [ho] at h; exact .of_run (s := Instr.makeMap t none) (by simp only [execOp, ho, Option.map_none]) (aMakeMap_ok hI h)
    | some x => rw [ho] at h; cases h
  | lookup t m k ok => rw [ho] at h; exact .of_run (by simp only [execOp, ho]) (aLookupK_ok hE hI (ev m) (ev k) h)
  | mapUpdate t m k v =>
    rw [ho] at h
    obtain ⟨v', H', M', ι', w', q1, q2, rfl, q4⟩ := aMapSetK_ok hE hI (ev m) (ev k) (ev v) h
    exact ⟨_, H', M', ι', w', undef, q1, q2, .tup rfl (fun i x y hx hy => by simp at hx), .inr ⟨by simp [execOp, ho, q4], rfl⟩⟩
  | indexAddr t x i => rw [ho] at h; exact .of_pure hI (by simp only [execOp, ho]) (aIndexAddrK_ok (kk := fun v => kv v H) hE (ev x) (ev i) h)
  | index t x i => rw [ho] at h; exact .of_pure hI (by simp only [execOp, ho]) (aIndexK_ok (kk := fun v => kv v H) hE (ev x) (ev i) h)
  | range t x =>
    rw [ho] at h; simp only [aOpK] at h
    split at h
    · rename_i i hi
      have hx := ev x
      split at h
      · rename_i s hd hv
        rw [hv] at hx
        refine .of_run (s := Instr.range t (.string s)) (by simp only [execOp, ho, hx.str_inv]) (aRange_ok (hE t i hi) hd hI h)
      · cases h
    · cases h
  | next it b =>
    rw [ho] at h
    cases b with
    | false => cases h
    | true => exact .of_run (s := Instr.next (a.eval it) true o.type) (by simp only [execOp, ho]) (aNextK_ok hI (ev it) h)
  | typeAssert x t asserted ok => rw [ho] at h; exact .of_pure hI (s := Instr.typeAssert (a.eval x) t asserted ok) (by simp only [execOp, ho]) (aTypeAssertK_ok (kk := fun v => kv v H) hE (ev x) h)
  | extract t i =>
    rw [ho] at h; simp only [aOpK] at h
    have hx := ev t
    split at h
    · rename_i vs hv
      rw [hv] at hx
      split at h
      · rename_i v hvi
        cases hc : a.eval t <;> rw [hc] at hx <;> (try (cases hx; done))
        rename_i ys
        cases hx with
        | tup h1 h2 =>
          have hi : i < ys.size := by rw [← h1]; exact (List.getElem?_eq_some_iff.1 hvi).1
          refine ⟨_, H, M, ι, w, ys[i], h, .refl hI, h2 i v _ hvi (Array.getElem?_eq_getElem hi), .inl ?_⟩
          simp [execOp, ho, Instr.extract, hc, Array.getElem?_eq_getElem hi]
      · cases h
    · cases h
  | call c =>
    rw [ho] at h
    obtain ⟨b, hb, hst⟩ := hcall c ho
    simp only [aOpK, aCallK, hb, hst] at h
    obtain ⟨s, hs, hr⟩ := aBuiltinK_ok (C := C) (ty := o.type) (consts := c.args.map fun | .const _ => true | _ => false) hE hI (map_evalO hI.glob hT c.args) h
    refine .of_run (s := s) ?_ hr
    simp only [execOp, ho, resolve, hb, pure_bind, invoke]
    exact hs
  | panic x => exact absurd ho (hpan x)
  | _ => rw [ho] at h; simp [aOpK] at h

end
end Go.Abs
