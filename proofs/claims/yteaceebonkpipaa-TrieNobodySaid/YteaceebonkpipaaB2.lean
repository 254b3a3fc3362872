/- Regions that draw their order: any order comes to the same. -/
import Derived.Test.YteaceebonkpipaaA13
import Derived.Test.YteaceebonkpipaaB1
import Derived.OrdersIn
import Derived.TacticsIn
namespace Go.Abs
open Go.RowKit

abbrev CallNat (C : Ctx) : Prop := ∀ f args H k, C.call f args H k = decE (C.call f args H encE) k
abbrev RoundNat (C : Ctx) : Prop := ∀ l args H k, C.round l args H k = decE (C.round l args H encE) k

theorem opNat {C : Ctx} (hn : CallNat C) (hr : RoundNat C) {ts : ATs} {o : Op} {H : AH} {kv : AV → AH → Res} {r : Fin'} (h : aOpK C ts o H kv (fun _ _ => none) = some r) :
    ∃ v H1, kv v H1 = some r ∧ ∀ kv' kp', aOpK C ts o H kv' kp' = kv' v H1 := by
  rw [aOpK_nat hn hr] at h
  cases hx : aOpK C ts o H encV encP with
  | none => rw [hx] at h; cases h
  | some p =>
    rw [hx] at h
    obtain ⟨e, H1⟩ := p
    cases e with
    | ret v => exact ⟨v, H1, h, fun kv' kp' => by rw [aOpK_nat hn hr, hx]; rfl⟩
    | pan v => cases h

theorem quiet_const {C : Ctx} {ts : ATs} {o : Op} {H : AH} {kv kp : AV → AH → Res} (hq : quietB C ts o = true) : aOpK C ts o H kv kp = aOpK C ts o H (fun v _ => kv v H) (fun v _ => kp v H) := by
  cases o with
  | call c =>
    simp only [quietB] at hq
    simp only [aOpK, aCallK]
    split at hq
    · rename_i hc; simp only [hc, stillB, isApp, Bool.false_and]; unfold aBuiltinK; repeat' split
      all_goals first | rfl | (simp_all; done)
    · rename_i hc; simp only [hc, stillB, isApp, Bool.false_and]; unfold aBuiltinK; repeat' split
      all_goals first | rfl | (simp_all; done)
    · rename_i hc; simp only [hc, stillB, isApp, Bool.false_and]; unfold aBuiltinK; repeat' split
      all_goals first | rfl | (simp_all; done)
    · rename_i f hc
      simp only [hc]
      split at hq
      · rename_i g first captured hf
        simp only [hf, aEnterK]
        split
        · rfl
        · rename_i hn
          rw [hn, Bool.false_or] at hq
          simp only [hq]
      · cases hq
    · cases hq
  | convert s d x =>
    simp only [aOpK]
    unfold aConvertK
    repeat' split
    all_goals rfl
  | slice t x lo hi m =>
    simp only [aOpK]
    unfold aSliceK
    repeat' split
    all_goals rfl
  | load t x =>
    simp only [aOpK]
    unfold aLoadK
    repeat' split
    all_goals rfl
  | build t ps => rfl
  | buildSlice t len parts =>
    simp only [quietB, bsFlat] at hq
    simp only [aOpK]
    cases hi : C.E.ti t with
    | none => rfl
    | some i =>
      rw [hi] at hq
      simp only at hq ⊢
      split
      · rename_i e hd
        rw [hd] at hq
        simp only at hq
        cases he : C.E.ti e with
        | none => rfl
        | some ei =>
          rw [he] at hq
          simp only at hq ⊢
          split
          · split
            · split <;> rfl
            · rfl
            · rename_i h0
              rw [h0] at hq
              simp only at hq
              split
              · rename_i cs hcs
                rw [hcs] at hq
                simp only at hq
                simp only [hq]
              · rfl
          · rfl
      · rfl
  | _ => first
    | (simp [quietB] at hq; done)
    | rfl

theorem quiet_same {C : Ctx} {ts : ATs} {o : Op} {H H1 : AH} {v : AV} (hq : quietB C ts o = true) (h : ∀ kv' kp', aOpK C ts o H kv' kp' = kv' v H1) : H1 = H := by
  have h1 := h encV encP
  rw [quiet_const hq, h] at h1
  simp only [encV, Option.some.injEq, Prod.mk.injEq, true_and] at h1
  exact h1.symm

/-- What looks at no row answers the same whatever they hold. -/
theorem blind_const {C : Ctx} {ts : ATs} {o : Op} {H H' : AH} {kv kp : AV → Res} (hq : quietB C ts o = true) (hb : blindB C ts o = true) : aOpK C ts o H (fun v _ => kv v) (fun v _ => kp v) = aOpK C ts o H' (fun v _ => kv v) (fun v _ => kp v) := by
  cases o with
  | call c =>
    simp only [blindB] at hb
    simp only [aOpK, aCallK]
    split at hb
    · rename_i hc; simp only [hc, stillB, isApp, Bool.false_and]; unfold aBuiltinK; repeat' split
      all_goals first | rfl | (simp_all; done)
    · rename_i hc; simp only [hc, stillB, isApp, Bool.false_and]; unfold aBuiltinK; repeat' split
      all_goals first | rfl | (simp_all; done)
    · rename_i hc; simp only [hc, stillB, isApp, Bool.false_and]; unfold aBuiltinK; repeat' split
      all_goals first | rfl | (simp_all; done)
    · rename_i f hc
      simp only [hc]
      split at hb
      · rename_i g first captured hf
        simp only [hf, aEnterK, hb]
      · cases hb
    · cases hb
  | convert s d x =>
    simp only [blindB] at hb
    simp only [aOpK]
    unfold aConvertK
    split
    · split
      all_goals first
        | rfl
        | (split
           · split
             · split
               · rfl
               · rename_i hx
                 rw [hx] at hb; cases hb
               · rfl
             · rfl
           · rfl)
        | (repeat' split
           all_goals rfl)
    · rfl
  | slice t x lo hi m =>
    simp only [aOpK]
    unfold aSliceK
    repeat' split
    all_goals rfl
  | load t x =>
    simp only [blindB] at hb
    simp only [aOpK]
    unfold aLoadK
    split
    · rfl
    · split
      · rename_i hx
        rw [hx] at hb; cases hb
      · rfl
      · rfl
  | buildSlice t len parts =>
    simp only [quietB, bsFlat] at hq
    simp only [aOpK]
    cases hi : C.E.ti t with
    | none => rfl
    | some i =>
      rw [hi] at hq
      simp only at hq ⊢
      split
      · rename_i e hd
        rw [hd] at hq
        simp only at hq
        cases he : C.E.ti e with
        | none => rfl
        | some ei =>
          rw [he] at hq
          simp only at hq ⊢
          split
          · split
            · split <;> rfl
            · rfl
            · rename_i h0
              rw [h0] at hq
              simp only at hq
              split
              · rename_i cs hcs
                rw [hcs] at hq
                simp only at hq
                simp only [hq]
              · rfl
          · rfl
      · rfl
  | _ => first
    | (simp [quietB] at hq; done)
    | (simp [blindB] at hb; done)
    | rfl

theorem blind_any {C : Ctx} {ts : ATs} {o : Op} {H H1 : AH} {v : AV} (hq : quietB C ts o = true) (hb : blindB C ts o = true) (h : ∀ kv' kp', aOpK C ts o H kv' kp' = kv' v H1) (H' : AH) (kv kp : AV → AH → Res) : aOpK C ts o H' kv kp = kv v H' := by
  rw [quiet_const hq, blind_const (H' := H) (kv := fun v => kv v H') (kp := fun v => kp v H') hq hb, h]

theorem scrub_get (ops : Array Oper) (u : Nat) : ∀ ts : ATs, (scrubT ops ts).get u = if (fieldDsts ops).contains u then .junk else ts.get u
  | [] => by
    show AV.junk = _
    split <;> rfl
  | (k, v) :: r => by
    have ih := scrub_get ops u r
    unfold scrubT at ih ⊢
    rw [List.filter_cons]
    cases hk : (fieldDsts ops).contains k with
    | true =>
      simp only [hk, Bool.not_true, Bool.false_eq_true, if_false]
      rw [ih]
      cases hu : (fieldDsts ops).contains u with
      | true => rfl
      | false =>
        have hne : (k == u) = false := by
          cases hq : k == u with
          | false => rfl
          | true => rw [beq_iff_eq.1 hq, hu] at hk; cases hk
        simp only [ATs.get, hne]
    | false =>
      simp only [hk, Bool.not_false, if_true]
      cases hq : k == u with
      | true =>
        rw [beq_iff_eq.1 hq] at hk
        simp only [ATs.get, hq, hk, Bool.false_eq_true, if_false]
      | false =>
        simp only [ATs.get, hq]
        exact ih
theorem exempt_spec {C : Ctx} {ops : Array Oper} {ts : ATs} {id : Nat} {o : Op} {H H1 : AH} {v : AV} (hg : exemptB ops ts (some id) o = true) (hfar : ∀ u, (dstsOf ops).contains u = true → (fieldDsts ops).contains u = true → ops.toList.all (farB ops ts id u) = true → ∀ i ver off, ts.get u = .ptr i ver off → i ≠ id)
    (hvoid : ∀ u, (fieldDsts ops).contains u = true → ops.toList.all (voidB u) = true → ts.get u = .junk ∨ ts.get u = .tup [] ∨ ∃ sz, ts.get u = .fs sz [] .zc)
    (hwatch : isVC o = true → (watchIds ops ts).contains id = true → H1[id]? = H[id]?) (hlt : id < H.length) (h : ∀ kv' kp', aOpK C ts o H kv' kp' = kv' v H1) : H1[id]? = H[id]? ∧ id < H1.length := by
  have h1 := h encV encP
  have grown : ∀ r, H1 = H ++ r → H1[id]? = H[id]? ∧ id < H1.length := by
    rintro r rfl
    exact ⟨List.getElem?_append_left hlt, by rw [List.length_append]; omega⟩
  simp only [exemptB, Bool.or_eq_true] at hg
  rcases hg with hg | hg | hg | hg
  · unfold growB at hg
    split at hg
    · simp only [aOpK] at h1
      split at h1
      · simp only [encV, Option.some.injEq, Prod.mk.injEq] at h1
        exact grown _ h1.2.symm
      · cases h1
    · simp only [aOpK] at h1
      split at h1
      · simp only [encV, Option.some.injEq, Prod.mk.injEq] at h1
        exact grown _ h1.2.symm
      · cases h1
    · cases hg
  · unfold asideB at hg
    split at hg
    · rename_i t u x
      have away : ∀ i ver off, ts.get u = .ptr i ver off → i ≠ id := by
        split at hg
        · intro i ver off hu
          rw [hu] at hg
          simpa [awayB] using hg
        · rename_i hd
          rw [Bool.and_eq_true] at hg
          exact hfar u hd hg.1 hg.2
      simp only [aOpK, evalO] at h1
      unfold aStoreK at h1
      split at h1
      · cases h1
      · split at h1
        · rename_i i ver off hu
          have hne := away i ver off hu
          split at h1
          · split at h1
            · obtain ⟨_, h1⟩ := aIf_none h1
              obtain ⟨_, h1⟩ := aIf_none h1
              simp only [encV, Option.some.injEq, Prod.mk.injEq] at h1
              rw [← h1.2]
              exact ⟨List.getElem?_set_ne hne, by rw [List.length_set]; exact hlt⟩
            · cases h1
          · cases h1
        · cases h1
    · cases hg
  · unfold voidApp at hg
    split at hg
    · rename_i c
      split at hg
      · rename_i hc
        split at hg
        · rename_i u y ha
          rw [Bool.and_eq_true] at hg
          have hu := hvoid u hg.1 hg.2
          have app : ∀ {G : AH} {kv : AV → AH → Res} {r : Fin'}, aBuiltinK C.E .append c.argTypes (c.args.toList.map (evalO ts)) G kv = some r → ∃ v', kv v' G = some r ∨ ∃ r', kv v' (G ++ r') = some r := by
            intro G kv r h
            rw [ha] at h
            simp only [List.map_cons, List.map_nil, evalO, aBuiltinK] at h
            unfold aAppendK at h
            split at h
            · split at h
              · split at h
                · split at h
                  · cases h
                  · obtain ⟨_, h⟩ := aIf_none h
                    split at h
                    · cases h
                    · rcases hu with hu | hu | ⟨sz, hu⟩
                      · rw [hu] at h; cases h
                      · rw [hu] at h; cases h
                      · rw [hu] at h
                        simp only at h
                        rcases aIf_some h with ⟨_, h⟩ | ⟨_, h⟩
                        · exact ⟨_, .inl h⟩
                        · obtain ⟨_, h⟩ := aIf_none h
                          obtain ⟨_, h⟩ := aIf_none h
                          exact ⟨_, .inr ⟨_, h⟩⟩
                · cases h
              · cases h
            · cases h
          simp only [aOpK, aCallK, hc] at h1
          split at h1
          · obtain ⟨v', h2⟩ := app h1
            have h3 : ∃ G, freezeK G 8 v' (fun v => encV v H) = some (AEnd.ret v, H1) := by
              rcases h2 with h2 | ⟨r', h2⟩
              · exact ⟨_, h2⟩
              · exact ⟨_, h2⟩
            obtain ⟨G, h3⟩ := h3
            obtain ⟨x, h4, _⟩ := freezeK_nat 8 v' _ h3
            simp only [encV, Option.some.injEq, Prod.mk.injEq] at h4
            rw [← h4.2]
            exact ⟨rfl, hlt⟩
          · obtain ⟨v', h2⟩ := app h1
            rcases h2 with h2 | ⟨r', h2⟩
            · simp only [encV, Option.some.injEq, Prod.mk.injEq] at h2
              rw [← h2.2]
              exact ⟨rfl, hlt⟩
            · simp only [encV, Option.some.injEq, Prod.mk.injEq] at h2
              exact grown _ h2.2.symm
        · cases hg
      · cases hg
    · cases hg
  · rw [Bool.and_eq_true] at hg
    have he := hwatch hg.1 hg.2
    refine ⟨he, ?_⟩
    rw [List.getElem?_eq_getElem hlt] at he
    exact (List.getElem?_eq_some_iff.1 he).1
theorem watchL_same {ops : Array Oper} {ts ts' : ATs} (h : ∀ u, (dstsOf ops).contains u = false → ts.get u = ts'.get u) (T : List (List Nat)) : ∀ (l : List Oper) (j : Nat), watchL ops ts T j l = watchL ops ts' T j l
  | [], _ => rfl
  | o :: r, j => by
    simp only [watchL]
    split
    · rename_i u _
      cases hu : (dstsOf ops).contains u with
      | true => exact watchL_same h T r (j + 1)
      | false => simp only [h u hu, watchL_same h T r (j + 1)]
    · exact watchL_same h T r (j + 1)
theorem sameAV_eq {x y : AV} (h : sameAV x y = true) : x = y := by
  unfold sameAV at h
  split at h
  · simp only [Bool.and_eq_true, beq_iff_eq] at h
    rw [h.1.1, h.1.2, h.2]
  · rfl
  · rename_i k n k' n'
    simp only [Bool.and_eq_true, beq_iff_eq] at h
    have hk : k = k' := of_decide_eq_true (by simpa using h.1)
    rw [hk, h.2]
  · simp only [beq_iff_eq] at h
    rw [h]
  · cases h
theorem sameAVs_eq : ∀ {xs ys : List AV}, sameAVs xs ys = true → xs = ys
  | [], [], _ => rfl
  | [], _ :: _, h => by simp [sameAVs] at h
  | _ :: _, [], h => by simp [sameAVs] at h
  | x :: xs, y :: ys, h => by
    rw [sameAVs, Bool.and_eq_true] at h
    rw [sameAV_eq h.1, sameAVs_eq h.2]
theorem sameAO_eq {x y : Option AO} (h : sameAO x y = true) : x = y := by
  unfold sameAO at h
  split at h
  · simp only [Bool.and_eq_true, beq_iff_eq] at h
    rw [h.1, sameAVs_eq h.2]
  · cases h
theorem watchB_get {H H1 : AH} : ∀ {l : List Nat}, watchB H H1 l = true → ∀ id, l.contains id = true → H1[id]? = H[id]?
  | [], _, id, h => by simp at h
  | x :: l, h, id, hc => by
    rw [watchB, Bool.and_eq_true] at h
    rw [List.contains_cons, Bool.or_eq_true] at hc
    rcases hc with hc | hc
    · obtain rfl : id = x := by simpa using hc
      exact (sameAO_eq h.1).symm
    · exact watchB_get h.2 id hc
theorem farB_same {ops : Array Oper} {ts ts' : ATs} (h : ∀ u, (dstsOf ops).contains u = false → ts.get u = ts'.get u) (id u : Nat) : farB ops ts id u = farB ops ts' id u := by
  funext p
  unfold farB
  split
  · rfl
  · split
    · rfl
    · split
      · rename_i q _ _
        cases hq : (dstsOf ops).contains q
        · rw [h q hq]
        · rfl
      · rfl
theorem exempt_same {ops : Array Oper} {ts ts' : ATs} (h : ∀ u, (dstsOf ops).contains u = false → ts.get u = ts'.get u) (id : Nat) : exemptB ops ts (some id) = exemptB ops ts' (some id) := by
  funext o
  simp only [exemptB]
  have hw : watchIds ops ts = watchIds ops ts' := watchL_same h _ _ _
  rw [hw]
  congr 2
  unfold asideB
  split
  · rename_i t u x
    cases hu : (dstsOf ops).contains u
    · simp only [h u hu]
    · simp only [farB_same h]
  · rfl
/-- A load answers by the one row that it reads. -/
theorem load_same {C : Ctx} {ts : ATs} {t : TypeId} {a : Operand} {id ver off : Nat} {H H' : AH} {v : AV} {H1 : AH} (ha : evalO ts a = .ptr id ver off) (hr : H'[id]? = H[id]?) (h : ∀ kv' kp', aOpK C ts (.load t a) H kv' kp' = kv' v H1) (kv kp : AV → AH → Res) :
    aOpK C ts (.load t a) H' kv kp = kv v H' := by
  have key : aOpK C ts (.load t a) H' kv kp = aOpK C ts (.load t a) H (fun v _ => kv v H') (fun v _ => kp v H') := by
    simp only [aOpK, ha]
    unfold aLoadK
    simp only [hr]
    repeat' split
    all_goals rfl
  rw [key, h]

theorem atom_freeze {v : AV} (h : atomB v = true) (H : AH) (kk : AV → Res) : freezeK H 8 v kk = kk v := by
  cases v <;> first | rfl | (simp [atomB] at h; done)
theorem atomL_freeze : ∀ {xs : List AV}, atomL xs = true → ∀ (H : AH) (kk : List AV → Res), freezeLK (freezeK H 8) xs kk = kk xs
  | [], _, _, _ => rfl
  | v :: r, h, H, kk => by
    simp only [atomL, Bool.and_eq_true] at h
    show freezeK H 8 v _ = _
    rw [atom_freeze h.1]
    exact atomL_freeze h.2 H _
theorem soleRow_freeze : ∀ {xs : List AV} {id : Nat}, soleRow xs = some id → ∀ {H H' : AH}, H'[id]? = H[id]? → ∀ kk : List AV → Res, freezeLK (freezeK H' 8) xs kk = freezeLK (freezeK H 8) xs kk
  | [], id, h, _, _, _, _ => by cases h
  | v :: r, id, h, H, H', hr, kk => by
    show freezeK H' 8 v _ = freezeK H 8 v _
    cases hv : atomB v with
    | true =>
      rw [atom_freeze hv, atom_freeze hv]
      simp only [soleRow, hv] at h
      exact soleRow_freeze h hr _
    | false =>
      simp only [soleRow, hv] at h
      split at h
      · rename_i id' ver off len sz
        split at h
        · rename_i ha
          cases h
          simp only [atomL_freeze ha]
          simp only [freezeK, hr]
        · cases h
      · cases h
theorem soleRow_there : ∀ {xs : List AV} {id : Nat}, soleRow xs = some id → ∀ {H : AH} {kk : List AV → Res} {r : Fin'}, freezeLK (freezeK H 8) xs kk = some r → id < H.length
  | [], id, h, _, _, _, _ => by cases h
  | v :: r, id, h, H, kk, q, hq => by
    change freezeK H 8 v _ = some q at hq
    cases hv : atomB v with
    | true =>
      rw [atom_freeze hv] at hq
      simp only [soleRow, hv] at h
      exact soleRow_there h hq
    | false =>
      simp only [soleRow, hv] at h
      split at h
      · rename_i id' ver off len sz
        split at h
        · cases h
          simp only [freezeK] at hq
          split at hq
          · rename_i hc
            exact (List.getElem?_eq_some_iff.1 hc).1
          · cases hq
        · cases h
      · cases h
theorem soleRow_mem : ∀ {xs : List AV} {id : Nat}, soleRow xs = some id → ∃ ver off len sz, AV.sl id ver off len sz ∈ xs
  | [], id, h => by cases h
  | v :: r, id, h => by
    cases hv : atomB v with
    | true =>
      simp only [soleRow, hv] at h
      obtain ⟨ver, off, len, sz, hm⟩ := soleRow_mem h
      exact ⟨ver, off, len, sz, List.mem_cons_of_mem _ hm⟩
    | false =>
      simp only [soleRow, hv] at h
      split at h
      · rename_i id' ver off len sz
        split at h
        · cases h
          exact ⟨ver, off, len, sz, List.mem_cons_self ..⟩
        · cases h
      · cases h
theorem soleRow_open {xs : List AV} {id : Nat} (h : soleRow xs = some id) : AV.closedL xs = false := by
  obtain ⟨ver, off, len, sz, hm⟩ := soleRow_mem h
  cases hc : AV.closedL xs with
  | false => rfl
  | true =>
    have : ∀ {l : List AV}, AV.closedL l = true → ∀ v ∈ l, v.closed = true := by
      intro l
      induction l with
      | nil => intro _ v hv; cases hv
      | cons a l ih =>
        intro hl v hv
        simp only [AV.closedL, Bool.and_eq_true] at hl
        rcases List.mem_cons.1 hv with rfl | hv
        · exact hl.1
        · exact ih hl.2 v hv
    have := this hc _ hm
    simp [AV.closed] at this
theorem calm_enter {C : Ctx} {g : FuncId} {xs : List AV} {id : Nat} (hc : C.calm g = true) (h : soleRow xs = some id) (H : AH) (kv kp : AV → AH → Res) :
    aEnterK C g xs H kv kp = freezeLK (freezeK H 8) xs (fun xs => match AV.closedL xs with
      | true => C.call g xs [] fun e H1 => match H1 with
        | [] => match e with
          | .ret v => match v.plain with
            | true => kv v H
            | false => none
          | .pan _ => none
        | _ => none
      | false => none) := by
  unfold aEnterK
  rw [soleRow_open h, Bool.false_and, hc]
  rfl
theorem callf {C : Ctx} {ts : ATs} {c : Call} {g : FuncId} (hc : c.callee = .value (.func g)) (H : AH) (kv kp : AV → AH → Res) : aOpK C ts (.call c) H kv kp = aEnterK C g (c.args.toList.map (evalO ts)) H kv kp := by
  simp only [aOpK, aCallK, hc, evalO, List.nil_append, List.append_nil]
theorem look_call {C : Ctx} {ts : ATs} {c : Call} {id : Nat} (h : lookId C ts (.call c) = some id) : ∃ g, c.callee = .value (.func g) ∧ C.calm g = true ∧ soleRow (c.args.toList.map (evalO ts)) = some id := by
  simp only [lookId] at h
  split at h
  · rename_i g hg
    split at h
    · rename_i hc
      exact ⟨g, hg, hc, h⟩
    · cases h
  · cases h
/-- What reads one row answers by that row. -/
theorem look_same {C : Ctx} {ts : ATs} {o : Op} {id : Nat} {H H' : AH} {v : AV} {H1 : AH} (hl : lookId C ts o = some id) (hr : H'[id]? = H[id]?) (h : ∀ kv' kp', aOpK C ts o H kv' kp' = kv' v H1) (kv kp : AV → AH → Res) :
    aOpK C ts o H' kv kp = kv v H' := by
  cases o with
  | load t a =>
    simp only [lookId] at hl
    split at hl
    · rename_i id' ver off ha
      cases hl
      exact load_same ha hr h kv kp
    · cases hl
  | call c =>
    obtain ⟨g, hg, hc, hs⟩ := look_call hl
    have := h (fun v _ => kv v H') (fun v _ => kp v H')
    rw [callf hg, calm_enter hc hs] at this
    rw [callf hg, calm_enter hc hs, soleRow_freeze hs hr]
    exact this
  | _ => simp [lookId] at hl
theorem look_there {C : Ctx} {ts : ATs} {o : Op} {id : Nat} {H : AH} {v : AV} {H1 : AH} (hl : lookId C ts o = some id) (h : ∀ kv' kp', aOpK C ts o H kv' kp' = kv' v H1) : id < H.length := by
  have h0 := h encV encP
  cases o with
  | load t a =>
    simp only [lookId] at hl
    split at hl
    · rename_i id' ver off ha
      cases hl
      simp only [aOpK, ha, aLoadK] at h0
      split at h0
      · cases h0
      · split at h0
        · rename_i hq
          exact (List.getElem?_eq_some_iff.1 hq).1
        · cases h0
    · cases hl
  | call c =>
    obtain ⟨g, hg, hc, hs⟩ := look_call hl
    rw [callf hg, calm_enter hc hs] at h0
    exact soleRow_there hs h0
  | _ => simp [lookId] at hl
/-- It has an operand that names that row. -/
theorem look_names {C : Ctx} {ts : ATs} {o : Op} {id : Nat} (hl : lookId C ts o = some id) : ∃ a ∈ o.operands.toList, (∃ ver off, evalO ts a = .ptr id ver off) ∨ (∃ ver off len sz, evalO ts a = .sl id ver off len sz) := by
  cases o with
  | load t a =>
    simp only [lookId] at hl
    split at hl
    · rename_i id' ver off ha
      cases hl
      exact ⟨a, by simp [Op.operands], .inl ⟨ver, off, ha⟩⟩
    · cases hl
  | call c =>
    obtain ⟨g, hg, hc, hs⟩ := look_call hl
    obtain ⟨ver, off, len, sz, hm⟩ := soleRow_mem hs
    obtain ⟨a, ha, he⟩ := List.mem_map.1 hm
    exact ⟨a, by simp only [Op.operands, Call.operands, Array.toList_append, List.mem_append]; exact .inr ha, .inr ⟨ver, off, len, sz, he⟩⟩
  | _ => simp [lookId] at hl

theorem yielded_of {M : Mem} {ι : Io} {ops : Array Oper} {j : Nat} {t : Tmp} {nt : Nat} {ts : ATs} {tmps : Array Value} (hT : TR M ι nt ts tmps) (hg : guardSlot ops j = some t) :
    (∀ b, ts.get t = .bool b → yielded ops tmps j = some b) ∧ (ts.get t = .tup [] → yielded ops tmps j = none) := by
  have hb : (ops[j]?).bind (·.dst) = some t := by
    unfold guardSlot at hg
    split at hg
    · rename_i o ho; rw [ho]; exact hg
    · cases hg
  have hv := hT.2 t
  constructor
  · intro b ht
    rw [ht] at hv
    have hv := hv.bool_inv
    have hlt : t < tmps.size := by
      rcases Nat.lt_or_ge t tmps.size with h | h
      · exact h
      · rw [Array.getD_eq_getD_getElem?, Array.getElem?_eq_none h] at hv; cases hv
    rw [Array.getD_eq_getD_getElem?, Array.getElem?_eq_getElem hlt] at hv
    simp only [yielded, hb, Option.bind_some, Array.getElem?_eq_getElem hlt]
    simp only [Option.getD_some] at hv
    rw [hv]
  · intro ht
    rw [ht] at hv
    cases hc : tmps.getD t undef <;> rw [hc] at hv <;> (try (cases hv; done))
    simp only [yielded, hb, Option.bind_some]
    rw [Array.getD_eq_getD_getElem?] at hc
    cases hx : tmps[t]? with
    | none => rfl
    | some y => rw [hx] at hc; simp only [Option.getD_some] at hc; rw [hc]

/-- What is known of a guard. -/
def guardV (ops : Array Oper) (ts : ATs) (o : Oper) : Option Bool :=
  match o.guard with
  | none => some true
  | some (j, want) => match guardSlot ops j with
    | none => none
    | some t => match ts.get t with
      | .bool b => some (b == want)
      | .tup [] => some false
      | _ => none

/-- The temporaries when these operations have been carried out. -/
def tsL (ops : Array Oper) (ts0 : ATs) (xs : Nat → AV) (L : Nat → Bool) : Nat → ATs
  | 0 => ts0
  | j + 1 => match L j with
    | true => (tsL ops ts0 xs L j).put ((ops[j]?).bind (·.dst)) (xs j)
    | false => tsL ops ts0 xs L j

def all : Nat → Bool := fun _ => true
def same (a b : ATs) : Prop := ∀ t, a.get t = b.get t

theorem put_get (ts : ATs) (d : Option Tmp) (v : AV) (t : Nat) : (ts.put d v).get t = if d = some t then v else ts.get t := by
  cases d with
  | none => simp [ATs.put]
  | some d =>
    simp only [ATs.put, ATs.get]
    by_cases h : d = t
    · subst h; simp
    · have : (d == t) = false := by simpa using h
      rw [this]
      simp [h]
theorem same.put {a b : ATs} (h : same a b) (d : Option Tmp) (v : AV) : same (a.put d v) (b.put d v) := fun t => by
  rw [put_get, put_get, h t]
theorem same.evalO {a b : ATs} (h : same a b) (x : Operand) : evalO a x = evalO b x := by
  cases x <;> first | rfl | exact h _
theorem same.op {C : Ctx} {a b : ATs} (h : same a b) {o : Op} {H : AH} {kv kp : AV → AH → Res} : aOpK C a o H kv kp = aOpK C b o H kv kp := aOpK_local fun x _ => h.evalO x
theorem same.look {C : Ctx} {a b : ATs} (h : same a b) (o : Op) : lookId C a o = lookId C b o := by
  have hm : ∀ l : List Operand, l.map (Abs.evalO a) = l.map (Abs.evalO b) := fun l => List.map_congr_left fun x _ => h.evalO x
  unfold lookId
  split
  · rw [h.evalO]
  · rw [hm]
  · rfl
theorem same.guardV {ops : Array Oper} {a b : ATs} (h : same a b) (o : Oper) : guardV ops a o = guardV ops b o := by
  unfold Abs.guardV
  split
  · rfl
  · split
    · rfl
    · rw [h]

/-- What is known of operation i. -/
structure Fact (C : Ctx) (ops : Array Oper) (ts0 : ATs) (xs : Nat → AV) (Hs : Nat → AH) (i : Nat) (o : Oper) : Prop where
  dst : dstOk C.nt o.dst = true
  run : (guardV ops (tsL ops ts0 xs all i) o = some true ∧ ∀ kv kp, aOpK C (tsL ops ts0 xs all i) o.op (Hs i) kv kp = kv (xs i) (Hs (i + 1))) ∨
    (guardV ops (tsL ops ts0 xs all i) o = some false ∧ xs i = .tup [] ∧ Hs (i + 1) = Hs i)
  still : barB C o.op = false → Hs (i + 1) = Hs i
  loose : barB C o.op = true ∨ steadyB C ops (fun _ => false) i = true ∨ (guardV ops (tsL ops ts0 xs all i) o = some true → ∀ H kv kp, aOpK C (tsL ops ts0 xs all i) o.op H kv kp = kv (xs i) H) ∨
    (∃ id, lookId C (tsL ops ts0 xs all i) o.op = some id ∧ steadyB C ops (exemptB ops ts0 (some id)) i = true)
  grow : ∀ id, exemptB ops ts0 (some id) o.op = true → id < (Hs i).length → (Hs (i + 1))[id]? = (Hs i)[id]? ∧ id < (Hs (i + 1)).length

def ext {α : Type} (f : Nat → α) (i : Nat) (v : α) : Nat → α := fun j => if j = i then v else f j

theorem tsL_congr {ops : Array Oper} {ts0 : ATs} {xs ys : Nat → AV} {L : Nat → Bool} : ∀ n, (∀ j, j < n → xs j = ys j) → tsL ops ts0 xs L n = tsL ops ts0 ys L n
  | 0, _ => rfl
  | n + 1, h => by
    simp only [tsL, tsL_congr n (fun j hj => h j (by omega)), h n (by omega)]

theorem tsL_old {ops : Array Oper} {ts0 : ATs} {xs : Nat → AV} {L : Nat → Bool} {u : Nat} (hu : (dstsOf ops).contains u = false) : ∀ {n : Nat}, (tsL ops ts0 xs L n).get u = ts0.get u
  | 0 => rfl
  | n + 1 => by
    simp only [tsL]
    cases L n with
    | false => exact tsL_old hu
    | true =>
      simp only []
      rw [put_get, if_neg]
      · exact tsL_old hu
      · intro hd
        cases ho : ops[n]? with
        | none => rw [ho] at hd; cases hd
        | some o =>
          rw [ho] at hd
          have hm : u ∈ dstsOf ops := List.mem_filterMap.2 ⟨o, by rw [← Array.mem_def]; exact Array.mem_of_getElem? ho, hd⟩
          have := List.contains_iff_mem.2 hm
          rw [hu] at this; cases this

/-- A temporary that is given nothing but addresses in other rows. -/
theorem far_get {C : Ctx} {ops : Array Oper} {ts0 : ATs} {xs : Nat → AV} {Hs : Nat → AH} {id u : Nat} (h0 : ts0.get u = .junk) (hf : ops.toList.all (farB ops ts0 id u) = true) : ∀ n, (∀ j, j < n → ∀ o, ops[j]? = some o → Fact C ops ts0 xs Hs j o) →
    (tsL ops ts0 xs all n).get u = .junk ∨ (tsL ops ts0 xs all n).get u = .tup [] ∨ ∃ i ver off, (tsL ops ts0 xs all n).get u = .ptr i ver off ∧ i ≠ id
  | 0, _ => .inl h0
  | n + 1, hF => by
    have ih := far_get h0 hf n (fun j hj => hF j (by omega))
    simp only [tsL, all]
    rw [put_get]
    cases ho : ops[n]? with
    | none => simpa using ih
    | some o =>
      simp only [Option.bind_some]
      split
      · rename_i hd
        have hfo := (List.all_eq_true.1 hf) o (by rw [← Array.mem_def]; exact Array.mem_of_getElem? ho)
        unfold farB at hfo
        rw [hd] at hfo
        simp only [beq_self_eq_true] at hfo
        split at hfo
        · rename_i t q f hop
          rw [Bool.and_eq_true, Bool.not_eq_true'] at hfo
          obtain ⟨hq, haw⟩ := hfo
          rcases (hF n (by omega) o ho).run with ⟨_, hr⟩ | ⟨_, hr, _⟩
          · have hr := hr encV encP
            rw [hop] at hr
            simp only [aOpK, evalO] at hr
            rw [tsL_old hq] at hr
            unfold awayB at haw
            split at haw
            · rename_i i ver off hts
              rw [hts] at hr
              unfold aFieldAddrK at hr
              split at hr
              · cases hr
              · split at hr
                · split at hr
                  · cases hr
                  · split at hr
                    · cases hr
                    · simp only [encV, Option.some.injEq, Prod.mk.injEq] at hr
                      exact .inr (.inr ⟨i, ver, _, (AEnd.ret.inj hr.1).symm, by simpa using haw⟩)
                · cases hr
            · cases haw
          · exact .inr (.inl hr)
        · cases hfo
      · exact ih

/-- A temporary that is given nothing but empty literals. -/
theorem void_get {C : Ctx} {ops : Array Oper} {ts0 : ATs} {xs : Nat → AV} {Hs : Nat → AH} {u : Nat} (h0 : ts0.get u = .junk) (hf : ops.toList.all (voidB u) = true) : ∀ n, (∀ j, j < n → ∀ o, ops[j]? = some o → Fact C ops ts0 xs Hs j o) →
    (tsL ops ts0 xs all n).get u = .junk ∨ (tsL ops ts0 xs all n).get u = .tup [] ∨ ∃ sz, (tsL ops ts0 xs all n).get u = .fs sz [] .zc
  | 0, _ => .inl h0
  | n + 1, hF => by
    have ih := void_get h0 hf n (fun j hj => hF j (by omega))
    simp only [tsL, all]
    rw [put_get]
    cases ho : ops[n]? with
    | none => simpa using ih
    | some o =>
      simp only [Option.bind_some]
      split
      · rename_i hd
        have hfo := (List.all_eq_true.1 hf) o (by rw [← Array.mem_def]; exact Array.mem_of_getElem? ho)
        unfold voidB at hfo
        rw [hd] at hfo
        simp only [beq_self_eq_true] at hfo
        split at hfo
        · rename_i t parts hop
          rcases (hF n (by omega) o ho).run with ⟨_, hr⟩ | ⟨_, hr, _⟩
          · have hr := hr encV encP
            rw [hop] at hr
            simp only [aOpK] at hr
            split at hr
            · cases hr
            · split at hr
              · split at hr
                · cases hr
                · split at hr
                  · split at hr
                    · split at hr
                      · simp only [encV, Option.some.injEq, Prod.mk.injEq] at hr
                        exact .inr (.inr ⟨_, (AEnd.ret.inj hr.1).symm⟩)
                      · cases hr
                    · cases hr
                    · rename_i hz; rw [Nat.zero_mul] at hz; cases hz
                  · cases hr
              · cases hr
          · exact .inr (.inl hr)
        · cases hfo
      · exact ih

/-- The lexical run, taken apart. -/
theorem draw_trace {C : Ctx} (hn : CallNat C) (hr : RoundNat C) {ops : Array Oper} {ts0 : ATs} {k : KC} {r : Fin'} : ∀ (l : List Oper) (i : Nat) (ts : ATs) (H : AH) (xs : Nat → AV) (Hs : Nat → AH),
    (∀ u, (fieldDsts ops).contains u = true → ts0.get u = .junk) → (∀ j, l[j]? = ops[i + j]?) → aDrawK C ops l ts H k = some r → same ts (tsL ops ts0 xs all i) → Hs i = H → (∀ j, j < i → ∀ o, ops[j]? = some o → Fact C ops ts0 xs Hs j o) →
    ∃ xs' Hs' tsf, k .normal tsf (Hs' (i + l.length)) = some r ∧ same tsf (tsL ops ts0 xs' all (i + l.length)) ∧ (∀ j, j < i + l.length → ∀ o, ops[j]? = some o → Fact C ops ts0 xs' Hs' j o) ∧
      (∀ j, j < i → xs' j = xs j) ∧ (∀ j, j ≤ i → Hs' j = Hs j)
  | [], i, ts, H, xs, Hs, _, hl, h, hs, hH, hf => ⟨xs, Hs, ts, by rw [← hH] at h; exact h, hs, hf, fun _ _ => rfl, fun _ _ => rfl⟩
  | o :: l, i, ts, H, xs, Hs, hz, hl, h, hs, hH, hf => by
    have ho : ops[i]? = some o := by simpa using (hl 0).symm
    have hl' : ∀ j, l[j]? = ops[i + 1 + j]? := fun j => by have := hl (j + 1); simpa [Nat.add_assoc, Nat.add_comm 1 j] using this
    -- what stays when the i-th is set
    have keep : ∀ v H1, (∀ j, j < i → ∀ o, ops[j]? = some o → Fact C ops ts0 (ext xs i v) (ext Hs (i + 1) H1) j o) := by
      intro v H1 j hj p hp
      obtain ⟨f1, f2, f3, f4, f5⟩ := hf j hj p hp
      have e1 : tsL ops ts0 (ext xs i v) all j = tsL ops ts0 xs all j := tsL_congr j (fun m hm => by unfold ext; rw [if_neg (by omega)])
      have e2 : ext xs i v j = xs j := by unfold ext; rw [if_neg (by omega)]
      have e3 : ext Hs (i + 1) H1 j = Hs j := by unfold ext; rw [if_neg (by omega)]
      have e4 : ext Hs (i + 1) H1 (j + 1) = Hs (j + 1) := by unfold ext; rw [if_neg (by omega)]
      exact ⟨f1, by rw [e1, e2, e3, e4]; exact f2, by rw [e3, e4]; exact f3, by rw [e1, e2]; exact f4, by rw [e3, e4]; exact f5⟩
    have e0 : ∀ v, tsL ops ts0 (ext xs i v) all i = tsL ops ts0 xs all i := fun v => tsL_congr i (fun m hm => by unfold ext; rw [if_neg (by omega)])
    have ex : ∀ v, ext xs i v i = v := fun v => by simp [ext]
    have eH : ∀ H1, ext Hs (i + 1) H1 (i + 1) = H1 := fun H1 => by simp [ext]
    have eH0 : ∀ H1, ext Hs (i + 1) H1 i = Hs i := fun H1 => by simp [ext]
    obtain ⟨G, hG⟩ : ∃ G : Prop, G = (∃ xs' Hs' tsf, k .normal tsf (Hs' (i + (o :: l).length)) = some r ∧ same tsf (tsL ops ts0 xs' all (i + (o :: l).length)) ∧ (∀ j, j < i + (o :: l).length → ∀ o, ops[j]? = some o → Fact C ops ts0 xs' Hs' j o) ∧
          (∀ j, j < i → xs' j = xs j) ∧ (∀ j, j ≤ i → Hs' j = Hs j)) := ⟨_, rfl⟩
    rw [← hG]
    have step : ∀ (ts' : ATs) v H1, same ts' (tsL ops ts0 xs all i) → Fact C ops ts0 (ext xs i v) (ext Hs (i + 1) H1) i o → aDrawK C ops l (ts'.put o.dst v) H1 k = some r → G := by
      intro ts' v H1 hs' hfi hd
      rw [hG]
      have hA : same (ts'.put o.dst v) (tsL ops ts0 (ext xs i v) all (i + 1)) := by
        have h0 : tsL ops ts0 (ext xs i v) all (i + 1) = (tsL ops ts0 (ext xs i v) all i).put o.dst v := by
          simp only [tsL, ho, Option.bind_some, ex]
          rfl
        rw [h0, e0]
        exact hs'.put _ _
      have hB : ∀ j, j < i + 1 → ∀ p, ops[j]? = some p → Fact C ops ts0 (ext xs i v) (ext Hs (i + 1) H1) j p := by
        intro j hj p hp
        rcases Nat.lt_or_ge j i with hlt | hge
        · exact keep v H1 j hlt p hp
        · obtain rfl : j = i := by omega
          rw [ho] at hp; cases hp
          exact hfi
      obtain ⟨xs', Hs', tsf, g1, g2, g3, g4, g5⟩ := draw_trace hn hr l (i + 1) (ts'.put o.dst v) H1 (ext xs i v) (ext Hs (i + 1) H1) hz hl' hd hA (eH H1) hB
      have el : i + (o :: l).length = i + 1 + l.length := by rw [List.length_cons]; omega
      rw [el]
      refine ⟨xs', Hs', tsf, g1, g2, g3, fun j hj => ?_, fun j hj => ?_⟩
      · rw [g4 j (by omega)]; unfold ext; rw [if_neg (by omega)]
      · rw [g5 j (by omega)]; unfold ext; rw [if_neg (by omega)]
    have go : ∀ ts' : ATs, same ts' (tsL ops ts0 xs all i) → dstOk C.nt o.dst = true → guardV ops ts' o = some true →
        (match barB C o.op || (quietB C ts' o.op && (blindB C ts' o.op || steadyB C ops (exemptB ops ts' (lookId C ts' o.op)) (ops.size - (l.length + 1)))) with
          | true => match barB C o.op && isVC o.op with
            | true => aOpK C ts' o.op H (fun v H1 => aIf (watchB H H1 (watchIds ops ts')) (aDrawK C ops l (ts'.put o.dst v) H1 k) none) (fun _ _ => none)
            | false => aOpK C ts' o.op H (fun v H => aDrawK C ops l (ts'.put o.dst v) H k) (fun _ _ => none)
          | false => none) = some r → G := by
      intro ts' hs' hd hg h
      split at h
      · rename_i hbq
        obtain ⟨v, H1, h1, h2, hwatch⟩ : ∃ v H1, aDrawK C ops l (ts'.put o.dst v) H1 k = some r ∧ (∀ kv' kp', aOpK C ts' o.op H kv' kp' = kv' v H1) ∧ (isVC o.op = true → ∀ id, (watchIds ops ts').contains id = true → H1[id]? = H[id]?) := by
          split at h
          · obtain ⟨v, H1, h1, h2⟩ := opNat hn hr h
            obtain ⟨h3, h1⟩ := aIf_none h1
            exact ⟨v, H1, h1, h2, fun _ id hid => watchB_get h3 id hid⟩
          · rename_i hnb
            obtain ⟨v, H1, h1, h2⟩ := opNat hn hr h
            refine ⟨v, H1, h1, h2, fun hvc id _ => ?_⟩
            rw [hvc, Bool.and_true] at hnb
            rw [hnb, Bool.false_or, Bool.and_eq_true] at hbq
            rw [quiet_same hbq.1 h2]
        have hex : ∀ id, exemptB ops ts' (some id) = exemptB ops ts0 (some id) := fun id => exempt_same (fun u hu => by rw [hs' u, tsL_old hu]) id
        refine step ts' v H1 hs' ⟨hd, .inl ⟨?_, fun kv kp => ?_⟩, fun hb => ?_, ?_, fun id hgr => ?_⟩ h1
        · rw [e0 v, ← hs'.guardV o]; exact hg
        · rw [e0 v, ex, eH, eH0, hH, ← hs'.op]
          exact h2 kv kp
        · rw [eH, eH0, hH]
          rw [hb, Bool.false_or, Bool.and_eq_true] at hbq
          exact quiet_same hbq.1 h2
        · cases hb : barB C o.op with
          | true => exact .inl rfl
          | false =>
            rw [hb, Bool.false_or, Bool.and_eq_true, Bool.or_eq_true] at hbq
            rcases hbq.2 with hbl | hst
            · refine .inr (.inr (.inl fun _ H' kv kp => ?_))
              rw [e0 v, ex, ← hs'.op]
              exact blind_any hbq.1 hbl h2 H' kv kp
            · have hlen : ops.size - (l.length + 1) = i := by
                have h1 := hl l.length
                have h2 := hl (l.length + 1)
                rw [List.getElem?_eq_none (by simp)] at h2
                rw [List.getElem?_eq_getElem (show l.length < (o :: l).length by simp)] at h1
                have h3 := (Array.getElem?_eq_some_iff.1 h1.symm).1
                have h4 := Array.getElem?_eq_none_iff.1 h2.symm
                omega
              rw [hlen] at hst
              cases hlk : lookId C ts' o.op with
              | none => rw [hlk] at hst; exact .inr (.inl hst)
              | some id =>
                rw [hlk, hex id] at hst
                exact .inr (.inr (.inr ⟨id, by rw [e0 v, ← hs'.look]; exact hlk, hst⟩))
        · rw [eH, eH0, hH]
          refine fun hlt => exempt_spec (ts := ts') (by rw [hex]; exact hgr) (fun u _ hfd hfa i' ver off hu => ?_)
            (fun u hfd hfa => by rw [hs' u]; exact void_get (xs := xs) (Hs := Hs) (hz u hfd) hfa i hf) (fun hvc hid => hwatch hvc id hid) hlt h2
          rw [farB_same (ts' := ts0) (fun u hu => by rw [hs' u, tsL_old hu])] at hfa
          rw [hs' u] at hu
          rcases far_get (xs := xs) (Hs := Hs) (hz u hfd) hfa i hf with hg' | hg' | ⟨i2, ver2, off2, hg', hne⟩
          · rw [hg'] at hu; cases hu
          · rw [hg'] at hu; cases hu
          · rw [hg'] at hu; cases hu; exact hne
      · cases h
    have skip : ∀ ts' : ATs, same ts' (tsL ops ts0 xs all i) → dstOk C.nt o.dst = true → guardV ops ts' o = some false → aDrawK C ops l (ts'.put o.dst (.tup [])) H k = some r → G := by
      intro ts' hs' hd hg h
      refine step ts' (.tup []) H hs' ⟨hd, .inr ⟨?_, ex _, by rw [eH, eH0, hH]⟩, fun _ => by rw [eH, eH0, hH], .inr (.inr (.inl fun hgt => by rw [e0, ← hs'.guardV o, hg] at hgt; cases hgt)), fun id _ hlt => (by rw [eH, eH0, hH] at *; exact ⟨rfl, hlt⟩)⟩ h
      rw [e0, ← hs'.guardV o]; exact hg
    unfold aDrawK at h
    simp only at h
    split at h
    · cases h
    rename_i hd
    split at h
    · rename_i hg
      exact go ts hs hd (by unfold guardV; rw [hg]) h
    · rename_i j want hg
      split at h
      · cases h
      rename_i t ht
      split at h
      · rename_i b hb
        have learn : ∀ b', b = b' → same (ts.put (some t) (.bool b')) (tsL ops ts0 xs all i) := by
          rintro _ rfl u
          rw [put_get, ← hs u]
          split
          · rename_i he; cases he; exact hb.symm
          · rfl
        have gv : ∀ b', b = b' → guardV ops (ts.put (some t) (.bool b')) o = some (b' == want) := by
          rintro _ rfl
          unfold guardV
          simp only [hg, ht, put_get, if_true]
        split at h
        · rcases aIf_some h with ⟨hb', h⟩ | ⟨hb', h⟩
          · exact go _ (learn _ hb') hd (by rw [gv _ hb']; rfl) h
          · exact skip _ (learn _ hb') hd (by rw [gv _ hb']; rfl) h
        · rcases aIf_some h with ⟨hb', h⟩ | ⟨hb', h⟩
          · exact skip _ (learn _ hb') hd (by rw [gv _ hb']; rfl) h
          · exact go _ (learn _ hb') hd (by rw [gv _ hb']; rfl) h
      · rename_i hb
        exact skip ts hs hd (by unfold guardV; simp only [hg, ht, hb]) h
      · cases h

end Go.Abs
