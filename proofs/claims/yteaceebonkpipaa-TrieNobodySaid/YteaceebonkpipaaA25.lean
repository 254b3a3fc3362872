/- Maps and clear against the model's. -/
import Derived.Test.YteaceebonkpipaaA11
import Derived.Carry
namespace Go.Abs
open Go.RowKit

section
variable {P : Program} {E : Env} {M : Mem} {ι : Io} {H : AH} {w : World} {r : Fin'}

/-- The elements of an array that is a key, one by one. -/
def ckElems (em : Bool) (d : Nat) (e : TypeId) (n : Nat) (xs : Array Value) : Nat → Nat → Sem Unit
  | 0, _ => pure ()
  | m + 1, i => do Instr.checkKey em d e (← part e xs (i * n)); ckElems em d e n xs m (i + 1)
def ckFields (em : Bool) (d : Nat) (xs : Array Value) : List Field → Sem Unit
  | [] => pure ()
  | f :: r => do
    if f.name ≠ "_" then Instr.checkKey em d f.type (← part f.type xs f.offset)
    ckFields em d xs r

theorem run_check_array (em : Bool) (d : Nat) {t e : TypeId} {len n : Nat} {xs : Array Value} (hu : P.underlying t = some (.array len e)) (hn : ∀ w : World, (sizeOf e).run P w = .ok n w) :
    (Instr.checkKey em (d + 1) t (.agg xs)).run P w = (ckElems em d e n xs len 0).run P w := by
  rw [Instr.checkKey]
  simp only [Sem.run_bind, run_underlying hu, Result.andThen_ok]
  simp only [Std.Legacy.Range.forIn_eq_forIn_range', Std.Legacy.Range.size, Nat.sub_zero, Nat.add_one_sub_one, Nat.div_one]
  clear hu
  generalize 0 = i
  induction len generalizing w i with
  | zero => simp [ckElems]
  | succ m ih =>
    simp only [List.range'_succ, List.forIn_cons, ckElems, Sem.run_bind, hn, Result.andThen_ok]
    generalize (part e xs (i * n)).run P w = r1
    cases r1 with
    | ok a w1 =>
      simp only [Result.andThen_ok]
      generalize (Instr.checkKey em d e a).run P w1 = r2
      cases r2 with
      | ok b w2 =>
        simp only [Result.andThen_ok, Sem.run_pure]
        exact ih (i + 1)
      | halt x w2 => simp [Result.andThen]
    | halt x w1 => simp [Result.andThen]

theorem run_check_struct (em : Bool) (d : Nat) {t : TypeId} {fs : Array Field} {xs : Array Value} (hu : P.underlying t = some (.struct fs)) :
    (Instr.checkKey em (d + 1) t (.agg xs)).run P w = (ckFields em d xs fs.toList).run P w := by
  rw [Instr.checkKey]
  simp only [Sem.run_bind, run_underlying hu, Result.andThen_ok]
  rw [← Array.forIn_toList]
  clear hu
  generalize fs.toList = L
  induction L generalizing w with
  | nil => simp [ckFields]
  | cons f L ih =>
    simp only [List.forIn_cons, ckFields, Sem.run_bind]
    by_cases hn : f.name = "_"
    · simp only [hn, ne_eq, not_true_eq_false, if_false, Sem.run_pure, Result.andThen_ok]
      exact ih
    · simp only [hn, ne_eq, not_false_eq_true, if_true, Sem.run_bind]
      generalize (part f.type xs f.offset).run P w = r1
      cases r1 with
      | ok a w1 =>
        simp only [Result.andThen_ok]
        generalize (Instr.checkKey em d f.type a).run P w1 = r2
        cases r2 with
        | ok b w2 =>
          simp only [Result.andThen_ok, Sem.run_pure]
          exact ih
        | halt x w2 => simp [Result.andThen]
      | halt x w1 => simp [Result.andThen]

mutual
theorem chkK_ok (hE : EnvOK P E) (em : Bool) : ∀ (d : Nat) (t : TypeId) (v : AV) (c : Value) (d' : Nat), chkK E d t v = true → VR M ι v c → d ≤ d' → (Instr.checkKey em d' t c).run P w = .ok () w
  | 0, _, _, _, _, h, _, _ => by simp [chkK] at h
  | d + 1, t, v, c, d', h, hv, hd' => by
    obtain ⟨d', rfl⟩ : ∃ m, d' = m + 1 := ⟨d' - 1, by omega⟩
    rw [chkK] at h
    split at h
    · cases h
    rename_i i hi
    have hu := (hE t i hi).und
    split at h
    · rename_i hd; rw [hd] at hu
      simp [Instr.checkKey, run_underlying hu]
    · rename_i hd; rw [hd] at hu
      simp [Instr.checkKey, run_underlying hu]
    · rename_i hd; rw [hd] at hu
      simp [Instr.checkKey, run_underlying hu]
    · rename_i len e cs hd; rw [hd] at hu
      split at h
      · cases h
      rename_i ei hei
      have hv' := hv
      cases hv with
      | agg h1 h2 h3 =>
        rw [run_check_array em d' hu (fun w => (hE e ei hei).run_size)]
        exact chkElems_ok hE em d e ei.size len 0 cs _ d' h hv' (by omega)
    · rename_i fs cs hd; rw [hd] at hu
      have hv' := hv
      cases hv with
      | agg h1 h2 h3 =>
        rw [run_check_struct em d' hu]
        exact chkFields_ok hE em d fs.toList cs _ d' h hv' (by omega)
    · cases h
theorem chkFields_ok (hE : EnvOK P E) (em : Bool) : ∀ (d : Nat) (fs : List Field) (cs : List AV) (ys : Array Value) (d' : Nat), chkFields E d fs cs = true → VR M ι (.agg cs) (.agg ys) → d ≤ d' → (ckFields em d' ys fs).run P w = .ok () w
  | 0, _, _, _, _, h, _, _ => by simp [chkFields] at h
  | d + 1, [], _, _, _, _, _, _ => by simp [ckFields]
  | d + 1, f :: r, cs, ys, d', h, hv, hd' => by
    rw [chkFields] at h
    rw [ckFields]
    split at h
    · rename_i hn
      have hn : f.name = "_" := by simpa using hn
      simp only [hn, ne_eq, not_true_eq_false, if_false]
      exact chkFields_ok hE em d r cs ys d' h hv (by omega)
    · rename_i hn
      have hn : f.name ≠ "_" := by simpa using hn
      split at h
      · rename_i x hx
        rw [Bool.and_eq_true] at h
        obtain ⟨c, q1, q2⟩ := partOf_ok (P := P) (w := w) hE hv hx
        simp only [hn, ne_eq, not_false_eq_true, if_true, Sem.run_bind, q2, Result.andThen_ok, chkK_ok hE em d f.type x c d' h.1 q1 (by omega)]
        exact chkFields_ok hE em d r cs ys d' h.2 hv (by omega)
      · cases h
theorem chkElems_ok (hE : EnvOK P E) (em : Bool) : ∀ (d : Nat) (e : TypeId) (n m i : Nat) (cs : List AV) (ys : Array Value) (d' : Nat), chkElems E d e n m i cs = true → VR M ι (.agg cs) (.agg ys) → d ≤ d' → (ckElems em d' e n ys m i).run P w = .ok () w
  | 0, _, _, _, _, _, _, _, h, _, _ => by simp [chkElems] at h
  | d + 1, _, _, 0, _, _, _, _, _, _, _ => by simp [ckElems]
  | d + 1, e, n, m + 1, i, cs, ys, d', h, hv, hd' => by
    rw [chkElems] at h
    rw [ckElems]
    split at h
    · rename_i x hx
      rw [Bool.and_eq_true] at h
      obtain ⟨c, q1, q2⟩ := partOf_ok (P := P) (w := w) hE hv hx
      simp only [Sem.run_bind, q2, Result.andThen_ok, chkK_ok hE em d e x c d' h.1 q1 (by omega)]
      exact chkElems_ok hE em d e n m (i + 1) cs ys d' h.2 hv (by omega)
    · cases h
end

theorem sameIB_eq : ∀ {xs ys : List AV} {as bs : Array Value}, sameIB xs ys = true → VR M ι (.agg xs) (.agg as) → VR M ι (.agg ys) (.agg bs) → as = bs ∧ ∀ c ∈ as.toList, ∃ k n, c = .int k n := by
  have key : ∀ (xs ys : List AV) (as bs : List Value), sameIB xs ys = true → xs.length = as.length → ys.length = bs.length → (∀ (i : Nat) (x : AV) (y : Value), xs[i]? = some x → as[i]? = some y → VR M ι x y) →
      (∀ (i : Nat) (x : AV) (y : Value), ys[i]? = some x → bs[i]? = some y → VR M ι x y) → as = bs ∧ ∀ c ∈ as, ∃ k n, c = .int k n := by
    intro xs
    induction xs with
    | nil =>
      intro ys as bs h h1 h2 _ _
      cases ys with
      | nil =>
        obtain rfl := List.eq_nil_of_length_eq_zero h1.symm
        obtain rfl := List.eq_nil_of_length_eq_zero h2.symm
        exact ⟨rfl, fun c hc => by cases hc⟩
      | cons y ys => simp [sameIB] at h
    | cons x xs ih =>
      intro ys as bs h h1 h2 h3 h4
      cases ys with
      | nil => cases x <;> simp [sameIB] at h
      | cons y ys =>
        unfold sameIB at h
        split at h
        · rename_i heq; cases heq
        · rename_i k a r k' b s e1 e2
          cases e1; cases e2
          simp only [Bool.and_eq_true, beq_iff_eq] at h
          obtain ⟨⟨hk, rfl⟩, h⟩ := h
          have hk : k = k' := of_decide_eq_true (by simpa using hk)
          subst hk
          cases as with
          | nil => simp at h1
          | cons c as =>
            cases bs with
            | nil => simp at h2
            | cons c' bs =>
              have g1 := h3 0 _ c rfl rfl
              have g2 := h4 0 _ c' rfl rfl
              cases g1.int_inv
              cases g2.int_inv
              obtain ⟨e, f⟩ := ih ys as bs h (by simpa using h1) (by simpa using h2) (fun i x y hx hy => h3 (i + 1) x y hx hy) (fun i x y hx hy => h4 (i + 1) x y hx hy)
              refine ⟨by rw [e], fun c hc => ?_⟩
              rcases List.mem_cons.1 hc with rfl | hc
              · exact ⟨_, _, rfl⟩
              · exact f c hc
        · cases h
  intro xs ys as bs h h1 h2
  cases h1 with
  | agg a1 a2 a3 =>
    cases h2 with
    | agg b1 b2 b3 =>
      obtain ⟨e, f⟩ := key xs ys as.toList bs.toList h (by simpa using a1) (by simpa using b1) (fun i x y hx hy => a2 i x y hx (by simpa using hy)) (fun i x y hx hy => b2 i x y hx (by simpa using hy))
      exact ⟨Array.toList_inj.1 e, f⟩

theorem sameBits_ints {as : Array Value} (h : ∀ c ∈ as.toList, ∃ k n, c = .int k n) (n : Nat) : Instr.sameBits (n + 1) (.agg as) (.agg as) = true := by
  have key : ∀ l : List Value, (∀ c ∈ l, ∃ k n, c = .int k n) → ((l.zip l).all fun (x, y) => Instr.sameBits n x y) = true := by
    intro l hl
    induction l with
    | nil => rfl
    | cons c l ih =>
      obtain ⟨k, m, rfl⟩ := hl c (by simp)
      rw [List.zip_cons_cons, List.all_cons, ih (fun c hc => hl c (by simp [hc]))]
      cases n <;> simp [Instr.sameBits]
  simp only [Instr.sameBits, beq_self_eq_true, Bool.true_and]
  exact key as.toList h

/-- What is found among a map's entries. -/
def FoundOK (es : List (AV × AV)) (ents : List MapEntry) (i0 : Nat) : Option (Nat × AV × AV) → Option (Nat × Value) → Prop
  | none, none => True
  | some (j, a, v), some (j', u) => j' = j ∧ i0 ≤ j ∧ ∃ e, es[j - i0]? = some (a, v) ∧ ents[j - i0]? = some e ∧ u = e.val
  | _, _ => False

theorem findK_ok (hE : EnvOK P E) {kt : TypeId} {k : AV} {ck : Value} (hk : VR M ι k ck) : ∀ (es : List (AV × AV)) (ents : List MapEntry) (i : Nat) (kk : Option (Nat × AV × AV) → Res), findK E kt k es i kk = some r →
    es.length = ents.length → (∀ (i : Nat) (x : AV × AV) (e : MapEntry), es[i]? = some x → ents[i]? = some e → VR M io0 x.1 e.key ∧ VR M io0 x.2 e.val) →
    ∃ q q', kk q = some r ∧ (Instr.findAsking kt ck ents i).run P w = .ok q' w ∧ FoundOK es ents i q q'
  | [], [], i, kk, h, _, _ => ⟨none, none, h, by simp [Instr.findAsking], trivial⟩
  | [], _ :: _, _, _, _, hl, _ => by simp at hl
  | _ :: _, [], _, _, _, hl, _ => by simp at hl
  | (a, v) :: es, e :: ents, i, kk, h, hl, hr => by
    simp only [findK] at h
    split at h
    · rename_i b hb
      obtain ⟨h1, h2⟩ := hr 0 _ e rfl rfl
      have heq := aEq_ok (w := w) hE 1000 kt k a b ck e.key Op.maxDepth hb hk (h1.mono (fun _ _ h => h) (fun _ _ _ h => by cases h)) (by decide)
      have heq : (Op.equal kt ck e.key).run P w = .ok b w := heq
      rcases aIf_some h with ⟨rfl, h⟩ | ⟨rfl, h⟩
      · refine ⟨_, some (i, e.val), h, by simp [Instr.findAsking, heq], rfl, Nat.le_refl _, e, ?_, ?_, rfl⟩
        · simp
        · simp
      · obtain ⟨q, q', g1, g2, g3⟩ := findK_ok hE hk es ents (i + 1) kk h (by simpa using hl) (fun i x e hx he => hr (i + 1) x e hx he)
        refine ⟨q, q', g1, by simp [Instr.findAsking, heq, g2], ?_⟩
        cases q with
        | none => cases q' <;> exact g3
        | some q =>
          obtain ⟨j, x, y⟩ := q
          cases q' with
          | none => exact g3
          | some q' =>
            obtain ⟨j', u⟩ := q'
            obtain ⟨rfl, hle, e', k1, k2, k3⟩ := g3
            refine ⟨rfl, by omega, e', ?_, ?_, k3⟩
            · rw [show j' - i = (j' - (i + 1)) + 1 by omega]; exact k1
            · rw [show j' - i = (j' - (i + 1)) + 1 by omega]; exact k2
    · cases h

theorem run_findKey_wide {kt : TypeId} {d : TypeDesc} (hu : P.underlying kt = some d) (hw : isWide d = true) (x : Value) (es : List MapEntry) :
    (Instr.findKey kt x es).run P w = (Instr.findAsking kt x es).run P w := by
  cases es with
  | nil => cases d <;> simp [isWide] at hw <;> simp [Instr.findKey, run_underlying hu, Instr.findNow, Instr.findAsking]
  | cons e es => cases d <;> simp [isWide] at hw <;> simp [Instr.findKey, run_underlying hu, Instr.findNow, Instr.sameNow]

theorem Inv.map (hI : Inv M ι H w) {id : Nat} {es : List (AV × AV)} (ho : H[id]? = some (.mp es)) : ∃ b n ents clock, ι id 0 = some (b, n) ∧ w.heap[b]? = some (.map ents clock) ∧ ents.size = es.length ∧
    ∀ (i : Nat) (x : AV × AV) (e : MapEntry), es[i]? = some x → ents[i]? = some e → VR M io0 x.1 e.key ∧ VR M io0 x.2 e.val := hI.obj id _ ho

theorem aLookupK_ok {t : TypeId} {m k : AV} {cm ck : Value} {ok : Bool} {kv : AV → AH → Res} (hE : EnvOK P E) (hI : Inv M ι H w) (hm : VR M ι m cm) (hk : VR M ι k ck) (h : aLookupK E t m k ok H kv = some r) :
    RunOK P M ι H w (Instr.lookup t cm ck ok) kv r := by
  unfold aLookupK at h
  split at h
  · cases h
  rename_i i hi
  have hu := (hE t i hi).und
  split at h
  · rename_i kt et hd
    rw [hd] at hu
    split at h
    · rename_i ki ei hki hei
      split at h
      · cases h
      rename_i hw
      split at h
      · rename_i id
        split at h
        · rename_i es ho
          obtain ⟨hc, h⟩ := aIf_none h
          rw [Bool.and_eq_true] at hc
          obtain ⟨b, n, ents, clock, g1, g2, g3, g4⟩ := hI.map ho
          cases hm with
          | mp hb =>
          rw [g1] at hb; cases hb
          obtain ⟨q, q', k1, k2, k3⟩ := findK_ok (P := P) (w := w) hE hk es ents.toList 0 _ h (by simpa using g3.symm) (fun i x e hx he => g4 i x e hx (by simpa using he))
          have hck := fun em => chkK_ok (w := w) hE em 10000 kt k ck 10000 hc.1 hk (Nat.le_refl _)
          have hget : (getObj b).run P w = .ok (.map ents clock) w := by simp [getObj, Sem.run, g2]
          have hfk : (Instr.findKey kt ck ents.toList).run P w = .ok q' w := by rw [run_findKey_wide (hE kt ki hki).und hw]; exact k2
          obtain ⟨z, hz, z1, z2, z3, z4⟩ := (hE et ei hei).run_zero (w := w)
          have hza : VR M ι (asVal ei ei.zero) z := vr_asZero z1 z2 z3 z4
          cases q with
          | none =>
            cases q' with
            | some q' => exact k3.elim
            | none =>
              refine PureOK.runOK hI ⟨_, if ok then .tuple #[z, .bool false] else z, k1, ?_, ?_⟩
              · cases ok
                · exact hza
                · exact .tup rfl (fun i x y hx hy => by
                    match i with
                    | 0 => simp at hx hy; subst hx; subst hy; exact hza
                    | 1 => simp at hx hy; subst hx; subst hy; exact .bool _
                    | i + 2 => simp at hx)
              · cases ok <;> simp [Instr.lookup, run_underlying hu, hget, hck, hfk, hz]
          | some q =>
            obtain ⟨j, a, v⟩ := q
            cases q' with
            | none => exact k3.elim
            | some q' =>
              obtain ⟨j', u⟩ := q'
              obtain ⟨rfl, _, e, e1, e2, rfl⟩ := k3
              have hv : VR M ι v e.val := (g4 _ _ e e1 (by simpa using e2)).2.mono (fun _ _ h => h) (fun _ _ _ h => by cases h)
              refine PureOK.runOK hI ⟨_, if ok then .tuple #[e.val, .bool true] else e.val, k1, ?_, ?_⟩
              · cases ok
                · exact hv
                · exact .tup rfl (fun i x y hx hy => by
                    match i with
                    | 0 => simp at hx hy; subst hx; subst hy; exact hv
                    | 1 => simp at hx hy; subst hx; subst hy; exact .bool _
                    | i + 2 => simp at hx)
              · cases ok <;> simp [Instr.lookup, run_underlying hu, hget, hck, hfk]
        · cases h
      · cases h
    · cases h
  · cases h

theorem run_setObj_any {w : World} {b : Nat} {es : Array MapEntry} {c : Nat} {o' : Obj} (h : w.heap[b]? = some (.map es c)) : (setObj b o').run P w = .ok () { w with heap := w.heap.setIfInBounds b o' } := by simp [setObj, Sem.run, h]

theorem aMapSetK_ok {t : TypeId} {m k v : AV} {cm ck cv : Value} {kv : AV → AH → Res} (hE : EnvOK P E) (hI : Inv M ι H w) (hm : VR M ι m cm) (hk : VR M ι k ck) (hv : VR M ι v cv) (h : aMapSetK E t m k v H kv = some r) :
    ∃ v' H' M' ι' w', kv v' H' = some r ∧ Stp M ι H w M' ι' H' w' ∧ v' = .tup [] ∧ (Instr.mapUpdate t cm ck cv).run P w = .ok () w' := by
  unfold aMapSetK at h
  split at h
  · cases h
  rename_i i hi
  have hu := (hE t i hi).und
  split at h
  · rename_i kt et hd
    rw [hd] at hu
    split at h
    · cases h
    rename_i ki hki
    split at h
    · cases h
    rename_i hw
    split at h
    · rename_i id
      split at h
      · rename_i es ho
        split at h
        · rename_i ks
          obtain ⟨hc, h⟩ := aIf_none h
          rw [Bool.and_eq_true, Bool.and_eq_true] at hc
          obtain ⟨b, n, ents, clock, g1, g2, g3, g4⟩ := hI.map ho
          cases hm with
          | mp hb =>
          rw [g1] at hb; cases hb
          obtain ⟨q, q', k1, k2, k3⟩ := findK_ok (P := P) (w := w) hE hk es ents.toList 0 _ h (by simpa using g3.symm) (fun i x e hx he => g4 i x e hx (by simpa using he))
          have hck := fun em => chkK_ok (w := w) hE em 10000 kt _ ck 10000 hc.1.1 hk (Nat.le_refl _)
          have hget : (getObj b).run P w = .ok (.map ents clock) w := by simp [getObj, Sem.run, g2]
          have hfk : (Instr.findKey kt ck ents.toList).run P w = .ok q' w := by rw [run_findKey_wide (hE kt ki hki).und hw]; exact k2
          have hbl : b < w.heap.size := (Array.getElem?_eq_some_iff.1 g2).1
          have hk0 : VR M io0 (.agg ks) ck := hk.free hc.1.2 io0
          have hv0 : VR M io0 v cv := hv.free hc.2 io0
          have turn : ∀ (es' : List (AV × AV)) (ents' : Array MapEntry) (clock' : Nat), ents'.size = es'.length → (∀ (i : Nat) (x : AV × AV) (e : MapEntry), es'[i]? = some x → ents'[i]? = some e → VR M io0 x.1 e.key ∧ VR M io0 x.2 e.val) →
              Stp M ι H w M (ι.ext id 0 b n) (H.set id (.mp es')) { w with heap := w.heap.setIfInBounds b (.map ents' clock') } := by
            intro es' ents' clock' q1 q2
            exact Stp.turn (w' := { w with heap := w.heap.setIfInBounds b (.map ents' clock') }) hI ho (o' := .mp es') g1 (Nat.le_refl _) (fun _ => ⟨rfl, rfl⟩) (.inl rfl)
              (fun k _ hk => by simp [Ne.symm hk]) (by simp) rfl rfl rfl ⟨b, n, ents', clock', by simp [AO.ver, Io.ext_self], by simp [hbl], q1, q2⟩
          cases q with
          | none =>
            cases q' with
            | some q' => exact k3.elim
            | none =>
              refine ⟨_, _, _, _, _, k1, turn (es ++ [(.agg ks, v)]) (ents.push { key := ck, val := cv, born := clock }) (clock + 1) (by simp [g3]) (fun i x e hx he => ?_), rfl, ?_⟩
              · rcases Nat.lt_trichotomy i es.length with hlt | heq | hgt
                · rw [List.getElem?_append_left hlt] at hx
                  rw [Array.getElem?_push_lt (by omega)] at he
                  exact g4 i x e hx (by rw [Array.getElem?_eq_getElem (by omega)]; exact he)
                · subst heq
                  rw [← g3] at he
                  simp at hx he
                  subst hx; subst he
                  exact ⟨hk0, hv0⟩
                · rw [List.getElem?_eq_none (by simp; omega)] at hx; cases hx
              · simp [Instr.mapUpdate, run_underlying hu, hget, hck, hfk, run_setObj_any g2]
          | some q =>
            obtain ⟨j, a, v1⟩ := q
            cases q' with
            | none => exact k3.elim
            | some q' =>
              obtain ⟨j', u⟩ := q'
              obtain ⟨rfl, _, e, e1, e2, rfl⟩ := k3
              simp only [Nat.sub_zero] at e1 e2
              have e2 : ents[j']? = some e := by simpa using e2
              obtain ⟨p1, p2⟩ := g4 _ _ e e1 e2
              split at k1
              · rename_i j2 old _ heq
                cases heq
                obtain ⟨hs, k1⟩ := aIf_none k1
                cases hck' : ck <;> rw [hck'] at hk0 <;> (try (cases hk0; done))
                rename_i cks
                cases hke : e.key <;> rw [hke] at p1 <;> (try (cases p1; done))
                rename_i oks
                obtain ⟨rfl, hints⟩ := sameIB_eq hs p1 hk0
                have hstay : (Instr.keyThatStays (((ents[j']?).map (·.key)).getD ck) ck).run P w = .ok ck w := by
                  rw [e2, hck']
                  simp only [Option.map_some, Option.getD_some, hke, Instr.keyThatStays, sameBits_ints hints 9999, if_true, Sem.run_pure]
                have hj : j' < ents.size := (Array.getElem?_eq_some_iff.1 e2).1
                refine ⟨_, _, _, _, _, k1, turn (es.set j' (.agg ks, v)) (ents.modify j' fun e => { e with key := ck, val := cv }) clock (by simp [g3]) (fun i x e' hx he => ?_), rfl, ?_⟩
                · rw [Array.getElem?_modify] at he
                  by_cases hij : j' = i
                  · subst hij
                    rw [List.getElem?_set_self (by omega)] at hx
                    rw [if_pos rfl, e2] at he
                    simp at hx he
                    subst hx; subst he
                    exact ⟨by rw [hck']; exact hk0, hv0⟩
                  · rw [List.getElem?_set_ne hij] at hx
                    rw [if_neg hij] at he
                    exact g4 i x e' hx he
                · rw [← hck']
                  simp only [Instr.mapUpdate, Sem.run_bind, run_underlying hu, Result.andThen_ok, hget, hck, hfk, hstay, run_setObj_any g2]
              · cases k1
              · rename_i heq; cases heq
        · cases h
      · cases h
    · cases h
  · cases h

theorem aMakeMap_ok {t : TypeId} {kv : AV → AH → Res} (hI : Inv M ι H w) (h : kv (.mp H.length) (H ++ [.mp []]) = some r) : RunOK P M ι H w (Instr.makeMap t none) kv r := by
  refine ⟨_, _, M, _, _, .map (some w.heap.size), h, Stp.alloc hI (.mp []) (.map #[] 0) 0 ?_, .mp (Io.ext_self _ _ _ _ _), run_makeMap t w⟩
  exact ⟨w.heap.size, 0, #[], 0, Io.ext_self _ _ _ _ _, (by show (w.heap.push _)[w.heap.size]? = _; simp), rfl, fun i x e hx => by simp at hx⟩

theorem aClearK_ok {ats : Array TypeId} {ty : TypeId} {d : AV} {d' : Value} {kv : AV → AH → Res} (hE : EnvOK P E) (hI : Inv M ι H w) (hd : VR M ι d d') (h : aClearK E ats d H kv = some r) :
    RunOK P M ι H w (Builtin.clear_ ats ty #[d']) kv r := by
  unfold aClearK at h
  split at h
  · cases h
  rename_i t ht
  split at h
  · cases h
  rename_i i hi
  have hT := hE t i hi
  split at h
  · rename_i e hde
    have hu := hT.und; rw [hde] at hu
    split at h
    · cases h
    rename_i ei hei
    have hTe := hE e ei hei
    split at h
    · rename_i sz fl
      have hlenz : ∃ base cap, d' = .slice base 0 cap := by
        rcases hd.fs_inv with ⟨_, _, rfl⟩ | ⟨_, _, za, rfl⟩ | ⟨_, b, o, cap, rfl, _⟩
        · exact ⟨_, _, rfl⟩
        · exact ⟨_, _, rfl⟩
        · exact ⟨_, _, rfl⟩
      obtain ⟨base, cap, rfl⟩ := hlenz
      refine PureOK.runOK hI ⟨_, .tuple #[], h, .tup rfl (fun i x y hx => by simp at hx), ?_⟩
      cases base <;> simp [Builtin.clear_, ht, run_underlying hu]
    · rename_i id ver off len sz
      split at h
      · rename_i v cs ho hsz
        obtain rfl : sz = ei.size := by simpa using hsz
        obtain ⟨hvv, h⟩ := aIf_none h
        obtain rfl : v = ver := by simpa using hvv
        obtain ⟨hle, h⟩ := aIf_none h
        have hle : off + len * ei.size ≤ cs.length := by simpa using hle
        obtain ⟨b, n, cur, te, hbk, hh, hn, hcs, hcv, hrow, hown⟩ := hI.row ho
        obtain ⟨z, hz, z1, z2, z3, z4⟩ := hTe.run_zero (w := w)
        have hzl : ei.zero.length = ei.size := by rw [z1.1, z2]
        have hxl : ((List.replicate len ei.zero).flatten).length = len * ei.size := by simp [hzl]
        have hvl : (Builtin.zeroCells z.cells len).toList.length = len * ei.size := by simp [Builtin.zeroCells, z2]
        have hrel : ∀ (i : Nat) (x : AV) (v : Value), ((List.replicate len ei.zero).flatten)[i]? = some x → (Builtin.zeroCells z.cells len).toList[i]? = some v → VR M ι x v ∧ vone v = true := by
          intro i x v hx hv
          obtain ⟨v', q1, q2, q3⟩ := zeros_rel (M := M) (ι := ι) z1 z2 len (Builtin.zeroCells z.cells len) (by simp only [Builtin.zeroCells, z2]) i x hx
          have : v' = v := by
            rw [Array.getElem?_toList] at hv
            rw [hv] at q1; exact (Option.some.inj q1).symm
          subst this
          exact ⟨q2, q3⟩
        have hone : ∀ u ∈ (Builtin.zeroCells z.cells len).toList, u.oneCell' = true := by
          intro u hu'
          obtain ⟨j, hj⟩ := List.mem_iff_getElem?.1 hu'
          have hjl : j < ((List.replicate len ei.zero).flatten).length := by rw [hxl, ← hvl]; exact (List.getElem?_eq_some_iff.1 hj).1
          exact oneCell'_of_vone (hrel j _ u (List.getElem?_eq_getElem hjl) hj).2
        cases hd with
        | sl o cap hp h1 h2 h3 =>
          rw [hbk] at hp; cases hp
          have hw := hI.write ho hbk hh off (List.replicate len ei.zero).flatten (Builtin.zeroCells z.cells len).toList (by rw [hxl, hvl]) (by omega) hrel
            (cs.take off ++ (List.replicate len ei.zero).flatten ++ cs.drop (off + len * ei.size)) (by simp only [List.length_append, List.length_take, List.length_drop, hxl]; omega) (fun i => by
              have := splice_get cs (List.replicate len ei.zero).flatten off i (by omega)
              rw [hxl] at this ⊢
              exact this)
          by_cases hl0 : len = 0
          · subst hl0
            have hset : H.set id (.cells v cs) = H := by
              apply List.ext_getElem?
              intro j
              by_cases hj : j = id
              · subst hj
                rw [List.getElem?_set_self (List.getElem?_eq_some_iff.1 ho).1, ho]
              · rw [List.getElem?_set_ne (Ne.symm hj)]
            simp only [List.replicate_zero, List.flatten_nil, Nat.zero_mul, List.append_nil, Nat.add_zero, List.take_append_drop] at h
            rw [hset] at h
            refine PureOK.runOK hI ⟨_, .tuple #[], h, .tup rfl (fun i x y hx => by simp at hx), ?_⟩
            simp [Builtin.clear_, ht, run_underlying hu]
          · obtain rfl : o = off := by
              rcases h2 with h2 | h2
              · omega
              · exact h2
            refine ⟨_, _, _, _, _, .tuple #[], h, hw, .tup rfl (fun i x y hx => by simp at hx), ?_⟩
            have hst := run_storeCells_at P b o te (Builtin.zeroCells z.cells len).toList 0 cur w hh (by rw [hvl]; omega) hone
            simp only [Nat.add_zero] at hst
            obtain ⟨m, rfl⟩ : ∃ m, len = m + 1 := ⟨len - 1, by omega⟩
            simp [Builtin.clear_, ht, run_underlying hu, hz, hst]
      · cases h
    · cases h
  · cases h

end
end Go.Abs
