/- A law's statement from its evaluation. -/
import Derived.Test.YteaceebonkpipaaA16
namespace Go.Abs
open Go.RowKit Go.ChangeShapes Go.WideShapes Go.ChangeAt

def argsV (E : Env) (f : Nat) : List TypeId → List AV → Prop
  | [], [] => True
  | t :: ts, x :: xs => argV E f t x ∧ argsV E f ts xs
  | _, _ => False

section
variable {P : Program} {E : Env} {H : Type} {enc : TypeId × Value → H} {W : World}

theorem okWide_cells {base : Nat} {f : Nat} {t : TypeId} {v : Value} (hE : EnvOK P E) (hp : plainT E f t = true) (h : Value.okWide P W .any base t v) :
    (aggT E t = true → ∃ cs : Array Value, v = .agg cs ∧ cs.size = szOf E t) ∧ (aggT E t = false → v.cells.toList = [v] ∧ szOf E t = 1) := by
  obtain ⟨i, hi⟩ := plain_ti hp
  have hu := (hE t i hi).und
  have hsc := (hE t i hi).scalar
  have hz : szOf E t = i.size := by simp [szOf, hi]
  have ha : aggT E t = isAggD i.desc := by simp [aggT, hi]
  have hc := cellsOf_of hE hi
  cases f with
  | zero => cases hp
  | succ f =>
  unfold plainT at hp
  rw [hi] at hp
  simp only at hp
  rw [ha, hz]
  rw [hz] at hc
  split at hp
  · rename_i hd; rw [hd] at hu hsc ⊢
    obtain ⟨b, rfl⟩ := okWide_bool hu h
    exact ⟨fun h => (by cases h), fun _ => ⟨rfl, hsc rfl⟩⟩
  · rename_i hd; rw [hd] at hu hsc ⊢
    obtain ⟨b, rfl⟩ := okWide_int hu h
    exact ⟨fun h => (by cases h), fun _ => ⟨rfl, hsc rfl⟩⟩
  · rename_i hd; rw [hd] at hu hsc ⊢
    obtain ⟨b, rfl⟩ := okWide_string hu h
    exact ⟨fun h => (by cases h), fun _ => ⟨rfl, hsc rfl⟩⟩
  · rename_i hd; rw [hd] at hu hsc ⊢
    obtain ⟨a, len, cap, rfl⟩ := okWide_slice hu h
    exact ⟨fun h => (by cases h), fun _ => ⟨rfl, hsc rfl⟩⟩
  · rename_i hd; rw [hd] at hu ⊢
    obtain ⟨cs, h1, h2⟩ := okWide_struct hu h
    exact ⟨fun _ => ⟨cs, h1, by rw [h2, hc]⟩, fun h => by cases h⟩
  · rename_i hd; rw [hd] at hu ⊢
    simp only [Value.okWide, hu] at h
    obtain ⟨cs, h1, h2, _⟩ := h
    exact ⟨fun _ => ⟨cs, h1, by rw [h2, hc]⟩, fun h => by cases h⟩
  · cases hp

theorem arg_vr {base : Nat} {f : Nat} {t : TypeId} {v : Value} {d : DataW H} {ps : List MemPlace} (hE : EnvOK P E) (hp : plainT E f t = true) (hv : Value.okWide P W .any base t v)
    (h : DataW.Trod enc P W 0 (fun _ => true) true t v d ps) : ∃ x, VR W.cell? io0 x v ∧ argV E f t x := by
  obtain ⟨fuel, h⟩ := h
  obtain ⟨h1, h2⟩ := okWide_cells hE hp hv
  cases hag : aggT E t with
  | true =>
    obtain ⟨cs, rfl, hs⟩ := h1 hag
    obtain ⟨xs, hc, ha⟩ := trod_vr hE f hp h (by simpa [Value.cells] using hs)
    have hc' : CR W xs cs.toList := hc
    refine ⟨.agg xs, .agg (by simpa using hc'.1) (fun i x y hx hy => (hc'.2 i x y hx (by simpa using hy)).1) (fun i y hy => ?_), ha, fun _ => ⟨xs, rfl⟩, fun h => (by rw [hag] at h; cases h)⟩
    have hi : i < xs.length := by rw [hc'.1]; simpa using (Array.getElem?_eq_some_iff.1 hy).1
    exact (hc'.2 i xs[i] y (List.getElem?_eq_getElem hi) (by simpa using hy)).2.1
  | false =>
    obtain ⟨h3, h4⟩ := h2 hag
    rw [h3] at h
    obtain ⟨xs, hc, ha⟩ := trod_vr hE f hp h (by simpa using h4.symm)
    obtain ⟨x, rfl, hx⟩ := argT_len f hp ha hag
    exact ⟨x, (hc.2 0 x v rfl rfl).1, by rw [hx]; exact ha, fun h => (by rw [hag] at h; cases h), fun _ => hx⟩

theorem args_vr {base : Nat} {f : Nat} (hE : EnvOK P E) : ∀ {ts : List TypeId} {vs : List Value} {ds : List (DataW H)} {ps : List MemPlace}, (∀ t ∈ ts, plainT E f t = true) →
    (∀ (j : Nat) t v, ts[j]? = some t → vs[j]? = some v → Value.okWide P W .any base t v) → DataW.TrodAll enc P W 0 (fun _ => true) true ts vs ds ps →
    ∃ xs : List AV, (xs.length = vs.length ∧ ∀ (i : Nat) (x : AV) (y : Value), xs[i]? = some x → vs[i]? = some y → VR W.cell? io0 x y) ∧ argsV E f ts xs ∧ ds.length = ts.length
  | [], [], [], _, _, _, _ => ⟨[], ⟨rfl, fun i x y hx => by simp at hx⟩, trivial, rfl⟩
  | t :: ts, v :: vs, d :: ds, _, hp, hv, ⟨p, q, h, hs, e⟩ => by
    obtain ⟨x, h1, h2⟩ := arg_vr hE (hp t (by simp)) (hv 0 t v rfl rfl) h
    obtain ⟨xs, h3, h4, h5⟩ := args_vr hE (fun u hu => hp u (by simp [hu])) (fun j u c hu hc => hv (j + 1) u c (by simpa using hu) (by simpa using hc)) hs
    refine ⟨x :: xs, ⟨by simp [h3.1], fun i a b ha hb => ?_⟩, ⟨h2, h4⟩, by simp [h5]⟩
    cases i with
    | zero => simp at ha hb; subst ha; subst hb; exact h1
    | succ i => exact h3.2 i a b (by simpa using ha) (by simpa using hb)
  | [], [], _ :: _, _, _, _, h => h.elim
  | [], _ :: _, _, _, _, _, h => h.elim
  | _ :: _, [], _, _, _, _, h => h.elim
  | _ :: _, _ :: _, [], _, _, _, h => h.elim

theorem args_stay {W' : World} {sp : Nat → Bool} (hl : laidOutB P = true) (hb : Below W.heap.size W W') : ∀ {ts : List TypeId} {vs : List Value} {ds : List (DataW H)} {ps : List MemPlace},
    (∀ t ∈ ts, P.readableRec t = true ∧ t < P.types.size) → DataW.TrodAll enc P W 0 (fun _ => true) true ts vs ds ps → (∀ p ∈ ps, p.block < W.heap.size) → (∀ p ∈ ps, sp p.block = true) →
    DataW.TrodAll enc P W' 0 sp true ts vs ds ps
  | [], [], [], _, _, h, _, _ => h
  | t :: ts, v :: vs, d :: ds, _, hp, ⟨p, q, h, hs, e⟩, hlt, hsp => by
    subst e
    obtain ⟨r1, r2⟩ := hp t (by simp)
    exact ⟨p, q, WideElems.Trod_stays hl r1 r2 h (fun x hx => hb.same (hlt x (List.mem_append_left _ hx))) (fun x hx => hsp x (List.mem_append_left _ hx)),
      args_stay hl hb (fun u hu => hp u (by simp [hu])) hs (fun x hx => hlt x (List.mem_append_right _ hx)) (fun x hx => hsp x (List.mem_append_right _ hx)), rfl⟩
  | [], [], _ :: _, _, _, h, _, _ => h.elim
  | [], _ :: _, _, _, _, h, _, _ => h.elim
  | _ :: _, [], _, _, _, h, _, _ => h.elim
  | _ :: _, _ :: _, [], _, _, h, _, _ => h.elim

theorem Stp.below {M M' : Mem} {ι' : Io} {w w' : World} (h : Stp M io0 [] w M' ι' [] w') : Below w.heap.size w w' :=
  ⟨h.os, h.tape, h.output, h.size, fun k hk => h.keep k hk (by rintro ⟨id, o, n, h1, _⟩; simp at h1)⟩

theorem globOK_nil (h : ∀ g, globInts g = []) (M : Mem) : GlobOK M := fun g i x hx => by rw [h] at hx; simp at hx
theorem globTab {W : World} {g : Nat} {k : IntKind} {zs : List Int} (h : ∀ i, i < zs.length → W.cell? ⟨g, i, none⟩ = some (.int k (zs.getD i 0))) {i : Nat} {x : IntKind × Int} (hx : (zs.map fun n => (k, n))[i]? = some x) : W.cell? ⟨g, i, none⟩ = some (.int x.1 x.2) := by
  rw [List.getElem?_map] at hx
  obtain ⟨z, hz, rfl⟩ := Option.map_eq_some_iff.1 hx
  have hi := (List.getElem?_eq_some_iff.1 hz).1
  rw [h i hi, List.getD_eq_getElem?_getD, hz]
  rfl

/-- **A law's end.** -/
theorem law_post {f : FuncId} {fn : Func} {s : ChangeSpec} {apart fresh handsOn again : Bool} {D : Nat} {tb : TypeId} {S : FSpec} (hE : EnvOK P E) (hl : laidOutB P = true)
    (hparams : fn.params.toList.all (fun t => plainT E D t && P.readableRec t && decide (t < P.types.size)) = true) (hres : fn.resultTypes = #[tb]) (htb : P.underlying tb = some .bool)
    (hvars : s.vars = []) (hs : ∀ ds : List (DataW H), ds.length = fn.params.toList.length → (s.fn H (ds ++ [])).results = [.lit (.bool true)] ∧ (s.fn H (ds ++ [])).args = ds ∧ (s.fn H (ds ++ [])).vars = [])
    (hS : SpecOK P f S) (hlaw : ∀ xs, argsV E D fn.params.toList xs → S xs [] (fun e H => some (e, H)) = some (.ret (.bool true), []))
    {base : Nat} {args : Array Value} {ds gs : List (DataW H)} {before : List MemPlace}
    (hG : GlobOK W.cell?) (hval : ∀ (j : Nat) t v, fn.params[j]? = some t → args[j]? = some v → Value.okWide P W .any base t v)
    (hW : DataW.Whole enc P fn.params.toList s.vars apart W args.toList ds gs before) :
    Calls P f args W fun e W' => ∃ v, e = .returned v ∧ s.post enc P fn apart fresh handsOn again W args v W' := by
  simp only [List.all_eq_true, Bool.and_eq_true, decide_eq_true_eq] at hparams
  have hW' := hW
  obtain ⟨p, q, hA, hV, hpq, hfz, hnd⟩ := hW
  rw [hvars] at hV
  obtain ⟨rfl, rfl⟩ := trodVars_none hV
  simp only [List.append_nil] at hpq
  subst hpq
  obtain ⟨xs, hxs, hargs, hdl⟩ := args_vr hE (fun t ht => (hparams t ht).1.1) (fun j t v ht hv => hval j t v (by simpa using ht) (by simpa using hv)) hA
  have hcall := callsIn_wide.1 (hS.ok xs [] _ _ (hlaw xs hargs) W.cell? io0 W args ⟨fun _ _ h => cell_real h, fun _ _ _ h => (by cases h), fun _ _ h => (by simp at h), fun _ _ _ _ _ _ _ h => (by simp at h), hG⟩
    ⟨by simpa using hxs.1, fun i x y hx hy => hxs.2 i x y hx (by simpa using hy)⟩)
  refine hcall.mono fun en W' ⟨e, H', M', ι', hk, hst, hen⟩ => ?_
  cases hk
  cases en with
  | returned v =>
    obtain rfl : v = .bool true := VR.bool_inv hen
    have hb := hst.below
    obtain ⟨s1, s2, s3⟩ := hs ds hdl
    have hbt : ∀ (b : Nat) (sp : Nat → Bool) (hd : Bool), DataW.TrodAll enc P W' b sp hd fn.resultTypes.toList ((Value.bool true).resultList fn.resultTypes.size) (s.fn H (ds ++ [])).results [] := by
      intro b sp hd
      rw [s1, hres]
      exact trodAll_mk1 (shut_bool htb true)
    have hat : ∀ sp : Nat → Bool, (∀ p ∈ before, sp p.block = true) → DataW.TrodAll enc P W' 0 sp true fn.params.toList args.toList (s.fn H (ds ++ [])).args before := by
      intro sp hsp
      rw [s2]
      exact args_stay hl hb (fun t ht => ⟨(hparams t ht).1.2, (hparams t ht).2⟩) hA (fun x hx => hW'.lt x hx) hsp
    have hvt : ∀ sp : Nat → Bool, DataW.TrodVars enc P W' sp s.vars (s.fn H (ds ++ [])).vars [] := by
      intro sp
      rw [s3, hvars]
      rfl
    have hold : ∀ p ∈ before, (fun b => decide (b < W.heap.size)) p.block = true := fun p hp => by simpa using hW'.lt p hp
    refine ⟨_, rfl, ds, [], before, [], before, [], hW', hbt _ _ _, hat _ hold, hvt _, hb.frame _, fun _ => ⟨ok_one hres rfl (okWide_bool_mk htb true), _, _, ([] ++ before) ++ [], ⟨[] ++ before, [], trodAll_append (hat _ (fun _ _ => rfl)) (hbt _ _ _), hvt _, rfl, ?_, fun ha => ?_⟩, fun p hp _ => by simpa using hp⟩⟩
    · intro b off hp
      have hp : MemPlace.cell b off ∈ before := by simpa using hp
      rw [hb.frozen (p := ⟨b, off, none⟩) (hW'.lt _ hp)]
      exact hfz b off hp
    · simpa using hnd ha
  | _ => exact hen.elim

end
end Go.Abs
