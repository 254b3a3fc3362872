/- Regions and code. -/
import Derived.Test.YteaceebonkpipaaB3
import Derived.RangeFuncRecord
namespace Go.Abs
open Go.RowKit

/-- A summary of a loop says no more than its rounds. -/
structure LoopSum (C : Ctx) (b : Code) (S : ATs → AH → KC → Res) : Prop where
  sum : ∀ ts H k r, S ts H k = some r → ∃ n, aIterK n (headedK C b) ts H k = some r
  nat : ∀ ts H, NatC (S ts H)

structure LoopsOK (C : Ctx) (c : Code) : Prop where
  loops : ∀ b ∈ loopsOf c, ∀ S, C.loop (loopId b) = some S → LoopSum C b S
  keys : C.ranges = true → ∀ g ps asg bd, Code.rangeFunc g ps asg bd ∈ rangesOf c → recTab (C.rkey (loopId bd)) = some (ps.toList, asg, bd)

section
variable {P : Program} {C : Ctx} {ro : Option Nat} {r : Fin'} {n : Nat}

/-- The marks of a frame's loops over functions. -/
def markOf (r : Nat) : Deferred := { target := .collected r, args := #[] }
/-- How big the heap was, what is deferred beneath the marks, and whether there are to be none. -/
abbrev Base := Nat × List Deferred × Bool
def Dfs (base : Base) (w : World) (ds : List Deferred) : Prop :=
  base.1 ≤ w.heap.size ∧ ∃ rs : List Nat, ds = rs.map markOf ++ base.2.1 ∧ rs.Nodup ∧ (base.2.2 = true → rs = []) ∧ ∀ r ∈ rs, base.1 ≤ r ∧ w.heap[r]? = some (.deferred (some []))

theorem Inv.not_deferred {M : Mem} {ι : Io} {H : AH} {w : World} (hI : Inv M ι H w) {b : Nat} {x : Option (List Deferred)} (hb : w.heap[b]? = some (.deferred x)) : ¬ owns ι H b := by
  rintro ⟨id, o, n, ho, hn⟩
  have hO := hI.obj id o ho
  cases o with
  | cells ver cs =>
    obtain ⟨b', n', c, t, h1, h2, _⟩ := hO
    simp only [AO.ver] at hn
    rw [h1] at hn; cases hn
    rw [h2] at hb; cases hb
  | iter s pos =>
    obtain ⟨b', n', h1, h2⟩ := hO
    simp only [AO.ver] at hn
    rw [h1] at hn; cases hn
    rw [h2] at hb; cases hb
  | loop st pend nt ts key =>
    obtain ⟨b', n', fn, tmps, db, ps, asg, bd, h1, h2, _⟩ := hO
    simp only [AO.ver] at hn
    rw [h1] at hn; cases hn
    rw [h2] at hb; cases hb
  | dead ver =>
    obtain ⟨b', n', x', h1, h2, h3⟩ := hO
    simp only [AO.ver] at hn
    rw [h1] at hn; cases hn
    rw [h2] at hb; cases hb
    exact h3 _ rfl
  | mp es =>
    obtain ⟨b', n', ents, clock, h1, h2, _⟩ := hO
    simp only [AO.ver] at hn
    rw [h1] at hn; cases hn
    rw [h2] at hb; cases hb

theorem Dfs.stp {base : Base} {M M1 : Mem} {ι ι1 : Io} {H H1 : AH} {w w1 : World} {ds : List Deferred} (h : Dfs base w ds) (hI : Inv M ι H w) (hs : Stp M ι H w M1 ι1 H1 w1) : Dfs base w1 ds := by
  obtain ⟨hb, rs, h1, h2, hfl, h3⟩ := h
  refine ⟨Nat.le_trans hb hs.size, rs, h1, h2, hfl, fun r hr => ?_⟩
  obtain ⟨h4, h5⟩ := h3 r hr
  exact ⟨h4, by rw [hs.keep r (Array.getElem?_eq_some_iff.1 h5).1 (hI.not_deferred h5)]; exact h5⟩

theorem Dfs.nil {base : Nat} {ds : List Deferred} {b : Bool} {w : World} (h : base ≤ w.heap.size) : Dfs (base, ds, b) w ds := ⟨h, [], rfl, List.nodup_nil, fun _ => rfl, fun r hr => by cases hr⟩

/-- A block that is none of ours is laid. -/
theorem Stp.foreign {M : Mem} {ι : Io} {H : AH} {w : World} (hI : Inv M ι H w) (obj : Obj) : Stp M ι H w M ι H (w.alloc obj) := by
  refine ⟨fun _ _ _ h => h, fun _ _ h => h, fun a v h1 h2 => (by rw [h1] at h2; cases h2), ⟨fun a v hv => ?_, hI.dom, fun id o ho => ?_, hI.inj, hI.glob⟩, fun b hb _ => Below.heap_alloc w obj b hb, fun _ _ h => h, by simp, rfl, rfl, rfl⟩
  · have := hI.mem a v hv
    rw [World.cell?_alloc_lt]
    · exact this
    · exact World.block_lt_of_cell? w a.real this
  · exact (hI.obj id o ho).mono (fun _ _ h => h) (fun _ _ _ h => h) (fun b n hb => Below.heap_alloc w obj b (hI.owned_lt ⟨id, o, n, ho, hb⟩)) (fun _ _ _ _ _ h => h)

/-- A block for deferred calls is shut that was laid since. -/
theorem Stp.shut {M M1 : Mem} {ι ι1 : Io} {H H1 : AH} {w w1 : World} (h : Stp M ι H w M1 ι1 H1 w1) {b : Nat} {x y : Option (List Deferred)} (hb : w.heap.size ≤ b) (hx : w1.heap[b]? = some (.deferred x)) : Stp M ι H w M1 ι1 H1 (w1.putObj b (.deferred y)) := by
  have hno := h.inv.not_deferred hx
  have hne : ∀ id o n b', H1[id]? = some o → ι1 id o.ver = some (b', n) → b' ≠ b := fun id o n b' h1 h2 e => hno ⟨id, o, n, h1, e ▸ h2⟩
  refine ⟨h.io, h.mem, h.newmem, ⟨fun a v hv => ?_, h.inv.dom, fun id o ho => ?_, h.inv.inj, h.inv.glob⟩, fun k hk hn => ?_, h.own, by simpa using h.size, h.os, h.tape, h.output⟩
  · have h1 := h.inv.mem a v hv
    have hab : a.block ≠ b := by
      intro e
      obtain ⟨c, t, fr, h2⟩ := h.inv.mem_block hv
      rw [e, hx] at h2; cases h2
    rw [World.cell_of_block (a := a.real) (World.putObj_heap_other hab)]
    exact h1
  · exact (h.inv.obj id o ho).mono (fun _ _ h => h) (fun _ _ _ h => h) (fun b' n hb' => World.putObj_heap_other (hne id o n b' ho hb')) (fun _ _ _ _ _ h => h)
  · rw [World.putObj_heap_other (by omega)]
    exact h.keep k hk hn

/-- What is asked of what comes behind. -/
def Behind (M : Mem) (ι : Io) (H : AH) (w : World) (nt : Nat) (base : Base) (Q : Exit → Act → World → Prop) (k : KC) (r : Fin') : Prop :=
  ∀ ex ts' H', k ex ts' H' = some r → ∀ e M' ι' a' w', Stp M ι H w M' ι' H' w' → TR M' ι' nt ts' a'.tmps → Dfs base w' a'.defers → ExR M' ι' ex e → Q e a' w'

theorem Behind.later {M : Mem} {ι : Io} {H : AH} {w : World} {M1 : Mem} {ι1 : Io} {H1 : AH} {w1 : World} {nt : Nat} {base : Base} {Q : Exit → Act → World → Prop} {k : KC}
    (h : Behind M ι H w nt base Q k r) (hs : Stp M ι H w M1 ι1 H1 w1) : Behind M1 ι1 H1 w1 nt base Q k r :=
  fun ex ts' H' hk e M' ι' a' w' g1 g2 g3 g4 => h ex ts' H' hk e M' ι' a' w' (hs.trans g1) g2 g3 g4

theorem about_free (o : Oper) (w : World) (ρ : Operand → Value) : ∀ f, o.about P w ρ = some f → (fen ro).fn f := fun _ _ => trivial

/-- A region's operations, in their order. -/
theorem aOpsK_ok (hC : CtxOK P C) {base : Base} {ops : Array Oper} : ∀ (l : List Oper) {M : Mem} {ι : Io} {H : AH} {w : World} {ts : ATs} {a : Act} {k : KC} {Q : Exit → Act → World → Prop},
    aOpsK C ops l ts H k = some r → Inv M ι H w → TR M ι C.nt ts a.tmps → Dfs base w a.defers → Behind M ι H w C.nt base Q k r → wpListIn (fen ro) n P ops Q l a w
  | [], M, ι, H, w, ts, a, k, Q, h, hI, hT, hD, hk => hk .normal ts H h .normal M ι a w (.refl hI) hT hD trivial
  | o :: l, M, ι, H, w, ts, a, k, Q, h, hI, hT, hD, hk => by
    have doit : ∀ ts : ATs, TR M ι C.nt ts a.tmps → dstOk C.nt o.dst = true → aOpK C ts o.op H (fun v H => aOpsK C ops l (ts.put o.dst v) H k) (fun v H => k (.pan v) ts H) = some r →
        o.wpIn (fen ro) n P a w (wpListIn (fen ro) n P ops Q l) Q := by
      intro ts hT hd h
      refine aOpK_ok hC hI hT h (fun v H' M' ι' w' c q1 q2 q3 => ?_) (fun v H' M' ι' w' c q1 q2 q3 => ?_)
      · exact aOpsK_ok hC l q1 q2.inv ((hT.stp q2).put hd q3) (by rw [put_defers]; exact hD.stp hI q2) (hk.later q2)
      · exact hk _ ts H' q1 _ M' ι' a w' q2 (hT.stp q2) (hD.stp hI q2) ⟨c, rfl, q3⟩
    have skip : ∀ ts : ATs, TR M ι C.nt ts a.tmps → dstOk C.nt o.dst = true → aOpsK C ops l (ts.put o.dst (.tup [])) H k = some r →
        wpListIn (fen ro) n P ops Q l (a.put o.dst undef) w := by
      intro ts hT hd h
      exact aOpsK_ok hC l h hI (hT.put hd (.tup (ys := #[]) rfl (fun i x y hx => by simp at hx))) (by rw [put_defers]; exact hD) hk
    unfold aOpsK at h
    simp only at h
    split at h
    · cases h
    rename_i hd
    split at h
    · -- no guard
      rename_i hg
      simp only [wpListIn, Region.wanted, hg, if_true]
      exact doit ts hT hd h
    · rename_i j want hg
      split at h
      · cases h
      rename_i t ht
      obtain ⟨y1, y2⟩ := yielded_of hT ht
      split at h
      · rename_i b hb
        have hy := y1 b hb
        have hlearn : ∀ b', b = b' → TR M ι C.nt (ts.put (some t) (.bool b')) a.tmps := by
          rintro _ rfl
          refine hT.learn (v := .bool b) ?_
          have := hT.2 t; rw [hb] at this; exact this
        split at h
        · rcases aIf_some h with ⟨hb', h⟩ | ⟨hb', h⟩
          · simp only [wpListIn, Region.wanted, hg, hy, hb', beq_self_eq_true, if_true]
            exact doit _ (hlearn _ hb') hd h
          · simp only [wpListIn, Region.wanted, hg, hy, hb']
            exact ⟨about_free _ _ _, skip _ (hlearn _ hb') hd h⟩
        · rcases aIf_some h with ⟨hb', h⟩ | ⟨hb', h⟩
          · simp only [wpListIn, Region.wanted, hg, hy, hb']
            exact ⟨about_free _ _ _, skip _ (hlearn _ hb') hd h⟩
          · simp only [wpListIn, Region.wanted, hg, hy, hb', beq_self_eq_true, if_true]
            exact doit _ (hlearn _ hb') hd h
      · rename_i hb
        have hy := y2 hb
        simp only [wpListIn, Region.wanted, hg, hy]
        exact ⟨about_free _ _ _, skip ts hT hd h⟩
      · cases h

theorem LoopsOK.mem {c c' : Code} (h : LoopsOK C c) (hs : ∀ b ∈ loopsOf c', b ∈ loopsOf c) (hr : ∀ n ∈ rangesOf c', n ∈ rangesOf c) : LoopsOK C c' := ⟨fun b hb => h.loops b (hs b hb), fun hc g ps asg bd hb => h.keys hc g ps asg bd (hr _ hb)⟩

/-- The rounds of a loop. -/
theorem aIterK_ok {base : Base} {c : Code} {F : ATs → AH → KC → Res} (hc : ∀ {M : Mem} {ι : Io} {H : AH} {w : World} {ts : ATs} {a : Act} {k : KC} {Q : Exit → Act → World → Prop},
      F ts H k = some r → Inv M ι H w → TR M ι C.nt ts a.tmps → Dfs base w a.defers → Behind M ι H w C.nt base Q k r → c.wpIn (fen ro) n P Q a w) :
    ∀ (m : Nat) {M : Mem} {ι : Io} {H : AH} {w : World} {ts : ATs} {a : Act} {k : KC} {Q : Exit → Act → World → Prop},
      aIterK m F ts H k = some r → Inv M ι H w → TR M ι C.nt ts a.tmps → Dfs base w a.defers → Behind M ι H w C.nt base Q k r → Code.roundsIn (fen ro) n P c Q m a w := by
  intro m
  induction m with
  | zero => intro M ι H w ts a k Q h; cases h
  | succ m ih =>
    intro M ι H w ts a k Q h hI hT hD hk
    rw [roundsIn_succ]
    refine hc h hI hT hD ?_
    intro ex ts' H' hx e M' ι' a' w' g1 g2 g3 g4
    cases ex with
    | normal =>
      cases e with
      | normal => exact ih hx g1.inv g2 g3 (hk.later g1)
      | _ => exact g4.elim
    | exit i =>
      cases e with
      | exit j => exact hk _ ts' H' hx (.exit j) M' ι' a' w' g1 g2 g3 g4
      | _ => exact g4.elim
    | ret =>
      cases e with
      | ret => exact hk _ ts' H' hx .ret M' ι' a' w' g1 g2 g3 g4
      | _ => exact g4.elim
    | pan v =>
      cases e with
      | panic ch => exact hk _ ts' H' hx (.panic ch) M' ι' a' w' g1 g2 g3 g4
      | _ => exact g4.elim

theorem VR.upto {M : Mem} {ι : Io} {x : AV} {c : Value} (hv : VR M ι x c) {h : Nat} (hb : x.upto h = true) {ι' : Io} (hι : ∀ i v p, i < h → ι i v = some p → ι' i v = some p) : VR M ι' x c := by
  have hL : ∀ {l : List AV}, AV.uptoL h l = true → ∀ x ∈ l, x.upto h = true := by
    intro l
    induction l with
    | nil => intro _ x hx; cases hx
    | cons v l ih =>
      intro hl x hx
      rw [AV.uptoL, Bool.and_eq_true] at hl
      rcases List.mem_cons.1 hx with rfl | hx
      · exact hl.1
      · exact ih hl.2 x hx
  have blt : ∀ {a b : Nat}, Nat.blt a b = true → a < b := fun h => Nat.le_of_ble_eq_true h
  induction hv with
  | junk c => exact .junk c
  | bool b => exact .bool b
  | int k n => exact .int k n
  | str s => exact .str s
  | nilp => exact .nilp
  | ptr off h1 => exact .ptr off (hι _ _ _ (blt (by simpa [AV.upto] using hb)) h1)
  | fp sp b o g h1 h2 _ => exact .fp sp b o g h1 h2
  | sl o cap h1 h2 h3 h4 => exact .sl o cap (hι _ _ _ (blt (by simpa [AV.upto] using hb)) h1) h2 h3 h4
  | fsNil sz => exact .fsNil sz
  | fsZc sz za => exact .fsZc sz za
  | fsAny hf b o cap g h1 h2 h3 h4 _ => exact .fsAny hf b o cap g h1 h2 h3 h4
  | fn f h1 h2 _ _ ih1 ih2 =>
    rw [AV.upto, Bool.and_eq_true] at hb
    exact .fn f h1 h2 (fun i x y hx hy => ih1 i x y hx hy (hL hb.1 x (List.mem_of_getElem? hx)) hι) (fun i x y hx hy => ih2 i x y hx hy (hL hb.2 x (List.mem_of_getElem? hx)) hι)
  | yld h1 => exact .yld (hι _ _ _ (blt (by simpa [AV.upto] using hb)) h1)
  | nilf => exact .nilf
  | mp h1 => exact .mp (hι _ _ _ (blt (by simpa [AV.upto] using hb)) h1)
  | nilm => exact .nilm
  | iface t _ ih => exact .iface t (ih (by simpa [AV.upto] using hb) hι)
  | nili => exact .nili
  | agg h1 _ h3 ih =>
    rw [AV.upto] at hb
    exact .agg h1 (fun i x y hx hy => ih i x y hx hy (hL hb x (List.mem_of_getElem? hx)) hι) h3
  | tup h1 _ ih =>
    rw [AV.upto] at hb
    exact .tup h1 (fun i x y hx hy => ih i x y hx hy (hL hb x (List.mem_of_getElem? hx)) hι)

theorem ATs.upto_get {h : Nat} : ∀ {ts : ATs}, ts.upto h = true → ∀ t, (ts.get t).upto h = true
  | [], _, t => rfl
  | (k, v) :: r, hb, t => by
    rw [ATs.upto, Bool.and_eq_true] at hb
    simp only [ATs.get]
    split
    · exact hb.1
    · exact ATs.upto_get hb.2 t

theorem belowH_get {h : Nat} : ∀ {H : AH}, belowH h H = true → ∀ (i : Nat) (o : AO), H[i]? = some o → o.upto h = true
  | [], _, i, o, ho => by simp at ho
  | p :: r, hb, i, o, ho => by
    rw [belowH, Bool.and_eq_true] at hb
    cases i with
    | zero => simp at ho; subst ho; exact hb.1
    | succ i => exact belowH_get hb.2 i o (by simpa using ho)

theorem belowL_get {h : Nat} : ∀ {l : List AV}, AV.uptoL h l = true → ∀ (i : Nat) (x : AV), l[i]? = some x → x.upto h = true
  | [], _, i, x, hx => by simp at hx
  | p :: r, hb, i, x, hx => by
    rw [AV.uptoL, Bool.and_eq_true] at hb
    cases i with
    | zero => simp at hx; subst hx; exact hb.1
    | succ i => exact belowL_get hb.2 i x (by simpa using hx)

/-- Rows laid since are dropped. -/
theorem Stp.drop {M M1 : Mem} {ι ι1 : Io} {H H1 : AH} {w w1 : World} (hI : Inv M ι H w) (hs : Stp M ι H w M1 ι1 H1 w1) (hlt : H.length < H1.length) (hb : belowH H.length (H1.take H.length) = true) :
    ∃ ι2 : Io, (∀ i v p, i < H.length → ι1 i v = some p → ι2 i v = some p) ∧ Stp M ι H w M1 ι2 (H1.take H.length) w1 := by
  refine ⟨fun i v => if i < H.length then ι1 i v else none, fun i v p hi hp => by simp only [if_pos hi]; exact hp, ?_⟩
  have hsub : ∀ i v p, (if i < H.length then ι1 i v else none) = some p → i < H.length ∧ ι1 i v = some p := by
    intro i v p hp
    by_cases hi : i < H.length
    · rw [if_pos hi] at hp; exact ⟨hi, hp⟩
    · rw [if_neg hi] at hp; cases hp
  have hget : ∀ (i : Nat) (o : AO), (H1.take H.length)[i]? = some o → i < H.length ∧ H1[i]? = some o := by
    intro i o ho
    have hi : i < H.length := by
      have := (List.getElem?_eq_some_iff.1 ho).1
      rw [List.length_take] at this; omega
    rw [List.getElem?_take_of_lt hi] at ho
    exact ⟨hi, ho⟩
  have hown : ∀ b, owns (fun i v => if i < H.length then ι1 i v else none) (H1.take H.length) b → owns ι1 H1 b := by
    rintro b ⟨id, o, n, ho, hn⟩
    exact ⟨id, o, n, (hget id o ho).2, (hsub _ _ _ hn).2⟩
  refine ⟨fun i v p hp => ?_, hs.mem, hs.newmem, ⟨hs.inv.mem, fun id v p hp => ?_, fun id o ho => ?_, fun i j o p b n n' hi hj hbi hbj => ?_, hs.inv.glob⟩, hs.keep, fun b hb' ho => hs.own b hb' (hown b ho), hs.size, hs.os, hs.tape, hs.output⟩
  · simp only [if_pos (hI.dom_lt hp)]
    exact hs.io _ _ _ hp
  · obtain ⟨h1, h2⟩ := hsub _ _ _ hp
    obtain ⟨o, ho, hv⟩ := hs.inv.dom id v p h2
    exact ⟨o, by rw [List.getElem?_take_of_lt h1]; exact ho, hv⟩
  · obtain ⟨hid, ho'⟩ := hget id o ho
    have hbo := belowH_get hb id o ho
    have hι : ∀ i v p, i < H.length → ι1 i v = some p → (if i < H.length then ι1 i v else none) = some p := fun i v p hi hp => by rw [if_pos hi]; exact hp
    have hO := hs.inv.obj id o ho'
    cases o with
    | cells ver cs =>
      obtain ⟨b, n, c, t, h1, h2, h3, h5, h6, h7, h8⟩ := hO
      rw [AO.upto] at hbo
      exact ⟨b, n, c, t, hι _ _ _ hid h1, h2, h3, h5, h6, fun i x hx => let ⟨v, a1, a2, a3⟩ := h7 i x hx; ⟨v, a1, a2.upto (belowL_get hbo i x hx) hι, a3⟩, h8⟩
    | iter s pos =>
      obtain ⟨b, n, h1, h2⟩ := hO
      exact ⟨b, n, hι _ _ _ hid h1, h2⟩
    | loop st pend nt ts key =>
      obtain ⟨b, n, fn, tmps, db, ps, asg, bd, h1, h2, hkey, hfn, h3, h4⟩ := hO
      rw [AO.upto] at hbo
      exact ⟨b, n, fn, tmps, db, ps, asg, bd, hι _ _ _ hid h1, h2, hkey, hfn, h3, fun t => (h4 t).upto (ATs.upto_get hbo t) hι⟩
    | dead ver =>
      obtain ⟨b, n, x, h1, h2, h3⟩ := hO
      exact ⟨b, n, x, hι _ _ _ hid h1, h2, h3⟩
    | mp es =>
      obtain ⟨b, n, ents, clock, h1, h2, h3, h4⟩ := hO
      exact ⟨b, n, ents, clock, hι _ _ _ hid h1, h2, h3, h4⟩
  · exact hs.inv.inj i j o p b n n' (hget i o hi).2 (hget j p hj).2 (hsub _ _ _ hbi).2 (hsub _ _ _ hbj).2

theorem gcK_nat {key h : Nat} {ts : ATs} {H : AH} {k : ATs → AH → Res} (hk : gcK C key h ts H k = some r) : ∃ ts' H', k ts' H' = some r ∧ ∀ k', gcK C key h ts H k' = k' ts' H' := by
  unfold gcK at hk ⊢
  split at hk
  · exact ⟨ts, H, hk, fun _ => rfl⟩
  · rcases aIf_some hk with ⟨h1, hk⟩ | ⟨h1, hk⟩
    · exact ⟨_, _, hk, fun k' => by rw [h1]; rfl⟩
    · exact ⟨_, _, hk, fun k' => by rw [h1]; rfl⟩

theorem gcE_nat {h : Nat} {ts : ATs} {H : AH} {k : AH → Res} (hk : gcE h ts H k = some r) : ∃ H', k H' = some r ∧ ∀ k', gcE h ts H k' = k' H' := by
  unfold gcE at hk ⊢
  split at hk
  · exact ⟨H, hk, fun _ => rfl⟩
  · rcases aIf_some hk with ⟨h1, hk⟩ | ⟨h1, hk⟩
    · exact ⟨_, hk, fun k' => by rw [h1]; rfl⟩
    · exact ⟨_, hk, fun k' => by rw [h1]; rfl⟩

theorem gcE_ok {M M1 : Mem} {ι ι1 : Io} {H H1 : AH} {w w1 : World} {nt : Nat} {ts : ATs} {tmps : Array Value} {k : AH → Res} (hI : Inv M ι H w) (hs : Stp M ι H w M1 ι1 H1 w1) (hT : TR M1 ι1 nt ts tmps) (hk : gcE H.length ts H1 k = some r) :
    ∃ H2 ι2, k H2 = some r ∧ Stp M ι H w M1 ι2 H2 w1 ∧ TR M1 ι2 nt ts tmps := by
  unfold gcE at hk
  split at hk
  · exact ⟨H1, ι1, hk, hs, hT⟩
  · rename_i hlt
    have hlt : H.length < H1.length := Nat.le_of_ble_eq_true hlt
    rcases aIf_some hk with ⟨hb, hk⟩ | ⟨_, hk⟩
    · rw [Bool.and_eq_true] at hb
      obtain ⟨ι2, h1, h2⟩ := Stp.drop hI hs hlt hb.2
      exact ⟨_, ι2, hk, h2, hT.1, fun t => (hT.2 t).upto (ATs.upto_get hb.1 t) h1⟩
    · exact ⟨H1, ι1, hk, hs, hT⟩

theorem Behind.gc {M : Mem} {ι : Io} {H : AH} {w : World} {base : Base} {key : Nat} {Q : Exit → Act → World → Prop} {k : KC} (hI : Inv M ι H w) (hk : Behind M ι H w C.nt base Q k r) : Behind M ι H w C.nt base Q (gcC C key H.length k) r := by
  intro ex ts' H' hx e M' ι' a' w' g1 g2 g3 g4
  unfold gcC at hx
  cases ex with
  | normal =>
    simp only at hx
    unfold gcK at hx
    split at hx
    · exact hk .normal ts' H' hx e M' ι' a' w' g1 g2 g3 g4
    · rename_i hlt
      have hlt : H.length < H'.length := Nat.le_of_ble_eq_true hlt
      rcases aIf_some hx with ⟨hb, hx⟩ | ⟨_, hx⟩
      · rw [Bool.and_eq_true] at hb
        obtain ⟨ι2, h1, h2⟩ := Stp.drop hI g1 hlt hb.2
        have g2' := g2.trimK (C := C) key
        cases e with
        | normal => exact hk .normal _ _ hx .normal M' ι2 a' w' h2 ⟨g2'.1, fun t => (g2'.2 t).upto (ATs.upto_get hb.1 t) h1⟩ g3 trivial
        | _ => exact g4.elim
      · exact hk .normal ts' H' hx e M' ι' a' w' g1 g2 g3 g4
  | exit i =>
    obtain ⟨H2, ι2, h1, h2, h3⟩ := gcE_ok hI g1 g2 hx
    cases e with
    | exit j => exact hk _ ts' H2 h1 (.exit j) M' ι2 a' w' h2 h3 g3 g4
    | _ => exact g4.elim
  | ret =>
    obtain ⟨H2, ι2, h1, h2, h3⟩ := gcE_ok hI g1 g2 hx
    cases e with
    | ret => exact hk _ ts' H2 h1 .ret M' ι2 a' w' h2 h3 g3 g4
    | _ => exact g4.elim
  | pan v => exact hk _ ts' H' hx e M' ι' a' w' g1 g2 g3 g4

theorem Inv.loop_block {M : Mem} {ι : Io} {H : AH} {w : World} (hI : Inv M ι H w) {l : Nat} {st : LoopState} {pend : Option Code} {nt : Nat} {ts : ATs} {key : Nat}
    (hl : H[l]? = some (.loop st pend nt ts key)) {b n : Nat} (hb : ι l 0 = some (b, n)) : ∃ fn tmps db ps asg bd,
      w.heap[b]? = some (.loop { state := st, pending := pend, fn, tmps, params := ps.toArray, assign := asg, body := bd, defers := db }) ∧ recTab key = some (ps, asg, bd) ∧ (1000000000 ≤ key → fn = (key - 1000000000) / 10000) ∧ TR M ι nt ts tmps := by
  obtain ⟨b', n', fn, tmps, db, ps, asg, bd, h1, h2, h4, h5, h3⟩ := hI.obj l _ hl
  rw [hb] at h1; cases h1
  exact ⟨fn, tmps, db, ps, asg, bd, h2, h4, h5, h3⟩

/-- A loop's record is turned. -/
theorem Stp.turnLoop {M : Mem} {ι : Io} {H : AH} {w : World} (hI : Inv M ι H w) {l : Nat} {st st' : LoopState} {pend pend' : Option Code} {nt : Nat} {ts : ATs} {key : Nat} {ps : List Tmp} {asg bd : Code}
    (hl : H[l]? = some (.loop st pend nt ts key)) (hkey : recTab key = some (ps, asg, bd)) {b n : Nat} (hb : ι l 0 = some (b, n)) {fn : FuncId} {tmps : Array Value} {db : Nat}
    (ho : w.heap[b]? = some (.loop { state := st, pending := pend, fn, tmps, params := ps.toArray, assign := asg, body := bd, defers := db })) (hfn : 1000000000 ≤ key → fn = (key - 1000000000) / 10000) (hT : TR M ι nt ts tmps) :
    ∃ ι', Stp M ι H w M ι' (H.set l (.loop st' pend' nt ts key)) (w.putObj b (.loop { state := st', pending := pend', fn, tmps, params := ps.toArray, assign := asg, body := bd, defers := db })) := by
  have hlt := (Array.getElem?_eq_some_iff.1 ho).1
  refine ⟨_, Stp.turn hI (id := l) (o := .loop st pend nt ts key) (o' := .loop st' pend' nt ts key) hl hb (Nat.le_refl _) (fun _ => ⟨rfl, rfl⟩) (.inl rfl) (fun k hk hne => World.putObj_heap_other hne) (by simp) rfl rfl rfl ?_⟩
  have hio : ∀ i v p, ι i v = some p → ι.ext l 0 b n i v = some p := by
    intro i v p hp
    by_cases hk : i = l ∧ v = 0
    · obtain ⟨rfl, rfl⟩ := hk
      rw [Io.ext_self, ← hp, hb]
    · rw [Io.ext_ne _ _ _ _ _ hk]; exact hp
  exact ⟨b, n, fn, tmps, db, ps, asg, bd, Io.ext_self _ _ _ _ _, World.putObj_heap_same hlt, hkey, hfn, hT.mono (fun _ _ h => h) hio⟩

/-- Code. -/
theorem rangeAt_ok {base : Base} (hnm : base.2.2 = false) (hcl : ∀ f args H k r, C.call f args H k = some r → Enters P f ∧ CallOK P f args H k r) {g : Operand} {ps : Array Tmp} {asg bd : Code} {M : Mem} {ι : Io} {H : AH} {w : World} {ts : ATs} {a : Act} {k : KC} {Q : Exit → Act → World → Prop} {key : Nat}
    (h : rangeAtK C key g ts H k = some r) (hkey : recTab key = some (ps.toList, asg, bd)) (hI : Inv M ι H w) (hT : TR M ι C.nt ts a.tmps) (hD : Dfs base w a.defers) (hk : Behind M ι H w C.nt base Q k r) (fnid : FuncId) (hfn : 1000000000 ≤ key → fnid = (key - 1000000000) / 10000) :
    ∃ (l : Nat) (mark : List Deferred) (w₁ : World) (d : Deferred) (w₁' : World) (f : FuncId) (args : Array Value) (w₂ : World),
      (Instr.enterLoop fnid a.tmps ps asg bd (fen none).round).run P w = .ok (l, mark) w₁ ∧
      (resolve a.eval (rangeCall g l) 0).run P w₁ = .ok d w₁' ∧
      (∀ f', Target.leads P w₁' d.target d.args = some f' → (fen none).fn f') ∧
      (invoke d.target d.args).run P w₁' = .ok (.enter f args) w₂ ∧
      ((fen none).depth.isSome = true → 1 ≤ n) ∧
      CallsIn (fen none) (n - 1) P f args w₂ (rangePost (fen none) n P l Q { a with defers := mark ++ a.defers }) := by
  have hg := vr_evalO hI.glob hT g
  unfold rangeAtK at h
  split at h
  · rename_i f first captured hge
    rw [hge] at hg
    cases hc : a.eval g <;> rw [hc] at hg <;> (try (cases hg; done))
    rename_i fv fi ca
    cases hg with
    | fn _ f1 f2 f3 f4 =>
    obtain ⟨⟨fn, q1, q2, q3⟩, hcall⟩ := hcl _ _ _ _ _ h
    -- the world in which the function is called
    generalize hW1 : w.alloc (.deferred (some [])) = W1
    generalize hW2 : W1.alloc (.loop { state := .ready, pending := none, fn := fnid, tmps := a.tmps, params := ps, assign := asg, body := bd, defers := w.heap.size }) = W2
    have hs1 : Stp M ι H w M ι H W1 := by rw [← hW1]; exact Stp.foreign hI _
    have hz1 : W1.heap.size = w.heap.size + 1 := by rw [← hW1]; simp
    have hs2 : Stp M ι H W1 M (ι.ext H.length 0 W1.heap.size 0) (H ++ [.loop .ready none C.nt ts key]) W2 := by
      rw [← hW2]
      have hio : ∀ i v p, ι i v = some p → ι.ext H.length 0 W1.heap.size 0 i v = some p := by
        intro i v p hp
        rw [Io.ext_ne]
        · exact hp
        · rintro ⟨rfl, _⟩
          exact absurd (hI.dom_lt hp) (Nat.lt_irrefl _)
      exact Stp.alloc hs1.inv (.loop .ready none C.nt ts key) _ 0 ⟨W1.heap.size, 0, fnid, a.tmps, w.heap.size, ps.toList, asg, bd, Io.ext_self _ _ _ _ _, by simpa using World.alloc_heap_new W1 _, hkey, hfn, hT.mono (fun _ _ h => h) hio⟩
    have hs12 := hs1.trans hs2
    have hdf : W2.heap[w.heap.size]? = some (.deferred (some [])) := by
      rw [← hW2, Below.heap_alloc _ _ _ (by omega), ← hW1]
      exact World.alloc_heap_new w _
    have henter : (invoke (.fn (.func f) ca) (fi ++ #[.func (.yield (w.heap.size + 1)) #[] #[]])).run P W2 = .ok (.enter f (fi ++ #[.func (.yield (w.heap.size + 1)) #[] #[]] ++ ca)) W2 := by
      have g2' : (fn.name == "runtime.NumGoroutine") = false := by simpa using q2
      have g3' : fn.body.isNone = false := by cases hb : fn.body <;> simp_all
      simp only [invoke, callFunc, Sem.run_bind, run_program, Result.andThen_ok, q1, g2', g3', Bool.false_eq_true, if_false, Sem.run_pure]
    have hio2 : ∀ i v p, ι i v = some p → ι.ext H.length 0 W1.heap.size 0 i v = some p := hs2.io
    have hall : VRs M (ι.ext H.length 0 W1.heap.size 0) (first ++ [.yld H.length] ++ captured) (fi ++ #[.func (.yield (w.heap.size + 1)) #[] #[]] ++ ca) := by
      have app : ∀ {l1 l2 : List AV} {a1 a2 : Array Value}, VRs M (ι.ext H.length 0 W1.heap.size 0) l1 a1 → VRs M (ι.ext H.length 0 W1.heap.size 0) l2 a2 → VRs M (ι.ext H.length 0 W1.heap.size 0) (l1 ++ l2) (a1 ++ a2) := by
        intro l1 l2 a1 a2 g1 g2
        refine ⟨by simp [g1.1, g2.1], fun i x y hx hy => ?_⟩
        rcases Nat.lt_or_ge i l1.length with hlt | hge
        · rw [List.getElem?_append_left hlt] at hx
          rw [Array.getElem?_append_left (by rw [← g1.1]; exact hlt)] at hy
          exact g1.2 i x y hx hy
        · rw [List.getElem?_append_right hge] at hx
          rw [Array.getElem?_append_right (by rw [← g1.1]; exact hge)] at hy
          rw [g1.1] at hx
          exact g2.2 _ x y hx hy
      refine app (app ⟨f1, fun i x y hx hy => (f3 i x y hx hy).mono (fun _ _ h => h) hio2⟩ ⟨rfl, fun i x y hx hy => ?_⟩) ⟨f2, fun i x y hx hy => (f4 i x y hx hy).mono (fun _ _ h => h) hio2⟩
      cases i with
      | zero =>
        simp at hx hy; subst hx; subst hy
        exact .yld (n := 0) (by rw [← hz1]; exact Io.ext_self _ _ _ _ _)
      | succ i => simp at hx
    refine ⟨w.heap.size + 1, [markOf w.heap.size], W2, { target := .fn (.func f) ca, args := fi ++ #[.func (.yield (w.heap.size + 1)) #[] #[]] }, W2, f, fi ++ #[.func (.yield (w.heap.size + 1)) #[] #[]] ++ ca, W2, ?_, ?_, fun _ _ => trivial, henter, fun hx => (by cases hx), ?_⟩
    · rw [← hW2, ← hW1]
      exact run_enterLoop_outer _ _ _ _ _
    · have : resolve a.eval (rangeCall g (w.heap.size + 1)) 0 = pure { target := .fn (.func f) ca, args := fi ++ #[.func (.yield (w.heap.size + 1)) #[] #[]] } := by
        have hm : (#[Operand.const (.func (.yield (w.heap.size + 1)) #[] #[])] : Array Operand).map a.eval = #[.func (.yield (w.heap.size + 1)) #[] #[]] := by simp [Act.eval]
        simp only [resolve, hc, Deferred.ofValue, hm]
      rw [this]; rfl
    refine CallsIn.mono (F := fen none) ((hcall M _ W2 _ hs2.inv hall).more (Nat.zero_le _)) ?_
    rintro en w' ⟨e, H2, M', ι', hk', hs, he⟩
    have hDm : ∀ w4 : World, w'.heap.size ≤ w4.heap.size → (∀ (r : Nat) (x : Option (List Deferred)), w'.heap[r]? = some (Obj.deferred x) → w4.heap[r]? = some (Obj.deferred x)) → Dfs base w4 ([markOf w.heap.size] ++ a.defers) := by
      intro w4 hsz hkeep
      obtain ⟨hb, rs, h1, h2, _, h3⟩ := hD
      have hkp : ∀ r : Nat, W2.heap[r]? = some (Obj.deferred (some [])) → w4.heap[r]? = some (Obj.deferred (some [])) := fun r hr =>
        hkeep r _ (by rw [hs.keep r (Array.getElem?_eq_some_iff.1 hr).1 (hs2.inv.not_deferred hr)]; exact hr)
      refine ⟨Nat.le_trans hb (Nat.le_trans hs12.size (Nat.le_trans hs.size hsz)), w.heap.size :: rs, by rw [h1]; rfl, List.nodup_cons.2 ⟨fun hm => ?_, h2⟩, fun hb => (by rw [hnm] at hb; cases hb), fun r hr => ?_⟩
      · exact absurd (Array.getElem?_eq_some_iff.1 (h3 _ hm).2).1 (Nat.lt_irrefl _)
      · rcases List.mem_cons.1 hr with rfl | hr
        · exact ⟨hb, hkp _ hdf⟩
        · obtain ⟨h4, h5⟩ := h3 r hr
          exact ⟨h4, hkp r (by rw [hs12.keep r (Array.getElem?_eq_some_iff.1 h5).1 (hI.not_deferred h5)]; exact h5)⟩
    cases e with
    | pan v =>
      cases en with
      | panicked chain => exact hk _ ts H2 hk' _ M' ι' _ w' (hs12.trans hs) (hT.stp (hs12.trans hs)) (hDm w' (Nat.le_refl _) (fun _ _ h => h)) he
      | _ => exact he.elim
    | ret v =>
      cases en with
      | returned cv =>
        simp only at hk'
        split at hk'
        · rename_i st pend nt' ts' key' hl
          split at hk'
          · cases hk'
          · rename_i hst
            have hbl : ι' H.length 0 = some (w.heap.size + 1, 0) := hs.io _ _ _ (by rw [← hz1]; exact Io.ext_self _ _ _ _ _)
            obtain ⟨fn', tmps', db', ps', asg', bd', hob, hkey', hfn', hT'⟩ := hs.inv.loop_block hl hbl
            obtain ⟨ι3, hs3⟩ := Stp.turnLoop (st' := .exhausted) (pend' := pend) hs.inv hl hkey' hbl hob hfn' hT'
            have hend := run_endLoop (P := P) hob (by intro hx; exact hst hx)
            have hs4 := (hs12.trans hs).trans hs3
            refine ⟨pend, _, hend, ?_⟩
            have hD4 := hDm (w'.putObj (w.heap.size + 1) (.loop { state := .exhausted, pending := pend, fn := fn', tmps := tmps', params := ps'.toArray, assign := asg', body := bd', defers := db' })) (by simp) (fun r x hr => by
              rw [World.putObj_heap_other]
              · exact hr
              · rintro rfl
                rw [hob] at hr; cases hr)
            unfold jumpK at hk'
            split at hk'
            · exact hk .normal ts _ hk' .normal M' ι3 _ _ hs4 (hT.stp hs4) hD4 trivial
            · exact wpIn_ret (hk .ret ts _ hk' .ret M' ι3 _ _ hs4 (hT.stp hs4) hD4 trivial)
            · exact wpIn_exit (hk _ ts _ hk' (.exit _) M' ι3 _ _ hs4 (hT.stp hs4) hD4 rfl)
            · cases hk'
        · cases hk'
      | _ => exact he.elim
  · cases h

theorem rangeK_ok {base : Base} (hro : C.ranges = true → ro = none) (hfl : base.2.2 = true → C.ranges = false) (hsm : C.ranges = true → ∀ n, C.rkey n < 1000000000) (hcl : ∀ f args H k r, C.call f args H k = some r → Enters P f ∧ CallOK P f args H k r) {g : Operand} {ps : Array Tmp} {asg bd : Code} {M : Mem} {ι : Io} {H : AH} {w : World} {ts : ATs} {a : Act} {k : KC} {Q : Exit → Act → World → Prop}
    (h : aCodeK C (.rangeFunc g ps asg bd) ts H k = some r) (hkey : C.ranges = true → recTab (C.rkey (loopId bd)) = some (ps.toList, asg, bd)) (hI : Inv M ι H w) (hT : TR M ι C.nt ts a.tmps) (hD : Dfs base w a.defers) (hk : Behind M ι H w C.nt base Q k r) : (Code.rangeFunc g ps asg bd).wpIn (fen ro) n P Q a w := by
  simp only [aCodeK] at h
  split at h
  · cases h
  rename_i hrg
  obtain rfl := hro hrg
  have hnm : base.2.2 = false := by
    cases hb : base.2.2 with
    | false => rfl
    | true => rw [hfl hb] at hrg; cases hrg
  refine wpIn_rangeFunc fun fnid _ => ?_
  exact rangeAt_ok hnm hcl h (hkey hrg) hI hT hD hk fnid (fun hx => absurd (hsm hrg (loopId bd)) (by omega))

theorem aCodeK_ok (hC : CtxOK P C) {base : Base} (hro : C.ranges = true → ro = none) (hfl : base.2.2 = true → C.ranges = false) : ∀ (c : Code) (_ : LoopsOK C c) {M : Mem} {ι : Io} {H : AH} {w : World} {ts : ATs} {a : Act} {k : KC} {Q : Exit → Act → World → Prop},
    aCodeK C c ts H k = some r → Inv M ι H w → TR M ι C.nt ts a.tmps → Dfs base w a.defers → Behind M ι H w C.nt base Q k r → c.wpIn (fen ro) n P Q a w := by
  intro c
  induction c with
  | skip => intro _ M ι H w ts a k Q h hI hT hD hk; exact wpIn_skip (hk .normal ts H h .normal M ι a w (.refl hI) hT hD trivial)
  | region id ops draw =>
    intro _ M ι H w ts a k Q h hI hT hD hk
    cases draw with
    | true =>
      simp only [aCodeK] at h
      split at h
      · rename_i hd
        refine wpIn_region_any hC.mixed ?_
        have hz : ∀ u, (fieldDsts ops).contains u = true → (scrubT ops ts).get u = .junk := fun u hu => by rw [scrub_get, hu]; rfl
        replace hT : TR M ι C.nt (scrubT ops ts) a.tmps := ⟨hT.1, fun t => by
          rw [scrub_get]
          split
          · exact .junk _
          · exact hT.2 t⟩
        generalize scrubT ops ts = ts at h hz hT
        obtain ⟨xs, Hs, tsf, g1, g2, g3, _, g5⟩ := draw_trace hC.nat hC.rnat (ops := ops) (ts0 := ts) ops.toList 0 ts H (fun _ => .junk) (fun _ => H) hz (fun j => by simp) h (fun _ => rfl) rfl (fun j hj => absurd hj (Nat.not_lt_zero _))
        have hH0 : Hs 0 = H := g5 0 (Nat.le_refl _)
        simp only [Nat.zero_add, Array.length_toList] at g1 g2 g3
        have hpairs := drawOk_spec ops.toList 0 (fun m => by simp) hd
        have hs0 : Stp M ι (Hs 0) w M ι (Hs 0) { w with drawn := w.drawn + 1 } := by rw [hH0]; exact Stp.drew hI _
        have hLf : Lf (Array.replicate ops.size false) = fun _ => false := by
          funext j
          simp only [Lf, Array.getD_eq_getD_getElem?, Array.getElem?_replicate]
          split <;> rfl
        have e1 : ∀ m, tsL ops ts xs (fun _ => false) m = ts := fun m => by
          induction m with
          | zero => rfl
          | succ m ih => simp only [tsL, ih]
        have e2 : ∀ m, HL C ops Hs (fun _ => false) m = Hs 0 := fun m => by
          induction m with
          | zero => rfl
          | succ m ih => simp only [HL, Bool.false_and, ih]
        have e3 : ∀ m, cnt (fun _ => false) m = m := fun m => by
          induction m with
          | zero => rfl
          | succ m ih => simp only [cnt, ih]
        refine draw_any (M0 := M) (ι0 := ι) (w0 := w) (ts0 := ts) (xs := xs) (Hs := Hs) (ds := a.defers) hC (fun m p hp => hpairs m p (Nat.zero_le _) hp) (fun i o ho => g3 i (Array.getElem?_eq_some_iff.1 ho).1 o ho) (fun M' ι' a' w' q1 q2 q3 => ?_)
          ops.size (Array.replicate ops.size false) a _ M ι (by simp) ⟨fun m p hp => hpairs m p (Nat.zero_le _) hp, fun j p hp hj => by rw [hLf] at hj; cases hj⟩ ?_ ?_ ?_ rfl
        · rw [hH0] at q1
          have q2' : TR M' ι' C.nt tsf a'.tmps := (show same (tsL ops ts xs all ops.size) tsf from fun t => (g2 t).symm).tr q2
          exact hk .normal _ _ g1 .normal M' ι' a' w' q1 (q2'.trimK id) (by rw [q3]; exact hD.stp hI q1) trivial
        · rw [hLf, e3]; exact Nat.le_refl _
        · rw [hLf, e2]; exact hs0
        · rw [hLf, e1]; exact hT
      · cases h
    | false =>
      refine wpIn_region_list (aOpsK_ok hC (base := base) _ h hI hT hD ?_)
      intro ex ts' H' hx e M' ι' a' w' g1 g2 g3 g4
      cases ex with
      | normal => exact hk .normal _ H' hx e M' ι' a' w' g1 (g2.trimK id) g3 g4
      | _ => exact hk _ _ H' hx e M' ι' a' w' g1 g2 g3 g4
  | seq x y ihx ihy =>
    intro hL M ι H w ts a k Q h hI hT hD hk
    have hx := ihx (hL.mem (fun b hb => by simp [loopsOf, hb]) (fun b hb => by simp [rangesOf, hb])) (M := M) (ι := ι) (H := H) (w := w) (a := a) (Q := Exit.then (y.wpIn (fen ro) n P Q) Q) h hI hT hD ?_
    · exact wpIn_seq hx
    intro ex ts' H' hx e M' ι' a' w' g1 g2 g3 g4
    cases ex with
    | normal =>
      cases e with
      | normal => exact ihy (hL.mem (fun b hb => by simp [loopsOf, hb]) (fun b hb => by simp [rangesOf, hb])) hx g1.inv g2 g3 (hk.later g1)
      | _ => exact g4.elim
    | exit i =>
      cases e with
      | exit j => exact hk _ ts' H' hx (.exit j) M' ι' a' w' g1 g2 g3 g4
      | _ => exact g4.elim
    | ret =>
      cases e with
      | ret => exact hk _ ts' H' hx .ret M' ι' a' w' g1 g2 g3 g4
      | _ => exact g4.elim
    | pan v =>
      cases e with
      | panic ch => exact hk _ ts' H' hx (.panic ch) M' ι' a' w' g1 g2 g3 g4
      | _ => exact g4.elim
  | cond cnd x y ihx ihy =>
    intro hL M ι H w ts a k Q h hI hT hD hk
    simp only [aCodeK] at h
    have hc := vr_evalO hI.glob hT cnd
    split at h
    · rename_i t ht
      rw [ht] at hc
      have hc := hc.bool_inv
      rcases aIf_some h with ⟨rfl, h⟩ | ⟨rfl, h⟩
      · exact wpIn_cond_true hc (ihx (hL.mem (fun b hb => by simp [loopsOf, hb]) (fun b hb => by simp [rangesOf, hb])) h hI hT hD hk)
      · exact wpIn_cond_false hc (ihy (hL.mem (fun b hb => by simp [loopsOf, hb]) (fun b hb => by simp [rangesOf, hb])) h hI hT hD hk)
    · cases h
  | block id b ih =>
    intro hL M ι H w ts a k Q h hI hT hD hk
    have hx := ih (hL.mem (fun b hb => by simpa [loopsOf] using hb) (fun b hb => by simpa [rangesOf] using hb)) (M := M) (ι := ι) (H := H) (w := w) (a := a) (Q := Exit.inBlock id Q) h hI hT hD ?_
    · exact wpIn_block hx
    intro ex ts' H' hx e M' ι' a' w' g1 g2 g3 g4
    cases ex with
    | normal =>
      cases e with
      | normal => exact hk _ ts' H' hx .normal M' ι' a' w' g1 g2 g3 trivial
      | _ => exact g4.elim
    | exit i =>
      cases e with
      | exit j =>
        obtain rfl : i = j := g4
        simp only [Exit.inBlock]
        simp only at hx
        split at hx
        · rename_i hi
          rw [if_pos (by simpa using hi)]
          exact hk _ ts' H' hx .normal M' ι' a' w' g1 g2 g3 trivial
        · rename_i hi
          rw [if_neg (by simpa using hi)]
          exact hk _ ts' H' hx (.exit i) M' ι' a' w' g1 g2 g3 rfl
      | _ => exact g4.elim
    | ret =>
      cases e with
      | ret => exact hk _ ts' H' hx .ret M' ι' a' w' g1 g2 g3 g4
      | _ => exact g4.elim
    | pan v =>
      cases e with
      | panic ch => exact hk _ ts' H' hx (.panic ch) M' ι' a' w' g1 g2 g3 g4
      | _ => exact g4.elim
  | loop b ih =>
    intro hL M ι H w ts a k Q h hI hT hD hk
    have hb : LoopsOK C b := hL.mem (fun b' hb' => by simp [loopsOf, hb']) (fun n' hn' => by simp [rangesOf, hn'])
    have main : ∀ m (ts : ATs), TR M ι C.nt ts a.tmps → aIterK m (headedK C b) ts H k = some r → (Code.loop b).wpIn (fen ro) n P Q a w := fun m ts hT hm =>
      wpIn_loop_rounds m (aIterK_ok (base := base) (F := headedK C b) (fun h1 h2 h3 h4 h5 => ih hb h1 h2 (h3.trimK _) h4 (h5.gc h2)) m hm hI hT hD hk)
    simp only [aCodeK] at h
    split at h
    · rename_i S hS
      obtain ⟨m, hm⟩ := (hL.loops b (by simp [loopsOf]) S hS).sum _ H k r h
      exact main m _ (hT.trimK _) hm
    · exact main _ ts hT h
  | rangeFunc g ps asg bd _ _ =>
    intro hL M ι H w ts a k Q h hI hT hD hk
    exact rangeK_ok hro hfl hC.keys hC.call h (fun hr => hL.keys hr g ps asg bd (by simp [rangesOf])) hI hT hD hk
  | exit id => intro _ M ι H w ts a k Q h hI hT hD hk; exact wpIn_exit (hk (.exit id) ts H h (.exit id) M ι a w (.refl hI) hT hD rfl)
  | ret => intro _ M ι H w ts a k Q h hI hT hD hk; exact wpIn_ret (hk .ret ts H h .ret M ι a w (.refl hI) hT hD trivial)
  | _ => intro _ M ι H w ts a k Q h; simp [aCodeK] at h

theorem aDrawK_nat (hn : CallNat C) (hr : RoundNat C) {ops : Array Oper} : ∀ (l : List Oper) (ts : ATs) (H : AH), NatC (aDrawK C ops l ts H)
  | [], ts, H, k, r, h => ⟨.normal, ts, H, h, fun _ => rfl⟩
  | o :: l, ts, H, k, r, h => by
    have doit : ∀ ts : ATs, NatC fun k => match barB C o.op || (quietB C ts o.op && (blindB C ts o.op || steadyB C ops (exemptB ops ts (lookId C ts o.op)) (ops.size - (l.length + 1)))) with
        | true => match barB C o.op && isVC o.op with
          | true => aOpK C ts o.op H (fun v H1 => aIf (watchB H H1 (watchIds ops ts)) (aDrawK C ops l (ts.put o.dst v) H1 k) none) (fun _ _ => none)
          | false => aOpK C ts o.op H (fun v H => aDrawK C ops l (ts.put o.dst v) H k) (fun _ _ => none)
        | false => none := by
      intro ts k r h
      simp only at h ⊢
      split at h
      · rename_i hb
        split at h
        · rename_i hb2
          obtain ⟨v, H1, h1, h2⟩ := opNat hn hr h
          obtain ⟨hw, h1⟩ := aIf_none h1
          obtain ⟨ex, ts', H', h3, h4⟩ := aDrawK_nat hn hr l (ts.put o.dst v) H1 k r h1
          refine ⟨ex, ts', H', h3, fun k' => ?_⟩
          try simp only [hb2]
          rw [h2, hw]; exact h4 k'
        · rename_i hb2
          obtain ⟨v, H1, h1, h2⟩ := opNat hn hr h
          obtain ⟨ex, ts', H', h3, h4⟩ := aDrawK_nat hn hr l (ts.put o.dst v) H1 k r h1
          refine ⟨ex, ts', H', h3, fun k' => ?_⟩
          try simp only [hb2]
          rw [h2]; exact h4 k'
      · cases h
    have skip : ∀ ts : ATs, NatC fun k => aDrawK C ops l (ts.put o.dst (.tup [])) H k := fun ts => aDrawK_nat hn hr l _ H
    unfold aDrawK at h ⊢
    simp only at h ⊢
    split at h
    · cases h
    · rename_i hd
      try simp only [hd]
      split at h
      · rename_i hg
        try simp only [hg]
        exact doit _ k r h
      · rename_i j want hg
        try simp only [hg]
        split at h
        · cases h
        · rename_i t ht
          try simp only [ht]
          split at h
          · rename_i b hb
            try simp only [hb]
            split at h
            · rcases aIf_some h with ⟨rfl, h⟩ | ⟨rfl, h⟩
              · exact doit _ k r h
              · exact skip _ k r h
            · rcases aIf_some h with ⟨rfl, h⟩ | ⟨rfl, h⟩
              · exact skip _ k r h
              · exact doit _ k r h
          · rename_i hb
            try simp only [hb]
            exact skip _ k r h
          · cases h

theorem aIterK_nat {F : ATs → AH → KC → Res} (hF : ∀ ts H, NatC (F ts H)) : ∀ (m : Nat) (ts : ATs) (H : AH), NatC (aIterK m F ts H)
  | 0, ts, H, k, r, h => by cases h
  | m + 1, ts, H, k, r, h => by
    unfold aIterK at h ⊢
    obtain ⟨ex, ts1, H1, h1, h2⟩ := hF ts H _ r h
    cases ex with
    | normal =>
      obtain ⟨ex2, ts2, H2, h3, h4⟩ := aIterK_nat hF m ts1 H1 k r h1
      exact ⟨ex2, ts2, H2, h3, fun k' => by rw [h2]; exact h4 k'⟩
    | exit i => exact ⟨.exit i, ts1, H1, h1, fun k' => by rw [h2]⟩
    | ret => exact ⟨.ret, ts1, H1, h1, fun k' => by rw [h2]⟩
    | pan v => exact ⟨.pan v, ts1, H1, h1, fun k' => by rw [h2]⟩

theorem headedK_nat {b : Code} (hb : ∀ ts H, NatC (aCodeK C b ts H)) : ∀ ts H, NatC (headedK C b ts H) := by
  intro ts H k r h
  unfold headedK at h ⊢
  obtain ⟨ex, ts1, H1, h1, h2⟩ := hb _ H _ r h
  cases ex with
  | normal =>
    simp only [gcC] at h1
    obtain ⟨ts2, H2, h3, h4⟩ := gcK_nat h1
    exact ⟨.normal, ts2, H2, h3, fun k' => by rw [h2]; simp only [gcC]; rw [h4]⟩
  | exit i =>
    simp only [gcC] at h1
    obtain ⟨H2, h3, h4⟩ := gcE_nat h1
    exact ⟨.exit i, ts1, H2, h3, fun k' => by rw [h2]; simp only [gcC]; rw [h4]⟩
  | ret =>
    simp only [gcC] at h1
    obtain ⟨H2, h3, h4⟩ := gcE_nat h1
    exact ⟨.ret, ts1, H2, h3, fun k' => by rw [h2]; simp only [gcC]; rw [h4]⟩
  | pan v => exact ⟨.pan v, ts1, H1, h1, fun k' => by rw [h2]; rfl⟩

theorem rangeAt_nat (hn : CallNat C) {key : Nat} {g : Operand} (ts : ATs) (H : AH) : NatC (rangeAtK C key g ts H) := by
  intro k r h
  unfold rangeAtK at h ⊢
  · skip
    split at h
    · rename_i f first captured hge
      try simp only [hge]
      rw [hn] at h
      cases hx : C.call f (first ++ [.yld H.length] ++ captured) (H ++ [.loop .ready none C.nt ts key]) encE with
      | none => rw [hx] at h; cases h
      | some p =>
        obtain ⟨e, H2⟩ := p
        rw [hx] at h
        have hk : ∀ k : KE, C.call f (first ++ [.yld H.length] ++ captured) (H ++ [.loop .ready none C.nt ts key]) k = k e H2 := fun k => by rw [hn, hx]; rfl
        simp only [hk]
        simp only [decE] at h
        cases e with
        | pan v => exact ⟨.pan v, ts, H2, h, fun _ => rfl⟩
        | ret v =>
          try simp only at h
          split at h
          · rename_i st pend nt' ts' key' hl
            split at h
            · cases h
            · unfold jumpK at h
              split at h
              · exact ⟨.normal, ts, _, h, fun _ => by cases st <;> first | rfl | (exfalso; simp_all)⟩
              · exact ⟨.ret, ts, _, h, fun _ => by cases st <;> first | rfl | (exfalso; simp_all)⟩
              · exact ⟨.exit _, ts, _, h, fun _ => by cases st <;> first | rfl | (exfalso; simp_all)⟩
              · cases h
          · cases h
    · cases h

theorem rangeK_nat (hn : CallNat C) {g : Operand} {ps : Array Tmp} {asg bd : Code} (ts : ATs) (H : AH) : NatC (aCodeK C (.rangeFunc g ps asg bd) ts H) := by
  intro k r h
  simp only [aCodeK] at h ⊢
  split at h
  · cases h
  · rename_i hrg
    try simp only [hrg]
    exact rangeAt_nat hn ts H k r h

theorem aCodeK_nat (hn : CallNat C) (hr : RoundNat C) : ∀ (c : Code) (_ : LoopsOK C c) (ts : ATs) (H : AH), NatC (aCodeK C c ts H) := by
  intro c
  induction c with
  | skip => intro _ ts H k r h; exact ⟨.normal, ts, H, h, fun _ => rfl⟩
  | region id ops draw =>
    intro _ ts H k r h
    cases draw with
    | true =>
      simp only [aCodeK] at h ⊢
      split at h
      · obtain ⟨ex, ts1, H1, h1, h2⟩ := aDrawK_nat hn hr _ (scrubT ops ts) H _ r h
        cases ex with
        | normal => exact ⟨.normal, _, H1, h1, fun k' => by rw [h2]⟩
        | exit i => exact ⟨.exit i, ts1, H1, h1, fun k' => by rw [h2]⟩
        | ret => exact ⟨.ret, ts1, H1, h1, fun k' => by rw [h2]⟩
        | pan v => exact ⟨.pan v, ts1, H1, h1, fun k' => by rw [h2]⟩
      · cases h
    | false =>
      simp only [aCodeK] at h ⊢
      obtain ⟨ex, ts1, H1, h1, h2⟩ := aOpsK_nat hn hr _ ts H _ r h
      cases ex with
      | normal => exact ⟨.normal, _, H1, h1, fun k' => by rw [h2]⟩
      | exit i => exact ⟨.exit i, ts1, H1, h1, fun k' => by rw [h2]⟩
      | ret => exact ⟨.ret, ts1, H1, h1, fun k' => by rw [h2]⟩
      | pan v => exact ⟨.pan v, ts1, H1, h1, fun k' => by rw [h2]⟩
  | seq x y ihx ihy =>
    intro hL ts H k r h
    simp only [aCodeK] at h ⊢
    obtain ⟨ex, ts1, H1, h1, h2⟩ := ihx (hL.mem (fun b hb => by simp [loopsOf, hb]) (fun b hb => by simp [rangesOf, hb])) ts H _ r h
    cases ex with
    | normal =>
      obtain ⟨ex2, ts2, H2, h3, h4⟩ := ihy (hL.mem (fun b hb => by simp [loopsOf, hb]) (fun b hb => by simp [rangesOf, hb])) ts1 H1 k r h1
      exact ⟨ex2, ts2, H2, h3, fun k' => by rw [h2]; exact h4 k'⟩
    | exit i => exact ⟨.exit i, ts1, H1, h1, fun k' => by rw [h2]⟩
    | ret => exact ⟨.ret, ts1, H1, h1, fun k' => by rw [h2]⟩
    | pan v => exact ⟨.pan v, ts1, H1, h1, fun k' => by rw [h2]⟩
  | cond cnd x y ihx ihy =>
    intro hL ts H k r h
    simp only [aCodeK] at h ⊢
    split at h
    · rcases aIf_some h with ⟨rfl, h⟩ | ⟨rfl, h⟩
      · obtain ⟨ex, ts1, H1, h1, h2⟩ := ihx (hL.mem (fun b hb => by simp [loopsOf, hb]) (fun b hb => by simp [rangesOf, hb])) ts H k r h
        exact ⟨ex, ts1, H1, h1, fun k' => h2 k'⟩
      · obtain ⟨ex, ts1, H1, h1, h2⟩ := ihy (hL.mem (fun b hb => by simp [loopsOf, hb]) (fun b hb => by simp [rangesOf, hb])) ts H k r h
        exact ⟨ex, ts1, H1, h1, fun k' => h2 k'⟩
    · cases h
  | block id b ih =>
    intro hL ts H k r h
    simp only [aCodeK] at h ⊢
    obtain ⟨ex, ts1, H1, h1, h2⟩ := ih (hL.mem (fun b hb => by simpa [loopsOf] using hb) (fun b hb => by simpa [rangesOf] using hb)) ts H _ r h
    cases ex with
    | normal => exact ⟨.normal, ts1, H1, h1, fun k' => by rw [h2]⟩
    | exit i =>
      cases hi : i == id with
      | true => simp only [hi] at h1; exact ⟨.normal, ts1, H1, h1, fun k' => by rw [h2]; simp only [hi]⟩
      | false => simp only [hi] at h1; exact ⟨.exit i, ts1, H1, h1, fun k' => by rw [h2]; simp only [hi]⟩
    | ret => exact ⟨.ret, ts1, H1, h1, fun k' => by rw [h2]⟩
    | pan v => exact ⟨.pan v, ts1, H1, h1, fun k' => by rw [h2]⟩
  | loop b ih =>
    intro hL ts H k r h
    have hb : LoopsOK C b := hL.mem (fun b' hb' => by simp [loopsOf, hb']) (fun n' hn' => by simp [rangesOf, hn'])
    simp only [aCodeK] at h ⊢
    split at h
    · rename_i S hS
      exact (hL.loops b (by simp [loopsOf]) S hS).nat _ H k r h
    · exact aIterK_nat (F := headedK C b) (headedK_nat (fun ts H => ih hb ts H)) _ ts H k r h
  | rangeFunc g ps asg bd _ _ =>
    intro _ ts H k r h
    exact rangeK_nat hn ts H k r h
  | exit id => intro _ ts H k r h; exact ⟨.exit id, ts, H, h, fun _ => rfl⟩
  | ret => intro _ ts H k r h; exact ⟨.ret, ts, H, h, fun _ => rfl⟩
  | _ => intro _ ts H k r h; simp [aCodeK] at h

theorem resultsK_nat {E : Env} {ts : ATs} {H : AH} : ∀ (l : List ResultVar) {kk : List AV → Res}, resultsK E ts H l kk = some r → ∃ vs, kk vs = some r ∧ ∀ kk', resultsK E ts H l kk' = kk' vs
  | [], kk, h => ⟨[], h, fun _ => rfl⟩
  | .tmp t :: l, kk, h => by
    obtain ⟨vs, h0, h1⟩ := resultsK_nat l h
    exact ⟨_, h0, fun kk' => h1 _⟩
  | .cell a t :: l, kk, h => by
    simp only [resultsK] at h ⊢
    rw [aLoadK_nat (kp := fun _ _ => none)] at h
    cases hx : aLoadK E t (ts.get a) H encV with
    | none => rw [hx] at h; cases h
    | some p =>
      obtain ⟨e, H1⟩ := p
      rw [hx] at h
      cases e with
      | pan v => cases h
      | ret v =>
        obtain ⟨vs, h0, h1⟩ := resultsK_nat l h
        refine ⟨v :: vs, h0, fun kk' => ?_⟩
        rw [aLoadK_nat (kp := fun _ _ => none), hx]
        exact h1 _

theorem aBodyK_nat (hn : CallNat C) (hr : RoundNat C) {fn : Func} (hL : ∀ c, fn.body = some c → LoopsOK C c) {args : List AV} {H : AH} {k : KE} {r : Fin'} (h : aBodyK C fn args H k = some r) :
    ∃ e H', k e H' = some r ∧ ∀ k', aBodyK C fn args H k' = k' e H' := by
  unfold aBodyK at h ⊢
  split at h
  · cases h
  · rename_i c hc
    try simp only [hc]
    split at h
    · cases h
    · rename_i hg
      try simp only [hg]
      obtain ⟨ex, ts1, H1, h1, h2⟩ := aCodeK_nat hn hr c (hL c hc) _ _ _ r h
      cases ex with
      | normal =>
        obtain ⟨vs, h3, h4⟩ := resultsK_nat _ h1
        exact ⟨_, _, h3, fun k' => by rw [h2]; exact h4 _⟩
      | ret =>
        obtain ⟨vs, h3, h4⟩ := resultsK_nat _ h1
        exact ⟨_, _, h3, fun k' => by rw [h2]; exact h4 _⟩
      | pan v => exact ⟨_, _, h1, fun k' => by rw [h2]⟩
      | exit i => cases h1

theorem numbered_get (l : List AV) : ∀ (i t : Nat), (numbered i l).get t = if i ≤ t then l.getD (t - i) .junk else .junk := by
  induction l with
  | nil => intro i t; simp [numbered, ATs.get]
  | cons v l ih =>
    intro i t
    simp only [numbered, ATs.get]
    by_cases h : i = t
    · subst h; simp
    · have : (i == t) = false := by simpa using h
      rw [this]
      simp only []
      rw [ih]
      by_cases h2 : i ≤ t
      · rw [if_pos h2, if_pos (by omega)]
        have : t - i = (t - (i + 1)) + 1 := by omega
        rw [this, List.getD_cons_succ]
      · rw [if_neg h2, if_neg (by omega)]

def resOf (tmps : Array Value) : ResultVar → Sem Value
  | .tmp t => pure (tmps.getD t undef)
  | .cell a t => do loadVar t (← asAddr (tmps.getD a undef))

theorem resultsK_ok {E : Env} {M : Mem} {ι : Io} {H : AH} {w : World} {nt : Nat} {ts : ATs} {tmps : Array Value} (hE : EnvOK P E) (hI : Inv M ι H w) (hT : TR M ι nt ts tmps) : ∀ (l : List ResultVar) {kk : List AV → Res}, resultsK E ts H l kk = some r →
    ∃ (vs : List AV) (cs : List Value), kk vs = some r ∧ (l.mapM (resOf tmps)).run P w = .ok cs w ∧ vs.length = cs.length ∧ ∀ (i : Nat) (x : AV) (y : Value), vs[i]? = some x → cs[i]? = some y → VR M ι x y
  | [], kk, h => ⟨[], [], h, rfl, rfl, fun i x y hx => by simp at hx⟩
  | .tmp t :: l, kk, h => by
    obtain ⟨vs, cs, h0, h1, h2, h3⟩ := resultsK_ok hE hI hT l h
    refine ⟨ts.get t :: vs, tmps.getD t undef :: cs, h0, ?_, by simp [h2], fun i x y hx hy => ?_⟩
    · simp only [List.mapM_cons, resOf, Sem.run_bind, Sem.run_pure, Result.andThen_ok, h1]
    · cases i with
      | zero => simp only [List.getElem?_cons_zero, Option.some.injEq] at hx hy; subst hx; subst hy; exact hT.2 t
      | succ i => exact h3 i x y (by simpa using hx) (by simpa using hy)
  | .cell a t :: l, kk, h => by
    obtain ⟨v, c, h4, h5, h6⟩ := aLoadK_pure hE hI (hT.2 a) h
    obtain ⟨vs, cs, h0, h1, h2, h3⟩ := resultsK_ok hE hI hT l h4
    have hc : (resOf tmps (.cell a t)).run P w = .ok c w := by
      unfold resOf
      unfold Instr.loadAt at h6
      cases hp : tmps.getD a undef with
      | pointer p =>
        rw [hp] at h6
        cases p with
        | none => simp [Instr.sureAddr] at h6
        | some ad =>
          have e : asAddr (tmps.getD a undef) = pure ad := by rw [hp]; rfl
          simp only [Instr.sureAddr, pure_bind] at h6
          simp only [e, pure_bind]
          exact h6
      | _ => rw [hp] at h6; simp [Instr.sureAddr] at h6
    refine ⟨v :: vs, c :: cs, h0, ?_, by simp [h2], fun i x y hx hy => ?_⟩
    · simp only [List.mapM_cons, Sem.run_bind, hc, Sem.run_pure, Result.andThen_ok, h1]
    · cases i with
      | zero => simp only [List.getElem?_cons_zero, Option.some.injEq] at hx hy; subst hx; subst hy; exact h5
      | succ i => exact h3 i x y (by simpa using hx) (by simpa using hy)

theorem VR.toSz {M : Mem} {ι : Io} {v : AV} {c : Value} (h : VR M ι v c) (n : Nat) : VR M ι (v.toSz n) c := by
  unfold AV.toSz
  split
  · split
    · split
      · rcases h.fs_inv with ⟨rfl, _, rfl⟩ | ⟨rfl, _, za, rfl⟩ | ⟨hf, b, o, cap, rfl, hc⟩
        · exact .fsNil n
        · exact .fsZc n za
        · exact .fsAny (xs := []) hf b o cap (fun _ _ => undef) (Nat.zero_le _) (fun i x hx => by simp at hx) (fun i x j y hx => by simp at hx) (fun i x j y hx => by simp at hx)
      · exact h
    · exact h
  · exact h
theorem VR.szK {M : Mem} {ι : Io} {v : AV} {c : Value} (h : VR M ι v c) (k : CK) : VR M ι (szK k v) c := by
  unfold Abs.szK
  split
  · exact h.toSz _
  · exact h
theorem szL_get : ∀ (ks : List CK) (vs : List AV), (szL ks vs).length = vs.length ∧ ∀ (i : Nat) (x : AV), (szL ks vs)[i]? = some x → ∃ (y : AV) (k : CK), vs[i]? = some y ∧ (x = y ∨ x = szK k y)
  | k :: ks, v :: vs => by
    obtain ⟨h1, h2⟩ := szL_get ks vs
    refine ⟨by simp [szL, h1], fun i x hx => ?_⟩
    cases i with
    | zero => simp only [szL, List.getElem?_cons_zero, Option.some.injEq] at hx; exact ⟨v, k, rfl, .inr hx.symm⟩
    | succ i => exact h2 i x (by simpa [szL] using hx)
  | [], vs => ⟨rfl, fun i x hx => ⟨x, .other, hx, .inl rfl⟩⟩
  | _ :: _, [] => ⟨rfl, fun i x hx => by simp [szL] at hx⟩
theorem VR.szT {M : Mem} {ι : Io} {v : AV} {c : Value} (h : VR M ι v c) (E : Env) (t : TypeId) : VR M ι (szT E t v) c := by
  unfold Abs.szT
  split
  · exact h
  · next i hi =>
    split
    · next cs =>
      cases c <;> (try (cases h; done))
      cases h with
      | agg h1 h2 h3 =>
      obtain ⟨g1, g2⟩ := szL_get i.kinds cs
      refine .agg (by rw [g1]; exact h1) (fun j x y hx hy => ?_) h3
      obtain ⟨z, k, q1, q2⟩ := g2 j x hx
      rcases q2 with rfl | rfl
      · exact h2 j _ y q1 hy
      · exact (h2 j z y q1 hy).szK k
    · split
      · exact h.szK _
      · exact h
theorem szTs_rel {M : Mem} {ι : Io} (E : Env) : ∀ (ts : List TypeId) (vs : List AV) (cs : List Value), vs.length = cs.length → (∀ (i : Nat) (x : AV) (y : Value), vs[i]? = some x → cs[i]? = some y → VR M ι x y) →
    (szTs E ts vs).length = cs.length ∧ ∀ (i : Nat) (x : AV) (y : Value), (szTs E ts vs)[i]? = some x → cs[i]? = some y → VR M ι x y
  | t :: ts, v :: vs, c :: cs, hl, h => by
    obtain ⟨h1, h2⟩ := szTs_rel E ts vs cs (by simpa using hl) (fun i x y hx hy => h (i + 1) x y (by simpa using hx) (by simpa using hy))
    refine ⟨by simp [szTs, h1], fun i x y hx hy => ?_⟩
    cases i with
    | zero => simp only [szTs, List.getElem?_cons_zero, Option.some.injEq] at hx hy; subst hx; subst hy; exact (h 0 v c rfl rfl).szT E t
    | succ i => exact h2 i x y (by simpa [szTs] using hx) (by simpa using hy)
  | t :: ts, v :: vs, [], hl, _ => by simp at hl
  | [], vs, cs, hl, h => ⟨hl, h⟩
  | _ :: _, [], cs, hl, h => ⟨hl, h⟩

theorem results_ok {E : Env} {M : Mem} {ι : Io} {H : AH} {w : World} {nt : Nat} {ts : ATs} {tmps : Array Value} (hE : EnvOK P E) (hI : Inv M ι H w) (hT : TR M ι nt ts tmps) {fn : Func} {kk : List AV → Res} (h : resultsK E ts H fn.results.toList kk = some r) :
    ∃ vs c, kk vs = some r ∧ (results fn tmps).run P w = .ok c w ∧ ∀ l, VR M ι (oneOf (szTs E l vs)) c := by
  obtain ⟨vs, cs, h0, h1, h2, h3⟩ := resultsK_ok hE hI hT _ h
  have hm : (fn.results.mapM (resOf tmps)).run P w = .ok cs.toArray w := by
    rw [Array.mapM_eq_mapM_toList]
    simp only [Sem.run_map, h1]
    rfl
  refine ⟨vs, if h : cs.toArray.size = 1 then cs.toArray[0] else .tuple cs.toArray, h0, ?_, ?_⟩
  · have he : results fn tmps = (do let vs ← fn.results.mapM (resOf tmps); pure (if h : vs.size = 1 then vs[0] else .tuple vs)) := by
      unfold results
      congr 1
    rw [he, Sem.run_bind, hm]
    rfl
  · intro l
    obtain ⟨h2, h3⟩ := szTs_rel E l vs cs h2 h3
    generalize szTs E l vs = vs' at h2 h3
    match vs', cs, h2, h3 with
    | [v], [c], _, h3 => exact h3 0 v c rfl rfl
    | [], [], _, h3 => exact .tup rfl (fun i x y hx => by simp at hx)
    | v :: v' :: vs, c :: c' :: cs, h2, h3 =>
      simp only [List.size_toArray, List.length_cons, Nat.add_eq_right, Nat.add_eq_zero_iff, Nat.succ_ne_self, and_false, dite_false, oneOf]
      exact .tup (by simpa using h2) (fun i x y hx hy => h3 i x y hx (by simpa using hy))

/-- A function, from its body. -/
theorem leaves_marks {fn : Func} {tmps : Array Value} {R : Ending → World → Prop} {M : Mem} {ι : Io} {H : AH} {w : World} {M' : Mem} {ι' : Io} {H' : AH} {u : FrameMode} (hu : u ≠ .run)
    (hend : ∀ w', Stp M ι H w M' ι' H' w' → LeavesIn Fence.wide n P fn tmps R [] u w') : ∀ (rs : List Nat) (w' : World), Stp M ι H w M' ι' H' w' → rs.Nodup → (∀ r ∈ rs, w.heap.size ≤ r ∧ w'.heap[r]? = some (.deferred (some []))) →
      LeavesInM Fence.wide n P fn tmps R (rs.map markOf) u w'
  | [], w', hs, _, _ => hend w' hs
  | r :: rs, w', hs, hn, hr => by
    obtain ⟨h1, h2⟩ := hr r (by simp)
    rw [List.nodup_cons] at hn
    refine ⟨hu, .inl ⟨r, w'.putObj r (.deferred none), rfl, run_takeDeferred h2, leaves_marks hu hend rs _ (hs.shut h1 h2) hn.2 fun r' hr' => ?_⟩⟩
    obtain ⟨h3, h4⟩ := hr r' (by simp [hr'])
    exact ⟨h3, by rw [World.putObj_heap_other (by rintro rfl; exact hn.1 hr')]; exact h4⟩

theorem aBodyK_ok (hC : CtxOK P C) {f : FuncId} {fn : Func} {args : List AV} {H : AH} {k : KE} (hf : P.funcs[f]? = some fn)
    (hL : ∀ c, fn.body = some c → LoopsOK C c) (h : aBodyK C fn args H k = some r) : CallOK P f args H k r := by
  intro M ι w cargs hI ha
  unfold aBodyK at h
  split at h
  · cases h
  rename_i c hc
  split at h
  · cases h
  rename_i hn
  simp only [Bool.and_eq_true, decide_eq_true_eq, beq_iff_eq] at hn
  refine callsIn_of_wp_marks hf hc trivial ?_
  refine aCodeK_ok (ro := none) (base := (w.heap.size, [], false)) (M := M) (ι := ι) hC (fun _ => rfl) (fun h => by cases h) c (hL c hc) h hI ?_ (Dfs.nil (Nat.le_refl _)) ?_
  · refine ⟨by simp; rw [← ha.1, ← hn.2]; omega, fun t => ?_⟩
    rw [numbered_get]
    simp only [Nat.zero_le, if_true, Nat.sub_zero]
    rw [List.getD_eq_getElem?_getD, Array.getD_eq_getD_getElem?]
    rcases Nat.lt_or_ge t args.length with hlt | hge
    · have hlt2 : t < cargs.size := by rw [← ha.1]; exact hlt
      rw [List.getElem?_eq_getElem hlt, Array.getElem?_append_left hlt2, Array.getElem?_eq_getElem hlt2]
      exact ha.2 t _ _ (List.getElem?_eq_getElem hlt) (Array.getElem?_eq_getElem hlt2)
    · rw [List.getElem?_eq_none hge]
      exact .junk _
  · intro ex ts' H1 hx en M' ι' a' w' g1 g2 g3 g4
    obtain ⟨_, rs, hrs, hnd, _, hrm⟩ := g3
    rw [List.append_nil] at hrs
    have fin : resultsK C.E ts' H1 fn.results.toList (fun vs => k (.ret (oneOf (szTs C.E fn.resultTypes.toList vs))) H1) = some r →
        LeavesInM Fence.wide 0 P fn a'.tmps (fun en w' => ∃ e H' M' ι', k e H' = some r ∧ Stp M ι H w M' ι' H' w' ∧ EndR M' ι' e en) a'.defers .returning w' := by
      intro hvs
      rw [hrs]
      refine leaves_marks (by simp) (fun w2 hs => ?_) rs w' g1 hnd hrm
      obtain ⟨vs, c, heq, q1, q2⟩ := results_ok (P := P) (w := w2) hC.env hs.inv g2 hvs
      exact ⟨c, q1, _, _, M', ι', heq, hs, q2 _⟩
    cases ex with
    | normal =>
      cases en with
      | normal => exact fin hx
      | _ => exact g4.elim
    | exit i => cases hx
    | ret =>
      cases en with
      | ret => exact fin hx
      | _ => exact g4.elim
    | pan v =>
      cases en with
      | panic ch =>
        show LeavesInM Fence.wide 0 P fn a'.tmps _ a'.defers (.panicking ch) w'
        rw [hrs]
        exact leaves_marks (by simp) (fun w2 hs => by simp only [LeavesIn]; exact ⟨_, _, M', ι', hx, hs, g4⟩) rs w' g1 hnd hrm
      | _ => exact g4.elim

end
end Go.Abs
