/- Regions and code. -/
import Derived.Test.YtkiipegoooldiaaB3
namespace Go.Abs
open Go.RowKit

/-- The bodies of a code's loops. -/
def loopsOf : Code → List Code
  | .seq a b => loopsOf a ++ loopsOf b
  | .cond _ a b => loopsOf a ++ loopsOf b
  | .block _ b => loopsOf b
  | .scope b => loopsOf b
  | .loop b => b :: loopsOf b
  | _ => []

/-- A summary of a loop says no more than its rounds. -/
structure LoopSum (C : Ctx) (b : Code) (S : ATs → AH → KC → Res) : Prop where
  sum : ∀ ts H k r, S ts H k = some r → ∃ n, aIterK n (aCodeK C b) ts H k = some r
  nat : ∀ ts H, NatC (S ts H)

def LoopsOK (C : Ctx) (c : Code) : Prop := ∀ b ∈ loopsOf c, ∀ S, C.loop (loopId b) = some S → LoopSum C b S

section
variable {P : Program} {C : Ctx} {ro : Option Nat} {r : Fin'} {n : Nat}

/-- What is asked of what comes behind. -/
def Behind (M : Mem) (ι : Io) (H : AH) (w : World) (nt : Nat) (ds : List Deferred) (Q : Exit → Act → World → Prop) (k : KC) (r : Fin') : Prop :=
  ∀ ex ts' H', k ex ts' H' = some r → ∀ e M' ι' a' w', Stp M ι H w M' ι' H' w' → TR M' ι' nt ts' a'.tmps → a'.defers = ds → ExR M' ι' ex e → Q e a' w'

theorem Behind.later {M : Mem} {ι : Io} {H : AH} {w : World} {M1 : Mem} {ι1 : Io} {H1 : AH} {w1 : World} {nt : Nat} {ds : List Deferred} {Q : Exit → Act → World → Prop} {k : KC}
    (h : Behind M ι H w nt ds Q k r) (hs : Stp M ι H w M1 ι1 H1 w1) : Behind M1 ι1 H1 w1 nt ds Q k r :=
  fun ex ts' H' hk e M' ι' a' w' g1 g2 g3 g4 => h ex ts' H' hk e M' ι' a' w' (hs.trans g1) g2 g3 g4

theorem about_free (o : Oper) (w : World) (ρ : Operand → Value) : ∀ f, o.about P w ρ = some f → (fen ro).fn f := fun _ _ => trivial

/-- A region's operations, in their order. -/
theorem aOpsK_ok (hC : CtxOK P C) {ops : Array Oper} : ∀ (l : List Oper) {M : Mem} {ι : Io} {H : AH} {w : World} {ts : ATs} {a : Act} {k : KC} {Q : Exit → Act → World → Prop},
    aOpsK C ops l ts H k = some r → Inv M ι H w → TR M ι C.nt ts a.tmps → Behind M ι H w C.nt a.defers Q k r → wpListIn (fen ro) n P ops Q l a w
  | [], M, ι, H, w, ts, a, k, Q, h, hI, hT, hk => hk .normal ts H h .normal M ι a w (.refl hI) hT rfl trivial
  | o :: l, M, ι, H, w, ts, a, k, Q, h, hI, hT, hk => by
    have doit : ∀ ts : ATs, TR M ι C.nt ts a.tmps → dstOk C.nt o.dst = true → aOpK C ts o.op H (fun v H => aOpsK C ops l (ts.put o.dst v) H k) (fun v H => k (.pan v) ts H) = some r →
        o.wpIn (fen ro) n P a w (wpListIn (fen ro) n P ops Q l) Q := by
      intro ts hT hd h
      refine aOpK_ok hC hI hT h (fun v H' M' ι' w' c q1 q2 q3 => ?_) (fun v H' M' ι' w' c q1 q2 q3 => ?_)
      · refine aOpsK_ok hC l q1 q2.inv ((hT.stp q2).put hd q3) ?_
        rw [put_defers]
        exact hk.later q2
      · exact hk _ ts H' q1 _ M' ι' a w' q2 (hT.stp q2) rfl ⟨c, rfl, q3⟩
    have skip : ∀ ts : ATs, TR M ι C.nt ts a.tmps → dstOk C.nt o.dst = true → aOpsK C ops l (ts.put o.dst (.tup [])) H k = some r →
        wpListIn (fen ro) n P ops Q l (a.put o.dst undef) w := by
      intro ts hT hd h
      refine aOpsK_ok hC l h hI (hT.put hd (.tup (ys := #[]) rfl (fun i x y hx => by simp at hx))) ?_
      rw [put_defers]
      exact hk
    unfold aOpsK at h
    simp only at h
    split at h
    · cases h
    rename_i hd
    split at h
    · -- no guard
      rename_i hg
      simp only [wpListIn, Region.wanted, hg, if_true]
      exact doit ts hT hd h
    · rename_i j want hg
      split at h
      · cases h
      rename_i t ht
      obtain ⟨y1, y2⟩ := yielded_of hT ht
      split at h
      · rename_i b hb
        have hy := y1 b hb
        have hlearn : ∀ b', b = b' → TR M ι C.nt (ts.put (some t) (.bool b')) a.tmps := by
          rintro _ rfl
          refine hT.learn (v := .bool b) ?_
          have := hT.2 t; rw [hb] at this; exact this
        split at h
        · rcases aIf_some h with ⟨hb', h⟩ | ⟨hb', h⟩
          · simp only [wpListIn, Region.wanted, hg, hy, hb', beq_self_eq_true, if_true]
            exact doit _ (hlearn _ hb') hd h
          · simp only [wpListIn, Region.wanted, hg, hy, hb']
            exact ⟨about_free _ _ _, skip _ (hlearn _ hb') hd h⟩
        · rcases aIf_some h with ⟨hb', h⟩ | ⟨hb', h⟩
          · simp only [wpListIn, Region.wanted, hg, hy, hb']
            exact ⟨about_free _ _ _, skip _ (hlearn _ hb') hd h⟩
          · simp only [wpListIn, Region.wanted, hg, hy, hb', beq_self_eq_true, if_true]
            exact doit _ (hlearn _ hb') hd h
      · rename_i hb
        have hy := y2 hb
        simp only [wpListIn, Region.wanted, hg, hy]
        exact ⟨about_free _ _ _, skip ts hT hd h⟩
      · cases h

theorem LoopsOK.mem {c c' : Code} (h : LoopsOK C c) (hs : ∀ b ∈ loopsOf c', b ∈ loopsOf c) : LoopsOK C c' := fun b hb => h b (hs b hb)

/-- The rounds of a loop. -/
theorem aIterK_ok {c : Code} (hc : ∀ {M : Mem} {ι : Io} {H : AH} {w : World} {ts : ATs} {a : Act} {k : KC} {Q : Exit → Act → World → Prop},
      aCodeK C c ts H k = some r → Inv M ι H w → TR M ι C.nt ts a.tmps → Behind M ι H w C.nt a.defers Q k r → c.wpIn (fen ro) n P Q a w) :
    ∀ (m : Nat) {M : Mem} {ι : Io} {H : AH} {w : World} {ts : ATs} {a : Act} {k : KC} {Q : Exit → Act → World → Prop},
      aIterK m (aCodeK C c) ts H k = some r → Inv M ι H w → TR M ι C.nt ts a.tmps → Behind M ι H w C.nt a.defers Q k r → Code.roundsIn (fen ro) n P c Q m a w := by
  intro m
  induction m with
  | zero => intro M ι H w ts a k Q h; cases h
  | succ m ih =>
    intro M ι H w ts a k Q h hI hT hk
    rw [roundsIn_succ]
    refine hc h hI hT ?_
    intro ex ts' H' hx e M' ι' a' w' g1 g2 g3 g4
    cases ex with
    | normal =>
      cases e with
      | normal => exact ih hx g1.inv g2 (by rw [g3]; exact hk.later g1)
      | _ => exact g4.elim
    | exit i =>
      cases e with
      | exit j => exact hk _ ts' H' hx (.exit j) M' ι' a' w' g1 g2 g3 g4
      | _ => exact g4.elim
    | ret =>
      cases e with
      | ret => exact hk _ ts' H' hx .ret M' ι' a' w' g1 g2 g3 g4
      | _ => exact g4.elim
    | pan v =>
      cases e with
      | panic ch => exact hk _ ts' H' hx (.panic ch) M' ι' a' w' g1 g2 g3 g4
      | _ => exact g4.elim

/-- Code. -/
theorem aCodeK_ok (hC : CtxOK P C) : ∀ (c : Code) (_ : LoopsOK C c) {M : Mem} {ι : Io} {H : AH} {w : World} {ts : ATs} {a : Act} {k : KC} {Q : Exit → Act → World → Prop},
    aCodeK C c ts H k = some r → Inv M ι H w → TR M ι C.nt ts a.tmps → Behind M ι H w C.nt a.defers Q k r → c.wpIn (fen ro) n P Q a w := by
  intro c
  induction c with
  | skip => intro _ M ι H w ts a k Q h hI hT hk; exact wpIn_skip (hk .normal ts H h .normal M ι a w (.refl hI) hT rfl trivial)
  | region id ops draw =>
    intro _ M ι H w ts a k Q h hI hT hk
    cases draw with
    | true =>
      simp only [aCodeK] at h
      split at h
      · rename_i hd
        refine wpIn_region_any hC.mixed ?_
        obtain ⟨xs, Hs, tsf, g1, g2, g3, _, g5⟩ := draw_trace hC.nat hC.rnat (ops := ops) (ts0 := ts) ops.toList 0 ts H (fun _ => .junk) (fun _ => H) (fun j => by simp) h (fun _ => rfl) rfl (fun j hj => absurd hj (Nat.not_lt_zero _))
        have hH0 : Hs 0 = H := g5 0 (Nat.le_refl _)
        simp only [Nat.zero_add, Array.length_toList] at g1 g2 g3
        have hpairs := drawOk_spec ops.toList 0 (fun m => by simp) hd
        have hs0 : Stp M ι (Hs 0) w M ι (Hs 0) { w with drawn := w.drawn + 1 } := by rw [hH0]; exact Stp.drew hI _
        have hLf : Lf (Array.replicate ops.size false) = fun _ => false := by
          funext j
          simp only [Lf, Array.getD_eq_getD_getElem?, Array.getElem?_replicate]
          split <;> rfl
        have e1 : ∀ m, tsL ops ts xs (fun _ => false) m = ts := fun m => by
          induction m with
          | zero => rfl
          | succ m ih => simp only [tsL, ih]
        have e2 : ∀ m, HL C ops Hs (fun _ => false) m = Hs 0 := fun m => by
          induction m with
          | zero => rfl
          | succ m ih => simp only [HL, Bool.false_and, ih]
        have e3 : ∀ m, cnt (fun _ => false) m = m := fun m => by
          induction m with
          | zero => rfl
          | succ m ih => simp only [cnt, ih]
        refine draw_any (M0 := M) (ι0 := ι) (w0 := w) (ts0 := ts) (xs := xs) (Hs := Hs) (ds := a.defers) hC (fun m p hp => hpairs m p (Nat.zero_le _) hp) (fun i o ho => g3 i (Array.getElem?_eq_some_iff.1 ho).1 o ho) (fun M' ι' a' w' q1 q2 q3 => ?_)
          ops.size (Array.replicate ops.size false) a _ M ι (by simp) ⟨fun m p hp => hpairs m p (Nat.zero_le _) hp, fun j p hp hj => by rw [hLf] at hj; cases hj⟩ ?_ ?_ ?_ rfl
        · rw [hH0] at q1
          have q2' : TR M' ι' C.nt tsf a'.tmps := (show same (tsL ops ts xs all ops.size) tsf from fun t => (g2 t).symm).tr q2
          exact hk .normal _ _ g1 .normal M' ι' a' w' q1 (q2'.trimK id) q3 trivial
        · rw [hLf, e3]; exact Nat.le_refl _
        · rw [hLf, e2]; exact hs0
        · rw [hLf, e1]; exact hT
      · cases h
    | false =>
      refine wpIn_region_list (aOpsK_ok hC _ h hI hT ?_)
      intro ex ts' H' hx e M' ι' a' w' g1 g2 g3 g4
      cases ex with
      | normal => exact hk .normal _ H' hx e M' ι' a' w' g1 (g2.trimK id) g3 g4
      | _ => exact hk _ _ H' hx e M' ι' a' w' g1 g2 g3 g4
  | seq x y ihx ihy =>
    intro hL M ι H w ts a k Q h hI hT hk
    have hx := ihx (hL.mem (fun b hb => by simp [loopsOf, hb])) (M := M) (ι := ι) (H := H) (w := w) (a := a) (Q := Exit.then (y.wpIn (fen ro) n P Q) Q) h hI hT ?_
    · exact wpIn_seq hx
    intro ex ts' H' hx e M' ι' a' w' g1 g2 g3 g4
    cases ex with
    | normal =>
      cases e with
      | normal => exact ihy (hL.mem (fun b hb => by simp [loopsOf, hb])) hx g1.inv g2 (by rw [g3]; exact hk.later g1)
      | _ => exact g4.elim
    | exit i =>
      cases e with
      | exit j => exact hk _ ts' H' hx (.exit j) M' ι' a' w' g1 g2 g3 g4
      | _ => exact g4.elim
    | ret =>
      cases e with
      | ret => exact hk _ ts' H' hx .ret M' ι' a' w' g1 g2 g3 g4
      | _ => exact g4.elim
    | pan v =>
      cases e with
      | panic ch => exact hk _ ts' H' hx (.panic ch) M' ι' a' w' g1 g2 g3 g4
      | _ => exact g4.elim
  | cond cnd x y ihx ihy =>
    intro hL M ι H w ts a k Q h hI hT hk
    simp only [aCodeK] at h
    have hc := vr_evalO hT cnd
    split at h
    · rename_i t ht
      rw [ht] at hc
      have hc := hc.bool_inv
      rcases aIf_some h with ⟨rfl, h⟩ | ⟨rfl, h⟩
      · exact wpIn_cond_true hc (ihx (hL.mem (fun b hb => by simp [loopsOf, hb])) h hI hT hk)
      · exact wpIn_cond_false hc (ihy (hL.mem (fun b hb => by simp [loopsOf, hb])) h hI hT hk)
    · cases h
  | block id b ih =>
    intro hL M ι H w ts a k Q h hI hT hk
    have hx := ih (hL.mem (fun b hb => by simpa [loopsOf] using hb)) (M := M) (ι := ι) (H := H) (w := w) (a := a) (Q := Exit.inBlock id Q) h hI hT ?_
    · exact wpIn_block hx
    intro ex ts' H' hx e M' ι' a' w' g1 g2 g3 g4
    cases ex with
    | normal =>
      cases e with
      | normal => exact hk _ ts' H' hx .normal M' ι' a' w' g1 g2 g3 trivial
      | _ => exact g4.elim
    | exit i =>
      cases e with
      | exit j =>
        obtain rfl : i = j := g4
        simp only [Exit.inBlock]
        simp only at hx
        split at hx
        · rename_i hi
          rw [if_pos (by simpa using hi)]
          exact hk _ ts' H' hx .normal M' ι' a' w' g1 g2 g3 trivial
        · rename_i hi
          rw [if_neg (by simpa using hi)]
          exact hk _ ts' H' hx (.exit i) M' ι' a' w' g1 g2 g3 rfl
      | _ => exact g4.elim
    | ret =>
      cases e with
      | ret => exact hk _ ts' H' hx .ret M' ι' a' w' g1 g2 g3 g4
      | _ => exact g4.elim
    | pan v =>
      cases e with
      | panic ch => exact hk _ ts' H' hx (.panic ch) M' ι' a' w' g1 g2 g3 g4
      | _ => exact g4.elim
  | loop b ih =>
    intro hL M ι H w ts a k Q h hI hT hk
    have hb : LoopsOK C b := hL.mem (fun b' hb' => by simp [loopsOf, hb'])
    have main : ∀ m, aIterK m (aCodeK C b) ts H k = some r → (Code.loop b).wpIn (fen ro) n P Q a w := fun m hm =>
      wpIn_loop_rounds m (aIterK_ok (fun h1 h2 h3 h4 => ih hb h1 h2 h3 h4) m hm hI hT hk)
    simp only [aCodeK] at h
    split at h
    · rename_i S hS
      obtain ⟨m, hm⟩ := (hL b (by simp [loopsOf]) S hS).sum ts H k r h
      exact main m hm
    · exact main _ h
  | exit id => intro _ M ι H w ts a k Q h hI hT hk; exact wpIn_exit (hk (.exit id) ts H h (.exit id) M ι a w (.refl hI) hT rfl rfl)
  | ret => intro _ M ι H w ts a k Q h hI hT hk; exact wpIn_ret (hk .ret ts H h .ret M ι a w (.refl hI) hT rfl trivial)
  | _ => intro _ M ι H w ts a k Q h; simp [aCodeK] at h

theorem aDrawK_nat (hn : CallNat C) (hr : RoundNat C) {ops : Array Oper} : ∀ (l : List Oper) (ts : ATs) (H : AH), NatC (aDrawK C ops l ts H)
  | [], ts, H, k, r, h => ⟨.normal, ts, H, h, fun _ => rfl⟩
  | o :: l, ts, H, k, r, h => by
    have doit : ∀ ts : ATs, NatC fun k => match barB C o.op || quietB C ts o.op with
        | true => aOpK C ts o.op H (fun v H => aDrawK C ops l (ts.put o.dst v) H k) (fun _ _ => none)
        | false => none := by
      intro ts k r h
      simp only at h ⊢
      split at h
      · rename_i hb
        try simp only [hb]
        obtain ⟨v, H1, h1, h2⟩ := opNat hn hr h
        obtain ⟨ex, ts', H', h3, h4⟩ := aDrawK_nat hn hr l (ts.put o.dst v) H1 k r h1
        exact ⟨ex, ts', H', h3, fun k' => by rw [h2]; exact h4 k'⟩
      · cases h
    have skip : ∀ ts : ATs, NatC fun k => aDrawK C ops l (ts.put o.dst (.tup [])) H k := fun ts => aDrawK_nat hn hr l _ H
    unfold aDrawK at h ⊢
    simp only at h ⊢
    split at h
    · cases h
    · rename_i hd
      try simp only [hd]
      split at h
      · rename_i hg
        try simp only [hg]
        exact doit _ k r h
      · rename_i j want hg
        try simp only [hg]
        split at h
        · cases h
        · rename_i t ht
          try simp only [ht]
          split at h
          · rename_i b hb
            try simp only [hb]
            split at h
            · rcases aIf_some h with ⟨rfl, h⟩ | ⟨rfl, h⟩
              · exact doit _ k r h
              · exact skip _ k r h
            · rcases aIf_some h with ⟨rfl, h⟩ | ⟨rfl, h⟩
              · exact skip _ k r h
              · exact doit _ k r h
          · rename_i hb
            try simp only [hb]
            exact skip _ k r h
          · cases h

theorem aIterK_nat {F : ATs → AH → KC → Res} (hF : ∀ ts H, NatC (F ts H)) : ∀ (m : Nat) (ts : ATs) (H : AH), NatC (aIterK m F ts H)
  | 0, ts, H, k, r, h => by cases h
  | m + 1, ts, H, k, r, h => by
    unfold aIterK at h ⊢
    obtain ⟨ex, ts1, H1, h1, h2⟩ := hF ts H _ r h
    cases ex with
    | normal =>
      obtain ⟨ex2, ts2, H2, h3, h4⟩ := aIterK_nat hF m ts1 H1 k r h1
      exact ⟨ex2, ts2, H2, h3, fun k' => by rw [h2]; exact h4 k'⟩
    | exit i => exact ⟨.exit i, ts1, H1, h1, fun k' => by rw [h2]⟩
    | ret => exact ⟨.ret, ts1, H1, h1, fun k' => by rw [h2]⟩
    | pan v => exact ⟨.pan v, ts1, H1, h1, fun k' => by rw [h2]⟩

theorem aCodeK_nat (hn : CallNat C) (hr : RoundNat C) : ∀ (c : Code) (_ : LoopsOK C c) (ts : ATs) (H : AH), NatC (aCodeK C c ts H) := by
  intro c
  induction c with
  | skip => intro _ ts H k r h; exact ⟨.normal, ts, H, h, fun _ => rfl⟩
  | region id ops draw =>
    intro _ ts H k r h
    cases draw with
    | true =>
      simp only [aCodeK] at h ⊢
      split at h
      · obtain ⟨ex, ts1, H1, h1, h2⟩ := aDrawK_nat hn hr _ ts H _ r h
        cases ex with
        | normal => exact ⟨.normal, _, H1, h1, fun k' => by rw [h2]⟩
        | exit i => exact ⟨.exit i, ts1, H1, h1, fun k' => by rw [h2]⟩
        | ret => exact ⟨.ret, ts1, H1, h1, fun k' => by rw [h2]⟩
        | pan v => exact ⟨.pan v, ts1, H1, h1, fun k' => by rw [h2]⟩
      · cases h
    | false =>
      simp only [aCodeK] at h ⊢
      obtain ⟨ex, ts1, H1, h1, h2⟩ := aOpsK_nat hn hr _ ts H _ r h
      cases ex with
      | normal => exact ⟨.normal, _, H1, h1, fun k' => by rw [h2]⟩
      | exit i => exact ⟨.exit i, ts1, H1, h1, fun k' => by rw [h2]⟩
      | ret => exact ⟨.ret, ts1, H1, h1, fun k' => by rw [h2]⟩
      | pan v => exact ⟨.pan v, ts1, H1, h1, fun k' => by rw [h2]⟩
  | seq x y ihx ihy =>
    intro hL ts H k r h
    simp only [aCodeK] at h ⊢
    obtain ⟨ex, ts1, H1, h1, h2⟩ := ihx (hL.mem (fun b hb => by simp [loopsOf, hb])) ts H _ r h
    cases ex with
    | normal =>
      obtain ⟨ex2, ts2, H2, h3, h4⟩ := ihy (hL.mem (fun b hb => by simp [loopsOf, hb])) ts1 H1 k r h1
      exact ⟨ex2, ts2, H2, h3, fun k' => by rw [h2]; exact h4 k'⟩
    | exit i => exact ⟨.exit i, ts1, H1, h1, fun k' => by rw [h2]⟩
    | ret => exact ⟨.ret, ts1, H1, h1, fun k' => by rw [h2]⟩
    | pan v => exact ⟨.pan v, ts1, H1, h1, fun k' => by rw [h2]⟩
  | cond cnd x y ihx ihy =>
    intro hL ts H k r h
    simp only [aCodeK] at h ⊢
    split at h
    · rcases aIf_some h with ⟨rfl, h⟩ | ⟨rfl, h⟩
      · obtain ⟨ex, ts1, H1, h1, h2⟩ := ihx (hL.mem (fun b hb => by simp [loopsOf, hb])) ts H k r h
        exact ⟨ex, ts1, H1, h1, fun k' => h2 k'⟩
      · obtain ⟨ex, ts1, H1, h1, h2⟩ := ihy (hL.mem (fun b hb => by simp [loopsOf, hb])) ts H k r h
        exact ⟨ex, ts1, H1, h1, fun k' => h2 k'⟩
    · cases h
  | block id b ih =>
    intro hL ts H k r h
    simp only [aCodeK] at h ⊢
    obtain ⟨ex, ts1, H1, h1, h2⟩ := ih (hL.mem (fun b hb => by simpa [loopsOf] using hb)) ts H _ r h
    cases ex with
    | normal => exact ⟨.normal, ts1, H1, h1, fun k' => by rw [h2]⟩
    | exit i =>
      cases hi : i == id with
      | true => simp only [hi] at h1; exact ⟨.normal, ts1, H1, h1, fun k' => by rw [h2]; simp only [hi]⟩
      | false => simp only [hi] at h1; exact ⟨.exit i, ts1, H1, h1, fun k' => by rw [h2]; simp only [hi]⟩
    | ret => exact ⟨.ret, ts1, H1, h1, fun k' => by rw [h2]⟩
    | pan v => exact ⟨.pan v, ts1, H1, h1, fun k' => by rw [h2]⟩
  | loop b ih =>
    intro hL ts H k r h
    have hb : LoopsOK C b := hL.mem (fun b' hb' => by simp [loopsOf, hb'])
    simp only [aCodeK] at h ⊢
    split at h
    · rename_i S hS
      exact (hL b (by simp [loopsOf]) S hS).nat ts H k r h
    · exact aIterK_nat (ih hb) _ ts H k r h
  | exit id => intro _ ts H k r h; exact ⟨.exit id, ts, H, h, fun _ => rfl⟩
  | ret => intro _ ts H k r h; exact ⟨.ret, ts, H, h, fun _ => rfl⟩
  | _ => intro _ ts H k r h; simp [aCodeK] at h

theorem aBodyK_nat (hn : CallNat C) (hr : RoundNat C) {fn : Func} (hL : ∀ c, fn.body = some c → LoopsOK C c) {args : List AV} {H : AH} {k : KE} {r : Fin'} (h : aBodyK C fn args H k = some r) :
    ∃ e H', k e H' = some r ∧ ∀ k', aBodyK C fn args H k' = k' e H' := by
  unfold aBodyK at h ⊢
  split at h
  · cases h
  · rename_i c hc
    try simp only [hc]
    split at h
    · cases h
    · rename_i hg
      try simp only [hg]
      obtain ⟨ex, ts1, H1, h1, h2⟩ := aCodeK_nat hn hr c (hL c hc) _ _ _ r h
      cases ex with
      | normal =>
        simp only at h1
        split at h1
        · rename_i vs hvs
          exact ⟨_, _, h1, fun k' => by rw [h2]; simp only [hvs]⟩
        · cases h1
      | ret =>
        simp only at h1
        split at h1
        · rename_i vs hvs
          exact ⟨_, _, h1, fun k' => by rw [h2]; simp only [hvs]⟩
        · cases h1
      | pan v => exact ⟨_, _, h1, fun k' => by rw [h2]⟩
      | exit i => cases h1

theorem numbered_get (l : List AV) : ∀ (i t : Nat), (numbered i l).get t = if i ≤ t then l.getD (t - i) .junk else .junk := by
  induction l with
  | nil => intro i t; simp [numbered, ATs.get]
  | cons v l ih =>
    intro i t
    simp only [numbered, ATs.get]
    by_cases h : i = t
    · subst h; simp
    · have : (i == t) = false := by simpa using h
      rw [this]
      simp only []
      rw [ih]
      by_cases h2 : i ≤ t
      · rw [if_pos h2, if_pos (by omega)]
        have : t - i = (t - (i + 1)) + 1 := by omega
        rw [this, List.getD_cons_succ]
      · rw [if_neg h2, if_neg (by omega)]

def resOf (tmps : Array Value) : ResultVar → Sem Value
  | .tmp t => pure (tmps.getD t undef)
  | .cell a t => do loadVar t (← asAddr (tmps.getD a undef))

theorem resultsL_ok {M : Mem} {ι : Io} {w : World} {nt : Nat} {ts : ATs} {tmps : Array Value} (hT : TR M ι nt ts tmps) : ∀ (l : List ResultVar) {vs : List AV}, resultsL ts l = some vs →
    ∃ cs : List Value, (l.mapM (resOf tmps)).run P w = .ok cs w ∧ vs.length = cs.length ∧ ∀ (i : Nat) (x : AV) (y : Value), vs[i]? = some x → cs[i]? = some y → VR M ι x y
  | [], vs, h => by
    cases h
    exact ⟨[], rfl, rfl, fun i x y hx => by simp at hx⟩
  | .tmp t :: l, vs, h => by
    simp only [resultsL] at h
    split at h
    · rename_i us hus
      cases h
      obtain ⟨cs, h1, h2, h3⟩ := resultsL_ok (w := w) hT l hus
      refine ⟨tmps.getD t undef :: cs, ?_, by simp [h2], fun i x y hx hy => ?_⟩
      · simp only [List.mapM_cons, resOf, Sem.run_bind, Sem.run_pure, Result.andThen_ok, h1]
      · cases i with
        | zero => simp only [List.getElem?_cons_zero, Option.some.injEq] at hx hy; subst hx; subst hy; exact hT.2 t
        | succ i => exact h3 i x y (by simpa using hx) (by simpa using hy)
    · cases h
  | .cell _ _ :: _, vs, h => by cases h

theorem results_ok {M : Mem} {ι : Io} {w : World} {nt : Nat} {ts : ATs} {tmps : Array Value} (hT : TR M ι nt ts tmps) {fn : Func} {vs : List AV} (h : resultsL ts fn.results.toList = some vs) :
    ∃ c, (results fn tmps).run P w = .ok c w ∧ VR M ι (oneOf vs) c := by
  obtain ⟨cs, h1, h2, h3⟩ := resultsL_ok (P := P) (w := w) hT _ h
  have hm : (fn.results.mapM (resOf tmps)).run P w = .ok cs.toArray w := by
    rw [Array.mapM_eq_mapM_toList]
    simp only [Sem.run_map, h1]
    rfl
  refine ⟨if h : cs.toArray.size = 1 then cs.toArray[0] else .tuple cs.toArray, ?_, ?_⟩
  · have he : results fn tmps = (do let vs ← fn.results.mapM (resOf tmps); pure (if h : vs.size = 1 then vs[0] else .tuple vs)) := by
      unfold results
      congr 1
    rw [he, Sem.run_bind, hm]
    rfl
  · match vs, cs, h2, h3 with
    | [v], [c], _, h3 => exact h3 0 v c rfl rfl
    | [], [], _, h3 => exact .tup rfl (fun i x y hx => by simp at hx)
    | v :: v' :: vs, c :: c' :: cs, h2, h3 =>
      simp only [List.size_toArray, List.length_cons, Nat.add_eq_right, Nat.add_eq_zero_iff, Nat.succ_ne_self, and_false, dite_false, oneOf]
      exact .tup (by simpa using h2) (fun i x y hx hy => h3 i x y hx (by simpa using hy))

/-- A function, from its body. -/
theorem aBodyK_ok (hC : CtxOK P C) {f : FuncId} {fn : Func} {args : List AV} {H : AH} {k : KE} (hf : P.funcs[f]? = some fn)
    (hL : ∀ c, fn.body = some c → LoopsOK C c) (h : aBodyK C fn args H k = some r) : CallOK P f args H k r := by
  intro M ι w cargs hI ha
  unfold aBodyK at h
  split at h
  · cases h
  rename_i c hc
  split at h
  · cases h
  rename_i hn
  simp only [Bool.and_eq_true, decide_eq_true_eq, beq_iff_eq] at hn
  refine callsIn_of_wp hf hc trivial ?_
  refine aCodeK_ok (ro := none) (M := M) (ι := ι) hC c (hL c hc) h hI ?_ ?_
  · refine ⟨by simp; rw [← ha.1, ← hn.2]; omega, fun t => ?_⟩
    rw [numbered_get]
    simp only [Nat.zero_le, if_true, Nat.sub_zero]
    rw [List.getD_eq_getElem?_getD, Array.getD_eq_getD_getElem?]
    rcases Nat.lt_or_ge t args.length with hlt | hge
    · have hlt2 : t < cargs.size := by rw [← ha.1]; exact hlt
      rw [List.getElem?_eq_getElem hlt, Array.getElem?_append_left hlt2, Array.getElem?_eq_getElem hlt2]
      exact ha.2 t _ _ (List.getElem?_eq_getElem hlt) (Array.getElem?_eq_getElem hlt2)
    · rw [List.getElem?_eq_none hge]
      exact .junk _
  · intro ex ts' H1 hx en M' ι' a' w' g1 g2 g3 g4
    have fin : ∀ {vs}, resultsL ts' fn.results.toList = some vs → k (.ret (oneOf vs)) H1 = some r →
        a'.defers = [] ∧ ∃ v, (results fn a'.tmps).run P w' = .ok v w' ∧ ∃ e H' M' ι', k e H' = some r ∧ Stp M ι H w M' ι' H' w' ∧ EndR M' ι' e (.returned v) := by
      intro vs hvs heq
      obtain ⟨c, q1, q2⟩ := results_ok (P := P) (w := w') g2 hvs
      exact ⟨g3, c, q1, _, _, M', ι', heq, g1, q2⟩
    cases ex with
    | normal =>
      cases en with
      | normal =>
        simp only at hx
        split at hx
        · rename_i vs hvs; exact fin hvs hx
        · cases hx
      | _ => exact g4.elim
    | exit i => cases hx
    | ret =>
      cases en with
      | ret =>
        simp only at hx
        split at hx
        · rename_i vs hvs; exact fin hvs hx
        · cases hx
      | _ => exact g4.elim
    | pan v =>
      cases en with
      | panic ch => exact ⟨g3, _, _, M', ι', hx, g1, g4⟩
      | _ => exact g4.elim

end
end Go.Abs
