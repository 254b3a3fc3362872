/- Bytes turned over in place; fragments by whatever memory they were cut from. -/
import Derived.Test.YtohfnoepdbkkeaaPFragMore
namespace Go.Pl
open Go.Abs

def xr (a : Int) : Int := IntKind.u8.wrap ((BitVec.ofInt 8 a ^^^ BitVec.ofInt 8 255).toNat : Int)
def xrS (j : Nat) (d : List AV) : List AV := d.set j (.int .u8 (xr (d.getD j .junk).toInt))
/-- The first n bytes of a row turned over. -/
def xrL (n : Nat) (cs : List AV) : List AV := foldF xrS n 0 cs
theorem xrS_len (j : Nat) (d : List AV) : (xrS j d).length = d.length := by unfold xrS; rw [List.length_set]
theorem allU8_get : ∀ {d : List AV} {j : Nat}, allU8 d = true → j < d.length → (d.getD j .junk).isInt .u8 = true
  | [], _, _, h => by simp at h
  | v :: r, 0, h, _ => by rw [allU8, Bool.and_eq_true] at h; exact h.1
  | v :: r, j + 1, h, hj => by
    rw [allU8, Bool.and_eq_true] at h
    exact allU8_get (d := r) h.2 (by simpa using hj)
theorem allU8_set : ∀ {d : List AV} {j : Nat} {n : Int}, allU8 d = true → allU8 (d.set j (.int .u8 n)) = true
  | [], _, _, _ => rfl
  | v :: r, 0, n, h => by rw [allU8, Bool.and_eq_true] at h; rw [List.set_cons_zero, allU8, h.2]; rfl
  | v :: r, j + 1, n, h => by
    rw [allU8, Bool.and_eq_true] at h
    rw [List.set_cons_succ, allU8, h.1, allU8_set h.2]; rfl

theorem run2_flags {m : Nat} {off : Int} {co : List AV} {cf cf' : SF} {bs : List AV} {g g' : SF} : ∀ n s s2, relZ s s2 → relZ (whileF (frG2 m bs) (frS2 m off co cf bs g) n s) (whileF (frG2 m bs) (frS2 m off co cf' bs g') n s2)
  | 0, _, _, h => h
  | n + 1, s, s2, h => by
    obtain ⟨h1, h2, h3⟩ := h
    have e2 : frG2 m bs s2 = frG2 m bs s := by unfold frG2; rw [← h1, ← h2]
    cases hc : frG2 m bs s with
    | false => rw [whileF_off hc, whileF_off (e2.trans hc)]; exact ⟨h1, h2, h3⟩
    | true =>
      rw [whileF_on hc, whileF_on (e2.trans hc)]
      refine run2_flags n _ _ ⟨?_, rfl, ?_⟩
      · show s.1 + roomN m s.2.1.1 = s2.1 + roomN m s2.2.1.1
        rw [h1, h2]
      · unfold frS2
        simp only [List.map_append, h3, List.map_cons, List.map_nil, bare, h1, h2]
theorem sp2_flags {df mf : Bool} {off : Int} {os : List AV} {f f' : SF} {bs : List AV} {g g' : SF} {m : Int} :
    sp2E df mf off os f bs g m = sp2E df mf off os f' bs g' m ∧ (sp2L df mf off os f bs g m).map bare = (sp2L df mf off os f' bs g' m).map bare := by
  have hZ : relZ (frZ2 m off os os f bs g) (frZ2 m off os os f' bs g') := run2_flags _ _ _ ⟨rfl, rfl, rfl⟩
  obtain ⟨r1, r2, r3⟩ := hZ
  have hX : frX (frZ2 m off os os f bs g) off = frX (frZ2 m off os os f' bs g') off := by unfold frX; rw [r1]
  have hE : sp2E df mf off os f bs g m = sp2E df mf off os f' bs g' m := by unfold sp2E; rw [hX]
  refine ⟨hE, ?_⟩
  unfold sp2L
  rw [← hE]
  cases sp2E df mf off os f bs g m == 0 with
  | false => rfl
  | true =>
    rw [cond_true, cond_true]
    cases fit4B off os bs m with
    | true => rfl
    | false =>
      rw [cond_false, cond_false]
      unfold frA2
      rw [List.map_append, List.map_append, r3]
      simp only [List.map_cons, List.map_nil, bare, r1, r2]
/-- The program's fragments and the document's, whatever memory they are cut from. -/
theorem spl_flags {df mf : Bool} {off : Int} {os : List AV} {f f' : SF} {bs : List AV} {g g' : SF} {m : Int} (hos : intsB .u8 os = true) (hol : os.length ≤ 100) (hbs : intsB .u8 bs = true) (hbl : bs.length ≤ 70000) :
    splE df mf off os f bs g m = sp2E df mf off os f' bs g' m ∧ (splL df mf off os f bs g m).map bare = (sp2L df mf off os f' bs g' m).map bare ∧ (∀ r ∈ splL df mf off os f bs g m, goodFr r = true) ∧ (splL df mf off os f bs g m).length ≤ 100000 := by
  obtain ⟨h1, h2, h3, h4⟩ := spl_same (df := df) (mf := mf) (off := off) (f := f) (g := g) (m := m) hos hol hbs hbl
  obtain ⟨g1, g2⟩ := sp2_flags (df := df) (mf := mf) (off := off) (os := os) (f := f) (f' := f') (bs := bs) (g := g) (g' := g') (m := m)
  exact ⟨h1.trans g1, h2.trans g2, h3, h4⟩

def firmFr (r : Bool × Int × (List AV × SF) × (List AV × SF)) : Bool := r.2.2.1.2.firm && r.2.2.2.2.firm
theorem cloF_firm (xs : List AV) (f : SF) : (cloF xs f).firm = true := by
  unfold cloF
  cases isNil xs <;> cases f <;> rfl
theorem firmFr_cut {m : Nat} {off : Int} {co : List AV} {cf : SF} {bs : List AV} {g : SF} (n : Nat) (s : Nat × (List AV × SF) × List Fr) (h : ∀ r ∈ s.2.2, firmFr r = true) : ∀ r ∈ (whileF (frG m off bs) (frS m off co cf bs g) n s).2.2, firmFr r = true :=
  whileF_inv (c := frG m off bs) (f := frS m off co cf bs g) (I := fun s => ∀ r ∈ s.2.2, firmFr r = true) (fun s hI _ r hr => by
    unfold frS at hr
    rcases List.mem_append.1 hr with hr | hr
    · exact hI r hr
    · obtain rfl : r = _ := List.mem_singleton.1 hr
      unfold firmFr
      rw [cloF_firm, cloF_firm]; rfl) n s h
theorem spl_firmFr {df mf : Bool} {off : Int} {os : List AV} {f : SF} {bs : List AV} {g : SF} {m : Int} : ∀ r ∈ splL df mf off os f bs g m, firmFr r = true := by
  intro r hr
  unfold splL at hr
  cases h0 : splE df mf off os f bs g m == 0 with
  | false => rw [h0] at hr; cases hr
  | true =>
    rw [h0, cond_true] at hr
    cases hf : fit4B off os bs m with
    | true =>
      rw [hf, cond_true] at hr
      obtain rfl : r = _ := List.mem_singleton.1 hr
      unfold firmFr
      rw [cloF_firm, cloF_firm]; rfl
    | false =>
      rw [hf, cond_false] at hr
      unfold frA at hr
      rcases List.mem_append.1 hr with hr | hr
      · exact firmFr_cut _ _ (fun r h => by cases h) r hr
      · obtain rfl : r = _ := List.mem_singleton.1 hr
        unfold firmFr
        rw [cloF_firm, cloF_firm]; rfl
theorem ints_firm : ∀ {xs : List AV}, intsB .u8 xs = true → AV.firmL xs = true
  | [], _ => rfl
  | v :: r, h => by
    simp only [intsB, Bool.and_eq_true] at h
    rw [AV.firmL, isInt_eq h.1.1, ints_firm h.2]; rfl
theorem frsE_firm {t i : Int} {df : Bool} {l q s0 s1 s2 s3 d0 d1 d2 d3 : Int} : ∀ {L : List Fr}, (∀ r ∈ L, goodFr r = true ∧ firmFr r = true) → AV.firmL (frsE (hdr t i df l q s0 s1 s2 s3 d0 d1 d2 d3) L) = true
  | [], _ => rfl
  | r :: L, h => by
    have ih := frsE_firm (t := t) (i := i) (df := df) (l := l) (q := q) (s0 := s0) (s1 := s1) (s2 := s2) (s3 := s3) (d0 := d0) (d1 := d1) (d2 := d2) (d3 := d3) (L := L) (fun r hr => h r (List.mem_cons_of_mem _ hr))
    obtain ⟨h1, h2⟩ := h r (List.mem_cons_self ..)
    obtain ⟨g1, g2, _, _⟩ := goodFr_iff.1 h1
    unfold firmFr at h2
    rw [Bool.and_eq_true] at h2
    show (AV.firm (.agg (frC (hdr t i df l q s0 s1 s2 s3 d0 d1 d2 d3) r)) && AV.firmL (frsE (hdr t i df l q s0 s1 s2 s3 d0 d1 d2 d3) L)) = true
    rw [ih, Bool.and_true]
    obtain ⟨mf, off, ⟨os, f⟩, ⟨bs, g⟩⟩ := r
    show (true && (true && (true && (true && (true && (true && (true && (true && (true && (true && (true && (true && (true && (true && (true && ((f.firm && AV.firmL os) && ((g.firm && AV.firmL bs) && true))))))))))))))))) = true
    rw [ints_firm g1, ints_firm g2, h2.1, h2.2]; rfl
theorem splF_firm {df mf : Bool} {off : Int} {os : List AV} {f : SF} {bs : List AV} {g : SF} {m : Int} : (splF df mf off os f bs g m).firm = true := by
  unfold splF
  cases splE df mf off os f bs g m == 0 <;> rfl

end Go.Pl
