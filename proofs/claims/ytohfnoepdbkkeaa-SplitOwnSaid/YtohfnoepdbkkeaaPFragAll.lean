/- Fragments have all of the body, in plain words. -/
import Derived.Test.YtohfnoepdbkkeaaPV4Arg
namespace Go.Pl
open Go.Abs

def bodB (l : List (Bool × Int × (List AV × SF) × (List AV × SF))) : List AV := l.flatMap fun r => r.2.2.2.1
theorem bodB_snoc (l : List Fr) (r : Fr) : bodB (l ++ [r]) = bodB l ++ r.2.2.2.1 := by simp [bodB]
/-- What a fragment behind others is, but for the last. -/
def fr1 (m : Nat) (off : Int) (A : List Fr) (r : Fr) : Prop := r.1 = true ∧ r.2.1 = off + (((bodB A).length / 8 : Nat) : Int) ∧ (bodB A).length % 8 = 0 ∧ r.2.1 ≤ 8191 ∧ r.2.2.1.1.length ≤ 40 ∧ r.2.2.1.1.length % 4 = 0 ∧ 20 + r.2.2.1.1.length + r.2.2.2.1.length ≤ m ∧ m < 20 + r.2.2.1.1.length + r.2.2.2.1.length + 8 ∧ r.2.2.2.1.length % 8 = 0 ∧ goodFr r = true -- Nx
def okZ (m : Nat) (off : Int) (bs : List AV) (s : Nat × (List AV × SF) × List Fr) : Prop := bodB s.2.2 = bs.take s.1 ∧ s.1 ≤ bs.length ∧ s.1 % 8 = 0 ∧ intsB .u8 s.2.1.1 = true ∧ s.2.1.1.length ≤ 40 ∧ s.2.1.1.length % 4 = 0 ∧ ∀ A r B, s.2.2 = A ++ r :: B → fr1 m off A r -- Nx
theorem snoc_split {l A B : List Fr} {x r : Fr} (h : l ++ [x] = A ++ r :: B) : (B = [] ∧ A = l ∧ r = x) ∨ ∃ B', l = A ++ r :: B' := by
  rcases List.eq_nil_or_concat B with rfl | ⟨B', y, rfl⟩
  · have := List.append_inj' h rfl
    exact .inl ⟨rfl, this.1.symm, by simpa using this.2.symm⟩
  · rw [List.concat_eq_append] at h
    have h2 : l ++ [x] = (A ++ r :: B') ++ [y] := by rw [h]; simp
    exact .inr ⟨B', (List.append_inj' h2 rfl).1⟩
theorem frZ_chain {m : Nat} {off : Int} {os ps : List AV} {pf : SF} {bs : List AV} {g : SF} (hm0 : 68 ≤ m) (hm1 : m ≤ 65535) (hos : intsB .u8 os = true) (hol : os.length ≤ 40) (ho4 : os.length % 4 = 0) (hps : intsB .u8 ps = true) (hpl : ps.length ≤ 40) (hp4 : ps.length % 4 = 0) (hbs : intsB .u8 bs = true) (hbl : bs.length ≤ 70000) :
    okZ m off bs (frZ (m : Int) off os ps pf bs g) := by
  have hcl := copiedL_len hos ho4
  have hc4 : (copiedL os).length % 4 = 0 := by unfold copiedL; rw [padL_len]; omega
  refine whileF_inv (c := frG m off bs) (f := frS m off (copiedL os) (copFl os) bs g) (I := okZ m off bs) (fun s hI hc => ?_) bs.length (0, (ps, pf), []) ⟨by simp [bodB], Nat.zero_le _, rfl, hps, hpl, hp4, fun A r B h => by simp at h⟩
  obtain ⟨i1, i2, i3, i4, i5, i6, i7⟩ := hI
  unfold frG at hc
  rw [Bool.and_eq_true] at hc
  have h1 : mostN m s.2.1.1 < bs.length - s.1 := of_decide_eq_true hc.1
  have ho : off + ((s.1 / 8 : Nat) : Int) ≤ 8191 := of_decide_eq_true hc.2
  obtain ⟨h2, _, h3⟩ := most_ok hm0 hm1 i5
  have hM : mostN m s.2.1.1 = m - 20 - s.2.1.1.length := rfl
  have e1 : (frS m off (copiedL os) (copFl os) bs g s).1 = s.1 + roomN m s.2.1.1 := rfl
  have hl : ((bs.drop s.1).take (roomN m s.2.1.1)).length = roomN m s.2.1.1 := by rw [List.length_take, List.length_drop]; omega
  have hcat : (bodB s.2.2).length = s.1 := by rw [i1, List.length_take]; omega
  refine ⟨?_, by omega, by omega, (copiedL_ok hos).1, by show (copiedL os).length ≤ 40; omega, hc4, fun A r B h => ?_⟩
  · show bodB (s.2.2 ++ [_]) = bs.take (s.1 + roomN m s.2.1.1)
    rw [bodB_snoc, i1, List.take_add]
  · rcases snoc_split h with ⟨_, rfl, rfl⟩ | ⟨B', hB⟩
    · refine ⟨rfl, by show off + ((s.1 / 8 : Nat) : Int) = _; rw [hcat], by omega, ho, i5, i6, ?_, ?_, ?_, ?_⟩
      · show 20 + s.2.1.1.length + ((bs.drop s.1).take (roomN m s.2.1.1)).length ≤ m; omega
      · show m < 20 + s.2.1.1.length + ((bs.drop s.1).take (roomN m s.2.1.1)).length + 8; omega
      · show ((bs.drop s.1).take (roomN m s.2.1.1)).length % 8 = 0; omega
      · exact goodFr_iff.2 ⟨i4, intsB_take (intsB_drop _ hbs) _, by show s.2.1.1.length ≤ 100; omega, by show ((bs.drop s.1).take (roomN m s.2.1.1)).length ≤ 70000; omega⟩
    · exact i7 A r B' hB
/-- Where the cutting ends there is but one left. -/
theorem frZ_end {m : Nat} {off : Int} {os ps : List AV} {pf : SF} {bs : List AV} {g : SF} (hm0 : 68 ≤ m) (hm1 : m ≤ 65535) (hos : intsB .u8 os = true) (hol : os.length ≤ 40) (ho4 : os.length % 4 = 0) (hpl : ps.length ≤ 40) :
    frG m off bs (frZ (m : Int) off os ps pf bs g) = false := by
  have hcl := copiedL_len hos ho4
  have main : ∀ n s, bs.length - s.1 ≤ n → s.2.1.1.length ≤ 40 → frG m off bs (whileF (frG m off bs) (frS m off (copiedL os) (copFl os) bs g) n s) = false := by
    intro n
    induction n with
    | zero =>
      intro s h1 h2
      show frG m off bs s = false
      unfold frG
      rw [decide_eq_false (show ¬ mostN m s.2.1.1 < bs.length - s.1 by omega)]; rfl
    | succ n ih =>
      intro s h1 h2
      cases hc : frG m off bs s with
      | false => rw [whileF_off hc]; exact hc
      | true =>
        rw [whileF_on hc]
        obtain ⟨g1, _, g3⟩ := most_ok hm0 hm1 h2
        unfold frG at hc
        rw [Bool.and_eq_true] at hc
        have h3 : mostN m s.2.1.1 < bs.length - s.1 := of_decide_eq_true hc.1
        exact ih _ (by show bs.length - (s.1 + roomN m s.2.1.1) ≤ n; omega) (by show (copiedL os).length ≤ 40; omega)
  exact main _ _ (by show bs.length - 0 ≤ _; omega) hpl
/-- All that a row of fragments must be. -/
def AllP (m : Nat) (off : Int) (mf : Bool) (bs : List AV) (L : List Fr) : Prop := bodB L = bs ∧ ∃ l r, L = l ++ [r] ∧ r.1 = mf ∧ (∀ A q B, l = A ++ q :: B → fr1 m off A q) ∧ r.2.1 = off + (((bodB l).length / 8 : Nat) : Int) ∧ (bodB l).length % 8 = 0 ∧ 0 ≤ off ∧ r.2.1 ≤ 8191 ∧ r.2.2.1.1.length ≤ 40 ∧ r.2.2.1.1.length % 4 = 0 ∧ 20 + r.2.2.1.1.length + r.2.2.2.1.length ≤ m ∧ goodFr r = true -- Nx
theorem spl_all {df mf : Bool} {off : Int} {os : List AV} {f : SF} {bs : List AV} {g : SF} {m : Nat} (hos : intsB .u8 os = true) (hbs : intsB .u8 bs = true) (hbl : bs.length ≤ 70000) (hE : splE df mf off os f bs g (m : Int) = 0) :
    AllP m off mf bs (splL df mf off os f bs g (m : Int)) := by
  have hA : ask4E off os bs (m : Int) = 0 := by
    cases hb : ask4E off os bs (m : Int) == 0 with
    | true => exact beq_iff_eq.1 hb
    | false => unfold splE at hE; rw [hb] at hE; exact hE
  obtain ⟨a1, a2, a3, a4, a5, a6, a7⟩ := ask4_ok hA
  unfold splL
  rw [hE, beq_self_eq_true, cond_true]
  cases hf : fit4B off os bs (m : Int) with
  | true =>
    have hfit : 20 + os.length + bs.length ≤ m := by
      unfold fit4B at hf
      rw [Bool.and_eq_true] at hf
      have := of_decide_eq_true hf.2
      omega
    refine ⟨by simp [bodB], [], _, rfl, rfl, fun A q B h => by simp at h, by show off = off + ((([] : List AV).length / 8 : Nat) : Int); simp, rfl, a1, a2, a3, a4, hfit, goodFr_iff.2 ⟨hos, hbs, by show os.length ≤ 100; omega, hbl⟩⟩
  | false =>
    have hX : frX (frZ (m : Int) off os os (cloF os f) bs g) off = false := by
      unfold splE at hE
      rw [hA, hf] at hE
      cases df with
      | true => cases hE
      | false =>
        cases hq : mf && !(bs.length % 8 == 0) with
        | true => rw [hq] at hE; cases hE
        | false =>
          rw [hq] at hE
          cases hx : frX (frZ (m : Int) off os os (cloF os f) bs g) off with
          | false => rfl
          | true => rw [hx] at hE; cases hE
    obtain ⟨i1, i2, i3, i4, i5, i6, i7⟩ := frZ_chain (m := m) (off := off) (pf := cloF os f) (g := g) (by omega) (by omega) hos a3 a4 hos a3 a4 hbs hbl
    have hend := frZ_end (m := m) (off := off) (os := os) (ps := os) (pf := cloF os f) (bs := bs) (g := g) (by omega) (by omega) hos a3 a4 a3
    rw [cond_false]
    generalize frZ (m : Int) off os os (cloF os f) bs g = z at *
    have hx : off + ((z.1 / 8 : Nat) : Int) ≤ 8191 := by have := of_decide_eq_false hX; omega
    have hlast : ¬ mostN m z.2.1.1 < bs.length - z.1 := by
      unfold frG at hend
      rw [decide_eq_true hx, Bool.and_true] at hend
      exact of_decide_eq_false hend
    have hM : mostN m z.2.1.1 = m - 20 - z.2.1.1.length := rfl
    have hcat : (bodB z.2.2).length = z.1 := by rw [i1, List.length_take]; omega
    refine ⟨?_, z.2.2, _, rfl, rfl, i7, by show off + ((z.1 / 8 : Nat) : Int) = _; rw [hcat], by omega, a1, hx, i5, i6, ?_, goodFr_iff.2 ⟨i4, intsB_drop _ hbs, by show z.2.1.1.length ≤ 100; omega, by show (bs.drop z.1).length ≤ 70000; rw [List.length_drop]; omega⟩⟩
    · unfold frA
      rw [bodB_snoc, i1]
      exact List.take_append_drop _ _
    · show 20 + z.2.1.1.length + (bs.drop z.1).length ≤ m
      rw [List.length_drop]; omega

noncomputable def allG (m off : Int) (mf : Bool) (bs xs : List AV) : Bool := @decide (∃ t i df l q s0 s1 s2 s3 d0 d1 d2 d3, ∃ L : List Fr, xs = frsE (hdr t i df l q s0 s1 s2 s3 d0 d1 d2 d3) L ∧ L.length ≤ 100000 ∧ AllP m.toNat off mf bs L) (Classical.propDecidable _)
theorem allG_iff {m off : Int} {mf : Bool} {bs xs : List AV} : allG m off mf bs xs = true ↔ ∃ t i df l q s0 s1 s2 s3 d0 d1 d2 d3, ∃ L : List Fr, xs = frsE (hdr t i df l q s0 s1 s2 s3 d0 d1 d2 d3) L ∧ L.length ≤ 100000 ∧ AllP m.toNat off mf bs L := by unfold allG; exact @decide_eq_true_iff _ (Classical.propDecidable _)
def slB1 (l : List AV) : AV := match l with
  | [] => .fs 0 [] .nil
  | _ :: _ => .sl 1 l.length 0 l.length 1
theorem slB1_ne {l : List AV} (h : isNil l = false) : slB1 l = .sl 1 l.length 0 l.length 1 := by
  cases l with
  | nil => cases h
  | cons => rfl
/-- What each fragment of a row is. -/
theorem all_at {m : Nat} {off : Int} {mf : Bool} {bs : List AV} {L : List Fr} (h : AllP m off mf bs L) {j : Nat} {r : Fr} (hr : L[j]? = some r) : r.2.1 = off + (((bodB (L.take j)).length / 8 : Nat) : Int) ∧ (bodB (L.take j)).length % 8 = 0 ∧ 0 ≤ off ∧ r.2.1 ≤ 8191 ∧ r.2.2.1.1.length ≤ 40 ∧ r.2.2.1.1.length % 4 = 0 ∧ 20 + r.2.2.1.1.length + r.2.2.2.1.length ≤ m ∧ goodFr r = true ∧ (j + 1 < L.length → r.1 = true ∧ m < 20 + r.2.2.1.1.length + r.2.2.2.1.length + 8 ∧ r.2.2.2.1.length % 8 = 0) ∧ bodB (L.take (j + 1)) = bodB (L.take j) ++ r.2.2.2.1 := by
  obtain ⟨h1, l, q, rfl, h3, h4, h5, h6, h7, h8, h9, h10, h11, h12⟩ := h
  have hj := (List.getElem?_eq_some_iff.1 hr).1
  have hsp : (l ++ [q]).take (j + 1) = (l ++ [q]).take j ++ [r] := by rw [List.take_add_one, hr]; rfl
  have hb : bodB ((l ++ [q]).take (j + 1)) = bodB ((l ++ [q]).take j) ++ r.2.2.2.1 := by rw [hsp, bodB_snoc]
  have hlen : (l ++ [q]).length = l.length + 1 := by rw [List.length_append]; rfl
  rcases Nat.lt_or_ge j l.length with hlt | hge
  · have hrl : l[j]? = some r := by rw [List.getElem?_append_left hlt] at hr; exact hr
    have hsplit : l = l.take j ++ r :: l.drop (j + 1) := by
      have e := (List.getElem?_eq_some_iff.1 hrl).2
      rw [← e, List.getElem_cons_drop, List.take_append_drop]
    obtain ⟨g1, g2, g3, g4, g5, g6, g7, g8, g9, g10⟩ := h4 _ _ _ hsplit
    have ht : (l ++ [q]).take j = l.take j := List.take_append_of_le_length (by omega)
    rw [ht]
    refine ⟨g2, g3, h7, g4, g5, g6, g7, g10, fun _ => ⟨g1, g8, g9⟩, ?_⟩
    rw [hb, ht]
  · have hjl : j = l.length := by omega
    subst hjl
    have hrq : r = q := by rw [List.getElem?_append_right (Nat.le_refl _)] at hr; simpa using hr.symm
    subst hrq
    have ht : (l ++ [r]).take l.length = l := List.take_left' rfl
    rw [ht]
    refine ⟨h5, h6, h7, h8, h9, h10, h11, h12, fun h => by omega, ?_⟩
    rw [hb, ht]
theorem chk_ok {off : Int} {os bs : List AV} (h1 : 0 ≤ off) (h2 : off ≤ 8191) (h3 : os.length ≤ 40) (h4 : os.length % 4 = 0) (h5 : bs.length + os.length ≤ 65515) : chk4E off os bs = 0 := by
  unfold chk4E
  rw [decide_eq_true h1, decide_eq_true h2, decide_eq_true h3, decide_eq_true h4, decide_eq_true h5]; rfl

end Go.Pl
