/- Fragments of fragments, in plain words. -/
import Derived.Test.YtohfnoepdbkkeaaPFragAll
import Derived.Test.YtohfnoepdbkkeaaPPortNext
namespace Go.Pl
open Go.Abs

theorem all_last {m : Nat} {off : Int} {mf : Bool} {bs : List AV} {L : List Fr} (h : AllP m off mf bs L) {j : Nat} {r : Fr} (hr : L[j]? = some r) (hj : j + 1 = L.length) : r.1 = mf := by
  obtain ⟨h1, l, q, rfl, h3, _⟩ := h
  have hlen : (l ++ [q]).length = l.length + 1 := by rw [List.length_append]; rfl
  have hjl : j = l.length := by omega
  subst hjl
  rw [List.getElem?_append_right (Nat.le_refl _)] at hr
  obtain rfl : q = r := by simpa using hr
  exact h3
/-- The bytes of a row of fragments. -/
def bodY (ys : List AV) : List AV := ys.flatMap fun e => (e.cell 16).toFs
theorem bodY_rows {t i : Int} {df : Bool} {l q s0 s1 s2 s3 d0 d1 d2 d3 : Int} : ∀ M : List Fr, bodY (frsE (hdr t i df l q s0 s1 s2 s3 d0 d1 d2 d3) M) = bodB M
  | [] => rfl
  | r :: M => by
    show r.2.2.2.1 ++ bodY (frsE _ M) = r.2.2.2.1 ++ bodB M
    rw [bodY_rows M]
/-- A row of fragments of the j-th of N fragments, where z bytes stand ahead. -/
def InnP (off : Int) (mf : Bool) (z : Nat) (N j : Int) (ys : List AV) : Prop := ∃ t i df l q s0 s1 s2 s3 d0 d1 d2 d3, ∃ (M : List Fr) (less : Nat) (ro : Int) (b : List AV), ys = frsE (hdr t i df l q s0 s1 s2 s3 d0 d1 d2 d3) M ∧ M.length ≤ 100000 ∧ AllP less ro (mf || decide (j < N - 1)) b M ∧ 8 * (ro - off) = (z : Int) ∧ z ≤ 100000 ∧ b.length ≤ 70000 ∧ 0 ≤ off ∧ off ≤ 8191 ∧ 0 ≤ N ∧ N ≤ 100000 -- Nx
noncomputable def innG (off : Int) (mf : Bool) (z : Nat) (N j : Int) (ys : List AV) : Bool := @decide (InnP off mf z N j ys) (Classical.propDecidable _)
theorem innG_iff {off : Int} {mf : Bool} {z : Nat} {N j : Int} {ys : List AV} : innG off mf z N j ys = true ↔ InnP off mf z N j ys := by unfold innG; exact @decide_eq_true_iff _ (Classical.propDecidable _)

theorem runX_one {f : Nat → Unit → Nx Unit} {e : Unit → AExit × ATs × AH} {b : Nat → Bool} {v : Nat → AExit × ATs × AH} (hf : ∀ j, f j () = bif b j then .stop (v j).1 (v j).2.1 (v j).2.2 else .go ()) :
    ∀ n j, runX f e n j () = bif decide (firstN b n j < j + n) then v (firstN b n j) else e ()
  | 0, j => by
    rw [decide_eq_false (show ¬ firstN b 0 j < j + 0 by show ¬ j < j + 0; omega)]
    rfl
  | n + 1, j => by
    cases hb : b j
    · have e1 : firstN b (n + 1) j = firstN b n (j + 1) := by simp only [firstN]; rw [hb]; rfl
      have e2 : runX f e (n + 1) j () = runX f e n (j + 1) () := by simp only [runX]; rw [hf, hb]; rfl
      rw [e1, e2, runX_one hf n (j + 1), show j + 1 + n = j + (n + 1) by omega]
    · have e1 : firstN b (n + 1) j = j := by simp only [firstN]; rw [hb]; rfl
      have e2 : runX f e (n + 1) j () = v j := by simp only [runX]; rw [hf, hb]; rfl
      rw [e1, e2, decide_eq_true (by omega)]; rfl
def okFr (r : Bool × Int × (List AV × SF) × (List AV × SF)) : Bool := okF r.2.2.1.1 r.2.2.1.2 && okF r.2.2.2.1 r.2.2.2.2
/-- Why the j-th of a row is not cut again. -/
def agE (xs : List AV) (ls : Int) (j : Nat) : Bool := splE ((xs.getD j .junk).cell 2).toBool ((xs.getD j .junk).cell 3).toBool ((xs.getD j .junk).cell 4).toInt ((xs.getD j .junk).cell 15).toFs ((xs.getD j .junk).cell 15).toFl ((xs.getD j .junk).cell 16).toFs ((xs.getD j .junk).cell 16).toFl ls != 0
def agF (xs : List AV) (ls : Int) : Nat := firstN (agE xs ls) xs.length 0
def agB (xs : List AV) (ls : Int) : Bool := decide (agF xs ls < xs.length)
def AgnP (off : Int) (mf : Bool) (bs xs : List AV) : Prop := ∃ t i df l q s0 s1 s2 s3 d0 d1 d2 d3, ∃ (L : List Fr) (m : Nat), xs = frsE (hdr t i df l q s0 s1 s2 s3 d0 d1 d2 d3) L ∧ L.length ≤ 100000 ∧ AllP m off mf bs L ∧ (∀ r ∈ L, okFr r = true) ∧ bs.length ≤ 70000 -- Nx
noncomputable def agnG (off : Int) (mf : Bool) (bs xs : List AV) : Bool := @decide (AgnP off mf bs xs) (Classical.propDecidable _)
theorem agnG_iff {off : Int} {mf : Bool} {bs xs : List AV} : agnG off mf bs xs = true ↔ AgnP off mf bs xs := by unfold agnG; exact @decide_eq_true_iff _ (Classical.propDecidable _)
theorem splE_ls {df mf : Bool} {off : Int} {os : List AV} {f : SF} {bs : List AV} {g : SF} {m : Int} (h : splE df mf off os f bs g m = 0) : 68 ≤ m ∧ m ≤ 65535 := by
  have hA : ask4E off os bs m = 0 := by
    cases hq : ask4E off os bs m == 0 with
    | true => exact beq_iff_eq.1 hq
    | false => unfold splE at h; rw [hq] at h; exact h
  obtain ⟨_, _, _, _, _, a6, a7⟩ := ask4_ok hA
  exact ⟨a6, a7⟩
theorem okFr_cut {m : Nat} {off : Int} {co : List AV} {cf : SF} {bs : List AV} {g : SF} (n : Nat) (s : Nat × (List AV × SF) × List Fr) (h : ∀ r ∈ s.2.2, okFr r = true) : ∀ r ∈ (whileF (frG m off bs) (frS m off co cf bs g) n s).2.2, okFr r = true :=
  whileF_inv (c := frG m off bs) (f := frS m off co cf bs g) (I := fun s => ∀ r ∈ s.2.2, okFr r = true) (fun s hI _ r hr => by
    unfold frS at hr
    rcases List.mem_append.1 hr with hr | hr
    · exact hI r hr
    · obtain rfl : r = _ := List.mem_singleton.1 hr
      unfold okFr
      rw [okF_clo, okF_clo]; rfl) n s h
theorem spl_okFr {df mf : Bool} {off : Int} {os : List AV} {f : SF} {bs : List AV} {g : SF} {m : Int} : ∀ r ∈ splL df mf off os f bs g m, okFr r = true := by
  intro r hr
  unfold splL at hr
  cases h0 : splE df mf off os f bs g m == 0 with
  | false => rw [h0] at hr; cases hr
  | true =>
    rw [h0, cond_true] at hr
    cases hf : fit4B off os bs m with
    | true =>
      rw [hf, cond_true] at hr
      obtain rfl : r = _ := List.mem_singleton.1 hr
      unfold okFr
      rw [okF_clo, okF_clo]; rfl
    | false =>
      rw [hf, cond_false] at hr
      unfold frA at hr
      rcases List.mem_append.1 hr with hr | hr
      · exact okFr_cut _ _ (fun r h => by cases h) r hr
      · obtain rfl : r = _ := List.mem_singleton.1 hr
        unfold okFr
        rw [okF_clo, okF_clo]; rfl

end Go.Pl
