/- The types of a program, looked through once. -/
import Derived.Test.YteaceebonkpipaaA17
namespace Go.Abs

theorem AV.one_toSz {v : AV} {n : Nat} (h : (v.toSz n).one = true) : v.one = true := by
  unfold AV.toSz at h
  split at h
  · rfl
  · exact h
theorem one_szK {k : CK} {v : AV} (h : (szK k v).one = true) : v.one = true := by
  unfold szK at h
  split at h
  · exact AV.one_toSz h
  · exact h

theorem zeroOf_ok {P : Program} {t : TypeId} {z : Value} {n : Nat} {d : TypeDesc} {sz by' : Nat} {e1 e2 : Bool} {ks : List CK} (h : (zeroOf P t z n).all AV.one = true) :
    ZeroOK { desc := d, size := sz, bytes := by', zero := zeroOf P t z n, eqOk := e1, cmp := e2, kinds := ks } z := by
  obtain ⟨g1, g2⟩ := szL_get (kindsOf P t n) (z.cells.toList.map ofVal1)
  refine ⟨by show (szL _ _).length = _; rw [g1]; simp, fun j x hx => ?_⟩
  have hone := List.all_eq_true.1 h x (List.mem_of_getElem? hx)
  obtain ⟨y, k, q1, q2⟩ := g2 j x hx
  simp only [List.getElem?_map, Option.map_eq_some_iff] at q1
  obtain ⟨c, hc, rfl⟩ := q1
  have hc' : z.cells[j]? = some c := by simpa using hc
  rcases q2 with rfl | rfl
  · exact ⟨c, hc', fun M ι => vr_ofVal1 c, vone_of_ofVal1 hone⟩
  · exact ⟨c, hc', fun M ι => (vr_ofVal1 c).szK k, vone_of_ofVal1 (one_szK hone)⟩

theorem envOf_ok (P : Program) : EnvOK P (envOf P) := by
  intro t i h
  have ht : tiOf P t = some i := by
    unfold Env.ti envOf at h
    simp only [List.getElem?_map] at h
    cases hr : (List.range P.types.size)[t]? with
    | none => rw [hr] at h; cases h
    | some u =>
      have hu : u = t := by
        have hlt := (List.getElem?_eq_some_iff.1 hr).1
        rw [List.getElem?_range (by simpa using hlt)] at hr
        exact (Option.some.inj hr).symm
      subst hu
      rw [hr] at h
      simp only [Option.map_some] at h
      cases hti : tiOf P u with
      | none => rw [hti] at h; cases h
      | some j => rw [hti] at h; exact h
  unfold tiOf at ht
  split at ht
  · rename_i d info hd hinfo
    split at ht
    · rename_i z hz
      split at ht
      · rename_i hc
        cases ht
        simp only [Bool.and_eq_true, beq_iff_eq] at hc
        obtain ⟨⟨h1, h2⟩, h3⟩ := hc
        refine ⟨hd, ⟨info, hinfo, rfl, rfl, ⟨z, hz, zeroOf_ok h2, h1, fun ha => ?_, fun ha => ?_⟩, fun h => h⟩, ?_, ?_, fun ha => ?_⟩
        · simp only at ha
          rw [ha] at h3
          cases z <;> first | exact ⟨_, rfl⟩ | cases h3
        · simp only at ha
          rw [ha] at h3
          simp only [Bool.and_eq_true] at h3
          exact h3.1
        · intro x hx
          exact List.all_eq_true.1 h2 x hx
        · intro h
          simp only [Bool.and_eq_true, Bool.not_eq_true'] at h
          exact h
        · simp only at ha
          rw [ha] at h3
          simp only [Bool.and_eq_true, beq_iff_eq] at h3
          exact h3.2
      · cases ht
    · cases ht
  · cases ht

def fieldsB (E : Env) : Bool := E.types.all fun o => match o with
  | some i => match i.desc with
    | .struct fs => fs.toList.all fun f => (E.ti f.type).isSome
    | _ => true
  | none => true

theorem fieldsB_ok {E : Env} (h : fieldsB E = true) : FieldsOK E := by
  intro t i fs hi hd f hf
  unfold Env.ti at hi
  split at hi
  · rename_i x hx
    subst hi
    have := List.all_eq_true.1 h (some i) (List.mem_of_getElem? hx)
    simp only [hd] at this
    have := List.all_eq_true.1 this f hf
    exact Option.isSome_iff_exists.1 this
  · cases hi

end Go.Abs
