/- The evaluator's operations against the model's, ninth part: slices' literals, copy, least and greatest; one operation that makes no call. -/
import Derived.Test.YteaceebonkpipaaA10
import Derived.RangeFuncRecord
namespace Go.Abs
open Go.RowKit

section
variable {P : Program} {E : Env} {M : Mem} {ι : Io} {H : AH} {w : World} {r : Fin'}

theorem aBuildSlice_ok {t e : TypeId} {ei : TI} {len : Nat} {parts : List (Nat × AV)} {parts' : Array (Nat × Value)} {cs : List AV} {kv : AV → AH → Res} (hI : Inv M ι H w) (hu : P.underlying t = some (.slice e)) (hTe : TIOK P e ei)
    (hle : len * ei.size ≤ 2 ^ 24) (hne : len * ei.size ≠ 0)
    (hl : parts.length = parts'.size) (hp : ∀ (i : Nat) (p : Nat × AV) (q : Nat × Value), parts[i]? = some p → parts'[i]? = some q → p.1 = q.1 ∧ VR M ι p.2 q.2)
    (hfill : aFill (fun j => some (j * ei.size, ei.size)) (List.replicate len ei.zero).flatten parts = some cs)
    (h : kv (.sl H.length (len * ei.size) 0 len ei.size) (H ++ [.cells (len * ei.size) cs]) = some r) : RunOK P M ι H w (Instr.buildSlice t len parts') kv r := by
  obtain ⟨z, hz, z1, z2, _⟩ := hTe.run_zero (w := w)
  have hzl : ei.zero.length = ei.size := by rw [z1.1, z2]
  have hzero : CellsR M ι (List.replicate len ei.zero).flatten ((Array.range (len * ei.size)).map (fun j => z.cells[j % z.cells.size]!)) := by
    refine ⟨by simp [hzl], fun j x y hx hy => ?_⟩
    obtain ⟨v, q1, q2, q3⟩ := zeros_rel (M := M) (ι := ι) z1 z2 len _ rfl j x hx
    rw [hy] at q1; cases q1; exact ⟨q2, q3⟩
  obtain ⟨arr', q1, q2⟩ := aFill_ok parts parts'.toList _ _ cs (by simpa using hl) (fun j p q h1 h2 => hp j p q h1 (by simpa using h2)) hzero hfill
  have hfl : ∀ (place : Nat → Option (Nat × Nat)) (ps : List (Nat × AV)) (zs cs : List AV), aFill place zs ps = some cs → cs.length = zs.length := by
    intro place ps
    induction ps with
    | nil => intro zs cs h; cases h; rfl
    | cons p ps ih =>
      intro zs cs h
      obtain ⟨k, v⟩ := p
      rw [aFill] at h
      split at h
      · cases h
      · split at h
        · rename_i hcond
          simp only [Bool.and_eq_true, beq_iff_eq, decide_eq_true_eq] at hcond
          rw [ih _ _ h, writeCells_length _ _ _ (by omega)]
        · cases h
  have hcl : cs.length = len * ei.size := by rw [hfl _ _ _ _ hfill]; simp [hzl]
  have hst := hI.new arr' e (len * ei.size) cs (by rw [q2.1]; exact Nat.le_refl _) (fun _ => hcl) (fun i x hx => by
    have hi : i < arr'.size := by rw [← q2.1]; exact (List.getElem?_eq_some_iff.1 hx).1
    exact ⟨arr'[i], Array.getElem?_eq_getElem hi, q2.2 i x _ hx (Array.getElem?_eq_getElem hi)⟩)
  refine ⟨_, _, _, _, _, _, h, hst, .sl 0 len (Io.ext_self _ _ _ _ _) (Nat.le_refl _) (.inr rfl) (fun _ _ => ⟨Nat.le_refl _, Nat.le_refl _, by rw [← q2.1, hcl]; exact Nat.le_refl _⟩), ?_⟩
  have hle' : ¬ (len * ei.size > 2 ^ 24) := by omega
  simp only [Instr.buildSlice, Sem.run_bind, run_underlying hu, Result.andThen_ok, hTe.run_size, Sem.run_ite, if_neg hle', if_neg hne, hz, Sem.run_pure, q1, newRow, run_newObj]
  rfl

theorem flatL_get : ∀ (l : List AV), flatL l = true → ∀ x ∈ l, x.closed = true ∧ x.one = true
  | [], _, x, hx => by cases hx
  | v :: l, h, x, hx => by
    simp only [flatL, flatB, Bool.and_eq_true] at h
    rcases List.mem_cons.1 hx with rfl | hx
    · exact h.1
    · exact flatL_get l h.2 x hx

theorem one_cells {x : AV} (h : x.one = true) : x.cells = [x] := by cases x <;> first | rfl | (simp [AV.one] at h)

theorem chunk_length {sz o len : Nat} {cs : List AV} (hle : o + len * sz ≤ cs.length) : (chunkF sz o len cs).length = len := by
  unfold chunkF
  split
  · rename_i hs; simp at hs; subst hs; simp; omega
  · simp

theorem chunk_el {sz o len : Nat} {cs : List AV} (hle : o + len * sz ≤ cs.length) (flat : ∀ (i : Nat) (y : AV), i < len * sz → cs[o + i]? = some y → y.one = true) (i : Nat) (x : AV) (hx : (chunkF sz o len cs)[i]? = some x) :
    x.cells.length = sz ∧ ∀ (j : Nat) (y : AV), x.cells[j]? = some y → j < sz ∧ cs[o + i * sz + j]? = some y ∧ i * sz + j < len * sz := by
  have hil : i < len := by rw [← chunk_length hle]; exact (List.getElem?_eq_some_iff.1 hx).1
  have hb : i * sz + sz ≤ len * sz := by
    have := Nat.mul_le_mul_right sz (show i + 1 ≤ len by omega)
    rwa [Nat.succ_mul] at this
  unfold chunkF at hx
  split at hx
  · rename_i hs
    obtain rfl : sz = 1 := by simpa using hs
    rw [List.getElem?_take_of_lt hil, List.getElem?_drop] at hx
    have hone := flat i x (by omega) hx
    rw [one_cells hone]
    refine ⟨rfl, fun j y hy => ?_⟩
    cases j with
    | zero => simp at hy; subst hy; exact ⟨by omega, by simpa using hx, by omega⟩
    | succ j => simp at hy
  · simp only [List.getElem?_map, List.getElem?_range hil, Option.map_some, Option.some.injEq] at hx
    subst hx
    refine ⟨by simp [AV.cells]; omega, fun j y hy => ?_⟩
    have hj : j < sz := by
      have := (List.getElem?_eq_some_iff.1 hy).1
      simp [AV.cells] at this; omega
    simp only [AV.cells] at hy
    rw [List.getElem?_take_of_lt hj, List.getElem?_drop] at hy
    exact ⟨hj, hy, by omega⟩

theorem aBuildSliceV_ok {t e : TypeId} {ei : TI} {len : Nat} {parts : List (Nat × AV)} {parts' : Array (Nat × Value)} {cs : List AV} {kv : AV → AH → Res} (hI : Inv M ι H w) (hu : P.underlying t = some (.slice e)) (hTe : TIOK P e ei)
    (hle : len * ei.size ≤ 2 ^ 24) (hne : len * ei.size ≠ 0)
    (hl : parts.length = parts'.size) (hp : ∀ (i : Nat) (p : Nat × AV) (q : Nat × Value), parts[i]? = some p → parts'[i]? = some q → p.1 = q.1 ∧ VR M ι p.2 q.2)
    (hfill : aFill (fun j => some (j * ei.size, ei.size)) (List.replicate len ei.zero).flatten parts = some cs) (hflat : flatL cs = true)
    (h : kv (.fs ei.size (chunkF ei.size 0 len cs) .any) H = some r) : RunOK P M ι H w (Instr.buildSlice t len parts') kv r := by
  obtain ⟨z, hz, z1, z2, _⟩ := hTe.run_zero (w := w)
  have hzl : ei.zero.length = ei.size := by rw [z1.1, z2]
  have hzero : CellsR M ι (List.replicate len ei.zero).flatten ((Array.range (len * ei.size)).map (fun j => z.cells[j % z.cells.size]!)) := by
    refine ⟨by simp [hzl], fun j x y hx hy => ?_⟩
    obtain ⟨v, q1, q2, q3⟩ := zeros_rel (M := M) (ι := ι) z1 z2 len _ rfl j x hx
    rw [hy] at q1; cases q1; exact ⟨q2, q3⟩
  obtain ⟨arr', q1, q2⟩ := aFill_ok parts parts'.toList _ _ cs (by simpa using hl) (fun j p q h1 h2 => hp j p q h1 (by simpa using h2)) hzero hfill
  have hfl : ∀ (place : Nat → Option (Nat × Nat)) (ps : List (Nat × AV)) (zs cs : List AV), aFill place zs ps = some cs → cs.length = zs.length := by
    intro place ps
    induction ps with
    | nil => intro zs cs h; cases h; rfl
    | cons p ps ih =>
      intro zs cs h
      obtain ⟨k, v⟩ := p
      rw [aFill] at h
      split at h
      · cases h
      · split at h
        · rename_i hcond
          simp only [Bool.and_eq_true, beq_iff_eq, decide_eq_true_eq] at hcond
          rw [ih _ _ h, writeCells_length _ _ _ (by omega)]
        · cases h
  have hcl : cs.length = len * ei.size := by rw [hfl _ _ _ _ hfill]; simp [hzl]
  have hst := hI.freeze arr' e (0, 0) (w.alloc (.cells arr' e)) (fun k hk => Below.heap_alloc w _ k hk) (World.alloc_heap_new w _) (by simp) rfl rfl rfl
  have hle2 : 0 + len * ei.size ≤ cs.length := by omega
  have hel := chunk_el (o := 0) hle2 (fun i y _ hy => (flatL_get cs hflat y (List.mem_of_getElem? hy)).2)
  have hget : ∀ (i : Nat) (x : AV) (j : Nat) (y : AV), (chunkF ei.size 0 len cs)[i]? = some x → x.cells[j]? = some y → ∃ v : Value, arr'[0 + i * ei.size + j]? = some v ∧ VR M io0 y v ∧ vone v = true := by
    intro i x j y hx hy
    obtain ⟨p1, p2, p3⟩ := (hel i x hx).2 j y hy
    have hlt : 0 + i * ei.size + j < arr'.size := by rw [← q2.1]; exact (List.getElem?_eq_some_iff.1 p2).1
    obtain ⟨p4, p5⟩ := q2.2 _ y _ p2 (Array.getElem?_eq_getElem hlt)
    exact ⟨_, Array.getElem?_eq_getElem hlt, p4.free (flatL_get cs hflat y (List.mem_of_getElem? p2)).1 io0, p5⟩
  have hres : VR (fun a => if a.block = w.heap.size then (if a.spot.isSome then none else arr'[a.off]?) else M a) ι (.fs ei.size (chunkF ei.size 0 len cs) .any) (.slice (some ⟨w.heap.size, 0, none⟩) (chunkF ei.size 0 len cs).length len) := by
    refine .fsAny rfl w.heap.size 0 len (fun i j => (arr'[0 + i * ei.size + j]?).getD undef) (by rw [chunk_length hle2]; exact Nat.le_refl _) (fun i x hx => (hel i x hx).1) (fun i x j y hx hy => ?_) (fun i x j y hx hy => ?_)
    · obtain ⟨v, p1, p2, p3⟩ := hget i x j y hx hy
      simp only [if_true, Option.isSome_none, p1, Option.getD_some]
      exact ⟨rfl, p3⟩
    · obtain ⟨v, p1, p2, p3⟩ := hget i x j y hx hy
      simp only [p1, Option.getD_some]
      exact p2.mono hst.mem (fun _ _ _ h => by cases h)
  rw [chunk_length hle2] at hres
  refine ⟨_, _, _, _, _, _, h, hst, hres, ?_⟩
  have hle' : ¬ (len * ei.size > 2 ^ 24) := by omega
  simp only [Instr.buildSlice, Sem.run_bind, run_underlying hu, Result.andThen_ok, hTe.run_size, Sem.run_ite, if_neg hle', if_neg hne, hz, Sem.run_pure, q1, newRow, run_newObj]
  rfl

theorem maxL_ok {op : Int → Int → Int} {f : Value → Value → Sem Value} (hf : ∀ k x y (w : World), (f (.int k x) (.int k y)).run P w = .ok (.int k (op x y)) w) (k : IntKind) :
    ∀ (l : List AV) (vs : List Value) (m n : Int), l.length = vs.length → (∀ (i : Nat) (x : AV) (y : Value), l[i]? = some x → vs[i]? = some y → VR M ι x y) → maxL op k l m = some n →
      (vs.foldlM f (.int k m)).run P w = .ok (.int k n) w
  | [], [], m, n, _, _, h => by cases h; rfl
  | [], v :: vs, m, n, hl, _, _ => by simp at hl
  | x :: l, [], m, n, hl, _, _ => by simp at hl
  | x :: l, v :: vs, m, n, hl, hr, h => by
    have hv := hr 0 x v rfl rfl
    cases x <;> simp only [maxL] at h <;> try (cases h; done)
    rename_i k' a
    split at h
    · rename_i hk
      obtain rfl := of_decide_eq_true (by simpa using hk)
      cases hv.int_inv
      rw [List.foldlM_cons, Sem.run_bind, hf, Result.andThen_ok]
      exact maxL_ok hf k l vs _ n (by simpa using hl) (fun i x y hx hy => hr (i + 1) x y (by simpa using hx) (by simpa using hy)) h
    · cases h

theorem aCopyK_ok {ats : Array TypeId} {ty : TypeId} {d s : AV} {d' s' : Value} {kv : AV → AH → Res} (hE : EnvOK P E) (hI : Inv M ι H w) (hd : VR M ι d d') (hs : VR M ι s s') (h : aCopyK E ats d s H kv = some r) :
    RunOK P M ι H w (Builtin.copy_ ats ty #[d', s']) kv r := by
  unfold aCopyK at h
  split at h
  · cases h
  rename_i t ht
  split at h
  · cases h
  rename_i i hi
  have hT := hE t i hi
  split at h
  · rename_i e hde
    have hu := hT.und; rw [hde] at hu
    split at h
    · cases h
    rename_i ei hei
    have hTe := hE e ei hei
    have hq := aIf_none h
    clear h
    obtain ⟨hvx, h⟩ := hq
    split at h
    · cases h
    rename_i news m hnews
    split at h
    · rename_i id ver off len sz
      split at h
      · rename_i v cs ho hsz
        obtain rfl : sz = ei.size := by simpa using hsz
        · have hq := aIf_none h
          clear h
          obtain ⟨hvv, h⟩ := hq
          obtain rfl : v = ver := by simpa using hvv
          obtain ⟨hl, h⟩ := aIf_none h
          obtain ⟨hle, h⟩ := aIf_none h
          have hl : news.length = m * ei.size := by simpa using hl
          have hle : off + len * ei.size ≤ cs.length := by simpa using hle
          obtain ⟨vs, hS⟩ := newsOf_ok (P := P) hI hs hvx hnews hl
          obtain ⟨b, n, cur, te, hbk, hh, hn, hcs, hcv, hrow, hown⟩ := hI.row ho
          have hk : min m len * ei.size ≤ m * ei.size := Nat.mul_le_mul_right _ (Nat.min_le_left _ _)
          have hk2 : min m len * ei.size ≤ len * ei.size := Nat.mul_le_mul_right _ (Nat.min_le_right _ _)
          have hfirst := hS.first (min m len) (Nat.min_le_left _ _) w (fun a => rfl)
          have htl : (vs.take (min m len * ei.size)).length = min m len * ei.size := by rw [List.length_take, hS.vlen]; omega
          have htn : (news.take (min m len * ei.size)).length = min m len * ei.size := by rw [List.length_take, hl]; omega
          have hrel : ∀ (i : Nat) (x : AV) (v : Value), (news.take (min m len * ei.size))[i]? = some x → (vs.take (min m len * ei.size))[i]? = some v → VR M ι x v ∧ vone v = true := by
            intro i x v hx hv
            have hi : i < min m len * ei.size := by have := (List.getElem?_eq_some_iff.1 hx).1; omega
            rw [List.getElem?_take_of_lt hi] at hx hv
            exact hS.rel i x v hx hv
          have hone : ∀ u ∈ vs.take (min m len * ei.size), u.oneCell' = true := by
            intro u hu'
            obtain ⟨j, hj⟩ := List.mem_iff_getElem?.1 hu'
            have hjl : j < (news.take (min m len * ei.size)).length := by rw [htn, ← htl]; exact (List.getElem?_eq_some_iff.1 hj).1
            exact oneCell'_of_vone (hrel j _ u (List.getElem?_eq_getElem hjl) hj).2
          cases hd with
          | sl o cap hp h1 h2 h3 =>
            rw [hbk] at hp; cases hp
            have hlens : ∀ w' : World, (Builtin.lenOf s').run P w' = .ok m w' := hS.len
            have hw := hI.write ho hbk hh off (news.take (min m len * ei.size)) (vs.take (min m len * ei.size)) (by rw [htl, htn]) (by omega) hrel
              (cs.take off ++ news.take (min m len * ei.size) ++ cs.drop (off + min m len * ei.size)) (by simp only [List.length_append, List.length_take, List.length_drop]; omega) (fun i => by
                have := splice_get cs (news.take (min m len * ei.size)) off i (by omega)
                rw [htn] at this ⊢
                exact this)
            by_cases hc0 : cap = 0
            · subst hc0
              obtain rfl : len = 0 := by omega
              simp only [Nat.min_zero, Nat.zero_mul, List.take_zero, List.append_nil, Nat.add_zero, List.take_append_drop] at h hfirst
              have hset : H.set id (.cells v cs) = H := by
                apply List.ext_getElem?
                intro j
                by_cases hj : j = id
                · subst hj
                  rw [List.getElem?_set_self (List.getElem?_eq_some_iff.1 ho).1, ho]
                · rw [List.getElem?_set_ne (Ne.symm hj)]
              rw [hset] at h
              refine PureOK.runOK hI ⟨_, _, h, .int _ _, ?_⟩
              simp [Builtin.copy_, ht, run_underlying hu, hlens, hTe.run_size, hfirst, storeCells, goInt]
            · obtain rfl : o = off := by
                rcases h2 with h2 | h2
                · exact absurd h2 hc0
                · exact h2
              refine ⟨_, _, _, _, _, _, h, hw, .int _ _, ?_⟩
              have hst := run_storeCells_at P b o te (vs.take (min m len * ei.size)) 0 cur w hh (by rw [htl]; omega) hone
              simp only [Nat.add_zero] at hst
              have hmin : Nat.min m len = min m len := rfl
              simp [Builtin.copy_, ht, run_underlying hu, hlens, hTe.run_size, hmin, hfirst, hst, goInt]
      · cases h
    · rename_i sz fl
      have hlenz : ∃ base cap, d' = .slice base 0 cap := by
        rcases hd.fs_inv with ⟨_, _, rfl⟩ | ⟨_, _, za, rfl⟩ | ⟨_, b, o, cap, rfl, _⟩
        · exact ⟨_, _, rfl⟩
        · exact ⟨_, _, rfl⟩
        · exact ⟨_, _, rfl⟩
      obtain ⟨base, cap, rfl⟩ := hlenz
      refine PureOK.runOK hI ⟨_, _, h, .int _ _, ?_⟩
      have hsrc : (Builtin.lenOf s').run P w = .ok m w ∧ (Builtin.firstCells ei.size 0 s').run P w = .ok #[] w := by
        unfold newsOf at hnews
        split at hnews
        · rename_i sz xs fl
          simp only [Option.some.injEq, Prod.mk.injEq] at hnews
          obtain ⟨_, rfl⟩ := hnews
          rcases hs.fs_inv with ⟨_, rfl, rfl⟩ | ⟨_, rfl, za, rfl⟩ | ⟨_, b, o, cap, rfl, _⟩ <;> simp [Builtin.lenOf, Builtin.firstCells, loadCells, loadCellsFrom]
        · split at hnews
          · cases hnews
            cases hs
            simp [Builtin.lenOf, Builtin.firstCells, loadCells, loadCellsFrom]
          · cases hnews
        · rename_i st
          split at hnews
          · simp only [Option.some.injEq, Prod.mk.injEq] at hnews
            obtain ⟨_, rfl⟩ := hnews
            cases hs.str_inv
            simp [Builtin.lenOf, Builtin.firstCells]
          · cases hnews
        · cases hnews
      cases base <;> simp [Builtin.copy_, ht, run_underlying hu, hsrc.1, hTe.run_size, hsrc.2, storeCells, goInt]
    · cases h
  · cases h

end
end Go.Abs
