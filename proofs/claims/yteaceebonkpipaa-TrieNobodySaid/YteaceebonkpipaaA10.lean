/- The evaluator's operations against the model's, eighth part: what is made, iterators, the rest. -/
import Derived.Test.YteaceebonkpipaaA9
namespace Go.Abs
open Go.RowKit

section
variable {P : Program} {E : Env} {M : Mem} {ι : Io} {H : AH} {w : World} {r : Fin'}

theorem flatten_replicate_get {α : Type} (l : List α) : ∀ (n i : Nat), i < n * l.length → ((List.replicate n l).flatten)[i]? = l[i % l.length]?
  | 0, i, h => by simp at h
  | n + 1, i, h => by
    rw [List.replicate_succ, List.flatten_cons]
    by_cases hi : i < l.length
    · rw [List.getElem?_append_left hi, Nat.mod_eq_of_lt hi]
    · have hn : i - l.length < n * l.length := by rw [Nat.add_mul] at h; omega
      rw [List.getElem?_append_right (by omega), flatten_replicate_get l n _ hn, ← Nat.mod_eq_sub_mod (by omega)]
theorem flatten_replicate_length {α : Type} (l : List α) (n : Nat) : ((List.replicate n l).flatten).length = n * l.length := by simp

/-- A row of zeros, as the model makes it. -/
theorem zeros_rel {i : TI} {z : Value} (hz : ZeroOK i z) (hs : z.cells.size = i.size) (n : Nat) (arr : Array Value)
    (harr : arr = (Array.range (n * i.size)).map (fun j => z.cells[j % z.cells.size]!)) (j : Nat) (x : AV) (hx : ((List.replicate n i.zero).flatten)[j]? = some x) :
    ∃ v : Value, arr[j]? = some v ∧ VR M ι x v ∧ vone v = true := by
  have hl : i.zero.length = i.size := by rw [hz.1, hs]
  have hj : j < n * i.zero.length := by have := (List.getElem?_eq_some_iff.1 hx).1; rwa [flatten_replicate_length] at this
  rw [flatten_replicate_get _ _ _ hj] at hx
  obtain ⟨v, h1, h2, h3⟩ := vr_zero (M := M) (ι := ι) hz _ x hx
  refine ⟨v, ?_, h2, h3⟩
  rw [hl] at hj h1
  rw [harr]
  simp only [Array.getElem?_map, Array.getElem?_range, hj, if_true, Option.map_some, hs]
  rw [getElem!_def, h1]

theorem wrap_i64_of {n : Int} (h1 : 0 ≤ n) (h2 : n ≤ 9223372036854775807) : IntKind.i64.wrap n = n := by
  have hb : (2 : Int) ^ IntKind.i64.bits = 18446744073709551616 := by decide
  have hb' : (2 : Int) ^ (IntKind.i64.bits - 1) = 9223372036854775808 := by decide
  unfold IntKind.wrap
  simp only [hb, hb', Int.emod_eq_of_lt h1 (show n < 18446744073709551616 by omega)]
  rw [if_neg]
  simp; intro _; omega

theorem aMakeSliceK_ok {t : TypeId} {l c : AV} {l' c' : Value} {kv : AV → AH → Res} (hE : EnvOK P E) (hI : Inv M ι H w) (hl : VR M ι l l') (hc : VR M ι c c') (h : aMakeSliceK E t l c H kv = some r) :
    RunOK P M ι H w (Instr.makeSlice t l' c') kv r := by
  unfold aMakeSliceK at h
  split at h
  · rename_i i k l k' c hi
    cases hl.int_inv
    cases hc.int_inv
    have hT := hE t i hi
    split at h
    · rename_i e hd
      have hu := hT.und; rw [hd] at hu
      split at h
      · cases h
      rename_i ei hei
      have hTe := hE e ei hei
      obtain ⟨info, hinfo, hsz, hby, ⟨z, hz, hzz, hzs, _⟩, _⟩ := hTe.info
      split at h
      · cases h
      rename_i hsz0
      have hsz0 : ei.size ≠ 0 := by simpa using hsz0
      obtain ⟨h0, h⟩ := aIf_none h
      obtain ⟨h1, h⟩ := aIf_none h
      obtain ⟨h2, h⟩ := aIf_none h
      obtain ⟨h3, h⟩ := aIf_none h
      have h0 : 0 ≤ l := of_decide_eq_true h0
      have h1 : l ≤ c := of_decide_eq_true h1
      have h2 : c * ei.bytes ≤ limit48 := of_decide_eq_true h2
      have h3 : c ≤ limit48 := of_decide_eq_true h3
      unfold limit48 at h2 h3
      have hwl : IntKind.i64.wrap l = l := wrap_i64_of h0 (by omega)
      have hwc : IntKind.i64.wrap c = c := wrap_i64_of (by omega) (by omega)
      have hlarge : ¬ (281474976710656 < (ei.bytes : Int) * c) := by rw [Int.mul_comm]; omega
      have hcn : ¬ (c < 0) := by omega
      have hln : ¬ (l < 0) := by omega
      have hlc : ¬ (l > c) := by omega
      have hrun : (Instr.makeSlice t (.int k l) (.int k' c)).run P w = .ok (.slice (some ⟨w.heap.size, 0, none⟩) l.toNat c.toNat) (w.alloc (.cells ((Array.range (c.toNat * ei.size)).map (fun j => (if c.toNat * ei.size = 0 then #[] else z.cells)[j % (if c.toNat * ei.size = 0 then #[] else z.cells).size]!)) e)) := by
        by_cases hc0 : c.toNat * ei.size = 0
        · simp [Instr.makeSlice, run_underlying hu, asInt, asIntOf, typeInfo, hinfo, hwl, hwc, hby, hlarge, hcn, hln, hlc, sizeOf, hsz, hc0, newRow]
        · simp [Instr.makeSlice, run_underlying hu, asInt, asIntOf, typeInfo, hinfo, hwl, hwc, hby, hlarge, hcn, hln, hlc, sizeOf, hsz, hc0, newRow, zeroValue, hz]
      rcases aIf_some h with ⟨hc0, h⟩ | ⟨hc0, h⟩
      · have hc0 : c = 0 := by simpa using hc0
        subst hc0
        obtain rfl : l = 0 := by omega
        have hst := hI.new (Array.map (fun j => (#[] : Array Value)[j % (#[] : Array Value).size]!) (Array.range 0)) e 0 [] (by simp) (fun h => absurd rfl h) (fun i x hx => by simp at hx)
        simp only [Int.toNat_zero, Nat.zero_mul, if_true] at hrun
        -- the new block is nobody's
        have hst2 := hI.freeze (Array.map (fun j => (#[] : Array Value)[j % (#[] : Array Value).size]!) (Array.range 0)) e (0, 0) (w.alloc (.cells (Array.map (fun j => (#[] : Array Value)[j % (#[] : Array Value).size]!) (Array.range 0)) e))
          (fun k hk => Go.RowKit.Below.heap_alloc w _ k hk) (by show (w.heap.push _)[w.heap.size]? = _; simp) (by simp) rfl rfl rfl
        exact ⟨_, _, _, _, _, _, h, hst2, .fsZc _ _, hrun⟩
      · have hc0 : c ≠ 0 := by simpa using hc0
        have hcp : c.toNat * ei.size ≠ 0 := by
          intro hh
          rcases Nat.mul_eq_zero.1 hh with hh | hh
          · omega
          · exact hsz0 hh
        simp only [hcp, if_false] at hrun
        have hzl : ei.zero.length = ei.size := by rw [hzz.1, hzs]
        have hst := hI.new ((Array.range (c.toNat * ei.size)).map (fun j => z.cells[j % z.cells.size]!)) e (c.toNat * ei.size) (List.replicate c.toNat ei.zero).flatten (by simp [hzl]) (fun _ => by simp [hzl])
          (fun j x hx => zeros_rel hzz hzs c.toNat _ rfl j x hx)
        refine ⟨_, _, _, _, _, _, h, hst, ?_, hrun⟩
        refine .sl 0 _ (Io.ext_self _ _ _ _ _) (by omega) (.inr rfl) (fun _ _ => ⟨Nat.mul_le_mul_right _ (by omega), Nat.le_refl _, by simp⟩)
    · cases h
  · cases h

theorem aNextK_ok {it : AV} {c : Value} {ty : TypeId} {kv : AV → AH → Res} (hI : Inv M ι H w) (hx : VR M ι it c) (h : aNextK it H kv = some r) :
    RunOK P M ι H w (Instr.next c true ty) kv r := by
  unfold aNextK at h
  split at h
  · rename_i id
    split at h
    · rename_i s pos ho
      obtain ⟨b, n, hb, hh⟩ := hI.obj id _ ho
      cases hx with
      | ptr _ hp =>
        rw [hb] at hp; cases hp
        have hget : (getObj b).run P w = .ok (.stringIter s pos) w := by simp [getObj, Sem.run, hh]
        rcases aIf_some h with ⟨hlt, h⟩ | ⟨hlt, h⟩
        · have hlt : pos < s.size := by simpa using hlt
          have hbl : b < w.heap.size := (Array.getElem?_eq_some_iff.1 hh).1
          have hset : (setObj b (.stringIter s (pos + (Utf8.decode s pos).2))).run P w = .ok () { w with heap := w.heap.setIfInBounds b (.stringIter s (pos + (Utf8.decode s pos).2)) } := by simp [setObj, Sem.run, hh]
          have hturn := Stp.turn (w' := { w with heap := w.heap.setIfInBounds b (.stringIter s (pos + (Utf8.decode s pos).2)) }) hI ho (o' := .iter s (pos + (Utf8.decode s pos).2)) hb (Nat.le_refl _) (fun _ => ⟨rfl, rfl⟩) (.inl rfl)
            (fun k _ hk => by simp [Ne.symm hk]) (by simp) rfl rfl rfl ⟨b, n, by simp [AO.ver, Io.ext_self], by simp [hbl]⟩
          refine ⟨_, _, _, _, _, .tuple #[.bool true, goInt pos, .int .i32 ((Utf8.decode s pos).1 : Int)], h, hturn, ?_, ?_⟩
          · refine .tup rfl (fun i x y hx hy => ?_)
            match i with
            | 0 => simp at hx hy; subst hx; subst hy; exact .bool _
            | 1 => simp at hx hy; subst hx; subst hy; exact .int _ _
            | 2 => simp at hx hy; subst hx; subst hy; exact .int _ _
            | i + 3 => simp at hx
          · simp [Instr.next, hget, hlt, hset]
        · have hlt : ¬ pos < s.size := by simpa using hlt
          refine ⟨_, H, M, ι, w, .tuple #[.bool false], h, .refl hI, ?_, ?_⟩
          · refine .tup rfl (fun i x y hx hy => ?_)
            match i with
            | 0 => simp at hx hy; subst hx; subst hy; exact .bool _
            | i + 1 => simp at hx
          · simp [Instr.next, hget, hlt]
    · cases h
  · cases h

theorem aRange_ok {t : TypeId} {i : TI} {s : ByteArray} {kv : AV → AH → Res} (hT : TIOK P t i) (hd : i.desc = .string) (hI : Inv M ι H w) (h : kv (.ptr H.length 0 0) (H ++ [.iter s 0]) = some r) :
    RunOK P M ι H w (Instr.range t (.string s)) kv r := by
  have hu := hT.und; rw [hd] at hu
  have hst := Stp.alloc hI (.iter s 0) (.stringIter s 0) 1 ⟨w.heap.size, 1, by simp [AO.ver, Io.ext_self], (by show (w.heap.push _)[w.heap.size]? = _; simp)⟩
  refine ⟨_, _, _, _, _, _, h, hst, .ptr 0 (Io.ext_self _ _ _ _ _), ?_⟩
  simp [Instr.range, run_underlying hu]

theorem vr_asZero {i : TI} {z : Value} (hz : ZeroOK i z) (hs : z.cells.size = i.size)
    (h1 : isAggD i.desc = true → ∃ ys, z = .agg ys) (h2 : isAggD i.desc = false → vone z = true) : VR M ι (asVal i i.zero) z := by
  cases hag : isAggD i.desc with
  | true =>
    obtain ⟨ys, rfl⟩ := h1 hag
    simp only [asVal, hag]
    refine .agg (by rw [hz.1]; simp [Value.cells]) (fun j x y hx hy => ?_) (fun j y hy => ?_)
    · obtain ⟨v, q1, q2, _⟩ := vr_zero (M := M) (ι := ι) hz j x hx
      simp only [Value.cells] at q1
      rw [hy] at q1; cases q1; exact q2
    · have hj : j < i.zero.length := by rw [hz.1]; simp only [Value.cells]; exact (Array.getElem?_eq_some_iff.1 hy).1
      obtain ⟨v, q1, _, q3⟩ := vr_zero (M := M) (ι := ι) hz j _ (List.getElem?_eq_getElem hj)
      simp only [Value.cells] at q1
      rw [hy] at q1; cases q1; exact q3
  | false =>
    simp only [asVal, hag]
    have hv := h2 hag
    have hc : z.cells = #[z] := by cases z <;> first | rfl | (simp [vone] at hv)
    have hl : 0 < i.zero.length := by rw [hz.1, hc]; exact Nat.zero_lt_one
    obtain ⟨v, q1, q2, _⟩ := vr_zero (M := M) (ι := ι) hz 0 _ (List.getElem?_eq_getElem hl)
    rw [hc] at q1
    simp at q1
    subst q1
    rw [List.getD_eq_getElem?_getD, List.getElem?_eq_getElem hl]
    exact q2

theorem aTypeAssertK_ok {x : AV} {c : Value} {xT asserted : TypeId} {ok : Bool} {kk : AV → Res} (hE : EnvOK P E) (hx : VR M ι x c) (h : aTypeAssertK E x asserted ok kk = some r) :
    PureOK P M ι w (Instr.typeAssert c xT asserted ok) kk r := by
  unfold aTypeAssertK at h
  split at h
  · cases h
  rename_i i hi
  have hT := hE asserted i hi
  have hu := hT.und
  obtain ⟨z, hz, z1, z2, z3, z4⟩ := hT.run_zero (w := w)
  have hzr : VR M ι (asVal i i.zero) z := vr_asZero z1 z2 z3 z4
  split at h
  · cases h
  rename_i hni
  have two : ∀ {a b : AV} {a' b' : Value}, VR M ι a a' → VR M ι b b' → VR M ι (.tup [a, b]) (.tuple #[a', b']) := by
    intro a b a' b' ha hb
    refine .tup rfl (fun i x y hx hy => ?_)
    match i with
    | 0 => simp at hx hy; subst hx; subst hy; exact ha
    | 1 => simp at hx hy; subst hx; subst hy; exact hb
    | i + 2 => simp at hx
  split at h
  · rename_i t v
    cases hx with
    | iface _ hv =>
      rename_i c
      split at h
      · rename_i he
        obtain rfl : t = asserted := by simpa using he
        refine ⟨_, _, h, two hv (.bool true), ?_⟩
        simp only [Instr.typeAssert, Sem.run_bind, hT.run_und, Result.andThen_ok]
        cases hd : i.desc <;> first | (simp; done) | exact absurd hd (hni _)
      · rename_i he
        have he : t ≠ asserted := by simpa using he
        refine ⟨_, _, h, two hzr (.bool false), ?_⟩
        simp only [Instr.typeAssert, Sem.run_bind, hT.run_und, Result.andThen_ok]
        cases hd : i.desc <;> first | (simp [he, hz]; done) | exact absurd hd (hni _)
  · cases hx
    refine ⟨_, _, h, two hzr (.bool false), ?_⟩
    simp only [Instr.typeAssert, Sem.run_bind, hT.run_und, Result.andThen_ok]
    cases hd : i.desc <;> first | (simp [hz]; done) | exact absurd hd (hni _)
  · rename_i t v
    cases hx with
    | iface _ hv =>
      split at h
      · rename_i he
        obtain rfl : t = asserted := by simpa using he
        refine ⟨_, _, h, hv, ?_⟩
        simp only [Instr.typeAssert, Sem.run_bind, hT.run_und, Result.andThen_ok]
        cases hd : i.desc <;> first | (simp; done) | exact absurd hd (hni _)
      · cases h
  · cases h


/-! ### Composites -/

theorem foldl_set_get (off : Nat) : ∀ (l : List Value) (k : Nat) (cs : Array Value) (i : Nat), off + k + l.length ≤ cs.size →
    ((l.zipIdx k).foldl (fun (cs : Array Value) (c : Value × Nat) => cs.setIfInBounds (off + c.2) c.1) cs)[i]? = if off + k ≤ i ∧ i < off + k + l.length then l[i - (off + k)]? else cs[i]?
  | [], k, cs, i, h => by simp; intro h1 h2; omega
  | v :: l, k, cs, i, h => by
    have hlt : off + k < cs.size := by simp at h; omega
    rw [List.zipIdx_cons, List.foldl_cons, foldl_set_get off l (k + 1) _ i (by simp at h ⊢; omega)]
    by_cases h1 : i = off + k
    · subst h1
      rw [if_neg (by omega), if_pos (by simp)]
      simp [hlt]
    · by_cases h2 : off + (k + 1) ≤ i ∧ i < off + (k + 1) + l.length
      · rw [if_pos h2, if_pos (by simp; omega)]
        rw [show i - (off + k) = (i - (off + (k + 1))) + 1 by omega]; simp
      · rw [if_neg h2, if_neg (by simp; omega)]
        simp [Ne.symm h1]
theorem foldl_set_size (off : Nat) : ∀ (l : List (Value × Nat)) (cs : Array Value), (l.foldl (fun (cs : Array Value) (c : Value × Nat) => cs.setIfInBounds (off + c.2) c.1) cs).size = cs.size
  | [], cs => rfl
  | v :: l, cs => by rw [List.foldl_cons, foldl_set_size off l]; simp

def CellsR (M : Mem) (ι : Io) (cs : List AV) (arr : Array Value) : Prop := cs.length = arr.size ∧ ∀ (i : Nat) (x : AV) (y : Value), cs[i]? = some x → arr[i]? = some y → VR M ι x y ∧ vone y = true

theorem aFill_ok {place : Nat → Option (Nat × Nat)} : ∀ (parts : List (Nat × AV)) (parts' : List (Nat × Value)) (cs : List AV) (arr : Array Value) (cs' : List AV),
    parts.length = parts'.length → (∀ (i : Nat) (p : Nat × AV) (q : Nat × Value), parts[i]? = some p → parts'[i]? = some q → p.1 = q.1 ∧ VR M ι p.2 q.2) → CellsR M ι cs arr →
    aFill place cs parts = some cs' → ∃ arr', Instr.fill place arr parts' = some arr' ∧ CellsR M ι cs' arr'
  | [], [], cs, arr, cs', _, _, hc, h => by cases h; exact ⟨arr, rfl, hc⟩
  | [], q :: r', cs, arr, cs', hl, _, _, _ => by simp at hl
  | p :: r, [], cs, arr, cs', hl, _, _, _ => by simp at hl
  | (i, v) :: r, (i', v') :: r', cs, arr, cs', hl, hp, hc, h => by
    obtain ⟨rfl, hv⟩ : i = i' ∧ VR M ι v v' := hp 0 _ _ rfl rfl
    rw [aFill] at h
    split at h
    · cases h
    rename_i off size hpl
    split at h
    · rename_i hcond
      simp only [Bool.and_eq_true, beq_iff_eq, decide_eq_true_eq] at hcond
      obtain ⟨⟨hs, hsz⟩, hle⟩ := hcond
      obtain ⟨c1, c2⟩ := hv.cells hs
      have hsize : v'.cells.size = size := by omega
      have hle' : off + v'.cells.size ≤ arr.size := by rw [← hc.1]; omega
      have hrel : CellsR M ι (writeCells cs off v.cells) (v'.cells.zipIdx.foldl (fun (cs : Array Value) (c : Value × Nat) => cs.setIfInBounds (off + c.2) c.1) arr) := by
        rw [← Array.foldl_toList, Array.toList_zipIdx]
        refine ⟨by rw [writeCells_length _ _ _ (by omega), foldl_set_size]; exact hc.1, fun j x y hx hy => ?_⟩
        rw [writeCells_get _ _ _ _ (by omega)] at hx
        rw [foldl_set_get off _ 0 arr j (by simpa using hle')] at hy
        simp only [Nat.add_zero, Array.length_toList] at hy
        by_cases hin : off ≤ j ∧ j < off + v.cells.length
        · rw [if_pos hin] at hx
          rw [if_pos (by omega)] at hy
          exact c2 _ x y hx (by simpa using hy)
        · rw [if_neg hin] at hx
          rw [if_neg (by omega)] at hy
          exact hc.2 j x y hx hy
      obtain ⟨arr', q1, q2⟩ := aFill_ok r r' _ _ cs' (by simpa using hl) (fun j p q h1 h2 => hp (j + 1) p q (by simpa using h1) (by simpa using h2)) hrel h
      refine ⟨arr', ?_, q2⟩
      rw [Instr.fill, hpl]
      simp only
      rw [if_neg (by simp [hsize]; omega)]
      exact q1
    · cases h

theorem zero_cellsR {i : TI} {z : Value} (hz : ZeroOK i z) : CellsR M ι i.zero z.cells := by
  refine ⟨hz.1, fun j x y hx hy => ?_⟩
  obtain ⟨v, h1, h2, h3⟩ := vr_zero (M := M) (ι := ι) hz j x hx
  rw [hy] at h1; cases h1
  exact ⟨h2, h3⟩

theorem CellsR.agg {cs : List AV} {arr : Array Value} (h : CellsR M ι cs arr) : VR M ι (.agg cs) (.agg arr) :=
  .agg h.1 (fun i x y hx hy => (h.2 i x y hx hy).1) (fun i y hy => by
    have hi : i < cs.length := by rw [h.1]; exact (Array.getElem?_eq_some_iff.1 hy).1
    exact (h.2 i _ y (List.getElem?_eq_getElem hi) hy).2)

/-- Fields' types are told. -/
def FieldsOK (E : Env) : Prop := ∀ t i fs, E.ti t = some i → i.desc = .struct fs → ∀ f ∈ fs.toList, ∃ j, E.ti f.type = some j

theorem run_places (hE : EnvOK P E) {fs : List Field} (hf : ∀ f ∈ fs, ∃ j, E.ti f.type = some j) :
    (fs.mapM fun f => (do pure (f.offset, ← sizeOf f.type) : Sem (Nat × Nat))).run P w = .ok (fs.map fun f => (f.offset, ((E.ti f.type).map TI.size).getD 0)) w := by
  induction fs with
  | nil => rfl
  | cons f fs ih =>
    obtain ⟨j, hj⟩ := hf f (by simp)
    rw [List.mapM_cons]
    have h1 := ih (fun g hg => hf g (by simp [hg]))
    simp only [Sem.run_bind, (hE _ j hj).run_size, Result.andThen_ok, Sem.run_pure, h1, hj, List.map_cons, Option.map_some, Option.getD_some]

theorem aBuild_ok {t : TypeId} {i : TI} {pl : Nat → Option (Nat × Nat)} {parts : List (Nat × AV)} {parts' : Array (Nat × Value)} {cs : List AV} {kv : AV → AH → Res} (hE : EnvOK P E) (hF : FieldsOK E) (hi : E.ti t = some i) (hpl : buildPlaces E i = some pl)
    (hl : parts.length = parts'.size) (hp : ∀ (i : Nat) (p : Nat × AV) (q : Nat × Value), parts[i]? = some p → parts'[i]? = some q → p.1 = q.1 ∧ VR M ι p.2 q.2)
    (hfill : aFill pl i.zero parts = some cs) (h : kv (.agg cs) H = some r) : PureOK P M ι w (Instr.build t parts') (fun v => kv v H) r := by
  have hT := hE t i hi
  obtain ⟨z, hz, z1, z2, _⟩ := hT.run_zero (w := w)
  have hu := hT.und
  unfold buildPlaces at hpl
  split at hpl
  · rename_i fields hd
    cases hpl
    rw [hd] at hu
    -- the places, asg the model makes them
    have hsame : ∀ k p, fieldPlace' E fields k = some p → ((fields.toList.map fun f => (f.offset, ((E.ti f.type).map TI.size).getD 0)).toArray)[k]? = some p := by
      intro k p hk
      obtain ⟨off, size⟩ := p
      obtain ⟨fd, j, h1, h2, rfl, rfl⟩ := fieldPlace'_eq hk
      have h1' : fields.toList[k]? = some fd := by simpa using h1
      simp [h1, h2]
    have hfill' : aFill (fun k => ((fields.toList.map fun f => (f.offset, ((E.ti f.type).map TI.size).getD 0)).toArray)[k]?) i.zero parts = some cs := by
      clear h hp hl
      generalize i.zero = zs at hfill
      induction parts generalizing zs with
      | nil => exact hfill
      | cons p r ih =>
        obtain ⟨k, v⟩ := p
        rw [aFill] at hfill ⊢
        cases hk : fieldPlace' E fields k with
        | none => rw [hk] at hfill; cases hfill
        | some p =>
          rw [hk] at hfill
          simp only [hsame k p hk]
          simp only at hfill
          split at hfill
          · exact ih _ hfill
          · cases hfill
    obtain ⟨arr', q1, q2⟩ := aFill_ok parts parts'.toList i.zero z.cells cs (by simpa using hl) (fun j p q h1 h2 => hp j p q h1 (by simpa using h2)) (zero_cellsR z1) hfill'
    refine ⟨_, .agg arr', h, q2.agg, ?_⟩
    have hpl := run_places (P := P) (w := w) hE (hF t i fields hi hd)
    simp only [Instr.build, Sem.run_bind, hz, Result.andThen_ok, run_underlying hu]
    rw [Array.mapM_eq_mapM_toList]
    rw [map_eq_pure_bind, Sem.run_bind, hpl]
    simp only [Result.andThen_ok, Sem.run_pure, q1]
  · rename_i len e hd
    rw [hd] at hu
    split at hpl
    · rename_i ei hei
      cases hpl
      obtain ⟨arr', q1, q2⟩ := aFill_ok parts parts'.toList i.zero z.cells cs (by simpa using hl) (fun j p q h1 h2 => hp j p q h1 (by simpa using h2)) (zero_cellsR z1) hfill
      refine ⟨_, .agg arr', h, q2.agg, ?_⟩
      simp only [Instr.build, Sem.run_bind, hz, Result.andThen_ok, run_underlying hu, (hE e ei hei).run_size, q1, Sem.run_pure]
    · cases hpl
  · cases hpl

end
end Go.Abs
