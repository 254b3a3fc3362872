/- The evaluator's operations against the model's, second part. -/
import Derived.Test.YteaceebonkpipaaA3
namespace Go.Abs
open Go.RowKit

section
variable {P : Program} {E : Env} {M : Mem} {ι : Io} {H : AH} {w : World} {r : Fin'}

/-- A new row of ours. -/
theorem Inv.new (hI : Inv M ι H w) (arr : Array Value) (t : TypeId) (ver : Nat) (cs : List AV) (hle : cs.length ≤ arr.size) (hver : ver ≠ 0 → cs.length = ver)
    (hrel : ∀ (i : Nat) (x : AV), cs[i]? = some x → ∃ v : Value, arr[i]? = some v ∧ VR M ι x v ∧ vone v = true) :
    Stp M ι H w M (ι.ext H.length ver w.heap.size arr.size) (H ++ [.cells ver cs]) (w.alloc (.cells arr t)) := by
  have hio : ∀ i v p, ι i v = some p → ι.ext H.length ver w.heap.size arr.size i v = some p := by
    intro i v p hp
    rw [Io.ext_ne]
    · exact hp
    · rintro ⟨rfl, _⟩
      exact absurd (hI.dom_lt hp) (Nat.lt_irrefl _)
  refine Stp.alloc hI (.cells ver cs) (.cells arr t) arr.size ?_
  refine ⟨w.heap.size, arr.size, arr, t, Io.ext_self _ _ _ _ _, (by show (w.heap.push _)[w.heap.size]? = _; simp), rfl, hle, hver, fun i x hx => ?_, fun a ha => ?_⟩
  · obtain ⟨v, h1, h2, h3⟩ := hrel i x hx
    exact ⟨v, h1, h2.mono (fun _ _ h => h) hio, h3⟩
  · cases hm : M a with
    | none => rfl
    | some v =>
      have : a.block < w.heap.size := World.block_lt_of_cell? w a.real (hI.mem a v hm)
      omega

theorem vr_zero {i : TI} {z : Value} (hz : ZeroOK i z) (j : Nat) (x : AV) (hx : i.zero[j]? = some x) :
    ∃ v : Value, z.cells[j]? = some v ∧ VR M ι x v ∧ vone v = true := by
  obtain ⟨v, h1, h2, h3⟩ := hz.2 j x hx
  exact ⟨v, h1, h2 M ι, h3⟩

theorem aAlloc_ok {t : TypeId} {i : TI} {kv : AV → AH → Res} (hT : TIOK P t i) (hI : Inv M ι H w) (h : kv (.ptr H.length 0 0) (H ++ [.cells 0 i.zero]) = some r) :
    RunOK P M ι H w (Instr.alloc t true (.tuple #[])) kv r := by
  obtain ⟨z, hz, h1, h2, _⟩ := hT.run_zero (w := w)
  have hs := hI.new z.cells t 0 i.zero (by have := h1.1; omega) (fun h => absurd rfl h) (vr_zero h1)
  refine ⟨_, _, _, _, _, _, h, hs, .ptr 0 (Io.ext_self _ _ _ _ _), ?_⟩
  simp [Instr.alloc, hz, newVar, newRow]

theorem aBox_ok {t : TypeId} {x : AV} {c : Value} {kv : AV → AH → Res} (hI : Inv M ι H w) (hx : VR M ι x c) (hs : x.solid = true) (h : kv (.ptr H.length 0 0) (H ++ [.cells 0 x.cells]) = some r) :
    RunOK P M ι H w (Instr.box t c) kv r := by
  obtain ⟨hl, hc⟩ := hx.cells hs
  have hst := hI.new c.cells t 0 x.cells (by omega) (fun h => absurd rfl h) (fun i y hy => by
    have hi : i < c.cells.size := by rw [← hl]; exact (List.getElem?_eq_some_iff.1 hy).1
    exact ⟨c.cells[i], Array.getElem?_eq_getElem hi, hc i y _ hy (Array.getElem?_eq_getElem hi)⟩)
  refine ⟨_, _, _, _, _, _, h, hst, .ptr 0 (Io.ext_self _ _ _ _ _), ?_⟩
  simp [Instr.box, newVar, newRow]

theorem fieldPlace'_eq {fs : Array Field} {f off size : Nat} (h : fieldPlace' E fs f = some (off, size)) : ∃ fd j, fs[f]? = some fd ∧ E.ti fd.type = some j ∧ off = fd.offset ∧ size = j.size := by
  unfold fieldPlace' at h
  split at h
  · rename_i fd hfd
    split at h
    · rename_i j hj
      cases h
      exact ⟨fd, j, hfd, hj, rfl, rfl⟩
    · cases h
  · cases h

theorem aFieldAddrK_ok {s : TypeId} {x : AV} {c : Value} {f : Nat} {kk : AV → Res} (hE : EnvOK P E) (hx : VR M ι x c) (h : aFieldAddrK E s x f kk = some r) :
    PureOK P M ι w (Instr.fieldAt s c f) kk r := by
  unfold aFieldAddrK at h
  split at h
  · cases h
  rename_i i hi
  have hT := hE s i hi
  split at h
  · rename_i fields hd
    split at h
    · cases h
    rename_i off size hp
    obtain ⟨fd, j, hfd, hj, rfl, rfl⟩ := fieldPlace'_eq hp
    have hTj := hE _ _ hj
    split at h
    · cases h
    rename_i hz
    have hz : ¬ (j.size = 0) := by simpa using hz
    split at h
    · cases hx with
      | ptr _ hb =>
        refine ⟨_, _, h, .ptr _ hb, ?_⟩
        simp [Instr.fieldAt, hT.run_und, hd, hfd, Instr.sureAddr, fieldPlace, hTj.run_size, hz, Addr.add_lit]
    · rename_i cs
      cases hx with
      | fp sp b o g h1 h2 =>
        refine ⟨_, .pointer (some ⟨b, o + fd.offset, none⟩), h, .fp sp b (o + fd.offset) (fun i => g (fd.offset + i)) (fun i x hx => ?_) (fun i x hx => ?_), ?_⟩
        · rw [List.getElem?_drop] at hx
          have := h1 _ _ hx
          rw [Nat.add_assoc]; exact this
        · rw [List.getElem?_drop] at hx
          exact h2 _ _ hx
        · simp [Instr.fieldAt, hT.run_und, hd, hfd, Instr.sureAddr, fieldPlace, hTj.run_size, hz, Addr.add_lit]
    · cases h
  · cases h

theorem partOf_ok {t : TypeId} {cs : List AV} {ys : Array Value} {off : Nat} {v : AV} (hE : EnvOK P E) (hx : VR M ι (.agg cs) (.agg ys)) (h : partOf E t cs off = some v) :
    ∃ c, VR M ι v c ∧ (part t ys off).run P w = .ok c w := by
  unfold partOf at h
  split at h
  · cases h
  rename_i i hi
  have hT := hE t i hi
  split at h
  · rename_i hle
    have hle : off + i.size ≤ cs.length := by simpa using hle
    cases h
    cases hx with
    | agg hl hv ho =>
      cases hag : isAggD i.desc with
      | true =>
        refine ⟨.agg (ys.extract off (off + i.size)), ?_, ?_⟩
        · simp only [asVal, hag]
          refine .agg (by simp [readCells_length]; omega) (fun j x y hx hy => ?_) (fun j y hy => ?_)
          · have hj : j < i.size := by have := (List.getElem?_eq_some_iff.1 hx).1; rwa [readCells_length] at this
            rw [readCells_get _ _ _ _ hj] at hx; cases hx
            rw [Array.getElem?_extract, if_pos (by omega)] at hy
            refine hv (off + j) _ y ?_ hy
            rw [List.getD_eq_getElem?_getD, List.getElem?_eq_getElem (by omega)]; rfl
          · rw [Array.getElem?_extract] at hy
            split at hy
            · exact ho _ _ hy
            · cases hy
        · simp [part, hT.run_isAgg, hag, hT.run_size]
      | false =>
        have h1 : i.size = 1 := hT.scalar hag
        have hlt : off < ys.size := by omega
        refine ⟨ys[off], ?_, ?_⟩
        · simp only [asVal, hag, h1, readCells]
          simp only [List.getD_cons_zero]
          refine hv off _ _ ?_ (Array.getElem?_eq_getElem hlt)
          rw [List.getD_eq_getElem?_getD, List.getElem?_eq_getElem (by omega)]; rfl
        · simp [part, hT.run_isAgg, hag, hlt]
  · cases h

theorem aIndexAddrK_ok {t : TypeId} {x i : AV} {c d : Value} {kk : AV → Res} (hE : EnvOK P E) (hx : VR M ι x c) (hi : VR M ι i d) (h : aIndexAddrK E t x i kk = some r) :
    PureOK P M ι w (Instr.indexAt t c d) kk r := by
  unfold aIndexAddrK at h
  split at h
  · rename_i ti k n hti
    have hT := hE t ti hti
    cases hi.int_inv
    split at h
    · rename_i len e hd
      split at h
      · cases h
      rename_i ei hei
      have hTe := hE e ei hei
      obtain ⟨h0, h⟩ := aIf_none h
      obtain ⟨h1, h⟩ := aIf_none h
      have h0 : 0 ≤ n := by simpa using h0
      have h1 : n < (len : Int) := by simpa using h1
      split at h
      · cases hx with
        | ptr o hb =>
          refine ⟨_, _, h, .ptr _ hb, ?_⟩
          simp [Instr.indexAt, asIntOf, hT.run_und, hd, Instr.sureAddr, h0, h1, hTe.run_size, Addr.add_lit]
      · rename_i cs
        cases hx with
        | fp sp b o g g1 g2 =>
          refine ⟨_, .pointer (some ⟨b, o + n.toNat * ei.size, none⟩), h, .fp sp b (o + n.toNat * ei.size) (fun i => g (n.toNat * ei.size + i)) (fun i x hx => ?_) (fun i x hx => ?_), ?_⟩
          · rw [List.getElem?_drop] at hx
            have := g1 _ _ hx
            rw [Nat.add_assoc]; exact this
          · rw [List.getElem?_drop] at hx
            exact g2 _ _ hx
          · simp [Instr.indexAt, asIntOf, hT.run_und, hd, Instr.sureAddr, h0, h1, hTe.run_size, Addr.add_lit]
      · cases h
    · rename_i e hd
      split at h
      · cases h
      rename_i ei hei
      have hTe := hE e ei hei
      split at h
      · rename_i sz xs fl
        obtain ⟨h0, h⟩ := aIf_none h
        obtain ⟨h1, h⟩ := aIf_none h
        obtain ⟨h2, h⟩ := aIf_none h
        have h0 : 0 ≤ n := by simpa using h0
        have h1 : n < (xs.length : Int) := by simpa using h1
        have h2 : (xs.getD n.toNat .junk).cells.length = ei.size := by simpa using h2
        have hlt : n.toNat < xs.length := by omega
        have hget : xs[n.toNat]? = some (xs.getD n.toNat .junk) := by rw [List.getD_eq_getElem?_getD, List.getElem?_eq_getElem hlt]; rfl
        cases hx with
        | fsNil sz => simp at h1; omega
        | fsZc sz za => simp at h1; omega
        | fsAny hf b o cap g hc hsz g1 g2 =>
          have hsz' : ei.size = sz := by rw [← h2]; exact hsz _ _ hget
          have hcell : ∀ (j : Nat) (y : AV), (cellsN (xs.getD n.toNat .junk) 0 ei.size)[j]? = some y → (xs.getD n.toNat .junk).cells[j]? = some y := by
            have : ∀ (m o j : Nat) (y : AV), (cellsN (xs.getD n.toNat .junk) o m)[j]? = some y → o + m ≤ (xs.getD n.toNat .junk).cells.length → (xs.getD n.toNat .junk).cells[o + j]? = some y := by
              intro m
              induction m with
              | zero => intro o j y hy; simp [cellsN] at hy
              | succ m ih =>
                intro o j y hy hle
                cases j with
                | zero =>
                  simp only [cellsN, List.getElem?_cons_zero, AV.cell] at hy
                  rw [List.getD_eq_getElem?_getD, List.getElem?_eq_getElem (by omega)] at hy
                  rw [Nat.add_zero, List.getElem?_eq_getElem (by omega)]
                  simpa using hy
                | succ j =>
                  simp only [cellsN, List.getElem?_cons_succ] at hy
                  have := ih (o + 1) j y hy (by omega)
                  rwa [show o + 1 + j = o + (j + 1) by omega] at this
            intro j y hy
            have := this ei.size 0 j y hy (by omega)
            rwa [Nat.zero_add] at this
          refine ⟨_, .pointer (some ⟨b, o + n.toNat * ei.size, none⟩), h, .fp fl.spot b (o + n.toNat * ei.size) (fun j => g n.toNat j) (fun j y hy => ?_) (fun j y hy => ?_), ?_⟩
          · rw [hsz']
            exact g1 n.toNat _ j y hget (hcell j y hy)
          · exact g2 n.toNat _ j y hget (hcell j y hy)
          · simp [Instr.indexAt, asIntOf, hT.run_und, hd, h0, h1, hTe.run_size, Addr.add_lit]
      · rename_i id ver off len sz
        split at h
        · rename_i hsz
          obtain rfl : ei.size = sz := by simpa using hsz
          obtain ⟨h0, h⟩ := aIf_none h
          obtain ⟨h1, h⟩ := aIf_none h
          have h0 : 0 ≤ n := by simpa using h0
          have h1 : n < (len : Int) := by simpa using h1
          cases hx with
          | sl o cap hb hc ho _ =>
            have hoo : o = off := by
              rcases ho with rfl | ho
              · omega
              · exact ho
            subst hoo
            refine ⟨_, _, h, .ptr _ hb, ?_⟩
            simp [Instr.indexAt, asIntOf, hT.run_und, hd, h0, h1, hTe.run_size, Addr.add_lit]
        · cases h
      · cases h
    · cases h
  · cases h

theorem aIndexK_ok {t : TypeId} {x i : AV} {c d : Value} {kk : AV → Res} (hE : EnvOK P E) (hx : VR M ι x c) (hi : VR M ι i d) (h : aIndexK E t x i kk = some r) :
    PureOK P M ι w (Instr.index t c d) kk r := by
  unfold aIndexK at h
  split at h
  · rename_i ti k n hti
    have hT := hE t ti hti
    cases hi.int_inv
    split at h
    · rename_i len e cs hd
      split at h
      · cases h
      rename_i ei hei
      have hTe := hE e ei hei
      obtain ⟨h0, h⟩ := aIf_none h
      obtain ⟨h1, h⟩ := aIf_none h
      obtain ⟨h2, h⟩ := aIf_none h
      have h0 : 0 ≤ n := by simpa using h0
      have h1 : n < (len : Int) := by simpa using h1
      have h := etasK_eq (fun _ _ _ _ => etaK_eq) _ _ _ _ h
      have hx' := hx
      cases hx with
      | agg hl hv ho =>
        obtain ⟨c, hc, hr⟩ := partOf_ok (w := w) (t := e) (off := n.toNat * ei.size) (v := asVal ei (readCells cs (n.toNat * ei.size) ei.size)) hE hx' (by
          simp only [partOf, hei, h2])
        refine ⟨_, c, h, hc, ?_⟩
        simp [Instr.index, asIntOf, hT.run_und, hd, h0, h1, hTe.run_size, hr]
    · rename_i s hd
      obtain ⟨h0, h⟩ := aIf_none h
      obtain ⟨h1, h⟩ := aIf_none h
      have h0 : 0 ≤ n := by simpa using h0
      have h1 : n < (s.size : Int) := by simpa using h1
      cases hx.str_inv
      refine ⟨_, .int .u8 ((s.data.getD n.toNat 0).toNat : Int), h, .int _ _, ?_⟩
      have hlt : n.toNat < s.size := by omega
      have hlt' : n.toNat < s.data.size := hlt
      have hg : s[n.toNat]? = some (s.data.getD n.toNat 0) := by
        rw [Array.getD_eq_getD_getElem?, Array.getElem?_eq_getElem hlt']
        simp only [Option.getD_some]
        rw [getElem?_pos s n.toNat hlt]
        rfl
      simp only [Instr.index, asIntOf, Sem.run_bind, Sem.run_pure, Result.andThen_ok, hT.run_und, hd, if_pos h0, hg]
      
    · cases h
  · cases h

end
end Go.Abs
