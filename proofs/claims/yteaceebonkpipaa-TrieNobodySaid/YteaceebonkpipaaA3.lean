/- The evaluator's operations against the model's: those that make no call. -/
import Derived.Test.YteaceebonkpipaaA2
namespace Go.Abs
open Go.RowKit

/-- A type's zero value, cell by cell. -/
def ZeroOK (i : TI) (z : Value) : Prop := i.zero.length = z.cells.size ∧ ∀ (j : Nat) (x : AV), i.zero[j]? = some x → ∃ v : Value, z.cells[j]? = some v ∧ (∀ (M : Mem) (ι : Io), VR M ι x v) ∧ vone v = true

structure TIOK (P : Program) (t : TypeId) (i : TI) : Prop where
  und : P.underlying t = some i.desc
  info : ∃ info, P.info? t = some info ∧ info.size = i.size ∧ info.bytes = i.bytes ∧ (∃ z, info.zero = some z ∧ ZeroOK i z ∧ z.cells.size = i.size ∧
    (isAggD i.desc = true → ∃ ys, z = .agg ys) ∧ (isAggD i.desc = false → vone z = true)) ∧ (i.cmp = true → info.comparable = true)
  one : ∀ x ∈ i.zero, x.one = true
  eqOk : i.eqOk = true → P.stoodInHeld t = false ∧ P.eqGuardType P.depth t = false
  scalar : isAggD i.desc = false → i.size = 1

def EnvOK (P : Program) (E : Env) : Prop := ∀ t i, E.ti t = some i → TIOK P t i

theorem aIf_none {b : Bool} {x : Res} {r : Fin'} (h : aIf b x none = some r) : b = true ∧ x = some r := by
  cases b
  · cases h
  · exact ⟨rfl, h⟩
theorem aIf_none' {b : Bool} {x : Res} {r : Fin'} (h : aIf b none x = some r) : b = false ∧ x = some r := by
  cases b
  · exact ⟨rfl, h⟩
  · cases h
theorem aIf_some {b : Bool} {x y : Res} {r : Fin'} (h : aIf b x y = some r) : (b = true ∧ x = some r) ∨ (b = false ∧ y = some r) := by
  cases b
  · exact .inr ⟨rfl, h⟩
  · exact .inl ⟨rfl, h⟩

/-- A reckoning that leaves the world alone. -/
def PureOK (P : Program) (M : Mem) (ι : Io) (w : World) (s : Sem Value) (kk : AV → Res) (r : Fin') : Prop :=
  ∃ v c, kk v = some r ∧ VR M ι v c ∧ s.run P w = .ok c w
/-- One that turns it. -/
def RunOK (P : Program) (M : Mem) (ι : Io) (H : AH) (w : World) (s : Sem Value) (kv : AV → AH → Res) (r : Fin') : Prop :=
  ∃ v H' M' ι' w' c, kv v H' = some r ∧ Stp M ι H w M' ι' H' w' ∧ VR M' ι' v c ∧ s.run P w = .ok c w'
theorem PureOK.runOK {P : Program} {M : Mem} {ι : Io} {H : AH} {w : World} {s : Sem Value} {kv : AV → AH → Res} {r : Fin'} (hI : Inv M ι H w) (h : PureOK P M ι w s (fun v => kv v H) r) : RunOK P M ι H w s kv r :=
  let ⟨v, c, h1, h2, h3⟩ := h
  ⟨v, H, M, ι, w, c, h1, .refl hI, h2, h3⟩

section
variable {P : Program} {E : Env} {M : Mem} {ι : Io} {H : AH} {w : World} {r : Fin'}

theorem run_underlying {t : TypeId} {d : TypeDesc} (h : P.underlying t = some d) : (underlying t).run P w = .ok d w := by
  simp [underlying, h]
theorem run_typeInfo {t : TypeId} {d : TypeInfo} (h : P.info? t = some d) : (typeInfo t).run P w = .ok d w := by
  simp [typeInfo, h]
theorem TIOK.run_und {t : TypeId} {i : TI} (h : TIOK P t i) : (underlying t).run P w = .ok i.desc w := run_underlying h.und
theorem TIOK.run_size {t : TypeId} {i : TI} (h : TIOK P t i) : (sizeOf t).run P w = .ok i.size w := by
  obtain ⟨info, h1, h2, _⟩ := h.info
  simp [sizeOf, run_typeInfo h1, h2]
theorem TIOK.run_isAgg {t : TypeId} {i : TI} (h : TIOK P t i) : (isAgg t).run P w = .ok (isAggD i.desc) w := by
  simp only [isAgg, Sem.run_bind, h.run_und, Result.andThen_ok]
  cases i.desc <;> rfl
theorem TIOK.run_zero {t : TypeId} {i : TI} (h : TIOK P t i) : ∃ z, (zeroValue t).run P w = .ok z w ∧ ZeroOK i z ∧ z.cells.size = i.size ∧ (isAggD i.desc = true → ∃ ys, z = .agg ys) ∧ (isAggD i.desc = false → vone z = true) := by
  obtain ⟨info, h1, _, _, ⟨z, hz, h4, h5, h6, h7⟩, _⟩ := h.info
  exact ⟨z, by simp [zeroValue, run_typeInfo h1, hz], h4, h5, h6, h7⟩

theorem vr_ofVal1 (c : Value) : VR M ι (ofVal1 c) c := by
  unfold ofVal1
  split
  · exact .bool _
  · exact .int _ _
  · exact .str _
  · exact .nilp
  · exact .fsNil 0
  · exact .nili
  · exact .nilf
  · exact .nilm
  · exact .fn _ rfl rfl (fun i x y h => by simp at h) (fun i x y h => by simp at h)
  · exact .junk _

theorem vone_of_ofVal1 {c : Value} (h : (ofVal1 c).one = true) : vone c = true := by
  cases c <;> first | rfl | (simp [ofVal1, AV.one] at h)

theorem vr_ofVal (c : Value) : VR M ι (ofVal c) c := by
  unfold ofVal
  split
  · rename_i cs
    split
    · rename_i hall
      refine .agg (by simp) (fun i x y hx hy => ?_) (fun i y hy => ?_)
      · simp only [List.getElem?_map, Option.map_eq_some_iff] at hx
        obtain ⟨c, hc, rfl⟩ := hx
        have : cs[i]? = some y := by simpa using hy
        rw [hc] at this; cases this
        exact vr_ofVal1 _
      · have hm : cs[i]? = some y := by simpa using hy
        exact vone_of_ofVal1 (List.all_eq_true.1 hall y (List.mem_of_getElem? hm))
    · exact .junk _
  · exact vr_ofVal1 c

theorem vr_evalO (hG : GlobOK M) {nt : Nat} {ts : ATs} {a : Act} (h : TR M ι nt ts a.tmps) (x : Operand) : VR M ι (evalO ts x) (a.eval x) := by
  cases x with
  | tmp t => exact h.2 t
  | const v => exact vr_ofVal v
  | global g =>
    exact .fp (cs := (globInts g).map fun p => .int p.1 p.2) none g 0 (fun i => match (globInts g)[i]? with | some p => .int p.1 p.2 | none => undef)
      (fun i x hx => by
        simp only [List.getElem?_map, Option.map_eq_some_iff] at hx
        obtain ⟨p, hp, rfl⟩ := hx
        simp only [hp, Nat.zero_add]
        exact ⟨hG g i p hp, rfl⟩)
      (fun i x hx => by
        simp only [List.getElem?_map, Option.map_eq_some_iff] at hx
        obtain ⟨p, hp, rfl⟩ := hx
        simp only [hp]
        exact .int _ _)
  | func f => exact .fn _ rfl rfl (fun i x y h => by simp at h) (fun i x y h => by simp at h)

theorem VR.int_inv {k : IntKind} {n : Int} {c : Value} (h : VR M ι (.int k n) c) : c = .int k n := by cases h; rfl
theorem VR.bool_inv {b : Bool} {c : Value} (h : VR M ι (.bool b) c) : c = .bool b := by cases h; rfl
theorem VR.str_inv {s : ByteArray} {c : Value} (h : VR M ι (.str s) c) : c = .string s := by cases h; rfl
theorem VR.one_vone {v : AV} {c : Value} (h : VR M ι v c) (hv : v.one = true) : vone c = true := by
  cases h <;> first | rfl | (simp [AV.one] at hv)
theorem isInt_eq {k : IntKind} {v : AV} (hv : v.isInt k = true) : v = .int k v.toInt := by
  cases v <;> simp [AV.isInt] at hv
  subst hv; rfl
theorem isBool_eq {v : AV} (hv : v.isBool = true) : v = .bool v.toBool := by cases v <;> simp [AV.isBool] at hv; rfl
theorem isStr_eq {v : AV} (hv : v.isStr = true) : v = .str v.toStr := by cases v <;> simp [AV.isStr] at hv; rfl
theorem isFs_eq {v : AV} {sz : Nat} (hv : v.isFs sz = true) : v = .fs sz v.toFs v.toFl := by cases v <;> simp [AV.isFs] at hv; subst hv; rfl

theorem etaK_eq {k : CK} {v : AV} {kk : AV → Res} (h : etaK k v kk = some r) : kk v = some r := by
  cases k <;> simp only [etaK] at h
  · obtain ⟨h1, h2⟩ := aIf_none h; rw [isInt_eq h1]; exact h2
  · obtain ⟨h1, h2⟩ := aIf_none h; rw [isBool_eq h1]; exact h2
  · obtain ⟨h1, h2⟩ := aIf_none h; rw [isStr_eq h1]; exact h2
  · exact h
  · exact h
theorem etaFK_eq {k : CK} {v : AV} {kk : AV → Res} (h : etaFK k v kk = some r) : kk v = some r := by
  cases k <;> simp only [etaFK] at h
  case slice sz => obtain ⟨h1, h2⟩ := aIf_none h; rw [isFs_eq h1]; exact h2
  all_goals exact etaK_eq h
theorem etasK_eq {f : CK → AV → (AV → Res) → Res} (hf : ∀ k v (kk : AV → Res) r, f k v kk = some r → kk v = some r) : ∀ (ks : List CK) (vs : List AV) (kk : List AV → Res) (r : Fin'), etasK f ks vs kk = some r → kk vs = some r
  | [], [], kk, r, h => h
  | k :: ks, v :: vs, kk, r, h => by
    rw [etasK] at h
    exact etasK_eq hf ks vs (fun ws => kk (v :: ws)) r (hf k v _ r h)
  | [], v :: vs, kk, r, h => by simp [etasK] at h
  | k :: ks, [], kk, r, h => by simp [etasK] at h

theorem readCells_length (cs : List AV) : ∀ n off, (readCells cs off n).length = n
  | 0, _ => rfl
  | n + 1, off => by simp [readCells, readCells_length cs n]
theorem readCells_get (cs : List AV) : ∀ n off i, i < n → (readCells cs off n)[i]? = some (cs.getD (off + i) .junk)
  | n + 1, off, 0, _ => by simp [readCells]
  | n + 1, off, i + 1, h => by
    simp only [readCells, List.getElem?_cons_succ]
    rw [readCells_get cs n (off + 1) i (by omega)]
    congr 2; omega

theorem putc_get (l cs : List AV) (off i : Nat) (h : off + l.length ≤ cs.length) : (cs.take off ++ (l ++ cs.drop (off + l.length)))[i]? = if off ≤ i ∧ i < off + l.length then l[i - off]? else cs[i]? := by
  have ht : (cs.take off).length = off := by simp; omega
  by_cases h1 : i < off
  · rw [List.getElem?_append_left (by omega), if_neg (by omega), List.getElem?_take_of_lt h1]
  · rw [List.getElem?_append_right (by omega), ht]
    by_cases h2 : i < off + l.length
    · rw [List.getElem?_append_left (by omega), if_pos (by omega)]
    · rw [List.getElem?_append_right (by omega), if_neg (by omega), List.getElem?_drop]
      congr 1; omega
theorem writeCells_length (l cs : List AV) (off : Nat) (h : off + l.length ≤ cs.length) : (writeCells cs off l).length = cs.length := by
  match l, h with
  | [], _ => rfl
  | [v], _ => simp [writeCells]
  | v :: w :: r, h =>
    simp only [writeCells, List.length_append, List.length_take, List.length_drop]
    omega
theorem writeCells_get (l cs : List AV) (off i : Nat) (h : off + l.length ≤ cs.length) : (writeCells cs off l)[i]? = if off ≤ i ∧ i < off + l.length then l[i - off]? else cs[i]? := by
  match l, h with
  | [], _ => simp [writeCells]; intro h1 h2; omega
  | [v], h =>
    have hl : off < cs.length := by simp at h; omega
    show (cs.set off v)[i]? = _
    by_cases h1 : i = off
    · subst h1
      rw [if_pos (by simp), List.getElem?_set_self hl]; simp
    · rw [if_neg (by simp; omega), List.getElem?_set_ne (fun e => h1 e.symm)]
  | v :: w :: r, h => exact putc_get (v :: w :: r) cs off i h

theorem splice_get {α : Type} (l vs : List α) (o i : Nat) (h : o + vs.length ≤ l.length) :
    (l.take o ++ vs ++ l.drop (o + vs.length))[i]? = if o ≤ i ∧ i < o + vs.length then vs[i - o]? else l[i]? := by
  rw [List.append_assoc]
  by_cases h1 : i < o
  · rw [if_neg (by omega), List.getElem?_append_left (by simp; omega), List.getElem?_take_of_lt h1]
  · rw [List.getElem?_append_right (by simp; omega)]
    simp only [List.length_take]
    rw [Nat.min_eq_left (by omega)]
    by_cases h2 : i < o + vs.length
    · rw [if_pos (by omega), List.getElem?_append_left (by omega)]
    · rw [if_neg (by omega), List.getElem?_append_right (by omega), List.getElem?_drop]
      congr 1; omega

/-- A value's cells. -/
theorem VR.cells {x : AV} {c : Value} (h : VR M ι x c) (hs : x.solid = true) : x.cells.length = c.cells.size ∧ ∀ (i : Nat) (y : AV) (z : Value), x.cells[i]? = some y → c.cells[i]? = some z → VR M ι y z ∧ vone z = true := by
  have one : ∀ {x : AV} {c : Value}, VR M ι x c → x.cells = [x] → c.cells = #[c] → vone c = true → x.cells.length = c.cells.size ∧ ∀ (i : Nat) (y : AV) (z : Value), x.cells[i]? = some y → c.cells[i]? = some z → VR M ι y z ∧ vone z = true := by
    intro x c h hx hc ho
    rw [hx, hc]
    refine ⟨rfl, fun i y z hy hz => ?_⟩
    cases i with
    | zero => simp at hy hz; subst hy; subst hz; exact ⟨h, ho⟩
    | succ i => simp at hy
  cases h with
  | junk c => simp [AV.solid] at hs
  | tup h1 h2 => simp [AV.solid] at hs
  | agg h1 h2 h3 => exact ⟨h1, fun i y z hy hz => ⟨h2 i y z hy hz, h3 i z hz⟩⟩
  | bool b => exact one (.bool b) rfl rfl rfl
  | int k n => exact one (.int k n) rfl rfl rfl
  | str s => exact one (.str s) rfl rfl rfl
  | nilp => exact one .nilp rfl rfl rfl
  | ptr off h => exact one (.ptr off h) rfl rfl rfl
  | fp sp b o g h1 h2 => exact one (.fp sp b o g h1 h2) rfl rfl rfl
  | sl o cap h1 h2 h3 h4 => exact one (.sl o cap h1 h2 h3 h4) rfl rfl rfl
  | fsNil sz => exact one (.fsNil sz) rfl rfl rfl
  | fsZc sz za => exact one (.fsZc sz za) rfl rfl rfl
  | fsAny hf b o cap g h1 h2 h3 h4 => exact one (.fsAny hf b o cap g h1 h2 h3 h4) rfl rfl rfl
  | fn f h1 h2 h3 h4 => exact one (.fn f h1 h2 h3 h4) rfl rfl rfl
  | yld h => exact one (.yld h) rfl rfl rfl
  | nilf => exact one .nilf rfl rfl rfl
  | mp h => exact one (.mp h) rfl rfl rfl
  | nilm => exact one .nilm rfl rfl rfl
  | iface t h => exact one (.iface t h) rfl rfl rfl
  | nili => exact one .nili rfl rfl rfl

theorem oneCell'_of_vone {c : Value} (h : vone c = true) : c.oneCell' = true := by cases c <;> first | rfl | (simp [vone] at h)

/-- The cells of a row of ours, as the world has them. -/
theorem Inv.row (hI : Inv M ι H w) {id ver : Nat} {cs : List AV} (ho : H[id]? = some (.cells ver cs)) :
    ∃ b n c t, ι id ver = some (b, n) ∧ w.heap[b]? = some (.cells c t (0, 0)) ∧ c.size = n ∧ cs.length ≤ n ∧ (ver ≠ 0 → cs.length = ver) ∧
      (∀ (i : Nat) (x : AV), cs[i]? = some x → ∃ v : Value, c[i]? = some v ∧ w.cell? ⟨b, i, none⟩ = some v ∧ VR M ι x v ∧ vone v = true) ∧ owns ι H b := by
  obtain ⟨b, n, c, t, h1, h2, h3, h5, h6, h7, h8⟩ := hI.obj id _ ho
  refine ⟨b, n, c, t, h1, h2, h3, h5, h6, fun i x hx => ?_, ⟨id, _, n, ho, h1⟩⟩
  obtain ⟨v, a1, a2, a3⟩ := h7 i x hx
  exact ⟨v, a1, by simp [World.cell?, h2, a1], a2, a3⟩

theorem aLoadK_pure {t : TypeId} {a : AV} {c : Value} {kv : AV → AH → Res} (hE : EnvOK P E) (hI : Inv M ι H w) (ha : VR M ι a c) (h : aLoadK E t a H kv = some r) :
    PureOK P M ι w (Instr.loadAt t c) (fun v => kv v H) r := by
  unfold aLoadK at h
  split at h
  · cases h
  rename_i i hi
  have hT := hE t i hi
  split at h
  · -- a row that may be written
    rename_i id ver off
    split at h
    · rename_i v cs ho
      · have hq := aIf_none h
        clear h
        obtain ⟨hv, h⟩ := hq
        obtain rfl : v = ver := by simpa using hv
        obtain ⟨hle, h⟩ := aIf_none h
        have hle : off + i.size ≤ cs.length := by simpa using hle
        have h := etasK_eq (fun _ _ _ _ => etaK_eq) _ _ _ _ h
        obtain ⟨b, n, c', t', hb, hh, hn, hcs, hvv, hrow, _⟩ := hI.row ho
        cases ha with
        | ptr _ hp =>
          rw [hb] at hp; cases hp
          have hcell : ∀ j, j < i.size → ∃ v : Value, w.cell? ⟨b, off + j, none⟩ = some v ∧ VR M ι (cs.getD (off + j) .junk) v ∧ vone v = true := by
            intro j hj
            obtain ⟨v, _, h2, h3, h4⟩ := hrow (off + j) (cs[off + j]'(by omega)) (List.getElem?_eq_getElem (by omega))
            refine ⟨v, h2, ?_, h4⟩
            rw [List.getD_eq_getElem?_getD, List.getElem?_eq_getElem (by omega)]
            exact h3
          let f : Nat → Value := fun j => if hj : j < i.size then (hcell j hj).choose else undef
          have hf : ∀ j (hj : j < i.size), f j = (hcell j hj).choose := fun j hj => by simp [f, hj]
          have hfs : ∀ j, j < i.size → w.cell? ⟨b, off + j, none⟩ = some (f j) ∧ VR M ι (cs.getD (off + j) .junk) (f j) ∧ vone (f j) = true := by
            intro j hj
            rw [hf j hj]
            exact (hcell j hj).choose_spec
          have hlc : (loadCells ⟨b, off, none⟩ i.size).run P w = .ok ((List.range i.size).map f).toArray w :=
            run_loadCells w ⟨b, off, none⟩ i.size f (fun j hj => by rw [Addr.add_lit]; exact (hfs j hj).1)
          cases hag : isAggD i.desc with
          | true =>
            refine ⟨_, .agg ((List.range i.size).map f).toArray, h, ?_, ?_⟩
            · simp only [asVal, hag]
              refine .agg (by simp [readCells_length]) (fun j x y hx hy => ?_) (fun j y hy => ?_)
              · have hj : j < i.size := by have := (List.getElem?_eq_some_iff.1 hx).1; rwa [readCells_length] at this
                rw [readCells_get _ _ _ _ hj] at hx; cases hx
                simp [hj] at hy; subst hy
                exact (hfs j hj).2.1
              · have hj : j < i.size := by have := (Array.getElem?_eq_some_iff.1 hy).1; simpa using this
                simp [hj] at hy; subst hy
                exact (hfs j hj).2.2
            · simp [Instr.loadAt, Instr.sureAddr, loadVar, hT.run_isAgg, hag, hT.run_size, hlc]
          | false =>
            have h1 : i.size = 1 := hT.scalar hag
            refine ⟨_, f 0, h, ?_, ?_⟩
            · simp only [asVal, hag, h1, readCells]
              exact (hfs 0 (by omega)).2.1
            · have := (hfs 0 (by omega)).1
              simp only [Nat.add_zero] at this
              simp [Instr.loadAt, Instr.sureAddr, loadVar, hT.run_isAgg, hag, this]
    · cases h
  · -- memory that stands by value
    rename_i cs
    obtain ⟨hle, h⟩ := aIf_none h
    have hle : i.size ≤ cs.length := by simpa using hle
    have h := etasK_eq (fun _ _ _ _ => etaFK_eq) _ _ _ _ h
    cases ha with
    | fp sp b o g h1 h2 =>
      have hfs : ∀ j, j < i.size → w.cell? ⟨b, o + j, none⟩ = some (g j) ∧ VR M ι (cs.getD (0 + j) .junk) (g j) ∧ vone (g j) = true := by
        intro j hj
        have hx : cs[j]? = some (cs[j]'(by omega)) := List.getElem?_eq_getElem (by omega)
        refine ⟨hI.mem _ _ (h1 j _ hx).1, ?_, (h1 j _ hx).2⟩
        rw [Nat.zero_add, List.getD_eq_getElem?_getD, hx]
        exact (h2 j _ hx).mono (fun _ _ h => h) (fun _ _ _ h => by cases h)
      have hlc : (loadCells ⟨b, o, none⟩ i.size).run P w = .ok ((List.range i.size).map g).toArray w :=
        run_loadCells w ⟨b, o, none⟩ i.size g (fun j hj => by rw [Addr.add_lit]; exact (hfs j hj).1)
      cases hag : isAggD i.desc with
      | true =>
        refine ⟨_, .agg ((List.range i.size).map g).toArray, h, ?_, ?_⟩
        · simp only [asVal, hag]
          refine .agg (by simp [readCells_length]) (fun j x y hx hy => ?_) (fun j y hy => ?_)
          · have hj : j < i.size := by have := (List.getElem?_eq_some_iff.1 hx).1; rwa [readCells_length] at this
            rw [readCells_get _ _ _ _ hj] at hx; cases hx
            simp [hj] at hy; subst hy
            exact (hfs j hj).2.1
          · have hj : j < i.size := by have := (Array.getElem?_eq_some_iff.1 hy).1; simpa using this
            simp [hj] at hy; subst hy
            exact (hfs j hj).2.2
        · simp [Instr.loadAt, Instr.sureAddr, loadVar, hT.run_isAgg, hag, hT.run_size, hlc]
      | false =>
        have h1 : i.size = 1 := hT.scalar hag
        refine ⟨_, g 0, h, ?_, ?_⟩
        · simp only [asVal, hag, h1, readCells]
          exact (hfs 0 (by omega)).2.1
        · have := (hfs 0 (by omega)).1
          simp only [Nat.add_zero] at this
          simp [Instr.loadAt, Instr.sureAddr, loadVar, hT.run_isAgg, hag, this]
  · cases h

/-- Cells written into a row of ours. -/
theorem aLoadK_ok {t : TypeId} {a : AV} {c : Value} {kv : AV → AH → Res} (hE : EnvOK P E) (hI : Inv M ι H w) (ha : VR M ι a c) (h : aLoadK E t a H kv = some r) :
    RunOK P M ι H w (Instr.loadAt t c) kv r := (aLoadK_pure hE hI ha h).runOK hI

theorem Inv.write (hI : Inv M ι H w) {id ver : Nat} {cs : List AV} (ho : H[id]? = some (.cells ver cs)) {b n : Nat} {c : Array Value} {t : TypeId} (hb : ι id ver = some (b, n))
    (hh : w.heap[b]? = some (.cells c t (0, 0))) (off : Nat) (xs : List AV) (vs : List Value) (hl : xs.length = vs.length) (hle : off + xs.length ≤ cs.length)
    (hv : ∀ (i : Nat) (y : AV) (z : Value), xs[i]? = some y → vs[i]? = some z → VR M ι y z ∧ vone z = true) (cs' : List AV) (hcs' : cs'.length = cs.length)
    (hget : ∀ i, cs'[i]? = if off ≤ i ∧ i < off + xs.length then xs[i - off]? else cs[i]?) :
    Stp M ι H w M ι (H.set id (.cells ver cs')) (w.setRow b (c.toList.take off ++ vs ++ c.toList.drop (off + vs.length)).toArray) := by
  obtain ⟨b', n', c', t', h1, h2, h3, h5, h6, h7, h8⟩ := hI.obj id _ ho
  rw [hb] at h1; cases h1
  rw [hh] at h2; cases h2
  have hι : ι.ext id ver b n = ι := by
    funext i v
    by_cases hk : i = id ∧ v = ver
    · obtain ⟨rfl, rfl⟩ := hk; rw [Io.ext_self, hb]
    · exact Io.ext_ne _ _ _ _ _ hk
  have key := Stp.turn (w' := w.setRow b (c.toList.take off ++ vs ++ c.toList.drop (off + vs.length)).toArray) hI ho (o' := .cells ver cs') hb (Nat.le_refl _) (fun _ => ⟨rfl, rfl⟩) (.inl rfl)
    (fun k _ hk => setRow_other w b k _ hk) (by simp) rfl rfl rfl ?_
  · simpa [AO.ver, hι] using key
  · simp only [AO.ver, hι]
    refine ⟨b, n, _, t, hb, setRow_heap w b c _ t (0, 0) hh, ?_, by rw [hcs']; exact h5, by rw [hcs']; exact h6, fun i x hx => ?_, h8⟩
    · simp; omega
    · have hsz : off + vs.length ≤ c.toList.length := by simp; omega
      simp only [List.getElem?_toArray]
      rw [splice_get _ _ _ _ hsz]
      rw [hget i] at hx
      by_cases hin : off ≤ i ∧ i < off + xs.length
      · rw [if_pos hin] at hx
        rw [if_pos (by omega)]
        obtain ⟨z, hz⟩ : ∃ z, vs[i - off]? = some z := ⟨_, List.getElem?_eq_getElem (by omega)⟩
        exact ⟨z, hz, hv _ _ _ hx hz⟩
      · rw [if_neg hin] at hx
        rw [if_neg (by omega)]
        obtain ⟨v, a1, a2, a3⟩ := h7 i x hx
        exact ⟨v, by simpa using a1, a2, a3⟩

theorem aStoreK_ok {t : TypeId} {a x : AV} {c d : Value} {kv : AV → AH → Res} (hE : EnvOK P E) (hI : Inv M ι H w) (ha : VR M ι a c) (hx : VR M ι x d) (h : aStoreK E t a x H kv = some r) :
    ∃ v H' M' ι' w', kv v H' = some r ∧ Stp M ι H w M' ι' H' w' ∧ v = .tup [] ∧ (Instr.storeAt t c d).run P w = .ok () w' := by
  unfold aStoreK at h
  split at h
  · cases h
  rename_i i hi
  have hT := hE t i hi
  split at h
  · rename_i id ver off
    split at h
    · rename_i v cs ho
      split at h
      · rename_i hv
        simp only [Bool.and_eq_true, beq_iff_eq] at hv
        obtain ⟨hs, hsz⟩ := hv
        have hq := aIf_none h
        clear h
        obtain ⟨hvv, h⟩ := hq
        obtain rfl : v = ver := by simpa using hvv
        obtain ⟨hle, h⟩ := aIf_none h
        have hle : off + i.size ≤ cs.length := by simpa using hle
        obtain ⟨b, n, c', t', hb, hh, hn, hcs, hvv, hrow, _⟩ := hI.row ho
        obtain ⟨hl, hxs⟩ := hx.cells hs
        cases ha with
        | ptr _ hp =>
          rw [hb] at hp; cases hp
          refine ⟨_, _, M, ι, _, h, hI.write ho hb hh off x.cells d.cells.toList (by simpa using hl) (by omega) (fun i y z hy hz => hxs i y z hy (by simpa using hz)) _ (writeCells_length _ _ _ (by omega)) (fun i => writeCells_get _ _ _ _ (by omega)), rfl, ?_⟩
          have hst := run_storeCells_at P b off t' d.cells.toList 0 c' w hh (by simp; omega) (fun v hv => by
            obtain ⟨j, hj⟩ := List.mem_iff_getElem?.1 hv
            have hj' : d.cells[j]? = some v := by simpa using hj
            have hjl : j < x.cells.length := by rw [hl]; exact (Array.getElem?_eq_some_iff.1 hj').1
            exact oneCell'_of_vone (hxs j _ v (List.getElem?_eq_getElem hjl) hj').2)
          simp only [Nat.add_zero] at hst
          have hc : d.cells.size = i.size := by omega
          simp [Instr.storeAt, Instr.sureAddr, storeVar, hT.run_size, hc, hst]
      · cases h
    · cases h
  · cases h

end
end Go.Abs
