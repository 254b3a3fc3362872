/- The relation between the evaluator's values and rows and the model's values and memory; what a step keeps. -/
import Derived.Test.YteaceebonkpipaaA1
import Derived.RangeFuncLeaves
import Derived.RangeFuncCalls
import Derived.LoopNIn
import Derived.Below
import Derived.Laws.World
import Derived.Laws.Sem
import Derived.Laws.AppendOwn
import Derived.Laws.CopyRow
namespace Go.Abs

abbrev Io := Nat → Nat → Option (Nat × Nat)
abbrev Mem := Addr → Option Value
def io0 : Io := fun _ _ => none
inductive VR (M : Mem) : Io → AV → Value → Prop
  | junk {ι} (c : Value) : VR M ι .junk c
  | bool {ι} (b : Bool) : VR M ι (.bool b) (.bool b)
  | int {ι} (k : IntKind) (n : Int) : VR M ι (.int k n) (.int k n)
  | str {ι} (s : ByteArray) : VR M ι (.str s) (.string s)
  | nilp {ι} : VR M ι .nilp (.pointer none)
  | ptr {ι : Io} {id ver : Nat} (off : Nat) {b n : Nat} : ι id ver = some (b, n) → VR M ι (.ptr id ver off) (.pointer (some ⟨b, off, none⟩))
  | fp {ι} {cs : List AV} (sp : Option Nat) (b o : Nat) (g : Nat → Value) :
      (∀ (i : Nat) (x : AV), cs[i]? = some x → M ⟨b, o + i, sp⟩ = some (g i) ∧ vone (g i) = true) → (∀ (i : Nat) (x : AV), cs[i]? = some x → VR M io0 x (g i)) →
      VR M ι (.fp cs) (.pointer (some ⟨b, o, none⟩))
  | sl {ι : Io} {id ver off len sz : Nat} (o cap : Nat) {b n : Nat} : ι id ver = some (b, n) → len ≤ cap → (cap = 0 ∨ o = off) →
      (off = 0 → ver ≠ 0 → len * sz ≤ ver ∧ ver ≤ cap * sz ∧ cap * sz ≤ n) → VR M ι (.sl id ver off len sz) (.slice (some ⟨b, o, none⟩) len cap)
  | fsNil {ι} (sz : Nat) : VR M ι (.fs sz [] .nil) (.slice none 0 0)
  | fsZc {ι} (sz : Nat) (za : Addr) : VR M ι (.fs sz [] .zc) (.slice (some za) 0 0)
  | fsAny {ι} {sz : Nat} {xs : List AV} {fl : SF} (hf : fl.mem = true) (b o cap : Nat) (g : Nat → Nat → Value) : xs.length ≤ cap →
      (∀ (i : Nat) (x : AV), xs[i]? = some x → x.cells.length = sz) →
      (∀ (i : Nat) (x : AV) (j : Nat) (y : AV), xs[i]? = some x → x.cells[j]? = some y → M ⟨b, o + i * sz + j, fl.spot⟩ = some (g i j) ∧ vone (g i j) = true) →
      (∀ (i : Nat) (x : AV) (j : Nat) (y : AV), xs[i]? = some x → x.cells[j]? = some y → VR M io0 y (g i j)) →
      VR M ι (.fs sz xs fl) (.slice (some ⟨b, o, none⟩) xs.length cap)
  | fn {ι} (f : Fn) {a c : List AV} {a' c' : Array Value} : a.length = a'.size → c.length = c'.size →
      (∀ (i : Nat) (x : AV) (y : Value), a[i]? = some x → a'[i]? = some y → VR M ι x y) → (∀ (i : Nat) (x : AV) (y : Value), c[i]? = some x → c'[i]? = some y → VR M ι x y) →
      VR M ι (.fn f a c) (.func f a' c')
  | yld {ι : Io} {id b n : Nat} : ι id 0 = some (b, n) → VR M ι (.yld id) (.func (.yield b) #[] #[])
  | nilf {ι} : VR M ι .nilf .nilFunc
  | mp {ι : Io} {id b n : Nat} : ι id 0 = some (b, n) → VR M ι (.mp id) (.map (some b))
  | nilm {ι} : VR M ι .nilm (.map none)
  | iface {ι} (t : TypeId) {v : AV} {c : Value} : VR M ι v c → VR M ι (.iface t v) (.iface t c)
  | nili {ι} : VR M ι .nili .nilIface
  | agg {ι} {cs : List AV} {ys : Array Value} : cs.length = ys.size → (∀ (i : Nat) (x : AV) (y : Value), cs[i]? = some x → ys[i]? = some y → VR M ι x y) →
      (∀ (i : Nat) (y : Value), ys[i]? = some y → vone y = true) → VR M ι (.agg cs) (.agg ys)
  | tup {ι} {vs : List AV} {ys : Array Value} : vs.length = ys.size → (∀ (i : Nat) (x : AV) (y : Value), vs[i]? = some x → ys[i]? = some y → VR M ι x y) → VR M ι (.tup vs) (.tuple ys)

theorem VR.mono {M M' : Mem} {ι : Io} {x : AV} {c : Value} (h : VR M ι x c) (hM : ∀ a v, M a = some v → M' a = some v) :
    ∀ {ι' : Io}, (∀ i v p, ι i v = some p → ι' i v = some p) → VR M' ι' x c := by
  induction h with
  | junk c => intro _ _; exact .junk c
  | bool b => intro _ _; exact .bool b
  | int k n => intro _ _; exact .int k n
  | str s => intro _ _; exact .str s
  | nilp => intro _ _; exact .nilp
  | ptr off h => intro _ hι; exact .ptr off (hι _ _ _ h)
  | fp sp b o g h1 _ ih => intro _ _; exact .fp sp b o g (fun i x hx => ⟨hM _ _ (h1 i x hx).1, (h1 i x hx).2⟩) (fun i x hx => ih i x hx (fun _ _ _ h => h))
  | sl o cap h1 h2 h3 h4 => intro _ hι; exact .sl o cap (hι _ _ _ h1) h2 h3 h4
  | fsNil sz => intro _ _; exact .fsNil sz
  | fsZc sz za => intro _ _; exact .fsZc sz za
  | fsAny hf b o cap g h1 h2 h3 _ ih => intro _ _; exact .fsAny hf b o cap g h1 h2 (fun i x j y hx hy => ⟨hM _ _ (h3 i x j y hx hy).1, (h3 i x j y hx hy).2⟩) (fun i x j y hx hy => ih i x j y hx hy (fun _ _ _ h => h))
  | fn f h1 h2 _ _ ih1 ih2 => intro _ hι; exact .fn f h1 h2 (fun i x y hx hy => ih1 i x y hx hy hι) (fun i x y hx hy => ih2 i x y hx hy hι)
  | yld h => intro _ hι; exact .yld (hι _ _ _ h)
  | nilf => intro _ _; exact .nilf
  | mp h => intro _ hι; exact .mp (hι _ _ _ h)
  | nilm => intro _ _; exact .nilm
  | iface t _ ih => intro _ hι; exact .iface t (ih hι)
  | nili => intro _ _; exact .nili
  | agg h1 _ h3 ih => intro _ hι; exact .agg h1 (fun i x y hx hy => ih i x y hx hy hι) h3
  | tup h1 _ ih => intro _ hι; exact .tup h1 (fun i x y hx hy => ih i x y hx hy hι)

theorem closedL_mem {l : List AV} (h : AV.closedL l = true) : ∀ x ∈ l, x.closed = true := by
  induction l with
  | nil => intro x hx; cases hx
  | cons v r ih =>
    rw [AV.closedL, Bool.and_eq_true] at h
    intro x hx
    cases hx with
    | head => exact h.1
    | tail _ hx => exact ih h.2 x hx

/-- What names no row stands wherever rows lie. -/
theorem VR.free {M : Mem} {ι : Io} {x : AV} {c : Value} (h : VR M ι x c) (hc : x.closed = true) (ι' : Io) : VR M ι' x c := by
  induction h with
  | junk c => exact .junk c
  | bool b => exact .bool b
  | int k n => exact .int k n
  | str s => exact .str s
  | nilp => exact .nilp
  | ptr off h => simp [AV.closed] at hc
  | fp sp b o g h1 h2 _ => exact .fp sp b o g h1 h2
  | sl => simp [AV.closed] at hc
  | fsNil sz => exact .fsNil sz
  | fsZc sz za => exact .fsZc sz za
  | fsAny hf b o cap g h1 h2 h3 h4 _ => exact .fsAny hf b o cap g h1 h2 h3 h4
  | fn f h1 h2 _ _ ih1 ih2 =>
    rw [AV.closed, Bool.and_eq_true] at hc
    exact .fn f h1 h2 (fun i x y hx hy => ih1 i x y hx hy (closedL_mem hc.1 x (List.mem_of_getElem? hx))) (fun i x y hx hy => ih2 i x y hx hy (closedL_mem hc.2 x (List.mem_of_getElem? hx)))
  | yld => simp [AV.closed] at hc
  | nilf => exact .nilf
  | mp h => simp [AV.closed] at hc
  | nilm => exact .nilm
  | iface t _ ih => exact .iface t (ih (by simpa [AV.closed] using hc))
  | nili => exact .nili
  | agg h1 _ h3 ih =>
    rw [AV.closed] at hc
    exact .agg h1 (fun i x y hx hy => ih i x y hx hy (closedL_mem hc x (List.mem_of_getElem? hx))) h3
  | tup h1 _ ih =>
    rw [AV.closed] at hc
    exact .tup h1 (fun i x y hx hy => ih i x y hx hy (closedL_mem hc x (List.mem_of_getElem? hx)))

def VRs (M : Mem) (ι : Io) (xs : List AV) (ys : Array Value) : Prop := xs.length = ys.size ∧ ∀ (i : Nat) (x : AV) (y : Value), xs[i]? = some x → ys[i]? = some y → VR M ι x y
theorem VRs.mono {M M' : Mem} {ι ι' : Io} {x : List AV} {c : Array Value} (h : VRs M ι x c) (hM : ∀ a v, M a = some v → M' a = some v) (hι : ∀ i v p, ι i v = some p → ι' i v = some p) : VRs M' ι' x c :=
  ⟨h.1, fun i a b ha hb => (h.2 i a b ha hb).mono hM hι⟩
theorem VRs.free {M : Mem} {ι : Io} {x : List AV} {c : Array Value} (h : VRs M ι x c) (hc : AV.closedL x = true) (ι' : Io) : VRs M ι' x c :=
  ⟨h.1, fun i a b ha hb => (h.2 i a b ha hb).free (closedL_mem hc a (List.mem_of_getElem? ha)) ι'⟩

/-- A frame's temporaries. -/
def TR (M : Mem) (ι : Io) (nt : Nat) (ts : ATs) (tmps : Array Value) : Prop := tmps.size = nt ∧ ∀ t : Nat, VR M ι (ts.get t) (tmps.getD t undef)
theorem TR.mono {M M' : Mem} {ι ι' : Io} {nt : Nat} {ts : ATs} {tmps : Array Value} (h : TR M ι nt ts tmps) (hM : ∀ a v, M a = some v → M' a = some v) (hι : ∀ i v p, ι i v = some p → ι' i v = some p) : TR M' ι' nt ts tmps :=
  ⟨h.1, fun t => (h.2 t).mono hM hι⟩

def AO.ver : AO → Nat
  | .cells v _ => v
  | .dead v => v
  | _ => 0

def ObjOK (M : Mem) (ι : Io) (w : World) (id : Nat) : AO → Prop
  | .cells ver cs => ∃ b n c t, ι id ver = some (b, n) ∧ w.heap[b]? = some (.cells c t (0, 0)) ∧ c.size = n ∧ cs.length ≤ n ∧ (ver ≠ 0 → cs.length = ver) ∧
      (∀ (i : Nat) (x : AV), cs[i]? = some x → ∃ v : Value, c[i]? = some v ∧ VR M ι x v ∧ vone v = true) ∧ (∀ a, a.block = b → M a = none)
  | .iter s pos => ∃ b n, ι id 0 = some (b, n) ∧ w.heap[b]? = some (.stringIter s pos)
  | .dead ver => ∃ b n x, ι id ver = some (b, n) ∧ w.heap[b]? = some x ∧ ∀ d, x ≠ .deferred d
  | .mp es => ∃ b n ents clock, ι id 0 = some (b, n) ∧ w.heap[b]? = some (.map ents clock) ∧ ents.size = es.length ∧
      ∀ (i : Nat) (x : AV × AV) (e : MapEntry), es[i]? = some x → ents[i]? = some e → VR M io0 x.1 e.key ∧ VR M io0 x.2 e.val
  | .loop st pend nt ts key => ∃ b n fn tmps db ps assign body, ι id 0 = some (b, n) ∧
      w.heap[b]? = some (.loop { state := st, pending := pend, fn, tmps, params := ps.toArray, assign, body, defers := db }) ∧ recTab key = some (ps, assign, body) ∧ (1000000000 ≤ key → fn = (key - 1000000000) / 10000) ∧ TR M ι nt ts tmps

def owns (ι : Io) (H : AH) (b : Nat) : Prop := ∃ (id : Nat) (o : AO) (n : Nat), H[id]? = some o ∧ ι id o.ver = some (b, n)

/-- Package variables lie still. -/
def GlobOK (M : Mem) : Prop := ∀ (g i : Nat) (x : IntKind × Int), (globInts g)[i]? = some x → M ⟨g, i, none⟩ = some (.int x.1 x.2)
theorem GlobOK.mono {M M' : Mem} (h : GlobOK M) (hM : ∀ a v, M a = some v → M' a = some v) : GlobOK M' := fun g i x hx => hM _ _ (h g i x hx)

/-- The address of a shadow. -/
abbrev _root_.Go.Addr.real (a : Addr) : Addr := ⟨a.block, a.off, none⟩

structure Inv (M : Mem) (ι : Io) (H : AH) (w : World) : Prop where
  mem : ∀ a v, M a = some v → w.cell? a.real = some v
  dom : ∀ id v p, ι id v = some p → ∃ o, H[id]? = some o ∧ v ≤ o.ver
  obj : ∀ (id : Nat) (o : AO), H[id]? = some o → ObjOK M ι w id o
  inj : ∀ (i j : Nat) (o p : AO) (b n n' : Nat), H[i]? = some o → H[j]? = some p → ι i o.ver = some (b, n) → ι j p.ver = some (b, n') → i = j
  glob : GlobOK M

/-- What a step of the machine's keeps, as the evaluator sees it. -/
structure Stp (M : Mem) (ι : Io) (H : AH) (w : World) (M' : Mem) (ι' : Io) (H' : AH) (w' : World) : Prop where
  io : ∀ i v p, ι i v = some p → ι' i v = some p
  mem : ∀ a v, M a = some v → M' a = some v
  newmem : ∀ a v, M' a = some v → M a = none → w.heap.size ≤ a.block ∨ owns ι H a.block
  inv : Inv M' ι' H' w'
  keep : ∀ b, b < w.heap.size → ¬ owns ι H b → w'.heap[b]? = w.heap[b]?
  own : ∀ b, b < w.heap.size → owns ι' H' b → owns ι H b
  size : w.heap.size ≤ w'.heap.size
  os : w'.os = w.os
  tape : w'.tape = w.tape
  output : w'.output = w.output

theorem Stp.refl {M : Mem} {ι : Io} {H : AH} {w : World} (h : Inv M ι H w) : Stp M ι H w M ι H w :=
  ⟨fun _ _ _ h => h, fun _ _ h => h, fun a v h1 h2 => (by rw [h1] at h2; cases h2), h, fun _ _ _ => rfl, fun _ _ h => h, Nat.le_refl _, rfl, rfl, rfl⟩

theorem Stp.trans {M M1 M2 : Mem} {ι ι1 ι2 : Io} {H H1 H2 : AH} {w w1 w2 : World} (h : Stp M ι H w M1 ι1 H1 w1) (k : Stp M1 ι1 H1 w1 M2 ι2 H2 w2) : Stp M ι H w M2 ι2 H2 w2 where
  io i v p hp := k.io _ _ _ (h.io _ _ _ hp)
  mem a v hv := k.mem _ _ (h.mem _ _ hv)
  newmem a v hv hn := by
    cases h1 : M1 a with
    | some u => exact h.newmem a u h1 hn
    | none =>
      rcases k.newmem a v hv h1 with hs | ho
      · exact .inl (Nat.le_trans h.size hs)
      · rcases Nat.lt_or_ge a.block w.heap.size with hlt | hge
        · exact .inr (h.own _ hlt ho)
        · exact .inl hge
  inv := k.inv
  keep b hb hn := by
    rw [k.keep b (Nat.lt_of_lt_of_le hb h.size) (fun ho => hn (h.own b hb ho)), h.keep b hb hn]
  own b hb ho := h.own b hb (k.own b (Nat.lt_of_lt_of_le hb h.size) ho)
  size := Nat.le_trans h.size k.size
  os := k.os.trans h.os
  tape := k.tape.trans h.tape
  output := k.output.trans h.output

theorem Inv.owned_lt {M : Mem} {ι : Io} {H : AH} {w : World} (h : Inv M ι H w) {b : Nat} (ho : owns ι H b) : b < w.heap.size := by
  obtain ⟨id, o, n, hid, hb⟩ := ho
  have hO := h.obj id o hid
  cases o with
  | cells ver cs =>
    obtain ⟨b', n', c, t, h1, h2, _⟩ := hO
    simp only [AO.ver] at hb
    rw [h1] at hb; cases hb
    exact (Array.getElem?_eq_some_iff.1 h2).1
  | iter s pos =>
    obtain ⟨b', n', h1, h2⟩ := hO
    simp only [AO.ver] at hb
    rw [h1] at hb; cases hb
    exact (Array.getElem?_eq_some_iff.1 h2).1
  | loop st pend nt ts key =>
    obtain ⟨b', n', fn, tmps, db, ps, assign, body, h1, h2, _⟩ := hO
    simp only [AO.ver] at hb
    rw [h1] at hb; cases hb
    exact (Array.getElem?_eq_some_iff.1 h2).1
  | dead ver =>
    obtain ⟨b', n', x, h1, h2, _⟩ := hO
    simp only [AO.ver] at hb
    rw [h1] at hb; cases hb
    exact (Array.getElem?_eq_some_iff.1 h2).1
  | mp es =>
    obtain ⟨b', n', ents, clock, h1, h2, _⟩ := hO
    simp only [AO.ver] at hb
    rw [h1] at hb; cases hb
    exact (Array.getElem?_eq_some_iff.1 h2).1

theorem Inv.mem_block {M : Mem} {ι : Io} {H : AH} {w : World} (h : Inv M ι H w) {a : Addr} {v : Value} (hv : M a = some v) : ∃ c t fr, w.heap[a.block]? = some (.cells c t fr) := by
  have := h.mem a v hv
  unfold World.cell? at this
  split at this
  · exact ⟨_, _, _, by assumption⟩
  · cases this

/-- No cell that stands by value lies in a living row of ours. -/
theorem Inv.mem_live {M : Mem} {ι : Io} {H : AH} {w : World} (h : Inv M ι H w) {a : Addr} {id n : Nat} {o : AO} (hid : H[id]? = some o) (hb : ι id o.ver = some (a.block, n)) (hd : ∀ v, o ≠ .dead v := by intro v h; cases h) : M a = none := by
  have hO := h.obj id o hid
  cases hm : M a with
  | none => rfl
  | some v =>
    obtain ⟨c', t', fr', hc⟩ := h.mem_block hm
    cases o with
    | cells ver cs =>
      obtain ⟨b', n', c, t, h1, h2, _, _, _, _, h8⟩ := hO
      simp only [AO.ver] at hb
      rw [h1] at hb; cases hb
      rw [h8 a rfl] at hm; cases hm
    | iter s pos =>
      obtain ⟨b', n', h1, h2⟩ := hO
      simp only [AO.ver] at hb
      rw [h1] at hb; cases hb
      rw [h2] at hc; cases hc
    | loop st pend nt ts key =>
      obtain ⟨b', n', fn, tmps, db, ps, assign, body, h1, h2, _⟩ := hO
      simp only [AO.ver] at hb
      rw [h1] at hb; cases hb
      rw [h2] at hc; cases hc
    | mp es =>
      obtain ⟨b', n', ents, clock, h1, h2, _⟩ := hO
      simp only [AO.ver] at hb
      rw [h1] at hb; cases hb
      rw [h2] at hc; cases hc
    | dead ver => exact absurd rfl (hd ver)

theorem World.cell_of_block {w w' : World} {a : Addr} (h : w'.heap[a.block]? = w.heap[a.block]?) : w'.cell? a = w.cell? a := by
  unfold World.cell?
  rw [h]

theorem ObjOK.mono {M M' : Mem} {ι ι' : Io} {w w' : World} {id : Nat} {o : AO} (h : ObjOK M ι w id o)
    (hM : ∀ a v, M a = some v → M' a = some v) (hι : ∀ i v p, ι i v = some p → ι' i v = some p)
    (hb : ∀ b n, ι id o.ver = some (b, n) → w'.heap[b]? = w.heap[b]?) (hn : ∀ b n a, ι id o.ver = some (b, n) → a.block = b → M a = none → M' a = none) : ObjOK M' ι' w' id o := by
  cases o with
  | cells ver cs =>
    obtain ⟨b, n, c, t, h1, h2, h3, h5, h6, h7, h8⟩ := h
    exact ⟨b, n, c, t, hι _ _ _ h1, by rw [hb b n h1]; exact h2, h3, h5, h6, fun i x hx => let ⟨v, a1, a2, a3⟩ := h7 i x hx; ⟨v, a1, a2.mono hM hι, a3⟩, fun a ha => hn b n a h1 ha (h8 a ha)⟩
  | iter s pos =>
    obtain ⟨b, n, h1, h2⟩ := h
    exact ⟨b, n, hι _ _ _ h1, by rw [hb b n h1]; exact h2⟩
  | loop st pend nt ts key =>
    obtain ⟨b, n, fn, tmps, db, ps, assign, body, h1, h2, h4, h5, h3⟩ := h
    exact ⟨b, n, fn, tmps, db, ps, assign, body, hι _ _ _ h1, by rw [hb b n h1]; exact h2, h4, h5, h3.mono hM hι⟩
  | dead ver =>
    obtain ⟨b, n, x, h1, h2, h3⟩ := h
    exact ⟨b, n, x, hι _ _ _ h1, by rw [hb b n h1]; exact h2, h3⟩
  | mp es =>
    obtain ⟨b, n, ents, clock, h1, h2, h3, h4⟩ := h
    exact ⟨b, n, ents, clock, hι _ _ _ h1, by rw [hb b n h1]; exact h2, h3, fun i x e hx he => ⟨(h4 i x e hx he).1.mono hM (fun _ _ _ h => h), (h4 i x e hx he).2.mono hM (fun _ _ _ h => h)⟩⟩

def Io.ext (ι : Io) (id ver b n : Nat) : Io := fun i v => if i = id ∧ v = ver then some (b, n) else ι i v
theorem Io.ext_self (ι : Io) (id ver b n : Nat) : ι.ext id ver b n id ver = some (b, n) := by simp [Io.ext]
theorem Io.ext_ne (ι : Io) (id ver b n : Nat) {i v : Nat} (h : ¬ (i = id ∧ v = ver)) : ι.ext id ver b n i v = ι i v := by simp [Io.ext, h]

theorem Inv.dom_lt {M : Mem} {ι : Io} {H : AH} {w : World} (h : Inv M ι H w) {id v : Nat} {p : Nat × Nat} (hp : ι id v = some p) : id < H.length := by
  obtain ⟨o, ho, _⟩ := h.dom id v p hp
  exact (List.getElem?_eq_some_iff.1 ho).1

/-- One new row. -/
theorem Stp.alloc {M : Mem} {ι : Io} {H : AH} {w : World} (hI : Inv M ι H w) (o' : AO) (obj : Obj) (n : Nat)
    (hO : ObjOK M (ι.ext H.length o'.ver w.heap.size n) (w.alloc obj) H.length o') :
    Stp M ι H w M (ι.ext H.length o'.ver w.heap.size n) (H ++ [o']) (w.alloc obj) := by
  have hio : ∀ i v p, ι i v = some p → ι.ext H.length o'.ver w.heap.size n i v = some p := by
    intro i v p hp
    rw [Io.ext_ne]
    · exact hp
    · rintro ⟨rfl, _⟩
      exact absurd (hI.dom_lt hp) (Nat.lt_irrefl _)
  have hold : ∀ id o, H[id]? = some o → ι.ext H.length o'.ver w.heap.size n id o.ver = ι id o.ver := by
    intro id o ho
    refine Io.ext_ne _ _ _ _ _ ?_
    rintro ⟨rfl, _⟩
    exact absurd (List.getElem?_eq_some_iff.1 ho).1 (Nat.lt_irrefl _)
  have hget : ∀ id o, (H ++ [o'])[id]? = some o → (id < H.length ∧ H[id]? = some o) ∨ (id = H.length ∧ o = o') := by
    intro id o ho
    rcases Nat.lt_trichotomy id H.length with hlt | heq | hgt
    · rw [List.getElem?_append_left hlt] at ho; exact .inl ⟨hlt, ho⟩
    · subst heq; simp at ho; exact .inr ⟨rfl, ho.symm⟩
    · rw [List.getElem?_eq_none (by simp; omega)] at ho; cases ho
  refine ⟨hio, fun _ _ h => h, fun a v h1 h2 => (by rw [h1] at h2; cases h2), ⟨?_, ?_, ?_, ?_, hI.glob⟩, ?_, ?_, by simp, rfl, rfl, rfl⟩
  · intro a v hv
    have := hI.mem a v hv
    rw [World.cell?_alloc_lt]
    · exact this
    · exact World.block_lt_of_cell? w a.real this
  · intro id v p hp
    by_cases hk : id = H.length ∧ v = o'.ver
    · obtain ⟨rfl, rfl⟩ := hk
      exact ⟨o', by simp, Nat.le_refl _⟩
    · rw [Io.ext_ne _ _ _ _ _ hk] at hp
      obtain ⟨o, ho, hv⟩ := hI.dom id v p hp
      exact ⟨o, by rw [List.getElem?_append_left (List.getElem?_eq_some_iff.1 ho).1]; exact ho, hv⟩
  · intro id o ho
    rcases hget id o ho with ⟨hlt, ho⟩ | ⟨rfl, rfl⟩
    · refine (hI.obj id o ho).mono (fun _ _ h => h) hio (fun b m hb => ?_) (fun _ _ _ _ _ h => h)
      exact Go.RowKit.Below.heap_alloc w obj b (hI.owned_lt ⟨id, o, m, ho, hb⟩)
    · exact hO
  · intro i j o p b m m' hi hj hbi hbj
    rcases hget i o hi with ⟨hilt, hi2⟩ | ⟨rfl, rfl⟩ <;> rcases hget j p hj with ⟨hjlt, hj2⟩ | ⟨rfl, rfl⟩
    · rw [hold i o hi2] at hbi; rw [hold j p hj2] at hbj
      exact hI.inj i j o p b m m' hi2 hj2 hbi hbj
    · rw [hold i o hi2] at hbi; rw [Io.ext_self] at hbj
      cases hbj
      exact absurd (hI.owned_lt ⟨i, o, m, hi2, hbi⟩) (Nat.lt_irrefl _)
    · rw [hold j p hj2] at hbj; rw [Io.ext_self] at hbi
      cases hbi
      exact absurd (hI.owned_lt ⟨j, p, m', hj2, hbj⟩) (Nat.lt_irrefl _)
    · rfl
  · intro b hb _
    exact Go.RowKit.Below.heap_alloc w obj b hb
  · rintro b hb ⟨id, o, m, ho, hm⟩
    rcases hget id o ho with ⟨hlt, ho⟩ | ⟨rfl, rfl⟩
    · rw [hold id o ho] at hm; exact ⟨id, o, m, ho, hm⟩
    · rw [Io.ext_self] at hm; cases hm; exact absurd hb (Nat.lt_irrefl _)

/-- One row of ours turned where it lies, or come to lie elsewhere. -/
theorem Stp.turn {M : Mem} {ι : Io} {H : AH} {w w' : World} (hI : Inv M ι H w) {id : Nat} {o o' : AO} (ho : H[id]? = some o) {b n b' n' : Nat} (hb : ι id o.ver = some (b, n))
    (hver : o.ver ≤ o'.ver) (hsame : o'.ver = o.ver → b' = b ∧ n' = n) (hnew : b' = b ∨ w.heap.size ≤ b')
    (hheap : ∀ k, k < w.heap.size → k ≠ b → w'.heap[k]? = w.heap[k]?) (hsize : w.heap.size ≤ w'.heap.size)
    (hos : w'.os = w.os) (htape : w'.tape = w.tape) (hout : w'.output = w.output)
    (hO : ObjOK M (ι.ext id o'.ver b' n') w' id o') (hdead : ∀ v, o ≠ .dead v := by intro v h; cases h) : Stp M ι H w M (ι.ext id o'.ver b' n') (H.set id o') w' := by
  have hidlt := (List.getElem?_eq_some_iff.1 ho).1
  have hio : ∀ i v p, ι i v = some p → ι.ext id o'.ver b' n' i v = some p := by
    intro i v p hp
    by_cases hk : i = id ∧ v = o'.ver
    · obtain ⟨rfl, rfl⟩ := hk
      obtain ⟨o1, ho1, hle⟩ := hI.dom _ _ _ hp
      rw [ho] at ho1; cases ho1
      have hv : o'.ver = o.ver := Nat.le_antisymm hle hver
      obtain ⟨rfl, rfl⟩ := hsame hv
      rw [Io.ext_self, ← hp, hv, hb]
    · rw [Io.ext_ne _ _ _ _ _ hk]; exact hp
  have hold : ∀ i p, i ≠ id → ι.ext id o'.ver b' n' i p = ι i p := fun i p hi => Io.ext_ne _ _ _ _ _ (fun h => hi h.1)
  have hget : ∀ i p, (H.set id o')[i]? = some p → (i ≠ id ∧ H[i]? = some p) ∨ (i = id ∧ p = o') := by
    intro i p hp
    by_cases hi : i = id
    · subst hi
      rw [List.getElem?_set_self hidlt] at hp
      cases hp; exact .inr ⟨rfl, rfl⟩
    · rw [List.getElem?_set_ne (Ne.symm hi)] at hp
      exact .inl ⟨hi, hp⟩
  have hown : owns ι H b := ⟨id, o, n, ho, hb⟩
  have hother : ∀ i p m c, i ≠ id → H[i]? = some p → ι i p.ver = some (c, m) → c ≠ b := by
    intro i p m c hi hp hc hcb
    subst hcb
    exact hi (hI.inj i id p o c m n hp ho hc hb)
  refine ⟨hio, fun _ _ h => h, fun a v h1 h2 => (by rw [h1] at h2; cases h2), ⟨?_, ?_, ?_, ?_, hI.glob⟩, ?_, ?_, hsize, hos, htape, hout⟩
  · intro a v hv
    have h1 := hI.mem a v hv
    have hne : a.block ≠ b := by
      intro he
      rw [hI.mem_live (a := a) ho (he ▸ hb) hdead] at hv; cases hv
    rw [World.cell_of_block (a := a.real) (hheap a.block (World.block_lt_of_cell? w a.real h1) hne)]
    exact h1
  · intro i v p hp
    by_cases hk : i = id ∧ v = o'.ver
    · obtain ⟨rfl, rfl⟩ := hk
      exact ⟨o', List.getElem?_set_self hidlt, Nat.le_refl _⟩
    · rw [Io.ext_ne _ _ _ _ _ hk] at hp
      obtain ⟨o1, ho1, hv⟩ := hI.dom i v p hp
      by_cases hi : i = id
      · subst hi
        rw [ho] at ho1; cases ho1
        exact ⟨o', List.getElem?_set_self hidlt, Nat.le_trans hv hver⟩
      · exact ⟨o1, by rw [List.getElem?_set_ne (Ne.symm hi)]; exact ho1, hv⟩
  · intro i p hp
    rcases hget i p hp with ⟨hi, hp⟩ | ⟨rfl, rfl⟩
    · refine (hI.obj i p hp).mono (fun _ _ h => h) hio (fun c m hc => ?_) (fun _ _ _ _ _ h => h)
      exact hheap c (hI.owned_lt ⟨i, p, m, hp, hc⟩) (hother i p m c hi hp hc)
    · exact hO
  · intro i j p q c m m' hi hj hci hcj
    rcases hget i p hi with ⟨hine, hi2⟩ | ⟨rfl, rfl⟩ <;> rcases hget j q hj with ⟨hjne, hj2⟩ | ⟨rfl, rfl⟩
    · rw [hold i _ hine] at hci; rw [hold j _ hjne] at hcj
      exact hI.inj i j p q c m m' hi2 hj2 hci hcj
    · rw [hold i _ hine] at hci; rw [Io.ext_self] at hcj; cases hcj
      rcases hnew with rfl | hge
      · exact absurd rfl (hother i p m _ hine hi2 hci)
      · exact absurd (hI.owned_lt ⟨i, p, m, hi2, hci⟩) (Nat.not_lt.2 hge)
    · rw [hold j _ hjne] at hcj; rw [Io.ext_self] at hci; cases hci
      rcases hnew with rfl | hge
      · exact absurd rfl (hother j q m' _ hjne hj2 hcj)
      · exact absurd (hI.owned_lt ⟨j, q, m', hj2, hcj⟩) (Nat.not_lt.2 hge)
    · rfl
  · intro k hk hn
    exact hheap k hk (fun he => hn (he ▸ hown))
  · rintro k hk ⟨i, p, m, hp, hm⟩
    rcases hget i p hp with ⟨hi, hp⟩ | ⟨rfl, rfl⟩
    · rw [hold i _ hi] at hm; exact ⟨i, p, m, hp, hm⟩
    · rw [Io.ext_self] at hm; cases hm
      rcases hnew with rfl | hge
      · exact hown
      · exact absurd hk (Nat.not_lt.2 hge)

/-- The tape has been asked. -/
theorem Stp.drew {M : Mem} {ι : Io} {H : AH} {w : World} (hI : Inv M ι H w) (d : Nat) : Stp M ι H w M ι H { w with drawn := d } :=
  have hI' : Inv M ι H { w with drawn := d } := ⟨hI.mem, hI.dom, fun id o ho => (hI.obj id o ho).mono (fun _ _ h => h) (fun _ _ _ h => h) (fun _ _ _ => rfl) (fun _ _ _ _ _ h => h), hI.inj, hI.glob⟩
  ⟨fun _ _ _ h => h, fun _ _ h => h, fun a v h1 h2 => (by rw [h1] at h2; cases h2), hI', fun _ _ _ => rfl, fun _ _ h => h, Nat.le_refl _, rfl, rfl, rfl⟩

end Go.Abs
