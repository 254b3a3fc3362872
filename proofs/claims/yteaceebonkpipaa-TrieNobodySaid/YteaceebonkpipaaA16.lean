/- What a law is handed: values of plain types out of memory; a law's statement from its evaluation. -/
import Derived.Test.YteaceebonkpipaaA15
import Derived.ProofKit
import Derived.OpenShut
namespace Go.Abs
open Go.RowKit Go.ChangeShapes Go.WideShapes Go.ChangeAt

def szOf (E : Env) (t : TypeId) : Nat :=
  match E.ti t with
  | some i => i.size
  | none => 0
def aggT (E : Env) (t : TypeId) : Bool :=
  match E.ti t with
  | some i => isAggD i.desc
  | none => false

def seqP : List (List AV → Prop) → List AV → Prop
  | [], xs => xs = []
  | p :: r, xs => ∃ ys zs, xs = ys ++ zs ∧ p ys ∧ seqP r zs

def intT (k : IntKind) (xs : List AV) : Prop := ∃ n, xs = [.int k n] ∧ k.min ≤ n ∧ n ≤ k.max
def boolT (xs : List AV) : Prop := ∃ b, xs = [.bool b]

/-- Cells of a plain type. -/
def argT (E : Env) : Nat → TypeId → List AV → Prop
  | 0, _, _ => False
  | f + 1, t, xs => match E.ti t with
    | none => False
    | some i => match i.desc with
      | .bool => ∃ b, xs = [.bool b]
      | .int k => ∃ n, xs = [.int k n] ∧ k.min ≤ n ∧ n ≤ k.max
      | .string => ∃ s, xs = [.str s] ∧ s.size ≤ maxLen
      | .slice e => ∃ ys fl, xs = [.fs (szOf E e) ys fl] ∧ ys.length ≤ maxLen ∧ (fl ≠ .any → ys = []) ∧ ∀ y ∈ ys, argT E f e y.cells ∧ ((aggT E e = true → ∃ zs, y = .agg zs) ∧ (aggT E e = false → y.cells = [y]))
      | .struct fs => seqP (fs.toList.map fun fd => argT E f fd.type) xs
      | .array n e => seqP (List.replicate n (argT E f e)) xs
      | _ => False

/-- A value of a plain type. -/
def argV (E : Env) (f : Nat) (t : TypeId) (x : AV) : Prop := argT E f t x.cells ∧ (aggT E t = true → ∃ zs, x = .agg zs) ∧ (aggT E t = false → x.cells = [x])

def tiles (E : Env) : List Field → Nat → Nat → Bool
  | [], off, size => off == size
  | f :: r, off, size => f.offset == off && tiles E r (off + szOf E f.type) size

/-- May it be read so? -/
def plainT (E : Env) : Nat → TypeId → Bool
  | 0, _ => false
  | f + 1, t => match E.ti t with
    | none => false
    | some i => match i.desc with
      | .bool | .int _ | .string => true
      | .slice e => plainT E f e && !(szOf E e == 0)
      | .struct fs => fs.toList.all (fun fd => plainT E f fd.type) && tiles E fs.toList 0 i.size
      | .array n e => plainT E f e && i.size == n * szOf E e
      | _ => false

section
variable {P : Program} {E : Env} {w : World} {H : Type} {enc : TypeId × Value → H}

/-- Cells against cells. -/
def CR (w : World) (xs : List AV) (cs : List Value) : Prop := xs.length = cs.length ∧ ∀ (i : Nat) (x : AV) (c : Value), xs[i]? = some x → cs[i]? = some c → VR w.cell? io0 x c ∧ vone c = true ∧ x.cells = [x]

theorem CR.one {x : AV} {c : Value} (h : VR w.cell? io0 x c) (ho : vone c = true) (hx : x.cells = [x]) : CR w [x] [c] :=
  ⟨rfl, fun i y d hy hd => by
    cases i with
    | zero => simp at hy hd; subst hy; subst hd; exact ⟨h, ho, hx⟩
    | succ i => simp at hy⟩

theorem CR.append {xs ys : List AV} {cs : List Value} {n : Nat} (h1 : CR w xs (cs.take n)) (h2 : CR w ys (cs.drop n)) (hn : n ≤ cs.length) : CR w (xs ++ ys) cs := by
  have hl : xs.length = n := by rw [h1.1]; simp; omega
  refine ⟨by simp [hl, h2.1]; omega, fun i x c hx hc => ?_⟩
  rcases Nat.lt_or_ge i n with hlt | hge
  · rw [List.getElem?_append_left (by omega)] at hx
    exact h1.2 i x c hx (by rw [List.getElem?_take_of_lt hlt]; exact hc)
  · rw [List.getElem?_append_right (by omega), hl] at hx
    exact h2.2 (i - n) x c hx (by rw [List.getElem?_drop, Nat.add_sub_cancel' hge]; exact hc)

theorem cellsOf_of (hE : EnvOK P E) {t : TypeId} {i : TI} (h : E.ti t = some i) : P.cellsOf t = szOf E t := by
  obtain ⟨info, h1, h2, _⟩ := (hE t i h).info
  simp [Program.cellsOf, h1, szOf, h, h2]

theorem plain_ti {f : Nat} {t : TypeId} (h : plainT E f t = true) : ∃ i, E.ti t = some i := by
  cases f with
  | zero => cases h
  | succ f =>
    unfold plainT at h
    split at h
    · cases h
    · rename_i i hi; exact ⟨i, hi⟩

theorem seq_fields (hE : EnvOK P E) {f : Nat} {size : Nat} {cs : List Value} {tr : Field → Option (DataW H × List MemPlace)}
    (each : ∀ fd : Field, plainT E f fd.type = true → ∀ x, tr fd = some x → ∃ xs, CR w xs ((cs.drop fd.offset).take (szOf E fd.type)) ∧ argT E f fd.type xs) :
    ∀ (fs : List Field) (off : Nat), tiles E fs off size = true → size = cs.length → off ≤ size → (∀ fd ∈ fs, plainT E f fd.type = true ∧ ∃ x, tr fd = some x) →
      ∃ xs, CR w xs (cs.drop off) ∧ seqP (fs.map fun fd => argT E f fd.type) xs
  | [], off, ht, hs, _, _ => by
    simp [tiles] at ht
    refine ⟨[], ⟨by simp; omega, fun i x c hx => by simp at hx⟩, rfl⟩
  | fd :: fs, off, ht, hs, ho, hall => by
    simp only [tiles, Bool.and_eq_true, beq_iff_eq] at ht
    obtain ⟨h1, h2⟩ := hall fd (by simp)
    obtain ⟨x, hx⟩ := h2
    obtain ⟨xs, hc, ha⟩ := each fd h1 x hx
    have hoff2 : off + szOf E fd.type ≤ size := by
      have : ∀ (fs : List Field) (o : Nat), tiles E fs o size = true → o ≤ size := by
        intro fs
        induction fs with
        | nil => intro o h; simp [tiles] at h; omega
        | cons g gs ih =>
          intro o h
          simp only [tiles, Bool.and_eq_true, beq_iff_eq] at h
          have := ih _ h.2
          omega
      exact this fs _ ht.2
    obtain ⟨ys, hcy, hay⟩ := seq_fields hE each fs (off + szOf E fd.type) ht.2 hs hoff2 (fun g hg => hall g (by simp [hg]))
    rw [ht.1] at hc
    refine ⟨xs ++ ys, CR.append (n := szOf E fd.type) hc (by rw [List.drop_drop]; exact hcy) (by simp; omega), xs, ys, rfl, ha, hay⟩

theorem seq_array {f : Nat} {e : TypeId} {sz : Nat} {cs : List Value} {n : Nat} (each : ∀ i, i < n → ∃ xs, CR w xs ((cs.drop (i * sz)).take sz) ∧ argT E f e xs) (hl : cs.length = n * sz) :
    ∀ (m : Nat), m ≤ n → ∃ xs, CR w xs (cs.drop ((n - m) * sz)) ∧ seqP (List.replicate m (argT E f e)) xs
  | 0, _ => ⟨[], ⟨by simp; omega, fun i x c hx => by simp at hx⟩, rfl⟩
  | m + 1, hm => by
    obtain ⟨xs, h1, h2⟩ := each (n - (m + 1)) (by omega)
    obtain ⟨ys, h3, h4⟩ := seq_array each hl m (by omega)
    have he : (n - (m + 1)) * sz + sz = (n - m) * sz := by
      rw [show n - m = (n - (m + 1)) + 1 by omega, Nat.succ_mul]
    refine ⟨xs ++ ys, CR.append (n := sz) h1 (by rw [List.drop_drop, he]; exact h3) ?_, xs, ys, rfl, h2, h4⟩
    have : (n - m) * sz ≤ n * sz := Nat.mul_le_mul_right _ (by omega)
    simp; omega

theorem argT_len : ∀ (f : Nat) {t : TypeId} {xs : List AV}, plainT E f t = true → argT E f t xs → aggT E t = false → ∃ x, xs = [x] ∧ x.cells = [x] := by
  intro f t xs hp ha hag
  cases f with
  | zero => cases hp
  | succ f =>
    unfold argT at ha
    split at ha
    · exact ha.elim
    rename_i i hi
    have hd : isAggD i.desc = false := by simpa [aggT, hi] using hag
    split at ha
    · obtain ⟨b, rfl⟩ := ha; exact ⟨_, rfl, rfl⟩
    · obtain ⟨n, rfl, _⟩ := ha; exact ⟨_, rfl, rfl⟩
    · obtain ⟨s, rfl, _⟩ := ha; exact ⟨_, rfl, rfl⟩
    · obtain ⟨ys, fl, rfl, _⟩ := ha; exact ⟨_, rfl, rfl⟩
    · rename_i h; rw [h] at hd; cases hd
    · rename_i h; rw [h] at hd; cases hd
    · exact ha.elim

/-- What a reading met stands by value. -/
theorem trod_vr (hE : EnvOK P E) : ∀ (f : Nat) {t : TypeId} {cs : List Value} {fuel : Nat} {x : DataW H × List MemPlace}, plainT E f t = true →
    DataW.trod enc P w 0 (fun _ => true) true fuel t cs = some x → cs.length = szOf E t → ∃ xs, CR w xs cs ∧ argT E f t xs := by
  intro f
  induction f with
  | zero => intro t cs fuel x hp; cases hp
  | succ f ih =>
    intro t cs fuel x hp h hlen
    unfold plainT at hp
    split at hp
    · cases hp
    rename_i i hi
    have hu := (hE t i hi).und
    split at hp
    · rename_i hd
      rw [hd] at hu
      obtain ⟨b, rfl, _⟩ := DataW.trod_bool hu h
      exact ⟨[.bool b], CR.one (.bool b) rfl rfl, by unfold argT; rw [hi]; simp only [hd]; exact ⟨b, rfl⟩⟩
    · rename_i k hd
      rw [hd] at hu
      obtain ⟨n, rfl, _, hwf⟩ := DataW.trod_int hu h
      simp only [Lit.wf, Bool.and_eq_true, decide_eq_true_eq] at hwf
      exact ⟨[.int k n], CR.one (.int k n) rfl rfl, by unfold argT; rw [hi]; simp only [hd]; exact ⟨n, rfl, hwf.1, hwf.2⟩⟩
    · rename_i hd
      rw [hd] at hu
      obtain ⟨s, rfl, _, hs⟩ := DataW.trod_string hu h
      exact ⟨[.str s], CR.one (.str s) rfl rfl, by unfold argT; rw [hi]; simp only [hd]; exact ⟨s, rfl, hs⟩⟩
    · rename_i e hd
      rw [hd] at hu
      simp only [Bool.and_eq_true, Bool.not_eq_true', beq_eq_false_iff_ne, ne_eq] at hp
      obtain ⟨ie, hie⟩ := plain_ti hp.1
      have hsz := cellsOf_of hE hie
      have mk : ∀ (ys : List AV) (fl : SF), ys.length ≤ maxLen → (fl ≠ .any → ys = []) → (∀ y ∈ ys, argT E f e y.cells ∧ ((aggT E e = true → ∃ zs, y = .agg zs) ∧ (aggT E e = false → y.cells = [y]))) → argT E (f + 1) t [.fs (szOf E e) ys fl] := by
        intro ys fl h1 h2 h3
        unfold argT; rw [hi]; simp only [hd]
        exact ⟨ys, fl, rfl, h1, h2, h3⟩
      rcases DataW.trod_slice hu h with ⟨rfl, _⟩ | ⟨a, len, cap, elems, rest, n, _, rfl, _, _, hlc, hcm, hel, hget, hspare, _⟩
      · exact ⟨[.fs (szOf E e) [] .nil], CR.one (.fsNil _) rfl rfl, mk [] .nil (Nat.zero_le _) (fun _ => rfl) (fun y hy => by cases hy)⟩
      · by_cases hc0 : cap = 0
        · subst hc0
          obtain rfl : len = 0 := by omega
          exact ⟨[.fs (szOf E e) [] .zc], CR.one (.fsZc _ a) rfl rfl, mk [] .zc (Nat.zero_le _) (fun _ => rfl) (fun y hy => by cases hy)⟩
        · -- each element
          have elem : ∀ i, i < len → ∃ y : AV, (y.cells.length = szOf E e ∧ ∀ (j : Nat) (z : AV), y.cells[j]? = some z → ∃ c, w.cell? ((a.add (i * szOf E e)).add j) = some c ∧ VR w.cell? io0 z c ∧ vone c = true) ∧ argT E f e y.cells ∧ ((aggT E e = true → ∃ zs, y = .agg zs) ∧ (aggT E e = false → y.cells = [y])) := by
            intro i hi
            have hg := hget i hi
            rw [List.getElem?_eq_getElem (show i < elems.length by omega), hsz] at hg
            cases hcs : w.cells? 0 (a.add (i * szOf E e)) (szOf E e) with
            | none => rw [hcs] at hg; cases hg
            | some ds =>
              rw [hcs] at hg
              simp only [Option.bind_some] at hg
              obtain ⟨_, hdl, hdc⟩ := World.cells?_some hcs
              obtain ⟨ys, hcr, hat⟩ := ih hp.1 hg hdl
              have key : ∀ (y : AV), y.cells = ys → (y.cells.length = szOf E e ∧ ∀ (j : Nat) (z : AV), y.cells[j]? = some z → ∃ c, w.cell? ((a.add (i * szOf E e)).add j) = some c ∧ VR w.cell? io0 z c ∧ vone c = true) := by
                intro y hy
                rw [hy]
                refine ⟨by rw [hcr.1, hdl], fun j z hz => ?_⟩
                have hj : j < szOf E e := by
                  have := (List.getElem?_eq_some_iff.1 hz).1
                  rw [hcr.1, hdl] at this; exact this
                have hdj : ds[j]? = some (ds[j]'(by omega)) := List.getElem?_eq_getElem (by omega)
                obtain ⟨q1, q2, _⟩ := hcr.2 j z _ hz hdj
                exact ⟨_, by rw [hdc j hj]; exact hdj, q1, q2⟩
              cases hag : aggT E e with
              | true => exact ⟨.agg ys, key _ rfl, hat, fun _ => ⟨ys, rfl⟩, fun h => by cases h⟩
              | false =>
                obtain ⟨y, rfl, hy⟩ := argT_len f hp.1 hat hag
                exact ⟨y, key y hy, by rw [hy]; exact hat, (fun h => by cases h), fun _ => hy⟩
          have hspot : a.spot = none := by
            have first : ∀ (i : Nat) (y : DataW H × List MemPlace), i = 0 → (w.cells? 0 (a.add (i * P.cellsOf e)) (P.cellsOf e)).bind (DataW.trod enc P w 0 (fun _ => true) true n e) = some y → a.spot = none := by
              rintro _ y rfl hy
              rw [hsz] at hy
              cases hcs : w.cells? 0 (a.add (0 * szOf E e)) (szOf E e) with
              | none => rw [hcs] at hy; cases hy
              | some ds =>
                obtain ⟨_, hdl, hdc⟩ := World.cells?_some hcs
                have := hdc 0 (by omega)
                rw [List.getElem?_eq_getElem (show 0 < ds.length by omega)] at this
                have := World.cell?_spot this
                simpa [Addr.add] using this
            rcases Nat.eq_zero_or_pos len with h0 | hpos
            · obtain ⟨hr1, hr2⟩ := hspare rfl
              have := hr2 0 (by omega)
              rw [List.getElem?_eq_getElem (show 0 < rest.length by omega)] at this
              exact first _ _ (by omega) this
            · have := hget 0 hpos
              rw [List.getElem?_eq_getElem (show 0 < elems.length by omega)] at this
              exact first _ _ rfl this
          obtain ⟨b, o, sp⟩ := a
          simp only at hspot
          subst hspot
          have elem : ∀ i, i < len → ∃ y : AV, (y.cells.length = szOf E e ∧ ∀ (j : Nat) (z : AV), y.cells[j]? = some z → ∃ c, w.cell? ⟨b, o + i * szOf E e + j, none⟩ = some c ∧ VR w.cell? io0 z c ∧ vone c = true) ∧ argT E f e y.cells ∧ ((aggT E e = true → ∃ zs, y = .agg zs) ∧ (aggT E e = false → y.cells = [y])) := by
            intro i hi
            have := elem i hi
            simp only [Addr.add_lit] at this
            exact this
          let ys : List AV := (List.range len).attach.map fun i => (elem i.1 (List.mem_range.1 i.2)).choose
          have hyl : ys.length = len := by simp [ys]
          have hys : ∀ (i : Nat) (y : AV), ys[i]? = some y → ∃ hi : i < len, y = (elem i hi).choose := by
            intro i y hy
            have hi : i < len := by rw [← hyl]; exact (List.getElem?_eq_some_iff.1 hy).1
            refine ⟨hi, ?_⟩
            rw [List.getElem?_eq_getElem (by rw [hyl]; exact hi)] at hy
            simp [ys] at hy
            exact hy.symm
          have hyp : ∀ (i : Nat) (y : AV), ys[i]? = some y → (y.cells.length = szOf E e ∧ ∀ (j : Nat) (z : AV), y.cells[j]? = some z → ∃ c, w.cell? ⟨b, o + i * szOf E e + j, none⟩ = some c ∧ VR w.cell? io0 z c ∧ vone c = true) ∧ argT E f e y.cells ∧ ((aggT E e = true → ∃ zs, y = .agg zs) ∧ (aggT E e = false → y.cells = [y])) := by
            intro i y hy
            obtain ⟨hi, rfl⟩ := hys i y hy
            exact (elem i hi).choose_spec
          refine ⟨[.fs (szOf E e) ys .any], CR.one ?_ rfl rfl, mk ys .any (by omega) (fun h => absurd rfl h) (fun y hy => ?_)⟩
          · rw [← hyl]
            refine .fsAny rfl b o cap (fun i j => (w.cell? ⟨b, o + i * szOf E e + j, none⟩).getD undef) (by omega) (fun i x hx => (hyp i x hx).1.1) (fun i x j y hx hy => ?_) (fun i x j y hx hy => ?_)
            · obtain ⟨c, q1, q2, q3⟩ := (hyp i x hx).1.2 j y hy
              simp only [q1, Option.getD_some]
              exact ⟨q1, q3⟩
            · obtain ⟨c, q1, q2, q3⟩ := (hyp i x hx).1.2 j y hy
              simp only [q1, Option.getD_some]
              exact q2
          · obtain ⟨i, hi⟩ := List.getElem?_of_mem hy
            exact (hyp i y hi).2
    · rename_i fs hd
      rw [hd] at hu
      simp only [Bool.and_eq_true, List.all_eq_true] at hp
      obtain ⟨xs, n, _, _, hcl, hxl, hget⟩ := DataW.trod_struct hu h
      have hsz : szOf E t = i.size := by simp [szOf, hi]
      obtain ⟨ys, h1, h2⟩ := seq_fields (w := w) (tr := fun fd => DataW.trod enc P w 0 (fun _ => true) true n fd.type ((cs.drop fd.offset).take (P.cellsOf fd.type))) (cs := cs) (size := i.size) hE (f := f)
        (fun fd hfd x hx => by
          obtain ⟨j, hj⟩ := plain_ti hfd
          have hcz := cellsOf_of hE hj
          simp only [hcz] at hx
          by_cases hle : szOf E fd.type ≤ cs.length - fd.offset
          · exact ih hfd hx (by simp; omega)
          · -- too short: no reading
            exfalso
            have hshort : ∀ (f : Nat) {t : TypeId} {cs : List Value} {fuel : Nat} {x : DataW H × List MemPlace}, plainT E f t = true → DataW.trod enc P w 0 (fun _ => true) true fuel t cs = some x → cs.length = szOf E t := by
              intro f t cs fuel x hp h
              cases f with
              | zero => cases hp
              | succ f =>
                unfold plainT at hp
                split at hp
                · cases hp
                rename_i i hi
                have hu := (hE t i hi).und
                have hsc := (hE t i hi).scalar
                have hz : szOf E t = i.size := by simp [szOf, hi]
                split at hp
                · rename_i hd; rw [hd] at hu hsc
                  obtain ⟨b, rfl, _⟩ := DataW.trod_bool hu h; rw [hz, hsc rfl]; rfl
                · rename_i hd; rw [hd] at hu hsc
                  obtain ⟨b, rfl, _⟩ := DataW.trod_int hu h; rw [hz, hsc rfl]; rfl
                · rename_i hd; rw [hd] at hu hsc
                  obtain ⟨b, rfl, _⟩ := DataW.trod_string hu h; rw [hz, hsc rfl]; rfl
                · rename_i hd; rw [hd] at hu hsc
                  rcases DataW.trod_slice hu h with ⟨rfl, _⟩ | ⟨a, len, cap, elems, rest, n, _, rfl, _⟩ <;> (rw [hz, hsc rfl]; rfl)
                · rename_i hd; rw [hd] at hu
                  obtain ⟨_, _, _, _, hcl, _⟩ := DataW.trod_struct hu h
                  rw [hcl, cellsOf_of hE hi]
                · rename_i hd; rw [hd] at hu
                  obtain ⟨_, _, _, _, hcl, _⟩ := DataW.trod_array hu h
                  rw [hcl, cellsOf_of hE hi]
                · cases hp
            have := hshort f hfd hx
            simp at this
            omega)
        fs.toList 0 hp.2 (by rw [← hsz, hlen]) (Nat.zero_le _) (fun fd hfd => by
          refine ⟨hp.1 fd hfd, ?_⟩
          obtain ⟨j, hj⟩ := List.getElem?_of_mem hfd
          rw [Array.getElem?_toList] at hj
          have hjl : j < xs.length := by rw [hxl]; exact (Array.getElem?_eq_some_iff.1 hj).1
          exact ⟨_, by rw [hget j fd hj, List.getElem?_eq_getElem hjl]⟩)
      exact ⟨ys, by simpa using h1, by unfold argT; rw [hi]; simp only [hd]; exact h2⟩
    · rename_i n e hd
      rw [hd] at hu
      simp only [Bool.and_eq_true, beq_iff_eq] at hp
      obtain ⟨xs, m, _, _, hcl, hxl, hget⟩ := DataW.trod_array hu h
      obtain ⟨j, hj⟩ := plain_ti hp.1
      have hcz := cellsOf_of hE hj
      have hsz : szOf E t = i.size := by simp [szOf, hi]
      have hl : cs.length = n * szOf E e := by rw [hlen, hsz, hp.2]
      obtain ⟨ys, h1, h2⟩ := seq_array (w := w) (cs := cs) (n := n) (sz := szOf E e) (f := f) (e := e) (E := E) (fun i hi => by
        have hg := hget i hi
        rw [List.getElem?_eq_getElem (show i < xs.length by omega), hcz] at hg
        refine ih hp.1 hg ?_
        have : i * szOf E e + szOf E e ≤ n * szOf E e := by
          have := Nat.mul_le_mul_right (szOf E e) (show i + 1 ≤ n by omega)
          rwa [Nat.succ_mul] at this
        simp; omega) hl n (Nat.le_refl _)
      exact ⟨ys, by simpa using h1, by unfold argT; rw [hi]; simp only [hd]; exact h2⟩
    · cases hp

end
end Go.Abs
