/- The evaluator's operations against the model's, sixth part: conversions, append, copy, what is made. -/
import Derived.Test.YteaceebonkpipaaA7
import Derived.Laws.BytesArg
import Derived.Lib.ConvBytes
namespace Go.Abs
open Go.RowKit

section
variable {P : Program} {E : Env} {M : Mem} {ι : Io} {H : AH} {w : World} {r : Fin'}

theorem vr_bytes_get {l : List UInt8} {i : Nat} {x : AV} (h : (bytesAV l)[i]? = some x) : ∃ b, l[i]? = some b ∧ x = .int .u8 (b.toNat : Int) := by
  simp only [bytesAV, List.getElem?_map, Option.map_eq_some_iff] at h
  obtain ⟨b, hb, rfl⟩ := h
  exact ⟨b, hb, rfl⟩

/-- A new block that nobody will write. -/
theorem Inv.freeze (hI : Inv M ι H w) (arr : Array Value) (t : TypeId) (fr : Nat × Nat) (w' : World) (hold : ∀ k, k < w.heap.size → w'.heap[k]? = w.heap[k]?)
    (hnew : w'.heap[w.heap.size]? = some (.cells arr t fr)) (hsize : w.heap.size ≤ w'.heap.size) (hos : w'.os = w.os) (htape : w'.tape = w.tape) (hout : w'.output = w.output) :
    Stp M ι H w (fun a => if a.block = w.heap.size then (if a.spot.isSome then none else arr[a.off]?) else M a) ι H w' := by
  have hlt : ∀ a v, M a = some v → a.block < w.heap.size := fun a v hv => World.block_lt_of_cell? w a.real (hI.mem a v hv)
  have hmem : ∀ a v, M a = some v → (if a.block = w.heap.size then (if a.spot.isSome then none else arr[a.off]?) else M a) = some v := by
    intro a v hv
    rw [if_neg (Nat.ne_of_lt (hlt a v hv))]; exact hv
  refine ⟨fun _ _ _ h => h, hmem, fun a v h1 h2 => ?_, ⟨fun a v hv => ?_, hI.dom, fun id o ho => ?_, hI.inj, hI.glob.mono hmem⟩, fun b hb _ => hold b hb, fun _ _ h => h, hsize, hos, htape, hout⟩
  · by_cases hb : a.block = w.heap.size
    · exact .inl (Nat.le_of_eq hb.symm)
    · rw [if_neg hb, h2] at h1; cases h1
  · by_cases hb : a.block = w.heap.size
    · rw [if_pos hb] at hv
      unfold World.cell?
      rw [show a.real.block = w.heap.size from hb, hnew]
      cases hs : a.spot with
      | none => rw [hs] at hv; exact hv
      | some _ => rw [hs] at hv; cases hv
    · rw [if_neg hb] at hv
      rw [World.cell_of_block (a := a.real) (hold _ (hlt a v hv))]
      exact hI.mem a v hv
  · refine (hI.obj id o ho).mono hmem (fun _ _ _ h => h) (fun b n hb => hold b (hI.owned_lt ⟨id, o, n, ho, hb⟩)) (fun b n a hb ha hm => ?_)
    have := hI.owned_lt ⟨id, o, n, ho, hb⟩
    rw [if_neg (by omega)]; exact hm

theorem allU8_get : ∀ {l : List AV}, allU8 l = true → ∀ (i : Nat) (x : AV), l[i]? = some x → x = .int .u8 x.toInt
  | [], _, i, x, h => by simp at h
  | v :: r, ha, i, x, h => by
    rw [allU8, Bool.and_eq_true] at ha
    cases i with
    | zero => simp at h; subst h; exact isInt_eq ha.1
    | succ i => simp at h; exact allU8_get ha.2 i x h

theorem flatMap_get {α β : Type} (f : α → List β) (n : Nat) (hn : 0 < n) : ∀ (l : List α), (∀ x ∈ l, (f x).length = n) → ∀ k, (l.flatMap f)[k]? = (l[k / n]?).bind fun x => (f x)[k % n]?
  | [], _, k => by simp
  | x :: l, h, k => by
    have hx : (f x).length = n := h x (by simp)
    rw [List.flatMap_cons]
    by_cases hk : k < n
    · rw [List.getElem?_append_left (by omega), Nat.div_eq_of_lt hk, Nat.mod_eq_of_lt hk]
      simp
    · rw [List.getElem?_append_right (by omega), hx, flatMap_get f n hn l (fun y hy => h y (by simp [hy]))]
      have h1 : k / n = (k - n) / n + 1 := by rw [← Nat.add_div_right _ hn]; congr 1; omega
      have h2 : (k - n) % n = k % n := by rw [← Nat.mod_eq_sub_mod (by omega)]
      rw [h1, h2]
      simp

/-- The cells that a slice shows, as they lie in memory. -/
theorem rowOf_ok {x : AV} {c : Value} {cs : List AV} (hI : Inv M ι H w) (hx : VR M ι x c) (hvb : verB H x = true) (h : rowOf H x = some cs) :
    ∃ a len cap, c = .slice a len cap ∧ len ≤ cap ∧ (cs ≠ [] → ∃ b o, a = some ⟨b, o, none⟩ ∧ ∀ (i : Nat) (y : AV), cs[i]? = some y → ∃ v : Value, w.cell? ⟨b, o + i, none⟩ = some v ∧ VR M ι y v ∧ vone v = true) := by
  unfold rowOf at h
  split at h
  · rename_i sz xs fl
    cases h
    rcases hx.fs_inv with ⟨rfl, rfl, rfl⟩ | ⟨rfl, rfl, za, rfl⟩ | ⟨hf, b, o, cap, rfl, hc⟩
    · exact ⟨_, _, _, rfl, Nat.le_refl _, fun h => absurd rfl h⟩
    · exact ⟨_, _, _, rfl, Nat.le_refl _, fun h => absurd rfl h⟩
    · refine ⟨_, _, _, rfl, hc, fun hne => ⟨b, o, rfl, fun i y hy => ?_⟩⟩
      cases hx with
      | fsZc => cases hf
      | fsAny _ _ _ _ g g1 g2 g3 g4 =>
        rcases Nat.eq_zero_or_pos sz with rfl | hsz
        · exfalso
          refine hne ?_
          rw [List.flatMap_eq_nil_iff]
          intro x hx
          obtain ⟨j, hj⟩ := List.mem_iff_getElem?.1 hx
          exact List.eq_nil_of_length_eq_zero (g2 j x hj)
        · rw [flatMap_get AV.cells sz hsz xs (fun x hx => by obtain ⟨j, hj⟩ := List.mem_iff_getElem?.1 hx; exact g2 j x hj)] at hy
          obtain ⟨x, h1, h2⟩ := Option.bind_eq_some_iff.1 hy
          obtain ⟨m1, m2⟩ := g3 _ x _ y h1 h2
          refine ⟨_, ?_, (g4 _ x _ y h1 h2).mono (fun _ _ h => h) (fun _ _ _ h => by cases h), m2⟩
          have := hI.mem _ _ m1
          rwa [Nat.add_assoc, Nat.mul_comm (i / sz) sz, Nat.div_add_mod] at this
  · rename_i id ver off len sz
    split at h
    · rename_i v cs' ho
      · obtain rfl : v = ver := by simpa [verB, ho] using hvb
        cases h
        obtain ⟨b, n, c', t', hb, hh, hn, hcs, hvv, hrow, _⟩ := hI.row ho
        cases hx with
        | sl o cap hp h1 h2 h3 =>
          rw [hb] at hp; cases hp
          refine ⟨_, _, _, rfl, h1, fun hne => ⟨_, o, rfl, fun i y hy => ?_⟩⟩
          have hil : i < len * sz := by
            have := (List.getElem?_eq_some_iff.1 hy).1
            simp at this; omega
          have hoo : o = off := by
            rcases h2 with rfl | h2
            · obtain rfl : len = 0 := by omega
              simp at hil
            · exact h2
          subst hoo
          rw [List.getElem?_take_of_lt hil, List.getElem?_drop] at hy
          obtain ⟨v', _, q1, q2, q3⟩ := hrow _ y hy
          exact ⟨v', q1, q2, q3⟩
    · cases h
  · cases h

theorem strOf_nil : strOf [] = ByteArray.empty := rfl
theorem strOf_nums (cs : List AV) : strOf cs = strOfNums (cs.map AV.toInt) := by simp [strOf, strOfNums]

theorem run_bytes_of_row {src dst e : TypeId} (hs : P.underlying src = some (.slice e)) (he : P.underlying e = some (.int .u8)) (hd : P.underlying dst = some .string)
    {a : Option Addr} {len cap : Nat} {cs : List AV} (hl : cs.length = len) (hu : allU8 cs = true)
    (hc : cs ≠ [] → ∃ b o, a = some ⟨b, o, none⟩ ∧ ∀ (i : Nat) (y : AV), cs[i]? = some y → ∃ v : Value, w.cell? ⟨b, o + i, none⟩ = some v ∧ VR M ι y v ∧ vone v = true) :
    (convert src dst (.slice a len cap)).run P w = .ok (.string (strOf cs)) w := by
  by_cases hne : cs = []
  · subst hne
    have : len = 0 := by simpa using hl.symm
    subst this
    rw [strOf_nil]
    cases a with
    | none => exact run_convert_bytes_nil w src e hs he 0 cap dst hd
    | some a =>
      obtain ⟨b, o, sp⟩ := a
      rw [run_convert_bytes_string w src dst e _ 0 cap hs he hd]
      simp [Conv.bytesToString, loadCells, loadCellsFrom]
  · obtain ⟨b, o, rfl, hcell⟩ := hc hne
    rw [strOf_nums]
    refine run_convert_bytes_arg w src e hs he b o len cap _ (by simpa using hl) (fun i hi => ?_) dst hd
    have hi' : i < cs.length := by omega
    obtain ⟨v, h1, h2, _⟩ := hcell i cs[i] (List.getElem?_eq_getElem hi')
    rw [h1]
    have hx := allU8_get hu i cs[i] (List.getElem?_eq_getElem hi')
    rw [hx] at h2
    cases h2.int_inv
    simp [List.getD_eq_getElem?_getD, List.getElem?_eq_getElem hi']

theorem aConvertK_ok {src dst : TypeId} {x : AV} {c : Value} {kv : AV → AH → Res} (hE : EnvOK P E) (hI : Inv M ι H w) (hx : VR M ι x c) (h : aConvertK E src dst x H kv = some r) :
    RunOK P M ι H w (convert src dst c) kv r := by
  unfold aConvertK at h
  split at h
  · rename_i i j hi hj
    have hTs := hE src i hi
    have hTd := hE dst j hj
    split at h
    · rename_i k k' n hd
      cases hx.int_inv
      refine PureOK.runOK hI ⟨_, _, h, .int _ _, ?_⟩
      have hu := hTd.und; rw [hd] at hu
      simp only [convert, Sem.run_bind, hTs.run_und, run_underlying hu, Result.andThen_ok]
      cases i.desc <;> rfl
    · rename_i k n hd
      cases hx.int_inv
      refine PureOK.runOK hI ⟨_, _, h, .str _, ?_⟩
      have hu := hTd.und; rw [hd] at hu
      simp only [convert, Sem.run_bind, hTs.run_und, run_underlying hu, Result.andThen_ok]
      cases i.desc <;> rfl
    · rename_i s hd
      cases hx.str_inv
      refine PureOK.runOK hI ⟨_, _, h, .str _, ?_⟩
      have hu := hTd.und; rw [hd] at hu
      simp only [convert, Sem.run_bind, hTs.run_und, run_underlying hu, Result.andThen_ok]
      cases i.desc <;> rfl
    · rename_i e hd hd' _ _
      have hus := hTs.und; rw [hd] at hus
      have hud := hTd.und; rw [hd'] at hud
      split at h
      · rename_i ei hei
        split at h
        · rename_i hde
          have hue := (hE e ei hei).und; rw [hde] at hue
          split at h
          · rename_i sz xs fl _ _
            obtain ⟨hu, h⟩ := aIf_none h
            have hflat : xs.flatMap AV.cells = xs := by
              have : ∀ l : List AV, allU8 l = true → l.flatMap AV.cells = l := by
                intro l
                induction l with
                | nil => intro _; rfl
                | cons v l ih =>
                  intro hl
                  rw [allU8, Bool.and_eq_true] at hl
                  rw [List.flatMap_cons, ih hl.2]
                  have := isInt_eq hl.1
                  rw [this]; rfl
              exact this xs hu
            obtain ⟨a, len, cap, rfl, hle, hc⟩ := rowOf_ok hI hx rfl rfl
            rw [hflat] at hc
            have hlen : xs.length = len := by
              rcases hx.fs_inv with ⟨_, rfl, h1⟩ | ⟨_, rfl, za, h1⟩ | ⟨_, b, o, cap, h1, _⟩ <;> cases h1 <;> rfl
            exact PureOK.runOK hI ⟨_, _, h, .str _, run_bytes_of_row hus hue hud hlen hu hc⟩
          · have hq := aIf_none h
            clear h
            obtain ⟨hvb, h⟩ := hq
            split at h
            · rename_i cs hcs
              obtain ⟨hl, h⟩ := aIf_none h
              obtain ⟨hu, h⟩ := aIf_none h
              obtain ⟨a, len', cap, hc0, hle, hc⟩ := rowOf_ok hI hx hvb hcs
              subst hc0
              have hl : cs.length = len' := by
                have hl := eq_of_beq hl
                cases hx with
                | sl o cap hp h1 h2 h3 => exact hl
              exact PureOK.runOK hI ⟨_, _, h, .str _, run_bytes_of_row hus hue hud hl hu hc⟩
            · cases h
          · cases h
        · cases h
      · cases h
    · rename_i e s hd
      have hud := hTd.und; rw [hd] at hud
      cases hx.str_inv
      split at h
      · rename_i ei hei
        split at h
        · rename_i hde
          have hue := (hE e ei hei).und; rw [hde] at hue
          have hrun := Go.Lib.run_convert_string_bytes (P := P) w src dst e s hTs.und hud hue
          have hst := hI.freeze (Go.Lib.bytesCells w e s) e _ (Go.Lib.bytesWorld w e s) (fun k hk => Go.Lib.bytesWorld_at_old w e s k hk) (Go.Lib.bytesWorld_at_new w e s) (by rw [Go.Lib.bytesWorld_size]; omega) rfl rfl rfl
          have hlen : (bytesAV s.data.toList).length = s.size := by simp [bytesAV]
          refine ⟨_, _, _, _, _, _, h, hst, ?_, hrun⟩
          rw [← hlen]
          have hcell : ∀ (i : Nat) (x : AV) (j : Nat) (y : AV), (bytesAV s.data.toList)[i]? = some x → x.cells[j]? = some y → j = 0 ∧ i < s.size ∧ y = .int .u8 ((s.data.toList.getD i 0).toNat : Int) := by
            intro i x j y hx hy
            obtain ⟨b, hb, rfl⟩ := vr_bytes_get hx
            cases j with
            | succ j => simp [AV.cells] at hy
            | zero =>
              simp [AV.cells] at hy
              refine ⟨rfl, ?_, ?_⟩
              · have := (List.getElem?_eq_some_iff.1 hb).1
                exact this
              · rw [← hy, List.getD_eq_getElem?_getD, hb]; rfl
          refine .fsAny rfl w.heap.size 0 _ (fun i _ => .int .u8 ((s.data.toList.getD i 0).toNat : Int)) ?_ (fun i x hx => ?_) (fun i x j y hx hy => ?_) (fun i x j y hx hy => ?_)
          · rw [hlen]; exact grownCap_ge w s.size 0 e
          · obtain ⟨b, hb, rfl⟩ := vr_bytes_get hx; rfl
          · obtain ⟨rfl, hi, rfl⟩ := hcell i x j y hx hy
            refine ⟨?_, rfl⟩
            have := Go.Lib.bytesWorld_cell w e s i hi
            simp only [World.cell?, Go.Lib.bytesWorld_at_new] at this
            simpa [SF.spot] using this
          · obtain ⟨rfl, hi, rfl⟩ := hcell i x j y hx hy
            exact .int _ _
        · cases h
      · cases h
    · cases h
  · cases h

end
end Go.Abs
