/- The evaluator's operations against the model's, third part. -/
import Derived.Test.YteaceebonkpipaaA4
namespace Go.Abs
open Go.RowKit

section
variable {P : Program} {E : Env} {M : Mem} {ι : Io} {H : AH} {w : World} {r : Fin'}

def OptVR (M : Mem) (ι : Io) : Option AV → Option Value → Prop
  | none, none => True
  | some x, some c => VR M ι x c
  | _, _ => False

theorem run_sliceBound {k : IntKind} {i : Int} {y : Nat} {code : BoundsCode} (h0 : 0 ≤ i) (h1 : i ≤ (y : Int)) : (Instr.sliceBound (.int k i) y code).run P w = .ok i.toNat w := by
  simp [Instr.sliceBound, asIntOf, h0, h1]

theorem aCutK_ok {n cap : Nat} {lo hi : Option AV} {lo' hi' : Option Value} {kk : Nat → Nat → Res} {b : Bool} (hl : OptVR M ι lo lo') (hh : OptVR M ι hi hi') (hn : n ≤ cap) (h : aCutK n lo hi kk = some r) :
    ∃ l u, kk l u = some r ∧ l ≤ u ∧ u ≤ n ∧ (Instr.sliceBounds b n cap lo' hi' none).run P w = .ok (l, u, cap) w := by
  unfold aCutK at h
  split at h
  · cases lo' <;> simp [OptVR] at hl
    cases hi' <;> simp [OptVR] at hh
    exact ⟨0, n, h, Nat.zero_le _, Nat.le_refl _, by simp [Instr.sliceBounds]⟩
  · rename_i k l
    cases lo' with
    | none => simp [OptVR] at hl
    | some c =>
      cases hi' <;> simp [OptVR] at hh
      cases VR.int_inv hl
      obtain ⟨h0, h⟩ := aIf_none h
      obtain ⟨h1, h⟩ := aIf_none h
      have h0 : 0 ≤ l := by simpa using h0
      have h1 : l ≤ (n : Int) := by simpa using h1
      exact ⟨l.toNat, n, h, by omega, Nat.le_refl _, by simp [Instr.sliceBounds, run_sliceBound h0 h1]⟩
  · rename_i k u
    cases lo' <;> simp [OptVR] at hl
    cases hi' with
    | none => simp [OptVR] at hh
    | some c =>
      cases VR.int_inv hh
      obtain ⟨h0, h⟩ := aIf_none h
      obtain ⟨h1, h⟩ := aIf_none h
      have h0 : 0 ≤ u := by simpa using h0
      have h1 : u ≤ (n : Int) := by simpa using h1
      exact ⟨0, u.toNat, h, by omega, by omega, by simp [Instr.sliceBounds, run_sliceBound h0 (show u ≤ (cap : Int) by omega)]⟩
  · rename_i k l k' u
    cases lo' with
    | none => simp [OptVR] at hl
    | some c =>
      cases hi' with
      | none => simp [OptVR] at hh
      | some d =>
        cases VR.int_inv hl
        cases VR.int_inv hh
        obtain ⟨h0, h⟩ := aIf_none h
        obtain ⟨h1, h⟩ := aIf_none h
        obtain ⟨h2, h⟩ := aIf_none h
        have h0 : 0 ≤ l := by simpa using h0
        have h1 : l ≤ u := by simpa using h1
        have h2 : u ≤ (n : Int) := by simpa using h2
        exact ⟨l.toNat, u.toNat, h, by omega, by omega, by
          simp [Instr.sliceBounds, run_sliceBound (show 0 ≤ u by omega) (show u ≤ (cap : Int) by omega), run_sliceBound h0 (show l ≤ (u.toNat : Int) by omega)]⟩
  · cases h

theorem SF.mem_cases {fl : SF} (h : fl.mem = true) : fl = .any ∨ fl = .bor := by cases fl <;> simp [SF.mem] at h ⊢

theorem VR.fs_inv {sz : Nat} {xs : List AV} {fl : SF} {c : Value} (h : VR M ι (.fs sz xs fl) c) :
    (fl = .nil ∧ xs = [] ∧ c = .slice none 0 0) ∨ (fl = .zc ∧ xs = [] ∧ ∃ za, c = .slice (some za) 0 0) ∨
    (fl.mem = true ∧ ∃ b o cap, c = .slice (some ⟨b, o, none⟩) xs.length cap ∧ xs.length ≤ cap) := by
  cases h with
  | fsNil => exact .inl ⟨rfl, rfl, rfl⟩
  | fsZc sz za => exact .inr (.inl ⟨rfl, rfl, za, rfl⟩)
  | fsAny hf b o cap g h1 => exact .inr (.inr ⟨hf, b, o, cap, rfl, h1⟩)

theorem run_sizeOf_ok {e : TypeId} {j : TypeInfo} (h : P.info? e = some j) : (sizeOf e).run P w = .ok j.size w := by simp [sizeOf, run_typeInfo h]

/-- 'xs[:0:0]'. -/
theorem run_slice00 {e : TypeId} {n : Nat} {t : TypeId} (hu : P.underlying t = some (.slice e)) (hs : (sizeOf e).run P w = .ok n w) (a : Option Addr) (len cap : Nat) (k k' : IntKind) :
    (Instr.sliceAt t (.slice a len cap) none (some (.int k 0)) (some (.int k' 0))).run P w = .ok (.slice a 0 0) w := by
  simp [Instr.sliceAt, run_underlying hu, Instr.slice, Instr.sliceBounds, Instr.sliceBound, asIntOf, hs]

theorem aSliceK_ok {t : TypeId} {x : AV} {c : Value} {lo hi mx : Option AV} {lo' hi' mx' : Option Value} {kv : AV → AH → Res} (hE : EnvOK P E) (hx : VR M ι x c)
    (hlo : OptVR M ι lo lo') (hhi : OptVR M ι hi hi') (hmx : OptVR M ι mx mx') (h : aSliceK E t x lo hi mx H kv = some r) :
    PureOK P M ι w (Instr.sliceAt t c lo' hi' mx') (fun v => kv v H) r := by
  unfold aSliceK at h
  split at h
  · cases h
  rename_i i hi0
  have hT := hE t i hi0
  split at h
  · rename_i m
    cases mx' with
    | none => simp [OptVR] at hmx
    | some m' =>
      split at h
      · rename_i e s xs fl k k' hd
        cases lo' <;> simp [OptVR] at hlo
        cases hi' with
        | none => simp [OptVR] at hhi
        | some d =>
          cases VR.int_inv hhi
          cases VR.int_inv hmx
          split at h
          · cases h
          rename_i ei hei
          have hu := hT.und
          rw [hd] at hu
          have hrun := fun a len cap => run_slice00 (P := P) (w := w) hu (hE e ei hei).run_size a len cap k k'
          rcases hx.fs_inv with ⟨rfl, rfl, rfl⟩ | ⟨rfl, rfl, za, rfl⟩ | ⟨hf, b, o, cap, rfl, hc⟩
          · exact ⟨_, _, h, .fsNil _, hrun _ _ _⟩
          · exact ⟨_, _, h, .fsZc _ za, hrun _ _ _⟩
          · have hz : zeroCap fl = .zc := by cases fl <;> first | rfl | cases hf
            rw [hz] at h
            exact ⟨_, _, h, .fsZc _ _, hrun _ _ _⟩
      · rename_i e id ver off len s k k' hd
        cases lo' <;> simp [OptVR] at hlo
        cases hi' with
        | none => simp [OptVR] at hhi
        | some d =>
          cases VR.int_inv hhi
          cases VR.int_inv hmx
          split at h
          · cases h
          rename_i ei hei
          have hu := hT.und
          rw [hd] at hu
          have hrun := fun a len cap => run_slice00 (P := P) (w := w) hu (hE e ei hei).run_size a len cap k k'
          cases hx with
          | sl o cap hb h1 h2 h3 => exact ⟨_, _, h, .fsZc _ _, hrun _ _ _⟩
      · cases h
  · cases mx' <;> simp [OptVR] at hmx
    split at h
    · rename_i s hd
      cases hx.str_inv
      obtain ⟨l, u, h, hlu, hun, hr⟩ := aCutK_ok (P := P) (w := w) (b := false) hlo hhi (Nat.le_refl _) h
      refine ⟨_, _, h, .str _, ?_⟩
      simp [Instr.sliceAt, hT.run_und, hd, Instr.slice, hr]
    · rename_i e s xs fl hd
      split at h
      · cases h
      rename_i ei hei
      have hTe := hE e ei hei
      split at h
      · rename_i hs
        obtain rfl : s = ei.size := by simpa using hs
        rcases hx.fs_inv with ⟨rfl, rfl, rfl⟩ | ⟨rfl, rfl, za, rfl⟩ | ⟨hf, b, o, cap, rfl, hc⟩
        · obtain ⟨l, u, h, hlu, hun, hr⟩ := aCutK_ok (P := P) (w := w) (b := true) (cap := 0) hlo hhi (Nat.le_refl _) h
          obtain rfl : u = 0 := by simpa using hun
          obtain rfl : l = 0 := by omega
          refine ⟨_, .slice none 0 0, h, by simpa using VR.fsNil _, ?_⟩
          simp [Instr.sliceAt, hT.run_und, hd, Instr.slice, hr, hTe.run_size]
        · obtain ⟨l, u, h, hlu, hun, hr⟩ := aCutK_ok (P := P) (w := w) (b := true) (cap := 0) hlo hhi (Nat.le_refl _) h
          obtain rfl : u = 0 := by simpa using hun
          obtain rfl : l = 0 := by omega
          refine ⟨_, .slice (some za) 0 0, h, by simpa using VR.fsZc _ za, ?_⟩
          simp [Instr.sliceAt, hT.run_und, hd, Instr.slice, hr, hTe.run_size]
        · obtain ⟨l, u, h, hlu, hun, hr⟩ := aCutK_ok (P := P) (w := w) (b := true) (cap := cap) hlo hhi hc h
          have hlen : ((xs.take u).drop l).length = u - l := by simp; omega
          cases hx with
          | fsZc => cases hf
          | fsAny _ _ _ _ g g1 g2 g3 g4 =>
            by_cases hcl : cap = l
            · subst hcl
              have hxl : (xs.take u).drop cap = [] := List.eq_nil_of_length_eq_zero (by omega)
              refine ⟨_, .slice (some ⟨b, o, none⟩) (u - cap) (cap - cap), h, ?_, ?_⟩
              · rw [← hlen]
                exact .fsAny hf b o _ (fun _ _ => undef) (by rw [hxl]; simp) (fun i x hx => by rw [hxl] at hx; simp at hx) (fun i x j y hx => by rw [hxl] at hx; simp at hx) (fun i x j y hx => by rw [hxl] at hx; simp at hx)
              · simp [Instr.sliceAt, hT.run_und, hd, Instr.slice, hr, hTe.run_size]
            · refine ⟨_, .slice (some ⟨b, o + l * ei.size, none⟩) (u - l) (cap - l), h, ?_, ?_⟩
              · rw [← hlen]
                have hget : ∀ (i : Nat) (x : AV), ((xs.take u).drop l)[i]? = some x → xs[l + i]? = some x := by
                  intro i x hx
                  rw [List.getElem?_drop] at hx
                  have hlt : l + i < u := by
                    have := (List.getElem?_eq_some_iff.1 hx).1
                    simp at this; omega
                  rwa [List.getElem?_take_of_lt hlt] at hx
                refine .fsAny hf b (o + l * ei.size) _ (fun i j => g (l + i) j) (by omega) (fun i x hx => g2 _ x (hget i x hx)) (fun i x j y hx hy => ?_) (fun i x j y hx hy => g4 _ x j y (hget i x hx) hy)
                have := g3 _ x j y (hget i x hx) hy
                rwa [show o + (l + i) * ei.size + j = o + l * ei.size + i * ei.size + j by rw [Nat.add_mul]; omega] at this
              · simp [Instr.sliceAt, hT.run_und, hd, Instr.slice, hr, hTe.run_size, hcl, Addr.add_lit]
      · split at h
        · rcases hx.fs_inv with ⟨rfl, _, rfl⟩ | ⟨rfl, _, za, rfl⟩ | ⟨hf, b, o, cap, rfl, hc⟩
          · obtain ⟨l, u, h, hlu, hun, hr⟩ := aCutK_ok (P := P) (w := w) (b := true) (cap := 0) hlo hhi (Nat.le_refl _) h
            obtain rfl : u = 0 := by simpa using hun
            obtain rfl : l = 0 := by omega
            refine ⟨_, .slice none 0 0, h, .fsNil _, ?_⟩
            simp [Instr.sliceAt, hT.run_und, hd, Instr.slice, hr, hTe.run_size]
          · obtain ⟨l, u, h, hlu, hun, hr⟩ := aCutK_ok (P := P) (w := w) (b := true) (cap := 0) hlo hhi (Nat.le_refl _) h
            obtain rfl : u = 0 := by simpa using hun
            obtain rfl : l = 0 := by omega
            refine ⟨_, .slice (some za) 0 0, h, .fsZc _ za, ?_⟩
            simp [Instr.sliceAt, hT.run_und, hd, Instr.slice, hr, hTe.run_size]
          · obtain ⟨l, u, h, hlu, hun, hr⟩ := aCutK_ok (P := P) (w := w) (b := true) (cap := cap) hlo hhi (Nat.zero_le _) h
            obtain rfl : u = 0 := by simpa using hun
            obtain rfl : l = 0 := by omega
            refine ⟨_, .slice (some ⟨b, o, none⟩) 0 cap, h, .fsAny hf b o cap (fun _ _ => undef) (Nat.zero_le _) (fun i x hx => by simp at hx) (fun i x j y hx => by simp at hx) (fun i x j y hx => by simp at hx), ?_⟩
            simp only [List.length_nil]
            simp [Instr.sliceAt, hT.run_und, hd, Instr.slice, hr, hTe.run_size, Addr.add_lit]
        · cases h
    · rename_i e id ver off len sz hd
      split at h
      · cases h
      rename_i ei hei
      have hTe := hE e ei hei
      split at h
      · rename_i hs
        obtain rfl : ei.size = sz := by simpa using hs
        cases hx with
        | sl o cap hb h1 h2 h3 =>
          obtain ⟨l, u, h, hlu, hun, hr⟩ := aCutK_ok (P := P) (w := w) (b := true) (cap := cap) hlo hhi h1 h
          by_cases hcl : cap = l
          · subst hcl
            refine ⟨_, .slice (some ⟨_, o, none⟩) (u - cap) (cap - cap), h, .sl o (cap - cap) hb (by omega) (.inl (by omega)) (fun h0 hv => ?_), ?_⟩
            · by_cases hl0 : cap * ei.size = 0
              · obtain ⟨_, ha, hb'⟩ := h3 (by omega) hv
                omega
              · omega
            · simp [Instr.sliceAt, hT.run_und, hd, Instr.slice, hr, hTe.run_size]
          · refine ⟨_, .slice (some ⟨_, o + l * ei.size, none⟩) (u - l) (cap - l), h, .sl (o + l * ei.size) (cap - l) hb (by omega) (.inr ?_) (fun h0 hv => ?_), ?_⟩
            · rcases h2 with rfl | rfl
              · omega
              · rfl
            · obtain ⟨hlv, ha, hb'⟩ := h3 (by omega) hv
              have hls : l * ei.size = 0 := by omega
              have hu : (u - l) * ei.size ≤ len * ei.size := Nat.mul_le_mul_right _ (by omega)
              rw [Nat.sub_mul cap, hls]
              omega
            · simp [Instr.sliceAt, hT.run_und, hd, Instr.slice, hr, hTe.run_size, hcl, Addr.add_lit]
      · cases h
    · rename_i arr id off hd
      split at h
      · cases h
      rename_i ai hai
      have hTa := hE arr ai hai
      split at h
      · rename_i n e hda
        split at h
        · cases h
        rename_i ei hei
        have hTe := hE e ei hei
        cases hx with
        | ptr _ hb =>
          obtain ⟨l, u, h, hlu, hun, hr⟩ := aCutK_ok (P := P) (w := w) (b := false) (cap := n) hlo hhi (Nat.le_refl _) h
          by_cases hcl : n = l
          · subst hcl
            refine ⟨_, .slice (some ⟨_, off, none⟩) (u - n) (n - n), h, .sl off (n - n) hb (by omega) (.inl (by omega)) (fun _ hv => absurd rfl hv), ?_⟩
            simp [Instr.sliceAt, hT.run_und, hd, Instr.slice, asAddr, hTa.run_und, hda, hr, hTe.run_size]
          · refine ⟨_, .slice (some ⟨_, off + l * ei.size, none⟩) (u - l) (n - l), h, .sl (off + l * ei.size) (n - l) hb (by omega) (.inr rfl) (fun _ hv => absurd rfl hv), ?_⟩
            simp [Instr.sliceAt, hT.run_und, hd, Instr.slice, asAddr, hTa.run_und, hda, hr, hTe.run_size, hcl, Addr.add_lit]
      · cases h
    · rename_i n e id off hd
      split at h
      · cases h
      rename_i ei hei
      have hTe := hE e ei hei
      cases hx with
      | ptr _ hb =>
        obtain ⟨l, u, h, hlu, hun, hr⟩ := aCutK_ok (P := P) (w := w) (b := false) (cap := n) hlo hhi (Nat.le_refl _) h
        by_cases hcl : n = l
        · subst hcl
          refine ⟨_, .slice (some ⟨_, off, none⟩) (u - n) (n - n), h, .sl off (n - n) hb (by omega) (.inl (by omega)) (fun _ hv => absurd rfl hv), ?_⟩
          simp [Instr.sliceAt, hT.run_und, hd, Instr.sureAddr, hr, hTe.run_size]
        · refine ⟨_, .slice (some ⟨_, off + l * ei.size, none⟩) (u - l) (n - l), h, .sl (off + l * ei.size) (n - l) hb (by omega) (.inr rfl) (fun _ hv => absurd rfl hv), ?_⟩
          simp [Instr.sliceAt, hT.run_und, hd, Instr.sureAddr, hr, hTe.run_size, hcl, Addr.add_lit]
    · cases h

theorem aLenK_ok {t : TypeId} {x : AV} {c : Value} {ty : TypeId} {ats : Array TypeId} {kk : AV → Res} (hE : EnvOK P E) (hx : VR M ι x c) (hat : ats[0]? = some t) (h : aLenK E t x kk = some r) :
    PureOK P M ι w (Builtin.len_ ats ty #[c]) kk r := by
  unfold aLenK at h
  split at h
  · cases h
  rename_i i hi
  have hT := hE t i hi
  split at h
  · rename_i s hd
    cases hx.str_inv
    exact ⟨_, _, h, .int _ _, by simp [Builtin.len_, hat, hT.run_und, hd, goInt]⟩
  · rename_i n e hd
    exact ⟨_, _, h, .int _ _, by cases c <;> simp [Builtin.len_, hat, hT.run_und, hd, goInt]⟩
  · rename_i e s xs fl hd
    rcases hx.fs_inv with ⟨rfl, rfl, rfl⟩ | ⟨rfl, rfl, za, rfl⟩ | ⟨hf, b, o, cap, rfl, hc⟩
    · exact ⟨_, _, h, .int _ _, by simp [Builtin.len_, hat, hT.run_und, hd, goInt]⟩
    · exact ⟨_, _, h, .int _ _, by simp [Builtin.len_, hat, hT.run_und, hd, goInt]⟩
    · exact ⟨_, _, h, .int _ _, by simp [Builtin.len_, hat, hT.run_und, hd, goInt]⟩
  · rename_i e id ver off len sz hd
    cases hx with
    | sl o cap hb h1 h2 h3 => exact ⟨_, _, h, .int _ _, by simp [Builtin.len_, hat, hT.run_und, hd, goInt]⟩
  · cases h

end
end Go.Abs
