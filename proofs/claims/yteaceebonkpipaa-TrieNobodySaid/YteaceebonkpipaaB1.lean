/- The evaluator takes one way: what comes behind does not turn what was reckoned. -/
import Derived.Test.YteaceebonkpipaaB0
namespace Go.Abs

def encV : AV → AH → Res := fun v H => some (.ret v, H)
def encP : AV → AH → Res := fun v H => some (.pan v, H)
def dec2 (x : Res) (kv kp : AV → AH → Res) : Res :=
  match x with
  | some (.ret v, H) => kv v H
  | some (.pan v, H) => kp v H
  | none => none

/-- What is handed to 'kk' alone. -/
def enc1 : AV → Res := fun v => some (.ret v, [])
def dec1 (x : Res) (kk : AV → Res) : Res :=
  match x with
  | some (.ret v, _) => kk v
  | _ => none

def encL : List AV → Res := fun v => some (.ret (.tup v), [])
def decL (x : Res) (kk : List AV → Res) : Res :=
  match x with
  | some (.ret (.tup v), _) => kk v
  | _ => none

theorem aIf_dec2 (b : Bool) (x y : Res) (kv kp : AV → AH → Res) : dec2 (aIf b x y) kv kp = aIf b (dec2 x kv kp) (dec2 y kv kp) := by cases b <;> rfl
theorem aIf_dec1 (b : Bool) (x y : Res) (kk : AV → Res) : dec1 (aIf b x y) kk = aIf b (dec1 x kk) (dec1 y kk) := by cases b <;> rfl
theorem aIf_decL (b : Bool) (x y : Res) (kk : List AV → Res) : decL (aIf b x y) kk = aIf b (decL x kk) (decL y kk) := by cases b <;> rfl

theorem etaK_nat (k : CK) (v : AV) (kk : AV → Res) : etaK k v kk = dec1 (etaK k v enc1) kk := by
  unfold etaK aIf
  repeat' split
  all_goals rfl
theorem etaFK_nat (k : CK) (v : AV) (kk : AV → Res) : etaFK k v kk = dec1 (etaFK k v enc1) kk := by
  unfold etaFK
  split
  · unfold aIf
    split <;> rfl
  · exact etaK_nat _ _ _

theorem etasK_one {f : CK → AV → (AV → Res) → Res} (hf : ∀ k v kk, f k v kk = dec1 (f k v enc1) kk) : ∀ (ks : List CK) (vs : List AV), (∀ kk, etasK f ks vs kk = none) ∨ ∃ ws, ∀ kk, etasK f ks vs kk = kk ws
  | [], [] => .inr ⟨[], fun _ => rfl⟩
  | [], _ :: _ => .inl fun _ => rfl
  | _ :: _, [] => .inl fun _ => rfl
  | k :: ks, v :: vs => by
    have h1 : (∀ kk, f k v kk = none) ∨ ∃ w, ∀ kk, f k v kk = kk w := by
      cases hx : f k v enc1 with
      | none => exact .inl fun kk => by rw [hf, hx]; rfl
      | some p =>
        obtain ⟨e, H⟩ := p
        cases e with
        | ret w => exact .inr ⟨w, fun kk => by rw [hf, hx]; rfl⟩
        | pan w => exact .inl fun kk => by rw [hf, hx]; rfl
    rcases h1 with h1 | ⟨w, h1⟩
    · exact .inl fun kk => by simp only [etasK, h1]
    · rcases etasK_one hf ks vs with h2 | ⟨ws, h2⟩
      · exact .inl fun kk => by simp only [etasK, h1, h2]
      · exact .inr ⟨w :: ws, fun kk => by simp only [etasK, h1, h2]⟩

theorem etas_dec2 {f : CK → AV → (AV → Res) → Res} (hf : ∀ k v kk, f k v kk = dec1 (f k v enc1) kk) (ks : List CK) (vs : List AV) {kv kp : AV → AH → Res} {g : List AV → AV} {H : AH} :
    etasK f ks vs (fun ws => kv (g ws) H) = dec2 (etasK f ks vs (fun ws => encV (g ws) H)) kv kp := by
  rcases etasK_one hf ks vs with h | ⟨ws, h⟩
  · simp only [h]; rfl
  · simp only [h]; rfl
theorem etas_dec1 {f : CK → AV → (AV → Res) → Res} (hf : ∀ k v kk, f k v kk = dec1 (f k v enc1) kk) (ks : List CK) (vs : List AV) {kk : AV → Res} {g : List AV → AV} :
    etasK f ks vs (fun ws => kk (g ws)) = dec1 (etasK f ks vs (fun ws => enc1 (g ws))) kk := by
  rcases etasK_one hf ks vs with h | ⟨ws, h⟩
  · simp only [h]; rfl
  · simp only [h]; rfl

variable {E : Env} {H : AH} {kv kp : AV → AH → Res}

theorem aLoadK_nat {t : TypeId} {a : AV} : aLoadK E t a H kv = dec2 (aLoadK E t a H encV) kv kp := by
  unfold aLoadK
  repeat' split
  all_goals first
    | rfl
    | (rw [aIf_dec2, aIf_dec2, etas_dec2 (kp := kp) (fun k v kk => etaK_nat k v kk)]; rfl)
    | (rw [aIf_dec2, etas_dec2 (kp := kp) (fun k v kk => etaFK_nat k v kk)]; rfl)

theorem aStoreK_nat {t : TypeId} {a x : AV} : aStoreK E t a x H kv = dec2 (aStoreK E t a x H encV) kv kp := by
  unfold aStoreK
  repeat' split
  all_goals first
    | rfl
    | (rw [aIf_dec2, aIf_dec2]; rfl)

theorem dec2_V (v : AV) (H : AH) : dec2 (encV v H) kv kp = kv v H := rfl
theorem dec2_none : dec2 none kv kp = none := rfl

theorem aFieldAddrK_nat {t : TypeId} {a : AV} {f : Nat} : aFieldAddrK E t a f (fun v => kv v H) = dec2 (aFieldAddrK E t a f (fun v => encV v H)) kv kp := by
  unfold aFieldAddrK
  repeat' split
  all_goals first
    | rfl
    | (simp only [aIf_dec2, dec2_V, dec2_none])
theorem aIndexAddrK_nat {t : TypeId} {a i : AV} : aIndexAddrK E t a i (fun v => kv v H) = dec2 (aIndexAddrK E t a i (fun v => encV v H)) kv kp := by
  unfold aIndexAddrK
  repeat' split
  all_goals first
    | rfl
    | (simp only [aIf_dec2, dec2_V, dec2_none])
theorem aIndexK_nat {t : TypeId} {a i : AV} : aIndexK E t a i (fun v => kv v H) = dec2 (aIndexK E t a i (fun v => encV v H)) kv kp := by
  unfold aIndexK
  repeat' split
  all_goals first
    | rfl
    | (simp only [aIf_dec2, dec2_none]; rw [← etas_dec2 (kp := kp) (fun k v kk => etaK_nat k v kk)])
    | (simp only [aIf_dec2, dec2_V, dec2_none])
theorem aLenK_nat {t : TypeId} {a : AV} : aLenK E t a (fun v => kv v H) = dec2 (aLenK E t a (fun v => encV v H)) kv kp := by
  unfold aLenK
  repeat' split
  all_goals rfl
theorem aAppendK_nat {ats : Array TypeId} {a b : AV} : aAppendK E ats a b H kv = dec2 (aAppendK E ats a b H encV) kv kp := by
  unfold aAppendK
  repeat' split
  all_goals first
    | rfl
    | (simp only [aIf_dec2, dec2_V, dec2_none])
theorem aCopyK_nat {ats : Array TypeId} {a b : AV} : aCopyK E ats a b H kv = dec2 (aCopyK E ats a b H encV) kv kp := by
  unfold aCopyK
  repeat' split
  all_goals first
    | rfl
    | (simp only [aIf_dec2, dec2_V, dec2_none])
theorem aClearK_nat {ats : Array TypeId} {a : AV} : aClearK E ats a H kv = dec2 (aClearK E ats a H encV) kv kp := by
  unfold aClearK
  repeat' split
  all_goals first
    | rfl
    | (simp only [aIf_dec2, dec2_V, dec2_none])
theorem findK_dec {kt : TypeId} {k : AV} {k1 k2 : Option (Nat × AV × AV) → Res} (h : ∀ q, k1 q = dec2 (k2 q) kv kp) : ∀ (es : List (AV × AV)) (i : Nat), findK E kt k es i k1 = dec2 (findK E kt k es i k2) kv kp
  | [], i => h none
  | (a, v) :: es, i => by
    simp only [findK]
    split
    · rw [aIf_dec2, ← h, ← findK_dec h es (i + 1)]
    · rfl
theorem aMapSetK_nat {t : TypeId} {m k v : AV} : aMapSetK E t m k v H kv = dec2 (aMapSetK E t m k v H encV) kv kp := by
  unfold aMapSetK
  repeat' split
  all_goals first
    | rfl
    | (rw [aIf_dec2, dec2_none, ← findK_dec]
       intro q
       repeat' split
       all_goals first
         | rfl
         | (simp only [aIf_dec2, dec2_V, dec2_none]))
theorem aLookupK_nat {t : TypeId} {m k : AV} {ok : Bool} : aLookupK E t m k ok H kv = dec2 (aLookupK E t m k ok H encV) kv kp := by
  unfold aLookupK
  repeat' split
  all_goals first
    | rfl
    | (rw [aIf_dec2, dec2_none, ← findK_dec]
       intro q
       repeat' split
       all_goals first
         | rfl
         | (simp only [aIf_dec2, dec2_V, dec2_none]))
theorem aBuiltinK_nat {b : Builtin} {ats : Array TypeId} {args : List AV} : aBuiltinK E b ats args H kv = dec2 (aBuiltinK E b ats args H encV) kv kp := by
  unfold aBuiltinK
  repeat' split
  all_goals first
    | rfl
    | exact aLenK_nat
    | exact aAppendK_nat
    | exact aCopyK_nat
    | exact aClearK_nat
theorem aMakeSliceK_nat {t : TypeId} {l c : AV} : aMakeSliceK E t l c H kv = dec2 (aMakeSliceK E t l c H encV) kv kp := by
  unfold aMakeSliceK
  repeat' split
  all_goals first
    | rfl
    | (simp only [aIf_dec2, dec2_V, dec2_none])
theorem aNextK_nat {it : AV} : aNextK it H kv = dec2 (aNextK it H encV) kv kp := by
  unfold aNextK
  repeat' split
  all_goals first
    | rfl
    | (simp only [aIf_dec2, dec2_V])
theorem aTypeAssertK_nat {x : AV} {t : TypeId} {ok : Bool} : aTypeAssertK E x t ok (fun v => kv v H) = dec2 (aTypeAssertK E x t ok (fun v => encV v H)) kv kp := by
  unfold aTypeAssertK
  repeat' split
  all_goals rfl
theorem aCutK_nat {n : Nat} {lo hi : Option AV} {g : Nat → Nat → AV} : aCutK n lo hi (fun l u => kv (g l u) H) = dec2 (aCutK n lo hi (fun l u => encV (g l u) H)) kv kp := by
  unfold aCutK
  repeat' split
  all_goals first
    | rfl
    | (simp only [aIf_dec2, dec2_V, dec2_none])
theorem aSliceK_nat {t : TypeId} {x : AV} {lo hi mx : Option AV} : aSliceK E t x lo hi mx H kv = dec2 (aSliceK E t x lo hi mx H encV) kv kp := by
  unfold aSliceK
  repeat' split
  all_goals first
    | rfl
    | (simp only [aIf_dec2, dec2_V, dec2_none])
    | (simp only [aIf_dec2]; rw [aCutK_nat (kp := kp)]; rfl)
    | exact aCutK_nat
theorem aArithK_nat {op : BinOp} {k : IntKind} {a b : Int} : aArithK op k a b (fun v => kv v H) = dec2 (aArithK op k a b (fun v => encV v H)) kv kp := by
  unfold aArithK
  repeat' split
  all_goals first
    | rfl
    | (simp only [aIf_dec2, dec2_V, dec2_none])
theorem aShiftK_nat {op : BinOp} {k : IntKind} {a b : Int} : aShiftK op k a b (fun v => kv v H) = dec2 (aShiftK op k a b (fun v => encV v H)) kv kp := by
  unfold aShiftK
  repeat' split
  all_goals first
    | rfl
    | (simp only [aIf_dec2, dec2_V, dec2_none])
theorem aStrK_nat {op : BinOp} {a b : ByteArray} : aStrK op a b (fun v => kv v H) = dec2 (aStrK op a b (fun v => encV v H)) kv kp := by
  unfold aStrK
  repeat' split
  all_goals first
    | rfl
    | (simp only [aIf_dec2, dec2_V, dec2_none])
theorem aBinK_nat {op : BinOp} {t : TypeId} {xo yo : Operand} {x y : AV} : aBinK E op t xo yo x y (fun v => kv v H) = dec2 (aBinK E op t xo yo x y (fun v => encV v H)) kv kp := by
  unfold aBinK
  repeat' split
  all_goals first
    | rfl
    | exact aShiftK_nat
    | exact aArithK_nat
    | exact aStrK_nat
theorem aUnK_nat {op : UnOp} {x : AV} : aUnK op x (fun v => kv v H) = dec2 (aUnK op x (fun v => encV v H)) kv kp := by
  unfold aUnK
  repeat' split
  all_goals rfl
theorem aConvertK_nat {s d : TypeId} {x : AV} : aConvertK E s d x H kv = dec2 (aConvertK E s d x H encV) kv kp := by
  unfold aConvertK
  repeat' split
  all_goals first
    | rfl
    | (simp only [aIf_dec2, dec2_V, dec2_none])

theorem freezeLK_dec {H : AH} {l : List AV} {k1 k2 : List AV → Res} (h : ∀ xs, k1 xs = dec2 (k2 xs) kv kp) : freezeLK (freezeK H 8) l k1 = dec2 (freezeLK (freezeK H 8) l k2) kv kp := by
  have out : ∀ k, freezeLK (freezeK H 8) l k = none ∨ ∃ xs, ∀ k', freezeLK (freezeK H 8) l k' = k' xs := by
    intro k
    cases hx : freezeLK (freezeK H 8) l (fun xs => some (.ret (.tup xs), [])) with
    | some r =>
      obtain ⟨xs, _, h2, _⟩ := freezeLK_nat (f := freezeK H 8) (freezeK_nat 8) l _ hx
      exact .inr ⟨xs, h2⟩
    | none =>
      refine .inl ?_
      cases hy : freezeLK (freezeK H 8) l k with
      | none => rfl
      | some r =>
        obtain ⟨xs, _, h2, _⟩ := freezeLK_nat (f := freezeK H 8) (freezeK_nat 8) l _ hy
        rw [h2] at hx; cases hx
  rcases out k1 with h1 | ⟨xs, h1⟩
  · rcases out k2 with h2 | ⟨ys, h2⟩
    · rw [h1, h2]; rfl
    · rw [h1, h2]
      rw [h2] at h1
      rw [← h, h1]
  · rw [h1, h1, h]

theorem lendLK_dec {H : AH} {l : List AV} {k1 k2 : List AV → Res} (h : ∀ xs, k1 xs = dec2 (k2 xs) kv kp) : freezeLK (lendK H 8) l k1 = dec2 (freezeLK (lendK H 8) l k2) kv kp := by
  have out : ∀ k, freezeLK (lendK H 8) l k = none ∨ ∃ xs, ∀ k', freezeLK (lendK H 8) l k' = k' xs := by
    intro k
    cases hx : freezeLK (lendK H 8) l (fun xs => some (.ret (.tup xs), [])) with
    | some r =>
      obtain ⟨xs, _, h2, _⟩ := freezeLK_nat (f := lendK H 8) (lendK_nat 8) l _ hx
      exact .inr ⟨xs, h2⟩
    | none =>
      refine .inl ?_
      cases hy : freezeLK (lendK H 8) l k with
      | none => rfl
      | some r =>
        obtain ⟨xs, _, h2, _⟩ := freezeLK_nat (f := lendK H 8) (lendK_nat 8) l _ hy
        rw [h2] at hx; cases hx
  rcases out k1 with h1 | ⟨xs, h1⟩
  · rcases out k2 with h2 | ⟨ys, h2⟩
    · rw [h1, h2]; rfl
    · rw [h1, h2]
      rw [h2] at h1
      rw [← h, h1]
  · rw [h1, h1, h]

theorem freezeK_dec {H : AH} {v : AV} {k1 k2 : AV → Res} (h : ∀ x, k1 x = dec2 (k2 x) kv kp) : freezeK H 8 v k1 = dec2 (freezeK H 8 v k2) kv kp := by
  have out : ∀ k, freezeK H 8 v k = none ∨ ∃ x, ∀ k', freezeK H 8 v k' = k' x := by
    intro k
    cases hx : freezeK H 8 v encV1 with
    | some r =>
      obtain ⟨x, _, h2⟩ := freezeK_nat 8 v _ hx
      exact .inr ⟨x, h2⟩
    | none =>
      refine .inl ?_
      cases hy : freezeK H 8 v k with
      | none => rfl
      | some r =>
        obtain ⟨x, _, h2⟩ := freezeK_nat 8 v _ hy
        rw [h2] at hx; cases hx
  rcases out k1 with h1 | ⟨x, h1⟩
  · rcases out k2 with h2 | ⟨y, h2⟩
    · rw [h1, h2]; rfl
    · rw [h1, h2]
      rw [h2] at h1
      rw [← h, h1]
  · rw [h1, h1, h]

theorem aCallK_nat {C : Ctx} {ts : ATs} {c : Call} (hn : ∀ f args H k, C.call f args H k = decE (C.call f args H encE) k) (hr : ∀ l args H k, C.round l args H k = decE (C.round l args H encE) k) :
    aCallK C ts c H kv kp = dec2 (aCallK C ts c H encV encP) kv kp := by
  unfold aCallK
  split
  · rename_i b _
    split
    · rw [aBuiltinK_nat (kp := encP)]
      conv => rhs; rw [aBuiltinK_nat (kp := encP)]
      cases hx : aBuiltinK C.E b c.argTypes (c.args.toList.map (evalO ts)) [] encV with
      | none => rfl
      | some p =>
        obtain ⟨e, H1⟩ := p
        cases e with
        | ret v =>
          show freezeK H1 8 v (fun v => kv v H) = dec2 (freezeK H1 8 v (fun v => encV v H)) kv kp
          exact freezeK_dec (k2 := fun v => encV v H) (fun x => rfl)
        | pan v =>
          exfalso
          have h1 := aBuiltinK_nat (E := C.E) (b := b) (ats := c.argTypes) (args := c.args.toList.map (evalO ts)) (H := []) (kv := encV) (kp := fun _ _ => none)
          rw [hx] at h1
          cases h1
    · exact aBuiltinK_nat
  · split
    · unfold aEnterK
      split
      · rw [hn]
        conv => rhs; rw [hn]
        cases C.call _ _ [] encE with
        | none => rfl
        | some p =>
          simp only [decE]
          repeat' split
          all_goals rfl
      · split
        · rw [freezeLK_dec (kv := kv) (kp := kp)]
          intro xs
          split
          · rw [hn]
            conv => rhs; rw [hn]
            cases C.call _ _ [] encE with
            | none => rfl
            | some p =>
              simp only [decE]
              repeat' split
              all_goals rfl
          · rfl
        · split
          · rw [lendLK_dec (kv := kv) (kp := kp)]
            intro xs
            split
            · rw [hn]
              conv => rhs; rw [hn]
              cases C.call _ _ [] encE with
              | none => rfl
              | some p =>
                simp only [decE]
                repeat' split
                all_goals first
                  | rfl
                  | (simp only [aIf_dec2, dec2_V, dec2_none])
            · rfl
          · rw [hn]
            conv => rhs; rw [hn]
            cases C.call _ _ H encE with
            | none => rfl
            | some p =>
              simp only [decE]
              split <;> rfl
    · rw [hr]
      conv => rhs; rw [hr]
      cases C.round _ _ H encE with
      | none => rfl
      | some p =>
        simp only [decE]
        split <;> rfl
    · rfl
  · rfl

theorem aOpK_nat {C : Ctx} {ts : ATs} {o : Op} (hn : ∀ f args H k, C.call f args H k = decE (C.call f args H encE) k) (hr : ∀ l args H k, C.round l args H k = decE (C.round l args H encE) k) :
    aOpK C ts o H kv kp = dec2 (aOpK C ts o H encV encP) kv kp := by
  unfold aOpK
  split
  all_goals first
    | rfl
    | exact aLoadK_nat
    | exact aStoreK_nat
    | exact aBinK_nat
    | exact aUnK_nat
    | exact aConvertK_nat
    | exact aMakeSliceK_nat
    | exact aMapSetK_nat
    | exact aLookupK_nat
    | exact aSliceK_nat
    | exact aFieldAddrK_nat
    | exact aIndexAddrK_nat
    | exact aIndexK_nat
    | exact aNextK_nat
    | exact aTypeAssertK_nat
    | exact aCallK_nat hn hr
    | (repeat' split
       all_goals first
         | rfl
         | (simp only [aIf_dec2, dec2_V]))

/-- An operation looks at its operands alone. -/
theorem aOpK_local {C : Ctx} {ts ts' : ATs} {o : Op} (h : ∀ x ∈ o.operands.toList, evalO ts x = evalO ts' x) : aOpK C ts o H kv kp = aOpK C ts' o H kv kp := by
  have hmap : ∀ (xs : Array Operand), (∀ x ∈ xs.toList, x ∈ o.operands.toList) → xs.toList.map (evalO ts) = xs.toList.map (evalO ts') := fun xs hx => List.map_congr_left fun x hm => h x (hx x hm)
  have hopt : ∀ (x : Option Operand), (∀ y, x = some y → y ∈ o.operands.toList) → x.map (evalO ts) = x.map (evalO ts') := by
    intro x hx
    cases x with
    | none => rfl
    | some y => simp only [Option.map_some, h y (hx y rfl)]
  have hparts : ∀ (ps : Array (Nat × Operand)), (∀ p ∈ ps.toList, p.2 ∈ o.operands.toList) → evalP ts ps = evalP ts' ps := by
    intro ps hp
    unfold evalP
    exact List.map_congr_left fun p hm => by rw [h p.2 (hp p hm)]
  cases o with
  | build t ps =>
    have := hparts ps (fun p hp => by simp only [Op.operands, List.mem_map]; exact ⟨p, hp, rfl⟩)
    simp only [aOpK, this]
  | buildSlice t l ps =>
    have := hparts ps (fun p hp => by simp only [Op.operands, List.mem_map]; exact ⟨p, hp, rfl⟩)
    simp only [aOpK, this]
  | makeFunc f a c =>
    have h1 := hmap a (fun x hx => by simp only [Op.operands, Array.toList_append, List.mem_append]; exact .inl hx)
    have h2 := hmap c (fun x hx => by simp only [Op.operands, Array.toList_append, List.mem_append]; exact .inr hx)
    simp only [aOpK, h1, h2]
  | slice t x lo hi m =>
    have h0 := h x (by simp [Op.operands])
    have h1 := hopt lo (fun y hy => by subst hy; simp [Op.operands])
    have h2 := hopt hi (fun y hy => by subst hy; simp [Op.operands])
    have h3 := hopt m (fun y hy => by subst hy; simp [Op.operands])
    simp only [aOpK, h0, h1, h2, h3]
  | call c =>
    have h1 := hmap c.args (fun x hx => by simp only [Op.operands, Call.operands, Array.toList_append, List.mem_append]; exact .inr hx)
    simp only [aOpK, aCallK]
    cases hc : c.callee with
    | builtin b => simp only [h1]
    | invoke r n => rfl
    | value f =>
      have h0 := h f (by simp [Op.operands, Call.operands, hc])
      simp only [h0, h1]
  | pick c a b =>
    simp only [aOpK, h c (by simp [Op.operands]), h a (by simp [Op.operands]), h b (by simp [Op.operands])]
  | store t a v => simp only [aOpK, h a (by simp [Op.operands]), h v (by simp [Op.operands])]
  | binOp op t x y u => simp only [aOpK, h x (by simp [Op.operands]), h y (by simp [Op.operands])]
  | makeSlice t a v => simp only [aOpK, h a (by simp [Op.operands]), h v (by simp [Op.operands])]
  | indexAddr t a v => simp only [aOpK, h a (by simp [Op.operands]), h v (by simp [Op.operands])]
  | index t a v => simp only [aOpK, h a (by simp [Op.operands]), h v (by simp [Op.operands])]
  | alloc t => rfl
  | makeMap t x => cases x <;> rfl
  | mapUpdate t m k v => simp only [aOpK, h m (by simp [Op.operands]), h k (by simp [Op.operands]), h v (by simp [Op.operands])]
  | lookup t m k b => simp only [aOpK, h m (by simp [Op.operands]), h k (by simp [Op.operands])]
  | next x b => cases b <;> (try rfl); simp only [aOpK, h x (by simp [Op.operands])]
  | move x => simp only [aOpK, h x (by simp [Op.operands])]
  | assign x => simp only [aOpK, h x (by simp [Op.operands])]
  | box t x => simp only [aOpK, h x (by simp [Op.operands])]
  | load t x => simp only [aOpK, h x (by simp [Op.operands])]
  | nilCheck x => simp only [aOpK, h x (by simp [Op.operands])]
  | unOp op t x => simp only [aOpK, h x (by simp [Op.operands])]
  | convert a b x => simp only [aOpK, h x (by simp [Op.operands])]
  | makeInterface t x => simp only [aOpK, h x (by simp [Op.operands])]
  | fieldAddr t x f => simp only [aOpK, h x (by simp [Op.operands])]
  | field t x f => simp only [aOpK, h x (by simp [Op.operands])]
  | range t x => simp only [aOpK, h x (by simp [Op.operands])]
  | typeAssert x a b c => simp only [aOpK, h x (by simp [Op.operands])]
  | extract x i => simp only [aOpK, h x (by simp [Op.operands])]
  | panic x => simp only [aOpK, h x (by simp [Op.operands])]
  | _ => rfl

/-- Code takes one way. -/
def NatC (F : KC → Res) : Prop := ∀ k r, F k = some r → ∃ ex ts H, k ex ts H = some r ∧ ∀ k', F k' = k' ex ts H

theorem aOpsK_nat {C : Ctx} {ops : Array Oper} (hn : ∀ f args H k, C.call f args H k = decE (C.call f args H encE) k) (hr : ∀ l args H k, C.round l args H k = decE (C.round l args H encE) k) :
    ∀ (l : List Oper) (ts : ATs) (H : AH), NatC (aOpsK C ops l ts H)
  | [], ts, H, k, r, h => ⟨.normal, ts, H, h, fun _ => rfl⟩
  | o :: l, ts, H, k, r, h => by
    have doit : ∀ ts : ATs, NatC fun k => aOpK C ts o.op H (fun v H => aOpsK C ops l (ts.put o.dst v) H k) (fun v H => k (.pan v) ts H) := by
      intro ts k r h
      simp only at h ⊢
      rw [aOpK_nat hn hr] at h
      cases hx : aOpK C ts o.op H encV encP with
      | none => rw [hx] at h; cases h
      | some p =>
        rw [hx] at h
        obtain ⟨e, H1⟩ := p
        have hk : ∀ k : KC, aOpK C ts o.op H (fun v H => aOpsK C ops l (ts.put o.dst v) H k) (fun v H => k (.pan v) ts H) = dec2 (some (e, H1)) (fun v H => aOpsK C ops l (ts.put o.dst v) H k) (fun v H => k (.pan v) ts H) := fun k => by
          rw [aOpK_nat hn hr, hx]
        cases e with
        | ret v =>
          obtain ⟨ex, ts', H', h1, h2⟩ := aOpsK_nat hn hr l (ts.put o.dst v) H1 k r h
          exact ⟨ex, ts', H', h1, fun k' => by rw [hk]; exact h2 k'⟩
        | pan v => exact ⟨.pan v, ts, H1, h, fun k' => by rw [hk]; rfl⟩
    have skip : ∀ ts : ATs, NatC fun k => aOpsK C ops l (ts.put o.dst (.tup [])) H k := fun ts => aOpsK_nat hn hr l _ H
    unfold aOpsK at h ⊢
    simp only at h ⊢
    split at h
    · cases h
    · split at h
      · exact doit _ k r h
      · split at h
        · cases h
        · split at h
          · split at h
            · rcases aIf_some h with ⟨rfl, h⟩ | ⟨rfl, h⟩
              · exact doit _ k r h
              · exact skip _ k r h
            · rcases aIf_some h with ⟨rfl, h⟩ | ⟨rfl, h⟩
              · exact skip _ k r h
              · exact doit _ k r h
          · exact skip _ k r h
          · cases h

end Go.Abs
