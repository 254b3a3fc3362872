/- The evaluator's operations against the model's, seventh part: append and copy. -/
import Derived.Test.YteaceebonkpipaaA8
namespace Go.Abs
open Go.RowKit

section
variable {P : Program} {E : Env} {M : Mem} {ι : Io} {H : AH} {w : World} {r : Fin'}

/-- What a copy or an append reads. -/
structure Srcs (P : Program) (M : Mem) (ι : Io) (w : World) (size m : Nat) (d : Value) (news : List AV) (vs : List Value) : Prop where
  len : ∀ w' : World, (Builtin.lenOf d).run P w' = .ok m w'
  vlen : vs.length = m * size
  first : ∀ k, k ≤ m → ∀ w' : World, (∀ a : Addr, w'.cell? a = w.cell? a) → (Builtin.firstCells size k d).run P w' = .ok (vs.take (k * size)).toArray w'
  rel : ∀ (i : Nat) (x : AV) (v : Value), news[i]? = some x → vs[i]? = some v → VR M ι x v ∧ vone v = true

theorem vs_of_cells (b o n : Nat) (cs : List AV) (hn : cs.length = n) (hc : ∀ (i : Nat) (y : AV), cs[i]? = some y → ∃ v : Value, w.cell? ⟨b, o + i, none⟩ = some v ∧ VR M ι y v ∧ vone v = true) :
    ∃ vs : List Value, vs.length = n ∧ (∀ (i : Nat) (v : Value), vs[i]? = some v → w.cell? ⟨b, o + i, none⟩ = some v) ∧ ∀ (i : Nat) (x : AV) (v : Value), cs[i]? = some x → vs[i]? = some v → VR M ι x v ∧ vone v = true := by
  induction cs generalizing n o with
  | nil => exact ⟨[], by simpa using hn, fun i v h => by simp at h, fun i x v h => by simp at h⟩
  | cons y cs ih =>
    obtain ⟨v, h1, h2, h3⟩ := hc 0 y rfl
    obtain ⟨vs, q1, q2, q3⟩ := ih (o + 1) cs.length rfl (fun i y hy => by
      obtain ⟨v, a1, a2⟩ := hc (i + 1) y (by simpa using hy)
      exact ⟨v, by rwa [show o + 1 + i = o + (i + 1) by omega], a2⟩)
    refine ⟨v :: vs, by simp at hn; simp [q1, hn], fun i u hu => ?_, fun i x u hx hu => ?_⟩
    · cases i with
      | zero => simp at hu; subst hu; simpa using h1
      | succ i => simp at hu; have := q2 i u hu; rwa [show o + 1 + i = o + (i + 1) by omega] at this
    · cases i with
      | zero => simp at hu hx; subst hu; subst hx; exact ⟨h2, h3⟩
      | succ i => simp at hu hx; exact q3 i x u hx hu

theorem newsOf_ok {x : AV} {d : Value} {size m : Nat} {news : List AV} (hI : Inv M ι H w) (hx : VR M ι x d) (hvb : verB H x = true) (h : newsOf H size x = some (news, m)) (hl : news.length = m * size) :
    ∃ vs, Srcs P M ι w size m d news vs := by
  -- a slice
  have slice : ∀ {x : AV} {d : Value} {news : List AV} {m : Nat}, VR M ι x d → verB H x = true → rowOf H x = some news → news.length = m * size → (∀ a len cap, d = .slice a len cap → len = m) → ∃ vs, Srcs P M ι w size m d news vs := by
    intro x d news m hx hvb hrow hl hm
    obtain ⟨a, len, cap, rfl, hle, hc⟩ := rowOf_ok hI hx hvb hrow
    obtain rfl := hm _ _ _ rfl
    by_cases hne : news = []
    · subst hne
      simp at hl
      refine ⟨[], fun w' => by simp [Builtin.lenOf], by simp; omega, fun k hk w' _ => ?_, fun i x v h => by simp at h⟩
      have hks : k * size = 0 := by
        have : k * size ≤ len * size := Nat.mul_le_mul_right _ hk
        omega
      cases a with
      | none => simp [Builtin.firstCells]
      | some a => simp [Builtin.firstCells, hks, loadCells, loadCellsFrom]
    · obtain ⟨b, o, rfl, hcell⟩ := hc hne
      obtain ⟨vs, h1, h2, h3⟩ := vs_of_cells b o _ news hl hcell
      refine ⟨vs, fun w' => by simp [Builtin.lenOf], h1, fun k hk w' hw' => ?_, h3⟩
      have hks : k * size ≤ len * size := Nat.mul_le_mul_right _ hk
      have hlen : (vs.take (k * size)).length = k * size := by rw [List.length_take]; exact Nat.min_eq_left (by rw [h1]; exact hks)
      refine run_firstCells_some w' size k ⟨b, o, none⟩ len cap (vs.take (k * size)) hlen (fun j v hj => ?_)
      rw [Addr.add_lit, hw']
      refine h2 j v ?_
      have hjl : j < k * size := by
        have := (List.getElem?_eq_some_iff.1 hj).1
        omega
      rwa [List.getElem?_take_of_lt hjl] at hj
  unfold newsOf at h
  split at h
  · rename_i sz xs fl
    cases h
    refine slice hx rfl rfl hl (fun a len cap hd => ?_)
    rcases hx.fs_inv with ⟨_, rfl, h1⟩ | ⟨_, rfl, za, h1⟩ | ⟨_, b, o, cap, h1, _⟩ <;> (rw [h1] at hd; cases hd; rfl)
  · rename_i id ver off len sz
    split at h
    · rename_i cs hsz hrow
      cases h
      refine slice hx hvb hrow hl (fun a len cap hd => ?_)
      cases hx; cases hd; rfl
    · cases h
  · rename_i s
    split at h
    · rename_i hsz
      obtain rfl : size = 1 := by simpa using hsz
      cases h
      cases hx.str_inv
      have hd : ∀ k, k ≤ s.size → (s.extract 0 k).data.toList = s.data.toList.take k := by
        intro k hk
        simp [ByteArray.data_extract]
      refine ⟨s.data.toList.map fun b => Value.int .u8 b.toNat, fun w' => by simp [Builtin.lenOf], by simp, fun k hk w' _ => ?_, fun i x v h1 h2 => ?_⟩
      · simp only [Builtin.firstCells, Sem.run_pure, Nat.mul_one]
        congr 1
        apply Array.ext'
        rw [Array.toList_map, hd k hk]
        simp
      · obtain ⟨b, hb, rfl⟩ := vr_bytes_get h1
        simp only [List.getElem?_map, hb, Option.map_some] at h2
        cases h2
        exact ⟨.int _ _, rfl⟩
    · cases h
  · cases h

theorem run_append_grow' {t t2 ty e : TypeId} {d2 : TypeDesc} {i : TypeInfo} {z : Value} (ht : P.underlying t = some (.slice e)) (ht2 : P.underlying t2 = some d2) (hd2 : isIntD d2 = false)
    (hi : P.info? e = some i) (hz : i.zero = some z) {ats : Array TypeId} (ha0 : ats[0]? = some t) (ha1 : ats[1]? = some t2) {base : Option Addr} {sLen sCap n : Nat} {x : Value} {olds news : Array Value}
    (hlen : (Builtin.lenOf x).run P w = .ok n w) (holds : (Builtin.firstCells i.size sLen (.slice base sLen sCap)).run P w.drew = .ok olds w.drew) (hnews : (Builtin.firstCells i.size n x).run P w.drew = .ok news w.drew)
    (hg : sCap < sLen + n) (h63 : ((sLen + n : Nat) : Int) ≤ 9223372036854775807) (hfit : Builtin.nextslicecap (sLen + n) sCap * i.bytes ≤ 281474976710656) :
    (Builtin.append_ ats ty #[.slice base sLen sCap, x]).run P w =
      .ok (.slice (some ⟨w.heap.size, 0, none⟩) (sLen + n) (grownCap w (sLen + n) sCap e)) (w.drew.alloc (.cells (olds ++ news ++ Builtin.zeroCells z.cells (grownCap w (sLen + n) sCap e - (sLen + n))) e)) := by
  have hn : ¬ (sLen + n ≤ sCap) := by omega
  have h63' : ¬ (9223372036854775807 < ((sLen : Int) + (n : Int))) := by omega
  have h48' : ¬ (281474976710656 < Builtin.nextslicecap (sLen + n) sCap * i.bytes) := by omega
  simp [Builtin.append_, ha0, ha1, run_underlying ht, run_underlying ht2, sizeOf, typeInfo, zeroValue, hi, hz, hlen, hn, h63', h48', Question.forced, hnews, holds, newRow, grownCap]
  rw [if_neg (by cases d2 <;> first | exact Bool.false_ne_true | (simp [isIntD] at hd2))]
  rw [if_pos (by cases d2 <;> first | rfl | (simp [isIntD] at hd2))]


theorem run_append_room' {t t2 ty e : TypeId} {d2 : TypeDesc} {i : TypeInfo} (ht : P.underlying t = some (.slice e)) (ht2 : P.underlying t2 = some d2) (hd2 : isIntD d2 = false)
    (hi : P.info? e = some i) {ats : Array TypeId} (ha0 : ats[0]? = some t) (ha1 : ats[1]? = some t2) {g sLen sCap n : Nat} {x : Value} {news : List Value} {cur : Array Value} {te : TypeId}
    (hlen : (Builtin.lenOf x).run P w = .ok n w) (hg : w.heap[g]? = some (.cells cur te (0, 0))) (hnews : (Builtin.firstCells i.size n x).run P w = .ok news.toArray w) (h1 : ∀ u ∈ news, u.oneCell' = true)
    (hroom : sLen + n ≤ sCap) (hfit : sLen * i.size + news.length ≤ cur.size) :
    (Builtin.append_ ats ty #[.slice (some ⟨g, 0, none⟩) sLen sCap, x]).run P w =
      .ok (.slice (some ⟨g, 0, none⟩) (sLen + n) sCap) (w.setRow g (cur.toList.take (sLen * i.size) ++ news ++ cur.toList.drop (sLen * i.size + news.length)).toArray) := by
  have hst := run_storeCells_at P g (sLen * i.size) te news 0 cur w hg (by simpa using hfit) h1
  simp only [Nat.add_zero] at hst
  simp [Builtin.append_, ha0, ha1, run_underlying ht, run_underlying ht2, sizeOf, typeInfo, hi, hlen, hroom, hnews, Addr.add_lit, hst]
  rw [if_neg (by cases d2 <;> first | exact Bool.false_ne_true | (simp [isIntD] at hd2))]
  rw [if_pos (by cases d2 <;> first | rfl | (simp [isIntD] at hd2))]

theorem run_append_none' {t t2 ty e : TypeId} {d2 : TypeDesc} {i : TypeInfo} (ht : P.underlying t = some (.slice e)) (ht2 : P.underlying t2 = some d2) (hd2 : isIntD d2 = false)
    (hi : P.info? e = some i) {ats : Array TypeId} (ha0 : ats[0]? = some t) (ha1 : ats[1]? = some t2) {base : Option Addr} {sLen sCap : Nat} {x : Value}
    (hlen : (Builtin.lenOf x).run P w = .ok 0 w) (hnews : (Builtin.firstCells i.size 0 x).run P w = .ok #[] w) (hroom : sLen ≤ sCap) :
    (Builtin.append_ ats ty #[.slice base sLen sCap, x]).run P w = .ok (.slice base sLen sCap) w := by
  cases base <;> simp [Builtin.append_, ha0, ha1, run_underlying ht, run_underlying ht2, sizeOf, typeInfo, hi, hlen, hroom, hnews, storeCells]
  all_goals (intro h; exfalso; cases d2 <;> first | (cases h; done) | (simp [isIntD] at hd2; done))

theorem nat_of_limit {a b : Nat} (h : (a : Int) * (b : Nat) ≤ limit47) : a * b ≤ 140737488355328 := by
  have h1 : ((a * b : Nat) : Int) ≤ ((140737488355328 : Nat) : Int) := by rw [Int.natCast_mul]; exact h
  exact Int.ofNat_le.1 h1

theorem aAppendK_ok {ats : Array TypeId} {ty : TypeId} {s x : AV} {c d : Value} {kv : AV → AH → Res} (hE : EnvOK P E) (hI : Inv M ι H w) (hs : VR M ι s c) (hx : VR M ι x d) (h : aAppendK E ats s x H kv = some r) :
    RunOK P M ι H w (Builtin.append_ ats ty #[c, d]) kv r := by
  unfold aAppendK at h
  split at h
  · rename_i t t2 ha0 ha1
    split at h
    · rename_i i i2 hi hi2
      have hT := hE t i hi
      have hT2 := hE t2 i2 hi2
      split at h
      · rename_i e hd hd2
        have hu := hT.und; rw [hd] at hu
        split at h
        · cases h
        rename_i ei hei
        have hTe := hE e ei hei
        obtain ⟨info, hinfo, hsz, hby, ⟨z, hz, hzz, hzs, _⟩, _⟩ := hTe.info
        have hq := aIf_none h
        clear h
        obtain ⟨hvx, h⟩ := hq
        split at h
        · cases h
        rename_i news m hnews
        have hempty : ∀ {base : Option Addr}, c = .slice base 0 0 → (∃ fl sz, s = .fs sz [] fl ∧ (fl = .nil ∨ fl = .zc)) →
            aIf (m == 0) (kv s H) (aIf (Nat.ble (m * max ei.bytes 1) 140737488355328) (aIf (news.length == m * ei.size) (kv (.sl H.length (m * ei.size) 0 m ei.size) (H ++ [.cells (m * ei.size) news])) none) none) = some r →
            RunOK P M ι H w (Builtin.append_ ats ty #[c, d]) kv r := by
          rintro base rfl _ h
          rcases aIf_some h with ⟨hm, h⟩ | ⟨hm, h⟩
          · obtain rfl : m = 0 := by simpa using hm
            have hn0 : news.length = 0 * ei.size ∨ True := .inr trivial
            refine PureOK.runOK hI ⟨_, _, h, hs, ?_⟩
            have hl0 : (Builtin.lenOf d).run P w = .ok 0 w ∧ (Builtin.firstCells info.size 0 d).run P w = .ok #[] w := by
              unfold newsOf at hnews
              split at hnews
              · rename_i sz xs fl
                simp only [Option.some.injEq, Prod.mk.injEq] at hnews
                obtain ⟨_, hxl⟩ := hnews
                obtain rfl : xs = [] := List.eq_nil_of_length_eq_zero (by simpa using hxl)
                rcases hx.fs_inv with ⟨_, _, rfl⟩ | ⟨_, _, za, rfl⟩ | ⟨_, b, o, cap, rfl, _⟩ <;> simp [Builtin.lenOf, Builtin.firstCells, loadCells, loadCellsFrom]
              · split at hnews
                · cases hnews
                  cases hx
                  simp [Builtin.lenOf, Builtin.firstCells, loadCells, loadCellsFrom]
                · cases hnews
              · rename_i st
                split at hnews
                · simp only [Option.some.injEq, Prod.mk.injEq] at hnews
                  cases hx.str_inv
                  simp [Builtin.lenOf, Builtin.firstCells, hnews.2]
                · cases hnews
              · cases hnews
            exact run_append_none' hu hT2.und hd2 hinfo ha0 ha1 hl0.1 hl0.2 (Nat.le_refl _)
          · have hm : m ≠ 0 := by simpa using hm
            obtain ⟨hb, h⟩ := aIf_none h
            obtain ⟨hl, h⟩ := aIf_none h
            have hb := Nat.le_of_ble_eq_true hb
            have hl : news.length = m * ei.size := by simpa using hl
            obtain ⟨vs, hS⟩ := newsOf_ok (P := P) hI hx hvx hnews hl
            have hbn : m * (max ei.bytes 1) ≤ 140737488355328 := hb
            have hm1 : m ≤ 140737488355328 := Nat.le_trans (Nat.le_mul_of_pos_right _ (by omega)) hbn
            have hmb : m * ei.bytes ≤ 140737488355328 := Nat.le_trans (Nat.mul_le_mul_left _ (Nat.le_max_left _ _)) hbn
            have hd' := Stp.drew hI (w.drawn + 1)
            have hfirst := hS.first m (Nat.le_refl _) w.drew (fun a => by simp)
            rw [List.take_of_length_le (by rw [hS.vlen]; exact Nat.le_refl _), ← hsz] at hfirst
            have hold : (Builtin.firstCells info.size 0 (.slice base 0 0)).run P w.drew = .ok #[] w.drew := by cases base <;> simp [Builtin.firstCells, loadCells, loadCellsFrom]
            have hrun := run_append_grow' (ty := ty) (sLen := 0) (sCap := 0) hu hT2.und hd2 hinfo hz ha0 ha1 (hS.len w) hold hfirst (by omega) (by omega) (by
              simp only [Nat.zero_add]
              exact growslice_fits (by omega) (by rw [hby]; exact hmb))
            have hge := grownCap_ge w (0 + m) 0 e
            have hnew := hd'.inv.new (#[] ++ vs.toArray ++ Builtin.zeroCells z.cells (grownCap w (0 + m) 0 e - (0 + m))) e (m * ei.size) news (by simp [hS.vlen, hl]) (fun _ => hl) (fun i x hx => by
              have hi : i < vs.length := by rw [hS.vlen, ← hl]; exact (List.getElem?_eq_some_iff.1 hx).1
              refine ⟨vs[i], ?_, hS.rel i x _ hx (List.getElem?_eq_getElem hi)⟩
              simp only [Array.empty_append]
              rw [Array.getElem?_append_left (by simpa using hi)]
              simp [hi])
            refine ⟨_, _, _, _, _, _, h, hd'.trans hnew, ?_, hrun⟩
            rw [Nat.zero_add]
            have hcs : (#[] ++ vs.toArray ++ Builtin.zeroCells z.cells (grownCap w (0 + m) 0 e - (0 + m)) : Array Value).size = grownCap w (0 + m) 0 e * ei.size := by
              simp only [Array.empty_append, Array.size_append, List.size_toArray, size_zeroCells, hS.vlen, hzs, ← Nat.add_mul]
              congr 1; omega
            rw [hcs, Nat.zero_add] at *
            exact .sl 0 _ (Io.ext_self _ _ _ _ _) (by omega) (.inr rfl) (fun _ _ => ⟨Nat.le_refl _, Nat.mul_le_mul_right _ (by omega), Nat.le_of_eq (by simp only [Array.empty_append, Array.size_append, List.size_toArray, size_zeroCells, hS.vlen, hzs, ← Nat.add_mul]; congr 1; omega)⟩)
        split at h
        · rename_i sz xs
          rcases hs.fs_inv with ⟨_, rfl, rfl⟩ | ⟨h1, _⟩ | ⟨h1, _⟩
          · exact hempty rfl ⟨_, _, rfl, .inl rfl⟩ h
          · cases h1
          · cases h1
        · rename_i sz xs
          rcases hs.fs_inv with ⟨h1, _⟩ | ⟨_, rfl, za, rfl⟩ | ⟨h1, _⟩
          · cases h1
          · exact hempty rfl ⟨_, _, rfl, .inr rfl⟩ h
          · cases h1
        · rename_i id ver len sz
          split at h
          · rename_i v cs ho hsz1
            obtain rfl : sz = ei.size := by simpa using hsz1
            have hq := aIf_none' h
            clear h
            obtain ⟨hv0, h⟩ := hq
            have hv0 : ver ≠ 0 := by simpa using hv0
            · have hq := aIf_none h
              clear h
              obtain ⟨hvv, h⟩ := hq
              obtain rfl : v = ver := by simpa using hvv
              obtain ⟨hb, h⟩ := aIf_none h
              obtain ⟨hl, h⟩ := aIf_none h
              have hb := Nat.le_of_ble_eq_true hb
              have hl : news.length = m * ei.size := by simpa using hl
              have hbn : (len + m) * (max ei.bytes 1) ≤ 140737488355328 := hb
              have hm1 : len + m ≤ 140737488355328 := Nat.le_trans (Nat.le_mul_of_pos_right _ (by omega)) hbn
              have hmb : (len + m) * ei.bytes ≤ 140737488355328 := Nat.le_trans (Nat.mul_le_mul_left _ (Nat.le_max_left _ _)) hbn
              obtain ⟨vs, hS⟩ := newsOf_ok (P := P) hI hx hvx hnews hl
              obtain ⟨b, n, cur, te, hbk, hh, hn, hcs, hcv, hrow, hown⟩ := hI.row ho
              have hcl : cs.length = v := hcv hv0
              cases hs with
              | sl o cap hp h1 h2 h3 =>
                rw [hbk] at hp; cases hp
                obtain ⟨hlv, hvc, hcn⟩ := h3 rfl hv0
                have hcap : cap ≠ 0 := by
                  rintro rfl
                  simp at hvc; exact hv0 hvc
                obtain rfl : o = 0 := by
                  rcases h2 with h2 | h2
                  · exact absurd h2 hcap
                  · exact h2
                have hszp : 0 < ei.size := by
                  rcases Nat.eq_zero_or_pos ei.size with h0 | h0
                  · rw [h0] at hvc; simp at hvc; exact absurd hvc hv0
                  · exact h0
                have hmul : (len + m) * ei.size = len * ei.size + m * ei.size := Nat.add_mul _ _ _
                by_cases hroom : len + m ≤ cap
                · -- in place
                  have hle : (len + m) * ei.size ≤ cap * ei.size := Nat.mul_le_mul_right _ hroom
                  have hfirst := hS.first m (Nat.le_refl _) w (fun a => rfl)
                  rw [List.take_of_length_le (by rw [hS.vlen]; exact Nat.le_refl _), ← hsz] at hfirst
                  have hone : ∀ u ∈ vs, u.oneCell' = true := by
                    intro u hu'
                    obtain ⟨j, hj⟩ := List.mem_iff_getElem?.1 hu'
                    have hjl : j < news.length := by rw [hl, ← hS.vlen]; exact (List.getElem?_eq_some_iff.1 hj).1
                    exact oneCell'_of_vone (hS.rel j _ u (List.getElem?_eq_getElem hjl) hj).2
                  have hrun := run_append_room' (ty := ty) hu hT2.und hd2 hinfo ha0 ha1 (hS.len w) hh hfirst hone hroom (by rw [hsz, hS.vlen]; omega)
                  have hlen' : (cs.take (len * ei.size) ++ news ++ cs.drop (len * ei.size + m * ei.size)).length = max v ((len + m) * ei.size) := by
                    simp only [List.length_append, List.length_take, List.length_drop, hcl, hl, hmul]
                    omega
                  have hturn := Stp.turn (w' := w.setRow b (cur.toList.take (len * ei.size) ++ vs ++ cur.toList.drop (len * ei.size + vs.length)).toArray) hI ho
                    (o' := .cells (max v ((len + m) * ei.size)) (cs.take (len * ei.size) ++ news ++ cs.drop (len * ei.size + m * ei.size))) hbk (by simp [AO.ver]; omega) (fun _ => ⟨rfl, rfl⟩) (.inl rfl)
                    (fun k _ hk => setRow_other w b k _ hk) (by simp) rfl rfl rfl ?_
                  · refine ⟨_, _, _, _, _, _, h, hturn, ?_, by rw [hsz] at hrun; exact hrun⟩
                    exact .sl 0 cap (Io.ext_self _ _ _ _ _) hroom (.inr rfl) (fun _ _ => ⟨by omega, by omega, by omega⟩)
                  · have hio : ∀ i u p, ι i u = some p → ι.ext id (max v ((len + m) * ei.size)) b n i u = some p := by
                      intro i u p hp
                      by_cases hk : i = id ∧ u = max v ((len + m) * ei.size)
                      · obtain ⟨rfl, rfl⟩ := hk
                        obtain ⟨o1, ho1, hle1⟩ := hI.dom _ _ _ hp
                        rw [ho] at ho1; cases ho1
                        simp only [AO.ver] at hle1
                        have hve : max v ((len + m) * ei.size) = v := by omega
                        rw [Io.ext_self, ← hp, hve, hbk]
                      · rw [Io.ext_ne _ _ _ _ _ hk]; exact hp
                    refine ⟨b, n, _, te, Io.ext_self _ _ _ _ _, setRow_heap w b cur _ te (0, 0) hh, ?_, ?_, fun _ => hlen', fun i x hx => ?_, fun a ha => hI.mem_live ho (ha ▸ hbk)⟩
                    · simp [hS.vlen]; omega
                    · rw [hlen']; omega
                    · simp only [List.getElem?_toArray]
                      rw [splice_get _ _ _ _ (by simp [hS.vlen]; omega)]
                      have hx' := hx
                      by_cases hin : len * ei.size ≤ i ∧ i < len * ei.size + vs.length
                      · rw [if_pos hin]
                        have hget : news[i - len * ei.size]? = some x := by
                          rw [List.append_assoc, List.getElem?_append_right (by simp; omega)] at hx
                          simp only [List.length_take] at hx
                          rw [Nat.min_eq_left (by omega), List.getElem?_append_left (by rw [hl, ← hS.vlen]; omega)] at hx
                          exact hx
                        have hvi : i - len * ei.size < vs.length := by omega
                        obtain ⟨q1, q2⟩ := hS.rel _ x _ hget (List.getElem?_eq_getElem hvi)
                        exact ⟨_, List.getElem?_eq_getElem hvi, q1.mono (fun _ _ h => h) hio, q2⟩
                      · rw [if_neg hin]
                        have hget : cs[i]? = some x := by
                          rcases Nat.lt_or_ge i (len * ei.size) with hlt | hge
                          · rw [List.append_assoc, List.getElem?_append_left (by simp; omega), List.getElem?_take_of_lt hlt] at hx
                            exact hx
                          · have hge2 : len * ei.size + vs.length ≤ i := by omega
                            rw [List.append_assoc, List.getElem?_append_right (by simp; omega)] at hx
                            simp only [List.length_take] at hx
                            rw [Nat.min_eq_left (by omega), List.getElem?_append_right (by rw [hl, ← hS.vlen]; omega), List.getElem?_drop, hl, ← hS.vlen] at hx
                            rwa [show len * ei.size + vs.length + (i - len * ei.size - vs.length) = i by omega] at hx
                        obtain ⟨v', q1, _, q2, q3⟩ := hrow i x hget
                        exact ⟨v', by simpa using q1, q2.mono (fun _ _ h => h) hio, q3⟩
                · -- elsewhere
                  have hdr := Stp.drew hI (w.drawn + 1)
                  have hfirst := hS.first m (Nat.le_refl _) w.drew (fun a => by simp)
                  rw [List.take_of_length_le (by rw [hS.vlen]; exact Nat.le_refl _), ← hsz] at hfirst
                  obtain ⟨olds, ol, oc, orel⟩ := vs_of_cells (M := M) (ι := ι) (w := w) b 0 (len * ei.size) (cs.take (len * ei.size)) (by simp; omega) (fun i y hy => by
                    have hil : i < len * ei.size := by have := (List.getElem?_eq_some_iff.1 hy).1; simp at this; omega
                    rw [List.getElem?_take_of_lt hil] at hy
                    obtain ⟨v', _, q1, q2, q3⟩ := hrow i y hy
                    exact ⟨v', by simpa using q1, q2, q3⟩)
                  have hold : (Builtin.firstCells info.size len (.slice (some ⟨b, 0, none⟩) len cap)).run P w.drew = .ok olds.toArray w.drew :=
                    run_firstCells_some w.drew info.size len ⟨b, 0, none⟩ len cap olds (by rw [ol, hsz]) (fun j u hj => by rw [Addr.add_lit]; simpa using oc j u hj)
                  have hrun := run_append_grow' (ty := ty) hu hT2.und hd2 hinfo hz ha0 ha1 (hS.len w) hold hfirst (by omega) (by omega) (growslice_fits (by omega) (by rw [hby]; exact hmb))
                  have hge := grownCap_ge w (len + m) cap e
                  have hgt : cap * ei.size < (len + m) * ei.size := Nat.mul_lt_mul_of_pos_right (by omega) hszp
                  have hver : max v ((len + m) * ei.size) = (len + m) * ei.size := by omega
                  have hsize : (olds.toArray ++ vs.toArray ++ Builtin.zeroCells z.cells (grownCap w (len + m) cap e - (len + m))).size = grownCap w (len + m) cap e * ei.size := by
                    simp only [Array.size_append, List.size_toArray, size_zeroCells, ol, hS.vlen, hzs, ← Nat.add_mul]
                    congr 1; omega
                  have hgc : (len + m) * ei.size ≤ grownCap w (len + m) cap e * ei.size := Nat.mul_le_mul_right _ hge
                  have hdrop : cs.drop (len * ei.size + m * ei.size) = [] := List.drop_eq_nil_of_le (by omega)
                  have hlen' : (cs.take (len * ei.size) ++ news ++ cs.drop (len * ei.size + m * ei.size)).length = (len + m) * ei.size := by
                    rw [hdrop]; simp only [List.length_append, List.length_take, List.length_nil, hcl, hl, hmul]; omega
                  have hdrown : owns ι H b := hown
                  have hturn := Stp.turn (w := w.drew) (w' := w.drew.alloc (.cells (olds.toArray ++ vs.toArray ++ Builtin.zeroCells z.cells (grownCap w (len + m) cap e - (len + m))) e)) hdr.inv ho
                    (o' := .cells (max v ((len + m) * ei.size)) (cs.take (len * ei.size) ++ news ++ cs.drop (len * ei.size + m * ei.size))) hbk (b' := w.heap.size) (n' := grownCap w (len + m) cap e * ei.size)
                    (by simp [AO.ver]; omega) (fun he => by simp only [AO.ver] at he; omega) (.inr (by simp))
                    (fun k hk _ => Go.RowKit.Below.heap_alloc _ _ k hk) (by simp) rfl rfl rfl ?_
                  · refine ⟨_, _, _, _, _, _, h, hdr.trans hturn, ?_, hrun⟩
                    exact .sl 0 _ (Io.ext_self _ _ _ _ _) hge (.inr rfl) (fun _ _ => ⟨by omega, by omega, by omega⟩)
                  · have hio : ∀ i u p, ι i u = some p → ι.ext id (max v ((len + m) * ei.size)) w.heap.size (grownCap w (len + m) cap e * ei.size) i u = some p := by
                      intro i u p hp
                      rw [Io.ext_ne]
                      · exact hp
                      · rintro ⟨rfl, rfl⟩
                        obtain ⟨o1, ho1, hle1⟩ := hI.dom _ _ _ hp
                        rw [ho] at ho1; cases ho1
                        simp only [AO.ver] at hle1
                        omega
                    refine ⟨w.heap.size, _, _, e, Io.ext_self _ _ _ _ _, (by show (w.heap.push _)[w.heap.size]? = _; simp), hsize, ?_, fun _ => by rw [hlen', hver], fun i x hx => ?_, fun a ha => ?_⟩
                    · rw [hlen']; exact hgc
                    · rw [hdrop, List.append_nil] at hx
                      rcases Nat.lt_or_ge i (len * ei.size) with hlt | hge2
                      · rw [List.getElem?_append_left (by simp; omega)] at hx
                        have hoi : i < olds.length := by omega
                        obtain ⟨q1, q2⟩ := orel i x _ hx (List.getElem?_eq_getElem hoi)
                        refine ⟨olds[i], ?_, q1.mono (fun _ _ h => h) hio, q2⟩
                        rw [Array.getElem?_append_left (by simp; omega), Array.getElem?_append_left (by simpa using hoi)]
                        simp [hoi]
                      · have hxl := (List.getElem?_eq_some_iff.1 hx).1
                        simp only [List.length_append, List.length_take, hl] at hxl
                        rw [List.getElem?_append_right (by simp; omega)] at hx
                        simp only [List.length_take] at hx
                        rw [Nat.min_eq_left (by omega)] at hx
                        have hvi : i - len * ei.size < vs.length := by rw [hS.vlen]; omega
                        obtain ⟨q1, q2⟩ := hS.rel _ x _ hx (List.getElem?_eq_getElem hvi)
                        refine ⟨vs[i - len * ei.size], ?_, q1.mono (fun _ _ h => h) hio, q2⟩
                        rw [Array.getElem?_append_left (by simp; omega), Array.getElem?_append_right (by simp; omega)]
                        simp [ol, hvi]
                    · cases hm' : M a with
                      | none => rfl
                      | some u =>
                        have : a.block < w.heap.size := World.block_lt_of_cell? w a.real (hI.mem a u hm')
                        omega
          · cases h
        · cases h
      · cases h
    · cases h
  · cases h

end
end Go.Abs
