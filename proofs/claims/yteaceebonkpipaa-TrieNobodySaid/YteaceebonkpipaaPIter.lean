/- Loops that count, in plain words. -/
import Derived.Test.YteaceebonkpipaaPBack
namespace Go.Pl
open Go.Abs

theorem iter_exit {F : ATs → AH → KC → Res} {ts ts' : ATs} {H H' : AH} {e : AExit} (he : e ≠ .normal) (h : ∀ k, F ts H k = k e ts' H') (n : Nat) (k : KC) : aIterK (n + 1) F ts H k = k e ts' H' := by
  rw [aIterK, h]
  cases e <;> first | rfl | exact absurd rfl he
theorem iter_next {F : ATs → AH → KC → Res} {ts ts' : ATs} {H H' : AH} (h : ∀ k, F ts H k = k .normal ts' H') (n : Nat) (k : KC) : aIterK (n + 1) F ts H k = aIterK n F ts' H' k := by
  rw [aIterK, h]

/-- Does nothing stop it, from a place on? -/
def noneB (b : Nat → Bool) : Nat → Nat → Bool
  | 0, _ => true
  | d + 1, i => bif b i then false else noneB b d (i + 1)
theorem noneB_iff (b : Nat → Bool) : ∀ d i, noneB b d i = true ↔ ∀ j, i ≤ j → j < i + d → b j = false
  | 0, i => ⟨fun _ j h1 h2 => by omega, fun _ => rfl⟩
  | d + 1, i => by
    simp only [noneB]
    cases h : b i
    · rw [cond_false, noneB_iff b d (i + 1)]
      constructor
      · intro g j h1 h2
        by_cases hj : j = i
        · subst hj; exact h
        · exact g j (by omega) (by omega)
      · exact fun g j h1 h2 => g j (by omega) (by omega)
    · rw [cond_true]
      constructor
      · intro g; cases g
      · intro g; rw [g i (Nat.le_refl _) (by omega)] at h; cases h

theorem iter_scan {F : ATs → AH → KC → Res} {N : Nat} {ts : Nat → ATs} {H : AH} {b : Nat → Bool} {eb ee : AExit} {tb te : ATs} {Hb He : AH}
    (h1 : ∀ j, j < N → b j = true → ∀ k, F (ts j) H k = k eb tb Hb) (h2 : ∀ j, j < N → b j = false → ∀ k, F (ts j) H k = k .normal (ts (j + 1)) H) (h3 : ∀ k, F (ts N) H k = k ee te He)
    (hb : eb ≠ .normal) (he : ee ≠ .normal) : ∀ d j, j + d = N → ∃ m, ∀ k, aIterK m F (ts j) H k = aIf (noneB b d j) (k ee te He) (k eb tb Hb)
  | 0, j, hj => by
    obtain rfl : j = N := by omega
    exact ⟨1, fun k => iter_exit he h3 0 k⟩
  | d + 1, j, hj => by
    cases hbj : b j
    · obtain ⟨m, hm⟩ := iter_scan h1 h2 h3 hb he d (j + 1) (by omega)
      refine ⟨m + 1, fun k => ?_⟩
      rw [iter_next (h2 j (by omega) hbj), hm k]
      simp only [noneB, hbj, cond_false]
    · refine ⟨1, fun k => ?_⟩
      rw [iter_exit hb (h1 j (by omega) hbj)]
      simp only [noneB, hbj, cond_true]
      rfl

def foldF {δ : Type} (f : Nat → δ → δ) : Nat → Nat → δ → δ
  | 0, _, d => d
  | n + 1, j, d => foldF f n (j + 1) (f j d)
theorem foldF_inv {δ : Type} {f : Nat → δ → δ} {I : Nat → δ → Prop} {N : Nat} (h : ∀ j d, j < N → I j d → I (j + 1) (f j d)) : ∀ n j d, j + n = N → I j d → I N (foldF f n j d)
  | 0, j, d, hj, hi => by obtain rfl : j = N := by omega
                          exact hi
  | n + 1, j, d, hj, hi => foldF_inv h n (j + 1) _ (by omega) (h j d (by omega) hi)
theorem iter_fold {δ : Type} {F : ATs → AH → KC → Res} {N : Nat} {ts : Nat → δ → ATs} {H : Nat → δ → AH} {f : Nat → δ → δ} {I : Nat → δ → Prop} {ee : AExit} {te : δ → ATs} {He : δ → AH}
    (h1 : ∀ j d, j < N → I j d → I (j + 1) (f j d) ∧ ∀ k, F (ts j d) (H j d) k = k .normal (ts (j + 1) (f j d)) (H (j + 1) (f j d))) (h2 : ∀ d, I N d → ∀ k, F (ts N d) (H N d) k = k ee (te d) (He d)) (he : ee ≠ .normal) :
    ∀ n j d, j + n = N → I j d → ∃ m, ∀ k, aIterK m F (ts j d) (H j d) k = k ee (te (foldF f n j d)) (He (foldF f n j d))
  | 0, j, d, hj, hi => by
    obtain rfl : j = N := by omega
    exact ⟨1, fun k => iter_exit he (h2 d hi) 0 k⟩
  | n + 1, j, d, hj, hi => by
    obtain ⟨g1, g2⟩ := h1 j d (by omega) hi
    obtain ⟨m, hm⟩ := iter_fold h1 h2 he n (j + 1) (f j d) (by omega) g1
    exact ⟨m + 1, fun k => by rw [iter_next g2, hm k]; rfl⟩

/-- What a round does at a place of the loop's run: it stops, or goes on. -/
inductive Nx (δ : Type) where
  | stop (e : AExit) (ts : ATs) (H : AH)
  | go (d : δ)
def runX {δ : Type} (f : Nat → δ → Nx δ) (e : δ → AExit × ATs × AH) : Nat → Nat → δ → AExit × ATs × AH
  | 0, _, d => e d
  | n + 1, j, d => match f j d with
    | .stop a ts H => (a, ts, H)
    | .go d => runX f e n (j + 1) d
theorem iter_run {δ : Type} {F : ATs → AH → KC → Res} {N : Nat} {ts : Nat → δ → ATs} {H : Nat → δ → AH} {f : Nat → δ → Nx δ} {e : δ → AExit × ATs × AH} {I : Nat → δ → Prop}
    (h1 : ∀ j d, j < N → I j d → match f j d with
      | .stop a ts' H' => a ≠ .normal ∧ ∀ k, F (ts j d) (H j d) k = k a ts' H'
      | .go d' => I (j + 1) d' ∧ ∀ k, F (ts j d) (H j d) k = k .normal (ts (j + 1) d') (H (j + 1) d'))
    (h2 : ∀ d, I N d → (e d).1 ≠ .normal ∧ ∀ k, F (ts N d) (H N d) k = k (e d).1 (e d).2.1 (e d).2.2) :
    ∀ n j d, j + n = N → I j d → ∃ m, ∀ k, aIterK m F (ts j d) (H j d) k = k (runX f e n j d).1 (runX f e n j d).2.1 (runX f e n j d).2.2
  | 0, j, d, hj, hi => by
    obtain rfl : j = N := by omega
    exact ⟨1, fun k => iter_exit (h2 d hi).1 (h2 d hi).2 0 k⟩
  | n + 1, j, d, hj, hi => by
    have := h1 j d (by omega) hi
    simp only [runX]
    cases hf : f j d with
    | stop a ts' H' =>
      rw [hf] at this
      exact ⟨1, fun k => iter_exit this.1 this.2 0 k⟩
    | go d' =>
      rw [hf] at this
      obtain ⟨m, hm⟩ := iter_run h1 h2 n (j + 1) d' (by omega) this.1
      exact ⟨m + 1, fun k => by rw [iter_next this.2, hm k]⟩

end Go.Pl
