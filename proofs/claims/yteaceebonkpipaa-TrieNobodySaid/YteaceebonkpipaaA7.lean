/- The evaluator's operations against the model's, fifth part: operators, conversions. -/
import Derived.Test.YteaceebonkpipaaA6
namespace Go.Abs
open Go.RowKit

section
variable {P : Program} {E : Env} {M : Mem} {ι : Io} {H : AH} {w : World} {r : Fin'}

theorem aArithK_ok {op : BinOp} {k : IntKind} {a b : Int} {t : TypeId} {kk : AV → Res} (h : aArithK op k a b kk = some r) :
    PureOK P M ι w (binOp op t (.int k a) (.int k b)) kk r := by
  cases op <;> simp only [aArithK] at h
  case quo =>
    obtain ⟨hb, h⟩ := aIf_none' h
    have hb : b ≠ 0 := by simpa using hb
    exact ⟨_, _, h, .int _ _, by simp [binOp, Op.intDiv, hb]⟩
  case rem =>
    obtain ⟨hb, h⟩ := aIf_none' h
    have hb : b ≠ 0 := by simpa using hb
    exact ⟨_, _, h, .int _ _, by simp [binOp, Op.intDiv, hb]⟩
  case shl => cases h
  case shr => cases h
  case eql => exact ⟨_, _, h, .bool _, by simp [binOp, Op.intCmp]⟩
  case neq => exact ⟨_, _, h, .bool _, by simp [binOp, Op.intCmp]⟩
  case lss => exact ⟨_, _, h, .bool _, by simp [binOp, Op.intCmp]⟩
  case leq => exact ⟨_, _, h, .bool _, by simp [binOp, Op.intCmp]⟩
  case gtr => exact ⟨_, _, h, .bool _, by simp [binOp, Op.intCmp]⟩
  case geq => exact ⟨_, _, h, .bool _, by simp [binOp, Op.intCmp]⟩
  case add => exact ⟨_, _, h, .int _ _, by simp [binOp, Op.intArith]⟩
  case sub => exact ⟨_, _, h, .int _ _, by simp [binOp, Op.intArith]⟩
  case mul => exact ⟨_, _, h, .int _ _, by simp [binOp, Op.intArith]⟩
  case and => exact ⟨_, _, h, .int _ _, by simp [binOp, Op.intBits]⟩
  case or => exact ⟨_, _, h, .int _ _, by simp [binOp, Op.intBits]⟩
  case xor => exact ⟨_, _, h, .int _ _, by simp [binOp, Op.intBits]⟩
  case andNot => exact ⟨_, _, h, .int _ _, by simp [binOp, Op.intBits]⟩

theorem aShiftK_ok {op : BinOp} {k k' : IntKind} {a b : Int} {t : TypeId} {kk : AV → Res} (h : aShiftK op k a b kk = some r) :
    PureOK P M ι w (binOp op t (.int k a) (.int k' b)) kk r := by
  cases op <;> simp only [aShiftK] at h
  case shl =>
    obtain ⟨hb, h⟩ := aIf_none' h
    have hb : ¬ b < 0 := by simpa using hb
    exact ⟨_, _, h, .int _ _, by simp [binOp, Op.shift, hb]⟩
  case shr =>
    obtain ⟨hb, h⟩ := aIf_none' h
    have hb : ¬ b < 0 := by simpa using hb
    exact ⟨_, _, h, .int _ _, by simp [binOp, Op.shift, hb]⟩
  all_goals cases h

theorem aStrK_ok {op : BinOp} {a b : ByteArray} {t : TypeId} {kk : AV → Res} (h : aStrK op a b kk = some r) :
    PureOK P M ι w (binOp op t (.string a) (.string b)) kk r := by
  cases op <;> simp only [aStrK] at h
  case add =>
    obtain ⟨hb, h⟩ := aIf_none' h
    have hb : ¬ (((a.size + b.size : Nat) : Int) > 9223372036854775807) := by simpa using hb
    refine ⟨_, _, h, .str _, ?_⟩
    have hm : IntKind.i64.max = 9223372036854775807 := rfl
    simp only [binOp, Op.stringOp, hm, if_neg hb, Sem.run_pure]
  case eql => exact ⟨_, _, h, .bool _, by simp [binOp, Op.stringOp]⟩
  case neq => exact ⟨_, _, h, .bool _, by simp [binOp, Op.stringOp]⟩
  case lss => exact ⟨_, _, h, .bool _, by simp [binOp, Op.stringOp]⟩
  case leq => exact ⟨_, _, h, .bool _, by simp [binOp, Op.stringOp]⟩
  case gtr => exact ⟨_, _, h, .bool _, by simp [binOp, Op.stringOp]⟩
  case geq => exact ⟨_, _, h, .bool _, by simp [binOp, Op.stringOp]⟩
  all_goals cases h

theorem run_eqGuard_int (op : BinOp) (t : TypeId) (x y : Operand) (k k' : IntKind) (a b : Int) : (eqGuard op t x y (.int k a) (.int k' b)).run P w = .ok () w := by
  cases op <;> simp [eqGuard]
theorem run_eqGuard_str (op : BinOp) (t : TypeId) (x y : Operand) (a b : ByteArray) : (eqGuard op t x y (.string a) (.string b)).run P w = .ok () w := by
  cases op <;> simp [eqGuard]
theorem run_eqGuard_nil (op : BinOp) (t : TypeId) (x y : Operand) (h : (isConstO x || isConstO y) = true) : (eqGuard op t x y .nilIface .nilIface).run P w = .ok () w := by
  cases op <;> cases x <;> cases y <;> simp [eqGuard, isConstO] at h ⊢
theorem run_eqGuard_any (op : BinOp) (t : TypeId) (x y : Operand) {a b : Value} (h1 : ¬ (a = .nilIface ∧ b = .nilIface)) (h2 : ¬ ∃ xs ys, a = .agg xs ∧ b = .agg ys) : (eqGuard op t x y a b).run P w = .ok () w := by
  unfold eqGuard
  simp only [Sem.run_ite, Sem.run_pure]
  split
  · simp only [Bool.not_true, Bool.false_eq_true, if_false]
    split
    · exact absurd ⟨rfl, rfl⟩ h1
    · exact absurd ⟨_, _, rfl, rfl⟩ h2
    · rfl
  · simp only [Bool.not_true, Bool.false_eq_true, if_false]
    split
    · exact absurd ⟨rfl, rfl⟩ h1
    · exact absurd ⟨_, _, rfl, rfl⟩ h2
    · rfl
  · simp

def EqForm (t : TypeId) (c d : Value) : Prop := binOp .eql t c d = (do pure (.bool (← Op.equal t c d))) ∧ binOp .neq t c d = (do pure (.bool (!(← Op.equal t c d))))

theorem aEq_form {d : Nat} {t : TypeId} {x y : AV} {b : Bool} {c c' : Value} (h : aEq E d t x y = some b) (hx : VR M ι x c) (hy : VR M ι y c')
    (h1 : ∀ k n k' n', x = .int k n → y = .int k' n' → False) (h2 : ∀ s s', x = .str s → y = .str s' → False) : EqForm t c c' := by
  cases d with
  | zero => simp [aEq] at h
  | succ d =>
    rw [aEq] at h
    split at h
    · cases h
    split at h
    · cases hx; cases hy; exact ⟨rfl, rfl⟩
    · exact (h1 _ _ _ _ rfl rfl).elim
    · exact (h2 _ _ rfl rfl).elim
    · cases hx; cases hy; exact ⟨rfl, rfl⟩
    · cases hx; cases hy; exact ⟨rfl, rfl⟩
    · cases hx; cases hy; exact ⟨rfl, rfl⟩
    · cases hx; cases hy; exact ⟨rfl, rfl⟩
    · cases hx; cases hy; exact ⟨rfl, rfl⟩
    · cases hx; cases hy; exact ⟨rfl, rfl⟩
    · cases hx; cases hy; exact ⟨rfl, rfl⟩
    · cases hx; cases hy; exact ⟨rfl, rfl⟩
    · cases hx; cases hy; exact ⟨rfl, rfl⟩
    · cases hx; cases hy; exact ⟨rfl, rfl⟩
    · cases hx; cases hy; exact ⟨rfl, rfl⟩
    · rcases hx.fs_inv with ⟨_, _, rfl⟩ | ⟨_, _, za, rfl⟩ | ⟨_, b, o, cap, rfl, _⟩ <;> rcases hy.fs_inv with ⟨_, _, rfl⟩ | ⟨_, _, za, rfl⟩ | ⟨_, b, o, cap, rfl, _⟩ <;> exact ⟨rfl, rfl⟩
    · rcases hx.fs_inv with ⟨_, _, rfl⟩ | ⟨_, _, za, rfl⟩ | ⟨_, b, o, cap, rfl, _⟩ <;> rcases hy.fs_inv with ⟨_, _, rfl⟩ | ⟨_, _, za, rfl⟩ | ⟨_, b, o, cap, rfl, _⟩ <;> exact ⟨rfl, rfl⟩
    · cases hy
      rcases hx.fs_inv with ⟨_, _, rfl⟩ | ⟨_, _, za, rfl⟩ | ⟨_, b, o, cap, rfl, _⟩ <;> exact ⟨rfl, rfl⟩
    · cases hx
      rcases hy.fs_inv with ⟨_, _, rfl⟩ | ⟨_, _, za, rfl⟩ | ⟨_, b, o, cap, rfl, _⟩ <;> exact ⟨rfl, rfl⟩
    · cases hx; cases hy; exact ⟨rfl, rfl⟩
    · cases hx; cases hy; exact ⟨rfl, rfl⟩
    · cases hx; cases hy; exact ⟨rfl, rfl⟩
    · cases h

theorem aCmp_ok {op : BinOp} {t : TypeId} {xo yo : Operand} {x y : AV} {c d : Value} {kk : AV → Res} (hE : EnvOK P E) (hx : VR M ι x c) (hy : VR M ι y d)
    (h1 : ∀ k n k' n', x = .int k n → y = .int k' n' → False) (h2 : ∀ s s', x = .str s → y = .str s' → False) 
    (h : (match op, aEq E 1000 t x y with | .eql, some b => kk (.bool b) | .neq, some b => kk (.bool (!b)) | _, _ => none) = some r)
    (hg : (eqGuard op t xo yo c d).run P w = .ok () w) :
    PureOK P M ι w (do eqGuard op t xo yo c d; binOp op t c d) kk r := by
  split at h
  · rename_i b hb
    have he := aEq_ok (P := P) (w := w) hE 1000 t x y b c d 10000 hb hx hy (by omega)
    have hf := aEq_form hb hx hy h1 h2
    exact ⟨_, _, h, .bool _, by simp only [Sem.run_bind, hg, Result.andThen_ok, hf.1]; simp [Op.equal, Op.maxDepth, he]⟩
  · rename_i b hb
    have he := aEq_ok (P := P) (w := w) hE 1000 t x y b c d 10000 hb hx hy (by omega)
    have hf := aEq_form hb hx hy h1 h2
    exact ⟨_, _, h, .bool _, by simp only [Sem.run_bind, hg, Result.andThen_ok, hf.2]; simp [Op.equal, Op.maxDepth, he]⟩
  · cases h

theorem aBinK_ok {op : BinOp} {t : TypeId} {xo yo : Operand} {x y : AV} {c d : Value} {kk : AV → Res} (hE : EnvOK P E) (hx : VR M ι x c) (hy : VR M ι y d) (h : aBinK E op t xo yo x y kk = some r) :
    PureOK P M ι w (do eqGuard op t xo yo c d; binOp op t c d) kk r := by
  unfold aBinK at h
  split at h
  · rename_i k a k' b
    cases hx.int_inv; cases hy.int_inv
    have key : PureOK P M ι w (binOp op t (.int k a) (.int k' b)) kk r → PureOK P M ι w (do eqGuard op t xo yo (.int k a) (.int k' b); binOp op t (.int k a) (.int k' b)) kk r := by
      rintro ⟨v, c, q1, q2, q3⟩
      exact ⟨v, c, q1, q2, by simp only [Sem.run_bind, run_eqGuard_int, Result.andThen_ok]; exact q3⟩
    apply key
    split at h
    · exact aShiftK_ok h
    · exact aShiftK_ok h
    · split at h
      · rename_i hk
        obtain rfl := of_decide_eq_true (by simpa using hk)
        exact aArithK_ok h
      · cases h
  · rename_i a b
    cases hx.str_inv; cases hy.str_inv
    obtain ⟨v, c, q1, q2, q3⟩ := aStrK_ok (P := P) (M := M) (ι := ι) (w := w) (t := t) h
    exact ⟨v, c, q1, q2, by simp only [Sem.run_bind, run_eqGuard_str, Result.andThen_ok]; exact q3⟩
  · split at h
    · rename_i hco
      cases hx; cases hy
      exact aCmp_ok hE .nili .nili (fun _ _ _ _ h => by cases h) (fun _ _ h => by cases h) h (run_eqGuard_nil _ _ _ _ hco)
    · cases h
  · split at h
    · cases h
    rename_i i hi
    split at h
    · rename_i hok
      have hx' := hx
      have hy' := hy
      cases hx with
      | agg a1 a2 a3 =>
        cases hy with
        | agg b1 b2 b3 =>
          exact aCmp_ok hE hx' hy' (fun _ _ _ _ h => by cases h) (fun _ _ h => by cases h) h (run_eqGuard_agg w op t xo yo _ _ ((hE t i hi).eqOk hok).2)
    · cases h
  · rename_i n1 n2 n3 n4
    have h' := h
    have hj : ∀ {b}, aEq E 1000 t x y = some b → x ≠ .junk ∧ y ≠ .junk := by
      intro b hb
      rw [show (1000 : Nat) = 999 + 1 from rfl, aEq] at hb
      split at hb
      · cases hb
      split at hb <;> first | (cases hb; done) | exact ⟨nofun, nofun⟩
    have hb : ∃ b, aEq E 1000 t x y = some b := by
      cases hb : aEq E 1000 t x y with
      | some b => exact ⟨b, rfl⟩
      | none => rw [hb] at h; cases op <;> cases h
    obtain ⟨b, hb⟩ := hb
    obtain ⟨j1, j2⟩ := hj hb
    refine aCmp_ok hE hx hy (fun k n k' n' e1 e2 => n1 k n k' n' e1 e2) (fun s s' e1 e2 => n2 s s' e1 e2) h (run_eqGuard_any _ _ _ _ ?_ ?_)
    · rintro ⟨rfl, rfl⟩
      cases hx with
      | junk => exact j1 rfl
      | nili =>
        cases hy with
        | junk => exact j2 rfl
        | nili => exact n3 rfl rfl
    · rintro ⟨xs, ys, rfl, rfl⟩
      cases hx with
      | junk => exact j1 rfl
      | agg =>
        cases hy with
        | junk => exact j2 rfl
        | agg => exact n4 _ _ rfl rfl

theorem aUnK_ok {op : UnOp} {x : AV} {c : Value} {kk : AV → Res} (hx : VR M ι x c) (h : aUnK op x kk = some r) : PureOK P M ι w (Op.unary op c) kk r := by
  unfold aUnK at h
  split at h
  · cases hx.int_inv; exact ⟨_, _, h, .int _ _, by simp [Op.unary, Op.intArith]⟩
  · rename_i k n
    cases hx.int_inv
    refine ⟨_, _, h, .int _ _, ?_⟩
    cases hk : k.signed <;> simp [Op.unary, Op.intBits, hk]
  · cases hx.bool_inv; exact ⟨_, _, h, .bool _, by simp [Op.unary]⟩
  · cases h

end
end Go.Abs
