/-
  Part of the proof that the abstract evaluator is right about the model's run; each lemma names its conditions.
-/
import Derived.Test.YtedopmfciabdcaaRxSound4
namespace Go.Rx
open Go Go.RowKit

section
variable {P : Program} {T : Tys} {w : World} {ok : Nat → Prop} {lam : Nat → Option Nat} {H : Heap} {q : Nat → Prop} {v0 : V} {u0 : Upd}

theorem toList_mk (l : List UInt8) : (⟨⟨l⟩⟩ : ByteArray).toList = l := ByteArray.toList_eq _

theorem bLess_total (a b : List UInt8) : (bLess a b || a == b) = !bLess b a := by
  unfold bLess
  induction a generalizing b with
  | nil => cases b <;> simp [Op.bytesLess]
  | cons x a ih =>
    cases b with
    | nil => simp [Op.bytesLess]
    | cons y b =>
      have := ih b
      simp only [Op.bytesLess, List.cons_beq_cons]
      by_cases h1 : x < y
      · have h2 : ¬ y < x := by rw [UInt8.lt_iff_toNat_lt] at *; omega
        have h3 : ¬ y = x := by intro h; subst h; exact h2 h1
        simp [h1, h2, h3]
      · by_cases h2 : y < x
        · have h3 : ¬ x = y := by intro h; subst h; exact h1 h2
          simp [h1, h2, h3]
        · have h3 : x = y := by
            rw [UInt8.lt_iff_toNat_lt] at *
            exact UInt8.toNat_inj.1 (by omega)
          subst h3
          simp [h1]
          exact this

theorem bLess_swap (a b : List UInt8) : (!(bLess a b || a == b)) = bLess b a := by rw [bLess_total]; simp

def binRun (op : BinOp) (t : Nat) (x y : Operand) (a b : Value) : Sem Value := do
  eqGuard op t x y a b
  binOp op t a b

theorem guard_other {op : BinOp} {t : Nat} {x y : Operand} {a b : Value} (h1 : ¬ (a = .nilIface)) (h2 : ∀ c, a ≠ .agg c) : (eqGuard op t x y a b).run P w = .ok () w := by
  unfold eqGuard
  cases op <;> cases a <;> first | rfl | (exact absurd rfl h1) | (exact absurd rfl (h2 _)) | (cases b <;> rfl)

theorem int_sound {op : BinOp} {t : Nat} {x y : Operand} {k k' : IntKind} {a b : Int} (hk : isShift op = true ∨ k = k') (h : intVC op k a b (eqK v0 u0)) :
    Quiet P w ok lam H q v0 u0 True (binRun op t x y (.int k a) (.int k' b)) := by
  have hg : (eqGuard op t x y (.int k a) (.int k' b)).run P w = .ok () w := guard_other (by simp) (by simp)
  unfold Quiet binRun
  cases op <;> simp only [intVC] at h
  case add | sub | mul | and | or | xor =>
    obtain rfl : k = k' := hk.resolve_left (by simp [isShift])
    obtain ⟨rfl, rfl⟩ := h
    refine ⟨.int k _, ?_, rfl, .d (.int _ _), fun _ => .d _⟩
    simp only [Sem.run_bind, hg, Result.andThen_ok, binOp, ne_eq, not_true_eq_false, if_false, Op.intArith, Op.intBits]
    rfl
  case eql | neq | lss | leq | gtr | geq =>
    obtain rfl : k = k' := hk.resolve_left (by simp [isShift])
    obtain ⟨rfl, rfl⟩ := h
    refine ⟨.bool _, ?_, rfl, .d (.bool _), fun _ => .d _⟩
    simp only [Sem.run_bind, hg, Result.andThen_ok, binOp, ne_eq, not_true_eq_false, if_false, Op.intCmp]
    rfl
  case quo | rem =>
    obtain rfl : k = k' := hk.resolve_left (by simp [isShift])
    obtain ⟨hb, rfl, rfl⟩ := h
    exact ⟨_, by simp only [Sem.run_bind, hg, Result.andThen_ok, binOp, ne_eq, not_true_eq_false, if_false, Op.intDiv, if_neg hb]; rfl, rfl, .d (.int _ _), fun _ => .d _⟩
  case shl | shr =>
    obtain ⟨hb, rfl, rfl⟩ := h
    have hn : ¬ b < 0 := by omega
    exact ⟨_, by simp only [Sem.run_bind, hg, Result.andThen_ok, binOp, Op.shift, if_neg hn]; rfl, rfl, .d (.int _ _), fun _ => .d _⟩

theorem str_sound {op : BinOp} {t : Nat} {x y : Operand} {a b : List UInt8} (h : strVC op a b (eqK v0 u0)) :
    Quiet P w ok lam H q v0 u0 True (binRun op t x y (.string ⟨⟨a⟩⟩) (.string ⟨⟨b⟩⟩)) := by
  have hg : (eqGuard op t x y (.string ⟨⟨a⟩⟩) (.string ⟨⟨b⟩⟩)).run P w = .ok () w := guard_other (by simp) (by simp)
  have hbin : ∀ o, o ≠ .shl → o ≠ .shr → binOp o t (.string ⟨⟨a⟩⟩) (.string ⟨⟨b⟩⟩) = Op.stringOp o ⟨⟨a⟩⟩ ⟨⟨b⟩⟩ := by
    intro o h1 h2; cases o <;> first | rfl | contradiction
  unfold Quiet binRun
  cases op <;> simp only [strVC] at h
  case add =>
    obtain ⟨hl, rfl, rfl⟩ := h
    refine ⟨.string ⟨⟨a ++ b⟩⟩, ?_, rfl, .d (.str _ (by simpa using hl)), fun _ => .d _⟩
    have : ¬ (((⟨⟨a⟩⟩ : ByteArray).size + (⟨⟨b⟩⟩ : ByteArray).size : Nat) : Int) > IntKind.i64.max := by
      rw [size_mk, size_mk]
      unfold LEN at hl
      have : IntKind.i64.max = 9223372036854775807 := rfl
      omega
    simp only [Sem.run_bind, hg, Result.andThen_ok, hbin .add (by simp) (by simp), Op.stringOp, if_neg this, append_mk, Sem.run_pure]
  case eql | neq | lss | leq | gtr | geq =>
    obtain ⟨rfl, rfl⟩ := h
    refine ⟨.bool _, ?_, rfl, .d (.bool _), fun _ => .d _⟩
    simp only [Sem.run_bind, hg, Result.andThen_ok]
    rw [hbin _ (by simp) (by simp)]
    simp only [Op.stringOp, toList_mk, Sem.run_pure]
    first
      | rfl
      | (have e2 := bLess_swap a b; unfold bLess at e2; rw [e2]; rfl)
      | (have := bLess_total a b; unfold bLess at this; rw [this]; rfl)
      | (congr 2; simp [BEq.beq]; done)
      | (congr 2; by_cases hab : a = b <;> simp [hab])

end
end Go.Rx
