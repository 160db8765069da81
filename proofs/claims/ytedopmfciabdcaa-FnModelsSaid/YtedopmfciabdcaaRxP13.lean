/-
  Contracts of functions of the program, each for all data of the shape that it names.
-/
import Derived.Test.YtedopmfciabdcaaRxP12
namespace Go.Rx
open Go
attribute [local irreducible] Req Way WayG Sel
set_option linter.unusedSimpArgs false
set_option linter.unusedVariables false

/-! the order of keys -/
theorem bLess_nil {b : List UInt8} : bLess [] b = true ↔ b ≠ [] := by cases b <;> simp [bLess, Op.bytesLess]
theorem bLess_cons {a b : UInt8} {xs ys : List UInt8} : bLess (a :: xs) (b :: ys) = true ↔ a < b ∨ a = b ∧ bLess xs ys = true := by
  unfold bLess
  simp [Op.bytesLess]
  try (constructor <;> intro h <;> omega)
theorem bLess_trans : ∀ {a b c : List UInt8}, bLess a b = true → bLess b c = true → bLess a c = true
  | [], b, [], _, h => by cases b <;> simp [bLess, Op.bytesLess] at h
  | [], _, _ :: _, _, _ => bLess_nil.2 (by simp)
  | _ :: _, [], _, h, _ => by simp [bLess, Op.bytesLess] at h
  | _ :: _, _ :: _, [], _, h => by simp [bLess, Op.bytesLess] at h
  | a :: xs, b :: ys, c :: zs, h1, h2 => by
    rw [bLess_cons] at h1 h2 ⊢
    rcases h1 with h1 | ⟨rfl, h1⟩
    · rcases h2 with h2 | ⟨rfl, h2⟩
      · exact .inl (UInt8.lt_trans h1 h2)
      · exact .inl h1
    · rcases h2 with h2 | ⟨rfl, h2⟩
      · exact .inl h2
      · exact .inr ⟨rfl, bLess_trans h1 h2⟩
theorem bLess_tri {a b : List UInt8} (h1 : bLess a b = false) (h2 : bLess b a = false) : a = b := by
  have := bLess_total a b
  rw [h1, h2] at this
  simpa using this
theorem bLess_ne {a b : List UInt8} (h : bLess a b = true) : a ≠ b := fun e => by rw [e, bLess_irr] at h; cases h

/-! lists that ascend -/
def asc (l : List Pr) : Prop := l.Pairwise fun p q => bLess p.key q.key = true
theorem asc_lesser {l : List Pr} {key : List UInt8} (h : asc l) : asc (lesser l key) := h.sublist List.filter_sublist
theorem asc_greater {l : List Pr} {key : List UInt8} (h : asc l) : asc (greater l key) := h.sublist List.filter_sublist
theorem mem_lesser {l : List Pr} {key : List UInt8} {p : Pr} : p ∈ lesser l key ↔ p ∈ l ∧ bLess p.key key = true := by simp [lesser]
theorem mem_greater {l : List Pr} {key : List UInt8} {p : Pr} : p ∈ greater l key ↔ p ∈ l ∧ bLess key p.key = true := by simp [greater]
theorem asc_mput {l : List Pr} {key val : List UInt8} (h : asc l) : asc (mput l key val) := by
  unfold asc mput
  rw [List.pairwise_append]
  refine ⟨asc_lesser h, List.pairwise_cons.2 ⟨fun q hq => (mem_greater.1 hq).2, asc_greater h⟩, fun p hp q hq => ?_⟩
  rcases List.mem_cons.1 hq with rfl | hq
  · exact (mem_lesser.1 hp).2
  · exact bLess_trans (mem_lesser.1 hp).2 (mem_greater.1 hq).2
theorem asc_drawn {f : Nat} : ∀ {i : Nat} {c : Cur} {l : List Pr}, asc l → asc (pairsGo f i c l).1 := by
  induction f with
  | zero => intro i c l h; exact h
  | succ f ih =>
    intro i c l h
    simp only [pairsGo]
    split
    · exact ih (asc_mput h)
    · exact h
theorem asc_listOf {code : List UInt8} : asc (listOf code) := asc_drawn List.Pairwise.nil

theorem keep_mput {l : List Pr} {key val : List UInt8} (h : asc l) : keep (mput l key val) key = keep l key := by
  have h1 : keep (mput l key val) key = lesser l key ++ greater l key := by
    unfold mput keep
    rw [List.filter_append, List.filter_cons]
    simp only [not_true, decide_false, Bool.false_eq_true, if_false]
    congr 1
    · rw [List.filter_eq_self]; intro p hp; have := bLess_ne (mem_lesser.1 hp).2; simpa using this
    · rw [List.filter_eq_self]; intro p hp; have := bLess_ne (mem_greater.1 hp).2; simpa using fun e => this e.symm
  rw [h1]
  clear h1
  induction l with
  | nil => rfl
  | cons p l ih =>
    obtain ⟨hp, hl⟩ := List.pairwise_cons.1 h
    have ih := ih hl
    have none_lesser : (∀ q ∈ l, bLess key q.key = true) → lesser l key = [] := fun hq => by
      unfold lesser
      rw [List.filter_eq_nil_iff]
      intro q hm
      rw [bLess_not_both (hq q hm)]; simp
    cases h1 : bLess p.key key with
    | true =>
      have hne := bLess_ne h1
      have e1 : lesser (p :: l) key = p :: lesser l key := by simp [lesser, h1]
      have e2 : greater (p :: l) key = greater l key := by simp [greater, bLess_not_both h1]
      have e3 : keep (p :: l) key = p :: keep l key := by simp [keep, hne]
      rw [e1, e2, e3, List.cons_append, ih]
    | false =>
      cases h2 : bLess key p.key with
      | true =>
        have hne : ¬ p.key = key := fun e => bLess_ne h2 e.symm
        have hq : ∀ q ∈ l, bLess key q.key = true := fun q hm => bLess_trans h2 (hp q hm)
        have e1 : lesser (p :: l) key = lesser l key := by simp [lesser, h1]
        have e2 : greater (p :: l) key = p :: greater l key := by simp [greater, h2]
        have e3 : keep (p :: l) key = p :: keep l key := by simp [keep, hne]
        rw [e1, e2, e3, none_lesser hq, List.nil_append]
        rw [none_lesser hq, List.nil_append] at ih
        rw [ih]
      | false =>
        have he : p.key = key := bLess_tri h1 h2
        have e1 : lesser (p :: l) key = lesser l key := by simp [lesser, h1]
        have e2 : greater (p :: l) key = greater l key := by simp [greater, h2]
        have e3 : keep (p :: l) key = keep l key := by simp [keep, he]
        rw [e1, e2, e3, ih]

def cnt (l : List Pr) (key : List UInt8) : Nat := (l.filter fun p => decide (p.key = key)).length
theorem cnt_snoc {l : List Pr} {key : List UInt8} {i : Nat} {p : Pr} (h : l[i]? = some p) : cnt (l.take (i + 1)) key = cnt (l.take i) key + (if p.key = key then 1 else 0) := by
  rw [take_snoc h]
  simp only [cnt, List.filter_append, List.length_append]
  by_cases hp : p.key = key <;> simp [hp]
theorem cnt_mput {l : List Pr} {key val : List UInt8} : cnt (mput l key val) key = 1 := by
  unfold cnt mput
  rw [List.filter_append, List.filter_cons]
  have h1 : (lesser l key).filter (fun p => decide (p.key = key)) = [] := by
    rw [List.filter_eq_nil_iff]; intro p hp; have := bLess_ne (mem_lesser.1 hp).2; simpa using this
  have h2 : (greater l key).filter (fun p => decide (p.key = key)) = [] := by
    rw [List.filter_eq_nil_iff]; intro p hp; have := bLess_ne (mem_greater.1 hp).2; simpa using fun e => this e.symm
  rw [h1, h2]; simp
theorem cnt_le {l : List Pr} {key : List UInt8} : cnt l key ≤ l.length := List.length_filter_le _ _
theorem asc_at {l : List Pr} (h : asc l) {i : Nat} {p q : Pr} (hp : l[i]? = some p) (hq : l[i + 1]? = some q) : bLess p.key q.key = true := by
  obtain ⟨h1, rfl⟩ := List.getElem?_eq_some_iff.1 hp
  obtain ⟨h2, rfl⟩ := List.getElem?_eq_some_iff.1 hq
  exact List.pairwise_iff_getElem.1 h i (i + 1) h1 h2 (Nat.lt_succ_self i)
theorem pairsGo_len {f : Nat} : ∀ {i : Nat} {c : Cur} {l : List Pr}, (pairsGo f i c l).1.length ≤ l.length + f := by
  induction f with
  | zero => intro i c l; exact Nat.le_refl _
  | succ f ih =>
    intro i c l
    simp only [pairsGo]
    split
    · refine Nat.le_trans ih ?_
      have := mput_len' (l := l) (key := ((c.below 20).2.pick keyL).1 ++ (((c.below 20).2.pick keyL).2.pick [[], [49]]).1) (val := ((((c.below 20).2.pick keyL).2.pick [[], [49]]).2.pick [[], [118]]).1)
      simp only [stepPair]; omega
    · simp
theorem listOf_len {code : List UInt8} : (listOf code).length ≤ 20 := Nat.le_trans pairsGo_len (by simp)
end Go.Rx
