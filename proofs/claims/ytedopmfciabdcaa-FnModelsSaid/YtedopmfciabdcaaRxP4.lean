/-
  Contracts of functions of the program, each for all data of the shape that it names.
-/
import Derived.Test.YtedopmfciabdcaaRxP3
namespace Go.Rx
open Go
attribute [local irreducible] Req Way WayG Sel
set_option linter.unusedSimpArgs false
set_option linter.unusedVariables false

theorem pr_dec {p q : Pr} : (decide (p.key = q.key) && decide (p.val = q.val)) = decide (p = q) := by
  cases p; cases q; simp [Bool.decide_and]

/-! f14 spec.SamePairs -/
@[go_sem] def hr14 : Hints
  | 0 => [0, 1] | 1 => [0, 1] | 2 => [] | 3 => [0, 1] | 4 => [0, 1, 5] | 5 => [0, 1, 5] | 6 => [0, 1, 5] | 7 => [] | 8 => [] | _ => []
@[go_sem] def hl14 : Hints
  | 4 => [0, 1, 5] | _ => []
attribute [go_sem] Go.Proofs.Try.results14
theorem c14 (l m : List Pr) (hl : l.length ≤ LEN) : CallOK Go.Proofs.Try.prog 14 [.d (.sl (prs l)), .d (.sl (prs m))] [] [.dead, .dead] (.d (.bool (decide (l = m)))) [] := by
  refine call_of tysOK mixed Go.Proofs.Try.func14 (by kernel_rfl) rfl (np := [false, false]) (by kernel_rfl) hr14 hl14 (by simp [Go.Proofs.Try.ntmps14]) ?_
  simp -implicitDefEqProofs only [go_sem, reduceCtorEq, prs_length]
  refine way_ndec (fun h1 => ?_) (fun h1 => ?_)
  · simp -implicitDefEqProofs only [go_sem, reduceCtorEq]
    have : ¬ l = m := fun e => h1 (by rw [e])
    simp [this]
  · simp -implicitDefEqProofs only [go_sem, reduceCtorEq]
    refine loop_data (α := Nat) (fun i => ⟨[(0, .d (.sl (prs l))), (1, .d (.sl (prs m))), (5, .d (.int .i64 i))], []⟩)
      (fun i => i ≤ l.length ∧ l.take i = m.take i) (fun i => l.length - i) 0 rfl ⟨Nat.zero_le _, rfl⟩ ?_
    rintro i ⟨h2, h3⟩
    simp -implicitDefEqProofs only [go_sem, reduceCtorEq, prs_length]
    refine way_dec (fun h5 => ?_) (fun h5 => ?_)
    · obtain ⟨p, hp⟩ := some_at h5
      obtain ⟨q, hq⟩ := some_at (l := m) (h1 ▸ h5)
      simp -implicitDefEqProofs only [go_sem, reduceCtorEq, prs_length, lget_prs hp, lget_prs hq]
      repeat ((first | refine req (by first | assumption | omega | exact commP_of (by kernel_rfl)) ?_); simp -implicitDefEqProofs only [go_sem, reduceCtorEq, prs_length, lget_prs hp, lget_prs hq, pr_dec])
      refine way_ndec (fun h6 => ?_) (fun h6 => ?_)
      · simp -implicitDefEqProofs only [go_sem, reduceCtorEq]
        have : ¬ l = m := fun e => h6 (by rw [e, hq] at hp; simpa using hp.symm)
        simp [this]
      · simp -implicitDefEqProofs only [go_sem, reduceCtorEq]
        rw [wrap_succ (by omega)]
        refine next_data (i + 1) rfl ⟨by omega, ?_⟩ (by omega)
        rw [take_snoc hp, take_snoc hq, h3, h6]
    · simp -implicitDefEqProofs only [go_sem, reduceCtorEq]
      rw [List.take_of_length_le (by omega), List.take_of_length_le (by omega)] at h3
      simp [h3]
theorem k14 {h : Heap} {tb : Nat} {K : OK} {args : List V} {ls : List Nat} {xs ys : List (List D)} (l m : List Pr) (hg : toDs h args = some ([.sl xs, .sl ys], ls)) (hx : xs = prs l) (hy : ys = prs m) (hl : l.length ≤ LEN)
    (hk : K (.d (.bool (decide (l = m)))) []) : callVC Go.Proofs.Try.prog h tb 14 args K := by
  subst hx; subst hy; exact call_free hg (c14 l m hl) rfl (.inr ⟨.d (.bool _), flatH_nil⟩) hk

/-! f34 slices.Equal -/
@[go_sem] def hr34 : Hints
  | 0 => [0, 1] | 1 => [0, 1] | 2 => [] | 3 => [0, 1] | 4 => [0, 1, 12, 13] | 5 => [0, 1, 12, 13] | 6 => [0, 1, 5, 12, 13] | 7 => [] | 8 => [0, 1, 12, 13] | 9 => [] | _ => []
@[go_sem] def hl34 : Hints
  | 4 => [0, 1, 12, 13] | _ => []
attribute [go_sem] Go.Proofs.Try.results34
theorem c34 (l m : List Pr) (hl : l.length ≤ LEN) : CallOK Go.Proofs.Try.prog 34 [.d (.sl (prs l)), .d (.sl (prs m))] [] [.dead, .dead] (.d (.bool (decide (l = m)))) [] := by
  refine call_of tysOK mixed Go.Proofs.Try.func34 (by kernel_rfl) rfl (np := [false, false]) (by kernel_rfl) hr34 hl34 (by simp [Go.Proofs.Try.ntmps34]) ?_
  simp -implicitDefEqProofs only [go_sem, reduceCtorEq, prs_length]
  refine way_ndec (fun h1 => ?_) (fun h1 => ?_)
  · simp -implicitDefEqProofs only [go_sem, reduceCtorEq]
    have : ¬ l = m := fun e => h1 (by rw [e])
    simp [this]
  · simp -implicitDefEqProofs only [go_sem, reduceCtorEq, prs_length]
    refine loop_data (α := Nat) (fun i => ⟨[(0, .d (.sl (prs l))), (1, .d (.sl (prs m))), (12, .d (.int .i64 l.length)), (13, .d (.int .i64 i))], []⟩)
      (fun i => i ≤ l.length ∧ l.take i = m.take i) (fun i => l.length - i) 0 rfl ⟨Nat.zero_le _, rfl⟩ ?_
    rintro i ⟨h2, h3⟩
    simp -implicitDefEqProofs only [go_sem, reduceCtorEq, prs_length]
    refine way_dec (fun h5 => ?_) (fun h5 => ?_)
    · obtain ⟨p, hp⟩ := some_at h5
      obtain ⟨q, hq⟩ := some_at (l := m) (h1 ▸ h5)
      simp -implicitDefEqProofs only [go_sem, reduceCtorEq, prs_length, lget_prs hp, lget_prs hq]
      repeat ((first | refine req (by first | assumption | omega | exact commP_of (by kernel_rfl)) ?_); simp -implicitDefEqProofs only [go_sem, reduceCtorEq, prs_length, lget_prs hp, lget_prs hq, pr_dec])
      refine way_ndec (fun h6 => ?_) (fun h6 => ?_)
      · simp -implicitDefEqProofs only [go_sem, reduceCtorEq]
        have : ¬ l = m := fun e => h6 (by rw [e, hq] at hp; simpa using hp.symm)
        simp [this]
      · simp -implicitDefEqProofs only [go_sem, reduceCtorEq]
        rw [wrap_succ (by omega)]
        refine next_data (i + 1) rfl ⟨by omega, ?_⟩ (by omega)
        rw [take_snoc hp, take_snoc hq, h3, h6]
    · simp -implicitDefEqProofs only [go_sem, reduceCtorEq]
      rw [List.take_of_length_le (by omega), List.take_of_length_le (by omega)] at h3
      simp [h3]
theorem k34 {h : Heap} {tb : Nat} {K : OK} {args : List V} {ls : List Nat} {xs ys : List (List D)} (l m : List Pr) (hg : toDs h args = some ([.sl xs, .sl ys], ls)) (hx : xs = prs l) (hy : ys = prs m) (hl : l.length ≤ LEN)
    (hk : K (.d (.bool (decide (l = m)))) []) : callVC Go.Proofs.Try.prog h tb 34 args K := by
  subst hx; subst hy; exact call_free hg (c34 l m hl) rfl (.inr ⟨.d (.bool _), flatH_nil⟩) hk

/-! f15 impl.SamePairs -/
@[go_sem] def hr15 : Hints
  | 0 => [0, 1] | 1 => [0, 1] | _ => []
@[go_sem] def hl15 : Hints := fun _ => []
attribute [go_sem] Go.Proofs.Try.results15
theorem c15 (l m : List Pr) (hl : l.length ≤ LEN) : CallOK Go.Proofs.Try.prog 15 [.d (.sl (prs l)), .d (.sl (prs m))] [] [.dead, .dead] (.d (.bool (decide (l = m)))) [] := by
  refine call_of tysOK mixed Go.Proofs.Try.func15 (by kernel_rfl) rfl (np := [false, false]) (by kernel_rfl) hr15 hl15 (by simp [Go.Proofs.Try.ntmps15]) ?_
  simp -implicitDefEqProofs only [go_sem, reduceCtorEq]
  refine k34 l m rfl rfl rfl hl ?_
  simp -implicitDefEqProofs only [go_sem, reduceCtorEq]
theorem k15 {h : Heap} {tb : Nat} {K : OK} {args : List V} {ls : List Nat} {xs ys : List (List D)} (l m : List Pr) (hg : toDs h args = some ([.sl xs, .sl ys], ls)) (hx : xs = prs l) (hy : ys = prs m) (hl : l.length ≤ LEN)
    (hk : K (.d (.bool (decide (l = m)))) []) : callVC Go.Proofs.Try.prog h tb 15 args K := by
  subst hx; subst hy; exact call_free hg (c15 l m hl) rfl (.inr ⟨.d (.bool _), flatH_nil⟩) hk

/-! f4 FnExactSamePairs -/
@[go_sem] def hr4 : Hints
  | 0 => [0, 1] | 1 => [0, 1] | 2 => [0, 1, 5] | 3 => [0, 1, 5] | 4 => [] | 5 => [0, 1, 5] | 6 => [0, 1, 5] | 7 => [] | 8 => [0, 1] | 9 => [0, 1, 6] | 10 => [0, 1, 6, 7] | 11 => [0, 1, 6, 7, 8] | 12 => [0, 1, 6, 7, 8, 9] | 13 => [] | 14 => [0, 1, 7, 8] | 15 => [] | 16 => [1, 8] | 17 => [] | 18 => [] | _ => []
@[go_sem] def hl4 : Hints := fun _ => []
attribute [go_sem] Go.Proofs.Try.results4
theorem c4 (l m : List Pr) (hl : l.length ≤ LEN) (hp : ∀ p ∈ l, p.ok) (hm : m.length ≤ LEN) (hq : ∀ p ∈ m, p.ok) :
    CallOK Go.Proofs.Try.prog 4 [.d (.sl (prs l)), .d (.sl (prs m))] [] [.dead, .dead] (.d (.bool true)) [] := by
  refine call_of tysOK mixed Go.Proofs.Try.func4 (by kernel_rfl) rfl (np := [false, false]) (by kernel_rfl) hr4 hl4 (by simp [Go.Proofs.Try.ntmps4]) ?_
  simp -implicitDefEqProofs only [go_sem, reduceCtorEq]
  refine k9 _ _ rfl hl ?_
  simp -implicitDefEqProofs only [go_sem, reduceCtorEq]
  refine way_dec (fun h1 => ?_) (fun h1 => ?_)
  · simp -implicitDefEqProofs only [go_sem, reduceCtorEq]
  · have hs := szPairS_ok hp hl (by omega) (by omega) h1
    have hn : l.length ≤ 1048576 := by omega
    simp -implicitDefEqProofs only [go_sem, reduceCtorEq]
    refine k9 _ _ rfl hm ?_
    simp -implicitDefEqProofs only [go_sem, reduceCtorEq]
    refine way_dec (fun h2 => ?_) (fun h2 => ?_)
    · simp -implicitDefEqProofs only [go_sem, reduceCtorEq]
    · have hs2 := szPairS_ok hq hm (by omega) (by omega) h2
      have hn2 : m.length ≤ 1048576 := by omega
      simp -implicitDefEqProofs only [go_sem, reduceCtorEq]
      repeat ((first | refine k11 _ rfl (by assumption) ?_ | refine k14 l m rfl (prs_whole rfl) (prs_whole rfl) hl ?_ | refine k15 l m rfl (prs_whole rfl) (prs_whole rfl) hl ?_ | refine k13 l l rfl (prs_whole rfl) (prs_whole rfl) hl ?_ | refine k13 m m rfl (prs_whole rfl) (prs_whole rfl) hm ?_); simp -implicitDefEqProofs only [go_sem, reduceCtorEq, decide_true])
end Go.Rx
