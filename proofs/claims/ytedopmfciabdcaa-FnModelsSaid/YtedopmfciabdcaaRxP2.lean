/-
  Contracts of functions of the program, each for all data of the shape that it names.
-/
import Derived.Test.YtedopmfciabdcaaRxP1
namespace Go.Rx
open Go
attribute [local irreducible] Req Way WayG Sel

/-! f11 toPairS -/
theorem prs_set {m : List Pr} {i : Nat} {p : Pr} : (prs m).set i [.str p.key, .str p.val] = prs (m.set i p) := by
  simp [prs, List.map_set, Pr.cells]
theorem prs_zero {n : Nat} : List.replicate n [D.str [], D.str []] = prs (List.replicate n ⟨[], []⟩) := by
  simp [prs, Pr.cells]
theorem take_set {α : Type} {l m : List α} {i : Nat} {p : α} (h : l[i]? = some p) (hl : m.length = l.length) (h4 : m.take i = l.take i) : (m.set i p).take (i + 1) = l.take (i + 1) := by
  obtain ⟨hi, h⟩ := List.getElem?_eq_some_iff.1 h
  rw [List.take_succ_eq_append_getElem (by simp; omega), List.take_succ_eq_append_getElem hi, h]
  simp [List.take_set_of_le, h4]

@[go_sem] def hr11 : Hints
  | 0 => [0] | 1 => [0] | 2 => [0, 3] | 3 => [0, 3, 4] | 4 => [0, 3, 4] | 5 => [0, 3, 4] | 6 => [3] | _ => []
@[go_sem] def hl11 : Hints
  | 3 => [0, 3, 4] | _ => []
attribute [go_sem] Go.Proofs.Try.results11
theorem c11 (l : List Pr) (hl : l.length ≤ 1048576) : CallOK Go.Proofs.Try.prog 11 [.d (.sl (prs l))] [] [.dead] (.own 0 0 l.length) [(0, .arr 2 (prs l))] := by
  refine call_of tysOK mixed Go.Proofs.Try.func11 (by kernel_rfl) rfl (np := [false]) (by kernel_rfl) hr11 hl11 (by simp [Go.Proofs.Try.ntmps11]) ?_
  simp -implicitDefEqProofs only [go_sem, reduceCtorEq, prs_length]
  repeat ((first | refine req (by first | assumption | omega) ?_); simp -implicitDefEqProofs only [go_sem, reduceCtorEq, prs_length])
  rw [prs_zero]
  refine loop_data (α := Nat × List Pr) (fun x => ⟨[(0, .d (.sl (prs l))), (3, .own 0 0 l.length), (4, .d (.int .i64 x.1))], [(0, some (.arr 2 (prs x.2)))]⟩)
    (fun x => x.1 ≤ l.length ∧ x.2.length = l.length ∧ x.2.take x.1 = l.take x.1) (fun x => l.length - x.1) (0, _) rfl ⟨Nat.zero_le _, by simp, by simp⟩ ?_
  rintro ⟨i, m⟩ ⟨h2, h3, h4⟩
  simp only at h2 h3 h4
  simp -implicitDefEqProofs only [go_sem, reduceCtorEq, prs_length]
  refine way_dec (fun h5 => ?_) (fun h5 => ?_)
  · obtain ⟨p, hp⟩ := some_at h5
    obtain ⟨q, hq⟩ := some_at (l := m) (h3 ▸ h5)
    simp -implicitDefEqProofs only [go_sem, reduceCtorEq, prs_length, lget_prs hp]
    repeat ((first | refine req (by first | assumption | omega) ?_ | refine k32 _ rfl ?_); simp -implicitDefEqProofs only [go_sem, reduceCtorEq, prs_length, lget_prs hp, lget_prs hq])
    rw [wrap_succ (by simp only [LEN]; omega), prs_set]
    refine next_data (i + 1, m.set i p) rfl ⟨?_, by simpa using h3, take_set hp h3 h4⟩ ?_
    · simp only; omega
    · simp only; omega
  · simp -implicitDefEqProofs only [go_sem, reduceCtorEq, prs_length]
    rw [List.take_of_length_le (by omega), List.take_of_length_le (by omega)] at h4
    rw [h4]
theorem k11 {h : Heap} {tb : Nat} {K : OK} {args : List V} {ls : List Nat} (l : List Pr) (hg : toDs h args = some ([.sl (prs l)], ls)) (hl : l.length ≤ 1048576)
    (hk : K (.own tb 0 l.length) [(tb, some (.arr 2 (prs l)))]) : callVC Go.Proofs.Try.prog h tb 11 args K :=
  call_free hg (c11 l hl) rfl (.inr ⟨.own _ _ _, flatH_cons flat_prs flatH_nil⟩) hk

/-! f10, f12 ShowPairs -/
def show1 (p : Pr) : List UInt8 := p.key ++ 32 :: (p.val ++ [10])
def showPairs (l : List Pr) : List UInt8 := l.flatMap show1
theorem show_snoc {l : List Pr} {i : Nat} {p : Pr} (h : l[i]? = some p) : showPairs (l.take (i + 1)) = showPairs (l.take i) ++ show1 p := by
  rw [take_snoc h]; simp [showPairs]
theorem show_le {l : List Pr} {i : Nat} : (showPairs (l.take i)).length ≤ (showPairs l).length := by
  conv => rhs; rw [← List.take_append_drop i l]
  simp only [showPairs, List.flatMap_append, List.length_append]
  exact Nat.le_add_right _ _
theorem show_in {l : List Pr} {i : Nat} {p : Pr} (h : l[i]? = some p) : (showPairs (l.take i)).length + (p.key.length + (p.val.length + 2)) ≤ (showPairs l).length := by
  refine Nat.le_trans (Nat.le_of_eq ?_) (show_le (i := i + 1))
  rw [show_snoc h]; simp [show1]

@[go_sem] def hr10 : Hints
  | 0 => [0] | 1 => [0] | 2 => [0, 3] | 3 => [0, 3, 4] | 4 => [0, 3, 4] | 5 => [0, 3, 4] | 6 => [3] | _ => []
@[go_sem] def hl10 : Hints
  | 3 => [0, 3, 4] | _ => []
attribute [go_sem] Go.Proofs.Try.results10
theorem c10 (l : List Pr) (hl : l.length ≤ LEN) (hs : (showPairs l).length ≤ LEN) : CallOK Go.Proofs.Try.prog 10 [.d (.sl (prs l))] [] [.dead] (.d (.str (showPairs l))) [] := by
  refine call_of tysOK mixed Go.Proofs.Try.func10 (by kernel_rfl) rfl (np := [false]) (by kernel_rfl) hr10 hl10 (by simp [Go.Proofs.Try.ntmps10]) ?_
  simp -implicitDefEqProofs only [go_sem, reduceCtorEq, prs_length]
  refine loop_data (α := Nat) (fun i => ⟨[(0, .d (.sl (prs l))), (3, .d (.str (showPairs (l.take i)))), (4, .d (.int .i64 i))], []⟩)
    (fun i => i ≤ l.length) (fun i => l.length - i) 0 rfl (Nat.zero_le _) ?_
  rintro i h2
  simp -implicitDefEqProofs only [go_sem, reduceCtorEq, prs_length]
  refine way_dec (fun h5 => ?_) (fun h5 => ?_)
  · obtain ⟨p, hp⟩ := some_at h5
    have hb := show_in hp
    simp -implicitDefEqProofs only [go_sem, reduceCtorEq, prs_length, lget_prs hp]
    repeat ((first | refine req (by first | assumption | omega | exact commP_of (by kernel_rfl) | (simp only [List.length_append, List.length_cons, List.length_nil]; omega)) ?_); simp -implicitDefEqProofs only [go_sem, reduceCtorEq, prs_length, lget_prs hp])
    rw [wrap_succ (by omega)]
    refine next_data (i + 1) ?_ ?_ ?_
    · rw [show_snoc hp]; simp [show1]
    · omega
    · omega
  · simp -implicitDefEqProofs only [go_sem, reduceCtorEq, prs_length]
    rw [List.take_of_length_le (by omega)]
theorem k10 {h : Heap} {tb : Nat} {K : OK} {args : List V} {ls : List Nat} {xs : List (List D)} (l : List Pr) (hg : toDs h args = some ([.sl xs], ls)) (hx : xs = prs l) (hl : l.length ≤ LEN) (hs : (showPairs l).length ≤ LEN)
    (hk : K (.d (.str (showPairs l))) []) : callVC Go.Proofs.Try.prog h tb 10 args K := by
  subst hx; exact call_free hg (c10 l hl hs) rfl (.inr ⟨.d (.str _), flatH_nil⟩) hk

@[go_sem] def hr12 : Hints
  | 0 => [0] | 1 => [0] | 2 => [0, 3] | 3 => [3, 6, 7, 8] | 4 => [3, 6, 7, 8] | 5 => [3, 5, 6, 7, 8] | 6 => [3, 6, 7, 8] | 7 => [3] | _ => []
@[go_sem] def hl12 : Hints
  | 3 => [3, 6, 7, 8] | _ => []
attribute [go_sem] Go.Proofs.Try.results12
theorem c12 (l : List Pr) (hl : l.length ≤ LEN) (hs : (showPairs l).length ≤ LEN) : CallOK Go.Proofs.Try.prog 12 [.d (.sl (prs l))] [] [.dead] (.d (.str (showPairs l))) [] := by
  refine call_of tysOK mixed Go.Proofs.Try.func12 (by kernel_rfl) rfl (np := [false]) (by kernel_rfl) hr12 hl12 (by simp [Go.Proofs.Try.ntmps12]) ?_
  simp -implicitDefEqProofs only [go_sem, reduceCtorEq, prs_length]
  refine loop_data (α := Nat) (fun i => ⟨[(3, .d (.str (showPairs (l.take i)))), (6, .d (.sl (prs l))), (7, .d (.int .i64 l.length)), (8, .d (.int .i64 i))], []⟩)
    (fun i => i ≤ l.length) (fun i => l.length - i) 0 rfl (Nat.zero_le _) ?_
  rintro i h2
  simp -implicitDefEqProofs only [go_sem, reduceCtorEq, prs_length]
  refine way_dec (fun h5 => ?_) (fun h5 => ?_)
  · obtain ⟨p, hp⟩ := some_at h5
    have hb := show_in hp
    simp -implicitDefEqProofs only [go_sem, reduceCtorEq, prs_length, lget_prs hp]
    repeat ((first | refine req (by first | assumption | omega | exact commP_of (by kernel_rfl) | (simp only [List.length_append, List.length_cons, List.length_nil]; omega)) ?_); simp -implicitDefEqProofs only [go_sem, reduceCtorEq, prs_length, lget_prs hp])
    rw [wrap_succ (by omega)]
    refine next_data (i + 1) ?_ ?_ ?_
    · rw [show_snoc hp]; simp [show1]
    · omega
    · omega
  · simp -implicitDefEqProofs only [go_sem, reduceCtorEq, prs_length]
    rw [List.take_of_length_le (by omega)]
theorem k12 {h : Heap} {tb : Nat} {K : OK} {args : List V} {ls : List Nat} {xs : List (List D)} (l : List Pr) (hg : toDs h args = some ([.sl xs], ls)) (hx : xs = prs l) (hl : l.length ≤ LEN) (hs : (showPairs l).length ≤ LEN)
    (hk : K (.d (.str (showPairs l))) []) : callVC Go.Proofs.Try.prog h tb 12 args K := by
  subst hx; exact call_free hg (c12 l hl hs) rfl (.inr ⟨.d (.str _), flatH_nil⟩) hk

/-! f13 eqPairS -/
@[go_sem] def hr13 : Hints
  | 0 => [0, 1] | 1 => [0, 1] | 2 => [] | 3 => [0, 1] | 4 => [0, 1, 5] | 5 => [0, 1, 5] | 6 => [0, 1, 5] | 7 => [] | 8 => [] | _ => []
@[go_sem] def hl13 : Hints
  | 4 => [0, 1, 5] | _ => []
attribute [go_sem] Go.Proofs.Try.results13
theorem c13 (l m : List Pr) (hl : l.length ≤ LEN) : CallOK Go.Proofs.Try.prog 13 [.d (.sl (prs l)), .d (.sl (prs m))] [] [.dead, .dead] (.d (.bool (decide (l = m)))) [] := by
  refine call_of tysOK mixed Go.Proofs.Try.func13 (by kernel_rfl) rfl (np := [false, false]) (by kernel_rfl) hr13 hl13 (by simp [Go.Proofs.Try.ntmps13]) ?_
  simp -implicitDefEqProofs only [go_sem, reduceCtorEq, prs_length]
  refine way_ndec (fun h1 => ?_) (fun h1 => ?_)
  · simp -implicitDefEqProofs only [go_sem, reduceCtorEq]
    have : ¬ l = m := fun e => h1 (by rw [e])
    simp [this]
  · simp -implicitDefEqProofs only [go_sem, reduceCtorEq]
    refine loop_data (α := Nat) (fun i => ⟨[(0, .d (.sl (prs l))), (1, .d (.sl (prs m))), (5, .d (.int .i64 i))], []⟩)
      (fun i => i ≤ l.length ∧ l.take i = m.take i) (fun i => l.length - i) 0 rfl ⟨Nat.zero_le _, rfl⟩ ?_
    rintro i ⟨h2, h3⟩
    simp -implicitDefEqProofs only [go_sem, reduceCtorEq, prs_length]
    refine way_dec (fun h5 => ?_) (fun h5 => ?_)
    · obtain ⟨p, hp⟩ := some_at h5
      obtain ⟨q, hq⟩ := some_at (l := m) (h1 ▸ h5)
      simp -implicitDefEqProofs only [go_sem, reduceCtorEq, prs_length, lget_prs hp, lget_prs hq]
      repeat ((first | refine req (by first | assumption | omega | exact commP_of (by kernel_rfl)) ?_ | refine k33 _ _ rfl ?_); simp -implicitDefEqProofs only [go_sem, reduceCtorEq, prs_length, lget_prs hp, lget_prs hq])
      refine way_ndec (fun h6 => ?_) (fun h6 => ?_)
      · simp -implicitDefEqProofs only [go_sem, reduceCtorEq]
        have : ¬ l = m := fun e => h6 (by rw [e, hq] at hp; simpa using hp.symm)
        simp [this]
      · simp -implicitDefEqProofs only [go_sem, reduceCtorEq]
        rw [wrap_succ (by omega)]
        refine next_data (i + 1) rfl ⟨by omega, ?_⟩ (by omega)
        rw [take_snoc hp, take_snoc hq, h3, h6]
    · simp -implicitDefEqProofs only [go_sem, reduceCtorEq]
      rw [List.take_of_length_le (by omega), List.take_of_length_le (by omega)] at h3
      simp [h3]
theorem k13 {h : Heap} {tb : Nat} {K : OK} {args : List V} {ls : List Nat} {xs ys : List (List D)} (l m : List Pr) (hg : toDs h args = some ([.sl xs, .sl ys], ls)) (hx : xs = prs l) (hy : ys = prs m) (hl : l.length ≤ LEN)
    (hk : K (.d (.bool (decide (l = m)))) []) : callVC Go.Proofs.Try.prog h tb 13 args K := by
  subst hx; subst hy; exact call_free hg (c13 l m hl) rfl (.inr ⟨.d (.bool _), flatH_nil⟩) hk
end Go.Rx
