/-
  Part 5: an evaluator over plain data of the model's code with its proof, plain laws on lists and numbers, and contracts of functions of the program; each lemma names its conditions.
-/
import Derived.Test.YtllkpikamadebaaRx4
import Derived.Test.YtllkpikamadebaaRx3

set_option linter.unusedSimpArgs false
set_option linter.unusedVariables false

namespace Go.Rx
open Go
attribute [local irreducible] Req Way WayG Sel callVC CallOK
set_option linter.unusedSimpArgs false
set_option linter.unusedVariables false

@[go_sem] def hr83 : Hints
  | 0 => [0] | 1 => [1] | 2 => [1, 3] | 3 => [] | 4 => [1, 3] | 5 => [1, 3, 4] | 6 => [1, 3, 4] | 7 => [1, 3, 4] | 8 => [] | 9 => [1, 3, 4] | 10 => [] | 11 => [1, 3, 4] | 12 => [1, 3, 4] | 13 => [] | 14 => [1, 3, 4] | 15 => [1, 3, 4, 5] | 16 => [1, 3, 4, 5] | 17 => [1, 3, 4, 5] | 18 => [] | 19 => [] | _ => []
@[go_sem] def hl83 : Hints
  | 5 => [1, 3, 4] | 15 => [1, 3, 4, 5] | _ => []
attribute [go_sem] Go.Proofs.Try.results83
set_option maxRecDepth 100000 in
set_option maxHeartbeats 2000000 in
theorem cs_NodeOk (n : GNode) (h1 : n.fKeys.length ≤ LEN) (h2 : n.fVals.length ≤ LEN) (h3 : n.fKids.length ≤ LEN) : CallOK Go.Proofs.Try.prog 83 [.d (.agg n.cells)] [] [.dead] (.d (.bool (decide (nodeOk n)))) [] := by
  refine call_of tysZOK mixedZ Go.Proofs.Try.func83 (by kernel_rfl) rfl (np := [false]) (by kernel_rfl) hr83 hl83 (by simp [Go.Proofs.Try.ntmps83]) ?_
  simp -implicitDefEqProofs (maxSteps := 3000000) only [go_sem, reduceCtorEq, GNode.cells]
  by_cases g1 : (1 : Int) ≤ n.fKeys.length ∧ (n.fKeys.length : Int) ≤ 4
  · have d1 := decide_eq_true g1
    refine ks_in _ _ _ rfl ?_
    cases hl : n.fLeaf
    · have hiff := nodeOk_branch hl
      by_cases g2 : (n.fKids.length : Int) = n.fKeys.length
      · have d2 := decide_eq_true g2
        by_cases g3 : (n.fVals.length : Int) = 0
        · have d3 := decide_eq_true g3
          simp -implicitDefEqProofs (maxSteps := 3000000) only [go_sem, reduceCtorEq, d1, d2, d3]
          repeat ((first | refine req (by first | omega | assumption | exact commP_of (by kernel_rfl) | (simp only [LEN, List.length_append, List.length_cons, List.length_nil]; omega) | (simp [D.one]; omega) | (simp [D.one]; done)) ?_); simp -implicitDefEqProofs (maxSteps := 3000000) only [go_sem, reduceCtorEq, d1, d2, d3])
          refine loop_data (α := Nat) (fun i => ⟨[(1, .ref 0 0), (3, .d (.int .i64 n.fKeys.length)), (4, .d (.int .i64 i))], [(0, some (.box [.d (.bool false), .d (.sl (strs n.fKeys)), .d (.sl (strs n.fVals)), .d (.sl (ints n.fKids))]))]⟩)
            (fun i => i ≤ n.fKeys.length ∧ ascK (n.fKeys.take i) ∧ (∀ k ∈ n.fKeys.take i, k.length ≤ 24) ∧ (∀ k ∈ n.fKids.take i, 2 ≤ k ∧ k ≤ 39) ∧ (n.fKids.take i).Nodup) (fun i => n.fKeys.length - i) 0 rfl ⟨Nat.zero_le _, by simp [ascK], by simp, by simp, by simp⟩ ?_
          rintro i ⟨i1, i2, i3, i4, i5⟩
          simp -implicitDefEqProofs (maxSteps := 3000000) only [go_sem, reduceCtorEq]
          (first | (refine way_dec (fun h5 => ?_) (fun h5 => ?_)) | (refine way_ndec (fun h5 => ?_) (fun h5 => ?_)) | (refine wayT_dec (fun h5 => ?_) (fun h5 => ?_)) | (refine wayF_dec (fun h5 => ?_) (fun h5 => ?_)) | (refine wayT_ndec (fun h5 => ?_) (fun h5 => ?_)) | (refine wayF_ndec (fun h5 => ?_) (fun h5 => ?_)) | (refine way_not (fun h5 => ?_) (fun h5 => ?_)) | (refine way (fun h5 => ?_) (fun h5 => ?_)) | (refine wayT (fun h5 => ?_) (fun h5 => ?_)) | (refine wayF (fun h5 => ?_) (fun h5 => ?_)))
          · simp -implicitDefEqProofs (maxSteps := 3000000) only [go_sem, reduceCtorEq]
            obtain ⟨p, hp⟩ := some_at (l := n.fKeys) (i := i) (by omega)
            by_cases h6 : (24 : Int) < p.length
            · have d6 := decide_eq_true h6
              simp -implicitDefEqProofs (maxSteps := 3000000) only [go_sem, reduceCtorEq, lget_strs hp, d6]
              repeat ((first | refine req (by first | omega | assumption | exact commP_of (by kernel_rfl) | (simp only [LEN, List.length_append, List.length_cons, List.length_nil]; omega) | (simp [D.one]; omega) | (simp [D.one]; done)) ?_); simp -implicitDefEqProofs (maxSteps := 3000000) only [go_sem, reduceCtorEq, lget_strs hp, d6])
              have : ¬ nodeOk n := fun h => by have := h.2.2.2.1 p (List.mem_of_getElem? hp); omega
              simp [this]
            · have d6 := decide_eq_false h6
              rcases Nat.eq_zero_or_pos i with hi | hi
              · have hg : decide ((0 : Int) < (i : Int)) = false := decide_eq_false (by omega)
                have hasc : ascK (n.fKeys.take (i + 1)) := by subst hi; rw [take_snoc hp]; simp [ascK]
                simp -implicitDefEqProofs (maxSteps := 3000000) only [go_sem, reduceCtorEq, lget_strs hp, d6, hg]
                repeat ((first | refine req (by first | omega | assumption | exact commP_of (by kernel_rfl) | (simp only [LEN, List.length_append, List.length_cons, List.length_nil]; omega) | (simp [D.one]; omega) | (simp [D.one]; done)) ?_); simp -implicitDefEqProofs (maxSteps := 3000000) only [go_sem, reduceCtorEq, lget_strs hp, d6, hg])
                obtain ⟨c, hc⟩ := some_at (l := n.fKids) (i := i) (by omega)
                simp -implicitDefEqProofs (maxSteps := 3000000) only [go_sem, reduceCtorEq, lget_ints hc]
                by_cases g4 : 2 ≤ c ∧ c ≤ 39
                · have d4 := decide_eq_true g4
                  repeat ((first | refine req (by first | omega | assumption | exact commP_of (by kernel_rfl) | (simp only [LEN, List.length_append, List.length_cons, List.length_nil]; omega) | (simp [D.one]; omega) | (simp [D.one]; done)) ?_ | refine ks_in _ _ _ rfl ?_); simp -implicitDefEqProofs (maxSteps := 3000000) only [go_sem, reduceCtorEq, lget_ints hc, d4])
                  refine loop_data (α := Nat) (fun j => ⟨[(1, .ref 0 0), (3, .d (.int .i64 n.fKeys.length)), (4, .d (.int .i64 i)), (5, .d (.int .i64 j))], [(0, some (.box [.d (.bool false), .d (.sl (strs n.fKeys)), .d (.sl (strs n.fVals)), .d (.sl (ints n.fKids))]))]⟩)
                    (fun j => j ≤ i ∧ c ∉ n.fKids.take j) (fun j => i - j) 0 rfl ⟨Nat.zero_le _, by simp⟩ ?_
                  rintro j ⟨j1, j2⟩
                  simp -implicitDefEqProofs (maxSteps := 3000000) only [go_sem, reduceCtorEq]
                  (first | (refine way_dec (fun h8 => ?_) (fun h8 => ?_)) | (refine way_ndec (fun h8 => ?_) (fun h8 => ?_)) | (refine wayT_dec (fun h8 => ?_) (fun h8 => ?_)) | (refine wayF_dec (fun h8 => ?_) (fun h8 => ?_)) | (refine wayT_ndec (fun h8 => ?_) (fun h8 => ?_)) | (refine wayF_ndec (fun h8 => ?_) (fun h8 => ?_)) | (refine way_not (fun h8 => ?_) (fun h8 => ?_)) | (refine way (fun h8 => ?_) (fun h8 => ?_)) | (refine wayT (fun h8 => ?_) (fun h8 => ?_)) | (refine wayF (fun h8 => ?_) (fun h8 => ?_)))
                  · obtain ⟨e, he⟩ := some_at (l := n.fKids) (i := j) (by omega)
                    simp -implicitDefEqProofs (maxSteps := 3000000) only [go_sem, reduceCtorEq, lget_ints hc, lget_ints he]
                    repeat ((first | refine req (by first | omega | assumption | exact commP_of (by kernel_rfl) | (simp only [LEN, List.length_append, List.length_cons, List.length_nil]; omega) | (simp [D.one]; omega) | (simp [D.one]; done)) ?_); simp -implicitDefEqProofs (maxSteps := 3000000) only [go_sem, reduceCtorEq, lget_ints hc, lget_ints he])
                    (first | (refine way_dec (fun h9 => ?_) (fun h9 => ?_)) | (refine way_ndec (fun h9 => ?_) (fun h9 => ?_)) | (refine wayT_dec (fun h9 => ?_) (fun h9 => ?_)) | (refine wayF_dec (fun h9 => ?_) (fun h9 => ?_)) | (refine wayT_ndec (fun h9 => ?_) (fun h9 => ?_)) | (refine wayF_ndec (fun h9 => ?_) (fun h9 => ?_)) | (refine way_not (fun h9 => ?_) (fun h9 => ?_)) | (refine way (fun h9 => ?_) (fun h9 => ?_)) | (refine wayT (fun h9 => ?_) (fun h9 => ?_)) | (refine wayF (fun h9 => ?_) (fun h9 => ?_)))
                    · simp -implicitDefEqProofs (maxSteps := 3000000) only [go_sem, reduceCtorEq]
                      have : ¬ nodeOk n := fun h => by
                        have hnd := (hiff.1 h).2.2.2.2.2.2
                        obtain ⟨q1, q2⟩ := List.getElem?_eq_some_iff.1 hc
                        obtain ⟨q3, q4⟩ := List.getElem?_eq_some_iff.1 he
                        exact List.pairwise_iff_getElem.1 hnd j i q3 q1 (by omega) (by rw [q2, q4, h9])
                      simp [this]
                    · simp -implicitDefEqProofs (maxSteps := 3000000) only [go_sem, reduceCtorEq]
                      rw [wrap_succ (by simp only [LEN]; omega)]
                      refine next_data (j + 1) rfl ⟨by omega, fun hm => ?_⟩ (by omega)
                      rcases mem_takeS he hm with hm | rfl
                      · exact j2 hm
                      · exact h9 rfl
                  · simp -implicitDefEqProofs (maxSteps := 3000000) only [go_sem, reduceCtorEq]
                    obtain rfl : j = i := by omega
                    rw [wrap_succ (by simp only [LEN]; omega)]
                    refine next_data (j + 1) rfl ⟨by omega, hasc, fun k hk => ?_, fun k hk => ?_, nodup_snoc hc i5 j2⟩ (by omega)
                    · rcases mem_takeS hp hk with hk | rfl
                      · exact i3 k hk
                      · omega
                    · rcases mem_takeS hc hk with hk | rfl
                      · exact i4 k hk
                      · exact g4
                · have d4 := decide_eq_false g4
                  repeat ((first | refine req (by first | omega | assumption | exact commP_of (by kernel_rfl) | (simp only [LEN, List.length_append, List.length_cons, List.length_nil]; omega) | (simp [D.one]; omega) | (simp [D.one]; done)) ?_ | refine ks_in _ _ _ rfl ?_); simp -implicitDefEqProofs (maxSteps := 3000000) only [go_sem, reduceCtorEq, lget_ints hc, d4])
                  have : ¬ nodeOk n := fun h => g4 ((hiff.1 h).2.2.2.2.2.1 c (List.mem_of_getElem? hc))
                  simp [this]
              · obtain ⟨j', hj'⟩ : ∃ j, i = j + 1 := ⟨i - 1, by omega⟩
                obtain ⟨q, hq⟩ := some_at (l := n.fKeys) (i := j') (by omega)
                have hg : decide ((0 : Int) < (i : Int)) = true := decide_eq_true (by omega)
                have hj : IntKind.i64.wrap ((i : Int) - 1) = (j' : Int) := by rw [wrap_int (by omega) (by omega)]; omega
                simp -implicitDefEqProofs (maxSteps := 3000000) only [go_sem, reduceCtorEq, lget_strs hp, lget_strs hq, d6, hg, hj]
                repeat ((first | refine req (by first | omega | assumption | exact commP_of (by kernel_rfl) | (simp only [LEN, List.length_append, List.length_cons, List.length_nil]; omega) | (simp [D.one]; omega) | (simp [D.one]; done)) ?_); simp -implicitDefEqProofs (maxSteps := 3000000) only [go_sem, reduceCtorEq, lget_strs hp, lget_strs hq, d6, hg, hj])
                cases hlt : bLess q p
                · simp -implicitDefEqProofs (maxSteps := 3000000) only [go_sem, reduceCtorEq]
                  have : ¬ nodeOk n := fun h => by rw [asc_next h.2.2.1 hq (hj' ▸ hp)] at hlt; cases hlt
                  simp [this]
                · have hasc : ascK (n.fKeys.take (i + 1)) := by subst hj'; exact ascK_snoc i2 hq hp hlt
                  simp -implicitDefEqProofs (maxSteps := 3000000) only [go_sem, reduceCtorEq]
                  obtain ⟨c, hc⟩ := some_at (l := n.fKids) (i := i) (by omega)
                  simp -implicitDefEqProofs (maxSteps := 3000000) only [go_sem, reduceCtorEq, lget_ints hc]
                  by_cases g4 : 2 ≤ c ∧ c ≤ 39
                  · have d4 := decide_eq_true g4
                    repeat ((first | refine req (by first | omega | assumption | exact commP_of (by kernel_rfl) | (simp only [LEN, List.length_append, List.length_cons, List.length_nil]; omega) | (simp [D.one]; omega) | (simp [D.one]; done)) ?_ | refine ks_in _ _ _ rfl ?_); simp -implicitDefEqProofs (maxSteps := 3000000) only [go_sem, reduceCtorEq, lget_ints hc, d4])
                    refine loop_data (α := Nat) (fun j => ⟨[(1, .ref 0 0), (3, .d (.int .i64 n.fKeys.length)), (4, .d (.int .i64 i)), (5, .d (.int .i64 j))], [(0, some (.box [.d (.bool false), .d (.sl (strs n.fKeys)), .d (.sl (strs n.fVals)), .d (.sl (ints n.fKids))]))]⟩)
                      (fun j => j ≤ i ∧ c ∉ n.fKids.take j) (fun j => i - j) 0 rfl ⟨Nat.zero_le _, by simp⟩ ?_
                    rintro j ⟨j1, j2⟩
                    simp -implicitDefEqProofs (maxSteps := 3000000) only [go_sem, reduceCtorEq]
                    (first | (refine way_dec (fun h8 => ?_) (fun h8 => ?_)) | (refine way_ndec (fun h8 => ?_) (fun h8 => ?_)) | (refine wayT_dec (fun h8 => ?_) (fun h8 => ?_)) | (refine wayF_dec (fun h8 => ?_) (fun h8 => ?_)) | (refine wayT_ndec (fun h8 => ?_) (fun h8 => ?_)) | (refine wayF_ndec (fun h8 => ?_) (fun h8 => ?_)) | (refine way_not (fun h8 => ?_) (fun h8 => ?_)) | (refine way (fun h8 => ?_) (fun h8 => ?_)) | (refine wayT (fun h8 => ?_) (fun h8 => ?_)) | (refine wayF (fun h8 => ?_) (fun h8 => ?_)))
                    · obtain ⟨e, he⟩ := some_at (l := n.fKids) (i := j) (by omega)
                      simp -implicitDefEqProofs (maxSteps := 3000000) only [go_sem, reduceCtorEq, lget_ints hc, lget_ints he]
                      repeat ((first | refine req (by first | omega | assumption | exact commP_of (by kernel_rfl) | (simp only [LEN, List.length_append, List.length_cons, List.length_nil]; omega) | (simp [D.one]; omega) | (simp [D.one]; done)) ?_); simp -implicitDefEqProofs (maxSteps := 3000000) only [go_sem, reduceCtorEq, lget_ints hc, lget_ints he])
                      (first | (refine way_dec (fun h9 => ?_) (fun h9 => ?_)) | (refine way_ndec (fun h9 => ?_) (fun h9 => ?_)) | (refine wayT_dec (fun h9 => ?_) (fun h9 => ?_)) | (refine wayF_dec (fun h9 => ?_) (fun h9 => ?_)) | (refine wayT_ndec (fun h9 => ?_) (fun h9 => ?_)) | (refine wayF_ndec (fun h9 => ?_) (fun h9 => ?_)) | (refine way_not (fun h9 => ?_) (fun h9 => ?_)) | (refine way (fun h9 => ?_) (fun h9 => ?_)) | (refine wayT (fun h9 => ?_) (fun h9 => ?_)) | (refine wayF (fun h9 => ?_) (fun h9 => ?_)))
                      · simp -implicitDefEqProofs (maxSteps := 3000000) only [go_sem, reduceCtorEq]
                        have : ¬ nodeOk n := fun h => by
                          have hnd := (hiff.1 h).2.2.2.2.2.2
                          obtain ⟨q1, q2⟩ := List.getElem?_eq_some_iff.1 hc
                          obtain ⟨q3, q4⟩ := List.getElem?_eq_some_iff.1 he
                          exact List.pairwise_iff_getElem.1 hnd j i q3 q1 (by omega) (by rw [q2, q4, h9])
                        simp [this]
                      · simp -implicitDefEqProofs (maxSteps := 3000000) only [go_sem, reduceCtorEq]
                        rw [wrap_succ (by simp only [LEN]; omega)]
                        refine next_data (j + 1) rfl ⟨by omega, fun hm => ?_⟩ (by omega)
                        rcases mem_takeS he hm with hm | rfl
                        · exact j2 hm
                        · exact h9 rfl
                    · simp -implicitDefEqProofs (maxSteps := 3000000) only [go_sem, reduceCtorEq]
                      obtain rfl : j = i := by omega
                      rw [wrap_succ (by simp only [LEN]; omega)]
                      refine next_data (j + 1) rfl ⟨by omega, hasc, fun k hk => ?_, fun k hk => ?_, nodup_snoc hc i5 j2⟩ (by omega)
                      · rcases mem_takeS hp hk with hk | rfl
                        · exact i3 k hk
                        · omega
                      · rcases mem_takeS hc hk with hk | rfl
                        · exact i4 k hk
                        · exact g4
                  · have d4 := decide_eq_false g4
                    repeat ((first | refine req (by first | omega | assumption | exact commP_of (by kernel_rfl) | (simp only [LEN, List.length_append, List.length_cons, List.length_nil]; omega) | (simp [D.one]; omega) | (simp [D.one]; done)) ?_ | refine ks_in _ _ _ rfl ?_); simp -implicitDefEqProofs (maxSteps := 3000000) only [go_sem, reduceCtorEq, lget_ints hc, d4])
                    have : ¬ nodeOk n := fun h => g4 ((hiff.1 h).2.2.2.2.2.1 c (List.mem_of_getElem? hc))
                    simp [this]
          · simp -implicitDefEqProofs (maxSteps := 3000000) only [go_sem, reduceCtorEq]
            rw [List.take_of_length_le (by omega)] at i2 i3 i4 i5
            have : nodeOk n := hiff.2 ⟨by omega, i2, i3, by omega, by omega, i4, i5⟩
            simp [this]
        · have d3 := decide_eq_false g3
          simp -implicitDefEqProofs (maxSteps := 3000000) only [go_sem, reduceCtorEq, d1, d2, d3]
          repeat ((first | refine req (by first | omega | assumption | exact commP_of (by kernel_rfl) | (simp only [LEN, List.length_append, List.length_cons, List.length_nil]; omega) | (simp [D.one]; omega) | (simp [D.one]; done)) ?_); simp -implicitDefEqProofs (maxSteps := 3000000) only [go_sem, reduceCtorEq, d1, d2, d3])
          have : ¬ nodeOk n := fun h => g3 (by have := (hiff.1 h).2.2.2.2.1; omega)
          simp [this]
      · have d2 := decide_eq_false g2
        simp -implicitDefEqProofs (maxSteps := 3000000) only [go_sem, reduceCtorEq, d1, d2]
        repeat ((first | refine req (by first | omega | assumption | exact commP_of (by kernel_rfl) | (simp only [LEN, List.length_append, List.length_cons, List.length_nil]; omega) | (simp [D.one]; omega) | (simp [D.one]; done)) ?_); simp -implicitDefEqProofs (maxSteps := 3000000) only [go_sem, reduceCtorEq, d1, d2])
        have : ¬ nodeOk n := fun h => g2 (by have := (hiff.1 h).2.2.2.1; omega)
        simp [this]
    · have hiff := nodeOk_leaf hl
      by_cases g2 : (n.fVals.length : Int) = n.fKeys.length
      · have d2 := decide_eq_true g2
        by_cases g3 : (n.fKids.length : Int) = 0
        · have d3 := decide_eq_true g3
          simp -implicitDefEqProofs (maxSteps := 3000000) only [go_sem, reduceCtorEq, d1, d2, d3]
          repeat ((first | refine req (by first | omega | assumption | exact commP_of (by kernel_rfl) | (simp only [LEN, List.length_append, List.length_cons, List.length_nil]; omega) | (simp [D.one]; omega) | (simp [D.one]; done)) ?_); simp -implicitDefEqProofs (maxSteps := 3000000) only [go_sem, reduceCtorEq, d1, d2, d3])
          refine loop_data (α := Nat) (fun i => ⟨[(1, .ref 0 0), (3, .d (.int .i64 n.fKeys.length)), (4, .d (.int .i64 i))], [(0, some (.box [.d (.bool true), .d (.sl (strs n.fKeys)), .d (.sl (strs n.fVals)), .d (.sl (ints n.fKids))]))]⟩)
            (fun i => i ≤ n.fKeys.length ∧ ascK (n.fKeys.take i) ∧ (∀ k ∈ n.fKeys.take i, k.length ≤ 24) ∧ (∀ v ∈ n.fVals.take i, v.length ≤ 24)) (fun i => n.fKeys.length - i) 0 rfl ⟨Nat.zero_le _, by simp [ascK], by simp, by simp⟩ ?_
          rintro i ⟨i1, i2, i3, i4⟩
          simp -implicitDefEqProofs (maxSteps := 3000000) only [go_sem, reduceCtorEq]
          (first | (refine way_dec (fun h5 => ?_) (fun h5 => ?_)) | (refine way_ndec (fun h5 => ?_) (fun h5 => ?_)) | (refine wayT_dec (fun h5 => ?_) (fun h5 => ?_)) | (refine wayF_dec (fun h5 => ?_) (fun h5 => ?_)) | (refine wayT_ndec (fun h5 => ?_) (fun h5 => ?_)) | (refine wayF_ndec (fun h5 => ?_) (fun h5 => ?_)) | (refine way_not (fun h5 => ?_) (fun h5 => ?_)) | (refine way (fun h5 => ?_) (fun h5 => ?_)) | (refine wayT (fun h5 => ?_) (fun h5 => ?_)) | (refine wayF (fun h5 => ?_) (fun h5 => ?_)))
          · simp -implicitDefEqProofs (maxSteps := 3000000) only [go_sem, reduceCtorEq]
            obtain ⟨p, hp⟩ := some_at (l := n.fKeys) (i := i) (by omega)
            by_cases h6 : (24 : Int) < p.length
            · have d6 := decide_eq_true h6
              simp -implicitDefEqProofs (maxSteps := 3000000) only [go_sem, reduceCtorEq, lget_strs hp, d6]
              repeat ((first | refine req (by first | omega | assumption | exact commP_of (by kernel_rfl) | (simp only [LEN, List.length_append, List.length_cons, List.length_nil]; omega) | (simp [D.one]; omega) | (simp [D.one]; done)) ?_); simp -implicitDefEqProofs (maxSteps := 3000000) only [go_sem, reduceCtorEq, lget_strs hp, d6])
              have : ¬ nodeOk n := fun h => by have := h.2.2.2.1 p (List.mem_of_getElem? hp); omega
              simp [this]
            · have d6 := decide_eq_false h6
              rcases Nat.eq_zero_or_pos i with hi | hi
              · have hg : decide ((0 : Int) < (i : Int)) = false := decide_eq_false (by omega)
                have hasc : ascK (n.fKeys.take (i + 1)) := by subst hi; rw [take_snoc hp]; simp [ascK]
                simp -implicitDefEqProofs (maxSteps := 3000000) only [go_sem, reduceCtorEq, lget_strs hp, d6, hg]
                repeat ((first | refine req (by first | omega | assumption | exact commP_of (by kernel_rfl) | (simp only [LEN, List.length_append, List.length_cons, List.length_nil]; omega) | (simp [D.one]; omega) | (simp [D.one]; done)) ?_); simp -implicitDefEqProofs (maxSteps := 3000000) only [go_sem, reduceCtorEq, lget_strs hp, d6, hg])
                obtain ⟨v, hv⟩ := some_at (l := n.fVals) (i := i) (by omega)
                simp -implicitDefEqProofs (maxSteps := 3000000) only [go_sem, reduceCtorEq, lget_strs hv]
                repeat ((first | refine req (by first | omega | assumption | exact commP_of (by kernel_rfl) | (simp only [LEN, List.length_append, List.length_cons, List.length_nil]; omega) | (simp [D.one]; omega) | (simp [D.one]; done)) ?_); simp -implicitDefEqProofs (maxSteps := 3000000) only [go_sem, reduceCtorEq, lget_strs hv])
                (first | (refine way_dec (fun h8 => ?_) (fun h8 => ?_)) | (refine way_ndec (fun h8 => ?_) (fun h8 => ?_)) | (refine wayT_dec (fun h8 => ?_) (fun h8 => ?_)) | (refine wayF_dec (fun h8 => ?_) (fun h8 => ?_)) | (refine wayT_ndec (fun h8 => ?_) (fun h8 => ?_)) | (refine wayF_ndec (fun h8 => ?_) (fun h8 => ?_)) | (refine way_not (fun h8 => ?_) (fun h8 => ?_)) | (refine way (fun h8 => ?_) (fun h8 => ?_)) | (refine wayT (fun h8 => ?_) (fun h8 => ?_)) | (refine wayF (fun h8 => ?_) (fun h8 => ?_)))
                · simp -implicitDefEqProofs (maxSteps := 3000000) only [go_sem, reduceCtorEq]
                  have : ¬ nodeOk n := fun h => by have := (hiff.1 h).2.2.2.2.1 v (List.mem_of_getElem? hv); omega
                  simp [this]
                · simp -implicitDefEqProofs (maxSteps := 3000000) only [go_sem, reduceCtorEq]
                  rw [wrap_succ (by simp only [LEN]; omega)]
                  refine next_data (i + 1) rfl ⟨by omega, hasc, fun k hk => ?_, fun w hw => ?_⟩ (by omega)
                  · rcases mem_takeS hp hk with hk | rfl
                    · exact i3 k hk
                    · omega
                  · rcases mem_takeS hv hw with hw | rfl
                    · exact i4 w hw
                    · omega
              · obtain ⟨j', hj'⟩ : ∃ j, i = j + 1 := ⟨i - 1, by omega⟩
                obtain ⟨q, hq⟩ := some_at (l := n.fKeys) (i := j') (by omega)
                have hg : decide ((0 : Int) < (i : Int)) = true := decide_eq_true (by omega)
                have hj : IntKind.i64.wrap ((i : Int) - 1) = (j' : Int) := by rw [wrap_int (by omega) (by omega)]; omega
                simp -implicitDefEqProofs (maxSteps := 3000000) only [go_sem, reduceCtorEq, lget_strs hp, lget_strs hq, d6, hg, hj]
                repeat ((first | refine req (by first | omega | assumption | exact commP_of (by kernel_rfl) | (simp only [LEN, List.length_append, List.length_cons, List.length_nil]; omega) | (simp [D.one]; omega) | (simp [D.one]; done)) ?_); simp -implicitDefEqProofs (maxSteps := 3000000) only [go_sem, reduceCtorEq, lget_strs hp, lget_strs hq, d6, hg, hj])
                cases hlt : bLess q p
                · simp -implicitDefEqProofs (maxSteps := 3000000) only [go_sem, reduceCtorEq]
                  have : ¬ nodeOk n := fun h => by rw [asc_next h.2.2.1 hq (hj' ▸ hp)] at hlt; cases hlt
                  simp [this]
                · have hasc : ascK (n.fKeys.take (i + 1)) := by subst hj'; exact ascK_snoc i2 hq hp hlt
                  simp -implicitDefEqProofs (maxSteps := 3000000) only [go_sem, reduceCtorEq]
                  obtain ⟨v, hv⟩ := some_at (l := n.fVals) (i := i) (by omega)
                  simp -implicitDefEqProofs (maxSteps := 3000000) only [go_sem, reduceCtorEq, lget_strs hv]
                  repeat ((first | refine req (by first | omega | assumption | exact commP_of (by kernel_rfl) | (simp only [LEN, List.length_append, List.length_cons, List.length_nil]; omega) | (simp [D.one]; omega) | (simp [D.one]; done)) ?_); simp -implicitDefEqProofs (maxSteps := 3000000) only [go_sem, reduceCtorEq, lget_strs hv])
                  (first | (refine way_dec (fun h8 => ?_) (fun h8 => ?_)) | (refine way_ndec (fun h8 => ?_) (fun h8 => ?_)) | (refine wayT_dec (fun h8 => ?_) (fun h8 => ?_)) | (refine wayF_dec (fun h8 => ?_) (fun h8 => ?_)) | (refine wayT_ndec (fun h8 => ?_) (fun h8 => ?_)) | (refine wayF_ndec (fun h8 => ?_) (fun h8 => ?_)) | (refine way_not (fun h8 => ?_) (fun h8 => ?_)) | (refine way (fun h8 => ?_) (fun h8 => ?_)) | (refine wayT (fun h8 => ?_) (fun h8 => ?_)) | (refine wayF (fun h8 => ?_) (fun h8 => ?_)))
                  · simp -implicitDefEqProofs (maxSteps := 3000000) only [go_sem, reduceCtorEq]
                    have : ¬ nodeOk n := fun h => by have := (hiff.1 h).2.2.2.2.1 v (List.mem_of_getElem? hv); omega
                    simp [this]
                  · simp -implicitDefEqProofs (maxSteps := 3000000) only [go_sem, reduceCtorEq]
                    rw [wrap_succ (by simp only [LEN]; omega)]
                    refine next_data (i + 1) rfl ⟨by omega, hasc, fun k hk => ?_, fun w hw => ?_⟩ (by omega)
                    · rcases mem_takeS hp hk with hk | rfl
                      · exact i3 k hk
                      · omega
                    · rcases mem_takeS hv hw with hw | rfl
                      · exact i4 w hw
                      · omega
          · simp -implicitDefEqProofs (maxSteps := 3000000) only [go_sem, reduceCtorEq]
            rw [List.take_of_length_le (by omega)] at i2 i3 i4
            have : nodeOk n := hiff.2 ⟨by omega, i2, i3, by omega, i4, by omega⟩
            simp [this]
        · have d3 := decide_eq_false g3
          simp -implicitDefEqProofs (maxSteps := 3000000) only [go_sem, reduceCtorEq, d1, d2, d3]
          repeat ((first | refine req (by first | omega | assumption | exact commP_of (by kernel_rfl) | (simp only [LEN, List.length_append, List.length_cons, List.length_nil]; omega) | (simp [D.one]; omega) | (simp [D.one]; done)) ?_); simp -implicitDefEqProofs (maxSteps := 3000000) only [go_sem, reduceCtorEq, d1, d2, d3])
          have : ¬ nodeOk n := fun h => g3 (by have := (hiff.1 h).2.2.2.2.2; omega)
          simp [this]
      · have d2 := decide_eq_false g2
        simp -implicitDefEqProofs (maxSteps := 3000000) only [go_sem, reduceCtorEq, d1, d2]
        repeat ((first | refine req (by first | omega | assumption | exact commP_of (by kernel_rfl) | (simp only [LEN, List.length_append, List.length_cons, List.length_nil]; omega) | (simp [D.one]; omega) | (simp [D.one]; done)) ?_); simp -implicitDefEqProofs (maxSteps := 3000000) only [go_sem, reduceCtorEq, d1, d2])
        have : ¬ nodeOk n := fun h => g2 (by have := (hiff.1 h).2.2.2.1; omega)
        simp [this]
  · have d1 := decide_eq_false g1
    refine ks_in _ _ _ rfl ?_
    cases hl : n.fLeaf
    · simp -implicitDefEqProofs (maxSteps := 3000000) only [go_sem, reduceCtorEq, d1]
      repeat ((first | refine req (by first | omega | assumption | exact commP_of (by kernel_rfl) | (simp only [LEN, List.length_append, List.length_cons, List.length_nil]; omega) | (simp [D.one]; omega) | (simp [D.one]; done)) ?_); simp -implicitDefEqProofs (maxSteps := 3000000) only [go_sem, reduceCtorEq, d1])
      have : ¬ nodeOk n := fun h => g1 ⟨by have := h.1; omega, by have := h.2.1; omega⟩
      simp [this]
    · simp -implicitDefEqProofs (maxSteps := 3000000) only [go_sem, reduceCtorEq, d1]
      repeat ((first | refine req (by first | omega | assumption | exact commP_of (by kernel_rfl) | (simp only [LEN, List.length_append, List.length_cons, List.length_nil]; omega) | (simp [D.one]; omega) | (simp [D.one]; done)) ?_); simp -implicitDefEqProofs (maxSteps := 3000000) only [go_sem, reduceCtorEq, d1])
      have : ¬ nodeOk n := fun h => g1 ⟨by have := h.1; omega, by have := h.2.1; omega⟩
      simp [this]
theorem ks_NodeOk {h : Heap} {tb : Nat} {K : OK} {args : List V} {ls : List Nat} (n : GNode) (h1 : n.fKeys.length ≤ LEN) (h2 : n.fVals.length ≤ LEN) (h3 : n.fKids.length ≤ LEN) (hg : toDs h args = some ([.agg n.cells], ls))
    (hk : K (renV (bk tb ([])) (.d (.bool (decide (nodeOk n))))) (updN tb ([]) ([]))) : callVC Go.Proofs.Try.prog h tb 83 args K :=
  call_free hg (cs_NodeOk n h1 h2 h3) rfl (.inr ⟨flat_of rfl, flatHB_of rfl⟩) hk
end Go.Rx

namespace Go.Rx
open Go
attribute [local irreducible] Req Way WayG Sel callVC CallOK
set_option linter.unusedSimpArgs false
set_option linter.unusedVariables false

@[go_sem] def hr107 : Hints
  | 0 => [0] | 1 => [0] | _ => []
@[go_sem] def hl107 : Hints := fun _ => []
attribute [go_sem] Go.Proofs.Try.results107
set_option maxRecDepth 100000 in
set_option maxHeartbeats 2000000 in
theorem cs_Short (s : List UInt8) (hs : s.length ≤ 4611686018427387904) : CallOK Go.Proofs.Try.prog 107 [.d (.str s)] [] [.dead] (.d (.str (shortB s))) [] := by
  refine call_of tysZOK mixedZ Go.Proofs.Try.func107 (by kernel_rfl) rfl (np := [false]) (by kernel_rfl) hr107 hl107 (by simp [Go.Proofs.Try.ntmps107]) ?_
  simp -implicitDefEqProofs (maxSteps := 3000000) only [go_sem, reduceCtorEq]
  refine ks_varText s.length (by omega) rfl ?_
  have := varB_len9 (n := s.length) (by omega)
  simp -implicitDefEqProofs (maxSteps := 3000000) only [go_sem, reduceCtorEq]
  repeat ((first | refine req (by first | omega | assumption | exact commP_of (by kernel_rfl) | (simp only [LEN, List.length_append, List.length_cons, List.length_nil]; omega) | (simp [D.one]; omega) | (simp [D.one]; done)) ?_); simp -implicitDefEqProofs (maxSteps := 3000000) only [go_sem, reduceCtorEq])
  rfl
theorem ks_Short {h : Heap} {tb : Nat} {K : OK} {args : List V} {ls : List Nat} (s : List UInt8) (hs : s.length ≤ 4611686018427387904) (hg : toDs h args = some ([.str s], ls))
    (hk : K (renV (bk tb ([])) (.d (.str (shortB s)))) (updN tb ([]) ([]))) : callVC Go.Proofs.Try.prog h tb 107 args K :=
  call_free hg (cs_Short s hs) rfl (.inr ⟨flat_of rfl, flatHB_of rfl⟩) hk
@[go_sem] def hr126 : Hints
  | 0 => [0] | 1 => [0] | _ => []
@[go_sem] def hl126 : Hints := fun _ => []
attribute [go_sem] Go.Proofs.Try.results126
set_option maxRecDepth 100000 in
set_option maxHeartbeats 2000000 in
theorem ci_Short (s : List UInt8) (hs : s.length ≤ 4611686018427387904) : CallOK Go.Proofs.Try.prog 126 [.d (.str s)] [] [.dead] (.d (.str (shortB s))) [] := by
  refine call_of tysZOK mixedZ Go.Proofs.Try.func126 (by kernel_rfl) rfl (np := [false]) (by kernel_rfl) hr126 hl126 (by simp [Go.Proofs.Try.ntmps126]) ?_
  simp -implicitDefEqProofs (maxSteps := 3000000) only [go_sem, reduceCtorEq]
  refine ki_varText s.length (by omega) rfl ?_
  have := varB_len9 (n := s.length) (by omega)
  simp -implicitDefEqProofs (maxSteps := 3000000) only [go_sem, reduceCtorEq]
  repeat ((first | refine req (by first | omega | assumption | exact commP_of (by kernel_rfl) | (simp only [LEN, List.length_append, List.length_cons, List.length_nil]; omega) | (simp [D.one]; omega) | (simp [D.one]; done)) ?_); simp -implicitDefEqProofs (maxSteps := 3000000) only [go_sem, reduceCtorEq])
  rfl
theorem ki_Short {h : Heap} {tb : Nat} {K : OK} {args : List V} {ls : List Nat} (s : List UInt8) (hs : s.length ≤ 4611686018427387904) (hg : toDs h args = some ([.str s], ls))
    (hk : K (renV (bk tb ([])) (.d (.str (shortB s)))) (updN tb ([]) ([]))) : callVC Go.Proofs.Try.prog h tb 126 args K :=
  call_free hg (ci_Short s hs) rfl (.inr ⟨flat_of rfl, flatHB_of rfl⟩) hk
@[go_sem] def hr84 : Hints
  | 0 => [0] | 1 => [0] | 2 => [] | 3 => [0] | _ => []
@[go_sem] def hl84 : Hints := fun _ => []
attribute [go_sem] Go.Proofs.Try.results84
set_option maxRecDepth 100000 in
set_option maxHeartbeats 2000000 in
theorem cs_Sealed (t : List UInt8) (ht : t.length ≤ 20000) : CallOK Go.Proofs.Try.prog 84 [.d (.str t)] [] [.dead] (.tup [.d (.str (sealB t)), .d (.bool true)]) [] := by
  refine call_of tysZOK mixedZ Go.Proofs.Try.func84 (by kernel_rfl) rfl (np := [false]) (by kernel_rfl) hr84 hl84 (by simp [Go.Proofs.Try.ntmps84]) ?_
  have h1 : ¬ (20000 : Int) < t.length := by omega
  have d1 := decide_eq_false h1
  simp -implicitDefEqProofs (maxSteps := 3000000) only [go_sem, reduceCtorEq, d1]
  repeat ((first | refine req (by first | omega | assumption | exact commP_of (by kernel_rfl) | (simp only [LEN, List.length_append, List.length_cons, List.length_nil]; omega) | (simp [D.one]; omega) | (simp [D.one]; done)) ?_ | refine ks_SumOf t (by simp only [LEN]; omega) rfl ?_ | refine ks_Four (sumOf t) sumOf_lt rfl ?_); simp -implicitDefEqProofs (maxSteps := 3000000) only [go_sem, reduceCtorEq, d1, four_len])
  rfl
theorem ks_Sealed {h : Heap} {tb : Nat} {K : OK} {args : List V} {ls : List Nat} (t : List UInt8) (ht : t.length ≤ 20000) (hg : toDs h args = some ([.str t], ls))
    (hk : K (renV (bk tb ([])) (.tup [.d (.str (sealB t)), .d (.bool true)])) (updN tb ([]) ([]))) : callVC Go.Proofs.Try.prog h tb 84 args K :=
  call_free hg (cs_Sealed t ht) rfl (.inr ⟨flat_of rfl, flatHB_of rfl⟩) hk
@[go_sem] def hr127 : Hints
  | 0 => [0] | 1 => [0] | 2 => [] | 3 => [0] | _ => []
@[go_sem] def hl127 : Hints := fun _ => []
attribute [go_sem] Go.Proofs.Try.results127
set_option maxRecDepth 100000 in
set_option maxHeartbeats 2000000 in
theorem ci_Sealed (t : List UInt8) (ht : t.length ≤ 20000) : CallOK Go.Proofs.Try.prog 127 [.d (.str t)] [] [.dead] (.tup [.d (.str (sealB t)), .d (.bool true)]) [] := by
  refine call_of tysZOK mixedZ Go.Proofs.Try.func127 (by kernel_rfl) rfl (np := [false]) (by kernel_rfl) hr127 hl127 (by simp [Go.Proofs.Try.ntmps127]) ?_
  have h1 : ¬ (20000 : Int) < t.length := by omega
  have d1 := decide_eq_false h1
  simp -implicitDefEqProofs (maxSteps := 3000000) only [go_sem, reduceCtorEq, d1]
  repeat ((first | refine req (by first | omega | assumption | exact commP_of (by kernel_rfl) | (simp only [LEN, List.length_append, List.length_cons, List.length_nil]; omega) | (simp [D.one]; omega) | (simp [D.one]; done)) ?_ | refine ki_seal t (by simp only [LEN]; omega) rfl ?_); simp -implicitDefEqProofs (maxSteps := 3000000) only [go_sem, reduceCtorEq, d1, four_len])
  rfl
theorem ki_Sealed {h : Heap} {tb : Nat} {K : OK} {args : List V} {ls : List Nat} (t : List UInt8) (ht : t.length ≤ 20000) (hg : toDs h args = some ([.str t], ls))
    (hk : K (renV (bk tb ([])) (.tup [.d (.str (sealB t)), .d (.bool true)])) (updN tb ([]) ([]))) : callVC Go.Proofs.Try.prog h tb 127 args K :=
  call_free hg (ci_Sealed t ht) rfl (.inr ⟨flat_of rfl, flatHB_of rfl⟩) hk
@[go_sem] def hr133 : Hints
  | 0 => [0] | 1 => [0] | 2 => [0, 4] | 3 => [] | 4 => [0, 4] | _ => []
@[go_sem] def hl133 : Hints := fun _ => []
attribute [go_sem] Go.Proofs.Try.results133
set_option maxRecDepth 100000 in
set_option maxHeartbeats 2000000 in
theorem cs_Unsealed (t : List UInt8) (ht : t.length ≤ 4611686018427387904) : CallOK Go.Proofs.Try.prog 133 [.d (.str t)] [] [.dead] (unV (unsealB t)) [] := by
  refine call_of tysZOK mixedZ Go.Proofs.Try.func133 (by kernel_rfl) rfl (np := [false]) (by kernel_rfl) hr133 hl133 (by simp [Go.Proofs.Try.ntmps133]) ?_
  simp -implicitDefEqProofs (maxSteps := 3000000) only [go_sem, reduceCtorEq]
  have e1 : IntKind.i64.wrap ((t.length : Int) - 4) = (t.length : Int) - 4 := wrap_int (by omega) (by omega)
  rw [e1]
  by_cases h1 : (t.length : Int) - 4 < 0
  · have d1 := decide_eq_true h1
    simp -implicitDefEqProofs (maxSteps := 3000000) only [go_sem, reduceCtorEq, d1]
    repeat ((first | refine req (by first | omega | assumption | exact commP_of (by kernel_rfl) | (simp only [LEN, List.length_append, List.length_cons, List.length_nil]; omega) | (simp [D.one]; omega) | (simp [D.one]; done)) ?_); simp -implicitDefEqProofs (maxSteps := 3000000) only [go_sem, reduceCtorEq, d1])
    rw [unsealB, if_neg (by omega)]; rfl
  · have d1 := decide_eq_false h1
    by_cases h2 : 20000 < (t.length : Int) - 4
    · have d2 := decide_eq_true h2
      simp -implicitDefEqProofs (maxSteps := 3000000) only [go_sem, reduceCtorEq, d1, d2]
      repeat ((first | refine req (by first | omega | assumption | exact commP_of (by kernel_rfl) | (simp only [LEN, List.length_append, List.length_cons, List.length_nil]; omega) | (simp [D.one]; omega) | (simp [D.one]; done)) ?_); simp -implicitDefEqProofs (maxSteps := 3000000) only [go_sem, reduceCtorEq, d1, d2])
      rw [unsealB, if_neg (by omega)]; rfl
    · have d2 := decide_eq_false h2
      have e2 : ((t.length : Int) - 4).toNat = t.length - 4 := by omega
      simp -implicitDefEqProofs (maxSteps := 3000000) only [go_sem, reduceCtorEq, d1, d2, e2]
      repeat ((first | refine req (by first | omega | assumption | exact commP_of (by kernel_rfl) | (simp only [LEN, List.length_append, List.length_cons, List.length_nil]; omega) | (simp [D.one]; omega) | (simp [D.one]; done)) ?_ | refine ks_SumOf (t.take (t.length - 4)) (by simp only [List.length_take, LEN]; omega) rfl ?_ | refine ks_Four (sumOf (t.take (t.length - 4))) sumOf_lt rfl ?_); simp -implicitDefEqProofs (maxSteps := 3000000) only [go_sem, reduceCtorEq, d1, d2, e2, List.take_length])
      (first | (refine way_dec (fun h3 => ?_) (fun h3 => ?_)) | (refine way_ndec (fun h3 => ?_) (fun h3 => ?_)) | (refine wayT_dec (fun h3 => ?_) (fun h3 => ?_)) | (refine wayF_dec (fun h3 => ?_) (fun h3 => ?_)) | (refine wayT_ndec (fun h3 => ?_) (fun h3 => ?_)) | (refine wayF_ndec (fun h3 => ?_) (fun h3 => ?_)) | (refine way_not (fun h3 => ?_) (fun h3 => ?_)) | (refine way (fun h3 => ?_) (fun h3 => ?_)) | (refine wayT (fun h3 => ?_) (fun h3 => ?_)) | (refine wayF (fun h3 => ?_) (fun h3 => ?_)))
      · simp -implicitDefEqProofs (maxSteps := 3000000) only [go_sem, reduceCtorEq]
        rw [unsealB, if_neg (fun h => h3 h.2.2)]; rfl
      · simp -implicitDefEqProofs (maxSteps := 3000000) only [go_sem, reduceCtorEq]
        repeat ((first | refine req (by first | omega | assumption | exact commP_of (by kernel_rfl) | (simp only [LEN, List.length_append, List.length_cons, List.length_nil]; omega) | (simp [D.one]; omega) | (simp [D.one]; done)) ?_); simp -implicitDefEqProofs (maxSteps := 3000000) only [go_sem, reduceCtorEq, e2])
        rw [unsealB, if_pos ⟨by omega, by omega, h3⟩]; rfl
theorem ks_Unsealed {h : Heap} {tb : Nat} {K : OK} {args : List V} {ls : List Nat} (t : List UInt8) (ht : t.length ≤ 4611686018427387904) (hg : toDs h args = some ([.str t], ls)) (hfl : FlatV (unV (unsealB t)) ∧ FlatH ([]))
    (hk : K (renV (bk tb ([])) (unV (unsealB t))) (updN tb ([]) ([]))) : callVC Go.Proofs.Try.prog h tb 133 args K :=
  call_free hg (cs_Unsealed t ht) rfl (.inr hfl) hk

/-- The bytes of a node's first k entries. -/
def entB (n : GNode) (k : Nat) : List UInt8 := (if n.fLeaf = true then (n.fKeys.zip n.fVals).take k |>.flatMap lent else (n.fKeys.zip n.fKids).take k |>.flatMap bent)
def headB (n : GNode) : List UInt8 := (if n.fLeaf = true then 108 else 98) :: varB n.fKeys.length
theorem entB_zero {n : GNode} : headB n ++ entB n 0 = headB n := by unfold entB; split <;> simp
theorem entB_all {n : GNode} (hn : nodeOk n) {k : Nat} (hk : n.fKeys.length ≤ k) : headB n ++ entB n k = nodeBytes n := by
  unfold entB nodeBytes headB
  split
  · rw [List.take_of_length_le (by simp; omega)]; rfl
  · rw [List.take_of_length_le (by simp; omega)]; rfl
theorem entB_leaf {n : GNode} (hl : n.fLeaf = true) {i : Nat} {p q : List UInt8} (hp : n.fKeys[i]? = some p) (hq : n.fVals[i]? = some q) : entB n (i + 1) = entB n i ++ (shortB p ++ shortB q) := by
  unfold entB; rw [if_pos hl, if_pos hl, take_snoc (zip_at hp hq)]; simp [lent]
theorem entB_branch {n : GNode} (hl : n.fLeaf = false) {i : Nat} {p : List UInt8} {q : Int} (hp : n.fKeys[i]? = some p) (hq : n.fKids[i]? = some q) : entB n (i + 1) = entB n i ++ (shortB p ++ varB q.toNat) := by
  unfold entB; rw [if_neg (by simp [hl]), if_neg (by simp [hl]), take_snoc (zip_at hp hq)]; simp [bent]
theorem flatMap_take {α : Type} {l : List α} {f : α → List UInt8} {i m : Nat} (h : i ≤ m) : ((l.take i).flatMap f).length ≤ ((l.take m).flatMap f).length := by
  have e : l.take m = l.take i ++ (l.take m).drop i := by
    conv => lhs; rw [← List.take_append_drop i (l.take m)]
    rw [List.take_take, Nat.min_eq_left h]
  rw [e, List.flatMap_append, List.length_append]; omega
theorem entB_len {n : GNode} (hn : nodeOk n) {i : Nat} : (headB n ++ entB n i).length ≤ 202 := by
  have h1 := nodeBytes_len hn
  have h2 := entB_all hn (Nat.le_refl _)
  by_cases hi : n.fKeys.length ≤ i
  · rw [entB_all hn hi]; exact h1
  · rw [← h2] at h1
    refine Nat.le_trans ?_ h1
    simp only [List.length_append]
    refine Nat.add_le_add_left ?_ _
    unfold entB
    split
    · exact flatMap_take (by omega)
    · exact flatMap_take (by omega)

@[go_sem] def hr85 : Hints
  | 0 => [0] | 1 => [1] | 2 => [1, 3] | 3 => [1] | 4 => [1, 3] | 5 => [1, 3] | 6 => [1, 3, 4] | 7 => [1, 3, 4] | 8 => [1, 3, 4] | 9 => [1, 3, 4] | 10 => [1, 3, 4] | 11 => [1, 3, 4] | 12 => [3] | _ => []
@[go_sem] def hl85 : Hints
  | 6 => [1, 3, 4] | _ => []
attribute [go_sem] Go.Proofs.Try.results85
set_option maxRecDepth 100000 in
set_option maxHeartbeats 2000000 in
theorem cs_Bytes (n : GNode) (hn : nodeOk n) : CallOK Go.Proofs.Try.prog 85 [.d (.agg n.cells)] [] [.dead] (.d (.str (nodeBytes n))) [] := by
  refine call_of tysZOK mixedZ Go.Proofs.Try.func85 (by kernel_rfl) rfl (np := [false]) (by kernel_rfl) hr85 hl85 (by simp [Go.Proofs.Try.ntmps85]) ?_
  have hk : n.fKeys.length ≤ 4 := hn.2.1
  have hv1 := varB_len1 (n := n.fKeys.length) (by omega)
  have hkl := hn.2.2.2.1
  simp -implicitDefEqProofs (maxSteps := 3000000) only [go_sem, reduceCtorEq, GNode.cells]
  cases hl : n.fLeaf
  · have hiff := (nodeOk_branch hl).1 hn
    simp -implicitDefEqProofs (maxSteps := 3000000) only [go_sem, reduceCtorEq]
    repeat ((first | refine req (by first | omega | assumption | exact commP_of (by kernel_rfl) | (simp only [LEN, List.length_append, List.length_cons, List.length_nil]; omega) | (simp [D.one]; omega) | (simp [D.one]; done)) ?_ | refine ks_varText n.fKeys.length (by omega) rfl ?_); simp -implicitDefEqProofs (maxSteps := 3000000) only [go_sem, reduceCtorEq])
    have hh : headB n = 98 :: varB n.fKeys.length := by simp [headB, hl]
    refine loop_data (α := Nat) (fun i => ⟨[(1, .ref 0 0), (3, .d (.str (headB n ++ entB n i))), (4, .d (.int .i64 i))], [(0, some (.box [.d (.bool false), .d (.sl (strs n.fKeys)), .d (.sl (strs n.fVals)), .d (.sl (ints n.fKids))]))]⟩)
      (fun i => i ≤ n.fKeys.length) (fun i => n.fKeys.length - i) 0 (by rw [entB_zero, hh]; rfl) (Nat.zero_le _) ?_
    rintro i i1
    have hb := entB_len hn (i := i)
    simp only [List.length_append] at hb
    simp -implicitDefEqProofs (maxSteps := 3000000) only [go_sem, reduceCtorEq]
    (first | (refine way_dec (fun h5 => ?_) (fun h5 => ?_)) | (refine way_ndec (fun h5 => ?_) (fun h5 => ?_)) | (refine wayT_dec (fun h5 => ?_) (fun h5 => ?_)) | (refine wayF_dec (fun h5 => ?_) (fun h5 => ?_)) | (refine wayT_ndec (fun h5 => ?_) (fun h5 => ?_)) | (refine wayF_ndec (fun h5 => ?_) (fun h5 => ?_)) | (refine way_not (fun h5 => ?_) (fun h5 => ?_)) | (refine way (fun h5 => ?_) (fun h5 => ?_)) | (refine wayT (fun h5 => ?_) (fun h5 => ?_)) | (refine wayF (fun h5 => ?_) (fun h5 => ?_)))
    · obtain ⟨p, hp⟩ := some_at h5
      obtain ⟨q, hq⟩ := some_at (l := n.fKids) (i := i) (by omega)
      have hpl := hkl p (List.mem_of_getElem? hp)
      have hql := hiff.2.2.2.2.2.1 q (List.mem_of_getElem? hq)
      have hs := shortB_len hpl
      have hb2 := entB_len hn (i := i + 1)
      rw [entB_branch hl hp hq, ← List.append_assoc, ← List.append_assoc, List.length_append, List.length_append, List.length_append] at hb2
      obtain ⟨q, rfl⟩ := Int.eq_ofNat_of_zero_le (show 0 ≤ q by omega)
      rw [Int.toNat_natCast] at hb2
      simp -implicitDefEqProofs (maxSteps := 3000000) only [go_sem, reduceCtorEq, lget_strs hp, lget_ints hq]
      repeat ((first | refine req (by first | omega | assumption | exact commP_of (by kernel_rfl) | (simp only [LEN, List.length_append, List.length_cons, List.length_nil]; omega) | (simp [D.one]; omega) | (simp [D.one]; done)) ?_ | refine ks_Short p (by omega) rfl ?_ | refine ks_varText q (by omega) rfl ?_); simp -implicitDefEqProofs (maxSteps := 3000000) only [go_sem, reduceCtorEq, lget_strs hp, lget_ints hq])
      rw [wrap_succ (by simp only [LEN]; omega)]
      refine next_data (i + 1) ?_ (by omega) (by omega)
      rw [entB_branch hl hp hq]; simp
    · simp -implicitDefEqProofs (maxSteps := 3000000) only [go_sem, reduceCtorEq]
      rw [entB_all hn (by omega)]
  · have hiff := (nodeOk_leaf hl).1 hn
    simp -implicitDefEqProofs (maxSteps := 3000000) only [go_sem, reduceCtorEq]
    repeat ((first | refine req (by first | omega | assumption | exact commP_of (by kernel_rfl) | (simp only [LEN, List.length_append, List.length_cons, List.length_nil]; omega) | (simp [D.one]; omega) | (simp [D.one]; done)) ?_ | refine ks_varText n.fKeys.length (by omega) rfl ?_); simp -implicitDefEqProofs (maxSteps := 3000000) only [go_sem, reduceCtorEq])
    have hh : headB n = 108 :: varB n.fKeys.length := by simp [headB, hl]
    refine loop_data (α := Nat) (fun i => ⟨[(1, .ref 0 0), (3, .d (.str (headB n ++ entB n i))), (4, .d (.int .i64 i))], [(0, some (.box [.d (.bool true), .d (.sl (strs n.fKeys)), .d (.sl (strs n.fVals)), .d (.sl (ints n.fKids))]))]⟩)
      (fun i => i ≤ n.fKeys.length) (fun i => n.fKeys.length - i) 0 (by rw [entB_zero, hh]; rfl) (Nat.zero_le _) ?_
    rintro i i1
    have hb := entB_len hn (i := i)
    simp only [List.length_append] at hb
    simp -implicitDefEqProofs (maxSteps := 3000000) only [go_sem, reduceCtorEq]
    (first | (refine way_dec (fun h5 => ?_) (fun h5 => ?_)) | (refine way_ndec (fun h5 => ?_) (fun h5 => ?_)) | (refine wayT_dec (fun h5 => ?_) (fun h5 => ?_)) | (refine wayF_dec (fun h5 => ?_) (fun h5 => ?_)) | (refine wayT_ndec (fun h5 => ?_) (fun h5 => ?_)) | (refine wayF_ndec (fun h5 => ?_) (fun h5 => ?_)) | (refine way_not (fun h5 => ?_) (fun h5 => ?_)) | (refine way (fun h5 => ?_) (fun h5 => ?_)) | (refine wayT (fun h5 => ?_) (fun h5 => ?_)) | (refine wayF (fun h5 => ?_) (fun h5 => ?_)))
    · obtain ⟨p, hp⟩ := some_at h5
      obtain ⟨q, hq⟩ := some_at (l := n.fVals) (i := i) (by omega)
      have hpl := hkl p (List.mem_of_getElem? hp)
      have hql := hiff.2.2.2.2.1 q (List.mem_of_getElem? hq)
      have hs := shortB_len hpl
      have hb2 := entB_len hn (i := i + 1)
      rw [entB_leaf hl hp hq, ← List.append_assoc, ← List.append_assoc, List.length_append, List.length_append, List.length_append] at hb2
      simp -implicitDefEqProofs (maxSteps := 3000000) only [go_sem, reduceCtorEq, lget_strs hp, lget_strs hq]
      repeat ((first | refine req (by first | omega | assumption | exact commP_of (by kernel_rfl) | (simp only [LEN, List.length_append, List.length_cons, List.length_nil]; omega) | (simp [D.one]; omega) | (simp [D.one]; done)) ?_ | refine ks_Short p (by omega) rfl ?_ | refine ks_Short q (by omega) rfl ?_); simp -implicitDefEqProofs (maxSteps := 3000000) only [go_sem, reduceCtorEq, lget_strs hp, lget_strs hq])
      rw [wrap_succ (by simp only [LEN]; omega)]
      refine next_data (i + 1) ?_ (by omega) (by omega)
      rw [entB_leaf hl hp hq]; simp
    · simp -implicitDefEqProofs (maxSteps := 3000000) only [go_sem, reduceCtorEq]
      rw [entB_all hn (by omega)]
theorem ks_Bytes {h : Heap} {tb : Nat} {K : OK} {args : List V} {ls : List Nat} (n : GNode) (hn : nodeOk n) (hg : toDs h args = some ([.agg n.cells], ls))
    (hk : K (renV (bk tb ([])) (.d (.str (nodeBytes n)))) (updN tb ([]) ([]))) : callVC Go.Proofs.Try.prog h tb 85 args K :=
  call_free hg (cs_Bytes n hn) rfl (.inr ⟨flat_of rfl, flatHB_of rfl⟩) hk

def textV (n : GNode) : V := .tup [.d (.str (if nodeOk n then nodeText n else [])), .d (.bool (decide (nodeOk n)))]
@[go_sem] def hr58 : Hints
  | 0 => [0] | 1 => [1] | 2 => [] | 3 => [1] | _ => []
@[go_sem] def hl58 : Hints := fun _ => []
attribute [go_sem] Go.Proofs.Try.results58
set_option maxRecDepth 100000 in
set_option maxHeartbeats 2000000 in
theorem cs_NodeText (n : GNode) (h1 : n.fKeys.length ≤ LEN) (h2 : n.fVals.length ≤ LEN) (h3 : n.fKids.length ≤ LEN) : CallOK Go.Proofs.Try.prog 58 [.d (.agg n.cells)] [] [.dead] (textV n) [] := by
  refine call_of tysZOK mixedZ Go.Proofs.Try.func58 (by kernel_rfl) rfl (np := [false]) (by kernel_rfl) hr58 hl58 (by simp [Go.Proofs.Try.ntmps58]) ?_
  simp -implicitDefEqProofs (maxSteps := 3000000) only [go_sem, reduceCtorEq, GNode.cells]
  refine ks_NodeOk n h1 h2 h3 rfl ?_
  simp -implicitDefEqProofs (maxSteps := 3000000) only [go_sem, reduceCtorEq]
  (first | (refine way_dec (fun h5 => ?_) (fun h5 => ?_)) | (refine way_ndec (fun h5 => ?_) (fun h5 => ?_)) | (refine wayT_dec (fun h5 => ?_) (fun h5 => ?_)) | (refine wayF_dec (fun h5 => ?_) (fun h5 => ?_)) | (refine wayT_ndec (fun h5 => ?_) (fun h5 => ?_)) | (refine wayF_ndec (fun h5 => ?_) (fun h5 => ?_)) | (refine way_not (fun h5 => ?_) (fun h5 => ?_)) | (refine way (fun h5 => ?_) (fun h5 => ?_)) | (refine wayT (fun h5 => ?_) (fun h5 => ?_)) | (refine wayF (fun h5 => ?_) (fun h5 => ?_)))
  · simp -implicitDefEqProofs (maxSteps := 3000000) only [go_sem, reduceCtorEq]
    rw [textV, if_neg h5, decide_eq_false h5]
  · have hb := nodeBytes_len h5
    simp -implicitDefEqProofs (maxSteps := 3000000) only [go_sem, reduceCtorEq]
    refine ks_Bytes n h5 rfl ?_
    simp -implicitDefEqProofs (maxSteps := 3000000) only [go_sem, reduceCtorEq]
    refine ks_Sealed (nodeBytes n) (by omega) rfl ?_
    simp -implicitDefEqProofs (maxSteps := 3000000) only [go_sem, reduceCtorEq]
    rw [textV, if_pos h5, decide_eq_true h5]; rfl
theorem ks_NodeText {h : Heap} {tb : Nat} {K : OK} {args : List V} {ls : List Nat} (n : GNode) (h1 : n.fKeys.length ≤ LEN) (h2 : n.fVals.length ≤ LEN) (h3 : n.fKids.length ≤ LEN) (hg : toDs h args = some ([.agg n.cells], ls))
    (hk : K (renV (bk tb ([])) (textV n)) (updN tb ([]) ([]))) : callVC Go.Proofs.Try.prog h tb 58 args K :=
  call_free hg (cs_NodeText n h1 h2 h3) rfl (.inr ⟨flat_of rfl, flatHB_of rfl⟩) hk
end Go.Rx

namespace Go.Rx
open Go
attribute [local irreducible] Req Way WayG Sel callVC CallOK
set_option linter.unusedSimpArgs false
set_option linter.unusedVariables false

@[go_sem] def hr134 : Hints
  | 0 => [0] | 1 => [0] | 2 => [0, 3, 4, 5] | 3 => [0] | 4 => [0] | 5 => [0, 3, 4] | 6 => [0, 3] | _ => []
@[go_sem] def hl134 : Hints := fun _ => []
attribute [go_sem] Go.Proofs.Try.results134
set_option maxRecDepth 100000 in
set_option maxHeartbeats 2000000 in
theorem cs_num (t : List UInt8) (r : Nat × Bool) (ht : t.length ≤ 4611686018427387904) : CallOK Go.Proofs.Try.prog 134 [.ref 0 0] [(0, .box [.d (.str t), .d (.int .i64 r.1), .d (.bool r.2)])] [.ref 0 0] (.d (.int .i64 (rdV t 1000000000 r).1)) [(0, .box [.d (.str t), .d (.int .i64 (rdV t 1000000000 r).2.1), .d (.bool (rdV t 1000000000 r).2.2)])] := by
  refine call_of tysZOK mixedZ Go.Proofs.Try.func134 (by kernel_rfl) rfl (np := [true]) (by kernel_rfl) hr134 hl134 (by simp [Go.Proofs.Try.ntmps134]) ?_
  simp -implicitDefEqProofs (maxSteps := 3000000) only [go_sem, reduceCtorEq]
  refine ks_ReadVar t r.1 ht rfl ⟨flat_rvV, flatH_nil⟩ ?_
  rw [rdV]
  obtain ⟨a, b⟩ := r
  cases hv : readVar t (a : Int) with
  | none =>
    simp only [rvV]
    simp -implicitDefEqProofs (maxSteps := 3000000) only [go_sem, reduceCtorEq]
    repeat ((first | refine req (by first | omega | assumption | exact commP_of (by kernel_rfl) | (simp only [LEN, List.length_append, List.length_cons, List.length_nil]; omega) | (simp [D.one]; omega) | (simp [D.one]; done)) ?_); simp -implicitDefEqProofs (maxSteps := 3000000) only [go_sem, reduceCtorEq])
    cases b
    · simp -implicitDefEqProofs (maxSteps := 3000000) only [go_sem, reduceCtorEq]
      rfl
    · simp -implicitDefEqProofs (maxSteps := 3000000) only [go_sem, reduceCtorEq]
      rfl
  | some p =>
    obtain ⟨n, c⟩ := p
    have hb := (readVar_lt hv).1
    simp only [rvV]
    simp -implicitDefEqProofs (maxSteps := 3000000) only [go_sem, reduceCtorEq]
    repeat ((first | refine req (by first | omega | assumption | exact commP_of (by kernel_rfl) | (simp only [LEN, List.length_append, List.length_cons, List.length_nil]; omega) | (simp [D.one]; omega) | (simp [D.one]; done)) ?_); simp -implicitDefEqProofs (maxSteps := 3000000) only [go_sem, reduceCtorEq])
    cases b
    · simp -implicitDefEqProofs (maxSteps := 3000000) only [go_sem, reduceCtorEq]
      rw [if_neg (fun h => h.elim (fun h => by cases h) (by omega))]
    · simp -implicitDefEqProofs (maxSteps := 3000000) only [go_sem, reduceCtorEq]
      simp
theorem ks_num {h : Heap} {tb : Nat} {K : OK} {n0 : Nat} {rest : List V} {ls : List Nat} (t : List UInt8) (r : Nat × Bool) (ht : t.length ≤ 4611686018427387904) (hn : h n0 = some (.box [.d (.str t), .d (.int .i64 r.1), .d (.bool r.2)])) (hro : refO h n0 = [n0]) (hr : toDs h rest = some ([], ls)) (hnl : (ls : List Nat).contains n0 = false)
    (hk : K (renV (bx n0 tb [(0, .box [.d (.str t), .d (.int .i64 (rdV t 1000000000 r).2.1), .d (.bool (rdV t 1000000000 r).2.2)])]) (.d (.int .i64 (rdV t 1000000000 r).1))) ((bif false then (ls : List Nat).map (·, none) else []) ++ (n0, none) :: updX n0 tb [(0, .box [.d (.str t), .d (.int .i64 (rdV t 1000000000 r).2.1), .d (.bool (rdV t 1000000000 r).2.2)])] [(0, .box [.d (.str t), .d (.int .i64 (rdV t 1000000000 r).2.1), .d (.bool (rdV t 1000000000 r).2.2)])])) : callVC Go.Proofs.Try.prog h tb 134 (.ref n0 0 :: rest) K :=
  call_box_ false hn hro rfl hr hnl (cs_num t r ht) rfl rfl (.inr (.inr ⟨flat_of rfl, flatHB_of rfl⟩)) hk
@[go_sem] def hr135 : Hints
  | 0 => [0] | 1 => [0] | 2 => [0, 3, 4, 5] | 3 => [0] | 4 => [0] | 5 => [0, 3, 4] | 6 => [0, 3] | _ => []
@[go_sem] def hl135 : Hints := fun _ => []
attribute [go_sem] Go.Proofs.Try.results135
set_option maxRecDepth 100000 in
set_option maxHeartbeats 2000000 in
theorem cs_text (t : List UInt8) (r : Nat × Bool) (ht : t.length ≤ 4611686018427387904) : CallOK Go.Proofs.Try.prog 135 [.ref 0 0] [(0, .box [.d (.str t), .d (.int .i64 r.1), .d (.bool r.2)])] [.ref 0 0] (.d (.str (rdT t r).1)) [(0, .box [.d (.str t), .d (.int .i64 (rdT t r).2.1), .d (.bool (rdT t r).2.2)])] := by
  refine call_of tysZOK mixedZ Go.Proofs.Try.func135 (by kernel_rfl) rfl (np := [true]) (by kernel_rfl) hr135 hl135 (by simp [Go.Proofs.Try.ntmps135]) ?_
  simp -implicitDefEqProofs (maxSteps := 3000000) only [go_sem, reduceCtorEq]
  refine ks_ReadShort t r.1 ht rfl ⟨flat_rsV, flatH_nil⟩ ?_
  rw [rdT]
  obtain ⟨a, b⟩ := r
  cases hv : readShort t (a : Int) with
  | none =>
    simp only [rsV]
    simp -implicitDefEqProofs (maxSteps := 3000000) only [go_sem, reduceCtorEq]
    repeat ((first | refine req (by first | omega | assumption | exact commP_of (by kernel_rfl) | (simp only [LEN, List.length_append, List.length_cons, List.length_nil]; omega) | (simp [D.one]; omega) | (simp [D.one]; done)) ?_); simp -implicitDefEqProofs (maxSteps := 3000000) only [go_sem, reduceCtorEq])
    cases b
    · simp -implicitDefEqProofs (maxSteps := 3000000) only [go_sem, reduceCtorEq]
    · simp -implicitDefEqProofs (maxSteps := 3000000) only [go_sem, reduceCtorEq]
  | some p =>
    obtain ⟨n, c⟩ := p
    simp only [rsV]
    simp -implicitDefEqProofs (maxSteps := 3000000) only [go_sem, reduceCtorEq]
    repeat ((first | refine req (by first | omega | assumption | exact commP_of (by kernel_rfl) | (simp only [LEN, List.length_append, List.length_cons, List.length_nil]; omega) | (simp [D.one]; omega) | (simp [D.one]; done)) ?_); simp -implicitDefEqProofs (maxSteps := 3000000) only [go_sem, reduceCtorEq])
    cases b
    · simp -implicitDefEqProofs (maxSteps := 3000000) only [go_sem, reduceCtorEq]
      simp
    · simp -implicitDefEqProofs (maxSteps := 3000000) only [go_sem, reduceCtorEq]
      simp
theorem ks_text {h : Heap} {tb : Nat} {K : OK} {n0 : Nat} {rest : List V} {ls : List Nat} (t : List UInt8) (r : Nat × Bool) (ht : t.length ≤ 4611686018427387904) (hn : h n0 = some (.box [.d (.str t), .d (.int .i64 r.1), .d (.bool r.2)])) (hro : refO h n0 = [n0]) (hr : toDs h rest = some ([], ls)) (hnl : (ls : List Nat).contains n0 = false)
    (hk : K (renV (bx n0 tb [(0, .box [.d (.str t), .d (.int .i64 (rdT t r).2.1), .d (.bool (rdT t r).2.2)])]) (.d (.str (rdT t r).1))) ((bif false then (ls : List Nat).map (·, none) else []) ++ (n0, none) :: updX n0 tb [(0, .box [.d (.str t), .d (.int .i64 (rdT t r).2.1), .d (.bool (rdT t r).2.2)])] [(0, .box [.d (.str t), .d (.int .i64 (rdT t r).2.1), .d (.bool (rdT t r).2.2)])])) : callVC Go.Proofs.Try.prog h tb 135 (.ref n0 0 :: rest) K :=
  call_box_ false hn hro rfl hr hnl (cs_text t r ht) rfl rfl (.inr (.inr ⟨flat_of rfl, flatHB_of rfl⟩)) hk

@[go_sem] def hr121 : Hints
  | 0 => [0] | 1 => [0, 2] | 2 => [0, 2, 4, 5] | 3 => [2] | 4 => [0, 2, 4] | 5 => [0, 2, 4, 6] | 6 => [0, 2, 6, 7] | 7 => [0, 2, 6, 7, 8] | 8 => [0, 2, 6, 7, 8, 9] | 9 => [0, 2, 6, 7, 8, 9] | 10 => [0, 2, 6, 7, 8, 9] | 11 => [0, 2, 6, 7, 8, 9] | 12 => [0, 2, 6, 7, 8, 9] | 13 => [0, 2, 6, 7, 8, 9] | 14 => [0, 2, 6, 7] | 15 => [0, 2, 6, 7, 10, 11] | 16 => [2] | 17 => [2, 7] | _ => []
@[go_sem] def hl121 : Hints
  | 8 => [0, 2, 6, 7, 8, 9] | _ => []
attribute [go_sem] Go.Proofs.Try.results121
set_option maxRecDepth 100000 in
set_option maxHeartbeats 2000000 in
theorem cs_ReadNode (t : List UInt8) (ht : t.length ≤ 4611686018427387904) : CallOK Go.Proofs.Try.prog 121 [.d (.str t)] [] [.dead] (nodeV (readNode t)) [] := by
  refine call_fr tysZOK mixedZ Go.Proofs.Try.func121 (by kernel_rfl) rfl (by kernel_rfl) hr121 hl121 (by simp [Go.Proofs.Try.ntmps121]) rfl ?_
  simp -implicitDefEqProofs (maxSteps := 3000000) only [go_sem, reduceCtorEq]
  refine ks_Unsealed t ht rfl ⟨flat_unV, flatH_nil⟩ ?_
  cases hu : unsealB t with
  | none =>
    rw [readNode_none hu]
    simp only [unV]
    simp -implicitDefEqProofs (maxSteps := 3000000) only [go_sem, reduceCtorEq]
    rfl
  | some s =>
    have hs : s.length ≤ 20000 := (unseal_iff.1 hu).1
    simp only [unV]
    by_cases hs2 : (s.length : Int) < 2
    · have d2 := decide_eq_true hs2
      rw [readNode_short hu (by omega)]
      simp -implicitDefEqProofs (maxSteps := 3000000) only [go_sem, reduceCtorEq, d2]
      rfl
    · have d2 := decide_eq_false hs2
      match s, hu, hs, hs2, d2 with
      | [], _, _, h, _ => simp at h
      | c :: b, hu, hs, hs2, d2' =>
        have d2 : decide (((b.length + 1 : Nat) : Int) < 2) = false := d2'
        have hg : (c :: b).getD 0 0 = c := rfl
        have hr0 : (decide (((c.toNat : Nat) : Int) = 108)) = decide (c = 108) := decide_eq_decide.2 ⟨fun h => u8_eq.1 ((show c.toNat = 108 by omega).trans rfl), fun h => by subst h; rfl⟩
        rw [loose_eq hu]
        have hst : (1 : Nat) ≤ (c :: b).length := by simp
        have hle1 := rdV_le (t := c :: b) (m := 1000000000) (r := (1, false)) hst
        by_cases hc : c = 108
        · have dc := decide_eq_true hc
          rw [loose_leaf hc]
          simp -implicitDefEqProofs (maxSteps := 3000000) only [go_sem, reduceCtorEq, d2, hg, hr0, dc]
          repeat ((first | refine req (by first | omega | assumption | exact commP_of (by kernel_rfl) | (simp only [LEN, List.length_append, List.length_cons, List.length_nil]; omega) | (simp [D.one]; omega) | (simp [D.one]; done)) ?_ | refine ks_num (c :: b) (1, false) (by omega) rfl rfl rfl rfl ?_); simp -implicitDefEqProofs (maxSteps := 3000000) only [go_sem, reduceCtorEq, d2, hg, hr0, dc])
          generalize hkr : rdV (c :: b) 1000000000 (1, false) = kr at hle1 ⊢
          obtain ⟨k, r1⟩ := kr
          simp only at hle1 ⊢
          refine loop_data (α := Nat × List (List UInt8 × List UInt8) × (Nat × Bool)) (fun x => ⟨[(0, .d (.str t)), (2, .ref 0 0), (6, .ref 4 0), (7, .ref 5 0), (8, .d (.int .i64 k)), (9, .d (.int .i64 x.1))],
              [(0, some (.box [.d (.bool false), .own 1 0 0, .own 2 0 0, .own 3 0 0])), (1, some (.arr 1 [])), (2, some (.arr 1 [])), (3, some (.arr 1 [])),
               (4, some (.box [.d (.str (c :: b)), .d (.int .i64 x.2.2.1), .d (.bool x.2.2.2)])),
               (5, some (.box [.d (.bool true), .own 6 0 (x.2.1.map (·.1)).length, .own 7 0 (x.2.1.map (·.2)).length, .own 8 0 0])), (6, some (.arr 1 (strs (x.2.1.map (·.1))))), (7, some (.arr 1 (strs (x.2.1.map (·.2))))), (8, some (.arr 1 []))]⟩)
            (fun x => x.1 ≤ min k 10 ∧ x.2 = rdLs (c :: b) x.1 r1) (fun x => 10 - x.1) (0, [], r1) rfl ⟨Nat.zero_le _, rfl⟩ ?_
          rintro ⟨i, es, r⟩ ⟨i1, i2⟩
          simp only at i1 i2
          have hlen : es.length = i := by have := rdLs_len (t := c :: b) (k := i) (r := r1); rw [← i2] at this; exact this
          have hbig : r.2 = true → (rdLs (c :: b) (min k 10) r1).2.2 = true := fun h => sfx_none.1 (rdLs_badle hle1 i1 (sfx_none.2 ((congrArg (fun q => q.2.2) i2).symm.trans h)))
          by_cases g1 : (i : Int) < k
          · have d3 := decide_eq_true g1
            by_cases g2 : (i : Int) < 10
            · have d4 := decide_eq_true g2
              cases g3 : r.2
              · simp -implicitDefEqProofs (maxSteps := 3000000) only [go_sem, reduceCtorEq, d3, d4, g3]
                obtain ⟨ra, rb⟩ := r
                simp only at g3
                subst g3
                repeat ((first | refine req (by first | omega | assumption | exact commP_of (by kernel_rfl) | (simp only [LEN, List.length_append, List.length_cons, List.length_nil]; omega) | (simp [D.one]; omega) | (simp [D.one]; done)) ?_ | refine ks_text (c :: b) (ra, false) (by omega) rfl rfl rfl rfl ?_ | refine ks_text (c :: b) (rdT (c :: b) (ra, false)).2 (by omega) rfl rfl rfl rfl ?_); simp -implicitDefEqProofs (maxSteps := 3000000) only [go_sem, reduceCtorEq, d3, d4])
                refine next_data (i + 1, es ++ [(rdL (c :: b) (ra, false)).1], (rdL (c :: b) (ra, false)).2) ?_ ⟨?_, ?_⟩ ?_
                · rw [wrap_succ (by simp only [LEN]; omega)]
                  simp [rdL]
                · simp only; omega
                · simp only; rw [rdLs_snoc, ← i2]
                · simp only; omega
              · have hend : i = min k 10 ∨ r.2 = true := .inr g3
                simp -implicitDefEqProofs (maxSteps := 3000000) only [go_sem, reduceCtorEq, d3, d4, g3]
                refine ks_NodeText (leafOf es) (by simp [leafOf, LEN]; omega) (by simp [leafOf, LEN]; omega) (by simp [leafOf, LEN]) (ls := [6, 7, 8]) (by simp -implicitDefEqProofs (maxSteps := 3000000) only [go_sem, reduceCtorEq]; try rfl) ?_
                simp only [textV]
                simp -implicitDefEqProofs (maxSteps := 3000000) only [go_sem, reduceCtorEq, g3]
                rw [if_pos (hbig g3)]
                rfl
            · have d4 := decide_eq_false g2
              have hend : i = min k 10 ∨ r.2 = true := .inl (by omega)
              simp -implicitDefEqProofs (maxSteps := 3000000) only [go_sem, reduceCtorEq, d3, d4]
              refine ks_NodeText (leafOf es) (by simp [leafOf, LEN]; omega) (by simp [leafOf, LEN]; omega) (by simp [leafOf, LEN]) (ls := [6, 7, 8]) (by simp -implicitDefEqProofs (maxSteps := 3000000) only [go_sem, reduceCtorEq]; try rfl) ?_
              simp only [textV]
              simp -implicitDefEqProofs (maxSteps := 3000000) only [go_sem, reduceCtorEq]
              cases hb : r.2
              · have hfin := hend.resolve_right (by rw [hb]; simp)
                rw [← hfin, ← i2, if_neg (c := r.2 = true) (by simp [hb])]
                by_cases hn : nodeOk (leafOf es)
                · have dn := decide_eq_true hn
                  rw [if_pos hn]
                  by_cases ht' : nodeText (leafOf es) = t
                  · have dt := decide_eq_true ht'
                    simp -implicitDefEqProofs (maxSteps := 3000000) only [go_sem, reduceCtorEq, dn, dt]
                    try simp only
                    rw [if_pos ⟨hn, ht'⟩]; rfl
                  · have dt := decide_eq_false ht'
                    simp -implicitDefEqProofs (maxSteps := 3000000) only [go_sem, reduceCtorEq, dn, dt]
                    try simp only
                    rw [if_neg (fun h => ht' h.2)]; rfl
                · have dn := decide_eq_false hn
                  simp -implicitDefEqProofs (maxSteps := 3000000) only [go_sem, reduceCtorEq, dn]
                  try simp only
                  rw [if_neg (fun h => hn h.1)]; rfl
              · rw [if_pos (hbig hb)]
                simp -implicitDefEqProofs (maxSteps := 3000000) only [go_sem, reduceCtorEq]
                rfl
          · have d3 := decide_eq_false g1
            have hend : i = min k 10 ∨ r.2 = true := .inl (by omega)
            simp -implicitDefEqProofs (maxSteps := 3000000) only [go_sem, reduceCtorEq, d3]
            refine ks_NodeText (leafOf es) (by simp [leafOf, LEN]; omega) (by simp [leafOf, LEN]; omega) (by simp [leafOf, LEN]) (ls := [6, 7, 8]) (by simp -implicitDefEqProofs (maxSteps := 3000000) only [go_sem, reduceCtorEq]; try rfl) ?_
            simp only [textV]
            simp -implicitDefEqProofs (maxSteps := 3000000) only [go_sem, reduceCtorEq]
            cases hb : r.2
            · have hfin := hend.resolve_right (by rw [hb]; simp)
              rw [← hfin, ← i2, if_neg (c := r.2 = true) (by simp [hb])]
              by_cases hn : nodeOk (leafOf es)
              · have dn := decide_eq_true hn
                rw [if_pos hn]
                by_cases ht' : nodeText (leafOf es) = t
                · have dt := decide_eq_true ht'
                  simp -implicitDefEqProofs (maxSteps := 3000000) only [go_sem, reduceCtorEq, dn, dt]
                  try simp only
                  rw [if_pos ⟨hn, ht'⟩]; rfl
                · have dt := decide_eq_false ht'
                  simp -implicitDefEqProofs (maxSteps := 3000000) only [go_sem, reduceCtorEq, dn, dt]
                  try simp only
                  rw [if_neg (fun h => ht' h.2)]; rfl
              · have dn := decide_eq_false hn
                simp -implicitDefEqProofs (maxSteps := 3000000) only [go_sem, reduceCtorEq, dn]
                try simp only
                rw [if_neg (fun h => hn h.1)]; rfl
            · rw [if_pos (hbig hb)]
              simp -implicitDefEqProofs (maxSteps := 3000000) only [go_sem, reduceCtorEq]
              rfl
        · have dc := decide_eq_false hc
          rw [loose_branch hc]
          simp -implicitDefEqProofs (maxSteps := 3000000) only [go_sem, reduceCtorEq, d2, hg, hr0, dc]
          repeat ((first | refine req (by first | omega | assumption | exact commP_of (by kernel_rfl) | (simp only [LEN, List.length_append, List.length_cons, List.length_nil]; omega) | (simp [D.one]; omega) | (simp [D.one]; done)) ?_ | refine ks_num (c :: b) (1, false) (by omega) rfl rfl rfl rfl ?_); simp -implicitDefEqProofs (maxSteps := 3000000) only [go_sem, reduceCtorEq, d2, hg, hr0, dc])
          generalize hkr : rdV (c :: b) 1000000000 (1, false) = kr at hle1 ⊢
          obtain ⟨k, r1⟩ := kr
          simp only at hle1 ⊢
          refine loop_data (α := Nat × List (List UInt8 × Int) × (Nat × Bool)) (fun x => ⟨[(0, .d (.str t)), (2, .ref 0 0), (6, .ref 4 0), (7, .ref 5 0), (8, .d (.int .i64 k)), (9, .d (.int .i64 x.1))],
              [(0, some (.box [.d (.bool false), .own 1 0 0, .own 2 0 0, .own 3 0 0])), (1, some (.arr 1 [])), (2, some (.arr 1 [])), (3, some (.arr 1 [])),
               (4, some (.box [.d (.str (c :: b)), .d (.int .i64 x.2.2.1), .d (.bool x.2.2.2)])),
               (5, some (.box [.d (.bool false), .own 6 0 (x.2.1.map (·.1)).length, .own 7 0 0, .own 8 0 (x.2.1.map (·.2)).length])), (6, some (.arr 1 (strs (x.2.1.map (·.1))))), (7, some (.arr 1 [])), (8, some (.arr 1 (ints (x.2.1.map (·.2)))))]⟩)
            (fun x => x.1 ≤ min k 10 ∧ x.2 = rdBs (c :: b) 1000000000 x.1 r1) (fun x => 10 - x.1) (0, [], r1) rfl ⟨Nat.zero_le _, rfl⟩ ?_
          rintro ⟨i, es, r⟩ ⟨i1, i2⟩
          simp only at i1 i2
          have hlen : es.length = i := by have := rdBs_len (t := c :: b) (most := 1000000000) (k := i) (r := r1); rw [← i2] at this; exact this
          have hbig : r.2 = true → (rdBs (c :: b) 1000000000 (min k 10) r1).2.2 = true := fun h => sfx_none.1 (rdBs_badle (most := 1000000000) hle1 i1 (sfx_none.2 ((congrArg (fun q => q.2.2) i2).symm.trans h)))
          by_cases g1 : (i : Int) < k
          · have d3 := decide_eq_true g1
            by_cases g2 : (i : Int) < 10
            · have d4 := decide_eq_true g2
              cases g3 : r.2
              · simp -implicitDefEqProofs (maxSteps := 3000000) only [go_sem, reduceCtorEq, d3, d4, g3]
                obtain ⟨ra, rb⟩ := r
                simp only at g3
                subst g3
                repeat ((first | refine req (by first | omega | assumption | exact commP_of (by kernel_rfl) | (simp only [LEN, List.length_append, List.length_cons, List.length_nil]; omega) | (simp [D.one]; omega) | (simp [D.one]; done)) ?_ | refine ks_text (c :: b) (ra, false) (by omega) rfl rfl rfl rfl ?_ | refine ks_num (c :: b) (rdT (c :: b) (ra, false)).2 (by omega) rfl rfl rfl rfl ?_); simp -implicitDefEqProofs (maxSteps := 3000000) only [go_sem, reduceCtorEq, d3, d4])
                refine next_data (i + 1, es ++ [(rdB (c :: b) 1000000000 (ra, false)).1], (rdB (c :: b) 1000000000 (ra, false)).2) ?_ ⟨?_, ?_⟩ ?_
                · rw [wrap_succ (by simp only [LEN]; omega)]
                  simp [rdB]
                · simp only; omega
                · simp only; rw [rdBs_snoc, ← i2]
                · simp only; omega
              · have hend : i = min k 10 ∨ r.2 = true := .inr g3
                simp -implicitDefEqProofs (maxSteps := 3000000) only [go_sem, reduceCtorEq, d3, d4, g3]
                refine ks_NodeText (branchOf es) (by simp [branchOf, LEN]; omega) (by simp [branchOf, LEN]) (by simp [branchOf, LEN]; omega) (ls := [6, 7, 8]) (by simp -implicitDefEqProofs (maxSteps := 3000000) only [go_sem, reduceCtorEq]; try rfl) ?_
                simp only [textV]
                simp -implicitDefEqProofs (maxSteps := 3000000) only [go_sem, reduceCtorEq, g3]
                rw [if_pos (hbig g3)]
                rfl
            · have d4 := decide_eq_false g2
              have hend : i = min k 10 ∨ r.2 = true := .inl (by omega)
              simp -implicitDefEqProofs (maxSteps := 3000000) only [go_sem, reduceCtorEq, d3, d4]
              refine ks_NodeText (branchOf es) (by simp [branchOf, LEN]; omega) (by simp [branchOf, LEN]) (by simp [branchOf, LEN]; omega) (ls := [6, 7, 8]) (by simp -implicitDefEqProofs (maxSteps := 3000000) only [go_sem, reduceCtorEq]; try rfl) ?_
              simp only [textV]
              simp -implicitDefEqProofs (maxSteps := 3000000) only [go_sem, reduceCtorEq]
              cases hb : r.2
              · have hfin := hend.resolve_right (by rw [hb]; simp)
                rw [← hfin, ← i2, if_neg (c := r.2 = true) (by simp [hb])]
                by_cases hn : nodeOk (branchOf es)
                · have dn := decide_eq_true hn
                  rw [if_pos hn]
                  by_cases ht' : nodeText (branchOf es) = t
                  · have dt := decide_eq_true ht'
                    simp -implicitDefEqProofs (maxSteps := 3000000) only [go_sem, reduceCtorEq, dn, dt]
                    try simp only
                    rw [if_pos ⟨hn, ht'⟩]; rfl
                  · have dt := decide_eq_false ht'
                    simp -implicitDefEqProofs (maxSteps := 3000000) only [go_sem, reduceCtorEq, dn, dt]
                    try simp only
                    rw [if_neg (fun h => ht' h.2)]; rfl
                · have dn := decide_eq_false hn
                  simp -implicitDefEqProofs (maxSteps := 3000000) only [go_sem, reduceCtorEq, dn]
                  try simp only
                  rw [if_neg (fun h => hn h.1)]; rfl
              · rw [if_pos (hbig hb)]
                simp -implicitDefEqProofs (maxSteps := 3000000) only [go_sem, reduceCtorEq]
                rfl
          · have d3 := decide_eq_false g1
            have hend : i = min k 10 ∨ r.2 = true := .inl (by omega)
            simp -implicitDefEqProofs (maxSteps := 3000000) only [go_sem, reduceCtorEq, d3]
            refine ks_NodeText (branchOf es) (by simp [branchOf, LEN]; omega) (by simp [branchOf, LEN]) (by simp [branchOf, LEN]; omega) (ls := [6, 7, 8]) (by simp -implicitDefEqProofs (maxSteps := 3000000) only [go_sem, reduceCtorEq]; try rfl) ?_
            simp only [textV]
            simp -implicitDefEqProofs (maxSteps := 3000000) only [go_sem, reduceCtorEq]
            cases hb : r.2
            · have hfin := hend.resolve_right (by rw [hb]; simp)
              rw [← hfin, ← i2, if_neg (c := r.2 = true) (by simp [hb])]
              by_cases hn : nodeOk (branchOf es)
              · have dn := decide_eq_true hn
                rw [if_pos hn]
                by_cases ht' : nodeText (branchOf es) = t
                · have dt := decide_eq_true ht'
                  simp -implicitDefEqProofs (maxSteps := 3000000) only [go_sem, reduceCtorEq, dn, dt]
                  try simp only
                  rw [if_pos ⟨hn, ht'⟩]; rfl
                · have dt := decide_eq_false ht'
                  simp -implicitDefEqProofs (maxSteps := 3000000) only [go_sem, reduceCtorEq, dn, dt]
                  try simp only
                  rw [if_neg (fun h => ht' h.2)]; rfl
              · have dn := decide_eq_false hn
                simp -implicitDefEqProofs (maxSteps := 3000000) only [go_sem, reduceCtorEq, dn]
                try simp only
                rw [if_neg (fun h => hn h.1)]; rfl
            · rw [if_pos (hbig hb)]
              simp -implicitDefEqProofs (maxSteps := 3000000) only [go_sem, reduceCtorEq]
              rfl
theorem ks_ReadNode {h : Heap} {tb : Nat} {K : OK} {args : List V} (t : List UInt8) (ht : t.length ≤ 4611686018427387904) (hg : toDs h args = some ([.str t], []))
    (hk : K (renV (bk tb ([])) (nodeV (readNode t))) (updN tb ([]) ([]))) : callVC Go.Proofs.Try.prog h tb 121 args K :=
  call_free hg (cs_ReadNode t ht) rfl (.inl rfl) hk
end Go.Rx

namespace Go.Rx
open Go
attribute [local irreducible] Req Way WayG Sel callVC CallOK
set_option linter.unusedSimpArgs false
set_option linter.unusedVariables false

theorem late_step {l : List GPut} {i : Nat} {q : GPut} {p : Int} (h : l[i]? = some q) : lateText (l.take (i + 1)) p = if q.fPage = p then some q.fText else lateText (l.take i) p := by
  rw [take_snoc h, lateText_snoc]

@[go_sem] def hr98 : Hints
  | 0 => [0, 1] | 1 => [1, 2] | _ => []
@[go_sem] def hl98 : Hints := fun _ => []
attribute [go_sem] Go.Proofs.Try.results98
set_option maxRecDepth 100000 in
set_option maxHeartbeats 2000000 in
theorem ci_isPage (d : GDisk) (p : Int) (h1 : d.fPages.length ≤ 4611686018427387904) : CallOK Go.Proofs.Try.prog 98 [.d (.agg d.cells), .d (.int .i64 p)] [] [.dead, .dead] (.d (.bool (decide (isPage d p)))) [] := by
  refine call_of tysZOK mixedZ Go.Proofs.Try.func98 (by kernel_rfl) rfl (np := [false, false]) (by kernel_rfl) hr98 hl98 (by simp [Go.Proofs.Try.ntmps98]) ?_
  have e1 : IntKind.i64.wrap ((d.fPages.length : Int) - 1) = (d.fPages.length : Int) - 1 := wrap_int (by omega) (by omega)
  simp -implicitDefEqProofs (maxSteps := 3000000) only [go_sem, reduceCtorEq, GDisk.cells, e1]
  refine ki_in p 0 ((d.fPages.length : Int) - 1) rfl ?_
  simp -implicitDefEqProofs (maxSteps := 3000000) only [go_sem, reduceCtorEq]
  rfl
theorem ki_isPage {h : Heap} {tb : Nat} {K : OK} {args : List V} {ls : List Nat} (d : GDisk) (p : Int) (h1 : d.fPages.length ≤ 4611686018427387904) (hg : toDs h args = some ([.agg d.cells, .int .i64 p], ls))
    (hk : K (renV (bk tb ([])) (.d (.bool (decide (isPage d p))))) (updN tb ([]) ([]))) : callVC Go.Proofs.Try.prog h tb 98 args K :=
  call_free hg (ci_isPage d p h1) rfl (.inr ⟨flat_of rfl, flatHB_of rfl⟩) hk
@[go_sem] def hr79 : Hints
  | 0 => [0, 1] | 1 => [1, 2] | 2 => [] | 3 => [1, 2] | 4 => [1, 2, 5] | 5 => [1, 2, 5] | 6 => [1, 2, 5] | 7 => [2, 5] | 8 => [1, 2] | _ => []
@[go_sem] def hl79 : Hints
  | 4 => [1, 2, 5] | _ => []
attribute [go_sem] Go.Proofs.Try.results79
set_option maxRecDepth 100000 in
set_option maxHeartbeats 2000000 in
theorem ci_ReadPage (d : GDisk) (p : Int) (h1 : d.fPages.length ≤ 4611686018427387904) (h2 : d.fLate.length ≤ 4611686018427387904) : CallOK Go.Proofs.Try.prog 79 [.d (.agg d.cells), .d (.int .i64 p)] [] [.dead, .dead] (.d (.str (readPage d p))) [] := by
  refine call_of tysZOK mixedZ Go.Proofs.Try.func79 (by kernel_rfl) rfl (np := [false, false]) (by kernel_rfl) hr79 hl79 (by simp [Go.Proofs.Try.ntmps79]) ?_
  have e1 : IntKind.i64.wrap ((d.fLate.length : Int) - 1) = (d.fLate.length : Int) - 1 := wrap_int (by omega) (by omega)
  simp -implicitDefEqProofs (maxSteps := 3000000) only [go_sem, reduceCtorEq, GDisk.cells]
  refine ki_isPage d p h1 rfl ?_
  by_cases hp : isPage d p
  · have dp := decide_eq_true hp
    have hp' := hp
    obtain ⟨hp1, hp2⟩ := hp'
    simp -implicitDefEqProofs (maxSteps := 3000000) only [go_sem, reduceCtorEq, dp, e1]
    refine loop_data (α := Int) (fun x => ⟨[(1, .d (.int .i64 p)), (2, .ref 0 0), (5, .d (.int .i64 x))], [(0, some (.box [.d (.sl (strs d.fPages)), .d (.sl (GPutS d.fLate))]))]⟩)
      (fun x => -1 ≤ x ∧ x < d.fLate.length ∧ lateText (d.fLate.take (x + 1).toNat) p = lateText d.fLate p) (fun x => (x + 1).toNat) ((d.fLate.length : Int) - 1) rfl ⟨by omega, by omega, ?_⟩ ?_
    · rw [List.take_of_length_le (by omega)]
    rintro x ⟨x1, x2, x3⟩
    simp -implicitDefEqProofs (maxSteps := 3000000) only [go_sem, reduceCtorEq]
    (first | (refine way_dec (fun h5 => ?_) (fun h5 => ?_)) | (refine way_ndec (fun h5 => ?_) (fun h5 => ?_)) | (refine wayT_dec (fun h5 => ?_) (fun h5 => ?_)) | (refine wayF_dec (fun h5 => ?_) (fun h5 => ?_)) | (refine wayT_ndec (fun h5 => ?_) (fun h5 => ?_)) | (refine wayF_ndec (fun h5 => ?_) (fun h5 => ?_)) | (refine way_not (fun h5 => ?_) (fun h5 => ?_)) | (refine way (fun h5 => ?_) (fun h5 => ?_)) | (refine wayT (fun h5 => ?_) (fun h5 => ?_)) | (refine wayF (fun h5 => ?_) (fun h5 => ?_)))
    · obtain ⟨i, rfl⟩ := Int.eq_ofNat_of_zero_le h5
      obtain ⟨q, hq⟩ := some_at (l := d.fLate) (i := i) (by omega)
      have e2 : ((i : Int) + 1).toNat = i + 1 := by omega
      rw [e2, late_step hq] at x3
      have e3 : IntKind.i64.wrap ((i : Int) - 1) = (i : Int) - 1 := wrap_int (by omega) (by omega)
      simp -implicitDefEqProofs (maxSteps := 3000000) only [go_sem, reduceCtorEq, lget_GPutS hq, e3]
      repeat ((first | refine req (by first | omega | assumption | exact commP_of (by kernel_rfl) | (simp only [LEN, List.length_append, List.length_cons, List.length_nil]; omega) | (simp [D.one]; omega) | (simp [D.one]; done)) ?_); simp -implicitDefEqProofs (maxSteps := 3000000) only [go_sem, reduceCtorEq, lget_GPutS hq, e3])
      (first | (refine way_dec (fun h6 => ?_) (fun h6 => ?_)) | (refine way_ndec (fun h6 => ?_) (fun h6 => ?_)) | (refine wayT_dec (fun h6 => ?_) (fun h6 => ?_)) | (refine wayF_dec (fun h6 => ?_) (fun h6 => ?_)) | (refine wayT_ndec (fun h6 => ?_) (fun h6 => ?_)) | (refine wayF_ndec (fun h6 => ?_) (fun h6 => ?_)) | (refine way_not (fun h6 => ?_) (fun h6 => ?_)) | (refine way (fun h6 => ?_) (fun h6 => ?_)) | (refine wayT (fun h6 => ?_) (fun h6 => ?_)) | (refine wayF (fun h6 => ?_) (fun h6 => ?_)))
      · simp -implicitDefEqProofs (maxSteps := 3000000) only [go_sem, reduceCtorEq, lget_GPutS hq]
        repeat ((first | refine req (by first | omega | assumption | exact commP_of (by kernel_rfl) | (simp only [LEN, List.length_append, List.length_cons, List.length_nil]; omega) | (simp [D.one]; omega) | (simp [D.one]; done)) ?_); simp -implicitDefEqProofs (maxSteps := 3000000) only [go_sem, reduceCtorEq, lget_GPutS hq])
        rw [if_pos h6] at x3
        rw [readPage, if_pos hp, ← x3]; rfl
      · simp -implicitDefEqProofs (maxSteps := 3000000) only [go_sem, reduceCtorEq]
        rw [if_neg h6] at x3
        refine next_data ((i : Int) - 1) (by rw [e3]) ⟨by omega, by omega, ?_⟩ (by omega)
        have e4 : ((i : Int) - 1 + 1).toNat = i := by omega
        rw [e4]; exact x3
    · obtain rfl : x = -1 := by omega
      obtain ⟨s, hs⟩ := some_at (l := d.fPages) (i := p.toNat) (by omega)
      simp -implicitDefEqProofs (maxSteps := 3000000) only [go_sem, reduceCtorEq, lget_strs hs]
      repeat ((first | refine req (by first | omega | assumption | exact commP_of (by kernel_rfl) | (simp only [LEN, List.length_append, List.length_cons, List.length_nil]; omega) | (simp [D.one]; omega) | (simp [D.one]; done)) ?_); simp -implicitDefEqProofs (maxSteps := 3000000) only [go_sem, reduceCtorEq, lget_strs hs])
      have e4 : ((-1 : Int) + 1).toNat = 0 := rfl
      rw [e4, List.take_zero, lateText_nil] at x3
      rw [readPage, if_pos hp, ← x3, Option.getD_none, getD_some hs]
  · have dp := decide_eq_false hp
    simp -implicitDefEqProofs (maxSteps := 3000000) only [go_sem, reduceCtorEq, dp]
    rw [readPage, if_neg hp]
theorem ki_ReadPage {h : Heap} {tb : Nat} {K : OK} {args : List V} {ls : List Nat} (d : GDisk) (p : Int) (h1 : d.fPages.length ≤ 4611686018427387904) (h2 : d.fLate.length ≤ 4611686018427387904) (hg : toDs h args = some ([.agg d.cells, .int .i64 p], ls))
    (hk : K (renV (bk tb ([])) (.d (.str (readPage d p)))) (updN tb ([]) ([]))) : callVC Go.Proofs.Try.prog h tb 79 args K :=
  call_free hg (ci_ReadPage d p h1 h2) rfl (.inr ⟨flat_of rfl, flatHB_of rfl⟩) hk
@[go_sem] def hr122 : Hints
  | 0 => [0, 1] | 1 => [1, 2] | 2 => [] | 3 => [1, 2] | 4 => [1, 2, 5] | 5 => [1, 2, 5] | 6 => [1, 2, 5] | 7 => [2, 5] | 8 => [1, 2] | _ => []
@[go_sem] def hl122 : Hints
  | 4 => [1, 2, 5] | _ => []
attribute [go_sem] Go.Proofs.Try.results122
set_option maxRecDepth 100000 in
set_option maxHeartbeats 2000000 in
theorem cs_ReadPage (d : GDisk) (p : Int) (h1 : d.fPages.length ≤ 4611686018427387904) (h2 : d.fLate.length ≤ 4611686018427387904) : CallOK Go.Proofs.Try.prog 122 [.d (.agg d.cells), .d (.int .i64 p)] [] [.dead, .dead] (.d (.str (readPage d p))) [] := by
  refine call_of tysZOK mixedZ Go.Proofs.Try.func122 (by kernel_rfl) rfl (np := [false, false]) (by kernel_rfl) hr122 hl122 (by simp [Go.Proofs.Try.ntmps122]) ?_
  have e1 : IntKind.i64.wrap ((d.fLate.length : Int) - 1) = (d.fLate.length : Int) - 1 := wrap_int (by omega) (by omega)
  have e0 : IntKind.i64.wrap ((d.fPages.length : Int) - 1) = (d.fPages.length : Int) - 1 := wrap_int (by omega) (by omega)
  simp -implicitDefEqProofs (maxSteps := 3000000) only [go_sem, reduceCtorEq, GDisk.cells, e0]
  refine ks_in p 0 ((d.fPages.length : Int) - 1) rfl ?_
  by_cases hp : isPage d p
  · have dp : decide (0 ≤ p ∧ p ≤ (d.fPages.length : Int) - 1) = true := decide_eq_true hp
    have hp' := hp
    obtain ⟨hp1, hp2⟩ := hp'
    simp -implicitDefEqProofs (maxSteps := 3000000) only [go_sem, reduceCtorEq, dp, e1]
    refine loop_data (α := Int) (fun x => ⟨[(1, .d (.int .i64 p)), (2, .ref 0 0), (5, .d (.int .i64 x))], [(0, some (.box [.d (.sl (strs d.fPages)), .d (.sl (GPutS d.fLate))]))]⟩)
      (fun x => -1 ≤ x ∧ x < d.fLate.length ∧ lateText (d.fLate.take (x + 1).toNat) p = lateText d.fLate p) (fun x => (x + 1).toNat) ((d.fLate.length : Int) - 1) rfl ⟨by omega, by omega, ?_⟩ ?_
    · rw [List.take_of_length_le (by omega)]
    rintro x ⟨x1, x2, x3⟩
    simp -implicitDefEqProofs (maxSteps := 3000000) only [go_sem, reduceCtorEq]
    (first | (refine way_dec (fun h5 => ?_) (fun h5 => ?_)) | (refine way_ndec (fun h5 => ?_) (fun h5 => ?_)) | (refine wayT_dec (fun h5 => ?_) (fun h5 => ?_)) | (refine wayF_dec (fun h5 => ?_) (fun h5 => ?_)) | (refine wayT_ndec (fun h5 => ?_) (fun h5 => ?_)) | (refine wayF_ndec (fun h5 => ?_) (fun h5 => ?_)) | (refine way_not (fun h5 => ?_) (fun h5 => ?_)) | (refine way (fun h5 => ?_) (fun h5 => ?_)) | (refine wayT (fun h5 => ?_) (fun h5 => ?_)) | (refine wayF (fun h5 => ?_) (fun h5 => ?_)))
    · obtain ⟨i, rfl⟩ := Int.eq_ofNat_of_zero_le h5
      obtain ⟨q, hq⟩ := some_at (l := d.fLate) (i := i) (by omega)
      have e2 : ((i : Int) + 1).toNat = i + 1 := by omega
      rw [e2, late_step hq] at x3
      have e3 : IntKind.i64.wrap ((i : Int) - 1) = (i : Int) - 1 := wrap_int (by omega) (by omega)
      simp -implicitDefEqProofs (maxSteps := 3000000) only [go_sem, reduceCtorEq, lget_GPutS hq, e3]
      repeat ((first | refine req (by first | omega | assumption | exact commP_of (by kernel_rfl) | (simp only [LEN, List.length_append, List.length_cons, List.length_nil]; omega) | (simp [D.one]; omega) | (simp [D.one]; done)) ?_); simp -implicitDefEqProofs (maxSteps := 3000000) only [go_sem, reduceCtorEq, lget_GPutS hq, e3])
      (first | (refine way_dec (fun h6 => ?_) (fun h6 => ?_)) | (refine way_ndec (fun h6 => ?_) (fun h6 => ?_)) | (refine wayT_dec (fun h6 => ?_) (fun h6 => ?_)) | (refine wayF_dec (fun h6 => ?_) (fun h6 => ?_)) | (refine wayT_ndec (fun h6 => ?_) (fun h6 => ?_)) | (refine wayF_ndec (fun h6 => ?_) (fun h6 => ?_)) | (refine way_not (fun h6 => ?_) (fun h6 => ?_)) | (refine way (fun h6 => ?_) (fun h6 => ?_)) | (refine wayT (fun h6 => ?_) (fun h6 => ?_)) | (refine wayF (fun h6 => ?_) (fun h6 => ?_)))
      · simp -implicitDefEqProofs (maxSteps := 3000000) only [go_sem, reduceCtorEq, lget_GPutS hq]
        repeat ((first | refine req (by first | omega | assumption | exact commP_of (by kernel_rfl) | (simp only [LEN, List.length_append, List.length_cons, List.length_nil]; omega) | (simp [D.one]; omega) | (simp [D.one]; done)) ?_); simp -implicitDefEqProofs (maxSteps := 3000000) only [go_sem, reduceCtorEq, lget_GPutS hq])
        rw [if_pos h6] at x3
        rw [readPage, if_pos hp, ← x3]; rfl
      · simp -implicitDefEqProofs (maxSteps := 3000000) only [go_sem, reduceCtorEq]
        rw [if_neg h6] at x3
        refine next_data ((i : Int) - 1) (by rw [e3]) ⟨by omega, by omega, ?_⟩ (by omega)
        have e4 : ((i : Int) - 1 + 1).toNat = i := by omega
        rw [e4]; exact x3
    · obtain rfl : x = -1 := by omega
      obtain ⟨s, hs⟩ := some_at (l := d.fPages) (i := p.toNat) (by omega)
      simp -implicitDefEqProofs (maxSteps := 3000000) only [go_sem, reduceCtorEq, lget_strs hs]
      repeat ((first | refine req (by first | omega | assumption | exact commP_of (by kernel_rfl) | (simp only [LEN, List.length_append, List.length_cons, List.length_nil]; omega) | (simp [D.one]; omega) | (simp [D.one]; done)) ?_); simp -implicitDefEqProofs (maxSteps := 3000000) only [go_sem, reduceCtorEq, lget_strs hs])
      have e4 : ((-1 : Int) + 1).toNat = 0 := rfl
      rw [e4, List.take_zero, lateText_nil] at x3
      rw [readPage, if_pos hp, ← x3, Option.getD_none, getD_some hs]
  · have dp : decide (0 ≤ p ∧ p ≤ (d.fPages.length : Int) - 1) = false := decide_eq_false hp
    simp -implicitDefEqProofs (maxSteps := 3000000) only [go_sem, reduceCtorEq, dp]
    rw [readPage, if_neg hp]
theorem ks_ReadPage {h : Heap} {tb : Nat} {K : OK} {args : List V} {ls : List Nat} (d : GDisk) (p : Int) (h1 : d.fPages.length ≤ 4611686018427387904) (h2 : d.fLate.length ≤ 4611686018427387904) (hg : toDs h args = some ([.agg d.cells, .int .i64 p], ls))
    (hk : K (renV (bk tb ([])) (.d (.str (readPage d p)))) (updN tb ([]) ([]))) : callVC Go.Proofs.Try.prog h tb 122 args K :=
  call_free hg (cs_ReadPage d p h1 h2) rfl (.inr ⟨flat_of rfl, flatHB_of rfl⟩) hk

@[go_sem] def hr123 : Hints
  | 0 => [0, 1] | 1 => [0, 1] | 2 => [0, 1, 5] | 3 => [0, 1, 5] | 4 => [0, 1, 5] | 5 => [] | 6 => [] | _ => []
@[go_sem] def hl123 : Hints
  | 2 => [0, 1, 5] | _ => []
attribute [go_sem] Go.Proofs.Try.results123
set_option maxRecDepth 100000 in
set_option maxHeartbeats 2000000 in
theorem cs_In (l : List Int) (x : Int) (hl : l.length ≤ LEN) : CallOK Go.Proofs.Try.prog 123 [.d (.sl (ints l)), .d (.int .i64 x)] [] [.dead, .dead] (.d (.bool (decide (x ∈ l)))) [] := by
  refine call_of tysZOK mixedZ Go.Proofs.Try.func123 (by kernel_rfl) rfl (np := [false, false]) (by kernel_rfl) hr123 hl123 (by simp [Go.Proofs.Try.ntmps123]) ?_
  simp -implicitDefEqProofs (maxSteps := 3000000) only [go_sem, reduceCtorEq]
  refine loop_data (α := Nat) (fun i => ⟨[(0, .d (.sl (ints l))), (1, .d (.int .i64 x)), (5, .d (.int .i64 i))], []⟩)
    (fun i => i ≤ l.length ∧ x ∉ l.take i) (fun i => l.length - i) 0 rfl ⟨Nat.zero_le _, by simp⟩ ?_
  rintro i ⟨h2, h3⟩
  simp -implicitDefEqProofs (maxSteps := 3000000) only [go_sem, reduceCtorEq]
  (first | (refine way_dec (fun h5 => ?_) (fun h5 => ?_)) | (refine way_ndec (fun h5 => ?_) (fun h5 => ?_)) | (refine wayT_dec (fun h5 => ?_) (fun h5 => ?_)) | (refine wayF_dec (fun h5 => ?_) (fun h5 => ?_)) | (refine wayT_ndec (fun h5 => ?_) (fun h5 => ?_)) | (refine wayF_ndec (fun h5 => ?_) (fun h5 => ?_)) | (refine way_not (fun h5 => ?_) (fun h5 => ?_)) | (refine way (fun h5 => ?_) (fun h5 => ?_)) | (refine wayT (fun h5 => ?_) (fun h5 => ?_)) | (refine wayF (fun h5 => ?_) (fun h5 => ?_)))
  · obtain ⟨p, hp⟩ := some_at h5
    simp -implicitDefEqProofs (maxSteps := 3000000) only [go_sem, reduceCtorEq, lget_ints hp]
    repeat ((first | refine req (by first | omega | assumption | exact commP_of (by kernel_rfl) | (simp only [LEN, List.length_append, List.length_cons, List.length_nil]; omega) | (simp [D.one]; omega) | (simp [D.one]; done)) ?_); simp -implicitDefEqProofs (maxSteps := 3000000) only [go_sem, reduceCtorEq, lget_ints hp])
    (first | (refine way_dec (fun h6 => ?_) (fun h6 => ?_)) | (refine way_ndec (fun h6 => ?_) (fun h6 => ?_)) | (refine wayT_dec (fun h6 => ?_) (fun h6 => ?_)) | (refine wayF_dec (fun h6 => ?_) (fun h6 => ?_)) | (refine wayT_ndec (fun h6 => ?_) (fun h6 => ?_)) | (refine wayF_ndec (fun h6 => ?_) (fun h6 => ?_)) | (refine way_not (fun h6 => ?_) (fun h6 => ?_)) | (refine way (fun h6 => ?_) (fun h6 => ?_)) | (refine wayT (fun h6 => ?_) (fun h6 => ?_)) | (refine wayF (fun h6 => ?_) (fun h6 => ?_)))
    · simp -implicitDefEqProofs (maxSteps := 3000000) only [go_sem, reduceCtorEq]
      have : x ∈ l := h6 ▸ List.mem_of_getElem? hp
      simp [this]
    · simp -implicitDefEqProofs (maxSteps := 3000000) only [go_sem, reduceCtorEq]
      rw [wrap_succ (by omega)]
      refine next_data (i + 1) rfl ⟨by omega, fun hm => ?_⟩ (by omega)
      rcases mem_takeS hp hm with hm | rfl
      · exact h3 hm
      · exact h6 rfl
  · simp -implicitDefEqProofs (maxSteps := 3000000) only [go_sem, reduceCtorEq]
    rw [List.take_of_length_le (by omega)] at h3
    simp [h3]
theorem ks_In {h : Heap} {tb : Nat} {K : OK} {args : List V} {ls : List Nat} (l : List Int) (x : Int) (hl : l.length ≤ LEN) (hg : toDs h args = some ([.sl (ints l), .int .i64 x], ls))
    (hk : K (renV (bk tb ([])) (.d (.bool (decide (x ∈ l))))) (updN tb ([]) ([]))) : callVC Go.Proofs.Try.prog h tb 123 args K :=
  call_free hg (cs_In l x hl) rfl (.inr ⟨flat_of rfl, flatHB_of rfl⟩) hk


theorem pair_dec {p q : GPair} : (decide (p.fKey = q.fKey) && decide (p.fVal = q.fVal)) = decide (p = q) := by
  rw [Bool.eq_iff_iff]
  simp only [Bool.and_eq_true, decide_eq_true_eq]
  constructor
  · rintro ⟨h1, h2⟩; cases p; cases q; simp_all
  · rintro rfl; exact ⟨rfl, rfl⟩
end Go.Rx

namespace Go.Rx
open Go
attribute [local irreducible] Req Way WayG Sel callVC CallOK
set_option linter.unusedSimpArgs false
set_option linter.unusedVariables false

/-! copies that are ours -/
@[go_sem] def hr64 : Hints
  | 0 => [0] | 1 => [0] | 2 => [] | 3 => [0] | _ => []
@[go_sem] def hl64 : Hints := fun _ => []
attribute [go_sem] Go.Proofs.Try.results64
set_option maxRecDepth 100000 in
set_option maxHeartbeats 2000000 in
theorem ci_cloneInt (l : List Int) (hl : l.length ≤ 2097152) : CallOK Go.Proofs.Try.prog 64 [.d (.sl (ints l))] [] [.dead] (.own 0 0 l.length) [(0, .arr 1 (ints l))] := by
  refine call_of tysZOK mixedZ Go.Proofs.Try.func64 (by kernel_rfl) rfl (np := [false]) (by kernel_rfl) hr64 hl64 (by simp [Go.Proofs.Try.ntmps64]) ?_
  simp -implicitDefEqProofs (maxSteps := 3000000) only [go_sem, reduceCtorEq]
  intro b hb
  refine way (fun h1 => ?_) (fun h1 => ?_)
  · have hl0 : l = [] := by have := hb h1; simpa [ints] using this
    subst hl0
    simp -implicitDefEqProofs (maxSteps := 3000000) only [go_sem, reduceCtorEq]
    rfl
  · simp -implicitDefEqProofs (maxSteps := 3000000) only [go_sem, reduceCtorEq]
    repeat ((first | refine req (by first | omega | assumption | exact commP_of (by kernel_rfl) | (simp only [LEN, List.length_append, List.length_cons, List.length_nil]; omega) | (simp [D.one]; omega) | (simp [D.one]; done)) ?_); simp -implicitDefEqProofs (maxSteps := 3000000) only [go_sem, reduceCtorEq])
theorem ki_cloneInt {h : Heap} {tb : Nat} {K : OK} {args : List V} {ls : List Nat} (l : List Int) (hl : l.length ≤ 2097152) (hg : toDs h args = some ([.sl (ints l)], ls))
    (hk : K (renV (bk tb ([(0, .arr 1 (ints l))])) (.own 0 0 l.length)) (updN tb ([(0, .arr 1 (ints l))]) ([(0, .arr 1 (ints l))]))) : callVC Go.Proofs.Try.prog h tb 64 args K :=
  call_free hg (ci_cloneInt l hl) rfl (.inr ⟨flat_of rfl, by repeat (first | exact flatH_nil | refine flatH_cons (by first | exact flat_ints | exact flat_strs | exact flat_bls | exact flat_bys | exact flat_GPutS | exact flat_GPairS | exact flat_GFieldS | exact flat_GValueS) ?_)⟩) hk
@[go_sem] def hr88 : Hints
  | 0 => [0] | 1 => [0] | 2 => [] | 3 => [0] | _ => []
@[go_sem] def hl88 : Hints := fun _ => []
attribute [go_sem] Go.Proofs.Try.results88
set_option maxRecDepth 100000 in
set_option maxHeartbeats 2000000 in
theorem ci_cloneStr (l : List (List UInt8)) (hl : l.length ≤ 1048576) : CallOK Go.Proofs.Try.prog 88 [.d (.sl (strs l))] [] [.dead] (.own 0 0 l.length) [(0, .arr 1 (strs l))] := by
  refine call_of tysZOK mixedZ Go.Proofs.Try.func88 (by kernel_rfl) rfl (np := [false]) (by kernel_rfl) hr88 hl88 (by simp [Go.Proofs.Try.ntmps88]) ?_
  simp -implicitDefEqProofs (maxSteps := 3000000) only [go_sem, reduceCtorEq]
  intro b hb
  refine way (fun h1 => ?_) (fun h1 => ?_)
  · have hl0 : l = [] := by have := hb h1; simpa [strs] using this
    subst hl0
    simp -implicitDefEqProofs (maxSteps := 3000000) only [go_sem, reduceCtorEq]
    rfl
  · simp -implicitDefEqProofs (maxSteps := 3000000) only [go_sem, reduceCtorEq]
    repeat ((first | refine req (by first | omega | assumption | exact commP_of (by kernel_rfl) | (simp only [LEN, List.length_append, List.length_cons, List.length_nil]; omega) | (simp [D.one]; omega) | (simp [D.one]; done)) ?_); simp -implicitDefEqProofs (maxSteps := 3000000) only [go_sem, reduceCtorEq])
theorem ki_cloneStr {h : Heap} {tb : Nat} {K : OK} {args : List V} {ls : List Nat} (l : List (List UInt8)) (hl : l.length ≤ 1048576) (hg : toDs h args = some ([.sl (strs l)], ls))
    (hk : K (renV (bk tb ([(0, .arr 1 (strs l))])) (.own 0 0 l.length)) (updN tb ([(0, .arr 1 (strs l))]) ([(0, .arr 1 (strs l))]))) : callVC Go.Proofs.Try.prog h tb 88 args K :=
  call_free hg (ci_cloneStr l hl) rfl (.inr ⟨flat_of rfl, by repeat (first | exact flatH_nil | refine flatH_cons (by first | exact flat_ints | exact flat_strs | exact flat_bls | exact flat_bys | exact flat_GPutS | exact flat_GPairS | exact flat_GFieldS | exact flat_GValueS) ?_)⟩) hk
@[go_sem] def hr89 : Hints
  | 0 => [0] | 1 => [0] | 2 => [] | 3 => [0] | _ => []
@[go_sem] def hl89 : Hints := fun _ => []
attribute [go_sem] Go.Proofs.Try.results89
set_option maxRecDepth 100000 in
set_option maxHeartbeats 2000000 in
theorem ci_clonePut (l : List GPut) (hl : l.length ≤ 1048576) : CallOK Go.Proofs.Try.prog 89 [.d (.sl (GPutS l))] [] [.dead] (.own 0 0 l.length) [(0, .arr 2 (GPutS l))] := by
  refine call_of tysZOK mixedZ Go.Proofs.Try.func89 (by kernel_rfl) rfl (np := [false]) (by kernel_rfl) hr89 hl89 (by simp [Go.Proofs.Try.ntmps89]) ?_
  simp -implicitDefEqProofs (maxSteps := 3000000) only [go_sem, reduceCtorEq]
  intro b hb
  refine way (fun h1 => ?_) (fun h1 => ?_)
  · have hl0 : l = [] := by have := hb h1; simpa [GPutS] using this
    subst hl0
    simp -implicitDefEqProofs (maxSteps := 3000000) only [go_sem, reduceCtorEq]
    rfl
  · simp -implicitDefEqProofs (maxSteps := 3000000) only [go_sem, reduceCtorEq]
    repeat ((first | refine req (by first | omega | assumption | exact commP_of (by kernel_rfl) | (simp only [LEN, List.length_append, List.length_cons, List.length_nil]; omega) | (simp [D.one]; omega) | (simp [D.one]; done)) ?_); simp -implicitDefEqProofs (maxSteps := 3000000) only [go_sem, reduceCtorEq])
theorem ki_clonePut {h : Heap} {tb : Nat} {K : OK} {args : List V} {ls : List Nat} (l : List GPut) (hl : l.length ≤ 1048576) (hg : toDs h args = some ([.sl (GPutS l)], ls))
    (hk : K (renV (bk tb ([(0, .arr 2 (GPutS l))])) (.own 0 0 l.length)) (updN tb ([(0, .arr 2 (GPutS l))]) ([(0, .arr 2 (GPutS l))]))) : callVC Go.Proofs.Try.prog h tb 89 args K :=
  call_free hg (ci_clonePut l hl) rfl (.inr ⟨flat_of rfl, by repeat (first | exact flatH_nil | refine flatH_cons (by first | exact flat_ints | exact flat_strs | exact flat_bls | exact flat_bys | exact flat_GPutS | exact flat_GPairS | exact flat_GFieldS | exact flat_GValueS) ?_)⟩) hk
@[go_sem] def hr63 : Hints
  | 0 => [0] | 1 => [1, 2] | _ => []
@[go_sem] def hl63 : Hints := fun _ => []
attribute [go_sem] Go.Proofs.Try.results63
set_option maxRecDepth 100000 in
set_option maxHeartbeats 2000000 in
theorem ci_cloneDisk (d : GDisk) (hd : smallD d) : CallOK Go.Proofs.Try.prog 63 [.d (.agg d.cells)] [] [.dead] (.agg [.own 0 0 d.fPages.length, .own 1 0 d.fLate.length]) [(0, .arr 1 (strs d.fPages)), (1, .arr 2 (GPutS d.fLate))] := by
  refine call_of tysZOK mixedZ Go.Proofs.Try.func63 (by kernel_rfl) rfl (np := [false]) (by kernel_rfl) hr63 hl63 (by simp [Go.Proofs.Try.ntmps63]) ?_
  obtain ⟨h1, h2⟩ := hd
  simp -implicitDefEqProofs (maxSteps := 3000000) only [go_sem, reduceCtorEq, GDisk.cells]
  repeat ((first | refine ki_cloneStr d.fPages h1 rfl ?_ | refine ki_clonePut d.fLate h2 rfl ?_ | refine req (by first | omega | assumption | exact commP_of (by kernel_rfl) | (simp only [LEN, List.length_append, List.length_cons, List.length_nil]; omega) | (simp [D.one]; omega) | (simp [D.one]; done)) ?_); simp -implicitDefEqProofs (maxSteps := 3000000) only [go_sem, reduceCtorEq])
theorem ki_cloneDisk {h : Heap} {tb : Nat} {K : OK} {args : List V} {ls : List Nat} (d : GDisk) (hd : smallD d) (hg : toDs h args = some ([.agg d.cells], ls))
    (hk : K (renV (bk tb ([(0, .arr 1 (strs d.fPages)), (1, .arr 2 (GPutS d.fLate))])) (.agg [.own 0 0 d.fPages.length, .own 1 0 d.fLate.length])) (updN tb ([(0, .arr 1 (strs d.fPages)), (1, .arr 2 (GPutS d.fLate))]) ([(0, .arr 1 (strs d.fPages)), (1, .arr 2 (GPutS d.fLate))]))) : callVC Go.Proofs.Try.prog h tb 63 args K :=
  call_free hg (ci_cloneDisk d hd) rfl (.inr ⟨flat_of rfl, by repeat (first | exact flatH_nil | refine flatH_cons (by first | exact flat_ints | exact flat_strs | exact flat_bls | exact flat_bys | exact flat_GPutS | exact flat_GPairS | exact flat_GFieldS | exact flat_GValueS) ?_)⟩) hk
@[go_sem] def hr34 : Hints
  | 0 => [0] | 1 => [1, 2] | _ => []
@[go_sem] def hl34 : Hints := fun _ => []
attribute [go_sem] Go.Proofs.Try.results34
set_option maxRecDepth 100000 in
set_option maxHeartbeats 2000000 in
theorem ci_cloneWork (w : GWork) (hw : smallW w) : CallOK Go.Proofs.Try.prog 34 [.d (.agg w.cells)] [] [.dead] (.agg [.own 0 0 w.fDisk.fPages.length, .own 1 0 w.fDisk.fLate.length, .d (.int .i64 w.fNext), .own 2 0 w.fUsable.length, .own 3 0 w.fGone.length, .own 4 0 w.fFresh.length]) [(0, .arr 1 (strs w.fDisk.fPages)), (1, .arr 2 (GPutS w.fDisk.fLate)), (2, .arr 1 (ints w.fUsable)), (3, .arr 1 (ints w.fGone)), (4, .arr 1 (ints w.fFresh))] := by
  refine call_of tysZOK mixedZ Go.Proofs.Try.func34 (by kernel_rfl) rfl (np := [false]) (by kernel_rfl) hr34 hl34 (by simp [Go.Proofs.Try.ntmps34]) ?_
  obtain ⟨h1, h2, h3, h4⟩ := hw
  simp -implicitDefEqProofs (maxSteps := 3000000) only [go_sem, reduceCtorEq, GWork.cells]
  repeat ((first | refine ki_cloneDisk w.fDisk h1 rfl ?_ | refine ki_cloneInt w.fUsable (by omega) rfl ?_ | refine ki_cloneInt w.fGone (by omega) rfl ?_ | refine ki_cloneInt w.fFresh (by have := h1.2; omega) rfl ?_ | refine req (by first | omega | assumption | exact commP_of (by kernel_rfl) | (simp only [LEN, List.length_append, List.length_cons, List.length_nil]; omega) | (simp [D.one]; omega) | (simp [D.one]; done)) ?_); simp -implicitDefEqProofs (maxSteps := 3000000) only [go_sem, reduceCtorEq])
theorem ki_cloneWork {h : Heap} {tb : Nat} {K : OK} {args : List V} {ls : List Nat} (w : GWork) (hw : smallW w) (hg : toDs h args = some ([.agg w.cells], ls))
    (hk : K (renV (bk tb ([(0, .arr 1 (strs w.fDisk.fPages)), (1, .arr 2 (GPutS w.fDisk.fLate)), (2, .arr 1 (ints w.fUsable)), (3, .arr 1 (ints w.fGone)), (4, .arr 1 (ints w.fFresh))])) (.agg [.own 0 0 w.fDisk.fPages.length, .own 1 0 w.fDisk.fLate.length, .d (.int .i64 w.fNext), .own 2 0 w.fUsable.length, .own 3 0 w.fGone.length, .own 4 0 w.fFresh.length])) (updN tb ([(0, .arr 1 (strs w.fDisk.fPages)), (1, .arr 2 (GPutS w.fDisk.fLate)), (2, .arr 1 (ints w.fUsable)), (3, .arr 1 (ints w.fGone)), (4, .arr 1 (ints w.fFresh))]) ([(0, .arr 1 (strs w.fDisk.fPages)), (1, .arr 2 (GPutS w.fDisk.fLate)), (2, .arr 1 (ints w.fUsable)), (3, .arr 1 (ints w.fGone)), (4, .arr 1 (ints w.fFresh))]))) : callVC Go.Proofs.Try.prog h tb 34 args K :=
  call_free hg (ci_cloneWork w hw) rfl (.inr ⟨flat_of rfl, by repeat (first | exact flatH_nil | refine flatH_cons (by first | exact flat_ints | exact flat_strs | exact flat_bls | exact flat_bys | exact flat_GPutS | exact flat_GPairS | exact flat_GFieldS | exact flat_GValueS) ?_)⟩) hk
end Go.Rx

namespace Go.Rx
open Go
attribute [local irreducible] Req Way WayG Sel callVC CallOK
set_option linter.unusedSimpArgs false
set_option linter.unusedVariables false

@[go_sem] def hr144 : Hints
  | 0 => [0, 1] | 1 => [0, 1] | 2 => [0, 1, 7, 8] | 3 => [0, 1, 7, 8] | 4 => [0, 1, 5, 7, 8] | 5 => [5] | 6 => [0, 1, 7, 8] | 7 => [] | _ => []
@[go_sem] def hl144 : Hints
  | 2 => [0, 1, 7, 8] | _ => []
attribute [go_sem] Go.Proofs.Try.results144
set_option maxRecDepth 100000 in
set_option maxHeartbeats 2000000 in
theorem ci_idxPut (l : List GPut) (f : Nat) (cs : List D) (g : GPut → Bool) (hl : l.length ≤ LEN) (hf : ∀ p ∈ l, CallOK Go.Proofs.Try.prog f (.d (.agg [.int .i64 p.fPage, .str p.fText]) :: cs.map .d) [] (.dead :: cs.map fun _ => .dead) (.d (.bool (g p))) []) : CallOK Go.Proofs.Try.prog 144 [.d (.sl (GPutS l)), .d (.clo f cs)] [] [.dead, .dead] (.d (.int .i64 (idxF g l))) [] := by
  refine call_of tysZOK mixedZ Go.Proofs.Try.func144 (by kernel_rfl) rfl (np := [false, false]) (by kernel_rfl) hr144 hl144 (by simp [Go.Proofs.Try.ntmps144]) ?_
  simp -implicitDefEqProofs (maxSteps := 3000000) only [go_sem, reduceCtorEq]
  refine loop_data (α := Nat) (fun i => ⟨[(0, .d (.sl (GPutS l))), (1, .d (.clo f cs)), (7, .d (.int .i64 l.length)), (8, .d (.int .i64 i))], []⟩)
    (fun i => i ≤ l.length ∧ ∀ q ∈ l.take i, g q = false) (fun i => l.length - i) 0 rfl ⟨Nat.zero_le _, by simp⟩ ?_
  rintro i ⟨h2, h3⟩
  simp -implicitDefEqProofs (maxSteps := 3000000) only [go_sem, reduceCtorEq]
  (first | (refine way_dec (fun h5 => ?_) (fun h5 => ?_)) | (refine way_ndec (fun h5 => ?_) (fun h5 => ?_)) | (refine wayT_dec (fun h5 => ?_) (fun h5 => ?_)) | (refine wayF_dec (fun h5 => ?_) (fun h5 => ?_)) | (refine wayT_ndec (fun h5 => ?_) (fun h5 => ?_)) | (refine wayF_ndec (fun h5 => ?_) (fun h5 => ?_)) | (refine way_not (fun h5 => ?_) (fun h5 => ?_)) | (refine way (fun h5 => ?_) (fun h5 => ?_)) | (refine wayT (fun h5 => ?_) (fun h5 => ?_)) | (refine wayF (fun h5 => ?_) (fun h5 => ?_)))
  · obtain ⟨p, hp⟩ := some_at h5
    have hmem := List.mem_of_getElem? hp
    simp -implicitDefEqProofs (maxSteps := 3000000) only [go_sem, reduceCtorEq, lget_GPutS hp]
    repeat ((first | refine req (by first | omega | assumption | exact commP_of (by kernel_rfl) | (simp only [LEN, List.length_append, List.length_cons, List.length_nil]; omega) | (simp [D.one]; omega) | (simp [D.one]; done)) ?_ | refine call_free (xs := (.agg [.int .i64 p.fPage, .str p.fText]) :: cs) toDs_cons (hf p hmem) rfl (.inr ⟨flat_of rfl, flatH_nil⟩) ?_); simp -implicitDefEqProofs (maxSteps := 3000000) only [go_sem, reduceCtorEq, lget_GPutS hp, calleeVC.eq_1])
    cases hg : g p
    · simp -implicitDefEqProofs (maxSteps := 3000000) only [go_sem, reduceCtorEq]
      rw [wrap_succ (by omega)]
      refine next_data (i + 1) rfl ⟨by omega, fun q hq => ?_⟩ (by omega)
      rw [take_snoc hp] at hq
      rcases List.mem_append.1 hq with hq | hq
      · exact h3 q hq
      · simp at hq; subst hq; exact hg
    · simp -implicitDefEqProofs (maxSteps := 3000000) only [go_sem, reduceCtorEq]
      rw [idxF_step hp h3 hg]
  · simp -implicitDefEqProofs (maxSteps := 3000000) only [go_sem, reduceCtorEq]
    rw [List.take_of_length_le (by omega)] at h3
    rw [idxF_none h3]
theorem ki_idxPut {h : Heap} {tb : Nat} {K : OK} {args : List V} {ls : List Nat} (l : List GPut) (f : Nat) (cs : List D) (g : GPut → Bool) (hl : l.length ≤ LEN) (hf : ∀ p ∈ l, CallOK Go.Proofs.Try.prog f (.d (.agg [.int .i64 p.fPage, .str p.fText]) :: cs.map .d) [] (.dead :: cs.map fun _ => .dead) (.d (.bool (g p))) []) (hg : toDs h args = some ([.sl (GPutS l), .clo f cs], ls))
    (hk : K (renV (bk tb ([])) (.d (.int .i64 (idxF g l)))) (updN tb ([]) ([]))) : callVC Go.Proofs.Try.prog h tb 144 args K :=
  call_free hg (ci_idxPut l f cs g hl hf) rfl (.inr ⟨flat_of rfl, flatHB_of rfl⟩) hk
@[go_sem] def hr137 : Hints
  | 0 => [0, 1] | 1 => [0, 1] | _ => []
@[go_sem] def hl137 : Hints := fun _ => []
attribute [go_sem] Go.Proofs.Try.results137
set_option maxRecDepth 100000 in
set_option maxHeartbeats 2000000 in
theorem ci_conPut (l : List GPut) (f : Nat) (cs : List D) (g : GPut → Bool) (hl : l.length ≤ LEN) (hf : ∀ p ∈ l, CallOK Go.Proofs.Try.prog f (.d (.agg [.int .i64 p.fPage, .str p.fText]) :: cs.map .d) [] (.dead :: cs.map fun _ => .dead) (.d (.bool (g p))) []) : CallOK Go.Proofs.Try.prog 137 [.d (.sl (GPutS l)), .d (.clo f cs)] [] [.dead, .dead] (.d (.bool (l.any g))) [] := by
  refine call_of tysZOK mixedZ Go.Proofs.Try.func137 (by kernel_rfl) rfl (np := [false, false]) (by kernel_rfl) hr137 hl137 (by simp [Go.Proofs.Try.ntmps137]) ?_
  simp -implicitDefEqProofs (maxSteps := 3000000) only [go_sem, reduceCtorEq]
  refine ki_idxPut l f cs g hl hf rfl ?_
  simp -implicitDefEqProofs (maxSteps := 3000000) only [go_sem, reduceCtorEq]
  rw [idxF_any]
theorem ki_conPut {h : Heap} {tb : Nat} {K : OK} {args : List V} {ls : List Nat} (l : List GPut) (f : Nat) (cs : List D) (g : GPut → Bool) (hl : l.length ≤ LEN) (hf : ∀ p ∈ l, CallOK Go.Proofs.Try.prog f (.d (.agg [.int .i64 p.fPage, .str p.fText]) :: cs.map .d) [] (.dead :: cs.map fun _ => .dead) (.d (.bool (g p))) []) (hg : toDs h args = some ([.sl (GPutS l), .clo f cs], ls))
    (hk : K (renV (bk tb ([])) (.d (.bool (l.any g)))) (updN tb ([]) ([]))) : callVC Go.Proofs.Try.prog h tb 137 args K :=
  call_free hg (ci_conPut l f cs g hl hf) rfl (.inr ⟨flat_of rfl, flatHB_of rfl⟩) hk
@[go_sem] def hr136 : Hints
  | 0 => [0] | 1 => [0] | _ => []
@[go_sem] def hl136 : Hints := fun _ => []
attribute [go_sem] Go.Proofs.Try.results136
set_option maxRecDepth 100000 in
set_option maxHeartbeats 2000000 in
theorem ci_diskOk1 (s : List UInt8) : CallOK Go.Proofs.Try.prog 136 [.d (.str s)] [] [.dead] (.d (.bool (decide ((240 : Int) < s.length)))) [] := by
  refine call_of tysZOK mixedZ Go.Proofs.Try.func136 (by kernel_rfl) rfl (np := [false]) (by kernel_rfl) hr136 hl136 (by simp [Go.Proofs.Try.ntmps136]) ?_
  simp -implicitDefEqProofs (maxSteps := 3000000) only [go_sem, reduceCtorEq]
theorem ki_diskOk1 {h : Heap} {tb : Nat} {K : OK} {args : List V} {ls : List Nat} (s : List UInt8) (hg : toDs h args = some ([.str s], ls))
    (hk : K (renV (bk tb ([])) (.d (.bool (decide ((240 : Int) < s.length))))) (updN tb ([]) ([]))) : callVC Go.Proofs.Try.prog h tb 136 args K :=
  call_free hg (ci_diskOk1 s) rfl (.inr ⟨flat_of rfl, flatHB_of rfl⟩) hk
@[go_sem] def hr138 : Hints
  | 0 => [0, 1] | 1 => [1, 2] | _ => []
@[go_sem] def hl138 : Hints := fun _ => []
attribute [go_sem] Go.Proofs.Try.results138
set_option maxRecDepth 100000 in
set_option maxHeartbeats 2000000 in
theorem ci_diskOk2 (p : GPut) (d : GDisk) (hd : d.fPages.length ≤ 1048576) : CallOK Go.Proofs.Try.prog 138 [.d (.agg [.int .i64 p.fPage, .str p.fText]), .d (.ptr [.sl (strs d.fPages), .sl (GPutS d.fLate)])] [] [.dead, .dead] (.d (.bool ((!decide (isPage d p.fPage)).or (decide ((240 : Int) < p.fText.length))))) [] := by
  refine call_of tysZOK mixedZ Go.Proofs.Try.func138 (by kernel_rfl) rfl (np := [false, false]) (by kernel_rfl) hr138 hl138 (by simp [Go.Proofs.Try.ntmps138]) ?_
  simp -implicitDefEqProofs (maxSteps := 3000000) only [go_sem, reduceCtorEq]
  refine ki_isPage d p.fPage (by omega) rfl ?_
  by_cases h : isPage d p.fPage
  · have dh := decide_eq_true h
    simp -implicitDefEqProofs (maxSteps := 3000000) only [go_sem, reduceCtorEq, dh]
    repeat ((first | refine req (by first | omega | assumption | exact commP_of (by kernel_rfl) | (simp only [LEN, List.length_append, List.length_cons, List.length_nil]; omega) | (simp [D.one]; omega) | (simp [D.one]; done)) ?_); simp -implicitDefEqProofs (maxSteps := 3000000) only [go_sem, reduceCtorEq, dh])
  · have dh := decide_eq_false h
    simp -implicitDefEqProofs (maxSteps := 3000000) only [go_sem, reduceCtorEq, dh]
    repeat ((first | refine req (by first | omega | assumption | exact commP_of (by kernel_rfl) | (simp only [LEN, List.length_append, List.length_cons, List.length_nil]; omega) | (simp [D.one]; omega) | (simp [D.one]; done)) ?_); simp -implicitDefEqProofs (maxSteps := 3000000) only [go_sem, reduceCtorEq, dh])
theorem ki_diskOk2 {h : Heap} {tb : Nat} {K : OK} {args : List V} {ls : List Nat} (p : GPut) (d : GDisk) (hd : d.fPages.length ≤ 1048576) (hg : toDs h args = some ([.agg [.int .i64 p.fPage, .str p.fText], .ptr [.sl (strs d.fPages), .sl (GPutS d.fLate)]], ls))
    (hk : K (renV (bk tb ([])) (.d (.bool ((!decide (isPage d p.fPage)).or (decide ((240 : Int) < p.fText.length)))))) (updN tb ([]) ([]))) : callVC Go.Proofs.Try.prog h tb 138 args K :=
  call_free hg (ci_diskOk2 p d hd) rfl (.inr ⟨flat_of rfl, flatHB_of rfl⟩) hk
@[go_sem] def hr128 : Hints
  | 0 => [0] | 1 => [1] | 2 => [] | 3 => [1] | _ => []
@[go_sem] def hl128 : Hints := fun _ => []
attribute [go_sem] Go.Proofs.Try.results128
set_option maxRecDepth 100000 in
set_option maxHeartbeats 2000000 in
theorem ci_DiskOk (d : GDisk) (hd : smallD d) : CallOK Go.Proofs.Try.prog 128 [.d (.agg d.cells)] [] [.dead] (.d (.bool (decide (diskOk d)))) [] := by
  refine call_of tysZOK mixedZ Go.Proofs.Try.func128 (by kernel_rfl) rfl (np := [false]) (by kernel_rfl) hr128 hl128 (by simp [Go.Proofs.Try.ntmps128]) ?_
  obtain ⟨h1, h2⟩ := hd
  simp -implicitDefEqProofs (maxSteps := 3000000) only [go_sem, reduceCtorEq, GDisk.cells]
  by_cases g1 : (4 : Int) ≤ d.fPages.length ∧ (d.fPages.length : Int) ≤ 40
  · have d1 := decide_eq_true g1
    by_cases g2 : (200 : Int) < d.fLate.length
    · have d2 := decide_eq_true g2
      repeat ((first | refine ki_in _ _ _ rfl ?_ | refine req (by first | omega | assumption | exact commP_of (by kernel_rfl) | (simp only [LEN, List.length_append, List.length_cons, List.length_nil]; omega) | (simp [D.one]; omega) | (simp [D.one]; done)) ?_); simp -implicitDefEqProofs (maxSteps := 3000000) only [go_sem, reduceCtorEq, d1, d2])
      have : ¬ diskOk d := fun h => by have := h.2.2.1; omega
      simp [this]
    · have d2 := decide_eq_false g2
      cases g3 : d.fPages.any fun s => decide ((240 : Int) < s.length)
      · repeat ((first | refine ki_in _ _ _ rfl ?_ | refine ki_conStr d.fPages 136 [] (fun s => decide ((240 : Int) < s.length)) (by simp only [LEN]; omega) (fun p hp => ci_diskOk1 p) rfl ?_ | refine ki_conPut d.fLate 138 [.ptr [.sl (strs d.fPages), .sl (GPutS d.fLate)]] (fun p => (!decide (isPage d p.fPage)).or (decide ((240 : Int) < p.fText.length))) (by simp only [LEN]; omega) (fun p hp => ci_diskOk2 p d h1) rfl ?_ | refine req (by first | omega | assumption | exact commP_of (by kernel_rfl) | (simp only [LEN, List.length_append, List.length_cons, List.length_nil]; omega) | (simp [D.one]; omega) | (simp [D.one]; done)) ?_); simp -implicitDefEqProofs (maxSteps := 3000000) only [go_sem, reduceCtorEq, d1, d2, g3])
        have g3' : ∀ s ∈ d.fPages, s.length ≤ 240 := fun s hs => by
          have := List.any_eq_false.1 g3 s hs
          simp at this; omega
        have : (!d.fLate.any fun p => (!decide (isPage d p.fPage)).or (decide ((240 : Int) < p.fText.length))) = decide (diskOk d) := by
          rw [Bool.eq_iff_iff, Bool.not_eq_true', List.any_eq_false, decide_eq_true_eq]
          constructor
          · intro h
            refine ⟨by omega, by omega, by omega, g3', fun p hp => ?_⟩
            have := h p hp
            simp at this
            exact ⟨this.1, by omega⟩
          · intro h p hp
            obtain ⟨q1, q2⟩ := h.2.2.2.2 p hp
            simp [q1]; omega
        rw [this]
      · repeat ((first | refine ki_in _ _ _ rfl ?_ | refine ki_conStr d.fPages 136 [] (fun s => decide ((240 : Int) < s.length)) (by simp only [LEN]; omega) (fun p hp => ci_diskOk1 p) rfl ?_ | refine req (by first | omega | assumption | exact commP_of (by kernel_rfl) | (simp only [LEN, List.length_append, List.length_cons, List.length_nil]; omega) | (simp [D.one]; omega) | (simp [D.one]; done)) ?_); simp -implicitDefEqProofs (maxSteps := 3000000) only [go_sem, reduceCtorEq, d1, d2, g3])
        have : ¬ diskOk d := fun h => by
          obtain ⟨s, hs, hb⟩ := List.any_eq_true.1 g3
          have := h.2.2.2.1 s hs
          simp at hb; omega
        simp [this]
  · have d1 := decide_eq_false g1
    repeat ((first | refine ki_in _ _ _ rfl ?_ | refine req (by first | omega | assumption | exact commP_of (by kernel_rfl) | (simp only [LEN, List.length_append, List.length_cons, List.length_nil]; omega) | (simp [D.one]; omega) | (simp [D.one]; done)) ?_); simp -implicitDefEqProofs (maxSteps := 3000000) only [go_sem, reduceCtorEq, d1])
    have : ¬ diskOk d := fun h => g1 ⟨by have := h.1; omega, by have := h.2.1; omega⟩
    simp [this]
theorem ki_DiskOk {h : Heap} {tb : Nat} {K : OK} {args : List V} {ls : List Nat} (d : GDisk) (hd : smallD d) (hg : toDs h args = some ([.agg d.cells], ls))
    (hk : K (renV (bk tb ([])) (.d (.bool (decide (diskOk d))))) (updN tb ([]) ([]))) : callVC Go.Proofs.Try.prog h tb 128 args K :=
  call_free hg (ci_DiskOk d hd) rfl (.inr ⟨flat_of rfl, flatHB_of rfl⟩) hk

/-! giving a page -/
@[go_sem] def hr109 : Hints
  | 0 => [0] | 1 => [1, 2] | 2 => [1, 2, 4] | 3 => [2, 4, 5] | 4 => [1, 2, 4, 5] | 5 => [1, 2, 4] | 6 => [2, 4, 5] | 7 => [1, 2, 4, 5] | 8 => [2, 4] | 9 => [2, 4, 5] | 10 => [2, 4, 5] | _ => []
@[go_sem] def hl109 : Hints := fun _ => []
attribute [go_sem] Go.Proofs.Try.results109
set_option maxRecDepth 100000 in
set_option maxHeartbeats 2000000 in
theorem ci_GivePage (w : GWork) (hw : smallW w) : CallOK Go.Proofs.Try.prog 109 [.d (.agg w.cells)] [] [.dead] (.tup [(giveO w).1.v, .d (.int .i64 (giveO w).2)]) (giveO w).1.h := by
  refine call_of tysZOK mixedZ Go.Proofs.Try.func109 (by kernel_rfl) rfl (np := [false]) (by kernel_rfl) hr109 hl109 (by simp [Go.Proofs.Try.ntmps109]) ?_
  have hw' := hw
  obtain ⟨⟨h1, h2⟩, h3, h4, h5⟩ := hw'
  simp -implicitDefEqProofs (maxSteps := 3000000) only [go_sem, reduceCtorEq, GWork.cells]
  refine ki_cloneWork w hw rfl ?_
  simp -implicitDefEqProofs (maxSteps := 3000000) only [go_sem, reduceCtorEq]
  rw [giveO]
  cases hu : w.fUsable with
  | nil =>
    have d0 : decide ((0 : Int) < ((0 : Nat) : Int)) = false := rfl
    by_cases hn : (w.fDisk.fPages.length : Int) ≤ w.fNext
    · have dn := decide_eq_true hn
      simp only [if_pos hn]
      simp -implicitDefEqProofs (maxSteps := 3000000) only [go_sem, reduceCtorEq, d0, dn, OW.v_eq, OW.h_eq, ofW, hu]
    · have dn := decide_eq_false hn
      simp only [if_neg hn]
      simp -implicitDefEqProofs (maxSteps := 3000000) only [go_sem, reduceCtorEq, d0, dn, OW.v_eq, OW.h_eq, ofW, hu]
      repeat ((first | refine req (by first | omega | assumption | exact commP_of (by kernel_rfl) | (simp only [LEN, List.length_append, List.length_cons, List.length_nil]; omega) | (simp [D.one]; omega) | (simp [D.one]; done)) ?_); simp -implicitDefEqProofs (maxSteps := 3000000) only [go_sem, reduceCtorEq, d0, dn, OW.v_eq, OW.h_eq, ofW, hu])
      simp
  | cons u us =>
    have d0 : decide ((0 : Int) < ((us.length + 1 : Nat) : Int)) = true := decide_eq_true (by omega)
    have hg0 : lget (ints (u :: us)) 0 = [.int .i64 u] := lget_ints rfl
    simp -implicitDefEqProofs (maxSteps := 3000000) only [go_sem, reduceCtorEq, OW.v_eq, OW.h_eq, ofW, hu, d0, hg0]
    repeat ((first | refine req (by first | omega | assumption | exact commP_of (by kernel_rfl) | (simp only [LEN, List.length_append, List.length_cons, List.length_nil]; omega) | (simp [D.one]; omega) | (simp [D.one]; done)) ?_); simp -implicitDefEqProofs (maxSteps := 3000000) only [go_sem, reduceCtorEq, OW.v_eq, OW.h_eq, ofW, hu, d0, hg0])
    simp
theorem ki_GivePage {h : Heap} {tb : Nat} {K : OK} {args : List V} {ls : List Nat} (w : GWork) (hw : smallW w) (hg : toDs h args = some ([.agg w.cells], ls))
    (hk : K (renV (bk tb ((giveO w).1.h)) (.tup [(giveO w).1.v, .d (.int .i64 (giveO w).2)])) (updN tb ((giveO w).1.h) ((giveO w).1.h))) : callVC Go.Proofs.Try.prog h tb 109 args K :=
  call_free hg (ci_GivePage w hw) rfl (.inr ⟨flat_of rfl, flat_owh⟩) hk

/-! writing a page -/
def wrO (d : GDisk) (p : Int) (t : List UInt8) : List GPut := match writePage d p t with
  | some _ => d.fLate ++ [⟨p, t⟩]
  | none => d.fLate
@[go_sem] def hr110 : Hints
  | 0 => [0, 1, 2] | 1 => [1, 2, 3, 6] | 2 => [1, 2, 3, 6, 8] | 3 => [6, 8] | 4 => [1, 2, 6, 8] | 5 => [6, 8] | _ => []
@[go_sem] def hl110 : Hints := fun _ => []
attribute [go_sem] Go.Proofs.Try.results110
set_option maxRecDepth 100000 in
set_option maxHeartbeats 2000000 in
theorem ci_WritePage (d : GDisk) (p : Int) (t : List UInt8) (hd : smallD d) : CallOK Go.Proofs.Try.prog 110 [.d (.agg d.cells), .d (.int .i64 p), .d (.str t)] [] [.dead, .dead, .dead] (.tup [.agg [.own 0 0 d.fPages.length, .own 1 0 (wrO d p t).length], .d (.bool (writePage d p t).isSome)]) [(0, .arr 1 (strs d.fPages)), (1, .arr 2 (GPutS (wrO d p t)))] := by
  refine call_of tysZOK mixedZ Go.Proofs.Try.func110 (by kernel_rfl) rfl (np := [false, false, false]) (by kernel_rfl) hr110 hl110 (by simp [Go.Proofs.Try.ntmps110]) ?_
  have hd' := hd
  obtain ⟨h1, h2⟩ := hd'
  simp -implicitDefEqProofs (maxSteps := 3000000) only [go_sem, reduceCtorEq, GDisk.cells]
  refine ki_cloneDisk d hd rfl ?_
  simp -implicitDefEqProofs (maxSteps := 3000000) only [go_sem, reduceCtorEq]
  refine ki_DiskOk d hd rfl ?_
  by_cases g1 : diskOk d
  · have d1 := decide_eq_true g1
    by_cases g2 : isPage d p
    · have d2 := decide_eq_true g2
      by_cases g3 : (240 : Int) < t.length
      · have d3 := decide_eq_true g3
        have hw : writePage d p t = none := by rw [writePage, if_neg (fun h => by have := h.2.2.1; omega)]
        simp only [wrO, hw]
        simp -implicitDefEqProofs (maxSteps := 3000000) only [go_sem, reduceCtorEq, d1]
        repeat ((first | refine req (by first | omega | assumption | exact commP_of (by kernel_rfl) | (simp only [LEN, List.length_append, List.length_cons, List.length_nil]; omega) | (simp [D.one]; omega) | (simp [D.one]; done)) ?_ | refine ki_isPage d p (by omega) rfl ?_); simp -implicitDefEqProofs (maxSteps := 3000000) only [go_sem, reduceCtorEq, d1, d2, d3])
        rfl
      · have d3 := decide_eq_false g3
        by_cases g4 : (200 : Int) ≤ d.fLate.length
        · have d4 := decide_eq_true g4
          have hw : writePage d p t = none := by rw [writePage, if_neg (fun h => by have := h.2.2.2; omega)]
          simp only [wrO, hw]
          simp -implicitDefEqProofs (maxSteps := 3000000) only [go_sem, reduceCtorEq, d1]
          repeat ((first | refine req (by first | omega | assumption | exact commP_of (by kernel_rfl) | (simp only [LEN, List.length_append, List.length_cons, List.length_nil]; omega) | (simp [D.one]; omega) | (simp [D.one]; done)) ?_ | refine ki_isPage d p (by omega) rfl ?_); simp -implicitDefEqProofs (maxSteps := 3000000) only [go_sem, reduceCtorEq, d1, d2, d3, d4])
          rfl
        · have d4 := decide_eq_false g4
          have hw : writePage d p t = some { d with fLate := d.fLate ++ [⟨p, t⟩] } := by rw [writePage, if_pos ⟨g1, g2, by omega, by omega⟩]
          simp only [wrO, hw]
          simp -implicitDefEqProofs (maxSteps := 3000000) only [go_sem, reduceCtorEq, d1]
          repeat ((first | refine req (by first | omega | assumption | exact commP_of (by kernel_rfl) | (simp only [LEN, List.length_append, List.length_cons, List.length_nil]; omega) | (simp [D.one]; omega) | (simp [D.one]; done)) ?_ | refine ki_isPage d p (by omega) rfl ?_); simp -implicitDefEqProofs (maxSteps := 3000000) only [go_sem, reduceCtorEq, d1, d2, d3, d4])
          simp
    · have d2 := decide_eq_false g2
      have hw : writePage d p t = none := by rw [writePage, if_neg (fun h => g2 h.2.1)]
      simp only [wrO, hw]
      simp -implicitDefEqProofs (maxSteps := 3000000) only [go_sem, reduceCtorEq, d1]
      repeat ((first | refine req (by first | omega | assumption | exact commP_of (by kernel_rfl) | (simp only [LEN, List.length_append, List.length_cons, List.length_nil]; omega) | (simp [D.one]; omega) | (simp [D.one]; done)) ?_ | refine ki_isPage d p (by omega) rfl ?_); simp -implicitDefEqProofs (maxSteps := 3000000) only [go_sem, reduceCtorEq, d1, d2])
      rfl
  · have d1 := decide_eq_false g1
    have hw : writePage d p t = none := by rw [writePage, if_neg (fun h => g1 h.1)]
    simp only [wrO, hw]
    simp -implicitDefEqProofs (maxSteps := 3000000) only [go_sem, reduceCtorEq, d1]
    repeat ((first | refine req (by first | omega | assumption | exact commP_of (by kernel_rfl) | (simp only [LEN, List.length_append, List.length_cons, List.length_nil]; omega) | (simp [D.one]; omega) | (simp [D.one]; done)) ?_); simp -implicitDefEqProofs (maxSteps := 3000000) only [go_sem, reduceCtorEq, d1])
    rfl
theorem ki_WritePage {h : Heap} {tb : Nat} {K : OK} {args : List V} {ls : List Nat} (d : GDisk) (p : Int) (t : List UInt8) (hd : smallD d) (hg : toDs h args = some ([.agg d.cells, .int .i64 p, .str t], ls))
    (hk : K (renV (bk tb ([(0, .arr 1 (strs d.fPages)), (1, .arr 2 (GPutS (wrO d p t)))])) (.tup [.agg [.own 0 0 d.fPages.length, .own 1 0 (wrO d p t).length], .d (.bool (writePage d p t).isSome)])) (updN tb ([(0, .arr 1 (strs d.fPages)), (1, .arr 2 (GPutS (wrO d p t)))]) ([(0, .arr 1 (strs d.fPages)), (1, .arr 2 (GPutS (wrO d p t)))]))) : callVC Go.Proofs.Try.prog h tb 110 args K :=
  call_free hg (ci_WritePage d p t hd) rfl (.inr ⟨flat_of rfl, by repeat (first | exact flatH_nil | refine flatH_cons (by first | exact flat_ints | exact flat_strs | exact flat_bls | exact flat_bys | exact flat_GPutS | exact flat_GPairS | exact flat_GFieldS | exact flat_GValueS) ?_)⟩) hk

@[go_sem] def hr108 : Hints
  | 0 => [0] | 1 => [1] | 2 => [] | 3 => [1] | 4 => [1, 4] | 5 => [1] | 6 => [1, 4] | 7 => [1, 4] | 8 => [1, 4, 19, 20, 21] | 9 => [1, 4, 19, 20, 21] | 10 => [1, 4, 5, 6, 19, 20, 21] | 11 => [1, 4, 5, 19, 20, 21] | 12 => [1, 4, 5, 19, 20, 21] | 13 => [1, 4, 5, 19, 20, 21] | 14 => [1, 4, 19, 20, 21] | 15 => [4] | _ => []
@[go_sem] def hl108 : Hints
  | 8 => [1, 4, 19, 20, 21] | _ => []
attribute [go_sem] Go.Proofs.Try.results108
set_option maxRecDepth 100000 in
set_option maxHeartbeats 2000000 in
theorem ci_NodeText (n : GNode) (h1 : n.fKeys.length ≤ LEN) (h2 : n.fVals.length ≤ LEN) (h3 : n.fKids.length ≤ LEN) : CallOK Go.Proofs.Try.prog 108 [.d (.agg n.cells)] [] [.dead] (textV n) [] := by
  refine call_of tysZOK mixedZ Go.Proofs.Try.func108 (by kernel_rfl) rfl (np := [false]) (by kernel_rfl) hr108 hl108 (by simp [Go.Proofs.Try.ntmps108]) ?_
  simp -implicitDefEqProofs (maxSteps := 3000000) only [go_sem, reduceCtorEq, GNode.cells]
  refine ki_NodeOk n h1 h2 h3 rfl ?_
  simp -implicitDefEqProofs (maxSteps := 3000000) only [go_sem, reduceCtorEq]
  (first | (refine way_dec (fun h5 => ?_) (fun h5 => ?_)) | (refine way_ndec (fun h5 => ?_) (fun h5 => ?_)) | (refine wayT_dec (fun h5 => ?_) (fun h5 => ?_)) | (refine wayF_dec (fun h5 => ?_) (fun h5 => ?_)) | (refine wayT_ndec (fun h5 => ?_) (fun h5 => ?_)) | (refine wayF_ndec (fun h5 => ?_) (fun h5 => ?_)) | (refine way_not (fun h5 => ?_) (fun h5 => ?_)) | (refine way (fun h5 => ?_) (fun h5 => ?_)) | (refine wayT (fun h5 => ?_) (fun h5 => ?_)) | (refine wayF (fun h5 => ?_) (fun h5 => ?_)))
  · simp -implicitDefEqProofs (maxSteps := 3000000) only [go_sem, reduceCtorEq]
    rw [textV, if_neg h5, decide_eq_false h5]
  · have hn := h5
    have hb0 := nodeBytes_len h5
    have hk : n.fKeys.length ≤ 4 := hn.2.1
    have hv1 := varB_len1 (n := n.fKeys.length) (by omega)
    have hkl := hn.2.2.2.1
    rw [textV, if_pos h5, decide_eq_true h5]
    cases hl : n.fLeaf
    · have hiff := (nodeOk_branch hl).1 hn
      simp -implicitDefEqProofs (maxSteps := 3000000) only [go_sem, reduceCtorEq]
      repeat ((first | refine req (by first | omega | assumption | exact commP_of (by kernel_rfl) | (simp only [LEN, List.length_append, List.length_cons, List.length_nil]; omega) | (simp [D.one]; omega) | (simp [D.one]; done)) ?_ | refine ki_varText n.fKeys.length (by omega) rfl ?_); simp -implicitDefEqProofs (maxSteps := 3000000) only [go_sem, reduceCtorEq])
      have hh : headB n = 98 :: varB n.fKeys.length := by simp [headB, hl]
      refine loop_data (α := Nat) (fun i => ⟨[(1, .ref 0 0), (4, .d (.str (headB n ++ entB n i))), (19, .d (.sl (strs n.fKeys))), (20, .d (.int .i64 n.fKeys.length)), (21, .d (.int .i64 i))], [(0, some (.box [.d (.bool false), .d (.sl (strs n.fKeys)), .d (.sl (strs n.fVals)), .d (.sl (ints n.fKids))]))]⟩)
        (fun i => i ≤ n.fKeys.length) (fun i => n.fKeys.length - i) 0 (by rw [entB_zero, hh]; rfl) (Nat.zero_le _) ?_
      rintro i i1
      have hb := entB_len hn (i := i)
      simp only [List.length_append] at hb
      simp -implicitDefEqProofs (maxSteps := 3000000) only [go_sem, reduceCtorEq]
      (first | (refine way_dec (fun h6 => ?_) (fun h6 => ?_)) | (refine way_ndec (fun h6 => ?_) (fun h6 => ?_)) | (refine wayT_dec (fun h6 => ?_) (fun h6 => ?_)) | (refine wayF_dec (fun h6 => ?_) (fun h6 => ?_)) | (refine wayT_ndec (fun h6 => ?_) (fun h6 => ?_)) | (refine wayF_ndec (fun h6 => ?_) (fun h6 => ?_)) | (refine way_not (fun h6 => ?_) (fun h6 => ?_)) | (refine way (fun h6 => ?_) (fun h6 => ?_)) | (refine wayT (fun h6 => ?_) (fun h6 => ?_)) | (refine wayF (fun h6 => ?_) (fun h6 => ?_)))
      · obtain ⟨p, hp⟩ := some_at h6
        obtain ⟨q, hq⟩ := some_at (l := n.fKids) (i := i) (by omega)
        have hpl := hkl p (List.mem_of_getElem? hp)
        have hql := hiff.2.2.2.2.2.1 q (List.mem_of_getElem? hq)
        have hs := shortB_len hpl
        have hb2 := entB_len hn (i := i + 1)
        rw [entB_branch hl hp hq, ← List.append_assoc, ← List.append_assoc, List.length_append, List.length_append, List.length_append] at hb2
        obtain ⟨q, rfl⟩ := Int.eq_ofNat_of_zero_le (show 0 ≤ q by omega)
        rw [Int.toNat_natCast] at hb2
        simp -implicitDefEqProofs (maxSteps := 3000000) only [go_sem, reduceCtorEq, lget_strs hp, lget_ints hq]
        repeat ((first | refine req (by first | omega | assumption | exact commP_of (by kernel_rfl) | (simp only [LEN, List.length_append, List.length_cons, List.length_nil]; omega) | (simp [D.one]; omega) | (simp [D.one]; done)) ?_ | refine ki_Short p (by omega) rfl ?_ | refine ki_varText q (by omega) rfl ?_); simp -implicitDefEqProofs (maxSteps := 3000000) only [go_sem, reduceCtorEq, lget_strs hp, lget_ints hq])
        rw [wrap_succ (by simp only [LEN]; omega)]
        refine next_data (i + 1) ?_ (by omega) (by omega)
        rw [entB_branch hl hp hq]; simp
      · simp -implicitDefEqProofs (maxSteps := 3000000) only [go_sem, reduceCtorEq]
        rw [entB_all hn (by omega)]
        refine ki_Sealed (nodeBytes n) (by omega) rfl ?_
        simp -implicitDefEqProofs (maxSteps := 3000000) only [go_sem, reduceCtorEq]
        rfl
    · have hiff := (nodeOk_leaf hl).1 hn
      simp -implicitDefEqProofs (maxSteps := 3000000) only [go_sem, reduceCtorEq]
      repeat ((first | refine req (by first | omega | assumption | exact commP_of (by kernel_rfl) | (simp only [LEN, List.length_append, List.length_cons, List.length_nil]; omega) | (simp [D.one]; omega) | (simp [D.one]; done)) ?_ | refine ki_varText n.fKeys.length (by omega) rfl ?_); simp -implicitDefEqProofs (maxSteps := 3000000) only [go_sem, reduceCtorEq])
      have hh : headB n = 108 :: varB n.fKeys.length := by simp [headB, hl]
      refine loop_data (α := Nat) (fun i => ⟨[(1, .ref 0 0), (4, .d (.str (headB n ++ entB n i))), (19, .d (.sl (strs n.fKeys))), (20, .d (.int .i64 n.fKeys.length)), (21, .d (.int .i64 i))], [(0, some (.box [.d (.bool true), .d (.sl (strs n.fKeys)), .d (.sl (strs n.fVals)), .d (.sl (ints n.fKids))]))]⟩)
        (fun i => i ≤ n.fKeys.length) (fun i => n.fKeys.length - i) 0 (by rw [entB_zero, hh]; rfl) (Nat.zero_le _) ?_
      rintro i i1
      have hb := entB_len hn (i := i)
      simp only [List.length_append] at hb
      simp -implicitDefEqProofs (maxSteps := 3000000) only [go_sem, reduceCtorEq]
      (first | (refine way_dec (fun h6 => ?_) (fun h6 => ?_)) | (refine way_ndec (fun h6 => ?_) (fun h6 => ?_)) | (refine wayT_dec (fun h6 => ?_) (fun h6 => ?_)) | (refine wayF_dec (fun h6 => ?_) (fun h6 => ?_)) | (refine wayT_ndec (fun h6 => ?_) (fun h6 => ?_)) | (refine wayF_ndec (fun h6 => ?_) (fun h6 => ?_)) | (refine way_not (fun h6 => ?_) (fun h6 => ?_)) | (refine way (fun h6 => ?_) (fun h6 => ?_)) | (refine wayT (fun h6 => ?_) (fun h6 => ?_)) | (refine wayF (fun h6 => ?_) (fun h6 => ?_)))
      · obtain ⟨p, hp⟩ := some_at h6
        obtain ⟨q, hq⟩ := some_at (l := n.fVals) (i := i) (by omega)
        have hpl := hkl p (List.mem_of_getElem? hp)
        have hql := hiff.2.2.2.2.1 q (List.mem_of_getElem? hq)
        have hs := shortB_len hpl
        have hb2 := entB_len hn (i := i + 1)
        rw [entB_leaf hl hp hq, ← List.append_assoc, ← List.append_assoc, List.length_append, List.length_append, List.length_append] at hb2
        simp -implicitDefEqProofs (maxSteps := 3000000) only [go_sem, reduceCtorEq, lget_strs hp, lget_strs hq]
        repeat ((first | refine req (by first | omega | assumption | exact commP_of (by kernel_rfl) | (simp only [LEN, List.length_append, List.length_cons, List.length_nil]; omega) | (simp [D.one]; omega) | (simp [D.one]; done)) ?_ | refine ki_Short p (by omega) rfl ?_ | refine ki_Short q (by omega) rfl ?_); simp -implicitDefEqProofs (maxSteps := 3000000) only [go_sem, reduceCtorEq, lget_strs hp, lget_strs hq])
        rw [wrap_succ (by simp only [LEN]; omega)]
        refine next_data (i + 1) ?_ (by omega) (by omega)
        rw [entB_leaf hl hp hq]; simp
      · simp -implicitDefEqProofs (maxSteps := 3000000) only [go_sem, reduceCtorEq]
        rw [entB_all hn (by omega)]
        refine ki_Sealed (nodeBytes n) (by omega) rfl ?_
        simp -implicitDefEqProofs (maxSteps := 3000000) only [go_sem, reduceCtorEq]
        rfl
theorem ki_NodeText {h : Heap} {tb : Nat} {K : OK} {args : List V} {ls : List Nat} (n : GNode) (h1 : n.fKeys.length ≤ LEN) (h2 : n.fVals.length ≤ LEN) (h3 : n.fKids.length ≤ LEN) (hg : toDs h args = some ([.agg n.cells], ls))
    (hk : K (renV (bk tb ([])) (textV n)) (updN tb ([]) ([]))) : callVC Go.Proofs.Try.prog h tb 108 args K :=
  call_free hg (ci_NodeText n h1 h2 h3) rfl (.inr ⟨flat_of rfl, flatHB_of rfl⟩) hk
end Go.Rx

namespace Go.Rx
open Go
attribute [local irreducible] Req Way WayG Sel callVC CallOK
set_option linter.unusedSimpArgs false
set_option linter.unusedVariables false

theorem putN_none1 {w : GWork} {n : GNode} (h : ¬ nodeOk n) : putN w n = none := by rw [putN, if_neg h]
theorem putN_none2 {w : GWork} {n : GNode} (h : (giveO w).2 = 0) : putN w n = none := by
  have := giveO_eq (w := w)
  unfold putN
  split
  · rw [if_pos (by rw [← this]; exact h)]
  · rfl
theorem putN_write {w : GWork} {n : GNode} (h1 : nodeOk n) (h2 : ¬ (giveO w).2 = 0) : putN w n = match writePage ⟨(giveO w).1.pages, (giveO w).1.late⟩ (giveO w).2 (nodeText n) with
    | none => none
    | some d => some ({ (giveP w).1 with fDisk := d }, (giveO w).2) := by
  have := giveO_eq (w := w)
  unfold putN
  rw [if_pos h1, if_neg (by rw [← this]; exact h2), ← this]
  rfl
theorem giveO_small {w : GWork} (h : smallW w) : smallD ⟨(giveO w).1.pages, (giveO w).1.late⟩ := by
  obtain ⟨e1, e2⟩ := giveO_disk (w := w)
  unfold smallD
  rw [e1, e2]; exact h.1

@[go_sem] def hr90 : Hints
  | 0 => [0, 1] | 1 => [2, 3, 4] | 2 => [2, 4, 6, 7] | 3 => [2, 4] | 4 => [2, 4, 6] | 5 => [2, 4, 6, 8, 9] | 6 => [2, 4] | 7 => [2, 4, 6, 8, 9] | 8 => [2, 4, 7, 8, 9, 10] | 9 => [2, 4] | 10 => [4, 8, 9, 10] | 11 => [4, 8, 9] | _ => []
@[go_sem] def hl90 : Hints := fun _ => []
attribute [go_sem] Go.Proofs.Try.results90
set_option maxRecDepth 100000 in
set_option maxHeartbeats 2000000 in
theorem ci_PutNode (w : GWork) (n : GNode) (hw : smallW w) (h1 : n.fKeys.length ≤ LEN) (h2 : n.fVals.length ≤ LEN) (h3 : n.fKids.length ≤ LEN) : CallOK Go.Proofs.Try.prog 90 [.d (.agg w.cells), .d (.agg n.cells)] [] [.dead, .dead] (.tup [(putO w n).1.v, .d (.int .i64 (putO w n).2)]) (putO w n).1.h := by
  refine call_of tysZOK mixedZ Go.Proofs.Try.func90 (by kernel_rfl) rfl (np := [false, false]) (by kernel_rfl) hr90 hl90 (by simp [Go.Proofs.Try.ntmps90]) ?_
  simp -implicitDefEqProofs (maxSteps := 3000000) only [go_sem, reduceCtorEq, GWork.cells, GNode.cells]
  refine ki_NodeText n h1 h2 h3 rfl ?_
  simp only [textV]
  by_cases hn : nodeOk n
  · have dn := decide_eq_true hn
    simp -implicitDefEqProofs (maxSteps := 3000000) only [go_sem, reduceCtorEq, dn]
    refine ki_GivePage w hw rfl ?_
    simp -implicitDefEqProofs (maxSteps := 3000000) only [go_sem, reduceCtorEq, OW.v_eq, OW.h_eq]
    by_cases hp : (giveO w).2 = 0
    · have dp := decide_eq_true hp
      rw [putO, putN_none2 hp]
      simp -implicitDefEqProofs (maxSteps := 3000000) only [go_sem, reduceCtorEq, dp]
      repeat ((first | refine req (by first | omega | assumption | exact commP_of (by kernel_rfl) | (simp only [LEN, List.length_append, List.length_cons, List.length_nil]; omega) | (simp [D.one]; omega) | (simp [D.one]; done)) ?_ | refine ki_cloneWork w hw rfl ?_); simp -implicitDefEqProofs (maxSteps := 3000000) only [go_sem, reduceCtorEq, OW.v_eq, OW.h_eq])
      rfl
    · have dp := decide_eq_false hp
      have hs := giveO_small hw
      have hpw := putN_write hn hp
      simp -implicitDefEqProofs (maxSteps := 3000000) only [go_sem, reduceCtorEq, dp, if_pos hn]
      refine ki_WritePage ⟨(giveO w).1.pages, (giveO w).1.late⟩ (giveO w).2 (nodeText n) hs (by simp -implicitDefEqProofs (maxSteps := 3000000) only [go_sem, reduceCtorEq]; try rfl) ?_
      rw [putO]
      cases hwr : writePage ⟨(giveO w).1.pages, (giveO w).1.late⟩ (giveO w).2 (nodeText n) with
      | none =>
        rw [hwr] at hpw
        simp only at hpw
        rw [hpw]
        simp only [wrO, hwr, Option.isSome_none]
        simp -implicitDefEqProofs (maxSteps := 3000000) only [go_sem, reduceCtorEq, OW.v_eq, OW.h_eq]
        repeat ((first | refine req (by first | omega | assumption | exact commP_of (by kernel_rfl) | (simp only [LEN, List.length_append, List.length_cons, List.length_nil]; omega) | (simp [D.one]; omega) | (simp [D.one]; done)) ?_ | refine ki_cloneWork w hw rfl ?_); simp -implicitDefEqProofs (maxSteps := 3000000) only [go_sem, reduceCtorEq, OW.v_eq, OW.h_eq])
        rfl
      | some d =>
        rw [hwr] at hpw
        simp only at hpw
        rw [hpw]
        simp only [wrO, hwr, Option.isSome_some]
        simp -implicitDefEqProofs (maxSteps := 3000000) only [go_sem, reduceCtorEq, OW.v_eq, OW.h_eq]
        repeat ((first | refine req (by first | omega | assumption | exact commP_of (by kernel_rfl) | (simp only [LEN, List.length_append, List.length_cons, List.length_nil]; omega) | (simp [D.one]; omega) | (simp [D.one]; done)) ?_); simp -implicitDefEqProofs (maxSteps := 3000000) only [go_sem, reduceCtorEq, OW.v_eq, OW.h_eq])
  · have dn := decide_eq_false hn
    rw [putO, putN_none1 hn]
    simp -implicitDefEqProofs (maxSteps := 3000000) only [go_sem, reduceCtorEq, dn]
    repeat ((first | refine req (by first | omega | assumption | exact commP_of (by kernel_rfl) | (simp only [LEN, List.length_append, List.length_cons, List.length_nil]; omega) | (simp [D.one]; omega) | (simp [D.one]; done)) ?_ | refine ki_cloneWork w hw rfl ?_); simp -implicitDefEqProofs (maxSteps := 3000000) only [go_sem, reduceCtorEq, OW.v_eq, OW.h_eq])
    rfl
theorem ki_PutNode {h : Heap} {tb : Nat} {K : OK} {args : List V} {ls : List Nat} (w : GWork) (n : GNode) (hw : smallW w) (h1 : n.fKeys.length ≤ LEN) (h2 : n.fVals.length ≤ LEN) (h3 : n.fKids.length ≤ LEN) (hg : toDs h args = some ([.agg w.cells, .agg n.cells], ls))
    (hk : K (renV (bk tb ((putO w n).1.h)) (.tup [(putO w n).1.v, .d (.int .i64 (putO w n).2)])) (updN tb ((putO w n).1.h) ((putO w n).1.h))) : callVC Go.Proofs.Try.prog h tb 90 args K :=
  call_free hg (ci_PutNode w n hw h1 h2 h3) rfl (.inr ⟨flat_of rfl, flat_owh⟩) hk
end Go.Rx

namespace Go.Rx
open Go
attribute [local irreducible] Req Way WayG Sel callVC CallOK
set_option linter.unusedSimpArgs false
set_option linter.unusedVariables false

@[go_sem] def hr65 : Hints
  | 0 => [0, 1] | 1 => [0, 3] | 2 => [0] | 3 => [0, 3] | 4 => [0, 5, 6] | 5 => [0] | 6 => [0] | 7 => [0, 5, 6] | 8 => [0, 6] | _ => []
@[go_sem] def hl65 : Hints := fun _ => []
attribute [go_sem] Go.Proofs.Try.results65
set_option maxRecDepth 100000 in
set_option maxHeartbeats 2000000 in
theorem ci_chput (c : Ch) (n : GNode) (hw : smallW c.w.work) (h1 : n.fKeys.length ≤ LEN) (h2 : n.fVals.length ≤ LEN) (h3 : n.fKids.length ≤ LEN) : CallOK Go.Proofs.Try.prog 65 [.ref 0 0, .d (.agg n.cells)] c.h [.ref 0 0, .dead] (.d (.int .i64 (chPut c n).2)) (chPut c n).1.h := by
  obtain ⟨w, bad⟩ := c
  refine call_of tysZOK mixedZ Go.Proofs.Try.func65 (by kernel_rfl) rfl (np := [true, false]) (by kernel_rfl) hr65 hl65 (by simp [Go.Proofs.Try.ntmps65]) ?_
  simp -implicitDefEqProofs (maxSteps := 3000000) only [go_sem, reduceCtorEq, Ch.h, GNode.cells]
  cases bad
  · simp -implicitDefEqProofs (maxSteps := 3000000) only [go_sem, reduceCtorEq]
    refine ki_PutNode w.work n hw h1 h2 h3 (by simp -implicitDefEqProofs (maxSteps := 3000000) only [go_sem, reduceCtorEq, OW.work_cells, GNode.cells]; try rfl) ?_
    have hc : chPut ⟨w, false⟩ n = bif decide ((putO w.work n).2 = 0) then (⟨w, true⟩, 0) else (⟨(putO w.work n).1, false⟩, (putO w.work n).2) := rfl
    rw [hc]
    cases hp : decide ((putO w.work n).2 = 0)
    · simp -implicitDefEqProofs (maxSteps := 3000000) only [go_sem, reduceCtorEq, OW.v_eq, OW.h_eq, hp]
      repeat ((first | refine req (by first | omega | assumption | exact commP_of (by kernel_rfl) | (simp only [LEN, List.length_append, List.length_cons, List.length_nil]; omega) | (simp [D.one]; omega) | (simp [D.one]; done)) ?_); simp -implicitDefEqProofs (maxSteps := 3000000) only [go_sem, reduceCtorEq, OW.v_eq, OW.h_eq, hp])
      rfl
    · simp -implicitDefEqProofs (maxSteps := 3000000) only [go_sem, reduceCtorEq, OW.v_eq, OW.h_eq, hp]
      repeat ((first | refine req (by first | omega | assumption | exact commP_of (by kernel_rfl) | (simp only [LEN, List.length_append, List.length_cons, List.length_nil]; omega) | (simp [D.one]; omega) | (simp [D.one]; done)) ?_); simp -implicitDefEqProofs (maxSteps := 3000000) only [go_sem, reduceCtorEq, OW.v_eq, OW.h_eq, hp])
      rfl
  · simp -implicitDefEqProofs (maxSteps := 3000000) only [go_sem, reduceCtorEq, chPut]
    rfl
end Go.Rx

namespace Go.Rx
open Go
attribute [local irreducible] Req Way WayG Sel callVC CallOK
set_option linter.unusedSimpArgs false
set_option linter.unusedVariables false

@[go_sem] def hr35 : Hints
  | 0 => [0, 1] | 1 => [0, 1] | 2 => [0, 1, 5] | 3 => [0, 1, 5, 6] | 4 => [0, 1, 5, 6] | 5 => [0, 1, 5, 6] | 6 => [0, 1, 5, 6, 7] | 7 => [0, 1, 5, 6, 7, 25, 26, 27] | 8 => [0, 1, 5, 6, 7, 25, 26, 27] | 9 => [0, 1, 5, 6, 7, 9, 25, 26, 27] | 10 => [0, 1, 5, 6, 7, 9, 25, 26, 27] | 11 => [0, 1, 5, 6, 7, 25, 26, 27] | 12 => [0, 1, 5, 6, 7] | 13 => [0, 1, 5, 6] | 14 => [0, 5] | _ => []
@[go_sem] def hl35 : Hints
  | 3 => [0, 1, 5, 6] | 7 => [0, 1, 5, 6, 7, 25, 26, 27] | _ => []
attribute [go_sem] Go.Proofs.Try.results35
set_option maxRecDepth 100000 in
set_option maxHeartbeats 2000000 in
theorem ci_leaves (c : Ch) (l : List GPair) (hw : smallW c.w.work) (hb : c.bad = false) (hl : l.length ≤ 1048576) : CallOK Go.Proofs.Try.prog 35 [.ref 0 0, .d (.sl (GPairS l))] c.h [.ref 0 0, .dead] (.own 6 0 (leavesA c [] (chunk4 l)).2.length) ((leavesA c [] (chunk4 l)).1.h ++ [(6, .arr 2 (GFieldS (leavesA c [] (chunk4 l)).2))]) := by
  refine call_of tysZOK mixedZ Go.Proofs.Try.func35 (by kernel_rfl) rfl (np := [true, false]) (by kernel_rfl) hr35 hl35 (by simp [Go.Proofs.Try.ntmps35]) ?_
  simp -implicitDefEqProofs (maxSteps := 3000000) only [go_sem, reduceCtorEq, chh_eq]
  refine loop_data (α := Nat × Ch × List GKid) (fun x => ⟨[(0, .ref 0 0), (1, .d (.sl (GPairS l))), (5, .own 6 0 x.2.2.length), (6, .d (.int .i64 ((4 * x.1 : Nat) : Int)))],
      [(0, some (.box [.own 1 0 x.2.1.w.pages.length, .own 2 0 x.2.1.w.late.length, .d (.int .i64 x.2.1.w.next), .own 3 x.2.1.w.uo (x.2.1.w.ua.length - x.2.1.w.uo), .own 4 0 x.2.1.w.gone.length, .own 5 0 x.2.1.w.fresh.length, .d (.bool x.2.1.bad)])),
       (1, some (.arr 1 (strs x.2.1.w.pages))), (2, some (.arr 2 (GPutS x.2.1.w.late))), (3, some (.arr 1 (ints x.2.1.w.ua))), (4, some (.arr 1 (ints x.2.1.w.gone))), (5, some (.arr 1 (ints x.2.1.w.fresh))), (6, some (.arr 2 (GFieldS x.2.2)))]⟩)
    (fun x => 4 * x.1 ≤ l.length + 3 ∧ x.2.1.bad = false ∧ smallW x.2.1.w.work ∧ x.2.2.length = x.1 ∧ leavesA x.2.1 x.2.2 (chunk4 (l.drop (4 * x.1))) = leavesA c [] (chunk4 l)) (fun x => l.length + 4 - 4 * x.1) (0, c, []) rfl ⟨by omega, hb, hw, rfl, by rw [Nat.mul_zero, List.drop_zero]⟩ ?_
  rintro ⟨j, c, out⟩ ⟨i1, i2, i3, i4, i5⟩
  simp only at i1 i2 i3 i4 i5
  simp -implicitDefEqProofs (maxSteps := 3000000) only [go_sem, reduceCtorEq]
  (first | (refine way_dec (fun h5 => ?_) (fun h5 => ?_)) | (refine way_ndec (fun h5 => ?_) (fun h5 => ?_)) | (refine wayT_dec (fun h5 => ?_) (fun h5 => ?_)) | (refine wayF_dec (fun h5 => ?_) (fun h5 => ?_)) | (refine wayT_ndec (fun h5 => ?_) (fun h5 => ?_)) | (refine wayF_ndec (fun h5 => ?_) (fun h5 => ?_)) | (refine way_not (fun h5 => ?_) (fun h5 => ?_)) | (refine way (fun h5 => ?_) (fun h5 => ?_)) | (refine wayT (fun h5 => ?_) (fun h5 => ?_)) | (refine wayF (fun h5 => ?_) (fun h5 => ?_)))
  · have w4 : IntKind.i64.wrap (((4 * j : Nat) : Int) + 4) = ((4 * (j + 1) : Nat) : Int) := by rw [wrap_int (by omega) (by omega)]; omega
    obtain ⟨e, hee⟩ : ∃ e : Nat, e = min (4 * (j + 1)) l.length := ⟨_, rfl⟩
    have hmin : (if ((4 * (j + 1) : Nat) : Int) < (l.length : Int) then ((4 * (j + 1) : Nat) : Int) else (l.length : Int)) = (e : Int) := by split <;> omega
    have hbd : ((GPairS l).take e).drop (4 * j) = GPairS ((l.drop (4 * j)).take 4) := by
      rw [List.drop_take, GPairS_drop, GPairS_take]
      congr 1
      by_cases h : 4 * (j + 1) ≤ l.length
      · rw [show e - 4 * j = 4 by omega]
      · rw [List.take_of_length_le (by simp; omega), List.take_of_length_le (by simp; omega)]
    simp -implicitDefEqProofs (maxSteps := 3000000) only [go_sem, reduceCtorEq, w4, hmin, if_true]
    repeat ((first | refine req (by first | omega | assumption | exact commP_of (by kernel_rfl) | (simp only [LEN, List.length_append, List.length_cons, List.length_nil]; omega) | (simp [D.one]; omega) | (simp [D.one]; done)) ?_); simp -implicitDefEqProofs (maxSteps := 3000000) only [go_sem, reduceCtorEq, w4, hmin, hbd, if_true])
    obtain ⟨b, hb2⟩ : ∃ b, b = (l.drop (4 * j)).take 4 := ⟨_, rfl⟩
    have hbl : b.length = e - 4 * j := by rw [hb2]; simp; omega
    rw [← hb2] at hbd
    refine loop_data (α := Nat) (fun i => ⟨[(0, .ref 0 0), (1, .d (.sl (GPairS l))), (5, .own 6 0 out.length), (6, .d (.int .i64 ((4 * j : Nat) : Int))), (7, .ref 7 0), (25, .d (.sl (GPairS b))), (26, .d (.int .i64 b.length)), (27, .d (.int .i64 i))],
        [(0, some (.box [.own 1 0 c.w.pages.length, .own 2 0 c.w.late.length, .d (.int .i64 c.w.next), .own 3 c.w.uo (c.w.ua.length - c.w.uo), .own 4 0 c.w.gone.length, .own 5 0 c.w.fresh.length, .d (.bool c.bad)])),
         (1, some (.arr 1 (strs c.w.pages))), (2, some (.arr 2 (GPutS c.w.late))), (3, some (.arr 1 (ints c.w.ua))), (4, some (.arr 1 (ints c.w.gone))), (5, some (.arr 1 (ints c.w.fresh))), (6, some (.arr 2 (GFieldS out))),
         (7, some (.box [.d (.bool true), .own 8 0 ((b.take i).map (·.fKey)).length, .own 9 0 ((b.take i).map (·.fVal)).length, .own 10 0 0])), (8, some (.arr 1 (strs ((b.take i).map (·.fKey))))), (9, some (.arr 1 (strs ((b.take i).map (·.fVal))))), (10, some (.arr 1 []))]⟩)
      (fun i => i ≤ b.length) (fun i => b.length - i) 0 ?_ (Nat.zero_le _) ?_
    · rw [← hb2]; rfl
    rintro i k1
    simp -implicitDefEqProofs (maxSteps := 3000000) only [go_sem, reduceCtorEq]
    (first | (refine way_dec (fun h6 => ?_) (fun h6 => ?_)) | (refine way_ndec (fun h6 => ?_) (fun h6 => ?_)) | (refine wayT_dec (fun h6 => ?_) (fun h6 => ?_)) | (refine wayF_dec (fun h6 => ?_) (fun h6 => ?_)) | (refine wayT_ndec (fun h6 => ?_) (fun h6 => ?_)) | (refine wayF_ndec (fun h6 => ?_) (fun h6 => ?_)) | (refine way_not (fun h6 => ?_) (fun h6 => ?_)) | (refine way (fun h6 => ?_) (fun h6 => ?_)) | (refine wayT (fun h6 => ?_) (fun h6 => ?_)) | (refine wayF (fun h6 => ?_) (fun h6 => ?_)))
    · obtain ⟨p, hp⟩ := some_at h6
      simp -implicitDefEqProofs (maxSteps := 3000000) only [go_sem, reduceCtorEq, lget_GPairS hp]
      repeat ((first | refine req (by first | omega | assumption | exact commP_of (by kernel_rfl) | (simp only [LEN, List.length_append, List.length_cons, List.length_nil]; omega) | (simp [D.one]; omega) | (simp [D.one]; done)) ?_); simp -implicitDefEqProofs (maxSteps := 3000000) only [go_sem, reduceCtorEq, lget_GPairS hp])
      refine next_data (i + 1) ?_ (by omega) (by omega)
      rw [take_snoc hp, wrap_succ (by simp only [LEN]; omega)]
      simp
    · have hb0 : 0 < b.length := by omega
      obtain ⟨q, hq⟩ := some_at (l := b) (i := 0) (by omega)
      have hk0 : lget (strs (b.map (·.fKey))) 0 = [.str (key1 b)] := by
        cases b with
        | nil => simp at hb0
        | cons x xs => rfl
      rw [List.take_of_length_le (show b.length ≤ i by omega)]
      simp -implicitDefEqProofs (maxSteps := 3000000) only [go_sem, reduceCtorEq]
      repeat ((first | refine req (by simp only [List.length_map]; omega) ?_ | refine req (by first | omega | assumption | exact commP_of (by kernel_rfl) | (simp only [LEN, List.length_append, List.length_cons, List.length_nil]; omega) | (simp [D.one]; omega) | (simp [D.one]; done)) ?_); simp -implicitDefEqProofs (maxSteps := 3000000) only [go_sem, reduceCtorEq, hk0])
      have hm : b.length ≤ 4 := by omega
      refine call_boxO false (n := 0) (xs := [.agg (leafB b).cells]) (ci_chput c (leafB b) i3 (by simp only [leafB, List.length_map, LEN]; omega) (by simp only [leafB, List.length_map, LEN]; omega) (by simp [leafB])) rfl rfl rfl (by simp -implicitDefEqProofs (maxSteps := 3000000) only [go_sem, reduceCtorEq, GNode.cells, leafB]; try rfl) rfl rfl rfl rfl (.inr (.inr ⟨flat_of rfl, flat_chh⟩)) ?_
      have hs2 := chPut_small (n := leafB b) i3
      have hstep : leavesA c out (chunk4 (l.drop (4 * j))) = bif (chPut c (leafB b)).1.bad then ((chPut c (leafB b)).1, out ++ [⟨key1 b, (chPut c (leafB b)).2⟩]) else leavesA (chPut c (leafB b)).1 (out ++ [⟨key1 b, (chPut c (leafB b)).2⟩]) (chunk4 (l.drop (4 * (j + 1)))) := by
        rw [chunk4_at (by omega), leavesA, ← hb2]; rfl
      rw [hstep] at i5
      generalize hv : chPut c (leafB b) = v at i5 hs2 ⊢
      obtain ⟨c2, pg⟩ := v
      simp only at i5 hs2
      simp -implicitDefEqProofs (maxSteps := 3000000) only [go_sem, reduceCtorEq, chh_eq]
      repeat ((first | refine req (by first | omega | assumption | exact commP_of (by kernel_rfl) | (simp only [LEN, List.length_append, List.length_cons, List.length_nil]; omega) | (simp [D.one]; omega) | (simp [D.one]; done)) ?_); simp -implicitDefEqProofs (maxSteps := 3000000) only [go_sem, reduceCtorEq, chh_eq])
      (first | (refine way_dec (fun h7 => ?_) (fun h7 => ?_)) | (refine way_ndec (fun h7 => ?_) (fun h7 => ?_)) | (refine wayT_dec (fun h7 => ?_) (fun h7 => ?_)) | (refine wayF_dec (fun h7 => ?_) (fun h7 => ?_)) | (refine wayT_ndec (fun h7 => ?_) (fun h7 => ?_)) | (refine wayF_ndec (fun h7 => ?_) (fun h7 => ?_)) | (refine way_not (fun h7 => ?_) (fun h7 => ?_)) | (refine way (fun h7 => ?_) (fun h7 => ?_)) | (refine wayT (fun h7 => ?_) (fun h7 => ?_)) | (refine wayF (fun h7 => ?_) (fun h7 => ?_)))
      · rw [h7, cond_true] at i5
        rw [← i5]
        simp -implicitDefEqProofs (maxSteps := 3000000) only [go_sem, reduceCtorEq]
        simp
        rfl
      · rw [h7, cond_false] at i5
        simp -implicitDefEqProofs (maxSteps := 3000000) only [go_sem, reduceCtorEq, w4]
        repeat ((first | refine req (by first | omega | assumption | exact commP_of (by kernel_rfl) | (simp only [LEN, List.length_append, List.length_cons, List.length_nil]; omega) | (simp [D.one]; omega) | (simp [D.one]; done)) ?_); simp -implicitDefEqProofs (maxSteps := 3000000) only [go_sem, reduceCtorEq, w4])
        refine next_data (j + 1, c2, out ++ [⟨key1 b, pg⟩]) ?_ ⟨by simp only; omega, h7, hs2, by simp; omega, i5⟩ (by simp only; omega)
        simp
  · have he : chunk4 (l.drop (4 * j)) = [] := chunk4_end (by omega)
    rw [he, leavesA] at i5
    rw [← i5]
    simp -implicitDefEqProofs (maxSteps := 3000000) only [go_sem, reduceCtorEq]
    rfl
end Go.Rx

namespace Go.Rx
open Go
attribute [local irreducible] Req Way WayG Sel callVC CallOK
set_option linter.unusedSimpArgs false
set_option linter.unusedVariables false

@[go_sem] def hr36 : Hints
  | 0 => [0, 1] | 1 => [0, 1] | 2 => [0, 1, 5] | 3 => [0, 1, 5, 6] | 4 => [0, 1, 5, 6] | 5 => [0, 1, 5, 6] | 6 => [0, 1, 5, 6, 7] | 7 => [0, 1, 5, 6, 7, 25, 26, 27] | 8 => [0, 1, 5, 6, 7, 25, 26, 27] | 9 => [0, 1, 5, 6, 7, 9, 25, 26, 27] | 10 => [0, 1, 5, 6, 7, 9, 25, 26, 27] | 11 => [0, 1, 5, 6, 7, 25, 26, 27] | 12 => [0, 1, 5, 6, 7] | 13 => [0, 5] | _ => []
@[go_sem] def hl36 : Hints
  | 3 => [0, 1, 5, 6] | 7 => [0, 1, 5, 6, 7, 25, 26, 27] | _ => []
attribute [go_sem] Go.Proofs.Try.results36
set_option maxRecDepth 100000 in
set_option maxHeartbeats 2000000 in
theorem ci_level (c : Ch) (l : List GKid) (hw : smallW c.w.work) (hl : l.length ≤ 1048576) : CallOK Go.Proofs.Try.prog 36 [.ref 0 0, .d (.sl (GFieldS l))] c.h [.ref 0 0, .dead] (.own 6 0 (levelA c [] (chunk4 l)).2.length) ((levelA c [] (chunk4 l)).1.h ++ [(6, .arr 2 (GFieldS (levelA c [] (chunk4 l)).2))]) := by
  refine call_of tysZOK mixedZ Go.Proofs.Try.func36 (by kernel_rfl) rfl (np := [true, false]) (by kernel_rfl) hr36 hl36 (by simp [Go.Proofs.Try.ntmps36]) ?_
  simp -implicitDefEqProofs (maxSteps := 3000000) only [go_sem, reduceCtorEq, chh_eq]
  refine loop_data (α := Nat × Ch × List GKid) (fun x => ⟨[(0, .ref 0 0), (1, .d (.sl (GFieldS l))), (5, .own 6 0 x.2.2.length), (6, .d (.int .i64 ((4 * x.1 : Nat) : Int)))],
      [(0, some (.box [.own 1 0 x.2.1.w.pages.length, .own 2 0 x.2.1.w.late.length, .d (.int .i64 x.2.1.w.next), .own 3 x.2.1.w.uo (x.2.1.w.ua.length - x.2.1.w.uo), .own 4 0 x.2.1.w.gone.length, .own 5 0 x.2.1.w.fresh.length, .d (.bool x.2.1.bad)])),
       (1, some (.arr 1 (strs x.2.1.w.pages))), (2, some (.arr 2 (GPutS x.2.1.w.late))), (3, some (.arr 1 (ints x.2.1.w.ua))), (4, some (.arr 1 (ints x.2.1.w.gone))), (5, some (.arr 1 (ints x.2.1.w.fresh))), (6, some (.arr 2 (GFieldS x.2.2)))]⟩)
    (fun x => 4 * x.1 ≤ l.length + 3 ∧ smallW x.2.1.w.work ∧ x.2.2.length = x.1 ∧ levelA x.2.1 x.2.2 (chunk4 (l.drop (4 * x.1))) = levelA c [] (chunk4 l)) (fun x => l.length + 4 - 4 * x.1) (0, c, []) rfl ⟨by omega, hw, rfl, by rw [Nat.mul_zero, List.drop_zero]⟩ ?_
  rintro ⟨j, c, out⟩ ⟨i1, i3, i4, i5⟩
  simp only at i1 i3 i4 i5
  simp -implicitDefEqProofs (maxSteps := 3000000) only [go_sem, reduceCtorEq]
  (first | (refine way_dec (fun h5 => ?_) (fun h5 => ?_)) | (refine way_ndec (fun h5 => ?_) (fun h5 => ?_)) | (refine wayT_dec (fun h5 => ?_) (fun h5 => ?_)) | (refine wayF_dec (fun h5 => ?_) (fun h5 => ?_)) | (refine wayT_ndec (fun h5 => ?_) (fun h5 => ?_)) | (refine wayF_ndec (fun h5 => ?_) (fun h5 => ?_)) | (refine way_not (fun h5 => ?_) (fun h5 => ?_)) | (refine way (fun h5 => ?_) (fun h5 => ?_)) | (refine wayT (fun h5 => ?_) (fun h5 => ?_)) | (refine wayF (fun h5 => ?_) (fun h5 => ?_)))
  · have w4 : IntKind.i64.wrap (((4 * j : Nat) : Int) + 4) = ((4 * (j + 1) : Nat) : Int) := by rw [wrap_int (by omega) (by omega)]; omega
    obtain ⟨e, hee⟩ : ∃ e : Nat, e = min (4 * (j + 1)) l.length := ⟨_, rfl⟩
    have hmin : (if ((4 * (j + 1) : Nat) : Int) < (l.length : Int) then ((4 * (j + 1) : Nat) : Int) else (l.length : Int)) = (e : Int) := by split <;> omega
    have hbd : ((GFieldS l).take e).drop (4 * j) = GFieldS ((l.drop (4 * j)).take 4) := by
      rw [List.drop_take, GFieldS_drop, GFieldS_take]
      congr 1
      by_cases h : 4 * (j + 1) ≤ l.length
      · rw [show e - 4 * j = 4 by omega]
      · rw [List.take_of_length_le (by simp; omega), List.take_of_length_le (by simp; omega)]
    simp -implicitDefEqProofs (maxSteps := 3000000) only [go_sem, reduceCtorEq, w4, hmin, if_true]
    repeat ((first | refine req (by first | omega | assumption | exact commP_of (by kernel_rfl) | (simp only [LEN, List.length_append, List.length_cons, List.length_nil]; omega) | (simp [D.one]; omega) | (simp [D.one]; done)) ?_); simp -implicitDefEqProofs (maxSteps := 3000000) only [go_sem, reduceCtorEq, w4, hmin, hbd, if_true])
    obtain ⟨b, hb2⟩ : ∃ b, b = (l.drop (4 * j)).take 4 := ⟨_, rfl⟩
    have hbl : b.length = e - 4 * j := by rw [hb2]; simp; omega
    rw [← hb2] at hbd
    refine loop_data (α := Nat) (fun i => ⟨[(0, .ref 0 0), (1, .d (.sl (GFieldS l))), (5, .own 6 0 out.length), (6, .d (.int .i64 ((4 * j : Nat) : Int))), (7, .ref 7 0), (25, .d (.sl (GFieldS b))), (26, .d (.int .i64 b.length)), (27, .d (.int .i64 i))],
        [(0, some (.box [.own 1 0 c.w.pages.length, .own 2 0 c.w.late.length, .d (.int .i64 c.w.next), .own 3 c.w.uo (c.w.ua.length - c.w.uo), .own 4 0 c.w.gone.length, .own 5 0 c.w.fresh.length, .d (.bool c.bad)])),
         (1, some (.arr 1 (strs c.w.pages))), (2, some (.arr 2 (GPutS c.w.late))), (3, some (.arr 1 (ints c.w.ua))), (4, some (.arr 1 (ints c.w.gone))), (5, some (.arr 1 (ints c.w.fresh))), (6, some (.arr 2 (GFieldS out))),
         (7, some (.box [.d (.bool false), .own 8 0 ((b.take i).map (·.fName)).length, .own 9 0 0, .own 10 0 ((b.take i).map (·.fKind)).length])), (8, some (.arr 1 (strs ((b.take i).map (·.fName))))), (9, some (.arr 1 [])), (10, some (.arr 1 (ints ((b.take i).map (·.fKind)))))]⟩)
      (fun i => i ≤ b.length) (fun i => b.length - i) 0 ?_ (Nat.zero_le _) ?_
    · rw [← hb2]; rfl
    rintro i k1
    simp -implicitDefEqProofs (maxSteps := 3000000) only [go_sem, reduceCtorEq]
    (first | (refine way_dec (fun h6 => ?_) (fun h6 => ?_)) | (refine way_ndec (fun h6 => ?_) (fun h6 => ?_)) | (refine wayT_dec (fun h6 => ?_) (fun h6 => ?_)) | (refine wayF_dec (fun h6 => ?_) (fun h6 => ?_)) | (refine wayT_ndec (fun h6 => ?_) (fun h6 => ?_)) | (refine wayF_ndec (fun h6 => ?_) (fun h6 => ?_)) | (refine way_not (fun h6 => ?_) (fun h6 => ?_)) | (refine way (fun h6 => ?_) (fun h6 => ?_)) | (refine wayT (fun h6 => ?_) (fun h6 => ?_)) | (refine wayF (fun h6 => ?_) (fun h6 => ?_)))
    · obtain ⟨p, hp⟩ := some_at h6
      simp -implicitDefEqProofs (maxSteps := 3000000) only [go_sem, reduceCtorEq, lget_GFieldS hp]
      repeat ((first | refine req (by first | omega | assumption | exact commP_of (by kernel_rfl) | (simp only [LEN, List.length_append, List.length_cons, List.length_nil]; omega) | (simp [D.one]; omega) | (simp [D.one]; done)) ?_); simp -implicitDefEqProofs (maxSteps := 3000000) only [go_sem, reduceCtorEq, lget_GFieldS hp])
      refine next_data (i + 1) ?_ (by omega) (by omega)
      rw [take_snoc hp, wrap_succ (by simp only [LEN]; omega)]
      simp
    · have hb0 : 0 < b.length := by omega
      obtain ⟨q, hq⟩ := some_at (l := b) (i := 0) (by omega)
      have hk0 : lget (strs (b.map (·.fName))) 0 = [.str (name1 b)] := by
        cases b with
        | nil => simp at hb0
        | cons x xs => rfl
      rw [List.take_of_length_le (show b.length ≤ i by omega)]
      simp -implicitDefEqProofs (maxSteps := 3000000) only [go_sem, reduceCtorEq]
      repeat ((first | refine req (by simp only [List.length_map]; omega) ?_ | refine req (by first | omega | assumption | exact commP_of (by kernel_rfl) | (simp only [LEN, List.length_append, List.length_cons, List.length_nil]; omega) | (simp [D.one]; omega) | (simp [D.one]; done)) ?_); simp -implicitDefEqProofs (maxSteps := 3000000) only [go_sem, reduceCtorEq, hk0])
      have hm : b.length ≤ 4 := by omega
      refine call_boxO false (n := 0) (xs := [.agg (kidB b).cells]) (ci_chput c (kidB b) i3 (by simp only [kidB, List.length_map, LEN]; omega) (by simp [kidB]) (by simp only [kidB, List.length_map, LEN]; omega)) rfl rfl rfl (by simp -implicitDefEqProofs (maxSteps := 3000000) only [go_sem, reduceCtorEq, GNode.cells, kidB]; try rfl) rfl rfl rfl rfl (.inr (.inr ⟨flat_of rfl, flat_chh⟩)) ?_
      have hs2 := chPut_small (n := kidB b) i3
      have hstep : levelA c out (chunk4 (l.drop (4 * j))) = levelA (chPut c (kidB b)).1 (out ++ [⟨name1 b, (chPut c (kidB b)).2⟩]) (chunk4 (l.drop (4 * (j + 1)))) := by
        rw [chunk4_at (by omega), levelA, ← hb2]; rfl
      rw [hstep] at i5
      generalize hv : chPut c (kidB b) = v at i5 hs2 ⊢
      obtain ⟨c2, pg⟩ := v
      simp only at i5 hs2
      simp -implicitDefEqProofs (maxSteps := 3000000) only [go_sem, reduceCtorEq, chh_eq]
      repeat ((first | refine req (by first | omega | assumption | exact commP_of (by kernel_rfl) | (simp only [LEN, List.length_append, List.length_cons, List.length_nil]; omega) | (simp [D.one]; omega) | (simp [D.one]; done)) ?_); simp -implicitDefEqProofs (maxSteps := 3000000) only [go_sem, reduceCtorEq, chh_eq])
      simp -implicitDefEqProofs (maxSteps := 3000000) only [go_sem, reduceCtorEq, w4]
      repeat ((first | refine req (by first | omega | assumption | exact commP_of (by kernel_rfl) | (simp only [LEN, List.length_append, List.length_cons, List.length_nil]; omega) | (simp [D.one]; omega) | (simp [D.one]; done)) ?_); simp -implicitDefEqProofs (maxSteps := 3000000) only [go_sem, reduceCtorEq, w4])
      refine next_data (j + 1, c2, out ++ [⟨name1 b, pg⟩]) ?_ ⟨by simp only; omega, hs2, by simp; omega, i5⟩ (by simp only; omega)
      simp
  · have he : chunk4 (l.drop (4 * j)) = [] := chunk4_end (by omega)
    rw [he, levelA] at i5
    rw [← i5]
    simp -implicitDefEqProofs (maxSteps := 3000000) only [go_sem, reduceCtorEq]
    rfl
end Go.Rx

namespace Go.Rx
open Go
attribute [local irreducible] Req Way WayG Sel callVC CallOK
set_option linter.unusedSimpArgs false
set_option linter.unusedVariables false

@[go_sem] def hr33 : Hints
  | 0 => [0] | 1 => [0] | 2 => [0, 5, 6] | 3 => [0, 5, 6] | 4 => [0, 3, 5, 6] | 5 => [] | 6 => [0, 5, 6] | 7 => [] | _ => []
@[go_sem] def hl33 : Hints
  | 2 => [0, 5, 6] | _ => []
attribute [go_sem] Go.Proofs.Try.results33
set_option maxRecDepth 100000 in
set_option maxHeartbeats 2000000 in
theorem ci_keysAscend (l : List GPair) (hl : l.length ≤ LEN) : CallOK Go.Proofs.Try.prog 33 [.d (.sl (GPairS l))] [] [.dead] (.d (.bool (decide (ascK (l.map (·.fKey)))))) [] := by
  refine call_of tysZOK mixedZ Go.Proofs.Try.func33 (by kernel_rfl) rfl (np := [false]) (by kernel_rfl) hr33 hl33 (by simp [Go.Proofs.Try.ntmps33]) ?_
  simp -implicitDefEqProofs (maxSteps := 3000000) only [go_sem, reduceCtorEq]
  refine loop_data (α := Nat) (fun i => ⟨[(0, .d (.sl (GPairS l))), (5, .d (.int .i64 l.length)), (6, .d (.int .i64 i))], []⟩)
    (fun i => i ≤ l.length ∧ ascK ((l.map (·.fKey)).take i)) (fun i => l.length - i) 0 rfl ⟨Nat.zero_le _, by simp [ascK]⟩ ?_
  rintro i ⟨h2, h3⟩
  simp -implicitDefEqProofs (maxSteps := 3000000) only [go_sem, reduceCtorEq]
  (first | (refine way_dec (fun h5 => ?_) (fun h5 => ?_)) | (refine way_ndec (fun h5 => ?_) (fun h5 => ?_)) | (refine wayT_dec (fun h5 => ?_) (fun h5 => ?_)) | (refine wayF_dec (fun h5 => ?_) (fun h5 => ?_)) | (refine wayT_ndec (fun h5 => ?_) (fun h5 => ?_)) | (refine wayF_ndec (fun h5 => ?_) (fun h5 => ?_)) | (refine way_not (fun h5 => ?_) (fun h5 => ?_)) | (refine way (fun h5 => ?_) (fun h5 => ?_)) | (refine wayT (fun h5 => ?_) (fun h5 => ?_)) | (refine wayF (fun h5 => ?_) (fun h5 => ?_)))
  · obtain ⟨p, hp⟩ := some_at h5
    have hpk : (l.map (·.fKey))[i]? = some p.fKey := by rw [List.getElem?_map, hp]; rfl
    rcases Nat.eq_zero_or_pos i with hi | hi
    · have hg : decide ((0 : Int) < (i : Int)) = false := decide_eq_false (by omega)
      simp -implicitDefEqProofs (maxSteps := 3000000) only [go_sem, reduceCtorEq, hg]
      repeat ((first | refine req (by first | omega | assumption | exact commP_of (by kernel_rfl) | (simp only [LEN, List.length_append, List.length_cons, List.length_nil]; omega) | (simp [D.one]; omega) | (simp [D.one]; done)) ?_); simp -implicitDefEqProofs (maxSteps := 3000000) only [go_sem, reduceCtorEq, hg])
      rw [wrap_succ (by omega)]
      refine next_data (i + 1) rfl ⟨by omega, ?_⟩ (by omega)
      subst hi; rw [take_snoc hpk]; simp [ascK]
    · obtain ⟨j, rfl⟩ : ∃ j, i = j + 1 := ⟨i - 1, by omega⟩
      obtain ⟨q, hq⟩ := some_at (l := l) (i := j) (by omega)
      have hqk : (l.map (·.fKey))[j]? = some q.fKey := by rw [List.getElem?_map, hq]; rfl
      have hg : decide ((0 : Int) < ((j + 1 : Nat) : Int)) = true := decide_eq_true (by omega)
      have hj : IntKind.i64.wrap (((j + 1 : Nat) : Int) - 1) = (j : Int) := by simp only [LEN] at hl; rw [wrap_int (by omega) (by omega)]; omega
      simp -implicitDefEqProofs (maxSteps := 3000000) only [go_sem, reduceCtorEq, hg, hj, lget_GPairS hp, lget_GPairS hq]
      repeat ((first | refine req (by first | omega | assumption | exact commP_of (by kernel_rfl) | (simp only [LEN, List.length_append, List.length_cons, List.length_nil]; omega) | (simp [D.one]; omega) | (simp [D.one]; done)) ?_); simp -implicitDefEqProofs (maxSteps := 3000000) only [go_sem, reduceCtorEq, hg, hj, lget_GPairS hp, lget_GPairS hq])
      cases hlt : bLess q.fKey p.fKey
      · simp -implicitDefEqProofs (maxSteps := 3000000) only [go_sem, reduceCtorEq]
        have : ¬ ascK (l.map (·.fKey)) := fun h => by rw [asc_next h hqk hpk] at hlt; cases hlt
        simp [this]
      · simp -implicitDefEqProofs (maxSteps := 3000000) only [go_sem, reduceCtorEq]
        rw [wrap_succ (by omega)]
        refine next_data (j + 2) rfl ⟨by omega, ascK_snoc h3 hqk hpk hlt⟩ (by omega)
  · rw [List.take_of_length_le (by simp; omega)] at h3
    simp -implicitDefEqProofs (maxSteps := 3000000) only [go_sem, reduceCtorEq]
    simp [h3]
theorem ki_keysAscend {h : Heap} {tb : Nat} {K : OK} {args : List V} {ls : List Nat} (l : List GPair) (hl : l.length ≤ LEN) (hg : toDs h args = some ([.sl (GPairS l)], ls))
    (hk : K (renV (bk tb ([])) (.d (.bool (decide (ascK (l.map (·.fKey))))))) (updN tb ([]) ([]))) : callVC Go.Proofs.Try.prog h tb 33 args K :=
  call_free hg (ci_keysAscend l hl) rfl (.inr ⟨flat_of rfl, flatHB_of rfl⟩) hk
end Go.Rx

namespace Go.Rx
open Go
attribute [local irreducible] Req Way WayG Sel callVC CallOK
set_option linter.unusedSimpArgs false
set_option linter.unusedVariables false

@[go_sem] def hr10 : Hints
  | 0 => [0, 1] | 1 => [1, 2, 4] | 2 => [2, 4] | 3 => [1, 2, 4] | 4 => [1, 2, 4, 7] | 5 => [2, 4, 7, 8] | 6 => [2, 4, 7, 8] | 7 => [2, 4, 7, 8] | 8 => [2, 4] | 9 => [4, 7, 8] | 10 => [4, 7] | 11 => [4, 7, 8] | _ => []
@[go_sem] def hl10 : Hints
  | 5 => [2, 4, 7, 8] | _ => []
attribute [go_sem] Go.Proofs.Try.results10
set_option maxRecDepth 100000 in
set_option maxHeartbeats 2000000 in
theorem ci_BuildTree (w : GWork) (l : List GPair) (hw : smallW w) (hl : l.length ≤ 1048576) : CallOK Go.Proofs.Try.prog 10 [.d (.agg w.cells), .d (.sl (GPairS l))] [] [.dead, .dead] (.tup [(buildI w l).1.v, .d (.int .i64 (buildI w l).2.1), .d (.bool (buildI w l).2.2)]) (buildI w l).1.h := by
  refine call_of tysZOK mixedZ Go.Proofs.Try.func10 (by kernel_rfl) rfl (np := [false, false]) (by kernel_rfl) hr10 hl10 (by simp [Go.Proofs.Try.ntmps10]) ?_
  simp -implicitDefEqProofs (maxSteps := 3000000) only [go_sem, reduceCtorEq, GWork.cells]
  refine ki_keysAscend l (by simp only [LEN]; omega) rfl ?_
  rw [buildI]
  cases ha : decide (ascK (l.map (·.fKey)))
  · simp -implicitDefEqProofs (maxSteps := 3000000) only [go_sem, reduceCtorEq]
    repeat ((first | refine req (by first | omega | assumption | exact commP_of (by kernel_rfl) | (simp only [LEN, List.length_append, List.length_cons, List.length_nil]; omega) | (simp [D.one]; omega) | (simp [D.one]; done)) ?_ | refine ki_cloneWork w hw rfl ?_); simp -implicitDefEqProofs (maxSteps := 3000000) only [go_sem, reduceCtorEq, OW.v_eq, OW.h_eq])
    rfl
  · simp -implicitDefEqProofs (maxSteps := 3000000) only [go_sem, reduceCtorEq]
    repeat ((first | refine req (by first | omega | assumption | exact commP_of (by kernel_rfl) | (simp only [LEN, List.length_append, List.length_cons, List.length_nil]; omega) | (simp [D.one]; omega) | (simp [D.one]; done)) ?_ | refine ki_cloneWork w hw rfl ?_); simp -implicitDefEqProofs (maxSteps := 3000000) only [go_sem, reduceCtorEq, OW.v_eq, OW.h_eq])
    refine call_boxO false (n := 7) (xs := [.sl (GPairS l)]) (ci_leaves ⟨ofW w, false⟩ l hw rfl hl) rfl rfl rfl rfl rfl rfl rfl rfl (.inr (.inl rfl)) ?_
    rw [buildR]
    have hs2 := leavesA_small (bs := chunk4 l) (c := ⟨ofW w, false⟩) (out := []) hw
    have hle := leaves_le (c := ⟨ofW w, false⟩) (l := l)
    generalize hv : leavesA ⟨ofW w, false⟩ [] (chunk4 l) = v at hs2 hle ⊢
    obtain ⟨c0, k0⟩ := v
    simp only at hs2 hle ⊢
    simp -implicitDefEqProofs (maxSteps := 3000000) only [go_sem, reduceCtorEq, chh_eq]
    repeat ((first | refine req (by first | omega | assumption | exact commP_of (by kernel_rfl) | (simp only [LEN, List.length_append, List.length_cons, List.length_nil]; omega) | (simp [D.one]; omega) | (simp [D.one]; done)) ?_); simp -implicitDefEqProofs (maxSteps := 3000000) only [go_sem, reduceCtorEq, chh_eq])
    refine loop_data (α := Nat × Ch × List GKid) (fun x => ⟨[(2, .ref 0 0), (4, .ref 1 0), (7, .ref 7 0), (8, .own 13 0 x.2.2.length)],
      [(0, some (.box [.d (.sl (strs w.fDisk.fPages)), .d (.sl (GPutS w.fDisk.fLate)), .d (.int .i64 w.fNext), .d (.sl (ints w.fUsable)), .d (.sl (ints w.fGone)), .d (.sl (ints w.fFresh))])),
       (1, some (.box [.own 2 0 0, .own 3 0 0, .d (.int .i64 0), .own 4 0 0, .own 5 0 0, .own 6 0 0])), (2, some (.arr 1 [])), (3, some (.arr 2 [])), (4, some (.arr 1 [])), (5, some (.arr 1 [])), (6, some (.arr 1 [])),
       (7, some (.box [.own 8 0 x.2.1.w.pages.length, .own 9 0 x.2.1.w.late.length, .d (.int .i64 x.2.1.w.next), .own 10 x.2.1.w.uo (x.2.1.w.ua.length - x.2.1.w.uo), .own 11 0 x.2.1.w.gone.length, .own 12 0 x.2.1.w.fresh.length, .d (.bool x.2.1.bad)])),
       (8, some (.arr 1 (strs x.2.1.w.pages))), (9, some (.arr 2 (GPutS x.2.1.w.late))), (10, some (.arr 1 (ints x.2.1.w.ua))), (11, some (.arr 1 (ints x.2.1.w.gone))), (12, some (.arr 1 (ints x.2.1.w.fresh))), (13, some (.arr 2 (GFieldS x.2.2)))]⟩)
      (fun x => x.2.2.length ≤ x.1 ∧ x.1 ≤ l.length ∧ smallW x.2.1.w.work ∧ levelsA x.1 x.2.1 x.2.2 = levelsA l.length c0 k0) (fun x => x.1) (l.length, c0, k0) rfl ⟨hle, Nat.le_refl _, hs2, rfl⟩ ?_
    rintro ⟨f, ⟨cw, cb⟩, k⟩ ⟨i1, i2, i3, i4⟩
    simp only at i1 i2 i3 i4
    simp -implicitDefEqProofs (maxSteps := 3000000) only [go_sem, reduceCtorEq]
    cases cb
    · by_cases hk : (1 : Int) < k.length
      · have dk := decide_eq_true hk
        simp -implicitDefEqProofs (maxSteps := 3000000) only [go_sem, reduceCtorEq, dk]
        repeat ((first | refine req (by first | omega | assumption | exact commP_of (by kernel_rfl) | (simp only [LEN, List.length_append, List.length_cons, List.length_nil]; omega) | (simp [D.one]; omega) | (simp [D.one]; done)) ?_); simp -implicitDefEqProofs (maxSteps := 3000000) only [go_sem, reduceCtorEq, dk])
        have hless := level_less (c := ⟨cw, false⟩) (k := k) (by omega)
        have hs3 := levelA_small (bs := chunk4 k) (c := ⟨cw, false⟩) (out := []) i3
        obtain ⟨f, rfl⟩ : ∃ g, f = g + 1 := ⟨f - 1, by omega⟩
        rw [levelsA_step rfl (by omega)] at i4
        refine call_boxO true (n := 7) (xs := [.sl (GFieldS k)]) (ci_level ⟨cw, false⟩ k i3 (by omega)) rfl rfl rfl (by simp -implicitDefEqProofs (maxSteps := 3000000) only [go_sem, reduceCtorEq]; try rfl) rfl rfl rfl rfl (.inl rfl) ?_
        generalize hv2 : levelA ⟨cw, false⟩ [] (chunk4 k) = v at hless hs3 i4 ⊢
        obtain ⟨c2, k2⟩ := v
        simp only at hless hs3 i4 ⊢
        simp -implicitDefEqProofs (maxSteps := 3000000) only [go_sem, reduceCtorEq, chh_eq]
        repeat ((first | refine req (by first | omega | assumption | exact commP_of (by kernel_rfl) | (simp only [LEN, List.length_append, List.length_cons, List.length_nil]; omega) | (simp [D.one]; omega) | (simp [D.one]; done)) ?_); simp -implicitDefEqProofs (maxSteps := 3000000) only [go_sem, reduceCtorEq, chh_eq])
        refine next_data (f, c2, k2) (by first | rfl | simp) ⟨by simp only; omega, by simp only; omega, hs3, i4⟩ (by simp only; omega)
      · have dk := decide_eq_false hk
        rw [levelsA_stop (by simp only; omega)] at i4
        rw [← i4]
        simp -implicitDefEqProofs (maxSteps := 3000000) only [go_sem, reduceCtorEq, dk]
        repeat ((first | refine req (by first | omega | assumption | exact commP_of (by kernel_rfl) | (simp only [LEN, List.length_append, List.length_cons, List.length_nil]; omega) | (simp [D.one]; omega) | (simp [D.one]; done)) ?_); simp -implicitDefEqProofs (maxSteps := 3000000) only [go_sem, reduceCtorEq, dk])
        cases k with
        | nil =>
          have d0 : decide (((0 : Nat) : Int) = 0) = true := rfl
          simp -implicitDefEqProofs (maxSteps := 3000000) only [go_sem, reduceCtorEq, d0]
          repeat ((first | refine req (by first | omega | assumption | exact commP_of (by kernel_rfl) | (simp only [LEN, List.length_append, List.length_cons, List.length_nil]; omega) | (simp [D.one]; omega) | (simp [D.one]; done)) ?_); simp -implicitDefEqProofs (maxSteps := 3000000) only [go_sem, reduceCtorEq, d0, OW.v_eq, OW.h_eq])
          rfl
        | cons x xs =>
          have d0 : decide (((xs.length + 1 : Nat) : Int) = 0) = false := decide_eq_false (by omega)
          have hx : lget (GFieldS (x :: xs)) 0 = [.str x.fName, .int .i64 x.fKind] := rfl
          simp -implicitDefEqProofs (maxSteps := 3000000) only [go_sem, reduceCtorEq, d0, hx]
          repeat ((first | refine req (by first | omega | assumption | exact commP_of (by kernel_rfl) | (simp only [LEN, List.length_append, List.length_cons, List.length_nil]; omega) | (simp [D.one]; omega) | (simp [D.one]; done)) ?_); simp -implicitDefEqProofs (maxSteps := 3000000) only [go_sem, reduceCtorEq, d0, hx, OW.v_eq, OW.h_eq])
          rfl
    · rw [levelsA_stop (by simp)] at i4
      rw [← i4]
      simp -implicitDefEqProofs (maxSteps := 3000000) only [go_sem, reduceCtorEq]
      repeat ((first | refine req (by first | omega | assumption | exact commP_of (by kernel_rfl) | (simp only [LEN, List.length_append, List.length_cons, List.length_nil]; omega) | (simp [D.one]; omega) | (simp [D.one]; done)) ?_ | refine ki_cloneWork w hw rfl ?_); simp -implicitDefEqProofs (maxSteps := 3000000) only [go_sem, reduceCtorEq, OW.v_eq, OW.h_eq])
      rfl
theorem ki_BuildTree {h : Heap} {tb : Nat} {K : OK} {args : List V} {ls : List Nat} (w : GWork) (l : List GPair) (hw : smallW w) (hl : l.length ≤ 1048576) (hg : toDs h args = some ([.agg w.cells, .sl (GPairS l)], ls))
    (hk : K (renV (bk tb ((buildI w l).1.h)) (.tup [(buildI w l).1.v, .d (.int .i64 (buildI w l).2.1), .d (.bool (buildI w l).2.2)])) (updN tb ((buildI w l).1.h) ((buildI w l).1.h))) : callVC Go.Proofs.Try.prog h tb 10 args K :=
  call_free hg (ci_BuildTree w l hw hl) rfl (.inr ⟨flat_of rfl, flat_owh⟩) hk
end Go.Rx

namespace Go.Rx
open Go
attribute [local irreducible] Req Way WayG Sel callVC CallOK
set_option linter.unusedSimpArgs false
set_option linter.unusedVariables false

@[go_sem] def hr48 : Hints
  | 0 => [0] | 1 => [1, 2] | _ => []
@[go_sem] def hl48 : Hints := fun _ => []
attribute [go_sem] Go.Proofs.Try.results48
set_option maxRecDepth 100000 in
set_option maxHeartbeats 2000000 in
theorem cs_l03Copy (d : GDisk) (hd : smallD d) : CallOK Go.Proofs.Try.prog 48 [.d (.agg d.cells)] [] [.dead] (.agg [.own 0 0 d.fPages.length, .own 1 0 d.fLate.length]) [(0, .arr 1 (strs d.fPages)), (1, .arr 2 (GPutS d.fLate))] := by
  refine call_of tysZOK mixedZ Go.Proofs.Try.func48 (by kernel_rfl) rfl (np := [false]) (by kernel_rfl) hr48 hl48 (by simp [Go.Proofs.Try.ntmps48]) ?_
  obtain ⟨h1, h2⟩ := hd
  simp -implicitDefEqProofs (maxSteps := 3000000) only [go_sem, reduceCtorEq, GDisk.cells]
  repeat ((first | refine req (by first | omega | assumption | exact commP_of (by kernel_rfl) | (simp only [LEN, List.length_append, List.length_cons, List.length_nil]; omega) | (simp [D.one]; omega) | (simp [D.one]; done)) ?_); simp -implicitDefEqProofs (maxSteps := 3000000) only [go_sem, reduceCtorEq, GDisk.cells])
  try rfl
theorem ks_l03Copy {h : Heap} {tb : Nat} {K : OK} {args : List V} {ls : List Nat} (d : GDisk) (hd : smallD d) (hg : toDs h args = some ([.agg d.cells], ls))
    (hk : K (renV (bk tb ([(0, .arr 1 (strs d.fPages)), (1, .arr 2 (GPutS d.fLate))])) (.agg [.own 0 0 d.fPages.length, .own 1 0 d.fLate.length])) (updN tb ([(0, .arr 1 (strs d.fPages)), (1, .arr 2 (GPutS d.fLate))]) ([(0, .arr 1 (strs d.fPages)), (1, .arr 2 (GPutS d.fLate))]))) : callVC Go.Proofs.Try.prog h tb 48 args K :=
  call_free hg (cs_l03Copy d hd) rfl (.inr ⟨flat_of rfl, by repeat (first | exact flatH_nil | refine flatH_cons (by first | exact flat_ints | exact flat_strs | exact flat_bls | exact flat_bys | exact flat_GPutS | exact flat_GPairS | exact flat_GFieldS | exact flat_GValueS) ?_)⟩) hk
@[go_sem] def hr28 : Hints
  | 0 => [0] | 1 => [1, 2] | _ => []
@[go_sem] def hl28 : Hints := fun _ => []
attribute [go_sem] Go.Proofs.Try.results28
set_option maxRecDepth 100000 in
set_option maxHeartbeats 2000000 in
theorem cs_l08Copy (w : GWork) (hw : smallW w) : CallOK Go.Proofs.Try.prog 28 [.d (.agg w.cells)] [] [.dead] (.agg [.own 0 0 w.fDisk.fPages.length, .own 1 0 w.fDisk.fLate.length, .d (.int .i64 w.fNext), .own 2 0 w.fUsable.length, .own 3 0 w.fGone.length, .own 4 0 w.fFresh.length]) [(0, .arr 1 (strs w.fDisk.fPages)), (1, .arr 2 (GPutS w.fDisk.fLate)), (2, .arr 1 (ints w.fUsable)), (3, .arr 1 (ints w.fGone)), (4, .arr 1 (ints w.fFresh))] := by
  refine call_of tysZOK mixedZ Go.Proofs.Try.func28 (by kernel_rfl) rfl (np := [false]) (by kernel_rfl) hr28 hl28 (by simp [Go.Proofs.Try.ntmps28]) ?_
  have hw' := hw
  obtain ⟨h0, h1, h2, h3⟩ := hw'
  obtain ⟨h4, h5⟩ := h0
  simp -implicitDefEqProofs (maxSteps := 3000000) only [go_sem, reduceCtorEq, GWork.cells]
  repeat ((first | refine req (by first | omega | assumption | exact commP_of (by kernel_rfl) | (simp only [LEN, List.length_append, List.length_cons, List.length_nil]; omega) | (simp [D.one]; omega) | (simp [D.one]; done)) ?_ | refine ks_l03Copy w.fDisk hw.1 rfl ?_); simp -implicitDefEqProofs (maxSteps := 3000000) only [go_sem, reduceCtorEq, GDisk.cells])
  try rfl
theorem ks_l08Copy {h : Heap} {tb : Nat} {K : OK} {args : List V} {ls : List Nat} (w : GWork) (hw : smallW w) (hg : toDs h args = some ([.agg w.cells], ls))
    (hk : K (renV (bk tb ([(0, .arr 1 (strs w.fDisk.fPages)), (1, .arr 2 (GPutS w.fDisk.fLate)), (2, .arr 1 (ints w.fUsable)), (3, .arr 1 (ints w.fGone)), (4, .arr 1 (ints w.fFresh))])) (.agg [.own 0 0 w.fDisk.fPages.length, .own 1 0 w.fDisk.fLate.length, .d (.int .i64 w.fNext), .own 2 0 w.fUsable.length, .own 3 0 w.fGone.length, .own 4 0 w.fFresh.length])) (updN tb ([(0, .arr 1 (strs w.fDisk.fPages)), (1, .arr 2 (GPutS w.fDisk.fLate)), (2, .arr 1 (ints w.fUsable)), (3, .arr 1 (ints w.fGone)), (4, .arr 1 (ints w.fFresh))]) ([(0, .arr 1 (strs w.fDisk.fPages)), (1, .arr 2 (GPutS w.fDisk.fLate)), (2, .arr 1 (ints w.fUsable)), (3, .arr 1 (ints w.fGone)), (4, .arr 1 (ints w.fFresh))]))) : callVC Go.Proofs.Try.prog h tb 28 args K :=
  call_free hg (cs_l08Copy w hw) rfl (.inr ⟨flat_of rfl, by repeat (first | exact flatH_nil | refine flatH_cons (by first | exact flat_ints | exact flat_strs | exact flat_bls | exact flat_bys | exact flat_GPutS | exact flat_GPairS | exact flat_GFieldS | exact flat_GValueS) ?_)⟩) hk
@[go_sem] def hr86 : Hints
  | 0 => [0] | 1 => [1] | 2 => [1, 3] | 3 => [1, 3] | 4 => [1, 3] | 5 => [] | 6 => [1] | 7 => [1, 4] | 8 => [1, 4] | 9 => [1, 4] | 10 => [] | 11 => [1] | _ => []
@[go_sem] def hl86 : Hints
  | 2 => [1, 3] | 7 => [1, 4] | _ => []
attribute [go_sem] Go.Proofs.Try.results86
set_option maxRecDepth 100000 in
set_option maxHeartbeats 2000000 in
theorem cs_DiskOk (d : GDisk) (hd : smallD d) : CallOK Go.Proofs.Try.prog 86 [.d (.agg d.cells)] [] [.dead] (.d (.bool (decide (diskOk d)))) [] := by
  refine call_of tysZOK mixedZ Go.Proofs.Try.func86 (by kernel_rfl) rfl (np := [false]) (by kernel_rfl) hr86 hl86 (by simp [Go.Proofs.Try.ntmps86]) ?_
  obtain ⟨h1, h2⟩ := hd
  simp -implicitDefEqProofs (maxSteps := 3000000) only [go_sem, reduceCtorEq, GDisk.cells]
  refine loop_data (α := Nat) (fun i => ⟨[(1, .ref 0 0), (3, .d (.int .i64 i))], [(0, some (.box [.d (.sl (strs d.fPages)), .d (.sl (GPutS d.fLate))]))]⟩)
    (fun i => i ≤ d.fPages.length ∧ ∀ s ∈ d.fPages.take i, s.length ≤ 240) (fun i => d.fPages.length - i) 0 rfl ⟨Nat.zero_le _, by simp⟩ ?_
  rintro i ⟨i1, i2⟩
  simp -implicitDefEqProofs (maxSteps := 3000000) only [go_sem, reduceCtorEq]
  (first | (refine way_dec (fun h5 => ?_) (fun h5 => ?_)) | (refine way_ndec (fun h5 => ?_) (fun h5 => ?_)) | (refine wayT_dec (fun h5 => ?_) (fun h5 => ?_)) | (refine wayF_dec (fun h5 => ?_) (fun h5 => ?_)) | (refine wayT_ndec (fun h5 => ?_) (fun h5 => ?_)) | (refine wayF_ndec (fun h5 => ?_) (fun h5 => ?_)) | (refine way_not (fun h5 => ?_) (fun h5 => ?_)) | (refine way (fun h5 => ?_) (fun h5 => ?_)) | (refine wayT (fun h5 => ?_) (fun h5 => ?_)) | (refine wayF (fun h5 => ?_) (fun h5 => ?_)))
  · obtain ⟨p, hp⟩ := some_at h5
    have hmem := List.mem_of_getElem? hp
    simp -implicitDefEqProofs (maxSteps := 3000000) only [go_sem, reduceCtorEq, lget_strs hp]
    repeat ((first | refine req (by first | omega | assumption | exact commP_of (by kernel_rfl) | (simp only [LEN, List.length_append, List.length_cons, List.length_nil]; omega) | (simp [D.one]; omega) | (simp [D.one]; done)) ?_); simp -implicitDefEqProofs (maxSteps := 3000000) only [go_sem, reduceCtorEq, lget_strs hp])
    (first | (refine way_dec (fun h6 => ?_) (fun h6 => ?_)) | (refine way_ndec (fun h6 => ?_) (fun h6 => ?_)) | (refine wayT_dec (fun h6 => ?_) (fun h6 => ?_)) | (refine wayF_dec (fun h6 => ?_) (fun h6 => ?_)) | (refine wayT_ndec (fun h6 => ?_) (fun h6 => ?_)) | (refine wayF_ndec (fun h6 => ?_) (fun h6 => ?_)) | (refine way_not (fun h6 => ?_) (fun h6 => ?_)) | (refine way (fun h6 => ?_) (fun h6 => ?_)) | (refine wayT (fun h6 => ?_) (fun h6 => ?_)) | (refine wayF (fun h6 => ?_) (fun h6 => ?_)))
    · simp -implicitDefEqProofs (maxSteps := 3000000) only [go_sem, reduceCtorEq]
      have : ¬ diskOk d := fun h => by have := h.2.2.2.1 p hmem; omega
      simp [this]
    · simp -implicitDefEqProofs (maxSteps := 3000000) only [go_sem, reduceCtorEq]
      repeat ((first | refine req (by first | omega | assumption | exact commP_of (by kernel_rfl) | (simp only [LEN, List.length_append, List.length_cons, List.length_nil]; omega) | (simp [D.one]; omega) | (simp [D.one]; done)) ?_); simp -implicitDefEqProofs (maxSteps := 3000000) only [go_sem, reduceCtorEq])
      rw [wrap_succ (by simp only [LEN]; omega)]
      refine next_data (i + 1) rfl ⟨by omega, fun s hs => ?_⟩ (by omega)
      rcases mem_takeS hp hs with hs | rfl
      · exact i2 s hs
      · omega
  · rw [List.take_of_length_le (by omega)] at i2
    simp -implicitDefEqProofs (maxSteps := 3000000) only [go_sem, reduceCtorEq]
    refine loop_data (α := Nat) (fun i => ⟨[(1, .ref 0 0), (4, .d (.int .i64 i))], [(0, some (.box [.d (.sl (strs d.fPages)), .d (.sl (GPutS d.fLate))]))]⟩)
      (fun i => i ≤ d.fLate.length ∧ ∀ s ∈ d.fLate.take i, isPage d s.fPage ∧ s.fText.length ≤ 240) (fun i => d.fLate.length - i) 0 rfl ⟨Nat.zero_le _, by simp⟩ ?_
    rintro i ⟨i3, i4⟩
    simp -implicitDefEqProofs (maxSteps := 3000000) only [go_sem, reduceCtorEq]
    (first | (refine way_dec (fun h6 => ?_) (fun h6 => ?_)) | (refine way_ndec (fun h6 => ?_) (fun h6 => ?_)) | (refine wayT_dec (fun h6 => ?_) (fun h6 => ?_)) | (refine wayF_dec (fun h6 => ?_) (fun h6 => ?_)) | (refine wayT_ndec (fun h6 => ?_) (fun h6 => ?_)) | (refine wayF_ndec (fun h6 => ?_) (fun h6 => ?_)) | (refine way_not (fun h6 => ?_) (fun h6 => ?_)) | (refine way (fun h6 => ?_) (fun h6 => ?_)) | (refine wayT (fun h6 => ?_) (fun h6 => ?_)) | (refine wayF (fun h6 => ?_) (fun h6 => ?_)))
    · obtain ⟨p, hp⟩ := some_at h6
      have hmem := List.mem_of_getElem? hp
      have hw : IntKind.i64.wrap ((d.fPages.length : Int) - 1) = (d.fPages.length : Int) - 1 := wrap_int (by omega) (by omega)
      have hdec : decide (0 ≤ p.fPage ∧ p.fPage ≤ (d.fPages.length : Int) - 1) = decide (isPage d p.fPage) := by
        rw [decide_eq_decide]; unfold isPage; omega
      cases hq : decide (isPage d p.fPage)
      · rw [hq] at hdec
        simp -implicitDefEqProofs (maxSteps := 3000000) only [go_sem, reduceCtorEq, lget_GPutS hp, hw]
        repeat ((first | refine req (by first | omega | assumption | exact commP_of (by kernel_rfl) | (simp only [LEN, List.length_append, List.length_cons, List.length_nil]; omega) | (simp [D.one]; omega) | (simp [D.one]; done)) ?_ | refine ks_in _ _ _ rfl ?_); simp -implicitDefEqProofs (maxSteps := 3000000) only [go_sem, reduceCtorEq, lget_GPutS hp, hw, hdec])
        have : ¬ diskOk d := fun h => (of_decide_eq_false hq) (h.2.2.2.2 p hmem).1
        simp [this]
      · rw [hq] at hdec
        cases ht : decide ((240 : Int) < p.fText.length)
        · simp -implicitDefEqProofs (maxSteps := 3000000) only [go_sem, reduceCtorEq, lget_GPutS hp, hw]
          repeat ((first | refine req (by first | omega | assumption | exact commP_of (by kernel_rfl) | (simp only [LEN, List.length_append, List.length_cons, List.length_nil]; omega) | (simp [D.one]; omega) | (simp [D.one]; done)) ?_ | refine ks_in _ _ _ rfl ?_); simp -implicitDefEqProofs (maxSteps := 3000000) only [go_sem, reduceCtorEq, lget_GPutS hp, hw, hdec, ht])
          rw [wrap_succ (by simp only [LEN]; omega)]
          refine next_data (i + 1) rfl ⟨by omega, fun s hs => ?_⟩ (by omega)
          rcases mem_takeS hp hs with hs | rfl
          · exact i4 s hs
          · exact ⟨of_decide_eq_true hq, by have := of_decide_eq_false ht; omega⟩
        · simp -implicitDefEqProofs (maxSteps := 3000000) only [go_sem, reduceCtorEq, lget_GPutS hp, hw]
          repeat ((first | refine req (by first | omega | assumption | exact commP_of (by kernel_rfl) | (simp only [LEN, List.length_append, List.length_cons, List.length_nil]; omega) | (simp [D.one]; omega) | (simp [D.one]; done)) ?_ | refine ks_in _ _ _ rfl ?_); simp -implicitDefEqProofs (maxSteps := 3000000) only [go_sem, reduceCtorEq, lget_GPutS hp, hw, hdec, ht])
          have : ¬ diskOk d := fun h => by have := of_decide_eq_true ht; have := (h.2.2.2.2 p hmem).2; omega
          simp [this]
    · rw [List.take_of_length_le (by omega)] at i4
      simp -implicitDefEqProofs (maxSteps := 3000000) only [go_sem, reduceCtorEq]
      cases g1 : decide ((4 : Int) ≤ d.fPages.length ∧ (d.fPages.length : Int) ≤ 40)
      · repeat ((first | refine req (by first | omega | assumption | exact commP_of (by kernel_rfl) | (simp only [LEN, List.length_append, List.length_cons, List.length_nil]; omega) | (simp [D.one]; omega) | (simp [D.one]; done)) ?_ | refine ks_in _ _ _ rfl ?_); simp -implicitDefEqProofs (maxSteps := 3000000) only [go_sem, reduceCtorEq, g1])
        have : ¬ diskOk d := fun h => (of_decide_eq_false g1) ⟨by have := h.1; omega, by have := h.2.1; omega⟩
        simp [this]
      · repeat ((first | refine req (by first | omega | assumption | exact commP_of (by kernel_rfl) | (simp only [LEN, List.length_append, List.length_cons, List.length_nil]; omega) | (simp [D.one]; omega) | (simp [D.one]; done)) ?_ | refine ks_in _ _ _ rfl ?_); simp -implicitDefEqProofs (maxSteps := 3000000) only [go_sem, reduceCtorEq, g1])
        have := of_decide_eq_true g1
        have : decide ((d.fLate.length : Int) ≤ 200) = decide (diskOk d) := by
          rw [decide_eq_decide]
          exact ⟨fun h => ⟨by omega, by omega, by omega, i2, i4⟩, fun h => by have := h.2.2.1; omega⟩
        rw [this]
theorem ks_DiskOk {h : Heap} {tb : Nat} {K : OK} {args : List V} {ls : List Nat} (d : GDisk) (hd : smallD d) (hg : toDs h args = some ([.agg d.cells], ls))
    (hk : K (renV (bk tb ([])) (.d (.bool (decide (diskOk d))))) (updN tb ([]) ([]))) : callVC Go.Proofs.Try.prog h tb 86 args K :=
  call_free hg (cs_DiskOk d hd) rfl (.inr ⟨flat_of rfl, flatHB_of rfl⟩) hk
end Go.Rx

namespace Go.Rx
open Go
attribute [local irreducible] Req Way WayG Sel callVC CallOK
set_option linter.unusedSimpArgs false
set_option linter.unusedVariables false

def putW (w : GWork) (n : GNode) : GWork × Int := match putN w n with
  | none => (w, 0)
  | some (w', p) => (w', p)
@[go_sem] def hr60 : Hints
  | 0 => [0, 1, 2] | 1 => [1, 2, 3, 6] | 2 => [1, 2, 3, 6, 8] | 3 => [6, 8] | 4 => [1, 2, 6, 8] | 5 => [6, 8] | _ => []
@[go_sem] def hl60 : Hints := fun _ => []
attribute [go_sem] Go.Proofs.Try.results60
set_option maxRecDepth 100000 in
set_option maxHeartbeats 2000000 in
theorem cs_WritePage (d : GDisk) (p : Int) (t : List UInt8) (hd : smallD d) : CallOK Go.Proofs.Try.prog 60 [.d (.agg d.cells), .d (.int .i64 p), .d (.str t)] [] [.dead, .dead, .dead] (.tup [.agg [.own 0 0 d.fPages.length, .own 1 0 (wrO d p t).length], .d (.bool (writePage d p t).isSome)]) [(0, .arr 1 (strs d.fPages)), (1, .arr 2 (GPutS (wrO d p t)))] := by
  refine call_of tysZOK mixedZ Go.Proofs.Try.func60 (by kernel_rfl) rfl (np := [false, false, false]) (by kernel_rfl) hr60 hl60 (by simp [Go.Proofs.Try.ntmps60]) ?_
  have hd' := hd
  obtain ⟨h1, h2⟩ := hd'
  have hw : IntKind.i64.wrap ((d.fPages.length : Int) - 1) = (d.fPages.length : Int) - 1 := wrap_int (by omega) (by omega)
  simp -implicitDefEqProofs (maxSteps := 3000000) only [go_sem, reduceCtorEq, GDisk.cells]
  refine ks_l03Copy d hd rfl ?_
  simp -implicitDefEqProofs (maxSteps := 3000000) only [go_sem, reduceCtorEq]
  refine ks_DiskOk d hd rfl ?_
  unfold wrO
  by_cases g1 : diskOk d
  · have d1 := decide_eq_true g1
    have hl := g1.2.2.1
    by_cases g2 : isPage d p
    · have d2 := decide_eq_true g2
      have d2' : decide (0 ≤ p ∧ p ≤ (d.fPages.length : Int) - 1) = true := d2
      by_cases g3 : (240 : Int) < t.length
      · have d3 := decide_eq_true g3
        have hw2 : writePage d p t = none := by rw [writePage, if_neg (fun h => by have := h.2.2.1; omega)]
        simp only [hw2]
        simp -implicitDefEqProofs (maxSteps := 3000000) only [go_sem, reduceCtorEq, d1, hw]
        repeat ((first | refine req (by first | omega | assumption | exact commP_of (by kernel_rfl) | (simp only [LEN, List.length_append, List.length_cons, List.length_nil]; omega) | (simp [D.one]; omega) | (simp [D.one]; done)) ?_ | refine ks_in _ _ _ rfl ?_); simp -implicitDefEqProofs (maxSteps := 3000000) only [go_sem, reduceCtorEq, d1, d2', d3, hw])
        rfl
      · have d3 := decide_eq_false g3
        by_cases g4 : ((d.fLate.length : Nat) : Int) = 200
        · have d4 := decide_eq_true g4
          have hw2 : writePage d p t = none := by rw [writePage, if_neg (fun h => by have := h.2.2.2; omega)]
          simp only [hw2]
          simp -implicitDefEqProofs (maxSteps := 3000000) only [go_sem, reduceCtorEq, d1, hw]
          repeat ((first | refine req (by first | omega | assumption | exact commP_of (by kernel_rfl) | (simp only [LEN, List.length_append, List.length_cons, List.length_nil]; omega) | (simp [D.one]; omega) | (simp [D.one]; done)) ?_ | refine ks_in _ _ _ rfl ?_); simp -implicitDefEqProofs (maxSteps := 3000000) only [go_sem, reduceCtorEq, d1, d2', d3, d4, hw])
          try first | rfl | simp
        · have d4 := decide_eq_false g4
          have hw2 : writePage d p t = some { d with fLate := d.fLate ++ [⟨p, t⟩] } := by rw [writePage, if_pos ⟨g1, g2, by omega, by omega⟩]
          simp only [hw2]
          simp -implicitDefEqProofs (maxSteps := 3000000) only [go_sem, reduceCtorEq, d1, hw]
          repeat ((first | refine req (by first | omega | assumption | exact commP_of (by kernel_rfl) | (simp only [LEN, List.length_append, List.length_cons, List.length_nil]; omega) | (simp [D.one]; omega) | (simp [D.one]; done)) ?_ | refine ks_in _ _ _ rfl ?_); simp -implicitDefEqProofs (maxSteps := 3000000) only [go_sem, reduceCtorEq, d1, d2', d3, d4, hw])
          try first | rfl | simp
    · have d2 : decide (0 ≤ p ∧ p ≤ (d.fPages.length : Int) - 1) = false := decide_eq_false g2
      have hw2 : writePage d p t = none := by rw [writePage, if_neg (fun h => g2 h.2.1)]
      simp only [hw2]
      simp -implicitDefEqProofs (maxSteps := 3000000) only [go_sem, reduceCtorEq, d1, hw]
      repeat ((first | refine req (by first | omega | assumption | exact commP_of (by kernel_rfl) | (simp only [LEN, List.length_append, List.length_cons, List.length_nil]; omega) | (simp [D.one]; omega) | (simp [D.one]; done)) ?_ | refine ks_in _ _ _ rfl ?_); simp -implicitDefEqProofs (maxSteps := 3000000) only [go_sem, reduceCtorEq, d1, d2, hw])
      rfl
  · have d1 := decide_eq_false g1
    have hw2 : writePage d p t = none := by rw [writePage, if_neg (fun h => g1 h.1)]
    simp only [hw2]
    simp -implicitDefEqProofs (maxSteps := 3000000) only [go_sem, reduceCtorEq, d1, hw]
    repeat ((first | refine req (by first | omega | assumption | exact commP_of (by kernel_rfl) | (simp only [LEN, List.length_append, List.length_cons, List.length_nil]; omega) | (simp [D.one]; omega) | (simp [D.one]; done)) ?_ | refine ks_in _ _ _ rfl ?_); simp -implicitDefEqProofs (maxSteps := 3000000) only [go_sem, reduceCtorEq, d1, hw])
    rfl
theorem ks_WritePage {h : Heap} {tb : Nat} {K : OK} {args : List V} {ls : List Nat} (d : GDisk) (p : Int) (t : List UInt8) (hd : smallD d) (hg : toDs h args = some ([.agg d.cells, .int .i64 p, .str t], ls))
    (hk : K (renV (bk tb ([(0, .arr 1 (strs d.fPages)), (1, .arr 2 (GPutS (wrO d p t)))])) (.tup [.agg [.own 0 0 d.fPages.length, .own 1 0 (wrO d p t).length], .d (.bool (writePage d p t).isSome)])) (updN tb ([(0, .arr 1 (strs d.fPages)), (1, .arr 2 (GPutS (wrO d p t)))]) ([(0, .arr 1 (strs d.fPages)), (1, .arr 2 (GPutS (wrO d p t)))]))) : callVC Go.Proofs.Try.prog h tb 60 args K :=
  call_free hg (cs_WritePage d p t hd) rfl (.inr ⟨flat_of rfl, by repeat (first | exact flatH_nil | refine flatH_cons (by first | exact flat_ints | exact flat_strs | exact flat_bls | exact flat_bys | exact flat_GPutS | exact flat_GPairS | exact flat_GFieldS | exact flat_GValueS) ?_)⟩) hk
@[go_sem] def hr59 : Hints
  | 0 => [0] | 1 => [1, 2] | 2 => [1, 2, 4] | 3 => [1, 2, 4] | 4 => [1, 2, 4] | 5 => [1, 2, 4] | 6 => [1, 2, 4] | 7 => [2, 4] | 8 => [1, 2, 4] | 9 => [1, 2, 4] | 10 => [1, 2, 4] | _ => []
@[go_sem] def hl59 : Hints := fun _ => []
attribute [go_sem] Go.Proofs.Try.results59
set_option maxRecDepth 100000 in
set_option maxHeartbeats 2000000 in
theorem cs_GivePage (w : GWork) (hw : smallW w) : CallOK Go.Proofs.Try.prog 59 [.d (.agg w.cells)] [] [.dead] (.tup [(ofW (giveP w).1).v, .d (.int .i64 (giveP w).2)]) (ofW (giveP w).1).h := by
  refine call_of tysZOK mixedZ Go.Proofs.Try.func59 (by kernel_rfl) rfl (np := [false]) (by kernel_rfl) hr59 hl59 (by simp [Go.Proofs.Try.ntmps59]) ?_
  have hw' := hw
  obtain ⟨⟨h1, h2⟩, h3, h4, h5⟩ := hw'
  simp -implicitDefEqProofs (maxSteps := 3000000) only [go_sem, reduceCtorEq, GWork.cells]
  refine ks_l08Copy w hw rfl ?_
  simp -implicitDefEqProofs (maxSteps := 3000000) only [go_sem, reduceCtorEq]
  unfold giveP
  cases hu : w.fUsable with
  | nil =>
    have d0 : decide ((0 : Int) < ((0 : Nat) : Int)) = false := rfl
    by_cases hn : (w.fDisk.fPages.length : Int) ≤ w.fNext
    · have dn := decide_eq_true hn
      simp only [if_pos hn]
      simp -implicitDefEqProofs (maxSteps := 3000000) only [go_sem, reduceCtorEq, d0, dn, hu]
      repeat ((first | refine req (by first | omega | assumption | exact commP_of (by kernel_rfl) | (simp only [LEN, List.length_append, List.length_cons, List.length_nil]; omega) | (simp [D.one]; omega) | (simp [D.one]; done)) ?_); simp -implicitDefEqProofs (maxSteps := 3000000) only [go_sem, reduceCtorEq, d0, dn, hu])
      simp [OW.v_eq, OW.h_eq, ofW, hu, ints]
    · have dn := decide_eq_false hn
      simp only [if_neg hn]
      simp -implicitDefEqProofs (maxSteps := 3000000) only [go_sem, reduceCtorEq, d0, dn, hu]
      repeat ((first | refine req (by first | omega | assumption | exact commP_of (by kernel_rfl) | (simp only [LEN, List.length_append, List.length_cons, List.length_nil]; omega) | (simp [D.one]; omega) | (simp [D.one]; done)) ?_); simp -implicitDefEqProofs (maxSteps := 3000000) only [go_sem, reduceCtorEq, d0, dn, hu])
      simp [OW.v_eq, OW.h_eq, ofW, hu, ints]
  | cons u us =>
    have d0 : decide ((0 : Int) < ((us.length + 1 : Nat) : Int)) = true := decide_eq_true (by omega)
    have hg0 : lget (ints (u :: us)) 0 = [.int .i64 u] := lget_ints rfl
    have hul : us.length + 1 ≤ 1048576 := by have := h3; rw [hu] at this; simpa using this
    have hcut : List.drop (Int.toNat 1) (List.take (us.length + 1) (ints (u :: us))) = ints us := by rw [List.take_of_length_le (by simp [ints])]; rfl
    simp -implicitDefEqProofs (maxSteps := 3000000) only [go_sem, reduceCtorEq, hu, d0, hg0, hcut]
    repeat ((first | refine req (by first | omega | assumption | exact commP_of (by kernel_rfl) | (simp only [LEN, List.length_append, List.length_cons, List.length_nil]; omega) | (simp [D.one]; omega) | (simp [D.one]; done)) ?_); simp -implicitDefEqProofs (maxSteps := 3000000) only [go_sem, reduceCtorEq, hu, d0, hg0, hcut])
    first | rfl | simp [OW.v_eq, OW.h_eq, ofW]
theorem ks_GivePage {h : Heap} {tb : Nat} {K : OK} {args : List V} {ls : List Nat} (w : GWork) (hw : smallW w) (hg : toDs h args = some ([.agg w.cells], ls))
    (hk : K (renV (bk tb ((ofW (giveP w).1).h)) (.tup [(ofW (giveP w).1).v, .d (.int .i64 (giveP w).2)])) (updN tb ((ofW (giveP w).1).h) ((ofW (giveP w).1).h))) : callVC Go.Proofs.Try.prog h tb 59 args K :=
  call_free hg (cs_GivePage w hw) rfl (.inr ⟨flat_of rfl, flat_owh⟩) hk
@[go_sem] def hr29 : Hints
  | 0 => [0, 1] | 1 => [2, 3, 4] | 2 => [2, 4, 6, 7] | 3 => [2, 4] | 4 => [2, 4, 6] | 5 => [2, 4, 6, 8, 9] | 6 => [2, 4] | 7 => [2, 4, 6, 8, 9] | 8 => [2, 4, 8, 9, 10, 11] | 9 => [2, 4] | 10 => [4, 8, 9, 10] | 11 => [4, 8, 9] | _ => []
@[go_sem] def hl29 : Hints := fun _ => []
attribute [go_sem] Go.Proofs.Try.results29
set_option maxRecDepth 100000 in
set_option maxHeartbeats 2000000 in
theorem cs_PutNode (w : GWork) (n : GNode) (hw : smallW w) (h1 : n.fKeys.length ≤ LEN) (h2 : n.fVals.length ≤ LEN) (h3 : n.fKids.length ≤ LEN) : CallOK Go.Proofs.Try.prog 29 [.d (.agg w.cells), .d (.agg n.cells)] [] [.dead, .dead] (.tup [(ofW (putW w n).1).v, .d (.int .i64 (putW w n).2)]) (ofW (putW w n).1).h := by
  refine call_of tysZOK mixedZ Go.Proofs.Try.func29 (by kernel_rfl) rfl (np := [false, false]) (by kernel_rfl) hr29 hl29 (by simp [Go.Proofs.Try.ntmps29]) ?_
  simp -implicitDefEqProofs (maxSteps := 3000000) only [go_sem, reduceCtorEq, GWork.cells, GNode.cells]
  refine ks_NodeText n h1 h2 h3 rfl ?_
  simp only [textV]
  unfold putW
  by_cases hn : nodeOk n
  · have dn := decide_eq_true hn
    simp -implicitDefEqProofs (maxSteps := 3000000) only [go_sem, reduceCtorEq, dn, if_pos hn]
    obtain ⟨g1, g2, g3, g4⟩ := giveP_small hw
    refine ks_GivePage w hw rfl ?_
    rw [putN, if_pos hn]
    generalize hv : giveP w = v at g1 g2 g3 g4 ⊢
    obtain ⟨w1, p⟩ := v
    simp only at g1 g2 g3 g4 ⊢
    have hd1 : smallD w1.fDisk := by rw [g1]; exact hw.1
    simp -implicitDefEqProofs (maxSteps := 3000000) only [go_sem, reduceCtorEq, OW.v_eq, OW.h_eq]
    repeat ((first | refine req (by first | omega | assumption | exact commP_of (by kernel_rfl) | (simp only [LEN, List.length_append, List.length_cons, List.length_nil]; omega) | (simp [D.one]; omega) | (simp [D.one]; done)) ?_); simp -implicitDefEqProofs (maxSteps := 3000000) only [go_sem, reduceCtorEq, OW.v_eq, OW.h_eq])
    by_cases hp : p = 0
    · have dp := decide_eq_true hp
      rw [if_pos hp]
      simp -implicitDefEqProofs (maxSteps := 3000000) only [go_sem, reduceCtorEq, dp]
      repeat ((first | refine req (by first | omega | assumption | exact commP_of (by kernel_rfl) | (simp only [LEN, List.length_append, List.length_cons, List.length_nil]; omega) | (simp [D.one]; omega) | (simp [D.one]; done)) ?_ | refine ks_l08Copy w hw rfl ?_); simp -implicitDefEqProofs (maxSteps := 3000000) only [go_sem, reduceCtorEq, OW.v_eq, OW.h_eq])
      first | rfl | simp [OW.v_eq, OW.h_eq, ofW]
    · have dp := decide_eq_false hp
      rw [if_neg hp]
      simp -implicitDefEqProofs (maxSteps := 3000000) only [go_sem, reduceCtorEq, dp]
      refine ks_WritePage w1.fDisk p (nodeText n) hd1 (by simp -implicitDefEqProofs (maxSteps := 3000000) only [go_sem, reduceCtorEq]; try rfl) ?_
      unfold wrO
      cases hwr : writePage w1.fDisk p (nodeText n) with
      | none =>
        simp only [Option.isSome_none]
        simp -implicitDefEqProofs (maxSteps := 3000000) only [go_sem, reduceCtorEq, OW.v_eq, OW.h_eq]
        repeat ((first | refine req (by first | omega | assumption | exact commP_of (by kernel_rfl) | (simp only [LEN, List.length_append, List.length_cons, List.length_nil]; omega) | (simp [D.one]; omega) | (simp [D.one]; done)) ?_ | refine ks_l08Copy w hw rfl ?_); simp -implicitDefEqProofs (maxSteps := 3000000) only [go_sem, reduceCtorEq, OW.v_eq, OW.h_eq])
        first | rfl | simp [OW.v_eq, OW.h_eq, ofW]
      | some d =>
        obtain rfl : d = { w1.fDisk with fLate := w1.fDisk.fLate ++ [⟨p, nodeText n⟩] } := by
          unfold writePage at hwr
          split at hwr
          · exact (Option.some.inj hwr).symm
          · cases hwr
        simp only [Option.isSome_some]
        simp -implicitDefEqProofs (maxSteps := 3000000) only [go_sem, reduceCtorEq, OW.v_eq, OW.h_eq]
        repeat ((first | refine req (by first | omega | assumption | exact commP_of (by kernel_rfl) | (simp only [LEN, List.length_append, List.length_cons, List.length_nil]; omega) | (simp [D.one]; omega) | (simp [D.one]; done)) ?_); simp -implicitDefEqProofs (maxSteps := 3000000) only [go_sem, reduceCtorEq, OW.v_eq, OW.h_eq])
        first | rfl | simp [OW.v_eq, OW.h_eq, ofW]
  · have dn := decide_eq_false hn
    have hpn : putN w n = none := by rw [putN, if_neg hn]
    rw [hpn]
    simp -implicitDefEqProofs (maxSteps := 3000000) only [go_sem, reduceCtorEq, dn]
    repeat ((first | refine req (by first | omega | assumption | exact commP_of (by kernel_rfl) | (simp only [LEN, List.length_append, List.length_cons, List.length_nil]; omega) | (simp [D.one]; omega) | (simp [D.one]; done)) ?_ | refine ks_l08Copy w hw rfl ?_); simp -implicitDefEqProofs (maxSteps := 3000000) only [go_sem, reduceCtorEq, OW.v_eq, OW.h_eq])
    first | rfl | simp [OW.v_eq, OW.h_eq, ofW]
theorem ks_PutNode {h : Heap} {tb : Nat} {K : OK} {args : List V} {ls : List Nat} (w : GWork) (n : GNode) (hw : smallW w) (h1 : n.fKeys.length ≤ LEN) (h2 : n.fVals.length ≤ LEN) (h3 : n.fKids.length ≤ LEN) (hg : toDs h args = some ([.agg w.cells, .agg n.cells], ls))
    (hk : K (renV (bk tb ((ofW (putW w n).1).h)) (.tup [(ofW (putW w n).1).v, .d (.int .i64 (putW w n).2)])) (updN tb ((ofW (putW w n).1).h) ((ofW (putW w n).1).h))) : callVC Go.Proofs.Try.prog h tb 29 args K :=
  call_free hg (cs_PutNode w n hw h1 h2 h3) rfl (.inr ⟨flat_of rfl, flat_owh⟩) hk
end Go.Rx
