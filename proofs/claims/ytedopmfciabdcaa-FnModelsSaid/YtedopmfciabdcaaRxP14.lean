/-
  Contracts of functions of the program, each for all data of the shape that it names.
-/
import Derived.Test.YtedopmfciabdcaaRxP13
namespace Go.Rx
open Go
attribute [local irreducible] Req Way WayG Sel
set_option linter.unusedSimpArgs false
set_option linter.unusedVariables false

/-! f8 FnModels -/
@[go_sem] def hr8 : Hints
  | 0 => [0] | 1 => [0] | 2 => [] | 3 => [0] | 4 => [0, 3, 4, 5] | 5 => [0, 3, 4, 5, 6] | 6 => [0, 3, 4, 5, 6, 7] | 7 => [0, 3, 4, 5, 6, 7, 8] | 8 => [0, 3, 4, 5, 6, 7, 8, 9] | 9 => [0, 3, 4, 5, 6, 7, 8, 9] | 10 => [0, 3, 4, 5, 6, 7, 8, 9] | 11 => [0, 3, 4, 5, 6, 7, 8, 9] | 12 => [0, 3, 4, 5, 6, 7, 8, 9] | 13 => [] | 14 => [0, 3, 4, 5, 6, 7, 8] | 15 => [3, 4, 5, 6, 7, 8, 10, 11] | _ => []
@[go_sem] def hl8 : Hints
  | 8 => [0, 3, 4, 5, 6, 7, 8, 9] | _ => []
attribute [go_sem] Go.Proofs.Try.results8
set_option maxHeartbeats 8000000 in
theorem c8 (code : List UInt8) (hl : code.length ≤ LEN) : CallOK Go.Proofs.Try.prog 8 [.d (.sl (bys code))] [] [.dead] (.d (.bool true)) [] := by
  refine call_of tysCOK mixed Go.Proofs.Try.func8 (by kernel_rfl) rfl (np := [false]) (by kernel_rfl) hr8 hl8 (by simp [Go.Proofs.Try.ntmps8]) ?_
  simp -implicitDefEqProofs only [go_sem, reduceCtorEq]
  refine k27 code rfl ?_
  simp -implicitDefEqProofs only [go_sem, reduceCtorEq]
  refine way_dec (fun h0 => ?_) (fun h0 => ?_)
  · simp -implicitDefEqProofs only [go_sem, reduceCtorEq]
  · have hl' : code.length ≤ 1048576 := by omega
    have hln := listOf_len (code := code)
    have hasc := asc_mput (key := keyOf code) (val := [110, 101, 119]) (asc_listOf (code := code))
    have hml := mput_len' (l := listOf code) (key := keyOf code) (val := [110, 101, 119])
    have hcnt := cnt_mput (l := listOf code) (key := keyOf code) (val := [110, 101, 119])
    have hkm := keep_mput (key := keyOf code) (val := [110, 101, 119]) (asc_listOf (code := code))
    simp -implicitDefEqProofs only [go_sem, reduceCtorEq]
    refine k28 code rfl hl' ?_
    simp -implicitDefEqProofs only [go_sem, reduceCtorEq]
    generalize hL : listOf code = l at *
    generalize hK : keyOf code = key at *
    refine k26 l key _ rfl (prs_whole rfl) (by omega) ?_
    simp -implicitDefEqProofs only [go_sem, reduceCtorEq]
    generalize hA : mput l key [110, 101, 119] = a at *
    refine k22 a key rfl (prs_whole rfl) (by omega) ?_
    simp -implicitDefEqProofs only [go_sem, reduceCtorEq]
    refine loop_data (α := Nat) (fun i => ⟨[(0, .d (.sl (bys code))), (3, .own 0 0 l.length), (4, .d (.str key)), (5, .d (.str [110, 101, 119])), (6, .own 1 0 a.length), (7, .own 2 0 (keep a key).length), (8, .d (.int .i64 ((cnt (a.take i) key : Nat) : Int))), (9, .d (.int .i64 i))],
        [(0, some (.arr 2 (prs l))), (1, some (.arr 2 (prs a))), (2, some (.arr 2 (prs (wiped a key))))]⟩)
      (fun i => i ≤ a.length) (fun i => a.length - i) 0 rfl (Nat.zero_le _) ?_
    rintro i h2
    simp -implicitDefEqProofs only [go_sem, reduceCtorEq, prs_length]
    refine way_dec (fun h5 => ?_) (fun h5 => ?_)
    · obtain ⟨p, hp⟩ := some_at h5
      have hcl := cnt_le (l := a.take i) (key := key)
      simp only [List.length_take] at hcl
      have hadd : IntKind.i64.wrap (((cnt (a.take i) key : Nat) : Int) + 1) = ((cnt (a.take i) key + 1 : Nat) : Int) := wrap_succ (by simp only [LEN]; omega)
      have hcs := cnt_snoc (key := key) hp
      simp -implicitDefEqProofs only [go_sem, reduceCtorEq, prs_length, lget_prs hp]
      repeat ((first | refine req (by first | assumption | omega) ?_); simp -implicitDefEqProofs only [go_sem, reduceCtorEq, prs_length, lget_prs hp])
      rcases Nat.eq_zero_or_pos i with hi | hi
      · have hg : decide ((0 : Int) < (i : Int)) = false := decide_eq_false (by omega)
        refine way_dec (fun h6 => ?_) (fun h6 => ?_)
        · rw [if_pos h6] at hcs
          simp -implicitDefEqProofs only [go_sem, reduceCtorEq, prs_length, lget_prs hp, hadd, ← hcs, hg]
          repeat ((first | refine req (by first | assumption | omega | exact commP_of (by kernel_rfl)) ?_); simp -implicitDefEqProofs only [go_sem, reduceCtorEq, prs_length, lget_prs hp, hadd, ← hcs, hg])
          rw [wrap_succ (by simp only [LEN]; omega)]
          exact next_data (i + 1) rfl (by omega) (by omega)
        · rw [if_neg h6, Nat.add_zero] at hcs
          simp -implicitDefEqProofs only [go_sem, reduceCtorEq, prs_length, lget_prs hp, hg]
          repeat ((first | refine req (by first | assumption | omega | exact commP_of (by kernel_rfl)) ?_); simp -implicitDefEqProofs only [go_sem, reduceCtorEq, prs_length, lget_prs hp, hg])
          rw [wrap_succ (by simp only [LEN]; omega)]
          exact next_data (i + 1) (by rw [hcs]; rfl) (by omega) (by omega)
      · obtain ⟨j, rfl⟩ : ∃ j, i = j + 1 := ⟨i - 1, by omega⟩
        obtain ⟨q, hq⟩ := some_at (l := a) (i := j) (by omega)
        have hlt := asc_at hasc hq hp
        have hg : decide ((0 : Int) < ((j + 1 : Nat) : Int)) = true := decide_eq_true (by omega)
        have hj : IntKind.i64.wrap (((j + 1 : Nat) : Int) - 1) = (j : Int) := by rw [wrap_int (by omega) (by omega)]; omega
        refine way_dec (fun h6 => ?_) (fun h6 => ?_)
        · rw [if_pos h6] at hcs
          simp -implicitDefEqProofs only [go_sem, reduceCtorEq, prs_length, lget_prs hp, lget_prs hq, hlt, hj, hadd, ← hcs, hg]
          repeat ((first | refine req (by first | assumption | omega | exact commP_of (by kernel_rfl)) ?_); simp -implicitDefEqProofs only [go_sem, reduceCtorEq, prs_length, lget_prs hp, lget_prs hq, hlt, hj, hadd, ← hcs, hg])
          rw [wrap_succ (by simp only [LEN]; omega)]
          exact next_data (j + 1 + 1) rfl (by omega) (by omega)
        · rw [if_neg h6, Nat.add_zero] at hcs
          simp -implicitDefEqProofs only [go_sem, reduceCtorEq, prs_length, lget_prs hp, lget_prs hq, hlt, hj, hg]
          repeat ((first | refine req (by first | assumption | omega | exact commP_of (by kernel_rfl)) ?_); simp -implicitDefEqProofs only [go_sem, reduceCtorEq, prs_length, lget_prs hp, lget_prs hq, hlt, hj, hg])
          rw [wrap_succ (by simp only [LEN]; omega)]
          exact next_data (j + 1 + 1) (by rw [hcs]; rfl) (by omega) (by omega)
    · have hi : i = a.length := by omega
      subst hi
      have hkl := keep_len (l := l) (key := key)
      simp -implicitDefEqProofs only [go_sem, reduceCtorEq, List.take_length, hcnt]
      refine k29 code rfl hl' ?_
      have h1 : decide (((1 : Nat) : Int) = 1) = true := rfl
      have haL : a.length ≤ LEN := by simp only [LEN]; omega
      have hkL : (keep l key).length ≤ LEN := by simp only [LEN]; omega
      simp -implicitDefEqProofs only [go_sem, reduceCtorEq, List.take_length, hcnt, h1, hL, hK, hA, hkm]
      repeat ((first | refine k25 l key _ rfl (prs_whole rfl) (by omega) ?_ | refine k21 l key rfl (prs_whole rfl) (by omega) ?_ | refine k22 l key rfl (prs_whole rfl) (by omega) ?_ | refine k30 a a rfl (prs_whole rfl) (prs_whole rfl) haL ?_ | refine k30 (keep l key) (keep l key) rfl (by first | exact keep_wiped | (rw [← hkm]; exact keep_wiped)) (prs_whole rfl) hkL ?_); simp -implicitDefEqProofs only [go_sem, reduceCtorEq, List.take_length, hcnt, h1, hL, hK, hA, hkm, decide_true])
end Go.Rx
