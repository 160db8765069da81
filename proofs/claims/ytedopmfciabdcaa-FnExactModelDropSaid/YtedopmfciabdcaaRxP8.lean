/-
  Contracts of functions of the program, each for all data of the shape that it names.
-/
import Derived.Test.YtedopmfciabdcaaRxP7
namespace Go.Rx
open Go

/-! calls again, over the wider table of types -/

/-! f6 FnExactModelDrop -/
@[go_sem] def hr6 : Hints
  | 0 => [0, 1] | 1 => [0, 1] | 2 => [] | 3 => [0, 1] | 4 => [0, 1, 5] | 5 => [0, 1, 5] | 6 => [] | 7 => [0, 1] | 8 => [0, 1, 6] | 9 => [0, 1, 6, 7] | 10 => [0, 1, 6, 7, 8] | 11 => [] | 12 => [0, 1, 6, 7, 8] | 13 => [] | 14 => [0, 1, 6, 7, 8] | 15 => [0, 1, 6, 7, 8, 9] | 16 => [0, 1, 6, 8, 9] | 17 => [] | 18 => [0, 1, 6, 8] | 19 => [0, 1, 6, 8, 10] | 20 => [0, 1, 6, 8, 10] | 21 => [0, 1, 6, 8, 10, 11] | 22 => [0, 1, 6, 8, 10, 11] | 23 => [] | 24 => [0, 1, 6, 8, 10, 11] | 25 => [] | 26 => [0, 1, 6, 8, 10] | 27 => [6, 8, 10, 12] | 28 => [] | 29 => [8, 10] | 30 => [8, 10, 11] | 31 => [10, 11] | 32 => [] | 33 => [10, 11] | 34 => [] | 35 => [] | _ => []
@[go_sem] def hl6 : Hints := fun _ => []
attribute [go_sem] Go.Proofs.Try.results6
set_option maxHeartbeats 4000000 in
theorem c6 (l : List Pr) (key : List UInt8) (hl : l.length ≤ LEN) (hp : ∀ p ∈ l, p.ok) : CallOK Go.Proofs.Try.prog 6 [.d (.sl (prs l)), .d (.str key)] [] [.dead, .dead] (.d (.bool true)) [] := by
  refine call_of tysMOK mixed Go.Proofs.Try.func6 (by kernel_rfl) rfl (np := [false, false]) (by kernel_rfl) hr6 hl6 (by simp [Go.Proofs.Try.ntmps6]) ?_
  simp -implicitDefEqProofs only [go_sem, reduceCtorEq]
  refine way_dec (fun h0 => ?_) (fun h0 => ?_)
  · simp -implicitDefEqProofs only [go_sem, reduceCtorEq]
  · simp -implicitDefEqProofs only [go_sem, reduceCtorEq]
    refine k9 _ _ rfl hl ?_
    simp -implicitDefEqProofs only [go_sem, reduceCtorEq]
    refine way_dec (fun h1 => ?_) (fun h1 => ?_)
    · simp -implicitDefEqProofs only [go_sem, reduceCtorEq]
    · have hs := szPairS_ok hp hl (by omega) (by omega) h1
      have hn : l.length ≤ 1048576 := by omega
      have hkl := keep_len (l := l) (key := key)
      have hwl := wiped_length (l := l) (key := key)
      have hkL : (keep l key).length ≤ LEN := by simp only [LEN]; omega
      simp -implicitDefEqProofs only [go_sem, reduceCtorEq]
      repeat ((first | refine k11 l rfl hn ?_ | refine k21 l key rfl (prs_whole rfl) hn ?_ | refine k22 l key rfl (prs_whole rfl) hn ?_ | refine k13 (keep l key) (keep l key) rfl keep_wiped (prs_whole rfl) hkL ?_ | refine k13 l l rfl (prs_whole rfl) (prs_whole rfl) hl ?_ | refine k23 l l.length 1 rfl rfl rfl (Nat.le_refl _) hn (by decide) ?_ | refine k23 (wiped l key) (keep l key).length 1 rfl rfl rfl (by omega) (by omega) (by decide) ?_ | refine k24 1 (keep l key).length rfl read_mark (by omega) (by decide) ?_ | refine wayF_dec (fun _ => ?_) (fun h => absurd h (by omega)) | refine way_dec (fun h => absurd h (by omega)) (fun _ => ?_) | refine req (by first | assumption | omega) ?_); simp -implicitDefEqProofs only [go_sem, reduceCtorEq, decide_true])
end Go.Rx
