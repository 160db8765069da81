/-
  Contracts of functions of the program, each for all data of the shape that it names.
-/
import Derived.Test.YtedopmfciabdcaaRxP2
namespace Go.Rx
open Go
attribute [local irreducible] Req Way WayG Sel

/-! what the sizes allow -/
theorem sub64_eq {a : Int} {n : Nat} (h1 : 0 ≤ a) (h2 : a ≤ 1048576) (h3 : n ≤ LEN) : sub64 a n = a - n := by
  simp only [LEN] at h3
  exact wrap_int (by omega) (by omega)

theorem szPair_ok {p : Pr} {a : Int} (hk : p.key.length ≤ LEN) (hv : p.val.length ≤ LEN) (h1 : 0 ≤ a) (h2 : a ≤ 1048576) (h : ¬ szPair p a < 0) : szPair p a = a - p.key.length - p.val.length := by
  unfold szPair at h ⊢
  rw [sub64_eq h1 h2 hk] at h ⊢
  split at h
  · omega
  · rename_i h3
    rw [sub64_eq (by omega) (by omega) hv] at h ⊢
    split at h
    · omega
    · rename_i h4; simp [h3, h4]

def Pr.ok (p : Pr) : Prop := p.key.length ≤ LEN ∧ p.val.length ≤ LEN

theorem szGo_ok : ∀ {l : List Pr} {a : Int}, (∀ p ∈ l, p.ok) → 0 ≤ a → a ≤ 1048576 → ¬ szGo l a < 0 → (((l.map fun p => p.key.length + p.val.length).sum : Nat) : Int) + szGo l a = a
  | [], a, _, _, _, _ => by simp [szGo]
  | p :: l, a, hl, h1, h2, h => by
    unfold szGo at h ⊢
    split at h
    · omega
    · rename_i h3
      have h4 := szPair_ok (hl p (by simp)).1 (hl p (by simp)).2 h1 h2 h3
      have ih := szGo_ok (l := l) (a := szPair p a) (fun q hq => hl q (by simp [hq])) (by omega) (by omega) h
      rw [if_neg h3]
      simp only [List.map_cons, List.sum_cons]
      omega

theorem szPairS_ok {l : List Pr} {a : Int} (hl : ∀ p ∈ l, p.ok) (hn : l.length ≤ LEN) (h1 : 0 ≤ a) (h2 : a ≤ 1048576) (h : ¬ szPairS l a < 0) :
    (((l.map fun p => p.key.length + p.val.length).sum : Nat) : Int) + l.length + szPairS l a = a := by
  unfold szPairS at h ⊢
  rw [sub64_eq h1 h2 hn] at h ⊢
  split at h
  · omega
  · rename_i h3
    have := szGo_ok hl (by omega) (by omega) h
    rw [if_neg h3]; omega

theorem show_length : ∀ l : List Pr, (showPairs l).length = (l.map fun p => p.key.length + p.val.length).sum + 2 * l.length
  | [] => rfl
  | p :: l => by
    have ih := show_length l
    simp only [showPairs, List.flatMap_cons, List.length_append, List.map_cons, List.sum_cons, List.length_cons] at ih ⊢
    rw [ih]; simp [show1]; omega

/-! f3 FnExactShowPairs -/
@[go_sem] def hr3 : Hints
  | 0 => [0] | 1 => [0] | 2 => [0, 3] | 3 => [0, 3] | 4 => [] | 5 => [0] | 6 => [0, 4] | 7 => [0, 4, 5] | 8 => [0, 4, 5, 6] | 9 => [] | 10 => [0, 5] | 11 => [] | 12 => [] | _ => []
@[go_sem] def hl3 : Hints := fun _ => []
attribute [go_sem] Go.Proofs.Try.results3
theorem c3 (l : List Pr) (hl : l.length ≤ LEN) (hp : ∀ p ∈ l, p.ok) : CallOK Go.Proofs.Try.prog 3 [.d (.sl (prs l))] [] [.dead] (.d (.bool true)) [] := by
  refine call_of tysOK mixed Go.Proofs.Try.func3 (by kernel_rfl) rfl (np := [false]) (by kernel_rfl) hr3 hl3 (by simp [Go.Proofs.Try.ntmps3]) ?_
  simp -implicitDefEqProofs only [go_sem, reduceCtorEq]
  refine k9 _ _ rfl hl ?_
  simp -implicitDefEqProofs only [go_sem, reduceCtorEq]
  refine way_dec (fun h1 => ?_) (fun h1 => ?_)
  · simp -implicitDefEqProofs only [go_sem, reduceCtorEq]
  · have hs := szPairS_ok hp hl (by omega) (by omega) h1
    have hw := show_length l
    have hn : l.length ≤ 1048576 := by omega
    have hm : (showPairs l).length ≤ LEN := by simp only [LEN]; omega
    simp -implicitDefEqProofs only [go_sem, reduceCtorEq]
    repeat ((first | refine k11 l rfl hn ?_ | refine k10 l rfl (prs_whole rfl) hl hm ?_ | refine k12 l rfl (prs_whole rfl) hl hm ?_ | refine k13 l l rfl (prs_whole rfl) (prs_whole rfl) hl ?_); simp -implicitDefEqProofs only [go_sem, reduceCtorEq, decide_true])
end Go.Rx
