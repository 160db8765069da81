/-
  Contracts of functions of the program, each for all data of the shape that it names.
-/
import Derived.Test.YtedopmfciabdcaaRxP7
namespace Go.Rx
open Go
attribute [local irreducible] Req Way WayG Sel
set_option linter.unusedSimpArgs false
set_option linter.unusedVariables false

/-! f25 spec.ModelPut -/
def lesser (l : List Pr) (key : List UInt8) : List Pr := l.filter fun p => bLess p.key key
def greater (l : List Pr) (key : List UInt8) : List Pr := l.filter fun p => bLess key p.key
theorem lesser_snoc {l : List Pr} {key : List UInt8} {i : Nat} {p : Pr} (h : l[i]? = some p) : lesser (l.take (i + 1)) key = lesser (l.take i) key ++ (if bLess p.key key = true then [p] else []) := by
  rw [take_snoc h]
  simp only [lesser, List.filter_append]
  by_cases hp : bLess p.key key = true <;> simp [hp]
theorem greater_snoc {l : List Pr} {key : List UInt8} {i : Nat} {p : Pr} (h : l[i]? = some p) : greater (l.take (i + 1)) key = greater (l.take i) key ++ (if bLess key p.key = true then [p] else []) := by
  rw [take_snoc h]
  simp only [greater, List.filter_append]
  by_cases hp : bLess key p.key = true <;> simp [hp]
theorem lesser_len {l : List Pr} {key : List UInt8} : (lesser l key).length ≤ l.length := List.length_filter_le _ _
theorem greater_len {l : List Pr} {key : List UInt8} : (greater l key).length ≤ l.length := List.length_filter_le _ _
def mput (l : List Pr) (key val : List UInt8) : List Pr := lesser l key ++ ⟨key, val⟩ :: greater l key
theorem bLess_not_both {a b : List UInt8} (h : bLess a b = true) : bLess b a = false := by
  rw [← bLess_swap a b, h]; rfl
theorem prs_snoc' {l : List Pr} {a b : List UInt8} : (prs l).take l.length ++ [[D.str a, D.str b]] = prs (l ++ [⟨a, b⟩]) := prs_snoc rfl
def mput1 (l : List Pr) (key val : List UInt8) (i : Nat) : List Pr := lesser l key ++ ⟨key, val⟩ :: greater (l.take i) key
theorem mput1_len {l : List Pr} {key val : List UInt8} {i : Nat} (h : l.length ≤ 1048576) : (mput1 l key val i).length ≤ 2097153 := by
  have h1 := lesser_len (l := l) (key := key)
  have h2 := greater_len (l := l.take i) (key := key)
  simp only [List.length_take] at h2
  simp [mput1]; omega
@[go_sem] def hr25 : Hints
  | 0 => [0, 1, 2] | 1 => [0, 1, 2] | 2 => [0, 1, 2, 7] | 3 => [0, 1, 2, 7, 8] | 4 => [0, 1, 2, 7, 8] | 5 => [0, 1, 2, 7, 8] | 6 => [0, 1, 2, 7, 8] | 7 => [0, 1, 2, 7] | 8 => [0, 1, 7] | 9 => [0, 1, 7, 9] | 10 => [0, 1, 7, 9] | 11 => [0, 1, 7, 9] | 12 => [0, 1, 7, 9] | 13 => [7] | _ => []
@[go_sem] def hl25 : Hints
  | 9 => [0, 1, 7, 9] | 3 => [0, 1, 2, 7, 8] | _ => []
attribute [go_sem] Go.Proofs.Try.results25
set_option maxHeartbeats 1000000 in
theorem c25 (l : List Pr) (key val : List UInt8) (hl : l.length ≤ 1048576) : CallOK Go.Proofs.Try.prog 25 [.d (.sl (prs l)), .d (.str key), .d (.str val)] [] [.dead, .dead, .dead]
    (.own 0 0 (mput l key val).length) [(0, .arr 2 (prs (mput l key val)))] := by
  refine call_of tysMOK mixed Go.Proofs.Try.func25 (by kernel_rfl) rfl (np := [false, false, false]) (by kernel_rfl) hr25 hl25 (by simp [Go.Proofs.Try.ntmps25]) ?_
  simp -implicitDefEqProofs only [go_sem, reduceCtorEq, prs_length]
  repeat ((first | refine req (by first | assumption | omega | (simp; done)) ?_); simp -implicitDefEqProofs only [go_sem, reduceCtorEq, prs_length])
  refine loop_data (α := Nat) (fun i => ⟨[(0, .d (.sl (prs l))), (1, .d (.str key)), (2, .d (.str val)), (7, .own 0 0 (lesser (l.take i) key).length), (8, .d (.int .i64 i))], [(0, some (.arr 2 (prs (lesser (l.take i) key))))]⟩)
    (fun i => i ≤ l.length) (fun i => l.length - i) 0 rfl (Nat.zero_le _) ?_
  rintro i h2
  have hkl := lesser_len (l := l.take i) (key := key)
  simp only [List.length_take] at hkl
  simp -implicitDefEqProofs only [go_sem, reduceCtorEq, prs_length]
  refine way_dec (fun h5 => ?_) (fun h5 => ?_)
  · obtain ⟨p, hp⟩ := some_at h5
    simp -implicitDefEqProofs only [go_sem, reduceCtorEq, prs_length, lget_prs hp]
    repeat ((first | refine req (by first | assumption | omega) ?_); simp -implicitDefEqProofs only [go_sem, reduceCtorEq, prs_length, lget_prs hp])
    refine way (fun h6 => ?_) (fun h6 => ?_)
    · simp -implicitDefEqProofs only [go_sem, reduceCtorEq, prs_length, lget_prs hp]
      repeat ((first | refine req (by first | assumption | omega | (simp [D.one]; omega) | (simp [D.one]; done)) ?_); simp -implicitDefEqProofs only [go_sem, reduceCtorEq, prs_length, lget_prs hp])
      rw [wrap_succ (by simp only [LEN]; omega), prs_snoc rfl]
      refine next_data (i + 1) ?_ (by omega) (by omega)
      rw [lesser_snoc hp, if_pos h6]
      simp
    · simp -implicitDefEqProofs only [go_sem, reduceCtorEq]
      rw [wrap_succ (by simp only [LEN]; omega)]
      refine next_data (i + 1) ?_ (by omega) (by omega)
      rw [lesser_snoc hp, if_neg (by simp [h6])]
      simp
  · have hi : i = l.length := by omega
    subst hi
    have hk2 := lesser_len (l := l) (key := key)
    simp -implicitDefEqProofs only [go_sem, reduceCtorEq, prs_length, List.take_length]
    repeat ((first | refine req (by first | assumption | omega | (simp [D.one]; omega) | (simp [D.one]; done)) ?_); simp -implicitDefEqProofs only [go_sem, reduceCtorEq, prs_length, List.take_length, prs_snoc'])
    refine loop_data (α := Nat) (fun i => ⟨[(0, .d (.sl (prs l))), (1, .d (.str key)), (7, .own 0 0 (mput1 l key val i).length), (9, .d (.int .i64 i))], [(0, some (.arr 2 (prs (mput1 l key val i))))]⟩)
      (fun i => i ≤ l.length) (fun i => l.length - i) 0 (by simp [mput1, greater]) (Nat.zero_le _) ?_
    rintro i h7
    have hkl := mput1_len (key := key) (val := val) (i := i) hl
    simp -implicitDefEqProofs only [go_sem, reduceCtorEq, prs_length]
    refine way_dec (fun h8 => ?_) (fun h8 => ?_)
    · obtain ⟨p, hp⟩ := some_at h8
      simp -implicitDefEqProofs only [go_sem, reduceCtorEq, prs_length, lget_prs hp]
      repeat ((first | refine req (by first | assumption | omega) ?_); simp -implicitDefEqProofs only [go_sem, reduceCtorEq, prs_length, lget_prs hp])
      refine way (fun h6 => ?_) (fun h6 => ?_)
      · simp -implicitDefEqProofs only [go_sem, reduceCtorEq, prs_length, lget_prs hp]
        repeat ((first | refine req (by first | assumption | omega | (simp [D.one]; omega) | (simp [D.one]; done)) ?_); simp -implicitDefEqProofs only [go_sem, reduceCtorEq, prs_length, lget_prs hp, prs_snoc'])
        rw [wrap_succ (by simp only [LEN]; omega)]
        refine next_data (i + 1) ?_ (by omega) (by omega)
        have : mput1 l key val (i + 1) = mput1 l key val i ++ [p] := by simp [mput1, greater_snoc hp, h6]
        rw [this]
        simp
      · simp -implicitDefEqProofs only [go_sem, reduceCtorEq]
        rw [wrap_succ (by simp only [LEN]; omega)]
        refine next_data (i + 1) ?_ (by omega) (by omega)
        have : mput1 l key val (i + 1) = mput1 l key val i := by simp [mput1, greater_snoc hp, h6]
        rw [this]
    · have hi : i = l.length := by omega
      subst hi
      simp -implicitDefEqProofs only [go_sem, reduceCtorEq]
      have : mput1 l key val l.length = mput l key val := by simp [mput1, mput]
      rw [this]
theorem k25 {h : Heap} {tb : Nat} {K : OK} {args : List V} {ls : List Nat} {xs : List (List D)} (l : List Pr) (key val : List UInt8) (hg : toDs h args = some ([.sl xs, .str key, .str val], ls)) (hx : xs = prs l) (hl : l.length ≤ 1048576)
    (hk : K (.own tb 0 (mput l key val).length) [(tb, some (.arr 2 (prs (mput l key val))))]) : callVC Go.Proofs.Try.prog h tb 25 args K := by
  subst hx; exact call_free hg (c25 l key val hl) rfl (.inr ⟨.own _ _ _, flatH_cons flat_prs flatH_nil⟩) hk
end Go.Rx
