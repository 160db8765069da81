/-
  Contracts of functions of the program, each for all data of the shape that it names.
-/
import Derived.Test.YtedopmfciabdcaaRxP6
namespace Go.Rx
open Go
attribute [local irreducible] Req Way WayG Sel
set_option linter.unusedSimpArgs false
set_option linter.unusedVariables false

/-! f42 the closure of ModelDrop -/
@[go_sem] def hr42 : Hints
  | 0 => [0, 1] | 1 => [1, 2] | _ => []
@[go_sem] def hl42 : Hints := fun _ => []
attribute [go_sem] Go.Proofs.Try.results42
theorem c42 (p : Pr) (key : List UInt8) : CallOK Go.Proofs.Try.prog 42 [.d (.agg p.cells), .d (.ptr [.str key])] [] [.dead, .dead] (.d (.bool (decide (p.key = key)))) [] := by
  refine call_of tysMOK mixed Go.Proofs.Try.func42 (by kernel_rfl) rfl (np := [false, false]) (by kernel_rfl) hr42 hl42 (by simp [Go.Proofs.Try.ntmps42]) ?_
  simp -implicitDefEqProofs only [go_sem, reduceCtorEq, Pr.cells]
theorem k42 {h : Heap} {tb : Nat} {K : OK} {args : List V} {ls : List Nat} (p : Pr) (key : List UInt8) (hg : toDs h args = some ([.agg [.str p.key, .str p.val], .ptr [.str key]], ls))
    (hk : K (.d (.bool (decide (p.key = key)))) []) : callVC Go.Proofs.Try.prog h tb 42 args K :=
  call_free hg (c42 p key) rfl (.inr ⟨.d (.bool _), flatH_nil⟩) hk

/-! f48 slices.IndexFunc -/
def idxD : List Pr → List UInt8 → Option Nat
  | [], _ => none
  | p :: l, key => if p.key = key then some 0 else (idxD l key).map (· + 1)
def idxI (l : List Pr) (key : List UInt8) : Int := match idxD l key with | some i => i | none => -1
theorem idxD_step {l : List Pr} {key : List UInt8} : ∀ {i : Nat} {p : Pr}, l[i]? = some p → (∀ q ∈ l.take i, q.key ≠ key) → p.key = key → idxD l key = some i := by
  induction l with
  | nil => intro i p h; simp at h
  | cons x l ih =>
    intro i p h h1 h2
    cases i with
    | zero => simp at h; subst h; simp [idxD, h2]
    | succ i =>
      have hx : x.key ≠ key := h1 x (by simp)
      simp only [idxD, if_neg hx]
      rw [ih (by simpa using h) (fun q hq => h1 q (by simp [hq])) h2]; rfl
theorem idxD_none {l : List Pr} {key : List UInt8} (h : ∀ q ∈ l, q.key ≠ key) : idxD l key = none := by
  induction l with
  | nil => rfl
  | cons x l ih => simp only [idxD, if_neg (h x (by simp))]; rw [ih fun q hq => h q (by simp [hq])]; rfl
theorem idxD_some {l : List Pr} {key : List UInt8} : ∀ {i : Nat}, idxD l key = some i → i < l.length ∧ (∀ q ∈ l.take i, q.key ≠ key) ∧ ∃ p, l[i]? = some p ∧ p.key = key := by
  induction l with
  | nil => intro i h; simp [idxD] at h
  | cons x l ih =>
    intro i h
    simp only [idxD] at h
    by_cases hx : x.key = key
    · rw [if_pos hx] at h; cases h; exact ⟨by simp, by simp, x, rfl, hx⟩
    · rw [if_neg hx] at h
      cases hd : idxD l key with
      | none => rw [hd] at h; cases h
      | some j =>
        rw [hd] at h
        simp at h; subst h
        obtain ⟨h1, h2, p, h3, h4⟩ := ih hd
        refine ⟨by simp; omega, fun q hq => ?_, p, by simpa using h3, h4⟩
        simp at hq
        rcases hq with rfl | hq
        · exact hx
        · exact h2 q hq
theorem idxD_none' {l : List Pr} {key : List UInt8} (h : idxD l key = none) : ∀ q ∈ l, q.key ≠ key := by
  induction l with
  | nil => simp
  | cons x l ih =>
    simp only [idxD] at h
    by_cases hx : x.key = key
    · rw [if_pos hx] at h; cases h
    · rw [if_neg hx] at h
      intro q hq
      simp at hq
      rcases hq with rfl | hq
      · exact hx
      · exact ih (by simpa using h) q hq

@[go_sem] def hr48 : Hints
  | 0 => [0, 1] | 1 => [0, 1] | 2 => [0, 1, 7, 8] | 3 => [0, 1, 7, 8] | 4 => [0, 1, 5, 7, 8] | 5 => [5] | 6 => [0, 1, 7, 8] | 7 => [] | _ => []
@[go_sem] def hl48 : Hints
  | 2 => [0, 1, 7, 8] | _ => []
attribute [go_sem] Go.Proofs.Try.results48
theorem c48 (l : List Pr) (key : List UInt8) (hl : l.length ≤ LEN) : CallOK Go.Proofs.Try.prog 48 [.d (.sl (prs l)), .d (.clo 42 [.ptr [.str key]])] [] [.dead, .dead] (.d (.int .i64 (idxI l key))) [] := by
  refine call_of tysMOK mixed Go.Proofs.Try.func48 (by kernel_rfl) rfl (np := [false, false]) (by kernel_rfl) hr48 hl48 (by simp [Go.Proofs.Try.ntmps48]) ?_
  simp -implicitDefEqProofs only [go_sem, reduceCtorEq, prs_length]
  refine loop_data (α := Nat) (fun i => ⟨[(0, .d (.sl (prs l))), (1, .d (.clo 42 [.ptr [.str key]])), (7, .d (.int .i64 l.length)), (8, .d (.int .i64 i))], []⟩)
    (fun i => i ≤ l.length ∧ ∀ q ∈ l.take i, q.key ≠ key) (fun i => l.length - i) 0 rfl ⟨Nat.zero_le _, by simp⟩ ?_
  rintro i ⟨h2, h3⟩
  simp -implicitDefEqProofs only [go_sem, reduceCtorEq, prs_length]
  refine way_dec (fun h5 => ?_) (fun h5 => ?_)
  · obtain ⟨p, hp⟩ := some_at h5
    simp -implicitDefEqProofs only [go_sem, reduceCtorEq, prs_length, lget_prs hp]
    repeat ((first | refine req (by first | assumption | omega | exact commP_of (by kernel_rfl)) ?_ | refine k42 _ _ rfl ?_); simp -implicitDefEqProofs only [go_sem, reduceCtorEq, prs_length, lget_prs hp])
    refine way_dec (fun h6 => ?_) (fun h6 => ?_)
    · simp -implicitDefEqProofs only [go_sem, reduceCtorEq]
      have := idxD_step hp h3 h6
      simp [idxI, this]
    · simp -implicitDefEqProofs only [go_sem, reduceCtorEq]
      rw [wrap_succ (by omega)]
      refine next_data (i + 1) rfl ⟨by omega, fun q hq => ?_⟩ (by omega)
      rw [take_snoc hp] at hq
      simp at hq
      rcases hq with hq | rfl
      · exact h3 q hq
      · exact h6
  · simp -implicitDefEqProofs only [go_sem, reduceCtorEq]
    rw [List.take_of_length_le (by omega)] at h3
    simp [idxI, idxD_none h3]
theorem k48 {h : Heap} {tb : Nat} {K : OK} {args : List V} {ls : List Nat} {xs : List (List D)} (l : List Pr) (key : List UInt8) (hg : toDs h args = some ([.sl xs, .clo 42 [.ptr [.str key]]], ls)) (hx : xs = prs l) (hl : l.length ≤ LEN)
    (hk : K (.d (.int .i64 (idxI l key))) []) : callVC Go.Proofs.Try.prog h tb 48 args K := by
  subst hx; exact call_free hg (c48 l key hl) rfl (.inr ⟨.d (.int _ _), flatH_nil⟩) hk

/-! f41 slices.Clone -/
theorem prs_two {l : List Pr} : ∀ c ∈ prs l, c.length = 2 := by
  intro c hc; simp only [prs, List.mem_map] at hc; obtain ⟨p, _, rfl⟩ := hc; rfl
theorem prs_one {l : List Pr} : ∀ c ∈ prs l, ∀ d ∈ c, d.one = true := by
  intro c hc; simp only [prs, List.mem_map] at hc; obtain ⟨p, _, rfl⟩ := hc
  intro d hd; simp [Pr.cells] at hd; rcases hd with rfl | rfl <;> rfl
@[go_sem] def hr41 : Hints
  | 0 => [0] | 1 => [0] | 2 => [] | 3 => [0] | _ => []
@[go_sem] def hl41 : Hints := fun _ => []
attribute [go_sem] Go.Proofs.Try.results41
theorem c41 (l : List Pr) (hl : l.length ≤ 1048576) : CallOK Go.Proofs.Try.prog 41 [.d (.sl (prs l))] [] [.dead] (.own 0 0 l.length) [(0, .arr 2 (prs l))] := by
  refine call_of tysMOK mixed Go.Proofs.Try.func41 (by kernel_rfl) rfl (np := [false]) (by kernel_rfl) hr41 hl41 (by simp [Go.Proofs.Try.ntmps41]) ?_
  simp -implicitDefEqProofs only [go_sem, reduceCtorEq, prs_length]
  intro b hb
  refine way (fun h1 => ?_) (fun h1 => ?_)
  · have hl0 : l = [] := by have := hb h1; simpa [prs] using this
    subst hl0
    simp -implicitDefEqProofs only [go_sem, reduceCtorEq]
    rfl
  · simp -implicitDefEqProofs only [go_sem, reduceCtorEq]
    repeat ((first | refine req (by first | assumption | omega | exact ⟨by omega, prs_two, prs_one⟩ | (simp; done)) ?_); simp -implicitDefEqProofs only [go_sem, reduceCtorEq, prs_length])
theorem k41 {h : Heap} {tb : Nat} {K : OK} {args : List V} {ls : List Nat} {xs : List (List D)} (l : List Pr) (hg : toDs h args = some ([.sl xs], ls)) (hx : xs = prs l) (hl : l.length ≤ 1048576)
    (hk : K (.own tb 0 l.length) [(tb, some (.arr 2 (prs l)))]) : callVC Go.Proofs.Try.prog h tb 41 args K := by
  subst hx; exact call_free hg (c41 l hl) rfl (.inr ⟨.own _ _ _, flatH_cons flat_prs flatH_nil⟩) hk

/-! f40 slices.DeleteFunc -/
def keep (l : List Pr) (key : List UInt8) : List Pr := l.filter fun p => decide (¬ p.key = key)
theorem keep_all {l : List Pr} {key : List UInt8} (h : ∀ q ∈ l, q.key ≠ key) : keep l key = l := by
  rw [keep, List.filter_eq_self]; intro q hq; simpa using h q hq
theorem keep_len {l : List Pr} {key : List UInt8} : (keep l key).length ≤ l.length := List.length_filter_le _ _
theorem keep_snoc {l : List Pr} {key : List UInt8} {i : Nat} {p : Pr} (h : l[i]? = some p) : keep (l.take (i + 1)) key = keep (l.take i) key ++ (if p.key = key then [] else [p]) := by
  rw [take_snoc h]
  simp only [keep, List.filter_append]
  by_cases hp : p.key = key <;> simp [hp]
def wiped (l : List Pr) (key : List UInt8) : List Pr := keep l key ++ List.replicate (l.length - (keep l key).length) ⟨[], []⟩
theorem wiped_length {l : List Pr} {key : List UInt8} : (wiped l key).length = l.length := by
  have := keep_len (l := l) (key := key)
  simp [wiped]; omega
theorem zeroAt_prs {m : List Pr} {i n : Nat} (h : i + n = m.length) : zeroAt (prs m) i n [D.str [], D.str []] = prs (m.take i ++ List.replicate n ⟨[], []⟩) := by
  have : (prs m).drop (i + n) = [] := List.drop_eq_nil_of_le (by rw [prs_length]; omega)
  simp only [zeroAt, this, List.append_nil]
  rw [prs_zero]
  simp only [prs, List.map_append, List.map_take]

@[go_sem] def hr40 : Hints
  | 0 => [0, 1] | 1 => [0, 1] | 2 => [0, 1, 5] | 3 => [0] | 4 => [0, 1, 5] | 5 => [0, 1, 5, 6] | 6 => [0, 1, 5, 6] | 7 => [0, 1, 5, 6] | 8 => [0, 1, 5, 6, 7] | 9 => [0, 1, 5, 6, 7] | 10 => [0, 1, 5, 6] | 11 => [0, 5] | 12 => [0, 5] | _ => []
@[go_sem] def hl40 : Hints
  | 5 => [0, 1, 5, 6] | _ => []
attribute [go_sem] Go.Proofs.Try.results40
set_option maxHeartbeats 1000000 in
theorem c40 (l : List Pr) (key : List UInt8) (hl : l.length ≤ 1048576) : CallOK Go.Proofs.Try.prog 40 [.own 0 0 l.length, .d (.clo 42 [.ptr [.str key]])] [(0, .arr 2 (prs l))] [.own 0 0 l.length, .dead]
    (.own 0 0 (keep l key).length) [(0, .arr 2 (prs (wiped l key)))] := by
  refine call_of tysMOK mixed Go.Proofs.Try.func40 (by kernel_rfl) rfl (np := [true, false]) (by kernel_rfl) hr40 hl40 (by simp [Go.Proofs.Try.ntmps40]) ?_
  simp -implicitDefEqProofs only [go_sem, reduceCtorEq]
  refine k48 l key rfl (prs_whole rfl) (by simp only [LEN]; omega) ?_
  simp -implicitDefEqProofs only [go_sem, reduceCtorEq]
  refine way_dec (fun h1 => ?_) (fun h1 => ?_)
  · simp -implicitDefEqProofs only [go_sem, reduceCtorEq]
    have hn : idxD l key = none := by
      cases hi : idxD l key with
      | none => rfl
      | some i => simp [idxI, hi] at h1
    have := keep_all (idxD_none' hn)
    simp [wiped, this]
  · obtain ⟨i0, hi0⟩ : ∃ i, idxD l key = some i := by
      cases hi : idxD l key with
      | none => simp [idxI, hi] at h1
      | some i => exact ⟨i, rfl⟩
    obtain ⟨g1, g2, p0, g3, g4⟩ := idxD_some hi0
    have hii : idxI l key = (i0 : Int) := by simp [idxI, hi0]
    simp -implicitDefEqProofs only [go_sem, reduceCtorEq, hii]
    rw [wrap_succ (by simp only [LEN]; omega)]
    have hk0 : keep (l.take (i0 + 1)) key = l.take i0 := by rw [keep_snoc g3, if_pos g4, List.append_nil, keep_all g2]
    refine loop_data (α := Nat × Nat × List Pr) (fun x => ⟨[(0, .own 0 0 l.length), (1, .d (.clo 42 [.ptr [.str key]])), (5, .d (.int .i64 x.1)), (6, .d (.int .i64 x.2.1))], [(0, some (.arr 2 (prs x.2.2)))]⟩)
      (fun x => x.1 < x.2.1 ∧ x.2.1 ≤ l.length ∧ x.2.2.length = l.length ∧ x.2.2.take x.1 = keep (l.take x.2.1) key ∧ x.2.2.drop x.2.1 = l.drop x.2.1) (fun x => l.length - x.2.1) (i0, i0 + 1, l) rfl
      ⟨by simp, by simp only; omega, rfl, hk0.symm, rfl⟩ ?_
    rintro ⟨i, j, m⟩ ⟨h2, h3, h4, h5, h6⟩
    simp only at h2 h3 h4 h5 h6
    simp -implicitDefEqProofs only [go_sem, reduceCtorEq, prs_length]
    refine way_dec (fun h7 => ?_) (fun h7 => ?_)
    · obtain ⟨p, hp⟩ := some_at h7
      have hmp : m[j]? = some p := by
        have e1 : (m.drop j)[0]? = (l.drop j)[0]? := by rw [h6]
        simpa [hp] using e1
      obtain ⟨q, hq⟩ := some_at (l := m) (i := i) (by omega)
      have hd6 : m.drop (j + 1) = l.drop (j + 1) := by
        have := congrArg (List.drop 1) h6
        simpa [List.drop_drop] using this
      simp -implicitDefEqProofs only [go_sem, reduceCtorEq, prs_length, lget_prs hmp]
      repeat ((first | refine req (by first | assumption | omega) ?_ | refine k42 p _ rfl ?_); simp -implicitDefEqProofs only [go_sem, reduceCtorEq, prs_length, lget_prs hmp])
      refine way_ndec (fun h8 => ?_) (fun h8 => ?_)
      · simp -implicitDefEqProofs only [go_sem, reduceCtorEq, prs_length, lget_prs hq, prs_set2]
        repeat ((first | refine req (by first | assumption | omega) ?_); simp -implicitDefEqProofs only [go_sem, reduceCtorEq, prs_length, lget_prs hq, prs_set2])
        rw [wrap_succ (by simp only [LEN]; omega), wrap_succ (by simp only [LEN]; omega)]
        refine next_data (i + 1, j + 1, m.set i p) rfl ⟨?_, ?_, ?_, ?_, ?_⟩ ?_
        · simp only; omega
        · simp only; omega
        · simpa using h4
        · simp only
          rw [keep_snoc hp, if_neg h8, ← h5, List.take_succ_eq_append_getElem (by simp; omega)]
          simp [List.take_set_of_le]
        · simp only
          rw [List.drop_set_of_lt (by omega)]; exact hd6
        · simp only; omega
      · simp -implicitDefEqProofs only [go_sem, reduceCtorEq]
        rw [wrap_succ (by simp only [LEN]; omega)]
        refine next_data (i, j + 1, m) rfl ⟨?_, ?_, h4, ?_, hd6⟩ ?_
        · simp only; omega
        · simp only; omega
        · simp only; rw [keep_snoc hp, if_pos h8, List.append_nil]; exact h5
        · simp only; omega
    · have hj : j = l.length := by omega
      subst hj
      rw [List.take_of_length_le (Nat.le_refl _)] at h5
      have hi : i = (keep l key).length := by rw [← h5]; simp; omega
      simp -implicitDefEqProofs only [go_sem, reduceCtorEq, prs_length]
      repeat ((first | refine req (by first | assumption | omega) ?_); simp -implicitDefEqProofs only [go_sem, reduceCtorEq, prs_length])
      rw [zeroAt_prs (by omega), h5, wiped, hi]
      rfl
theorem k40 {h : Heap} {tb : Nat} {K : OK} {k : Nat} {rest : List V} {ls : List Nat} (l : List Pr) (key : List UInt8) (hh : h k = some (.arr 2 (prs l))) (hg : toDs h rest = some ([.clo 42 [.ptr [.str key]]], ls)) (hnl : ls.contains k = false) (hl : l.length ≤ 1048576)
    (hk : K (.own k 0 (keep l key).length) [(k, none), (k, some (.arr 2 (prs (wiped l key))))]) : callVC Go.Proofs.Try.prog h tb 40 (.own k 0 l.length :: rest) K :=
  call_own hh hg hnl (c40 l key hl) (by rw [prs_length, prs_length, wiped_length]) (.own _ _ _) flat_prs hk

/-! f22 impl.ModelDrop -/
theorem keep_wiped {l : List Pr} {key : List UInt8} : ((prs (wiped l key)).drop 0).take (keep l key).length = prs (keep l key) := by
  simp [prs, wiped, List.map_append]
@[go_sem] def hr22 : Hints
  | 0 => [0, 1] | 1 => [0, 3] | _ => []
@[go_sem] def hl22 : Hints := fun _ => []
attribute [go_sem] Go.Proofs.Try.results22
theorem c22 (l : List Pr) (key : List UInt8) (hl : l.length ≤ 1048576) : CallOK Go.Proofs.Try.prog 22 [.d (.sl (prs l)), .d (.str key)] [] [.dead, .dead] (.own 0 0 (keep l key).length) [(0, .arr 2 (prs (wiped l key)))] := by
  refine call_of tysMOK mixed Go.Proofs.Try.func22 (by kernel_rfl) rfl (np := [false, false]) (by kernel_rfl) hr22 hl22 (by simp [Go.Proofs.Try.ntmps22]) ?_
  simp -implicitDefEqProofs only [go_sem, reduceCtorEq]
  refine k41 l rfl rfl hl ?_
  simp -implicitDefEqProofs only [go_sem, reduceCtorEq]
  refine k40 l key rfl rfl rfl hl ?_
  simp -implicitDefEqProofs only [go_sem, reduceCtorEq]
theorem k22 {h : Heap} {tb : Nat} {K : OK} {args : List V} {ls : List Nat} {xs : List (List D)} (l : List Pr) (key : List UInt8) (hg : toDs h args = some ([.sl xs, .str key], ls)) (hx : xs = prs l) (hl : l.length ≤ 1048576)
    (hk : K (.own tb 0 (keep l key).length) [(tb, some (.arr 2 (prs (wiped l key))))]) : callVC Go.Proofs.Try.prog h tb 22 args K := by
  subst hx; exact call_free hg (c22 l key hl) rfl (.inr ⟨.own _ _ _, flatH_cons flat_prs flatH_nil⟩) hk

/-! f21 spec.ModelDrop -/
theorem prs_snoc {l : List Pr} {a b : List UInt8} {n : Nat} (h : n = l.length) : (prs l).take n ++ [[D.str a, D.str b]] = prs (l ++ [⟨a, b⟩]) := by
  subst h; rw [← prs_length, List.take_length]; simp [prs, Pr.cells]
@[go_sem] def hr21 : Hints
  | 0 => [0, 1] | 1 => [0, 1] | 2 => [0, 1, 5] | 3 => [0, 1, 5, 6] | 4 => [0, 1, 5, 6] | 5 => [0, 1, 5, 6] | 6 => [0, 1, 5, 6] | 7 => [5] | _ => []
@[go_sem] def hl21 : Hints
  | 3 => [0, 1, 5, 6] | _ => []
attribute [go_sem] Go.Proofs.Try.results21
theorem c21 (l : List Pr) (key : List UInt8) (hl : l.length ≤ 1048576) : CallOK Go.Proofs.Try.prog 21 [.d (.sl (prs l)), .d (.str key)] [] [.dead, .dead] (.own 0 0 (keep l key).length) [(0, .arr 2 (prs (keep l key)))] := by
  refine call_of tysMOK mixed Go.Proofs.Try.func21 (by kernel_rfl) rfl (np := [false, false]) (by kernel_rfl) hr21 hl21 (by simp [Go.Proofs.Try.ntmps21]) ?_
  simp -implicitDefEqProofs only [go_sem, reduceCtorEq, prs_length]
  repeat ((first | refine req (by first | assumption | omega | (simp; done)) ?_); simp -implicitDefEqProofs only [go_sem, reduceCtorEq, prs_length])
  refine loop_data (α := Nat) (fun i => ⟨[(0, .d (.sl (prs l))), (1, .d (.str key)), (5, .own 0 0 (keep (l.take i) key).length), (6, .d (.int .i64 i))], [(0, some (.arr 2 (prs (keep (l.take i) key))))]⟩)
    (fun i => i ≤ l.length) (fun i => l.length - i) 0 rfl (Nat.zero_le _) ?_
  rintro i h2
  simp -implicitDefEqProofs only [go_sem, reduceCtorEq, prs_length]
  refine way_dec (fun h5 => ?_) (fun h5 => ?_)
  · obtain ⟨p, hp⟩ := some_at h5
    have hkl := keep_len (l := l.take i) (key := key)
    simp only [List.length_take] at hkl
    simp -implicitDefEqProofs only [go_sem, reduceCtorEq, prs_length, lget_prs hp]
    repeat ((first | refine req (by first | assumption | omega) ?_); simp -implicitDefEqProofs only [go_sem, reduceCtorEq, prs_length, lget_prs hp])
    refine way_ndec (fun h6 => ?_) (fun h6 => ?_)
    · simp -implicitDefEqProofs only [go_sem, reduceCtorEq, prs_length, lget_prs hp]
      repeat ((first | refine req (by first | assumption | omega | (simp [D.one]; omega) | (simp [D.one]; done)) ?_); simp -implicitDefEqProofs only [go_sem, reduceCtorEq, prs_length, lget_prs hp])
      rw [wrap_succ (by simp only [LEN]; omega), prs_snoc rfl]
      refine next_data (i + 1) ?_ (by omega) (by omega)
      rw [keep_snoc hp, if_neg h6]
      simp
    · simp -implicitDefEqProofs only [go_sem, reduceCtorEq]
      rw [wrap_succ (by simp only [LEN]; omega)]
      refine next_data (i + 1) ?_ (by omega) (by omega)
      rw [keep_snoc hp, if_pos h6]
      simp
  · simp -implicitDefEqProofs only [go_sem, reduceCtorEq]
    rw [List.take_of_length_le (by omega)]
theorem k21 {h : Heap} {tb : Nat} {K : OK} {args : List V} {ls : List Nat} {xs : List (List D)} (l : List Pr) (key : List UInt8) (hg : toDs h args = some ([.sl xs, .str key], ls)) (hx : xs = prs l) (hl : l.length ≤ 1048576)
    (hk : K (.own tb 0 (keep l key).length) [(tb, some (.arr 2 (prs (keep l key))))]) : callVC Go.Proofs.Try.prog h tb 21 args K := by
  subst hx; exact call_free hg (c21 l key hl) rfl (.inr ⟨.own _ _ _, flatH_cons flat_prs flatH_nil⟩) hk
end Go.Rx
