/-
  Contracts of functions of the program, each for all data of the shape that it names.
-/
import Derived.Test.YtedopmfciabdcaaRxP10
import Derived.Test.YtedopmfciabdcaaRxP11
namespace Go.Rx
open Go
attribute [local irreducible] Req Way WayG Sel
set_option linter.unusedSimpArgs false
set_option linter.unusedVariables false

/-! f47 l15Pairs -/
def stepPair (c : Cur) (l : List Pr) : List Pr × Cur :=
  (mput l ((c.pick keyL).1 ++ ((c.pick keyL).2.pick [[], [49]]).1) (((c.pick keyL).2.pick [[], [49]]).2.pick [[], [118]]).1, (((c.pick keyL).2.pick [[], [49]]).2.pick [[], [118]]).2)
def pairsGo : Nat → Nat → Cur → List Pr → List Pr × Cur
  | 0, _, c, l => (l, (c.below 20).2)
  | f + 1, i, c, l => if (i : Int) < (c.below 20).1 then pairsGo f (i + 1) (stepPair (c.below 20).2 l).2 (stepPair (c.below 20).2 l).1 else (l, (c.below 20).2)
def drawn (c : Cur) : List Pr × Cur := pairsGo 20 0 c []
theorem pick_small {c : Cur} {l : List (List UInt8)} (h : l ≠ []) (hl : ∀ s ∈ l, s.length ≤ 1) : (c.pick l).1.length ≤ 1 := hl _ (Cur.pick_mem h)
theorem keyL_small : ∀ s ∈ keyL, s.length ≤ 1 := by decide
theorem pairsGo_stop {f i : Nat} {c : Cur} {l : List Pr} (h : ¬ (i : Int) < (c.below 20).1) : pairsGo f i c l = (l, (c.below 20).2) := by
  cases f with
  | zero => rfl
  | succ f => simp only [pairsGo, if_neg h]
theorem pairsGo_go {i : Nat} {c : Cur} {l : List Pr} (h : (i : Int) < (c.below 20).1) : pairsGo (20 - i) i c l = pairsGo (20 - (i + 1)) (i + 1) (stepPair (c.below 20).2 l).2 (stepPair (c.below 20).2 l).1 := by
  have := (Cur.below_range (c := c) (n := 20) (by decide)).2
  have e : 20 - i = (20 - (i + 1)) + 1 := by omega
  rw [e]
  conv => lhs; rw [pairsGo]
  rw [if_pos h]

@[go_sem] def hr47 : Hints
  | 0 => [0] | 1 => [0] | 2 => [0, 3] | 3 => [0, 3, 4] | 4 => [0, 3, 4] | 5 => [0, 3, 4] | 6 => [0, 3] | _ => []
@[go_sem] def hl47 : Hints
  | 3 => [0, 3, 4] | _ => []
attribute [go_sem] Go.Proofs.Try.results47
set_option maxHeartbeats 2000000 in
theorem c47 (c : Cur) (hc : c.ok) : CallOK Go.Proofs.Try.prog 47 [.ref 0 0] [(0, .box c.cells)] [.ref 0 0] (.own 1 0 (drawn c).1.length) [(0, .box (drawn c).2.cells), (1, .arr 2 (prs (drawn c).1))] := by
  refine call_of tysCOK mixed Go.Proofs.Try.func47 (by kernel_rfl) rfl (np := [true]) (by kernel_rfl) hr47 hl47 (by simp [Go.Proofs.Try.ntmps47]) ?_
  simp -implicitDefEqProofs only [go_sem, reduceCtorEq, Cur.cells]
  repeat ((first | refine req (by first | omega | (simp; done)) ?_); simp -implicitDefEqProofs only [go_sem, reduceCtorEq, Cur.cells])
  refine loop_data (α := Nat × Cur × List Pr) (fun x => ⟨[(0, .ref 0 0), (3, .own 1 0 x.2.2.length), (4, .d (.int .i64 x.1))], [(0, some (.box x.2.1.cells)), (1, some (.arr 2 (prs x.2.2)))]⟩)
    (fun x => x.1 ≤ 20 ∧ x.2.2.length ≤ x.1 ∧ x.2.1.ok ∧ pairsGo (20 - x.1) x.1 x.2.1 x.2.2 = drawn c) (fun x => 20 - x.1) (0, c, []) rfl ⟨Nat.zero_le _, by simp, hc, rfl⟩ ?_
  rintro ⟨i, d, l⟩ ⟨h1, h2, h3, h4⟩
  simp only at h1 h2 h3 h4
  simp -implicitDefEqProofs only [go_sem, reduceCtorEq, Cur.cells]
  refine k51 d _ rfl rfl rfl h3 ?_
  simp -implicitDefEqProofs only [go_sem, reduceCtorEq, Cur.cells]
  have hr := Cur.below_range (c := d) (n := 20) (by decide)
  refine way_dec (fun h5 => ?_) (fun h5 => ?_)
  · have o1 := Cur.below_ok (n := 20) h3
    have o2 := Cur.pick_ok (l := keyL) o1
    have o3 := Cur.pick_ok (l := [[], [49]]) o2
    have o4 := Cur.pick_ok (l := [[], [118]]) o3
    have b1 := pick_small (c := (d.below 20).2) (l := keyL) (by decide) keyL_small
    have b2 := pick_small (c := ((d.below 20).2.pick keyL).2) (l := [[], [49]]) (by decide) (by decide)
    have hml := mput_len' (l := l) (key := ((d.below 20).2.pick keyL).1 ++ (((d.below 20).2.pick keyL).2.pick [[], [49]]).1) (val := ((((d.below 20).2.pick keyL).2.pick [[], [49]]).2.pick [[], [118]]).1)
    simp -implicitDefEqProofs only [go_sem, reduceCtorEq, Cur.cells]
    repeat ((first | refine k46 (d.below 20).2 rfl rfl o1 ?_ | refine k50 ((d.below 20).2.pick keyL).2 [[], [49]] rfl rfl rfl rfl rfl (by decide) o2 ?_ | refine k50 (((d.below 20).2.pick keyL).2.pick [[], [49]]).2 [[], [118]] rfl rfl rfl rfl rfl (by decide) o3 ?_ | refine k25 l _ _ rfl (prs_whole rfl) (by omega) ?_ | refine req (by first | omega | (simp [D.one]; done) | (simp only [LEN]; omega)) ?_); simp -implicitDefEqProofs only [go_sem, reduceCtorEq, Cur.cells])
    rw [wrap_succ (by simp only [LEN]; omega)]
    refine next_data (i + 1, (stepPair (d.below 20).2 l).2, (stepPair (d.below 20).2 l).1) rfl ⟨?_, ?_, o4, ?_⟩ ?_
    · simp only; omega
    · simp only [stepPair]; omega
    · simp only; rw [← pairsGo_go h5]; exact h4
    · simp only; omega
  · simp -implicitDefEqProofs only [go_sem, reduceCtorEq, Cur.cells]
    rw [pairsGo_stop h5] at h4
    rw [← h4]
theorem k47 {h : Heap} {tb : Nat} {K : OK} {k : Nat} (c : Cur) (hh : h k = some (.box c.cells)) (hro : refO h k = [k]) (hc : c.ok)
    (hk : K (.own (tb + 1) 0 (drawn c).1.length) [(k, none), (k, some (.box (drawn c).2.cells)), (tb + 1, some (.arr 2 (prs (drawn c).1)))]) : callVC Go.Proofs.Try.prog h tb 47 [.ref k 0] K :=
  call_box_ false hh hro rfl toDs_nil rfl (c47 c hc) rfl rfl (.inr (.inl rfl)) hk

/-! f27, f28, f29 -/
@[go_sem] def hr27 : Hints
  | 0 => [0] | 1 => [0] | _ => []
@[go_sem] def hl27 : Hints := fun _ => []
attribute [go_sem] Go.Proofs.Try.results27
theorem c27 (code : List UInt8) : CallOK Go.Proofs.Try.prog 27 [.d (.sl (bys code))] [] [.dead] (.d (.bool (decide ((1048576 : Int) < code.length)))) [] := by
  refine call_of tysCOK mixed Go.Proofs.Try.func27 (by kernel_rfl) rfl (np := [false]) (by kernel_rfl) hr27 hl27 (by simp [Go.Proofs.Try.ntmps27]) ?_
  simp -implicitDefEqProofs only [go_sem, reduceCtorEq, bys_length]
theorem k27 {h : Heap} {tb : Nat} {K : OK} {args : List V} {ls : List Nat} (code : List UInt8) (hg : toDs h args = some ([.sl (bys code)], ls))
    (hk : K (.d (.bool (decide ((1048576 : Int) < code.length)))) []) : callVC Go.Proofs.Try.prog h tb 27 args K :=
  call_free hg (c27 code) rfl (.inr ⟨.d (.bool _), flatH_nil⟩) hk

def keyOf (code : List UInt8) : List UInt8 := ((Cur.new code).pick keyL).1
def listOf (code : List UInt8) : List Pr := (drawn ((Cur.new code).pick keyL).2).1
@[go_sem] def hr28 : Hints
  | 0 => [0] | 1 => [0] | 2 => [5] | 3 => [5, 6] | _ => []
@[go_sem] def hl28 : Hints := fun _ => []
attribute [go_sem] Go.Proofs.Try.results28
theorem c28 (code : List UInt8) (hl : code.length ≤ 1048576) : CallOK Go.Proofs.Try.prog 28 [.d (.sl (bys code))] [] [.dead] (.tup [.own 0 0 (listOf code).length, .d (.str (keyOf code)), .d (.str [110, 101, 119])]) [(0, .arr 2 (prs (listOf code)))] := by
  refine call_of tysCOK mixed Go.Proofs.Try.func28 (by kernel_rfl) rfl (np := [false]) (by kernel_rfl) hr28 hl28 (by simp [Go.Proofs.Try.ntmps28]) ?_
  have o1 := Cur.new_ok hl
  have o2 := Cur.pick_ok (l := keyL) o1
  simp -implicitDefEqProofs only [go_sem, reduceCtorEq]
  refine k45 code rfl hl ?_
  simp -implicitDefEqProofs only [go_sem, reduceCtorEq, Cur.cells]
  repeat ((first | refine k46 (Cur.new code) rfl rfl o1 ?_ | refine k47 ((Cur.new code).pick keyL).2 rfl rfl o2 ?_); simp -implicitDefEqProofs only [go_sem, reduceCtorEq, Cur.cells])
  rfl
theorem k28 {h : Heap} {tb : Nat} {K : OK} {args : List V} {ls : List Nat} (code : List UInt8) (hg : toDs h args = some ([.sl (bys code)], ls)) (hl : code.length ≤ 1048576)
    (hk : K (.tup [.own tb 0 (listOf code).length, .d (.str (keyOf code)), .d (.str [110, 101, 119])]) [(tb, some (.arr 2 (prs (listOf code))))]) : callVC Go.Proofs.Try.prog h tb 28 args K :=
  call_free hg (c28 code hl) rfl (.inr ⟨.tup (fun v hv => by simp at hv; rcases hv with rfl | rfl | rfl <;> first | exact .own _ _ _ | exact .d (.str _)), flatH_cons flat_prs flatH_nil⟩) hk
@[go_sem] def hr29 : Hints
  | 0 => [0] | 1 => [0] | 2 => [4] | 3 => [4, 5] | _ => []
@[go_sem] def hl29 : Hints := fun _ => []
attribute [go_sem] Go.Proofs.Try.results29
theorem c29 (code : List UInt8) (hl : code.length ≤ 1048576) : CallOK Go.Proofs.Try.prog 29 [.d (.sl (bys code))] [] [.dead] (.tup [.own 0 0 (listOf code).length, .d (.str (keyOf code))]) [(0, .arr 2 (prs (listOf code)))] := by
  refine call_of tysCOK mixed Go.Proofs.Try.func29 (by kernel_rfl) rfl (np := [false]) (by kernel_rfl) hr29 hl29 (by simp [Go.Proofs.Try.ntmps29]) ?_
  have o1 := Cur.new_ok hl
  have o2 := Cur.pick_ok (l := keyL) o1
  simp -implicitDefEqProofs only [go_sem, reduceCtorEq]
  refine k45 code rfl hl ?_
  simp -implicitDefEqProofs only [go_sem, reduceCtorEq, Cur.cells]
  repeat ((first | refine k46 (Cur.new code) rfl rfl o1 ?_ | refine k47 ((Cur.new code).pick keyL).2 rfl rfl o2 ?_); simp -implicitDefEqProofs only [go_sem, reduceCtorEq, Cur.cells])
  rfl
theorem k29 {h : Heap} {tb : Nat} {K : OK} {args : List V} {ls : List Nat} (code : List UInt8) (hg : toDs h args = some ([.sl (bys code)], ls)) (hl : code.length ≤ 1048576)
    (hk : K (.tup [.own tb 0 (listOf code).length, .d (.str (keyOf code))]) [(tb, some (.arr 2 (prs (listOf code))))]) : callVC Go.Proofs.Try.prog h tb 29 args K :=
  call_free hg (c29 code hl) rfl (.inr ⟨.tup (fun v hv => by simp at hv; rcases hv with rfl | rfl <;> first | exact .own _ _ _ | exact .d (.str _)), flatH_cons flat_prs flatH_nil⟩) hk

/-! f30 samePairs -/
@[go_sem] def hr30 : Hints
  | 0 => [0, 1] | 1 => [0, 1] | 2 => [] | 3 => [0, 1] | 4 => [0, 1, 5] | 5 => [0, 1, 5] | 6 => [0, 1, 5] | 7 => [] | 8 => [] | _ => []
@[go_sem] def hl30 : Hints
  | 4 => [0, 1, 5] | _ => []
attribute [go_sem] Go.Proofs.Try.results30
theorem c30 (l m : List Pr) (hl : l.length ≤ LEN) : CallOK Go.Proofs.Try.prog 30 [.d (.sl (prs l)), .d (.sl (prs m))] [] [.dead, .dead] (.d (.bool (decide (l = m)))) [] := by
  refine call_of tysOK mixed Go.Proofs.Try.func30 (by kernel_rfl) rfl (np := [false, false]) (by kernel_rfl) hr30 hl30 (by simp [Go.Proofs.Try.ntmps30]) ?_
  simp -implicitDefEqProofs only [go_sem, reduceCtorEq, prs_length]
  refine way_ndec (fun h1 => ?_) (fun h1 => ?_)
  · simp -implicitDefEqProofs only [go_sem, reduceCtorEq]
    have : ¬ l = m := fun e => h1 (by rw [e])
    simp [this]
  · simp -implicitDefEqProofs only [go_sem, reduceCtorEq]
    refine loop_data (α := Nat) (fun i => ⟨[(0, .d (.sl (prs l))), (1, .d (.sl (prs m))), (5, .d (.int .i64 i))], []⟩)
      (fun i => i ≤ l.length ∧ l.take i = m.take i) (fun i => l.length - i) 0 rfl ⟨Nat.zero_le _, rfl⟩ ?_
    rintro i ⟨h2, h3⟩
    simp -implicitDefEqProofs only [go_sem, reduceCtorEq, prs_length]
    refine way_dec (fun h5 => ?_) (fun h5 => ?_)
    · obtain ⟨p, hp⟩ := some_at h5
      obtain ⟨q, hq⟩ := some_at (l := m) (h1 ▸ h5)
      simp -implicitDefEqProofs only [go_sem, reduceCtorEq, prs_length, lget_prs hp, lget_prs hq]
      repeat ((first | refine req (by first | assumption | omega | exact commP_of (by kernel_rfl)) ?_); simp -implicitDefEqProofs only [go_sem, reduceCtorEq, prs_length, lget_prs hp, lget_prs hq, pr_dec])
      refine way_ndec (fun h6 => ?_) (fun h6 => ?_)
      · simp -implicitDefEqProofs only [go_sem, reduceCtorEq]
        have : ¬ l = m := fun e => h6 (by rw [e, hq] at hp; simpa using hp.symm)
        simp [this]
      · simp -implicitDefEqProofs only [go_sem, reduceCtorEq]
        rw [wrap_succ (by omega)]
        refine next_data (i + 1) rfl ⟨by omega, ?_⟩ (by omega)
        rw [take_snoc hp, take_snoc hq, h3, h6]
    · simp -implicitDefEqProofs only [go_sem, reduceCtorEq]
      rw [List.take_of_length_le (by omega), List.take_of_length_le (by omega)] at h3
      simp [h3]
theorem k30 {h : Heap} {tb : Nat} {K : OK} {args : List V} {ls : List Nat} {xs ys : List (List D)} (l m : List Pr) (hg : toDs h args = some ([.sl xs, .sl ys], ls)) (hx : xs = prs l) (hy : ys = prs m) (hl : l.length ≤ LEN)
    (hk : K (.d (.bool (decide (l = m)))) []) : callVC Go.Proofs.Try.prog h tb 30 args K := by
  subst hx; subst hy; exact call_free hg (c30 l m hl) rfl (.inr ⟨.d (.bool _), flatH_nil⟩) hk

end Go.Rx
