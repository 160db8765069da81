/-
  Part 5: an evaluator over plain data of the model's code with its proof, plain laws on lists and numbers, and contracts of functions of the program; each lemma names its conditions.
-/
import Derived.Test.YtnnopcjkgblcoaaGreatRx4
import Derived.Test.YtnnopcjkgblcoaaGreatRx3

set_option linter.unusedSimpArgs false
set_option linter.unusedVariables false

namespace Go.Rx
open Go
attribute [local irreducible] Req Way WayG Sel callVC CallOK
set_option linter.unusedSimpArgs false
set_option linter.unusedVariables false

@[go_sem] def hr198 : Hints
  | 0 => [0, 1] | 1 => [0, 1] | 2 => [0, 1, 7, 8] | 3 => [0, 1, 7, 8] | 4 => [0, 1, 5, 7, 8] | 5 => [5] | 6 => [0, 1, 7, 8] | 7 => [] | _ => []
@[go_sem] def hl198 : Hints
  | 2 => [0, 1, 7, 8] | _ => []
attribute [go_sem] Go.Proofs.Tryz.results198
set_option maxRecDepth 100000 in
set_option maxHeartbeats 4000000 in
theorem ci_idxStr (l : List (List UInt8)) (f : Nat) (cs : List D) (g : (List UInt8) → Bool) (hl : l.length ≤ LEN) (hf : ∀ p ∈ l, CallOK Go.Proofs.Tryz.prog f (.d (.str p) :: cs.map .d) [] (.dead :: cs.map fun _ => .dead) (.d (.bool (g p))) []) : CallOK Go.Proofs.Tryz.prog 198 [.d (.sl (strs l)), .d (.clo f cs)] [] [.dead, .dead] (.d (.int .i64 (idxF g l))) [] := by
  refine call_of tysZOK mixedZ Go.Proofs.Tryz.func198 (by kernel_rfl) rfl (np := [false, false]) (by kernel_rfl) hr198 hl198 (by simp [Go.Proofs.Tryz.ntmps198]) ?_
  simp -implicitDefEqProofs (maxSteps := 3000000) only [go_sem, reduceCtorEq]
  refine loop_data (α := Nat) (fun i => ⟨[(0, .d (.sl (strs l))), (1, .d (.clo f cs)), (7, .d (.int .i64 l.length)), (8, .d (.int .i64 i))], []⟩)
    (fun i => i ≤ l.length ∧ ∀ q ∈ l.take i, g q = false) (fun i => l.length - i) 0 rfl ⟨Nat.zero_le _, by simp⟩ ?_
  rintro i ⟨h2, h3⟩
  simp -implicitDefEqProofs (maxSteps := 3000000) only [go_sem, reduceCtorEq]
  (first | (refine way_dec (fun h5 => ?_) (fun h5 => ?_)) | (refine way_ndec (fun h5 => ?_) (fun h5 => ?_)) | (refine wayT_dec (fun h5 => ?_) (fun h5 => ?_)) | (refine wayF_dec (fun h5 => ?_) (fun h5 => ?_)) | (refine wayT_ndec (fun h5 => ?_) (fun h5 => ?_)) | (refine wayF_ndec (fun h5 => ?_) (fun h5 => ?_)) | (refine way_not (fun h5 => ?_) (fun h5 => ?_)) | (refine way (fun h5 => ?_) (fun h5 => ?_)) | (refine wayT (fun h5 => ?_) (fun h5 => ?_)) | (refine wayF (fun h5 => ?_) (fun h5 => ?_)))
  · obtain ⟨p, hp⟩ := some_at h5
    have hmem := List.mem_of_getElem? hp
    simp -implicitDefEqProofs (maxSteps := 3000000) only [go_sem, reduceCtorEq, lget_strs hp]
    repeat ((first | refine req (by first | assumption | omega | exact commP_of (by kernel_rfl) | (simp only [LEN]; omega) | (simp [D.one]; omega) | (simp [D.one]; done)) ?_ | refine call_free (xs := (.str p) :: cs) toDs_cons (hf p hmem) rfl (.inr ⟨flat_of rfl, flatH_nil⟩) ?_); simp -implicitDefEqProofs (maxSteps := 3000000) only [go_sem, reduceCtorEq, lget_strs hp, calleeVC.eq_1])
    cases hg : g p
    · simp -implicitDefEqProofs (maxSteps := 3000000) only [go_sem, reduceCtorEq]
      rw [wrap_succ (by omega)]
      refine next_data (i + 1) rfl ⟨by omega, fun q hq => ?_⟩ (by omega)
      rw [take_snoc hp] at hq
      rcases List.mem_append.1 hq with hq | hq
      · exact h3 q hq
      · simp at hq; subst hq; exact hg
    · simp -implicitDefEqProofs (maxSteps := 3000000) only [go_sem, reduceCtorEq]
      rw [idxF_step hp h3 hg]
  · simp -implicitDefEqProofs (maxSteps := 3000000) only [go_sem, reduceCtorEq]
    rw [List.take_of_length_le (by omega)] at h3
    rw [idxF_none h3]
theorem ki_idxStr {h : Heap} {tb : Nat} {K : OK} {args : List V} {ls : List Nat} (l : List (List UInt8)) (f : Nat) (cs : List D) (g : (List UInt8) → Bool) (hl : l.length ≤ LEN) (hf : ∀ p ∈ l, CallOK Go.Proofs.Tryz.prog f (.d (.str p) :: cs.map .d) [] (.dead :: cs.map fun _ => .dead) (.d (.bool (g p))) []) (hg : toDs h args = some ([.sl (strs l), .clo f cs], ls))
    (hk : K (renV (bk tb ([])) (.d (.int .i64 (idxF g l)))) (updN tb ([]) ([]))) : callVC Go.Proofs.Tryz.prog h tb 198 args K :=
  call_free hg (ci_idxStr l f cs g hl hf) rfl (.inr ⟨flat_of rfl, flatHB_of rfl⟩) hk
@[go_sem] def hr167 : Hints
  | 0 => [0, 1] | 1 => [0, 1] | _ => []
@[go_sem] def hl167 : Hints := fun _ => []
attribute [go_sem] Go.Proofs.Tryz.results167
set_option maxRecDepth 100000 in
set_option maxHeartbeats 4000000 in
theorem ci_conStr (l : List (List UInt8)) (f : Nat) (cs : List D) (g : (List UInt8) → Bool) (hl : l.length ≤ LEN) (hf : ∀ p ∈ l, CallOK Go.Proofs.Tryz.prog f (.d (.str p) :: cs.map .d) [] (.dead :: cs.map fun _ => .dead) (.d (.bool (g p))) []) : CallOK Go.Proofs.Tryz.prog 167 [.d (.sl (strs l)), .d (.clo f cs)] [] [.dead, .dead] (.d (.bool (l.any g))) [] := by
  refine call_of tysZOK mixedZ Go.Proofs.Tryz.func167 (by kernel_rfl) rfl (np := [false, false]) (by kernel_rfl) hr167 hl167 (by simp [Go.Proofs.Tryz.ntmps167]) ?_
  simp -implicitDefEqProofs (maxSteps := 3000000) only [go_sem, reduceCtorEq]
  refine ki_idxStr l f cs g hl hf rfl ?_
  simp -implicitDefEqProofs (maxSteps := 3000000) only [go_sem, reduceCtorEq]
  rw [idxF_any]
theorem ki_conStr {h : Heap} {tb : Nat} {K : OK} {args : List V} {ls : List Nat} (l : List (List UInt8)) (f : Nat) (cs : List D) (g : (List UInt8) → Bool) (hl : l.length ≤ LEN) (hf : ∀ p ∈ l, CallOK Go.Proofs.Tryz.prog f (.d (.str p) :: cs.map .d) [] (.dead :: cs.map fun _ => .dead) (.d (.bool (g p))) []) (hg : toDs h args = some ([.sl (strs l), .clo f cs], ls))
    (hk : K (renV (bk tb ([])) (.d (.bool (l.any g)))) (updN tb ([]) ([]))) : callVC Go.Proofs.Tryz.prog h tb 167 args K :=
  call_free hg (ci_conStr l f cs g hl hf) rfl (.inr ⟨flat_of rfl, flatHB_of rfl⟩) hk

@[go_sem] def hr163 : Hints
  | 0 => [0] | 1 => [0] | 2 => [0, 5, 6] | 3 => [0, 5, 6] | 4 => [0, 3, 5, 6] | 5 => [] | 6 => [0, 5, 6] | 7 => [] | _ => []
@[go_sem] def hl163 : Hints
  | 2 => [0, 5, 6] | _ => []
attribute [go_sem] Go.Proofs.Tryz.results163
set_option maxRecDepth 100000 in
set_option maxHeartbeats 4000000 in
theorem ci_ascending (l : List (List UInt8)) (hl : l.length ≤ LEN) : CallOK Go.Proofs.Tryz.prog 163 [.d (.sl (strs l))] [] [.dead] (.d (.bool (decide (ascK l)))) [] := by
  refine call_of tysZOK mixedZ Go.Proofs.Tryz.func163 (by kernel_rfl) rfl (np := [false]) (by kernel_rfl) hr163 hl163 (by simp [Go.Proofs.Tryz.ntmps163]) ?_
  simp -implicitDefEqProofs (maxSteps := 3000000) only [go_sem, reduceCtorEq]
  refine loop_data (α := Nat) (fun i => ⟨[(0, .d (.sl (strs l))), (5, .d (.int .i64 l.length)), (6, .d (.int .i64 i))], []⟩)
    (fun i => i ≤ l.length ∧ ascK (l.take i)) (fun i => l.length - i) 0 rfl ⟨Nat.zero_le _, by simp [ascK]⟩ ?_
  rintro i ⟨h2, h3⟩
  simp -implicitDefEqProofs (maxSteps := 3000000) only [go_sem, reduceCtorEq]
  (first | (refine way_dec (fun h5 => ?_) (fun h5 => ?_)) | (refine way_ndec (fun h5 => ?_) (fun h5 => ?_)) | (refine wayT_dec (fun h5 => ?_) (fun h5 => ?_)) | (refine wayF_dec (fun h5 => ?_) (fun h5 => ?_)) | (refine wayT_ndec (fun h5 => ?_) (fun h5 => ?_)) | (refine wayF_ndec (fun h5 => ?_) (fun h5 => ?_)) | (refine way_not (fun h5 => ?_) (fun h5 => ?_)) | (refine way (fun h5 => ?_) (fun h5 => ?_)) | (refine wayT (fun h5 => ?_) (fun h5 => ?_)) | (refine wayF (fun h5 => ?_) (fun h5 => ?_)))
  · obtain ⟨p, hp⟩ := some_at h5
    rcases Nat.eq_zero_or_pos i with hi | hi
    · have hg : decide ((0 : Int) < (i : Int)) = false := decide_eq_false (by omega)
      simp -implicitDefEqProofs (maxSteps := 3000000) only [go_sem, reduceCtorEq, hg]
      repeat ((first | refine req (by first | assumption | omega | exact commP_of (by kernel_rfl) | (simp only [LEN]; omega) | (simp [D.one]; omega) | (simp [D.one]; done)) ?_); simp -implicitDefEqProofs (maxSteps := 3000000) only [go_sem, reduceCtorEq, hg])
      rw [wrap_succ (by omega)]
      refine next_data (i + 1) rfl ⟨by omega, ?_⟩ (by omega)
      subst hi; rw [take_snoc hp]; simp [ascK]
    · obtain ⟨j, rfl⟩ : ∃ j, i = j + 1 := ⟨i - 1, by omega⟩
      obtain ⟨q, hq⟩ := some_at (l := l) (i := j) (by omega)
      have hg : decide ((0 : Int) < ((j + 1 : Nat) : Int)) = true := decide_eq_true (by omega)
      have hj : IntKind.i64.wrap (((j + 1 : Nat) : Int) - 1) = (j : Int) := by simp only [LEN] at hl; rw [wrap_int (by omega) (by omega)]; omega
      simp -implicitDefEqProofs (maxSteps := 3000000) only [go_sem, reduceCtorEq, hg, hj, lget_strs hp, lget_strs hq]
      repeat ((first | refine req (by first | assumption | omega | exact commP_of (by kernel_rfl) | (simp only [LEN]; omega) | (simp [D.one]; omega) | (simp [D.one]; done)) ?_); simp -implicitDefEqProofs (maxSteps := 3000000) only [go_sem, reduceCtorEq, hg, hj, lget_strs hp, lget_strs hq])
      cases hlt : bLess q p
      · simp -implicitDefEqProofs (maxSteps := 3000000) only [go_sem, reduceCtorEq]
        have : ¬ ascK l := fun h => by rw [asc_next h hq hp] at hlt; cases hlt
        simp [this]
      · simp -implicitDefEqProofs (maxSteps := 3000000) only [go_sem, reduceCtorEq]
        rw [wrap_succ (by omega)]
        exact next_data (j + 1 + 1) rfl ⟨by omega, ascK_snoc h3 hq hp hlt⟩ (by omega)
  · simp -implicitDefEqProofs (maxSteps := 3000000) only [go_sem, reduceCtorEq]
    rw [List.take_of_length_le (by omega)] at h3
    simp [h3]
theorem ki_ascending {h : Heap} {tb : Nat} {K : OK} {args : List V} {ls : List Nat} (l : List (List UInt8)) (hl : l.length ≤ LEN) (hg : toDs h args = some ([.sl (strs l)], ls))
    (hk : K (renV (bk tb ([])) (.d (.bool (decide (ascK l))))) (updN tb ([]) ([]))) : callVC Go.Proofs.Tryz.prog h tb 163 args K :=
  call_free hg (ci_ascending l hl) rfl (.inr ⟨flat_of rfl, flatHB_of rfl⟩) hk

@[go_sem] def hr195 : Hints
  | 0 => [0, 1] | 1 => [0, 1] | _ => []
@[go_sem] def hl195 : Hints := fun _ => []
attribute [go_sem] Go.Proofs.Tryz.results195
set_option maxRecDepth 100000 in
set_option maxHeartbeats 4000000 in
theorem ci_longer1 (s : List UInt8) (m : Int) : CallOK Go.Proofs.Tryz.prog 195 [.d (.str s), .d (.ptr [.int .i64 m])] [] [.dead, .dead] (.d (.bool (decide (m < s.length)))) [] := by
  refine call_of tysZOK mixedZ Go.Proofs.Tryz.func195 (by kernel_rfl) rfl (np := [false, false]) (by kernel_rfl) hr195 hl195 (by simp [Go.Proofs.Tryz.ntmps195]) ?_
  simp -implicitDefEqProofs (maxSteps := 3000000) only [go_sem, reduceCtorEq]
theorem ki_longer1 {h : Heap} {tb : Nat} {K : OK} {args : List V} {ls : List Nat} (s : List UInt8) (m : Int) (hg : toDs h args = some ([.str s, .ptr [.int .i64 m]], ls))
    (hk : K (renV (bk tb ([])) (.d (.bool (decide (m < s.length))))) (updN tb ([]) ([]))) : callVC Go.Proofs.Tryz.prog h tb 195 args K :=
  call_free hg (ci_longer1 s m) rfl (.inr ⟨flat_of rfl, flatHB_of rfl⟩) hk
def longer (l : List (List UInt8)) (m : Int) : Bool := l.any fun s => decide (m < s.length)
@[go_sem] def hr164 : Hints
  | 0 => [0, 1] | 1 => [0, 3] | _ => []
@[go_sem] def hl164 : Hints := fun _ => []
attribute [go_sem] Go.Proofs.Tryz.results164
set_option maxRecDepth 100000 in
set_option maxHeartbeats 4000000 in
theorem ci_longer (l : List (List UInt8)) (m : Int) (hl : l.length ≤ LEN) : CallOK Go.Proofs.Tryz.prog 164 [.d (.sl (strs l)), .d (.int .i64 m)] [] [.dead, .dead] (.d (.bool (longer l m))) [] := by
  refine call_of tysZOK mixedZ Go.Proofs.Tryz.func164 (by kernel_rfl) rfl (np := [false, false]) (by kernel_rfl) hr164 hl164 (by simp [Go.Proofs.Tryz.ntmps164]) ?_
  simp -implicitDefEqProofs (maxSteps := 3000000) only [go_sem, reduceCtorEq]
  refine ki_conStr l 195 [.ptr [.int .i64 m]] (fun s => decide (m < s.length)) hl (fun p hp => ci_longer1 p m) rfl ?_
  simp -implicitDefEqProofs (maxSteps := 3000000) only [go_sem, reduceCtorEq]
  rfl
theorem ki_longer {h : Heap} {tb : Nat} {K : OK} {args : List V} {ls : List Nat} (l : List (List UInt8)) (m : Int) (hl : l.length ≤ LEN) (hg : toDs h args = some ([.sl (strs l), .int .i64 m], ls))
    (hk : K (renV (bk tb ([])) (.d (.bool (longer l m)))) (updN tb ([]) ([]))) : callVC Go.Proofs.Tryz.prog h tb 164 args K :=
  call_free hg (ci_longer l m hl) rfl (.inr ⟨flat_of rfl, flatHB_of rfl⟩) hk
theorem longer_iff {l : List (List UInt8)} {m : Int} : longer l m = false ↔ ∀ s ∈ l, (s.length : Int) ≤ m := by
  simp [longer]

@[go_sem] def hr196 : Hints
  | 0 => [0, 1] | 1 => [0, 1] | 2 => [0, 1, 7, 8] | 3 => [0, 1, 7, 8] | 4 => [0, 1, 5, 7, 8] | 5 => [5] | 6 => [0, 1, 7, 8] | 7 => [] | _ => []
@[go_sem] def hl196 : Hints
  | 2 => [0, 1, 7, 8] | _ => []
attribute [go_sem] Go.Proofs.Tryz.results196
set_option maxRecDepth 100000 in
set_option maxHeartbeats 4000000 in
theorem ci_Index (l : List Int) (x : Int) (hl : l.length ≤ LEN) : CallOK Go.Proofs.Tryz.prog 196 [.d (.sl (ints l)), .d (.int .i64 x)] [] [.dead, .dead] (.d (.int .i64 (idxF (fun y => decide (x = y)) l))) [] := by
  refine call_of tysZOK mixedZ Go.Proofs.Tryz.func196 (by kernel_rfl) rfl (np := [false, false]) (by kernel_rfl) hr196 hl196 (by simp [Go.Proofs.Tryz.ntmps196]) ?_
  simp -implicitDefEqProofs (maxSteps := 3000000) only [go_sem, reduceCtorEq]
  refine loop_data (α := Nat) (fun i => ⟨[(0, .d (.sl (ints l))), (1, .d (.int .i64 x)), (7, .d (.int .i64 l.length)), (8, .d (.int .i64 i))], []⟩)
    (fun i => i ≤ l.length ∧ ∀ q ∈ l.take i, decide (x = q) = false) (fun i => l.length - i) 0 rfl ⟨Nat.zero_le _, by simp⟩ ?_
  rintro i ⟨h2, h3⟩
  simp -implicitDefEqProofs (maxSteps := 3000000) only [go_sem, reduceCtorEq]
  (first | (refine way_dec (fun h5 => ?_) (fun h5 => ?_)) | (refine way_ndec (fun h5 => ?_) (fun h5 => ?_)) | (refine wayT_dec (fun h5 => ?_) (fun h5 => ?_)) | (refine wayF_dec (fun h5 => ?_) (fun h5 => ?_)) | (refine wayT_ndec (fun h5 => ?_) (fun h5 => ?_)) | (refine wayF_ndec (fun h5 => ?_) (fun h5 => ?_)) | (refine way_not (fun h5 => ?_) (fun h5 => ?_)) | (refine way (fun h5 => ?_) (fun h5 => ?_)) | (refine wayT (fun h5 => ?_) (fun h5 => ?_)) | (refine wayF (fun h5 => ?_) (fun h5 => ?_)))
  · obtain ⟨p, hp⟩ := some_at h5
    simp -implicitDefEqProofs (maxSteps := 3000000) only [go_sem, reduceCtorEq, lget_ints hp]
    repeat ((first | refine req (by first | assumption | omega | exact commP_of (by kernel_rfl) | (simp only [LEN]; omega) | (simp [D.one]; omega) | (simp [D.one]; done)) ?_); simp -implicitDefEqProofs (maxSteps := 3000000) only [go_sem, reduceCtorEq, lget_ints hp])
    (first | (refine way_dec (fun h6 => ?_) (fun h6 => ?_)) | (refine way_ndec (fun h6 => ?_) (fun h6 => ?_)) | (refine wayT_dec (fun h6 => ?_) (fun h6 => ?_)) | (refine wayF_dec (fun h6 => ?_) (fun h6 => ?_)) | (refine wayT_ndec (fun h6 => ?_) (fun h6 => ?_)) | (refine wayF_ndec (fun h6 => ?_) (fun h6 => ?_)) | (refine way_not (fun h6 => ?_) (fun h6 => ?_)) | (refine way (fun h6 => ?_) (fun h6 => ?_)) | (refine wayT (fun h6 => ?_) (fun h6 => ?_)) | (refine wayF (fun h6 => ?_) (fun h6 => ?_)))
    · simp -implicitDefEqProofs (maxSteps := 3000000) only [go_sem, reduceCtorEq]
      rw [idxF_step hp h3 (by simpa using h6)]
    · simp -implicitDefEqProofs (maxSteps := 3000000) only [go_sem, reduceCtorEq]
      rw [wrap_succ (by omega)]
      refine next_data (i + 1) rfl ⟨by omega, fun q hq => ?_⟩ (by omega)
      rcases mem_takeS hp hq with hq | rfl
      · exact h3 q hq
      · simpa using h6
  · simp -implicitDefEqProofs (maxSteps := 3000000) only [go_sem, reduceCtorEq]
    rw [List.take_of_length_le (by omega)] at h3
    rw [idxF_none h3]
theorem ki_Index {h : Heap} {tb : Nat} {K : OK} {args : List V} {ls : List Nat} (l : List Int) (x : Int) (hl : l.length ≤ LEN) (hg : toDs h args = some ([.sl (ints l), .int .i64 x], ls))
    (hk : K (renV (bk tb ([])) (.d (.int .i64 (idxF (fun y => decide (x = y)) l)))) (updN tb ([]) ([]))) : callVC Go.Proofs.Tryz.prog h tb 196 args K :=
  call_free hg (ci_Index l x hl) rfl (.inr ⟨flat_of rfl, flatHB_of rfl⟩) hk
@[go_sem] def hr165 : Hints
  | 0 => [0, 1] | 1 => [0, 1] | _ => []
@[go_sem] def hl165 : Hints := fun _ => []
attribute [go_sem] Go.Proofs.Tryz.results165
set_option maxRecDepth 100000 in
set_option maxHeartbeats 4000000 in
theorem ci_Contains (l : List Int) (x : Int) (hl : l.length ≤ LEN) : CallOK Go.Proofs.Tryz.prog 165 [.d (.sl (ints l)), .d (.int .i64 x)] [] [.dead, .dead] (.d (.bool (decide (x ∈ l)))) [] := by
  refine call_of tysZOK mixedZ Go.Proofs.Tryz.func165 (by kernel_rfl) rfl (np := [false, false]) (by kernel_rfl) hr165 hl165 (by simp [Go.Proofs.Tryz.ntmps165]) ?_
  simp -implicitDefEqProofs (maxSteps := 3000000) only [go_sem, reduceCtorEq]
  refine ki_Index l x hl rfl ?_
  simp -implicitDefEqProofs (maxSteps := 3000000) only [go_sem, reduceCtorEq]
  rw [idxF_any, any_dec]
  simp
theorem ki_Contains {h : Heap} {tb : Nat} {K : OK} {args : List V} {ls : List Nat} (l : List Int) (x : Int) (hl : l.length ≤ LEN) (hg : toDs h args = some ([.sl (ints l), .int .i64 x], ls))
    (hk : K (renV (bk tb ([])) (.d (.bool (decide (x ∈ l))))) (updN tb ([]) ([]))) : callVC Go.Proofs.Tryz.prog h tb 165 args K :=
  call_free hg (ci_Contains l x hl) rfl (.inr ⟨flat_of rfl, flatHB_of rfl⟩) hk

@[go_sem] def hr130 : Hints
  | 0 => [0] | 1 => [1] | 2 => [] | 3 => [1] | 4 => [1] | 5 => [1] | 6 => [1, 43, 44, 45] | 7 => [1, 43, 44, 45] | 8 => [1, 3, 4, 43, 44, 45] | 9 => [] | 10 => [1, 43, 44, 45] | 11 => [1] | _ => []
@[go_sem] def hl130 : Hints
  | 6 => [1, 43, 44, 45] | _ => []
attribute [go_sem] Go.Proofs.Tryz.results130
set_option maxRecDepth 100000 in
set_option maxHeartbeats 4000000 in
theorem ci_NodeOk (n : GNode) (h1 : n.fKeys.length ≤ LEN) (h2 : n.fVals.length ≤ LEN) (h3 : n.fKids.length ≤ LEN) : CallOK Go.Proofs.Tryz.prog 130 [.d (.agg n.cells)] [] [.dead] (.d (.bool (decide (nodeOk n)))) [] := by
  refine call_of tysZOK mixedZ Go.Proofs.Tryz.func130 (by kernel_rfl) rfl (np := [false]) (by kernel_rfl) hr130 hl130 (by simp [Go.Proofs.Tryz.ntmps130]) ?_
  simp -implicitDefEqProofs (maxSteps := 3000000) only [go_sem, reduceCtorEq, GNode.cells]
  by_cases g1 : (1 : Int) ≤ n.fKeys.length ∧ (n.fKeys.length : Int) ≤ 4
  · by_cases g2 : ascK n.fKeys
    · cases g3 : longer n.fKeys 24
      · have g3' := longer_iff.1 g3
        have d1 := decide_eq_true g1
        have d2 := decide_eq_true g2
        repeat ((first | refine ki_in _ _ _ rfl ?_ | refine ki_ascending n.fKeys h1 rfl ?_ | refine ki_longer n.fKeys 24 h1 rfl ?_ | refine req (by first | assumption | omega | exact commP_of (by kernel_rfl) | (simp only [LEN]; omega) | (simp [D.one]; omega) | (simp [D.one]; done)) ?_); simp -implicitDefEqProofs (maxSteps := 3000000) only [go_sem, reduceCtorEq, d1, d2, g3])
        cases hl : n.fLeaf
        · have hiff := nodeOk_branch hl
          simp -implicitDefEqProofs (maxSteps := 3000000) only [go_sem, reduceCtorEq]
          refine loop_data (α := Nat) (fun i => ⟨[(1, .ref 0 0), (43, .d (.sl (ints n.fKids))), (44, .d (.int .i64 n.fKids.length)), (45, .d (.int .i64 i))], [(0, some (.box [.d (.bool false), .d (.sl (strs n.fKeys)), .d (.sl (strs n.fVals)), .d (.sl (ints n.fKids))]))]⟩)
            (fun i => i ≤ n.fKids.length ∧ (∀ k ∈ n.fKids.take i, 2 ≤ k ∧ k ≤ 39) ∧ (n.fKids.take i).Nodup) (fun i => n.fKids.length - i) 0 rfl ⟨Nat.zero_le _, by simp, by simp⟩ ?_
          rintro i ⟨i1, i2, i3⟩
          simp -implicitDefEqProofs (maxSteps := 3000000) only [go_sem, reduceCtorEq]
          (first | (refine way_dec (fun h5 => ?_) (fun h5 => ?_)) | (refine way_ndec (fun h5 => ?_) (fun h5 => ?_)) | (refine wayT_dec (fun h5 => ?_) (fun h5 => ?_)) | (refine wayF_dec (fun h5 => ?_) (fun h5 => ?_)) | (refine wayT_ndec (fun h5 => ?_) (fun h5 => ?_)) | (refine wayF_ndec (fun h5 => ?_) (fun h5 => ?_)) | (refine way_not (fun h5 => ?_) (fun h5 => ?_)) | (refine way (fun h5 => ?_) (fun h5 => ?_)) | (refine wayT (fun h5 => ?_) (fun h5 => ?_)) | (refine wayF (fun h5 => ?_) (fun h5 => ?_)))
          · obtain ⟨p, hp⟩ := some_at h5
            by_cases g4 : 2 ≤ p ∧ p ≤ 39
            · have d4 := decide_eq_true g4
              simp -implicitDefEqProofs (maxSteps := 3000000) only [go_sem, reduceCtorEq, lget_ints hp]
              repeat ((first | refine ki_in _ _ _ rfl ?_ | refine ki_Contains (n.fKids.take i) p (by simp only [List.length_take]; omega) rfl ?_ | refine req (by first | assumption | omega | exact commP_of (by kernel_rfl) | (simp only [LEN]; omega) | (simp [D.one]; omega) | (simp [D.one]; done)) ?_); simp -implicitDefEqProofs (maxSteps := 3000000) only [go_sem, reduceCtorEq, lget_ints hp, d4, ints_take])
              (first | (refine way_dec (fun g5 => ?_) (fun g5 => ?_)) | (refine way_ndec (fun g5 => ?_) (fun g5 => ?_)) | (refine wayT_dec (fun g5 => ?_) (fun g5 => ?_)) | (refine wayF_dec (fun g5 => ?_) (fun g5 => ?_)) | (refine wayT_ndec (fun g5 => ?_) (fun g5 => ?_)) | (refine wayF_ndec (fun g5 => ?_) (fun g5 => ?_)) | (refine way_not (fun g5 => ?_) (fun g5 => ?_)) | (refine way (fun g5 => ?_) (fun g5 => ?_)) | (refine wayT (fun g5 => ?_) (fun g5 => ?_)) | (refine wayF (fun g5 => ?_) (fun g5 => ?_)))
              · simp -implicitDefEqProofs (maxSteps := 3000000) only [go_sem, reduceCtorEq]
                have : ¬ nodeOk n := fun h => by
                  have hnd := (hiff.1 h).2.2.2.2.2.2
                  have := List.Nodup.sublist (List.take_sublist (i + 1) n.fKids) hnd
                  rw [take_snoc hp] at this
                  exact (List.nodup_append.1 this).2.2 p g5 p (by simp) rfl
                simp [this]
              · simp -implicitDefEqProofs (maxSteps := 3000000) only [go_sem, reduceCtorEq]
                rw [wrap_succ (by omega)]
                refine next_data (i + 1) rfl ⟨by omega, fun k hk => ?_, nodup_snoc hp i3 g5⟩ (by omega)
                rcases mem_takeS hp hk with hk | rfl
                · exact i2 k hk
                · exact g4
            · have d4 := decide_eq_false g4
              simp -implicitDefEqProofs (maxSteps := 3000000) only [go_sem, reduceCtorEq, lget_ints hp]
              repeat ((first | refine ki_in _ _ _ rfl ?_ | refine req (by first | assumption | omega | exact commP_of (by kernel_rfl) | (simp only [LEN]; omega) | (simp [D.one]; omega) | (simp [D.one]; done)) ?_); simp -implicitDefEqProofs (maxSteps := 3000000) only [go_sem, reduceCtorEq, lget_ints hp, d4])
              have : ¬ nodeOk n := fun h => g4 ((hiff.1 h).2.2.2.2.2.1 p (List.mem_of_getElem? hp))
              simp [this]
          · simp -implicitDefEqProofs (maxSteps := 3000000) only [go_sem, reduceCtorEq]
            rw [List.take_of_length_le (by omega)] at i2 i3
            by_cases g6 : (n.fKids.length : Int) = n.fKeys.length
            · have d6 := decide_eq_true g6
              simp -implicitDefEqProofs (maxSteps := 3000000) only [go_sem, reduceCtorEq, d6]
              have : decide (nodeOk n) = decide ((n.fVals.length : Int) = 0) := decide_eq_decide.2 ⟨fun h => by have := (hiff.1 h).2.2.2.2.1; omega, fun h => hiff.2 ⟨by omega, g2, fun k hk => by have := g3' k hk; omega, by omega, by omega, i2, i3⟩⟩
              rw [this]
            · have d6 := decide_eq_false g6
              simp -implicitDefEqProofs (maxSteps := 3000000) only [go_sem, reduceCtorEq, d6]
              have : ¬ nodeOk n := fun h => g6 (by have := (hiff.1 h).2.2.2.1; omega)
              simp [this]
        · have hiff := nodeOk_leaf hl
          simp -implicitDefEqProofs (maxSteps := 3000000) only [go_sem, reduceCtorEq]
          by_cases g4 : (n.fVals.length : Int) = n.fKeys.length
          · have d4 := decide_eq_true g4
            simp -implicitDefEqProofs (maxSteps := 3000000) only [go_sem, reduceCtorEq, d4]
            refine ki_longer n.fVals 24 h2 rfl ?_
            cases g5 : longer n.fVals 24
            · have g5' := longer_iff.1 g5
              simp -implicitDefEqProofs (maxSteps := 3000000) only [go_sem, reduceCtorEq]
              have : decide (nodeOk n) = decide ((n.fKids.length : Int) = 0) := decide_eq_decide.2 ⟨fun h => by have := (hiff.1 h).2.2.2.2.2; omega, fun h => hiff.2 ⟨by omega, g2, fun k hk => by have := g3' k hk; omega, by omega, fun k hk => by have := g5' k hk; omega, by omega⟩⟩
              rw [this]
            · simp -implicitDefEqProofs (maxSteps := 3000000) only [go_sem, reduceCtorEq]
              have : ¬ nodeOk n := fun h => by
                have : longer n.fVals 24 = false := longer_iff.2 fun k hk => by have := (hiff.1 h).2.2.2.2.1 k hk; omega
                rw [this] at g5; cases g5
              simp [this]
          · have d4 := decide_eq_false g4
            simp -implicitDefEqProofs (maxSteps := 3000000) only [go_sem, reduceCtorEq, d4]
            have : ¬ nodeOk n := fun h => g4 (by have := (hiff.1 h).2.2.2.1; omega)
            simp [this]
      · have d1 := decide_eq_true g1
        have d2 := decide_eq_true g2
        repeat ((first | refine ki_in _ _ _ rfl ?_ | refine ki_ascending n.fKeys h1 rfl ?_ | refine ki_longer n.fKeys 24 h1 rfl ?_ | refine req (by first | assumption | omega | exact commP_of (by kernel_rfl) | (simp only [LEN]; omega) | (simp [D.one]; omega) | (simp [D.one]; done)) ?_); simp -implicitDefEqProofs (maxSteps := 3000000) only [go_sem, reduceCtorEq, d1, d2, g3])
        have : ¬ nodeOk n := fun h => by
          have : longer n.fKeys 24 = false := longer_iff.2 fun k hk => by have := h.2.2.2.1 k hk; omega
          rw [this] at g3; cases g3
        simp [this]
    · have d1 := decide_eq_true g1
      have d2 := decide_eq_false g2
      repeat ((first | refine ki_in _ _ _ rfl ?_ | refine ki_ascending n.fKeys h1 rfl ?_ | refine req (by first | assumption | omega | exact commP_of (by kernel_rfl) | (simp only [LEN]; omega) | (simp [D.one]; omega) | (simp [D.one]; done)) ?_); simp -implicitDefEqProofs (maxSteps := 3000000) only [go_sem, reduceCtorEq, d1, d2])
      have : ¬ nodeOk n := fun h => g2 h.2.2.1
      simp [this]
  · have d1 := decide_eq_false g1
    repeat ((first | refine ki_in _ _ _ rfl ?_ | refine req (by first | assumption | omega | exact commP_of (by kernel_rfl) | (simp only [LEN]; omega) | (simp [D.one]; omega) | (simp [D.one]; done)) ?_); simp -implicitDefEqProofs (maxSteps := 3000000) only [go_sem, reduceCtorEq, d1])
    have : ¬ nodeOk n := fun h => g1 ⟨by have := h.1; omega, by have := h.2.1; omega⟩
    simp [this]
theorem ki_NodeOk {h : Heap} {tb : Nat} {K : OK} {args : List V} {ls : List Nat} (n : GNode) (h1 : n.fKeys.length ≤ LEN) (h2 : n.fVals.length ≤ LEN) (h3 : n.fKids.length ≤ LEN) (hg : toDs h args = some ([.agg n.cells], ls))
    (hk : K (renV (bk tb ([])) (.d (.bool (decide (nodeOk n))))) (updN tb ([]) ([]))) : callVC Go.Proofs.Tryz.prog h tb 130 args K :=
  call_free hg (ci_NodeOk n h1 h2 h3) rfl (.inr ⟨flat_of rfl, flatHB_of rfl⟩) hk
end Go.Rx

namespace Go.Rx
open Go
attribute [local irreducible] Req Way WayG Sel callVC CallOK
set_option linter.unusedSimpArgs false
set_option linter.unusedVariables false

@[go_sem] def hr137 : Hints
  | 0 => [0, 1] | 1 => [0, 1] | 2 => [0, 1, 5, 6, 7] | 3 => [0] | 4 => [0] | 5 => [0, 5, 6] | 6 => [0, 5] | _ => []
@[go_sem] def hl137 : Hints := fun _ => []
attribute [go_sem] Go.Proofs.Tryz.results137
set_option maxRecDepth 100000 in
set_option maxHeartbeats 4000000 in
theorem ci_num (t : List UInt8) (m : Int) (r : Nat × Bool) (ht : t.length ≤ 4611686018427387904) : CallOK Go.Proofs.Tryz.prog 137 [.ref 0 0, .d (.int .i64 m)] [(0, .box [.d (.str t), .d (.int .i64 r.1), .d (.bool r.2)])] [.ref 0 0, .dead] (.d (.int .i64 (rdV t m r).1)) [(0, .box [.d (.str t), .d (.int .i64 (rdV t m r).2.1), .d (.bool (rdV t m r).2.2)])] := by
  refine call_of tysZOK mixedZ Go.Proofs.Tryz.func137 (by kernel_rfl) rfl (np := [true, false]) (by kernel_rfl) hr137 hl137 (by simp [Go.Proofs.Tryz.ntmps137]) ?_
  simp -implicitDefEqProofs (maxSteps := 3000000) only [go_sem, reduceCtorEq]
  refine ki_ReadVar t r.1 ht rfl ⟨flat_rvV, flatH_nil⟩ ?_
  rw [rdV]
  obtain ⟨a, b⟩ := r
  cases hv : readVar t (a : Int) with
  | none =>
    simp only [rvV]
    simp -implicitDefEqProofs (maxSteps := 3000000) only [go_sem, reduceCtorEq]
    repeat ((first | refine req (by first | assumption | omega | exact commP_of (by kernel_rfl) | (simp only [LEN]; omega) | (simp [D.one]; omega) | (simp [D.one]; done)) ?_); simp -implicitDefEqProofs (maxSteps := 3000000) only [go_sem, reduceCtorEq])
    cases b
    · simp -implicitDefEqProofs (maxSteps := 3000000) only [go_sem, reduceCtorEq]
      rfl
    · simp -implicitDefEqProofs (maxSteps := 3000000) only [go_sem, reduceCtorEq]
      rfl
  | some p =>
    obtain ⟨n, c⟩ := p
    simp only [rvV]
    simp -implicitDefEqProofs (maxSteps := 3000000) only [go_sem, reduceCtorEq]
    repeat ((first | refine req (by first | assumption | omega | exact commP_of (by kernel_rfl) | (simp only [LEN]; omega) | (simp [D.one]; omega) | (simp [D.one]; done)) ?_); simp -implicitDefEqProofs (maxSteps := 3000000) only [go_sem, reduceCtorEq])
    cases b
    · simp -implicitDefEqProofs (maxSteps := 3000000) only [go_sem, reduceCtorEq]
      (first | (refine way_dec (fun h1 => ?_) (fun h1 => ?_)) | (refine way_ndec (fun h1 => ?_) (fun h1 => ?_)) | (refine wayT_dec (fun h1 => ?_) (fun h1 => ?_)) | (refine wayF_dec (fun h1 => ?_) (fun h1 => ?_)) | (refine wayT_ndec (fun h1 => ?_) (fun h1 => ?_)) | (refine wayF_ndec (fun h1 => ?_) (fun h1 => ?_)) | (refine way_not (fun h1 => ?_) (fun h1 => ?_)) | (refine way (fun h1 => ?_) (fun h1 => ?_)) | (refine wayT (fun h1 => ?_) (fun h1 => ?_)) | (refine wayF (fun h1 => ?_) (fun h1 => ?_)))
      · simp -implicitDefEqProofs (maxSteps := 3000000) only [go_sem, reduceCtorEq]
        rw [if_pos (.inr h1)]; rfl
      · simp -implicitDefEqProofs (maxSteps := 3000000) only [go_sem, reduceCtorEq]
        rw [if_neg (fun h => h.elim (fun h => by cases h) h1)]
    · simp -implicitDefEqProofs (maxSteps := 3000000) only [go_sem, reduceCtorEq]
      simp
theorem ki_num {h : Heap} {tb : Nat} {K : OK} {n0 : Nat} {rest : List V} {ls : List Nat} (t : List UInt8) (m : Int) (r : Nat × Bool) (ht : t.length ≤ 4611686018427387904) (hn : h n0 = some (.box [.d (.str t), .d (.int .i64 r.1), .d (.bool r.2)])) (hro : refO h n0 = [n0]) (hr : toDs h rest = some ([.int .i64 m], ls)) (hnl : (ls : List Nat).contains n0 = false)
    (hk : K (renV (bx n0 tb [(0, .box [.d (.str t), .d (.int .i64 (rdV t m r).2.1), .d (.bool (rdV t m r).2.2)])]) (.d (.int .i64 (rdV t m r).1))) ((bif false then (ls : List Nat).map (·, none) else []) ++ (n0, none) :: updX n0 tb [(0, .box [.d (.str t), .d (.int .i64 (rdV t m r).2.1), .d (.bool (rdV t m r).2.2)])] [(0, .box [.d (.str t), .d (.int .i64 (rdV t m r).2.1), .d (.bool (rdV t m r).2.2)])])) : callVC Go.Proofs.Tryz.prog h tb 137 (.ref n0 0 :: rest) K :=
  call_box_ false hn hro rfl hr hnl (ci_num t m r ht) rfl rfl (.inr (.inr ⟨flat_of rfl, flatHB_of rfl⟩)) hk
@[go_sem] def hr138 : Hints
  | 0 => [0] | 1 => [0] | 2 => [0, 3, 4, 5] | 3 => [0] | 4 => [0] | 5 => [0, 3, 4] | 6 => [0, 3] | _ => []
@[go_sem] def hl138 : Hints := fun _ => []
attribute [go_sem] Go.Proofs.Tryz.results138
set_option maxRecDepth 100000 in
set_option maxHeartbeats 4000000 in
theorem ci_text (t : List UInt8) (r : Nat × Bool) (ht : t.length ≤ 4611686018427387904) : CallOK Go.Proofs.Tryz.prog 138 [.ref 0 0] [(0, .box [.d (.str t), .d (.int .i64 r.1), .d (.bool r.2)])] [.ref 0 0] (.d (.str (rdT t r).1)) [(0, .box [.d (.str t), .d (.int .i64 (rdT t r).2.1), .d (.bool (rdT t r).2.2)])] := by
  refine call_of tysZOK mixedZ Go.Proofs.Tryz.func138 (by kernel_rfl) rfl (np := [true]) (by kernel_rfl) hr138 hl138 (by simp [Go.Proofs.Tryz.ntmps138]) ?_
  simp -implicitDefEqProofs (maxSteps := 3000000) only [go_sem, reduceCtorEq]
  refine ki_ReadShort t r.1 ht rfl ⟨flat_rsV, flatH_nil⟩ ?_
  rw [rdT]
  obtain ⟨a, b⟩ := r
  cases hv : readShort t (a : Int) with
  | none =>
    simp only [rsV]
    simp -implicitDefEqProofs (maxSteps := 3000000) only [go_sem, reduceCtorEq]
    repeat ((first | refine req (by first | assumption | omega | exact commP_of (by kernel_rfl) | (simp only [LEN]; omega) | (simp [D.one]; omega) | (simp [D.one]; done)) ?_); simp -implicitDefEqProofs (maxSteps := 3000000) only [go_sem, reduceCtorEq])
    cases b
    · simp -implicitDefEqProofs (maxSteps := 3000000) only [go_sem, reduceCtorEq]
    · simp -implicitDefEqProofs (maxSteps := 3000000) only [go_sem, reduceCtorEq]
  | some p =>
    obtain ⟨n, c⟩ := p
    simp only [rsV]
    simp -implicitDefEqProofs (maxSteps := 3000000) only [go_sem, reduceCtorEq]
    repeat ((first | refine req (by first | assumption | omega | exact commP_of (by kernel_rfl) | (simp only [LEN]; omega) | (simp [D.one]; omega) | (simp [D.one]; done)) ?_); simp -implicitDefEqProofs (maxSteps := 3000000) only [go_sem, reduceCtorEq])
    cases b
    · simp -implicitDefEqProofs (maxSteps := 3000000) only [go_sem, reduceCtorEq]
      simp
    · simp -implicitDefEqProofs (maxSteps := 3000000) only [go_sem, reduceCtorEq]
      simp
theorem ki_text {h : Heap} {tb : Nat} {K : OK} {n0 : Nat} {rest : List V} {ls : List Nat} (t : List UInt8) (r : Nat × Bool) (ht : t.length ≤ 4611686018427387904) (hn : h n0 = some (.box [.d (.str t), .d (.int .i64 r.1), .d (.bool r.2)])) (hro : refO h n0 = [n0]) (hr : toDs h rest = some ([], ls)) (hnl : (ls : List Nat).contains n0 = false)
    (hk : K (renV (bx n0 tb [(0, .box [.d (.str t), .d (.int .i64 (rdT t r).2.1), .d (.bool (rdT t r).2.2)])]) (.d (.str (rdT t r).1))) ((bif false then (ls : List Nat).map (·, none) else []) ++ (n0, none) :: updX n0 tb [(0, .box [.d (.str t), .d (.int .i64 (rdT t r).2.1), .d (.bool (rdT t r).2.2)])] [(0, .box [.d (.str t), .d (.int .i64 (rdT t r).2.1), .d (.bool (rdT t r).2.2)])])) : callVC Go.Proofs.Tryz.prog h tb 138 (.ref n0 0 :: rest) K :=
  call_box_ false hn hro rfl hr hnl (ci_text t r ht) rfl rfl (.inr (.inr ⟨flat_of rfl, flatHB_of rfl⟩)) hk

def nodeV : Option GNode → V
  | none => .tup [.d (.agg GNode.zero.cells), .d (.bool false)]
  | some n => .tup [.d (.agg n.cells), .d (.bool true)]

@[go_sem] def hr101 : Hints
  | 0 => [0] | 1 => [0, 2] | 2 => [2, 4, 5] | 3 => [2] | 4 => [2, 4] | 5 => [2, 4, 6] | 6 => [2, 4, 6, 7] | 7 => [2, 4, 6, 7, 36, 37] | 8 => [2, 4, 6, 7, 36, 37] | 9 => [2, 4, 6, 7, 36, 37] | 10 => [2, 4, 6, 7, 36, 37] | 11 => [2, 4, 6, 7, 36, 37] | 12 => [2, 4, 6, 7, 36, 37] | 13 => [2, 4, 6, 7] | 14 => [2] | 15 => [2, 6] | _ => []
@[go_sem] def hl101 : Hints
  | 7 => [2, 4, 6, 7, 36, 37] | _ => []
attribute [go_sem] Go.Proofs.Tryz.results101
set_option maxRecDepth 100000 in
set_option maxHeartbeats 4000000 in
theorem ci_ReadNode (t : List UInt8) (ht : t.length ≤ 4611686018427387904) : CallOK Go.Proofs.Tryz.prog 101 [.d (.str t)] [] [.dead] (nodeV (readNode t)) [] := by
  refine call_fr tysZOK mixedZ Go.Proofs.Tryz.func101 (by kernel_rfl) rfl (by kernel_rfl) hr101 hl101 (by simp [Go.Proofs.Tryz.ntmps101]) rfl ?_
  simp -implicitDefEqProofs (maxSteps := 3000000) only [go_sem, reduceCtorEq]
  refine ki_Unsealed t ht rfl ⟨flat_unV, flatH_nil⟩ ?_
  rw [readNode]
  cases hu : unsealB t with
  | none =>
    simp only [unV]
    simp -implicitDefEqProofs (maxSteps := 3000000) only [go_sem, reduceCtorEq]
    rfl
  | some s =>
    have hs : s.length ≤ 20000 := (unseal_iff.1 hu).1
    simp only [unV]
    cases s with
    | nil =>
      simp -implicitDefEqProofs (maxSteps := 3000000) only [go_sem, reduceCtorEq]
      rfl
    | cons c b =>
      have hne : decide (c :: b = []) = false := rfl
      have hg : (c :: b).getD 0 0 = c := rfl
      have hr0 : (decide (((c.toNat : Nat) : Int) = 108)) = decide (c = 108) := decide_eq_decide.2 ⟨fun h => u8_eq.1 ((show c.toNat = 108 by omega).trans rfl), fun h => by subst h; rfl⟩
      rw [readBody_run]
      by_cases hc : c = 108
      · have dc := decide_eq_true hc
        rw [if_pos hc]
        have hst : runStart c = (1, false) := by subst hc; rfl
        simp -implicitDefEqProofs (maxSteps := 3000000) only [go_sem, reduceCtorEq, hne, hg, hr0, dc, List.length_cons]
        repeat ((first | refine req (by first | assumption | omega | exact commP_of (by kernel_rfl) | (simp only [LEN]; omega) | (simp [D.one]; omega) | (simp [D.one]; done)) ?_ | refine ki_num (c :: b) 4 (1, false) (by omega) rfl rfl rfl rfl ?_); simp -implicitDefEqProofs (maxSteps := 3000000) only [go_sem, reduceCtorEq, hne, hg, hr0, dc, List.length_cons])
        have hk4 : (rdV (c :: b) 4 (1, false)).1 ≤ 4 := rdV_most (m := 4)
        rw [runLeaf, hst]
        generalize hkr : rdV (c :: b) 4 (1, false) = kr at hk4 ⊢
        obtain ⟨k, r1⟩ := kr
        simp only at hk4 ⊢
        refine loop_data (α := Nat × List (List UInt8 × List UInt8) × (Nat × Bool)) (fun x => ⟨[(2, .ref 0 0), (4, .d (.str (c :: b))), (6, .ref 4 0), (7, .ref 8 0), (36, .d (.int .i64 k)), (37, .d (.int .i64 x.1))],
            [(0, some (.box [.d (.bool false), .own 1 0 0, .own 2 0 0, .own 3 0 0])), (1, some (.arr 1 [])), (2, some (.arr 1 [])), (3, some (.arr 1 [])),
             (4, some (.box [.d (.bool true), .own 5 0 (x.2.1.map (·.1)).length, .own 6 0 (x.2.1.map (·.2)).length, .own 7 0 0])), (5, some (.arr 1 (strs (x.2.1.map (·.1))))), (6, some (.arr 1 (strs (x.2.1.map (·.2))))), (7, some (.arr 1 [])),
             (8, some (.box [.d (.str (c :: b)), .d (.int .i64 x.2.2.1), .d (.bool x.2.2.2)]))]⟩)
          (fun x => x.1 ≤ k ∧ x.2 = rdLs (c :: b) x.1 r1) (fun x => k - x.1) (0, [], r1) rfl ⟨Nat.zero_le _, rfl⟩ ?_
        rintro ⟨i, es, r⟩ ⟨i1, i2⟩
        simp only at i1 i2
        have hlen : es.length = i := by have := rdLs_len (t := c :: b) (k := i) (r := r1); rw [← i2] at this; exact this
        simp -implicitDefEqProofs (maxSteps := 3000000) only [go_sem, reduceCtorEq]
        (first | (refine way_dec (fun h5 => ?_) (fun h5 => ?_)) | (refine way_ndec (fun h5 => ?_) (fun h5 => ?_)) | (refine wayT_dec (fun h5 => ?_) (fun h5 => ?_)) | (refine wayF_dec (fun h5 => ?_) (fun h5 => ?_)) | (refine wayT_ndec (fun h5 => ?_) (fun h5 => ?_)) | (refine wayF_ndec (fun h5 => ?_) (fun h5 => ?_)) | (refine way_not (fun h5 => ?_) (fun h5 => ?_)) | (refine way (fun h5 => ?_) (fun h5 => ?_)) | (refine wayT (fun h5 => ?_) (fun h5 => ?_)) | (refine wayF (fun h5 => ?_) (fun h5 => ?_)))
        · simp -implicitDefEqProofs (maxSteps := 3000000) only [go_sem, reduceCtorEq]
          repeat ((first | refine req (by first | assumption | omega | exact commP_of (by kernel_rfl) | (simp only [LEN]; omega) | (simp [D.one]; omega) | (simp [D.one]; done)) ?_ | refine ki_text (c :: b) r (by omega) rfl rfl rfl rfl ?_ | refine ki_text (c :: b) (rdT (c :: b) r).2 (by omega) rfl rfl rfl rfl ?_); simp -implicitDefEqProofs (maxSteps := 3000000) only [go_sem, reduceCtorEq])
          refine next_data (i + 1, es ++ [(rdL (c :: b) r).1], (rdL (c :: b) r).2) ?_ ⟨?_, ?_⟩ ?_
          · rw [wrap_succ (by simp only [LEN]; omega)]
            simp [rdL]
          · simp only; omega
          · simp only; rw [rdLs_snoc, ← i2]
          · simp only; omega
        · obtain rfl : i = k := by omega
          have hle : r.1 ≤ (c :: b).length := by have := rdLs_le (t := c :: b) (k := i) (r := r1) (by have := rdV_le (t := c :: b) (m := 4) (r := (1, false)) (by simp); rw [hkr] at this; exact this); rw [← i2] at this; exact this
          rw [← i2]
          simp -implicitDefEqProofs (maxSteps := 3000000) only [go_sem, reduceCtorEq]
          cases hb : r.2
          · simp -implicitDefEqProofs (maxSteps := 3000000) only [go_sem, reduceCtorEq, List.length_cons]
            by_cases he : (r.1 : Int) = ((b.length + 1 : Nat) : Int)
            · have de := decide_eq_true he
              simp -implicitDefEqProofs (maxSteps := 3000000) only [go_sem, reduceCtorEq, de]
              refine ki_NodeOk (leafOf es) (by simp [leafOf, LEN]; omega) (by simp [leafOf, LEN]; omega) (by simp [leafOf, LEN]) (ls := [5, 6, 7]) (by simp -implicitDefEqProofs (maxSteps := 3000000) only [go_sem, reduceCtorEq]; try rfl) ?_
              by_cases hn : nodeOk (leafOf es)
              · have dn := decide_eq_true hn
                simp -implicitDefEqProofs (maxSteps := 3000000) only [go_sem, reduceCtorEq, dn]
                rw [runEnd, if_pos ⟨hb, by simp only [List.length_cons]; omega, hn⟩]
                rfl
              · have dn := decide_eq_false hn
                simp -implicitDefEqProofs (maxSteps := 3000000) only [go_sem, reduceCtorEq, dn]
                rw [runEnd, if_neg (fun h => hn h.2.2)]
                rfl
            · have de := decide_eq_false he
              simp -implicitDefEqProofs (maxSteps := 3000000) only [go_sem, reduceCtorEq, de]
              rw [runEnd, if_neg (fun h => he (by have := h.2.1; simp only [List.length_cons] at this; omega))]
              rfl
          · simp -implicitDefEqProofs (maxSteps := 3000000) only [go_sem, reduceCtorEq]
            rw [runEnd, if_neg (fun h => by rw [hb] at h; cases h.1)]
            rfl
      · have dc := decide_eq_false hc
        rw [if_neg hc]
        have hr9 : (decide (((c.toNat : Nat) : Int) = 98)) = decide (c.toNat = 98) := decide_eq_decide.2 (by omega)
        have hst : runStart c = (1, !decide (c.toNat = 98)) := by
          have : decide (c.toNat ≠ 108) = true := decide_eq_true fun h => hc (u8_eq.1 (h.trans rfl))
          simp [runStart, this]
        simp -implicitDefEqProofs (maxSteps := 3000000) only [go_sem, reduceCtorEq, hne, hg, hr0, hr9, dc, List.length_cons]
        repeat ((first | refine req (by first | assumption | omega | exact commP_of (by kernel_rfl) | (simp only [LEN]; omega) | (simp [D.one]; omega) | (simp [D.one]; done)) ?_ | refine ki_num (c :: b) 4 (1, !decide (c.toNat = 98)) (by omega) rfl rfl rfl rfl ?_); simp -implicitDefEqProofs (maxSteps := 3000000) only [go_sem, reduceCtorEq, hne, hg, hr0, hr9, dc, List.length_cons])
        have hk4 : (rdV (c :: b) 4 (1, !decide (c.toNat = 98))).1 ≤ 4 := rdV_most (m := 4)
        rw [runBranch, hst]
        generalize hkr : rdV (c :: b) 4 (1, !decide (c.toNat = 98)) = kr at hk4 ⊢
        obtain ⟨k, r1⟩ := kr
        simp only at hk4 ⊢
        refine loop_data (α := Nat × List (List UInt8 × Int) × (Nat × Bool)) (fun x => ⟨[(2, .ref 0 0), (4, .d (.str (c :: b))), (6, .ref 4 0), (7, .ref 8 0), (36, .d (.int .i64 k)), (37, .d (.int .i64 x.1))],
            [(0, some (.box [.d (.bool false), .own 1 0 0, .own 2 0 0, .own 3 0 0])), (1, some (.arr 1 [])), (2, some (.arr 1 [])), (3, some (.arr 1 [])),
             (4, some (.box [.d (.bool false), .own 5 0 (x.2.1.map (·.1)).length, .own 6 0 0, .own 7 0 (x.2.1.map (·.2)).length])), (5, some (.arr 1 (strs (x.2.1.map (·.1))))), (6, some (.arr 1 [])), (7, some (.arr 1 (ints (x.2.1.map (·.2))))),
             (8, some (.box [.d (.str (c :: b)), .d (.int .i64 x.2.2.1), .d (.bool x.2.2.2)]))]⟩)
          (fun x => x.1 ≤ k ∧ x.2 = rdBs (c :: b) 40 x.1 r1) (fun x => k - x.1) (0, [], r1) rfl ⟨Nat.zero_le _, rfl⟩ ?_
        rintro ⟨i, es, r⟩ ⟨i1, i2⟩
        simp only at i1 i2
        have hlen : es.length = i := by have := rdBs_len (t := c :: b) (most := 40) (k := i) (r := r1); rw [← i2] at this; exact this
        simp -implicitDefEqProofs (maxSteps := 3000000) only [go_sem, reduceCtorEq]
        (first | (refine way_dec (fun h5 => ?_) (fun h5 => ?_)) | (refine way_ndec (fun h5 => ?_) (fun h5 => ?_)) | (refine wayT_dec (fun h5 => ?_) (fun h5 => ?_)) | (refine wayF_dec (fun h5 => ?_) (fun h5 => ?_)) | (refine wayT_ndec (fun h5 => ?_) (fun h5 => ?_)) | (refine wayF_ndec (fun h5 => ?_) (fun h5 => ?_)) | (refine way_not (fun h5 => ?_) (fun h5 => ?_)) | (refine way (fun h5 => ?_) (fun h5 => ?_)) | (refine wayT (fun h5 => ?_) (fun h5 => ?_)) | (refine wayF (fun h5 => ?_) (fun h5 => ?_)))
        · simp -implicitDefEqProofs (maxSteps := 3000000) only [go_sem, reduceCtorEq]
          repeat ((first | refine req (by first | assumption | omega | exact commP_of (by kernel_rfl) | (simp only [LEN]; omega) | (simp [D.one]; omega) | (simp [D.one]; done)) ?_ | refine ki_text (c :: b) r (by omega) rfl rfl rfl rfl ?_ | refine ki_num (c :: b) 40 (rdT (c :: b) r).2 (by omega) rfl rfl rfl rfl ?_); simp -implicitDefEqProofs (maxSteps := 3000000) only [go_sem, reduceCtorEq])
          refine next_data (i + 1, es ++ [(rdB (c :: b) 40 r).1], (rdB (c :: b) 40 r).2) ?_ ⟨?_, ?_⟩ ?_
          · rw [wrap_succ (by simp only [LEN]; omega)]
            simp [rdB]
          · simp only; omega
          · simp only; rw [rdBs_snoc, ← i2]
          · simp only; omega
        · obtain rfl : i = k := by omega
          rw [← i2]
          simp -implicitDefEqProofs (maxSteps := 3000000) only [go_sem, reduceCtorEq]
          cases hb : r.2
          · simp -implicitDefEqProofs (maxSteps := 3000000) only [go_sem, reduceCtorEq, List.length_cons]
            by_cases he : (r.1 : Int) = ((b.length + 1 : Nat) : Int)
            · have de := decide_eq_true he
              simp -implicitDefEqProofs (maxSteps := 3000000) only [go_sem, reduceCtorEq, de]
              refine ki_NodeOk (branchOf es) (by simp [branchOf, LEN]; omega) (by simp [branchOf, LEN]) (by simp [branchOf, LEN]; omega) (ls := [5, 6, 7]) (by simp -implicitDefEqProofs (maxSteps := 3000000) only [go_sem, reduceCtorEq]; try rfl) ?_
              by_cases hn : nodeOk (branchOf es)
              · have dn := decide_eq_true hn
                simp -implicitDefEqProofs (maxSteps := 3000000) only [go_sem, reduceCtorEq, dn]
                rw [runEnd, if_pos ⟨hb, by simp only [List.length_cons]; omega, hn⟩]
                rfl
              · have dn := decide_eq_false hn
                simp -implicitDefEqProofs (maxSteps := 3000000) only [go_sem, reduceCtorEq, dn]
                rw [runEnd, if_neg (fun h => hn h.2.2)]
                rfl
            · have de := decide_eq_false he
              simp -implicitDefEqProofs (maxSteps := 3000000) only [go_sem, reduceCtorEq, de]
              rw [runEnd, if_neg (fun h => he (by have := h.2.1; simp only [List.length_cons] at this; omega))]
              rfl
          · simp -implicitDefEqProofs (maxSteps := 3000000) only [go_sem, reduceCtorEq]
            rw [runEnd, if_neg (fun h => by rw [hb] at h; cases h.1)]
            rfl
theorem ki_ReadNode {h : Heap} {tb : Nat} {K : OK} {args : List V} (t : List UInt8) (ht : t.length ≤ 4611686018427387904) (hg : toDs h args = some ([.str t], []))
    (hk : K (renV (bk tb ([])) (nodeV (readNode t))) (updN tb ([]) ([]))) : callVC Go.Proofs.Tryz.prog h tb 101 args K :=
  call_free hg (ci_ReadNode t ht) rfl (.inl rfl) hk
end Go.Rx

namespace Go.Rx
open Go
attribute [local irreducible] Req Way WayG Sel callVC CallOK
set_option linter.unusedSimpArgs false
set_option linter.unusedVariables false

@[go_sem] def hr181 : Hints
  | 0 => [0] | 1 => [1] | 2 => [1, 3] | 3 => [] | 4 => [1, 3] | 5 => [1, 3, 4] | 6 => [1, 3, 4] | 7 => [1, 3, 4] | 8 => [] | 9 => [1, 3, 4] | 10 => [] | 11 => [1, 3, 4] | 12 => [1, 3, 4] | 13 => [] | 14 => [1, 3, 4] | 15 => [1, 3, 4, 5] | 16 => [1, 3, 4, 5] | 17 => [1, 3, 4, 5] | 18 => [] | 19 => [] | _ => []
@[go_sem] def hl181 : Hints
  | 5 => [1, 3, 4] | 15 => [1, 3, 4, 5] | _ => []
attribute [go_sem] Go.Proofs.Tryz.results181
set_option maxRecDepth 100000 in
set_option maxHeartbeats 4000000 in
theorem cs_NodeOk (n : GNode) (h1 : n.fKeys.length ≤ LEN) (h2 : n.fVals.length ≤ LEN) (h3 : n.fKids.length ≤ LEN) : CallOK Go.Proofs.Tryz.prog 181 [.d (.agg n.cells)] [] [.dead] (.d (.bool (decide (nodeOk n)))) [] := by
  refine call_of tysZOK mixedZ Go.Proofs.Tryz.func181 (by kernel_rfl) rfl (np := [false]) (by kernel_rfl) hr181 hl181 (by simp [Go.Proofs.Tryz.ntmps181]) ?_
  simp -implicitDefEqProofs (maxSteps := 3000000) only [go_sem, reduceCtorEq, GNode.cells]
  by_cases g1 : (1 : Int) ≤ n.fKeys.length ∧ (n.fKeys.length : Int) ≤ 4
  · have d1 := decide_eq_true g1
    refine ks_in _ _ _ rfl ?_
    cases hl : n.fLeaf
    · have hiff := nodeOk_branch hl
      by_cases g2 : (n.fKids.length : Int) = n.fKeys.length
      · have d2 := decide_eq_true g2
        by_cases g3 : (n.fVals.length : Int) = 0
        · have d3 := decide_eq_true g3
          simp -implicitDefEqProofs (maxSteps := 3000000) only [go_sem, reduceCtorEq, d1, d2, d3]
          repeat ((first | refine req (by first | assumption | omega | exact commP_of (by kernel_rfl) | (simp only [LEN]; omega) | (simp [D.one]; omega) | (simp [D.one]; done)) ?_); simp -implicitDefEqProofs (maxSteps := 3000000) only [go_sem, reduceCtorEq, d1, d2, d3])
          refine loop_data (α := Nat) (fun i => ⟨[(1, .ref 0 0), (3, .d (.int .i64 n.fKeys.length)), (4, .d (.int .i64 i))], [(0, some (.box [.d (.bool false), .d (.sl (strs n.fKeys)), .d (.sl (strs n.fVals)), .d (.sl (ints n.fKids))]))]⟩)
            (fun i => i ≤ n.fKeys.length ∧ ascK (n.fKeys.take i) ∧ (∀ k ∈ n.fKeys.take i, k.length ≤ 24) ∧ (∀ k ∈ n.fKids.take i, 2 ≤ k ∧ k ≤ 39) ∧ (n.fKids.take i).Nodup) (fun i => n.fKeys.length - i) 0 rfl ⟨Nat.zero_le _, by simp [ascK], by simp, by simp, by simp⟩ ?_
          rintro i ⟨i1, i2, i3, i4, i5⟩
          simp -implicitDefEqProofs (maxSteps := 3000000) only [go_sem, reduceCtorEq]
          (first | (refine way_dec (fun h5 => ?_) (fun h5 => ?_)) | (refine way_ndec (fun h5 => ?_) (fun h5 => ?_)) | (refine wayT_dec (fun h5 => ?_) (fun h5 => ?_)) | (refine wayF_dec (fun h5 => ?_) (fun h5 => ?_)) | (refine wayT_ndec (fun h5 => ?_) (fun h5 => ?_)) | (refine wayF_ndec (fun h5 => ?_) (fun h5 => ?_)) | (refine way_not (fun h5 => ?_) (fun h5 => ?_)) | (refine way (fun h5 => ?_) (fun h5 => ?_)) | (refine wayT (fun h5 => ?_) (fun h5 => ?_)) | (refine wayF (fun h5 => ?_) (fun h5 => ?_)))
          · simp -implicitDefEqProofs (maxSteps := 3000000) only [go_sem, reduceCtorEq]
            obtain ⟨p, hp⟩ := some_at (l := n.fKeys) (i := i) (by omega)
            by_cases h6 : (24 : Int) < p.length
            · have d6 := decide_eq_true h6
              simp -implicitDefEqProofs (maxSteps := 3000000) only [go_sem, reduceCtorEq, lget_strs hp, d6]
              repeat ((first | refine req (by first | assumption | omega | exact commP_of (by kernel_rfl) | (simp only [LEN]; omega) | (simp [D.one]; omega) | (simp [D.one]; done)) ?_); simp -implicitDefEqProofs (maxSteps := 3000000) only [go_sem, reduceCtorEq, lget_strs hp, d6])
              have : ¬ nodeOk n := fun h => by have := h.2.2.2.1 p (List.mem_of_getElem? hp); omega
              simp [this]
            · have d6 := decide_eq_false h6
              rcases Nat.eq_zero_or_pos i with hi | hi
              · have hg : decide ((0 : Int) < (i : Int)) = false := decide_eq_false (by omega)
                have hasc : ascK (n.fKeys.take (i + 1)) := by subst hi; rw [take_snoc hp]; simp [ascK]
                simp -implicitDefEqProofs (maxSteps := 3000000) only [go_sem, reduceCtorEq, lget_strs hp, d6, hg]
                repeat ((first | refine req (by first | assumption | omega | exact commP_of (by kernel_rfl) | (simp only [LEN]; omega) | (simp [D.one]; omega) | (simp [D.one]; done)) ?_); simp -implicitDefEqProofs (maxSteps := 3000000) only [go_sem, reduceCtorEq, lget_strs hp, d6, hg])
                obtain ⟨c, hc⟩ := some_at (l := n.fKids) (i := i) (by omega)
                simp -implicitDefEqProofs (maxSteps := 3000000) only [go_sem, reduceCtorEq, lget_ints hc]
                by_cases g4 : 2 ≤ c ∧ c ≤ 39
                · have d4 := decide_eq_true g4
                  repeat ((first | refine req (by first | assumption | omega | exact commP_of (by kernel_rfl) | (simp only [LEN]; omega) | (simp [D.one]; omega) | (simp [D.one]; done)) ?_ | refine ks_in _ _ _ rfl ?_); simp -implicitDefEqProofs (maxSteps := 3000000) only [go_sem, reduceCtorEq, lget_ints hc, d4])
                  refine loop_data (α := Nat) (fun j => ⟨[(1, .ref 0 0), (3, .d (.int .i64 n.fKeys.length)), (4, .d (.int .i64 i)), (5, .d (.int .i64 j))], [(0, some (.box [.d (.bool false), .d (.sl (strs n.fKeys)), .d (.sl (strs n.fVals)), .d (.sl (ints n.fKids))]))]⟩)
                    (fun j => j ≤ i ∧ c ∉ n.fKids.take j) (fun j => i - j) 0 rfl ⟨Nat.zero_le _, by simp⟩ ?_
                  rintro j ⟨j1, j2⟩
                  simp -implicitDefEqProofs (maxSteps := 3000000) only [go_sem, reduceCtorEq]
                  (first | (refine way_dec (fun h8 => ?_) (fun h8 => ?_)) | (refine way_ndec (fun h8 => ?_) (fun h8 => ?_)) | (refine wayT_dec (fun h8 => ?_) (fun h8 => ?_)) | (refine wayF_dec (fun h8 => ?_) (fun h8 => ?_)) | (refine wayT_ndec (fun h8 => ?_) (fun h8 => ?_)) | (refine wayF_ndec (fun h8 => ?_) (fun h8 => ?_)) | (refine way_not (fun h8 => ?_) (fun h8 => ?_)) | (refine way (fun h8 => ?_) (fun h8 => ?_)) | (refine wayT (fun h8 => ?_) (fun h8 => ?_)) | (refine wayF (fun h8 => ?_) (fun h8 => ?_)))
                  · obtain ⟨e, he⟩ := some_at (l := n.fKids) (i := j) (by omega)
                    simp -implicitDefEqProofs (maxSteps := 3000000) only [go_sem, reduceCtorEq, lget_ints hc, lget_ints he]
                    repeat ((first | refine req (by first | assumption | omega | exact commP_of (by kernel_rfl) | (simp only [LEN]; omega) | (simp [D.one]; omega) | (simp [D.one]; done)) ?_); simp -implicitDefEqProofs (maxSteps := 3000000) only [go_sem, reduceCtorEq, lget_ints hc, lget_ints he])
                    (first | (refine way_dec (fun h9 => ?_) (fun h9 => ?_)) | (refine way_ndec (fun h9 => ?_) (fun h9 => ?_)) | (refine wayT_dec (fun h9 => ?_) (fun h9 => ?_)) | (refine wayF_dec (fun h9 => ?_) (fun h9 => ?_)) | (refine wayT_ndec (fun h9 => ?_) (fun h9 => ?_)) | (refine wayF_ndec (fun h9 => ?_) (fun h9 => ?_)) | (refine way_not (fun h9 => ?_) (fun h9 => ?_)) | (refine way (fun h9 => ?_) (fun h9 => ?_)) | (refine wayT (fun h9 => ?_) (fun h9 => ?_)) | (refine wayF (fun h9 => ?_) (fun h9 => ?_)))
                    · simp -implicitDefEqProofs (maxSteps := 3000000) only [go_sem, reduceCtorEq]
                      have : ¬ nodeOk n := fun h => by
                        have hnd := (hiff.1 h).2.2.2.2.2.2
                        obtain ⟨q1, q2⟩ := List.getElem?_eq_some_iff.1 hc
                        obtain ⟨q3, q4⟩ := List.getElem?_eq_some_iff.1 he
                        exact List.pairwise_iff_getElem.1 hnd j i q3 q1 (by omega) (by rw [q2, q4, h9])
                      simp [this]
                    · simp -implicitDefEqProofs (maxSteps := 3000000) only [go_sem, reduceCtorEq]
                      rw [wrap_succ (by simp only [LEN]; omega)]
                      refine next_data (j + 1) rfl ⟨by omega, fun hm => ?_⟩ (by omega)
                      rcases mem_takeS he hm with hm | rfl
                      · exact j2 hm
                      · exact h9 rfl
                  · simp -implicitDefEqProofs (maxSteps := 3000000) only [go_sem, reduceCtorEq]
                    obtain rfl : j = i := by omega
                    rw [wrap_succ (by simp only [LEN]; omega)]
                    refine next_data (j + 1) rfl ⟨by omega, hasc, fun k hk => ?_, fun k hk => ?_, nodup_snoc hc i5 j2⟩ (by omega)
                    · rcases mem_takeS hp hk with hk | rfl
                      · exact i3 k hk
                      · omega
                    · rcases mem_takeS hc hk with hk | rfl
                      · exact i4 k hk
                      · exact g4
                · have d4 := decide_eq_false g4
                  repeat ((first | refine req (by first | assumption | omega | exact commP_of (by kernel_rfl) | (simp only [LEN]; omega) | (simp [D.one]; omega) | (simp [D.one]; done)) ?_ | refine ks_in _ _ _ rfl ?_); simp -implicitDefEqProofs (maxSteps := 3000000) only [go_sem, reduceCtorEq, lget_ints hc, d4])
                  have : ¬ nodeOk n := fun h => g4 ((hiff.1 h).2.2.2.2.2.1 c (List.mem_of_getElem? hc))
                  simp [this]
              · obtain ⟨j', hj'⟩ : ∃ j, i = j + 1 := ⟨i - 1, by omega⟩
                obtain ⟨q, hq⟩ := some_at (l := n.fKeys) (i := j') (by omega)
                have hg : decide ((0 : Int) < (i : Int)) = true := decide_eq_true (by omega)
                have hj : IntKind.i64.wrap ((i : Int) - 1) = (j' : Int) := by rw [wrap_int (by omega) (by omega)]; omega
                simp -implicitDefEqProofs (maxSteps := 3000000) only [go_sem, reduceCtorEq, lget_strs hp, lget_strs hq, d6, hg, hj]
                repeat ((first | refine req (by first | assumption | omega | exact commP_of (by kernel_rfl) | (simp only [LEN]; omega) | (simp [D.one]; omega) | (simp [D.one]; done)) ?_); simp -implicitDefEqProofs (maxSteps := 3000000) only [go_sem, reduceCtorEq, lget_strs hp, lget_strs hq, d6, hg, hj])
                cases hlt : bLess q p
                · simp -implicitDefEqProofs (maxSteps := 3000000) only [go_sem, reduceCtorEq]
                  have : ¬ nodeOk n := fun h => by rw [asc_next h.2.2.1 hq (hj' ▸ hp)] at hlt; cases hlt
                  simp [this]
                · have hasc : ascK (n.fKeys.take (i + 1)) := by subst hj'; exact ascK_snoc i2 hq hp hlt
                  simp -implicitDefEqProofs (maxSteps := 3000000) only [go_sem, reduceCtorEq]
                  obtain ⟨c, hc⟩ := some_at (l := n.fKids) (i := i) (by omega)
                  simp -implicitDefEqProofs (maxSteps := 3000000) only [go_sem, reduceCtorEq, lget_ints hc]
                  by_cases g4 : 2 ≤ c ∧ c ≤ 39
                  · have d4 := decide_eq_true g4
                    repeat ((first | refine req (by first | assumption | omega | exact commP_of (by kernel_rfl) | (simp only [LEN]; omega) | (simp [D.one]; omega) | (simp [D.one]; done)) ?_ | refine ks_in _ _ _ rfl ?_); simp -implicitDefEqProofs (maxSteps := 3000000) only [go_sem, reduceCtorEq, lget_ints hc, d4])
                    refine loop_data (α := Nat) (fun j => ⟨[(1, .ref 0 0), (3, .d (.int .i64 n.fKeys.length)), (4, .d (.int .i64 i)), (5, .d (.int .i64 j))], [(0, some (.box [.d (.bool false), .d (.sl (strs n.fKeys)), .d (.sl (strs n.fVals)), .d (.sl (ints n.fKids))]))]⟩)
                      (fun j => j ≤ i ∧ c ∉ n.fKids.take j) (fun j => i - j) 0 rfl ⟨Nat.zero_le _, by simp⟩ ?_
                    rintro j ⟨j1, j2⟩
                    simp -implicitDefEqProofs (maxSteps := 3000000) only [go_sem, reduceCtorEq]
                    (first | (refine way_dec (fun h8 => ?_) (fun h8 => ?_)) | (refine way_ndec (fun h8 => ?_) (fun h8 => ?_)) | (refine wayT_dec (fun h8 => ?_) (fun h8 => ?_)) | (refine wayF_dec (fun h8 => ?_) (fun h8 => ?_)) | (refine wayT_ndec (fun h8 => ?_) (fun h8 => ?_)) | (refine wayF_ndec (fun h8 => ?_) (fun h8 => ?_)) | (refine way_not (fun h8 => ?_) (fun h8 => ?_)) | (refine way (fun h8 => ?_) (fun h8 => ?_)) | (refine wayT (fun h8 => ?_) (fun h8 => ?_)) | (refine wayF (fun h8 => ?_) (fun h8 => ?_)))
                    · obtain ⟨e, he⟩ := some_at (l := n.fKids) (i := j) (by omega)
                      simp -implicitDefEqProofs (maxSteps := 3000000) only [go_sem, reduceCtorEq, lget_ints hc, lget_ints he]
                      repeat ((first | refine req (by first | assumption | omega | exact commP_of (by kernel_rfl) | (simp only [LEN]; omega) | (simp [D.one]; omega) | (simp [D.one]; done)) ?_); simp -implicitDefEqProofs (maxSteps := 3000000) only [go_sem, reduceCtorEq, lget_ints hc, lget_ints he])
                      (first | (refine way_dec (fun h9 => ?_) (fun h9 => ?_)) | (refine way_ndec (fun h9 => ?_) (fun h9 => ?_)) | (refine wayT_dec (fun h9 => ?_) (fun h9 => ?_)) | (refine wayF_dec (fun h9 => ?_) (fun h9 => ?_)) | (refine wayT_ndec (fun h9 => ?_) (fun h9 => ?_)) | (refine wayF_ndec (fun h9 => ?_) (fun h9 => ?_)) | (refine way_not (fun h9 => ?_) (fun h9 => ?_)) | (refine way (fun h9 => ?_) (fun h9 => ?_)) | (refine wayT (fun h9 => ?_) (fun h9 => ?_)) | (refine wayF (fun h9 => ?_) (fun h9 => ?_)))
                      · simp -implicitDefEqProofs (maxSteps := 3000000) only [go_sem, reduceCtorEq]
                        have : ¬ nodeOk n := fun h => by
                          have hnd := (hiff.1 h).2.2.2.2.2.2
                          obtain ⟨q1, q2⟩ := List.getElem?_eq_some_iff.1 hc
                          obtain ⟨q3, q4⟩ := List.getElem?_eq_some_iff.1 he
                          exact List.pairwise_iff_getElem.1 hnd j i q3 q1 (by omega) (by rw [q2, q4, h9])
                        simp [this]
                      · simp -implicitDefEqProofs (maxSteps := 3000000) only [go_sem, reduceCtorEq]
                        rw [wrap_succ (by simp only [LEN]; omega)]
                        refine next_data (j + 1) rfl ⟨by omega, fun hm => ?_⟩ (by omega)
                        rcases mem_takeS he hm with hm | rfl
                        · exact j2 hm
                        · exact h9 rfl
                    · simp -implicitDefEqProofs (maxSteps := 3000000) only [go_sem, reduceCtorEq]
                      obtain rfl : j = i := by omega
                      rw [wrap_succ (by simp only [LEN]; omega)]
                      refine next_data (j + 1) rfl ⟨by omega, hasc, fun k hk => ?_, fun k hk => ?_, nodup_snoc hc i5 j2⟩ (by omega)
                      · rcases mem_takeS hp hk with hk | rfl
                        · exact i3 k hk
                        · omega
                      · rcases mem_takeS hc hk with hk | rfl
                        · exact i4 k hk
                        · exact g4
                  · have d4 := decide_eq_false g4
                    repeat ((first | refine req (by first | assumption | omega | exact commP_of (by kernel_rfl) | (simp only [LEN]; omega) | (simp [D.one]; omega) | (simp [D.one]; done)) ?_ | refine ks_in _ _ _ rfl ?_); simp -implicitDefEqProofs (maxSteps := 3000000) only [go_sem, reduceCtorEq, lget_ints hc, d4])
                    have : ¬ nodeOk n := fun h => g4 ((hiff.1 h).2.2.2.2.2.1 c (List.mem_of_getElem? hc))
                    simp [this]
          · simp -implicitDefEqProofs (maxSteps := 3000000) only [go_sem, reduceCtorEq]
            rw [List.take_of_length_le (by omega)] at i2 i3 i4 i5
            have : nodeOk n := hiff.2 ⟨by omega, i2, i3, by omega, by omega, i4, i5⟩
            simp [this]
        · have d3 := decide_eq_false g3
          simp -implicitDefEqProofs (maxSteps := 3000000) only [go_sem, reduceCtorEq, d1, d2, d3]
          repeat ((first | refine req (by first | assumption | omega | exact commP_of (by kernel_rfl) | (simp only [LEN]; omega) | (simp [D.one]; omega) | (simp [D.one]; done)) ?_); simp -implicitDefEqProofs (maxSteps := 3000000) only [go_sem, reduceCtorEq, d1, d2, d3])
          have : ¬ nodeOk n := fun h => g3 (by have := (hiff.1 h).2.2.2.2.1; omega)
          simp [this]
      · have d2 := decide_eq_false g2
        simp -implicitDefEqProofs (maxSteps := 3000000) only [go_sem, reduceCtorEq, d1, d2]
        repeat ((first | refine req (by first | assumption | omega | exact commP_of (by kernel_rfl) | (simp only [LEN]; omega) | (simp [D.one]; omega) | (simp [D.one]; done)) ?_); simp -implicitDefEqProofs (maxSteps := 3000000) only [go_sem, reduceCtorEq, d1, d2])
        have : ¬ nodeOk n := fun h => g2 (by have := (hiff.1 h).2.2.2.1; omega)
        simp [this]
    · have hiff := nodeOk_leaf hl
      by_cases g2 : (n.fVals.length : Int) = n.fKeys.length
      · have d2 := decide_eq_true g2
        by_cases g3 : (n.fKids.length : Int) = 0
        · have d3 := decide_eq_true g3
          simp -implicitDefEqProofs (maxSteps := 3000000) only [go_sem, reduceCtorEq, d1, d2, d3]
          repeat ((first | refine req (by first | assumption | omega | exact commP_of (by kernel_rfl) | (simp only [LEN]; omega) | (simp [D.one]; omega) | (simp [D.one]; done)) ?_); simp -implicitDefEqProofs (maxSteps := 3000000) only [go_sem, reduceCtorEq, d1, d2, d3])
          refine loop_data (α := Nat) (fun i => ⟨[(1, .ref 0 0), (3, .d (.int .i64 n.fKeys.length)), (4, .d (.int .i64 i))], [(0, some (.box [.d (.bool true), .d (.sl (strs n.fKeys)), .d (.sl (strs n.fVals)), .d (.sl (ints n.fKids))]))]⟩)
            (fun i => i ≤ n.fKeys.length ∧ ascK (n.fKeys.take i) ∧ (∀ k ∈ n.fKeys.take i, k.length ≤ 24) ∧ (∀ v ∈ n.fVals.take i, v.length ≤ 24)) (fun i => n.fKeys.length - i) 0 rfl ⟨Nat.zero_le _, by simp [ascK], by simp, by simp⟩ ?_
          rintro i ⟨i1, i2, i3, i4⟩
          simp -implicitDefEqProofs (maxSteps := 3000000) only [go_sem, reduceCtorEq]
          (first | (refine way_dec (fun h5 => ?_) (fun h5 => ?_)) | (refine way_ndec (fun h5 => ?_) (fun h5 => ?_)) | (refine wayT_dec (fun h5 => ?_) (fun h5 => ?_)) | (refine wayF_dec (fun h5 => ?_) (fun h5 => ?_)) | (refine wayT_ndec (fun h5 => ?_) (fun h5 => ?_)) | (refine wayF_ndec (fun h5 => ?_) (fun h5 => ?_)) | (refine way_not (fun h5 => ?_) (fun h5 => ?_)) | (refine way (fun h5 => ?_) (fun h5 => ?_)) | (refine wayT (fun h5 => ?_) (fun h5 => ?_)) | (refine wayF (fun h5 => ?_) (fun h5 => ?_)))
          · simp -implicitDefEqProofs (maxSteps := 3000000) only [go_sem, reduceCtorEq]
            obtain ⟨p, hp⟩ := some_at (l := n.fKeys) (i := i) (by omega)
            by_cases h6 : (24 : Int) < p.length
            · have d6 := decide_eq_true h6
              simp -implicitDefEqProofs (maxSteps := 3000000) only [go_sem, reduceCtorEq, lget_strs hp, d6]
              repeat ((first | refine req (by first | assumption | omega | exact commP_of (by kernel_rfl) | (simp only [LEN]; omega) | (simp [D.one]; omega) | (simp [D.one]; done)) ?_); simp -implicitDefEqProofs (maxSteps := 3000000) only [go_sem, reduceCtorEq, lget_strs hp, d6])
              have : ¬ nodeOk n := fun h => by have := h.2.2.2.1 p (List.mem_of_getElem? hp); omega
              simp [this]
            · have d6 := decide_eq_false h6
              rcases Nat.eq_zero_or_pos i with hi | hi
              · have hg : decide ((0 : Int) < (i : Int)) = false := decide_eq_false (by omega)
                have hasc : ascK (n.fKeys.take (i + 1)) := by subst hi; rw [take_snoc hp]; simp [ascK]
                simp -implicitDefEqProofs (maxSteps := 3000000) only [go_sem, reduceCtorEq, lget_strs hp, d6, hg]
                repeat ((first | refine req (by first | assumption | omega | exact commP_of (by kernel_rfl) | (simp only [LEN]; omega) | (simp [D.one]; omega) | (simp [D.one]; done)) ?_); simp -implicitDefEqProofs (maxSteps := 3000000) only [go_sem, reduceCtorEq, lget_strs hp, d6, hg])
                obtain ⟨v, hv⟩ := some_at (l := n.fVals) (i := i) (by omega)
                simp -implicitDefEqProofs (maxSteps := 3000000) only [go_sem, reduceCtorEq, lget_strs hv]
                repeat ((first | refine req (by first | assumption | omega | exact commP_of (by kernel_rfl) | (simp only [LEN]; omega) | (simp [D.one]; omega) | (simp [D.one]; done)) ?_); simp -implicitDefEqProofs (maxSteps := 3000000) only [go_sem, reduceCtorEq, lget_strs hv])
                (first | (refine way_dec (fun h8 => ?_) (fun h8 => ?_)) | (refine way_ndec (fun h8 => ?_) (fun h8 => ?_)) | (refine wayT_dec (fun h8 => ?_) (fun h8 => ?_)) | (refine wayF_dec (fun h8 => ?_) (fun h8 => ?_)) | (refine wayT_ndec (fun h8 => ?_) (fun h8 => ?_)) | (refine wayF_ndec (fun h8 => ?_) (fun h8 => ?_)) | (refine way_not (fun h8 => ?_) (fun h8 => ?_)) | (refine way (fun h8 => ?_) (fun h8 => ?_)) | (refine wayT (fun h8 => ?_) (fun h8 => ?_)) | (refine wayF (fun h8 => ?_) (fun h8 => ?_)))
                · simp -implicitDefEqProofs (maxSteps := 3000000) only [go_sem, reduceCtorEq]
                  have : ¬ nodeOk n := fun h => by have := (hiff.1 h).2.2.2.2.1 v (List.mem_of_getElem? hv); omega
                  simp [this]
                · simp -implicitDefEqProofs (maxSteps := 3000000) only [go_sem, reduceCtorEq]
                  rw [wrap_succ (by simp only [LEN]; omega)]
                  refine next_data (i + 1) rfl ⟨by omega, hasc, fun k hk => ?_, fun w hw => ?_⟩ (by omega)
                  · rcases mem_takeS hp hk with hk | rfl
                    · exact i3 k hk
                    · omega
                  · rcases mem_takeS hv hw with hw | rfl
                    · exact i4 w hw
                    · omega
              · obtain ⟨j', hj'⟩ : ∃ j, i = j + 1 := ⟨i - 1, by omega⟩
                obtain ⟨q, hq⟩ := some_at (l := n.fKeys) (i := j') (by omega)
                have hg : decide ((0 : Int) < (i : Int)) = true := decide_eq_true (by omega)
                have hj : IntKind.i64.wrap ((i : Int) - 1) = (j' : Int) := by rw [wrap_int (by omega) (by omega)]; omega
                simp -implicitDefEqProofs (maxSteps := 3000000) only [go_sem, reduceCtorEq, lget_strs hp, lget_strs hq, d6, hg, hj]
                repeat ((first | refine req (by first | assumption | omega | exact commP_of (by kernel_rfl) | (simp only [LEN]; omega) | (simp [D.one]; omega) | (simp [D.one]; done)) ?_); simp -implicitDefEqProofs (maxSteps := 3000000) only [go_sem, reduceCtorEq, lget_strs hp, lget_strs hq, d6, hg, hj])
                cases hlt : bLess q p
                · simp -implicitDefEqProofs (maxSteps := 3000000) only [go_sem, reduceCtorEq]
                  have : ¬ nodeOk n := fun h => by rw [asc_next h.2.2.1 hq (hj' ▸ hp)] at hlt; cases hlt
                  simp [this]
                · have hasc : ascK (n.fKeys.take (i + 1)) := by subst hj'; exact ascK_snoc i2 hq hp hlt
                  simp -implicitDefEqProofs (maxSteps := 3000000) only [go_sem, reduceCtorEq]
                  obtain ⟨v, hv⟩ := some_at (l := n.fVals) (i := i) (by omega)
                  simp -implicitDefEqProofs (maxSteps := 3000000) only [go_sem, reduceCtorEq, lget_strs hv]
                  repeat ((first | refine req (by first | assumption | omega | exact commP_of (by kernel_rfl) | (simp only [LEN]; omega) | (simp [D.one]; omega) | (simp [D.one]; done)) ?_); simp -implicitDefEqProofs (maxSteps := 3000000) only [go_sem, reduceCtorEq, lget_strs hv])
                  (first | (refine way_dec (fun h8 => ?_) (fun h8 => ?_)) | (refine way_ndec (fun h8 => ?_) (fun h8 => ?_)) | (refine wayT_dec (fun h8 => ?_) (fun h8 => ?_)) | (refine wayF_dec (fun h8 => ?_) (fun h8 => ?_)) | (refine wayT_ndec (fun h8 => ?_) (fun h8 => ?_)) | (refine wayF_ndec (fun h8 => ?_) (fun h8 => ?_)) | (refine way_not (fun h8 => ?_) (fun h8 => ?_)) | (refine way (fun h8 => ?_) (fun h8 => ?_)) | (refine wayT (fun h8 => ?_) (fun h8 => ?_)) | (refine wayF (fun h8 => ?_) (fun h8 => ?_)))
                  · simp -implicitDefEqProofs (maxSteps := 3000000) only [go_sem, reduceCtorEq]
                    have : ¬ nodeOk n := fun h => by have := (hiff.1 h).2.2.2.2.1 v (List.mem_of_getElem? hv); omega
                    simp [this]
                  · simp -implicitDefEqProofs (maxSteps := 3000000) only [go_sem, reduceCtorEq]
                    rw [wrap_succ (by simp only [LEN]; omega)]
                    refine next_data (i + 1) rfl ⟨by omega, hasc, fun k hk => ?_, fun w hw => ?_⟩ (by omega)
                    · rcases mem_takeS hp hk with hk | rfl
                      · exact i3 k hk
                      · omega
                    · rcases mem_takeS hv hw with hw | rfl
                      · exact i4 w hw
                      · omega
          · simp -implicitDefEqProofs (maxSteps := 3000000) only [go_sem, reduceCtorEq]
            rw [List.take_of_length_le (by omega)] at i2 i3 i4
            have : nodeOk n := hiff.2 ⟨by omega, i2, i3, by omega, i4, by omega⟩
            simp [this]
        · have d3 := decide_eq_false g3
          simp -implicitDefEqProofs (maxSteps := 3000000) only [go_sem, reduceCtorEq, d1, d2, d3]
          repeat ((first | refine req (by first | assumption | omega | exact commP_of (by kernel_rfl) | (simp only [LEN]; omega) | (simp [D.one]; omega) | (simp [D.one]; done)) ?_); simp -implicitDefEqProofs (maxSteps := 3000000) only [go_sem, reduceCtorEq, d1, d2, d3])
          have : ¬ nodeOk n := fun h => g3 (by have := (hiff.1 h).2.2.2.2.2; omega)
          simp [this]
      · have d2 := decide_eq_false g2
        simp -implicitDefEqProofs (maxSteps := 3000000) only [go_sem, reduceCtorEq, d1, d2]
        repeat ((first | refine req (by first | assumption | omega | exact commP_of (by kernel_rfl) | (simp only [LEN]; omega) | (simp [D.one]; omega) | (simp [D.one]; done)) ?_); simp -implicitDefEqProofs (maxSteps := 3000000) only [go_sem, reduceCtorEq, d1, d2])
        have : ¬ nodeOk n := fun h => g2 (by have := (hiff.1 h).2.2.2.1; omega)
        simp [this]
  · have d1 := decide_eq_false g1
    refine ks_in _ _ _ rfl ?_
    cases hl : n.fLeaf
    · simp -implicitDefEqProofs (maxSteps := 3000000) only [go_sem, reduceCtorEq, d1]
      repeat ((first | refine req (by first | assumption | omega | exact commP_of (by kernel_rfl) | (simp only [LEN]; omega) | (simp [D.one]; omega) | (simp [D.one]; done)) ?_); simp -implicitDefEqProofs (maxSteps := 3000000) only [go_sem, reduceCtorEq, d1])
      have : ¬ nodeOk n := fun h => g1 ⟨by have := h.1; omega, by have := h.2.1; omega⟩
      simp [this]
    · simp -implicitDefEqProofs (maxSteps := 3000000) only [go_sem, reduceCtorEq, d1]
      repeat ((first | refine req (by first | assumption | omega | exact commP_of (by kernel_rfl) | (simp only [LEN]; omega) | (simp [D.one]; omega) | (simp [D.one]; done)) ?_); simp -implicitDefEqProofs (maxSteps := 3000000) only [go_sem, reduceCtorEq, d1])
      have : ¬ nodeOk n := fun h => g1 ⟨by have := h.1; omega, by have := h.2.1; omega⟩
      simp [this]
theorem ks_NodeOk {h : Heap} {tb : Nat} {K : OK} {args : List V} {ls : List Nat} (n : GNode) (h1 : n.fKeys.length ≤ LEN) (h2 : n.fVals.length ≤ LEN) (h3 : n.fKids.length ≤ LEN) (hg : toDs h args = some ([.agg n.cells], ls))
    (hk : K (renV (bk tb ([])) (.d (.bool (decide (nodeOk n))))) (updN tb ([]) ([]))) : callVC Go.Proofs.Tryz.prog h tb 181 args K :=
  call_free hg (cs_NodeOk n h1 h2 h3) rfl (.inr ⟨flat_of rfl, flatHB_of rfl⟩) hk
end Go.Rx

namespace Go.Rx
open Go
attribute [local irreducible] Req Way WayG Sel callVC CallOK
set_option linter.unusedSimpArgs false
set_option linter.unusedVariables false

@[go_sem] def hr203 : Hints
  | 0 => [0] | 1 => [0] | _ => []
@[go_sem] def hl203 : Hints := fun _ => []
attribute [go_sem] Go.Proofs.Tryz.results203
set_option maxRecDepth 100000 in
set_option maxHeartbeats 4000000 in
theorem cs_Short (s : List UInt8) (hs : s.length ≤ 4611686018427387904) : CallOK Go.Proofs.Tryz.prog 203 [.d (.str s)] [] [.dead] (.d (.str (shortB s))) [] := by
  refine call_of tysZOK mixedZ Go.Proofs.Tryz.func203 (by kernel_rfl) rfl (np := [false]) (by kernel_rfl) hr203 hl203 (by simp [Go.Proofs.Tryz.ntmps203]) ?_
  simp -implicitDefEqProofs (maxSteps := 3000000) only [go_sem, reduceCtorEq]
  refine ks_varText s.length (by omega) rfl ?_
  have := varB_len9 (n := s.length) (by omega)
  simp -implicitDefEqProofs (maxSteps := 3000000) only [go_sem, reduceCtorEq]
  repeat ((first | refine req (by first | assumption | omega | exact commP_of (by kernel_rfl) | (simp only [LEN, List.length_append, List.length_cons, List.length_nil]; omega) | (simp [D.one]; omega) | (simp [D.one]; done)) ?_); simp -implicitDefEqProofs (maxSteps := 3000000) only [go_sem, reduceCtorEq])
  rfl
theorem ks_Short {h : Heap} {tb : Nat} {K : OK} {args : List V} {ls : List Nat} (s : List UInt8) (hs : s.length ≤ 4611686018427387904) (hg : toDs h args = some ([.str s], ls))
    (hk : K (renV (bk tb ([])) (.d (.str (shortB s)))) (updN tb ([]) ([]))) : callVC Go.Proofs.Tryz.prog h tb 203 args K :=
  call_free hg (cs_Short s hs) rfl (.inr ⟨flat_of rfl, flatHB_of rfl⟩) hk
@[go_sem] def hr132 : Hints
  | 0 => [0] | 1 => [0] | _ => []
@[go_sem] def hl132 : Hints := fun _ => []
attribute [go_sem] Go.Proofs.Tryz.results132
set_option maxRecDepth 100000 in
set_option maxHeartbeats 4000000 in
theorem ci_Short (s : List UInt8) (hs : s.length ≤ 4611686018427387904) : CallOK Go.Proofs.Tryz.prog 132 [.d (.str s)] [] [.dead] (.d (.str (shortB s))) [] := by
  refine call_of tysZOK mixedZ Go.Proofs.Tryz.func132 (by kernel_rfl) rfl (np := [false]) (by kernel_rfl) hr132 hl132 (by simp [Go.Proofs.Tryz.ntmps132]) ?_
  simp -implicitDefEqProofs (maxSteps := 3000000) only [go_sem, reduceCtorEq]
  refine ki_varText s.length (by omega) rfl ?_
  have := varB_len9 (n := s.length) (by omega)
  simp -implicitDefEqProofs (maxSteps := 3000000) only [go_sem, reduceCtorEq]
  repeat ((first | refine req (by first | assumption | omega | exact commP_of (by kernel_rfl) | (simp only [LEN, List.length_append, List.length_cons, List.length_nil]; omega) | (simp [D.one]; omega) | (simp [D.one]; done)) ?_); simp -implicitDefEqProofs (maxSteps := 3000000) only [go_sem, reduceCtorEq])
  rfl
theorem ki_Short {h : Heap} {tb : Nat} {K : OK} {args : List V} {ls : List Nat} (s : List UInt8) (hs : s.length ≤ 4611686018427387904) (hg : toDs h args = some ([.str s], ls))
    (hk : K (renV (bk tb ([])) (.d (.str (shortB s)))) (updN tb ([]) ([]))) : callVC Go.Proofs.Tryz.prog h tb 132 args K :=
  call_free hg (ci_Short s hs) rfl (.inr ⟨flat_of rfl, flatHB_of rfl⟩) hk
@[go_sem] def hr182 : Hints
  | 0 => [0] | 1 => [0] | 2 => [] | 3 => [0] | _ => []
@[go_sem] def hl182 : Hints := fun _ => []
attribute [go_sem] Go.Proofs.Tryz.results182
set_option maxRecDepth 100000 in
set_option maxHeartbeats 4000000 in
theorem cs_Sealed (t : List UInt8) (ht : t.length ≤ 20000) : CallOK Go.Proofs.Tryz.prog 182 [.d (.str t)] [] [.dead] (.tup [.d (.str (sealB t)), .d (.bool true)]) [] := by
  refine call_of tysZOK mixedZ Go.Proofs.Tryz.func182 (by kernel_rfl) rfl (np := [false]) (by kernel_rfl) hr182 hl182 (by simp [Go.Proofs.Tryz.ntmps182]) ?_
  have h1 : ¬ (20000 : Int) < t.length := by omega
  have d1 := decide_eq_false h1
  simp -implicitDefEqProofs (maxSteps := 3000000) only [go_sem, reduceCtorEq, d1]
  repeat ((first | refine req (by first | assumption | omega | exact commP_of (by kernel_rfl) | (simp only [LEN, List.length_append, List.length_cons, List.length_nil]; omega) | (simp [D.one]; omega) | (simp [D.one]; done)) ?_ | refine ks_SumOf t (by simp only [LEN]; omega) rfl ?_ | refine ks_Four (sumOf t) sumOf_lt rfl ?_); simp -implicitDefEqProofs (maxSteps := 3000000) only [go_sem, reduceCtorEq, d1, four_len])
  rfl
theorem ks_Sealed {h : Heap} {tb : Nat} {K : OK} {args : List V} {ls : List Nat} (t : List UInt8) (ht : t.length ≤ 20000) (hg : toDs h args = some ([.str t], ls))
    (hk : K (renV (bk tb ([])) (.tup [.d (.str (sealB t)), .d (.bool true)])) (updN tb ([]) ([]))) : callVC Go.Proofs.Tryz.prog h tb 182 args K :=
  call_free hg (cs_Sealed t ht) rfl (.inr ⟨flat_of rfl, flatHB_of rfl⟩) hk
@[go_sem] def hr133 : Hints
  | 0 => [0] | 1 => [0] | 2 => [] | 3 => [0] | _ => []
@[go_sem] def hl133 : Hints := fun _ => []
attribute [go_sem] Go.Proofs.Tryz.results133
set_option maxRecDepth 100000 in
set_option maxHeartbeats 4000000 in
theorem ci_Sealed (t : List UInt8) (ht : t.length ≤ 20000) : CallOK Go.Proofs.Tryz.prog 133 [.d (.str t)] [] [.dead] (.tup [.d (.str (sealB t)), .d (.bool true)]) [] := by
  refine call_of tysZOK mixedZ Go.Proofs.Tryz.func133 (by kernel_rfl) rfl (np := [false]) (by kernel_rfl) hr133 hl133 (by simp [Go.Proofs.Tryz.ntmps133]) ?_
  have h1 : ¬ (20000 : Int) < t.length := by omega
  have d1 := decide_eq_false h1
  simp -implicitDefEqProofs (maxSteps := 3000000) only [go_sem, reduceCtorEq, d1]
  repeat ((first | refine req (by first | assumption | omega | exact commP_of (by kernel_rfl) | (simp only [LEN, List.length_append, List.length_cons, List.length_nil]; omega) | (simp [D.one]; omega) | (simp [D.one]; done)) ?_ | refine ki_seal t (by simp only [LEN]; omega) rfl ?_); simp -implicitDefEqProofs (maxSteps := 3000000) only [go_sem, reduceCtorEq, d1, four_len])
  rfl
theorem ki_Sealed {h : Heap} {tb : Nat} {K : OK} {args : List V} {ls : List Nat} (t : List UInt8) (ht : t.length ≤ 20000) (hg : toDs h args = some ([.str t], ls))
    (hk : K (renV (bk tb ([])) (.tup [.d (.str (sealB t)), .d (.bool true)])) (updN tb ([]) ([]))) : callVC Go.Proofs.Tryz.prog h tb 133 args K :=
  call_free hg (ci_Sealed t ht) rfl (.inr ⟨flat_of rfl, flatHB_of rfl⟩) hk
@[go_sem] def hr142 : Hints
  | 0 => [0] | 1 => [0] | 2 => [0, 4] | 3 => [] | 4 => [0, 4] | _ => []
@[go_sem] def hl142 : Hints := fun _ => []
attribute [go_sem] Go.Proofs.Tryz.results142
set_option maxRecDepth 100000 in
set_option maxHeartbeats 4000000 in
theorem cs_Unsealed (t : List UInt8) (ht : t.length ≤ 4611686018427387904) : CallOK Go.Proofs.Tryz.prog 142 [.d (.str t)] [] [.dead] (unV (unsealB t)) [] := by
  refine call_of tysZOK mixedZ Go.Proofs.Tryz.func142 (by kernel_rfl) rfl (np := [false]) (by kernel_rfl) hr142 hl142 (by simp [Go.Proofs.Tryz.ntmps142]) ?_
  simp -implicitDefEqProofs (maxSteps := 3000000) only [go_sem, reduceCtorEq]
  have e1 : IntKind.i64.wrap ((t.length : Int) - 4) = (t.length : Int) - 4 := wrap_int (by omega) (by omega)
  rw [e1]
  by_cases h1 : (t.length : Int) - 4 < 0
  · have d1 := decide_eq_true h1
    simp -implicitDefEqProofs (maxSteps := 3000000) only [go_sem, reduceCtorEq, d1]
    repeat ((first | refine req (by first | assumption | omega | exact commP_of (by kernel_rfl) | (simp only [LEN, List.length_append, List.length_cons, List.length_nil]; omega) | (simp [D.one]; omega) | (simp [D.one]; done)) ?_); simp -implicitDefEqProofs (maxSteps := 3000000) only [go_sem, reduceCtorEq, d1])
    rw [unsealB, if_neg (by omega)]; rfl
  · have d1 := decide_eq_false h1
    by_cases h2 : 20000 < (t.length : Int) - 4
    · have d2 := decide_eq_true h2
      simp -implicitDefEqProofs (maxSteps := 3000000) only [go_sem, reduceCtorEq, d1, d2]
      repeat ((first | refine req (by first | assumption | omega | exact commP_of (by kernel_rfl) | (simp only [LEN, List.length_append, List.length_cons, List.length_nil]; omega) | (simp [D.one]; omega) | (simp [D.one]; done)) ?_); simp -implicitDefEqProofs (maxSteps := 3000000) only [go_sem, reduceCtorEq, d1, d2])
      rw [unsealB, if_neg (by omega)]; rfl
    · have d2 := decide_eq_false h2
      have e2 : ((t.length : Int) - 4).toNat = t.length - 4 := by omega
      simp -implicitDefEqProofs (maxSteps := 3000000) only [go_sem, reduceCtorEq, d1, d2, e2]
      repeat ((first | refine req (by first | assumption | omega | exact commP_of (by kernel_rfl) | (simp only [LEN, List.length_append, List.length_cons, List.length_nil]; omega) | (simp [D.one]; omega) | (simp [D.one]; done)) ?_ | refine ks_SumOf (t.take (t.length - 4)) (by simp only [List.length_take, LEN]; omega) rfl ?_ | refine ks_Four (sumOf (t.take (t.length - 4))) sumOf_lt rfl ?_); simp -implicitDefEqProofs (maxSteps := 3000000) only [go_sem, reduceCtorEq, d1, d2, e2, List.take_length])
      (first | (refine way_dec (fun h3 => ?_) (fun h3 => ?_)) | (refine way_ndec (fun h3 => ?_) (fun h3 => ?_)) | (refine wayT_dec (fun h3 => ?_) (fun h3 => ?_)) | (refine wayF_dec (fun h3 => ?_) (fun h3 => ?_)) | (refine wayT_ndec (fun h3 => ?_) (fun h3 => ?_)) | (refine wayF_ndec (fun h3 => ?_) (fun h3 => ?_)) | (refine way_not (fun h3 => ?_) (fun h3 => ?_)) | (refine way (fun h3 => ?_) (fun h3 => ?_)) | (refine wayT (fun h3 => ?_) (fun h3 => ?_)) | (refine wayF (fun h3 => ?_) (fun h3 => ?_)))
      · simp -implicitDefEqProofs (maxSteps := 3000000) only [go_sem, reduceCtorEq]
        rw [unsealB, if_neg (fun h => h3 h.2.2)]; rfl
      · simp -implicitDefEqProofs (maxSteps := 3000000) only [go_sem, reduceCtorEq]
        repeat ((first | refine req (by first | assumption | omega | exact commP_of (by kernel_rfl) | (simp only [LEN, List.length_append, List.length_cons, List.length_nil]; omega) | (simp [D.one]; omega) | (simp [D.one]; done)) ?_); simp -implicitDefEqProofs (maxSteps := 3000000) only [go_sem, reduceCtorEq, e2])
        rw [unsealB, if_pos ⟨by omega, by omega, h3⟩]; rfl
theorem ks_Unsealed {h : Heap} {tb : Nat} {K : OK} {args : List V} {ls : List Nat} (t : List UInt8) (ht : t.length ≤ 4611686018427387904) (hg : toDs h args = some ([.str t], ls)) (hfl : FlatV (unV (unsealB t)) ∧ FlatH ([]))
    (hk : K (renV (bk tb ([])) (unV (unsealB t))) (updN tb ([]) ([]))) : callVC Go.Proofs.Tryz.prog h tb 142 args K :=
  call_free hg (cs_Unsealed t ht) rfl (.inr hfl) hk

/-- The bytes of a node's first k entries. -/
def entB (n : GNode) (k : Nat) : List UInt8 := (if n.fLeaf = true then (n.fKeys.zip n.fVals).take k |>.flatMap lent else (n.fKeys.zip n.fKids).take k |>.flatMap bent)
def headB (n : GNode) : List UInt8 := (if n.fLeaf = true then 108 else 98) :: varB n.fKeys.length
theorem entB_zero {n : GNode} : headB n ++ entB n 0 = headB n := by unfold entB; split <;> simp
theorem entB_all {n : GNode} (hn : nodeOk n) {k : Nat} (hk : n.fKeys.length ≤ k) : headB n ++ entB n k = nodeBytes n := by
  unfold entB nodeBytes headB
  split
  · rw [List.take_of_length_le (by simp; omega)]; rfl
  · rw [List.take_of_length_le (by simp; omega)]; rfl
theorem entB_leaf {n : GNode} (hl : n.fLeaf = true) {i : Nat} {p q : List UInt8} (hp : n.fKeys[i]? = some p) (hq : n.fVals[i]? = some q) : entB n (i + 1) = entB n i ++ (shortB p ++ shortB q) := by
  unfold entB; rw [if_pos hl, if_pos hl, take_snoc (zip_at hp hq)]; simp [lent]
theorem entB_branch {n : GNode} (hl : n.fLeaf = false) {i : Nat} {p : List UInt8} {q : Int} (hp : n.fKeys[i]? = some p) (hq : n.fKids[i]? = some q) : entB n (i + 1) = entB n i ++ (shortB p ++ varB q.toNat) := by
  unfold entB; rw [if_neg (by simp [hl]), if_neg (by simp [hl]), take_snoc (zip_at hp hq)]; simp [bent]
theorem flatMap_take {α : Type} {l : List α} {f : α → List UInt8} {i m : Nat} (h : i ≤ m) : ((l.take i).flatMap f).length ≤ ((l.take m).flatMap f).length := by
  have e : l.take m = l.take i ++ (l.take m).drop i := by
    conv => lhs; rw [← List.take_append_drop i (l.take m)]
    rw [List.take_take, Nat.min_eq_left h]
  rw [e, List.flatMap_append, List.length_append]; omega
theorem entB_len {n : GNode} (hn : nodeOk n) {i : Nat} : (headB n ++ entB n i).length ≤ 202 := by
  have h1 := nodeBytes_len hn
  have h2 := entB_all hn (Nat.le_refl _)
  by_cases hi : n.fKeys.length ≤ i
  · rw [entB_all hn hi]; exact h1
  · rw [← h2] at h1
    refine Nat.le_trans ?_ h1
    simp only [List.length_append]
    refine Nat.add_le_add_left ?_ _
    unfold entB
    split
    · exact flatMap_take (by omega)
    · exact flatMap_take (by omega)

@[go_sem] def hr183 : Hints
  | 0 => [0] | 1 => [1] | 2 => [1, 3] | 3 => [1] | 4 => [1, 3] | 5 => [1, 3] | 6 => [1, 3, 4] | 7 => [1, 3, 4] | 8 => [1, 3, 4] | 9 => [1, 3, 4] | 10 => [1, 3, 4] | 11 => [1, 3, 4] | 12 => [3] | _ => []
@[go_sem] def hl183 : Hints
  | 6 => [1, 3, 4] | _ => []
attribute [go_sem] Go.Proofs.Tryz.results183
set_option maxRecDepth 100000 in
set_option maxHeartbeats 4000000 in
theorem cs_Bytes (n : GNode) (hn : nodeOk n) : CallOK Go.Proofs.Tryz.prog 183 [.d (.agg n.cells)] [] [.dead] (.d (.str (nodeBytes n))) [] := by
  refine call_of tysZOK mixedZ Go.Proofs.Tryz.func183 (by kernel_rfl) rfl (np := [false]) (by kernel_rfl) hr183 hl183 (by simp [Go.Proofs.Tryz.ntmps183]) ?_
  have hk : n.fKeys.length ≤ 4 := hn.2.1
  have hv1 := varB_len1 (n := n.fKeys.length) (by omega)
  have hkl := hn.2.2.2.1
  simp -implicitDefEqProofs (maxSteps := 3000000) only [go_sem, reduceCtorEq, GNode.cells]
  cases hl : n.fLeaf
  · have hiff := (nodeOk_branch hl).1 hn
    simp -implicitDefEqProofs (maxSteps := 3000000) only [go_sem, reduceCtorEq]
    repeat ((first | refine req (by first | assumption | omega | exact commP_of (by kernel_rfl) | (simp only [LEN, List.length_append, List.length_cons, List.length_nil]; omega) | (simp [D.one]; omega) | (simp [D.one]; done)) ?_ | refine ks_varText n.fKeys.length (by omega) rfl ?_); simp -implicitDefEqProofs (maxSteps := 3000000) only [go_sem, reduceCtorEq])
    have hh : headB n = 98 :: varB n.fKeys.length := by simp [headB, hl]
    refine loop_data (α := Nat) (fun i => ⟨[(1, .ref 0 0), (3, .d (.str (headB n ++ entB n i))), (4, .d (.int .i64 i))], [(0, some (.box [.d (.bool false), .d (.sl (strs n.fKeys)), .d (.sl (strs n.fVals)), .d (.sl (ints n.fKids))]))]⟩)
      (fun i => i ≤ n.fKeys.length) (fun i => n.fKeys.length - i) 0 (by rw [entB_zero, hh]; rfl) (Nat.zero_le _) ?_
    rintro i i1
    have hb := entB_len hn (i := i)
    simp only [List.length_append] at hb
    simp -implicitDefEqProofs (maxSteps := 3000000) only [go_sem, reduceCtorEq]
    (first | (refine way_dec (fun h5 => ?_) (fun h5 => ?_)) | (refine way_ndec (fun h5 => ?_) (fun h5 => ?_)) | (refine wayT_dec (fun h5 => ?_) (fun h5 => ?_)) | (refine wayF_dec (fun h5 => ?_) (fun h5 => ?_)) | (refine wayT_ndec (fun h5 => ?_) (fun h5 => ?_)) | (refine wayF_ndec (fun h5 => ?_) (fun h5 => ?_)) | (refine way_not (fun h5 => ?_) (fun h5 => ?_)) | (refine way (fun h5 => ?_) (fun h5 => ?_)) | (refine wayT (fun h5 => ?_) (fun h5 => ?_)) | (refine wayF (fun h5 => ?_) (fun h5 => ?_)))
    · obtain ⟨p, hp⟩ := some_at h5
      obtain ⟨q, hq⟩ := some_at (l := n.fKids) (i := i) (by omega)
      have hpl := hkl p (List.mem_of_getElem? hp)
      have hql := hiff.2.2.2.2.2.1 q (List.mem_of_getElem? hq)
      have hs := shortB_len hpl
      have hb2 := entB_len hn (i := i + 1)
      rw [entB_branch hl hp hq, ← List.append_assoc, ← List.append_assoc, List.length_append, List.length_append, List.length_append] at hb2
      obtain ⟨q, rfl⟩ := Int.eq_ofNat_of_zero_le (show 0 ≤ q by omega)
      rw [Int.toNat_natCast] at hb2
      simp -implicitDefEqProofs (maxSteps := 3000000) only [go_sem, reduceCtorEq, lget_strs hp, lget_ints hq]
      repeat ((first | refine req (by first | assumption | omega | exact commP_of (by kernel_rfl) | (simp only [LEN, List.length_append, List.length_cons, List.length_nil]; omega) | (simp [D.one]; omega) | (simp [D.one]; done)) ?_ | refine ks_Short p (by omega) rfl ?_ | refine ks_varText q (by omega) rfl ?_); simp -implicitDefEqProofs (maxSteps := 3000000) only [go_sem, reduceCtorEq, lget_strs hp, lget_ints hq])
      rw [wrap_succ (by simp only [LEN]; omega)]
      refine next_data (i + 1) ?_ (by omega) (by omega)
      rw [entB_branch hl hp hq]; simp
    · simp -implicitDefEqProofs (maxSteps := 3000000) only [go_sem, reduceCtorEq]
      rw [entB_all hn (by omega)]
  · have hiff := (nodeOk_leaf hl).1 hn
    simp -implicitDefEqProofs (maxSteps := 3000000) only [go_sem, reduceCtorEq]
    repeat ((first | refine req (by first | assumption | omega | exact commP_of (by kernel_rfl) | (simp only [LEN, List.length_append, List.length_cons, List.length_nil]; omega) | (simp [D.one]; omega) | (simp [D.one]; done)) ?_ | refine ks_varText n.fKeys.length (by omega) rfl ?_); simp -implicitDefEqProofs (maxSteps := 3000000) only [go_sem, reduceCtorEq])
    have hh : headB n = 108 :: varB n.fKeys.length := by simp [headB, hl]
    refine loop_data (α := Nat) (fun i => ⟨[(1, .ref 0 0), (3, .d (.str (headB n ++ entB n i))), (4, .d (.int .i64 i))], [(0, some (.box [.d (.bool true), .d (.sl (strs n.fKeys)), .d (.sl (strs n.fVals)), .d (.sl (ints n.fKids))]))]⟩)
      (fun i => i ≤ n.fKeys.length) (fun i => n.fKeys.length - i) 0 (by rw [entB_zero, hh]; rfl) (Nat.zero_le _) ?_
    rintro i i1
    have hb := entB_len hn (i := i)
    simp only [List.length_append] at hb
    simp -implicitDefEqProofs (maxSteps := 3000000) only [go_sem, reduceCtorEq]
    (first | (refine way_dec (fun h5 => ?_) (fun h5 => ?_)) | (refine way_ndec (fun h5 => ?_) (fun h5 => ?_)) | (refine wayT_dec (fun h5 => ?_) (fun h5 => ?_)) | (refine wayF_dec (fun h5 => ?_) (fun h5 => ?_)) | (refine wayT_ndec (fun h5 => ?_) (fun h5 => ?_)) | (refine wayF_ndec (fun h5 => ?_) (fun h5 => ?_)) | (refine way_not (fun h5 => ?_) (fun h5 => ?_)) | (refine way (fun h5 => ?_) (fun h5 => ?_)) | (refine wayT (fun h5 => ?_) (fun h5 => ?_)) | (refine wayF (fun h5 => ?_) (fun h5 => ?_)))
    · obtain ⟨p, hp⟩ := some_at h5
      obtain ⟨q, hq⟩ := some_at (l := n.fVals) (i := i) (by omega)
      have hpl := hkl p (List.mem_of_getElem? hp)
      have hql := hiff.2.2.2.2.1 q (List.mem_of_getElem? hq)
      have hs := shortB_len hpl
      have hb2 := entB_len hn (i := i + 1)
      rw [entB_leaf hl hp hq, ← List.append_assoc, ← List.append_assoc, List.length_append, List.length_append, List.length_append] at hb2
      simp -implicitDefEqProofs (maxSteps := 3000000) only [go_sem, reduceCtorEq, lget_strs hp, lget_strs hq]
      repeat ((first | refine req (by first | assumption | omega | exact commP_of (by kernel_rfl) | (simp only [LEN, List.length_append, List.length_cons, List.length_nil]; omega) | (simp [D.one]; omega) | (simp [D.one]; done)) ?_ | refine ks_Short p (by omega) rfl ?_ | refine ks_Short q (by omega) rfl ?_); simp -implicitDefEqProofs (maxSteps := 3000000) only [go_sem, reduceCtorEq, lget_strs hp, lget_strs hq])
      rw [wrap_succ (by simp only [LEN]; omega)]
      refine next_data (i + 1) ?_ (by omega) (by omega)
      rw [entB_leaf hl hp hq]; simp
    · simp -implicitDefEqProofs (maxSteps := 3000000) only [go_sem, reduceCtorEq]
      rw [entB_all hn (by omega)]
theorem ks_Bytes {h : Heap} {tb : Nat} {K : OK} {args : List V} {ls : List Nat} (n : GNode) (hn : nodeOk n) (hg : toDs h args = some ([.agg n.cells], ls))
    (hk : K (renV (bk tb ([])) (.d (.str (nodeBytes n)))) (updN tb ([]) ([]))) : callVC Go.Proofs.Tryz.prog h tb 183 args K :=
  call_free hg (cs_Bytes n hn) rfl (.inr ⟨flat_of rfl, flatHB_of rfl⟩) hk

def textV (n : GNode) : V := .tup [.d (.str (if nodeOk n then nodeText n else [])), .d (.bool (decide (nodeOk n)))]
@[go_sem] def hr145 : Hints
  | 0 => [0] | 1 => [1] | 2 => [] | 3 => [1] | _ => []
@[go_sem] def hl145 : Hints := fun _ => []
attribute [go_sem] Go.Proofs.Tryz.results145
set_option maxRecDepth 100000 in
set_option maxHeartbeats 4000000 in
theorem cs_NodeText (n : GNode) (h1 : n.fKeys.length ≤ LEN) (h2 : n.fVals.length ≤ LEN) (h3 : n.fKids.length ≤ LEN) : CallOK Go.Proofs.Tryz.prog 145 [.d (.agg n.cells)] [] [.dead] (textV n) [] := by
  refine call_of tysZOK mixedZ Go.Proofs.Tryz.func145 (by kernel_rfl) rfl (np := [false]) (by kernel_rfl) hr145 hl145 (by simp [Go.Proofs.Tryz.ntmps145]) ?_
  simp -implicitDefEqProofs (maxSteps := 3000000) only [go_sem, reduceCtorEq, GNode.cells]
  refine ks_NodeOk n h1 h2 h3 rfl ?_
  simp -implicitDefEqProofs (maxSteps := 3000000) only [go_sem, reduceCtorEq]
  (first | (refine way_dec (fun h5 => ?_) (fun h5 => ?_)) | (refine way_ndec (fun h5 => ?_) (fun h5 => ?_)) | (refine wayT_dec (fun h5 => ?_) (fun h5 => ?_)) | (refine wayF_dec (fun h5 => ?_) (fun h5 => ?_)) | (refine wayT_ndec (fun h5 => ?_) (fun h5 => ?_)) | (refine wayF_ndec (fun h5 => ?_) (fun h5 => ?_)) | (refine way_not (fun h5 => ?_) (fun h5 => ?_)) | (refine way (fun h5 => ?_) (fun h5 => ?_)) | (refine wayT (fun h5 => ?_) (fun h5 => ?_)) | (refine wayF (fun h5 => ?_) (fun h5 => ?_)))
  · simp -implicitDefEqProofs (maxSteps := 3000000) only [go_sem, reduceCtorEq]
    rw [textV, if_neg h5, decide_eq_false h5]
  · have hb := nodeBytes_len h5
    simp -implicitDefEqProofs (maxSteps := 3000000) only [go_sem, reduceCtorEq]
    refine ks_Bytes n h5 rfl ?_
    simp -implicitDefEqProofs (maxSteps := 3000000) only [go_sem, reduceCtorEq]
    refine ks_Sealed (nodeBytes n) (by omega) rfl ?_
    simp -implicitDefEqProofs (maxSteps := 3000000) only [go_sem, reduceCtorEq]
    rw [textV, if_pos h5, decide_eq_true h5]; rfl
theorem ks_NodeText {h : Heap} {tb : Nat} {K : OK} {args : List V} {ls : List Nat} (n : GNode) (h1 : n.fKeys.length ≤ LEN) (h2 : n.fVals.length ≤ LEN) (h3 : n.fKids.length ≤ LEN) (hg : toDs h args = some ([.agg n.cells], ls))
    (hk : K (renV (bk tb ([])) (textV n)) (updN tb ([]) ([]))) : callVC Go.Proofs.Tryz.prog h tb 145 args K :=
  call_free hg (cs_NodeText n h1 h2 h3) rfl (.inr ⟨flat_of rfl, flatHB_of rfl⟩) hk
end Go.Rx

namespace Go.Rx
open Go
attribute [local irreducible] Req Way WayG Sel callVC CallOK
set_option linter.unusedSimpArgs false
set_option linter.unusedVariables false

@[go_sem] def hr143 : Hints
  | 0 => [0] | 1 => [0] | 2 => [0, 3, 4, 5] | 3 => [0] | 4 => [0] | 5 => [0, 3, 4] | 6 => [0, 3] | _ => []
@[go_sem] def hl143 : Hints := fun _ => []
attribute [go_sem] Go.Proofs.Tryz.results143
set_option maxRecDepth 100000 in
set_option maxHeartbeats 4000000 in
theorem cs_num (t : List UInt8) (r : Nat × Bool) (ht : t.length ≤ 4611686018427387904) : CallOK Go.Proofs.Tryz.prog 143 [.ref 0 0] [(0, .box [.d (.str t), .d (.int .i64 r.1), .d (.bool r.2)])] [.ref 0 0] (.d (.int .i64 (rdV t 1000000000 r).1)) [(0, .box [.d (.str t), .d (.int .i64 (rdV t 1000000000 r).2.1), .d (.bool (rdV t 1000000000 r).2.2)])] := by
  refine call_of tysZOK mixedZ Go.Proofs.Tryz.func143 (by kernel_rfl) rfl (np := [true]) (by kernel_rfl) hr143 hl143 (by simp [Go.Proofs.Tryz.ntmps143]) ?_
  simp -implicitDefEqProofs (maxSteps := 3000000) only [go_sem, reduceCtorEq]
  refine ks_ReadVar t r.1 ht rfl ⟨flat_rvV, flatH_nil⟩ ?_
  rw [rdV]
  obtain ⟨a, b⟩ := r
  cases hv : readVar t (a : Int) with
  | none =>
    simp only [rvV]
    simp -implicitDefEqProofs (maxSteps := 3000000) only [go_sem, reduceCtorEq]
    repeat ((first | refine req (by first | assumption | omega | exact commP_of (by kernel_rfl) | (simp only [LEN, List.length_append, List.length_cons, List.length_nil]; omega) | (simp [D.one]; omega) | (simp [D.one]; done)) ?_); simp -implicitDefEqProofs (maxSteps := 3000000) only [go_sem, reduceCtorEq])
    cases b
    · simp -implicitDefEqProofs (maxSteps := 3000000) only [go_sem, reduceCtorEq]
      rfl
    · simp -implicitDefEqProofs (maxSteps := 3000000) only [go_sem, reduceCtorEq]
      rfl
  | some p =>
    obtain ⟨n, c⟩ := p
    have hb := (readVar_lt hv).1
    simp only [rvV]
    simp -implicitDefEqProofs (maxSteps := 3000000) only [go_sem, reduceCtorEq]
    repeat ((first | refine req (by first | assumption | omega | exact commP_of (by kernel_rfl) | (simp only [LEN, List.length_append, List.length_cons, List.length_nil]; omega) | (simp [D.one]; omega) | (simp [D.one]; done)) ?_); simp -implicitDefEqProofs (maxSteps := 3000000) only [go_sem, reduceCtorEq])
    cases b
    · simp -implicitDefEqProofs (maxSteps := 3000000) only [go_sem, reduceCtorEq]
      rw [if_neg (fun h => h.elim (fun h => by cases h) (by omega))]
    · simp -implicitDefEqProofs (maxSteps := 3000000) only [go_sem, reduceCtorEq]
      simp
theorem ks_num {h : Heap} {tb : Nat} {K : OK} {n0 : Nat} {rest : List V} {ls : List Nat} (t : List UInt8) (r : Nat × Bool) (ht : t.length ≤ 4611686018427387904) (hn : h n0 = some (.box [.d (.str t), .d (.int .i64 r.1), .d (.bool r.2)])) (hro : refO h n0 = [n0]) (hr : toDs h rest = some ([], ls)) (hnl : (ls : List Nat).contains n0 = false)
    (hk : K (renV (bx n0 tb [(0, .box [.d (.str t), .d (.int .i64 (rdV t 1000000000 r).2.1), .d (.bool (rdV t 1000000000 r).2.2)])]) (.d (.int .i64 (rdV t 1000000000 r).1))) ((bif false then (ls : List Nat).map (·, none) else []) ++ (n0, none) :: updX n0 tb [(0, .box [.d (.str t), .d (.int .i64 (rdV t 1000000000 r).2.1), .d (.bool (rdV t 1000000000 r).2.2)])] [(0, .box [.d (.str t), .d (.int .i64 (rdV t 1000000000 r).2.1), .d (.bool (rdV t 1000000000 r).2.2)])])) : callVC Go.Proofs.Tryz.prog h tb 143 (.ref n0 0 :: rest) K :=
  call_box_ false hn hro rfl hr hnl (cs_num t r ht) rfl rfl (.inr (.inr ⟨flat_of rfl, flatHB_of rfl⟩)) hk
@[go_sem] def hr144 : Hints
  | 0 => [0] | 1 => [0] | 2 => [0, 3, 4, 5] | 3 => [0] | 4 => [0] | 5 => [0, 3, 4] | 6 => [0, 3] | _ => []
@[go_sem] def hl144 : Hints := fun _ => []
attribute [go_sem] Go.Proofs.Tryz.results144
set_option maxRecDepth 100000 in
set_option maxHeartbeats 4000000 in
theorem cs_text (t : List UInt8) (r : Nat × Bool) (ht : t.length ≤ 4611686018427387904) : CallOK Go.Proofs.Tryz.prog 144 [.ref 0 0] [(0, .box [.d (.str t), .d (.int .i64 r.1), .d (.bool r.2)])] [.ref 0 0] (.d (.str (rdT t r).1)) [(0, .box [.d (.str t), .d (.int .i64 (rdT t r).2.1), .d (.bool (rdT t r).2.2)])] := by
  refine call_of tysZOK mixedZ Go.Proofs.Tryz.func144 (by kernel_rfl) rfl (np := [true]) (by kernel_rfl) hr144 hl144 (by simp [Go.Proofs.Tryz.ntmps144]) ?_
  simp -implicitDefEqProofs (maxSteps := 3000000) only [go_sem, reduceCtorEq]
  refine ks_ReadShort t r.1 ht rfl ⟨flat_rsV, flatH_nil⟩ ?_
  rw [rdT]
  obtain ⟨a, b⟩ := r
  cases hv : readShort t (a : Int) with
  | none =>
    simp only [rsV]
    simp -implicitDefEqProofs (maxSteps := 3000000) only [go_sem, reduceCtorEq]
    repeat ((first | refine req (by first | assumption | omega | exact commP_of (by kernel_rfl) | (simp only [LEN, List.length_append, List.length_cons, List.length_nil]; omega) | (simp [D.one]; omega) | (simp [D.one]; done)) ?_); simp -implicitDefEqProofs (maxSteps := 3000000) only [go_sem, reduceCtorEq])
    cases b
    · simp -implicitDefEqProofs (maxSteps := 3000000) only [go_sem, reduceCtorEq]
    · simp -implicitDefEqProofs (maxSteps := 3000000) only [go_sem, reduceCtorEq]
  | some p =>
    obtain ⟨n, c⟩ := p
    simp only [rsV]
    simp -implicitDefEqProofs (maxSteps := 3000000) only [go_sem, reduceCtorEq]
    repeat ((first | refine req (by first | assumption | omega | exact commP_of (by kernel_rfl) | (simp only [LEN, List.length_append, List.length_cons, List.length_nil]; omega) | (simp [D.one]; omega) | (simp [D.one]; done)) ?_); simp -implicitDefEqProofs (maxSteps := 3000000) only [go_sem, reduceCtorEq])
    cases b
    · simp -implicitDefEqProofs (maxSteps := 3000000) only [go_sem, reduceCtorEq]
      simp
    · simp -implicitDefEqProofs (maxSteps := 3000000) only [go_sem, reduceCtorEq]
      simp
theorem ks_text {h : Heap} {tb : Nat} {K : OK} {n0 : Nat} {rest : List V} {ls : List Nat} (t : List UInt8) (r : Nat × Bool) (ht : t.length ≤ 4611686018427387904) (hn : h n0 = some (.box [.d (.str t), .d (.int .i64 r.1), .d (.bool r.2)])) (hro : refO h n0 = [n0]) (hr : toDs h rest = some ([], ls)) (hnl : (ls : List Nat).contains n0 = false)
    (hk : K (renV (bx n0 tb [(0, .box [.d (.str t), .d (.int .i64 (rdT t r).2.1), .d (.bool (rdT t r).2.2)])]) (.d (.str (rdT t r).1))) ((bif false then (ls : List Nat).map (·, none) else []) ++ (n0, none) :: updX n0 tb [(0, .box [.d (.str t), .d (.int .i64 (rdT t r).2.1), .d (.bool (rdT t r).2.2)])] [(0, .box [.d (.str t), .d (.int .i64 (rdT t r).2.1), .d (.bool (rdT t r).2.2)])])) : callVC Go.Proofs.Tryz.prog h tb 144 (.ref n0 0 :: rest) K :=
  call_box_ false hn hro rfl hr hnl (cs_text t r ht) rfl rfl (.inr (.inr ⟨flat_of rfl, flatHB_of rfl⟩)) hk

@[go_sem] def hr108 : Hints
  | 0 => [0] | 1 => [0, 2] | 2 => [0, 2, 4, 5] | 3 => [2] | 4 => [0, 2, 4] | 5 => [0, 2, 4, 6] | 6 => [0, 2, 6, 7] | 7 => [0, 2, 6, 7, 8] | 8 => [0, 2, 6, 7, 8, 9] | 9 => [0, 2, 6, 7, 8, 9] | 10 => [0, 2, 6, 7, 8, 9] | 11 => [0, 2, 6, 7, 8, 9] | 12 => [0, 2, 6, 7, 8, 9] | 13 => [0, 2, 6, 7, 8, 9] | 14 => [0, 2, 6, 7] | 15 => [0, 2, 6, 7, 10, 11] | 16 => [2] | 17 => [2, 7] | _ => []
@[go_sem] def hl108 : Hints
  | 8 => [0, 2, 6, 7, 8, 9] | _ => []
attribute [go_sem] Go.Proofs.Tryz.results108
set_option maxRecDepth 100000 in
set_option maxHeartbeats 4000000 in
theorem cs_ReadNode (t : List UInt8) (ht : t.length ≤ 4611686018427387904) : CallOK Go.Proofs.Tryz.prog 108 [.d (.str t)] [] [.dead] (nodeV (readNode t)) [] := by
  refine call_fr tysZOK mixedZ Go.Proofs.Tryz.func108 (by kernel_rfl) rfl (by kernel_rfl) hr108 hl108 (by simp [Go.Proofs.Tryz.ntmps108]) rfl ?_
  simp -implicitDefEqProofs (maxSteps := 3000000) only [go_sem, reduceCtorEq]
  refine ks_Unsealed t ht rfl ⟨flat_unV, flatH_nil⟩ ?_
  cases hu : unsealB t with
  | none =>
    rw [readNode_none hu]
    simp only [unV]
    simp -implicitDefEqProofs (maxSteps := 3000000) only [go_sem, reduceCtorEq]
    rfl
  | some s =>
    have hs : s.length ≤ 20000 := (unseal_iff.1 hu).1
    simp only [unV]
    by_cases hs2 : (s.length : Int) < 2
    · have d2 := decide_eq_true hs2
      rw [readNode_short hu (by omega)]
      simp -implicitDefEqProofs (maxSteps := 3000000) only [go_sem, reduceCtorEq, d2]
      rfl
    · have d2 := decide_eq_false hs2
      match s, hu, hs, hs2, d2 with
      | [], _, _, h, _ => simp at h
      | c :: b, hu, hs, hs2, d2' =>
        have d2 : decide (((b.length + 1 : Nat) : Int) < 2) = false := d2'
        have hg : (c :: b).getD 0 0 = c := rfl
        have hr0 : (decide (((c.toNat : Nat) : Int) = 108)) = decide (c = 108) := decide_eq_decide.2 ⟨fun h => u8_eq.1 ((show c.toNat = 108 by omega).trans rfl), fun h => by subst h; rfl⟩
        rw [loose_eq hu]
        have hst : (1 : Nat) ≤ (c :: b).length := by simp
        have hle1 := rdV_le (t := c :: b) (m := 1000000000) (r := (1, false)) hst
        by_cases hc : c = 108
        · have dc := decide_eq_true hc
          rw [loose_leaf hc]
          simp -implicitDefEqProofs (maxSteps := 3000000) only [go_sem, reduceCtorEq, d2, hg, hr0, dc]
          repeat ((first | refine req (by first | assumption | omega | exact commP_of (by kernel_rfl) | (simp only [LEN, List.length_append, List.length_cons, List.length_nil]; omega) | (simp [D.one]; omega) | (simp [D.one]; done)) ?_ | refine ks_num (c :: b) (1, false) (by omega) rfl rfl rfl rfl ?_); simp -implicitDefEqProofs (maxSteps := 3000000) only [go_sem, reduceCtorEq, d2, hg, hr0, dc])
          generalize hkr : rdV (c :: b) 1000000000 (1, false) = kr at hle1 ⊢
          obtain ⟨k, r1⟩ := kr
          simp only at hle1 ⊢
          refine loop_data (α := Nat × List (List UInt8 × List UInt8) × (Nat × Bool)) (fun x => ⟨[(0, .d (.str t)), (2, .ref 0 0), (6, .ref 4 0), (7, .ref 5 0), (8, .d (.int .i64 k)), (9, .d (.int .i64 x.1))],
              [(0, some (.box [.d (.bool false), .own 1 0 0, .own 2 0 0, .own 3 0 0])), (1, some (.arr 1 [])), (2, some (.arr 1 [])), (3, some (.arr 1 [])),
               (4, some (.box [.d (.str (c :: b)), .d (.int .i64 x.2.2.1), .d (.bool x.2.2.2)])),
               (5, some (.box [.d (.bool true), .own 6 0 (x.2.1.map (·.1)).length, .own 7 0 (x.2.1.map (·.2)).length, .own 8 0 0])), (6, some (.arr 1 (strs (x.2.1.map (·.1))))), (7, some (.arr 1 (strs (x.2.1.map (·.2))))), (8, some (.arr 1 []))]⟩)
            (fun x => x.1 ≤ min k 10 ∧ x.2 = rdLs (c :: b) x.1 r1) (fun x => 10 - x.1) (0, [], r1) rfl ⟨Nat.zero_le _, rfl⟩ ?_
          rintro ⟨i, es, r⟩ ⟨i1, i2⟩
          simp only at i1 i2
          have hlen : es.length = i := by have := rdLs_len (t := c :: b) (k := i) (r := r1); rw [← i2] at this; exact this
          have hbig : r.2 = true → (rdLs (c :: b) (min k 10) r1).2.2 = true := fun h => sfx_none.1 (rdLs_badle hle1 i1 (sfx_none.2 ((congrArg (fun q => q.2.2) i2).symm.trans h)))
          by_cases g1 : (i : Int) < k
          · have d3 := decide_eq_true g1
            by_cases g2 : (i : Int) < 10
            · have d4 := decide_eq_true g2
              cases g3 : r.2
              · simp -implicitDefEqProofs (maxSteps := 3000000) only [go_sem, reduceCtorEq, d3, d4, g3]
                obtain ⟨ra, rb⟩ := r
                simp only at g3
                subst g3
                repeat ((first | refine req (by first | assumption | omega | exact commP_of (by kernel_rfl) | (simp only [LEN, List.length_append, List.length_cons, List.length_nil]; omega) | (simp [D.one]; omega) | (simp [D.one]; done)) ?_ | refine ks_text (c :: b) (ra, false) (by omega) rfl rfl rfl rfl ?_ | refine ks_text (c :: b) (rdT (c :: b) (ra, false)).2 (by omega) rfl rfl rfl rfl ?_); simp -implicitDefEqProofs (maxSteps := 3000000) only [go_sem, reduceCtorEq, d3, d4])
                refine next_data (i + 1, es ++ [(rdL (c :: b) (ra, false)).1], (rdL (c :: b) (ra, false)).2) ?_ ⟨?_, ?_⟩ ?_
                · rw [wrap_succ (by simp only [LEN]; omega)]
                  simp [rdL]
                · simp only; omega
                · simp only; rw [rdLs_snoc, ← i2]
                · simp only; omega
              · have hend : i = min k 10 ∨ r.2 = true := .inr g3
                simp -implicitDefEqProofs (maxSteps := 3000000) only [go_sem, reduceCtorEq, d3, d4, g3]
                refine ks_NodeText (leafOf es) (by simp [leafOf, LEN]; omega) (by simp [leafOf, LEN]; omega) (by simp [leafOf, LEN]) (ls := [6, 7, 8]) (by simp -implicitDefEqProofs (maxSteps := 3000000) only [go_sem, reduceCtorEq]; try rfl) ?_
                simp only [textV]
                simp -implicitDefEqProofs (maxSteps := 3000000) only [go_sem, reduceCtorEq, g3]
                rw [if_pos (hbig g3)]
                rfl
            · have d4 := decide_eq_false g2
              have hend : i = min k 10 ∨ r.2 = true := .inl (by omega)
              simp -implicitDefEqProofs (maxSteps := 3000000) only [go_sem, reduceCtorEq, d3, d4]
              refine ks_NodeText (leafOf es) (by simp [leafOf, LEN]; omega) (by simp [leafOf, LEN]; omega) (by simp [leafOf, LEN]) (ls := [6, 7, 8]) (by simp -implicitDefEqProofs (maxSteps := 3000000) only [go_sem, reduceCtorEq]; try rfl) ?_
              simp only [textV]
              simp -implicitDefEqProofs (maxSteps := 3000000) only [go_sem, reduceCtorEq]
              cases hb : r.2
              · have hfin := hend.resolve_right (by rw [hb]; simp)
                rw [← hfin, ← i2, if_neg (c := r.2 = true) (by simp [hb])]
                by_cases hn : nodeOk (leafOf es)
                · have dn := decide_eq_true hn
                  rw [if_pos hn]
                  by_cases ht' : nodeText (leafOf es) = t
                  · have dt := decide_eq_true ht'
                    simp -implicitDefEqProofs (maxSteps := 3000000) only [go_sem, reduceCtorEq, dn, dt]
                    try simp only
                    rw [if_pos ⟨hn, ht'⟩]; rfl
                  · have dt := decide_eq_false ht'
                    simp -implicitDefEqProofs (maxSteps := 3000000) only [go_sem, reduceCtorEq, dn, dt]
                    try simp only
                    rw [if_neg (fun h => ht' h.2)]; rfl
                · have dn := decide_eq_false hn
                  simp -implicitDefEqProofs (maxSteps := 3000000) only [go_sem, reduceCtorEq, dn]
                  try simp only
                  rw [if_neg (fun h => hn h.1)]; rfl
              · rw [if_pos (hbig hb)]
                simp -implicitDefEqProofs (maxSteps := 3000000) only [go_sem, reduceCtorEq]
                rfl
          · have d3 := decide_eq_false g1
            have hend : i = min k 10 ∨ r.2 = true := .inl (by omega)
            simp -implicitDefEqProofs (maxSteps := 3000000) only [go_sem, reduceCtorEq, d3]
            refine ks_NodeText (leafOf es) (by simp [leafOf, LEN]; omega) (by simp [leafOf, LEN]; omega) (by simp [leafOf, LEN]) (ls := [6, 7, 8]) (by simp -implicitDefEqProofs (maxSteps := 3000000) only [go_sem, reduceCtorEq]; try rfl) ?_
            simp only [textV]
            simp -implicitDefEqProofs (maxSteps := 3000000) only [go_sem, reduceCtorEq]
            cases hb : r.2
            · have hfin := hend.resolve_right (by rw [hb]; simp)
              rw [← hfin, ← i2, if_neg (c := r.2 = true) (by simp [hb])]
              by_cases hn : nodeOk (leafOf es)
              · have dn := decide_eq_true hn
                rw [if_pos hn]
                by_cases ht' : nodeText (leafOf es) = t
                · have dt := decide_eq_true ht'
                  simp -implicitDefEqProofs (maxSteps := 3000000) only [go_sem, reduceCtorEq, dn, dt]
                  try simp only
                  rw [if_pos ⟨hn, ht'⟩]; rfl
                · have dt := decide_eq_false ht'
                  simp -implicitDefEqProofs (maxSteps := 3000000) only [go_sem, reduceCtorEq, dn, dt]
                  try simp only
                  rw [if_neg (fun h => ht' h.2)]; rfl
              · have dn := decide_eq_false hn
                simp -implicitDefEqProofs (maxSteps := 3000000) only [go_sem, reduceCtorEq, dn]
                try simp only
                rw [if_neg (fun h => hn h.1)]; rfl
            · rw [if_pos (hbig hb)]
              simp -implicitDefEqProofs (maxSteps := 3000000) only [go_sem, reduceCtorEq]
              rfl
        · have dc := decide_eq_false hc
          rw [loose_branch hc]
          simp -implicitDefEqProofs (maxSteps := 3000000) only [go_sem, reduceCtorEq, d2, hg, hr0, dc]
          repeat ((first | refine req (by first | assumption | omega | exact commP_of (by kernel_rfl) | (simp only [LEN, List.length_append, List.length_cons, List.length_nil]; omega) | (simp [D.one]; omega) | (simp [D.one]; done)) ?_ | refine ks_num (c :: b) (1, false) (by omega) rfl rfl rfl rfl ?_); simp -implicitDefEqProofs (maxSteps := 3000000) only [go_sem, reduceCtorEq, d2, hg, hr0, dc])
          generalize hkr : rdV (c :: b) 1000000000 (1, false) = kr at hle1 ⊢
          obtain ⟨k, r1⟩ := kr
          simp only at hle1 ⊢
          refine loop_data (α := Nat × List (List UInt8 × Int) × (Nat × Bool)) (fun x => ⟨[(0, .d (.str t)), (2, .ref 0 0), (6, .ref 4 0), (7, .ref 5 0), (8, .d (.int .i64 k)), (9, .d (.int .i64 x.1))],
              [(0, some (.box [.d (.bool false), .own 1 0 0, .own 2 0 0, .own 3 0 0])), (1, some (.arr 1 [])), (2, some (.arr 1 [])), (3, some (.arr 1 [])),
               (4, some (.box [.d (.str (c :: b)), .d (.int .i64 x.2.2.1), .d (.bool x.2.2.2)])),
               (5, some (.box [.d (.bool false), .own 6 0 (x.2.1.map (·.1)).length, .own 7 0 0, .own 8 0 (x.2.1.map (·.2)).length])), (6, some (.arr 1 (strs (x.2.1.map (·.1))))), (7, some (.arr 1 [])), (8, some (.arr 1 (ints (x.2.1.map (·.2)))))]⟩)
            (fun x => x.1 ≤ min k 10 ∧ x.2 = rdBs (c :: b) 1000000000 x.1 r1) (fun x => 10 - x.1) (0, [], r1) rfl ⟨Nat.zero_le _, rfl⟩ ?_
          rintro ⟨i, es, r⟩ ⟨i1, i2⟩
          simp only at i1 i2
          have hlen : es.length = i := by have := rdBs_len (t := c :: b) (most := 1000000000) (k := i) (r := r1); rw [← i2] at this; exact this
          have hbig : r.2 = true → (rdBs (c :: b) 1000000000 (min k 10) r1).2.2 = true := fun h => sfx_none.1 (rdBs_badle (most := 1000000000) hle1 i1 (sfx_none.2 ((congrArg (fun q => q.2.2) i2).symm.trans h)))
          by_cases g1 : (i : Int) < k
          · have d3 := decide_eq_true g1
            by_cases g2 : (i : Int) < 10
            · have d4 := decide_eq_true g2
              cases g3 : r.2
              · simp -implicitDefEqProofs (maxSteps := 3000000) only [go_sem, reduceCtorEq, d3, d4, g3]
                obtain ⟨ra, rb⟩ := r
                simp only at g3
                subst g3
                repeat ((first | refine req (by first | assumption | omega | exact commP_of (by kernel_rfl) | (simp only [LEN, List.length_append, List.length_cons, List.length_nil]; omega) | (simp [D.one]; omega) | (simp [D.one]; done)) ?_ | refine ks_text (c :: b) (ra, false) (by omega) rfl rfl rfl rfl ?_ | refine ks_num (c :: b) (rdT (c :: b) (ra, false)).2 (by omega) rfl rfl rfl rfl ?_); simp -implicitDefEqProofs (maxSteps := 3000000) only [go_sem, reduceCtorEq, d3, d4])
                refine next_data (i + 1, es ++ [(rdB (c :: b) 1000000000 (ra, false)).1], (rdB (c :: b) 1000000000 (ra, false)).2) ?_ ⟨?_, ?_⟩ ?_
                · rw [wrap_succ (by simp only [LEN]; omega)]
                  simp [rdB]
                · simp only; omega
                · simp only; rw [rdBs_snoc, ← i2]
                · simp only; omega
              · have hend : i = min k 10 ∨ r.2 = true := .inr g3
                simp -implicitDefEqProofs (maxSteps := 3000000) only [go_sem, reduceCtorEq, d3, d4, g3]
                refine ks_NodeText (branchOf es) (by simp [branchOf, LEN]; omega) (by simp [branchOf, LEN]) (by simp [branchOf, LEN]; omega) (ls := [6, 7, 8]) (by simp -implicitDefEqProofs (maxSteps := 3000000) only [go_sem, reduceCtorEq]; try rfl) ?_
                simp only [textV]
                simp -implicitDefEqProofs (maxSteps := 3000000) only [go_sem, reduceCtorEq, g3]
                rw [if_pos (hbig g3)]
                rfl
            · have d4 := decide_eq_false g2
              have hend : i = min k 10 ∨ r.2 = true := .inl (by omega)
              simp -implicitDefEqProofs (maxSteps := 3000000) only [go_sem, reduceCtorEq, d3, d4]
              refine ks_NodeText (branchOf es) (by simp [branchOf, LEN]; omega) (by simp [branchOf, LEN]) (by simp [branchOf, LEN]; omega) (ls := [6, 7, 8]) (by simp -implicitDefEqProofs (maxSteps := 3000000) only [go_sem, reduceCtorEq]; try rfl) ?_
              simp only [textV]
              simp -implicitDefEqProofs (maxSteps := 3000000) only [go_sem, reduceCtorEq]
              cases hb : r.2
              · have hfin := hend.resolve_right (by rw [hb]; simp)
                rw [← hfin, ← i2, if_neg (c := r.2 = true) (by simp [hb])]
                by_cases hn : nodeOk (branchOf es)
                · have dn := decide_eq_true hn
                  rw [if_pos hn]
                  by_cases ht' : nodeText (branchOf es) = t
                  · have dt := decide_eq_true ht'
                    simp -implicitDefEqProofs (maxSteps := 3000000) only [go_sem, reduceCtorEq, dn, dt]
                    try simp only
                    rw [if_pos ⟨hn, ht'⟩]; rfl
                  · have dt := decide_eq_false ht'
                    simp -implicitDefEqProofs (maxSteps := 3000000) only [go_sem, reduceCtorEq, dn, dt]
                    try simp only
                    rw [if_neg (fun h => ht' h.2)]; rfl
                · have dn := decide_eq_false hn
                  simp -implicitDefEqProofs (maxSteps := 3000000) only [go_sem, reduceCtorEq, dn]
                  try simp only
                  rw [if_neg (fun h => hn h.1)]; rfl
              · rw [if_pos (hbig hb)]
                simp -implicitDefEqProofs (maxSteps := 3000000) only [go_sem, reduceCtorEq]
                rfl
          · have d3 := decide_eq_false g1
            have hend : i = min k 10 ∨ r.2 = true := .inl (by omega)
            simp -implicitDefEqProofs (maxSteps := 3000000) only [go_sem, reduceCtorEq, d3]
            refine ks_NodeText (branchOf es) (by simp [branchOf, LEN]; omega) (by simp [branchOf, LEN]) (by simp [branchOf, LEN]; omega) (ls := [6, 7, 8]) (by simp -implicitDefEqProofs (maxSteps := 3000000) only [go_sem, reduceCtorEq]; try rfl) ?_
            simp only [textV]
            simp -implicitDefEqProofs (maxSteps := 3000000) only [go_sem, reduceCtorEq]
            cases hb : r.2
            · have hfin := hend.resolve_right (by rw [hb]; simp)
              rw [← hfin, ← i2, if_neg (c := r.2 = true) (by simp [hb])]
              by_cases hn : nodeOk (branchOf es)
              · have dn := decide_eq_true hn
                rw [if_pos hn]
                by_cases ht' : nodeText (branchOf es) = t
                · have dt := decide_eq_true ht'
                  simp -implicitDefEqProofs (maxSteps := 3000000) only [go_sem, reduceCtorEq, dn, dt]
                  try simp only
                  rw [if_pos ⟨hn, ht'⟩]; rfl
                · have dt := decide_eq_false ht'
                  simp -implicitDefEqProofs (maxSteps := 3000000) only [go_sem, reduceCtorEq, dn, dt]
                  try simp only
                  rw [if_neg (fun h => ht' h.2)]; rfl
              · have dn := decide_eq_false hn
                simp -implicitDefEqProofs (maxSteps := 3000000) only [go_sem, reduceCtorEq, dn]
                try simp only
                rw [if_neg (fun h => hn h.1)]; rfl
            · rw [if_pos (hbig hb)]
              simp -implicitDefEqProofs (maxSteps := 3000000) only [go_sem, reduceCtorEq]
              rfl
theorem ks_ReadNode {h : Heap} {tb : Nat} {K : OK} {args : List V} (t : List UInt8) (ht : t.length ≤ 4611686018427387904) (hg : toDs h args = some ([.str t], []))
    (hk : K (renV (bk tb ([])) (nodeV (readNode t))) (updN tb ([]) ([]))) : callVC Go.Proofs.Tryz.prog h tb 108 args K :=
  call_free hg (cs_ReadNode t ht) rfl (.inl rfl) hk
end Go.Rx

namespace Go.Rx
open Go
attribute [local irreducible] Req Way WayG Sel callVC CallOK
set_option linter.unusedSimpArgs false
set_option linter.unusedVariables false

theorem late_step {l : List GPut} {i : Nat} {q : GPut} {p : Int} (h : l[i]? = some q) : lateText (l.take (i + 1)) p = if q.fPage = p then some q.fText else lateText (l.take i) p := by
  rw [take_snoc h, lateText_snoc]

@[go_sem] def hr135 : Hints
  | 0 => [0, 1] | 1 => [1, 2] | _ => []
@[go_sem] def hl135 : Hints := fun _ => []
attribute [go_sem] Go.Proofs.Tryz.results135
set_option maxRecDepth 100000 in
set_option maxHeartbeats 4000000 in
theorem ci_isPage (d : GDisk) (p : Int) (h1 : d.fPages.length ≤ 4611686018427387904) : CallOK Go.Proofs.Tryz.prog 135 [.d (.agg d.cells), .d (.int .i64 p)] [] [.dead, .dead] (.d (.bool (decide (isPage d p)))) [] := by
  refine call_of tysZOK mixedZ Go.Proofs.Tryz.func135 (by kernel_rfl) rfl (np := [false, false]) (by kernel_rfl) hr135 hl135 (by simp [Go.Proofs.Tryz.ntmps135]) ?_
  have e1 : IntKind.i64.wrap ((d.fPages.length : Int) - 1) = (d.fPages.length : Int) - 1 := wrap_int (by omega) (by omega)
  simp -implicitDefEqProofs (maxSteps := 3000000) only [go_sem, reduceCtorEq, GDisk.cells, e1]
  refine ki_in p 0 ((d.fPages.length : Int) - 1) rfl ?_
  simp -implicitDefEqProofs (maxSteps := 3000000) only [go_sem, reduceCtorEq]
  rfl
theorem ki_isPage {h : Heap} {tb : Nat} {K : OK} {args : List V} {ls : List Nat} (d : GDisk) (p : Int) (h1 : d.fPages.length ≤ 4611686018427387904) (hg : toDs h args = some ([.agg d.cells, .int .i64 p], ls))
    (hk : K (renV (bk tb ([])) (.d (.bool (decide (isPage d p))))) (updN tb ([]) ([]))) : callVC Go.Proofs.Tryz.prog h tb 135 args K :=
  call_free hg (ci_isPage d p h1) rfl (.inr ⟨flat_of rfl, flatHB_of rfl⟩) hk
@[go_sem] def hr102 : Hints
  | 0 => [0, 1] | 1 => [1, 2] | 2 => [] | 3 => [1, 2] | 4 => [1, 2, 5] | 5 => [1, 2, 5] | 6 => [1, 2, 5] | 7 => [2, 5] | 8 => [1, 2] | _ => []
@[go_sem] def hl102 : Hints
  | 4 => [1, 2, 5] | _ => []
attribute [go_sem] Go.Proofs.Tryz.results102
set_option maxRecDepth 100000 in
set_option maxHeartbeats 4000000 in
theorem ci_ReadPage (d : GDisk) (p : Int) (h1 : d.fPages.length ≤ 4611686018427387904) (h2 : d.fLate.length ≤ 4611686018427387904) : CallOK Go.Proofs.Tryz.prog 102 [.d (.agg d.cells), .d (.int .i64 p)] [] [.dead, .dead] (.d (.str (readPage d p))) [] := by
  refine call_of tysZOK mixedZ Go.Proofs.Tryz.func102 (by kernel_rfl) rfl (np := [false, false]) (by kernel_rfl) hr102 hl102 (by simp [Go.Proofs.Tryz.ntmps102]) ?_
  have e1 : IntKind.i64.wrap ((d.fLate.length : Int) - 1) = (d.fLate.length : Int) - 1 := wrap_int (by omega) (by omega)
  simp -implicitDefEqProofs (maxSteps := 3000000) only [go_sem, reduceCtorEq, GDisk.cells]
  refine ki_isPage d p h1 rfl ?_
  by_cases hp : isPage d p
  · have dp := decide_eq_true hp
    have hp' := hp
    obtain ⟨hp1, hp2⟩ := hp'
    simp -implicitDefEqProofs (maxSteps := 3000000) only [go_sem, reduceCtorEq, dp, e1]
    refine loop_data (α := Int) (fun x => ⟨[(1, .d (.int .i64 p)), (2, .ref 0 0), (5, .d (.int .i64 x))], [(0, some (.box [.d (.sl (strs d.fPages)), .d (.sl (GPutS d.fLate))]))]⟩)
      (fun x => -1 ≤ x ∧ x < d.fLate.length ∧ lateText (d.fLate.take (x + 1).toNat) p = lateText d.fLate p) (fun x => (x + 1).toNat) ((d.fLate.length : Int) - 1) rfl ⟨by omega, by omega, ?_⟩ ?_
    · rw [List.take_of_length_le (by omega)]
    rintro x ⟨x1, x2, x3⟩
    simp -implicitDefEqProofs (maxSteps := 3000000) only [go_sem, reduceCtorEq]
    (first | (refine way_dec (fun h5 => ?_) (fun h5 => ?_)) | (refine way_ndec (fun h5 => ?_) (fun h5 => ?_)) | (refine wayT_dec (fun h5 => ?_) (fun h5 => ?_)) | (refine wayF_dec (fun h5 => ?_) (fun h5 => ?_)) | (refine wayT_ndec (fun h5 => ?_) (fun h5 => ?_)) | (refine wayF_ndec (fun h5 => ?_) (fun h5 => ?_)) | (refine way_not (fun h5 => ?_) (fun h5 => ?_)) | (refine way (fun h5 => ?_) (fun h5 => ?_)) | (refine wayT (fun h5 => ?_) (fun h5 => ?_)) | (refine wayF (fun h5 => ?_) (fun h5 => ?_)))
    · obtain ⟨i, rfl⟩ := Int.eq_ofNat_of_zero_le h5
      obtain ⟨q, hq⟩ := some_at (l := d.fLate) (i := i) (by omega)
      have e2 : ((i : Int) + 1).toNat = i + 1 := by omega
      rw [e2, late_step hq] at x3
      have e3 : IntKind.i64.wrap ((i : Int) - 1) = (i : Int) - 1 := wrap_int (by omega) (by omega)
      simp -implicitDefEqProofs (maxSteps := 3000000) only [go_sem, reduceCtorEq, lget_GPutS hq, e3]
      repeat ((first | refine req (by first | assumption | omega | exact commP_of (by kernel_rfl) | (simp only [LEN, List.length_append, List.length_cons, List.length_nil]; omega) | (simp [D.one]; omega) | (simp [D.one]; done)) ?_); simp -implicitDefEqProofs (maxSteps := 3000000) only [go_sem, reduceCtorEq, lget_GPutS hq, e3])
      (first | (refine way_dec (fun h6 => ?_) (fun h6 => ?_)) | (refine way_ndec (fun h6 => ?_) (fun h6 => ?_)) | (refine wayT_dec (fun h6 => ?_) (fun h6 => ?_)) | (refine wayF_dec (fun h6 => ?_) (fun h6 => ?_)) | (refine wayT_ndec (fun h6 => ?_) (fun h6 => ?_)) | (refine wayF_ndec (fun h6 => ?_) (fun h6 => ?_)) | (refine way_not (fun h6 => ?_) (fun h6 => ?_)) | (refine way (fun h6 => ?_) (fun h6 => ?_)) | (refine wayT (fun h6 => ?_) (fun h6 => ?_)) | (refine wayF (fun h6 => ?_) (fun h6 => ?_)))
      · simp -implicitDefEqProofs (maxSteps := 3000000) only [go_sem, reduceCtorEq, lget_GPutS hq]
        repeat ((first | refine req (by first | assumption | omega | exact commP_of (by kernel_rfl) | (simp only [LEN, List.length_append, List.length_cons, List.length_nil]; omega) | (simp [D.one]; omega) | (simp [D.one]; done)) ?_); simp -implicitDefEqProofs (maxSteps := 3000000) only [go_sem, reduceCtorEq, lget_GPutS hq])
        rw [if_pos h6] at x3
        rw [readPage, if_pos hp, ← x3]; rfl
      · simp -implicitDefEqProofs (maxSteps := 3000000) only [go_sem, reduceCtorEq]
        rw [if_neg h6] at x3
        refine next_data ((i : Int) - 1) (by rw [e3]) ⟨by omega, by omega, ?_⟩ (by omega)
        have e4 : ((i : Int) - 1 + 1).toNat = i := by omega
        rw [e4]; exact x3
    · obtain rfl : x = -1 := by omega
      obtain ⟨s, hs⟩ := some_at (l := d.fPages) (i := p.toNat) (by omega)
      simp -implicitDefEqProofs (maxSteps := 3000000) only [go_sem, reduceCtorEq, lget_strs hs]
      repeat ((first | refine req (by first | assumption | omega | exact commP_of (by kernel_rfl) | (simp only [LEN, List.length_append, List.length_cons, List.length_nil]; omega) | (simp [D.one]; omega) | (simp [D.one]; done)) ?_); simp -implicitDefEqProofs (maxSteps := 3000000) only [go_sem, reduceCtorEq, lget_strs hs])
      have e4 : ((-1 : Int) + 1).toNat = 0 := rfl
      rw [e4, List.take_zero, lateText_nil] at x3
      rw [readPage, if_pos hp, ← x3, Option.getD_none, getD_some hs]
  · have dp := decide_eq_false hp
    simp -implicitDefEqProofs (maxSteps := 3000000) only [go_sem, reduceCtorEq, dp]
    rw [readPage, if_neg hp]
theorem ki_ReadPage {h : Heap} {tb : Nat} {K : OK} {args : List V} {ls : List Nat} (d : GDisk) (p : Int) (h1 : d.fPages.length ≤ 4611686018427387904) (h2 : d.fLate.length ≤ 4611686018427387904) (hg : toDs h args = some ([.agg d.cells, .int .i64 p], ls))
    (hk : K (renV (bk tb ([])) (.d (.str (readPage d p)))) (updN tb ([]) ([]))) : callVC Go.Proofs.Tryz.prog h tb 102 args K :=
  call_free hg (ci_ReadPage d p h1 h2) rfl (.inr ⟨flat_of rfl, flatHB_of rfl⟩) hk
@[go_sem] def hr109 : Hints
  | 0 => [0, 1] | 1 => [1, 2] | 2 => [] | 3 => [1, 2] | 4 => [1, 2, 5] | 5 => [1, 2, 5] | 6 => [1, 2, 5] | 7 => [2, 5] | 8 => [1, 2] | _ => []
@[go_sem] def hl109 : Hints
  | 4 => [1, 2, 5] | _ => []
attribute [go_sem] Go.Proofs.Tryz.results109
set_option maxRecDepth 100000 in
set_option maxHeartbeats 4000000 in
theorem cs_ReadPage (d : GDisk) (p : Int) (h1 : d.fPages.length ≤ 4611686018427387904) (h2 : d.fLate.length ≤ 4611686018427387904) : CallOK Go.Proofs.Tryz.prog 109 [.d (.agg d.cells), .d (.int .i64 p)] [] [.dead, .dead] (.d (.str (readPage d p))) [] := by
  refine call_of tysZOK mixedZ Go.Proofs.Tryz.func109 (by kernel_rfl) rfl (np := [false, false]) (by kernel_rfl) hr109 hl109 (by simp [Go.Proofs.Tryz.ntmps109]) ?_
  have e1 : IntKind.i64.wrap ((d.fLate.length : Int) - 1) = (d.fLate.length : Int) - 1 := wrap_int (by omega) (by omega)
  have e0 : IntKind.i64.wrap ((d.fPages.length : Int) - 1) = (d.fPages.length : Int) - 1 := wrap_int (by omega) (by omega)
  simp -implicitDefEqProofs (maxSteps := 3000000) only [go_sem, reduceCtorEq, GDisk.cells, e0]
  refine ks_in p 0 ((d.fPages.length : Int) - 1) rfl ?_
  by_cases hp : isPage d p
  · have dp : decide (0 ≤ p ∧ p ≤ (d.fPages.length : Int) - 1) = true := decide_eq_true hp
    have hp' := hp
    obtain ⟨hp1, hp2⟩ := hp'
    simp -implicitDefEqProofs (maxSteps := 3000000) only [go_sem, reduceCtorEq, dp, e1]
    refine loop_data (α := Int) (fun x => ⟨[(1, .d (.int .i64 p)), (2, .ref 0 0), (5, .d (.int .i64 x))], [(0, some (.box [.d (.sl (strs d.fPages)), .d (.sl (GPutS d.fLate))]))]⟩)
      (fun x => -1 ≤ x ∧ x < d.fLate.length ∧ lateText (d.fLate.take (x + 1).toNat) p = lateText d.fLate p) (fun x => (x + 1).toNat) ((d.fLate.length : Int) - 1) rfl ⟨by omega, by omega, ?_⟩ ?_
    · rw [List.take_of_length_le (by omega)]
    rintro x ⟨x1, x2, x3⟩
    simp -implicitDefEqProofs (maxSteps := 3000000) only [go_sem, reduceCtorEq]
    (first | (refine way_dec (fun h5 => ?_) (fun h5 => ?_)) | (refine way_ndec (fun h5 => ?_) (fun h5 => ?_)) | (refine wayT_dec (fun h5 => ?_) (fun h5 => ?_)) | (refine wayF_dec (fun h5 => ?_) (fun h5 => ?_)) | (refine wayT_ndec (fun h5 => ?_) (fun h5 => ?_)) | (refine wayF_ndec (fun h5 => ?_) (fun h5 => ?_)) | (refine way_not (fun h5 => ?_) (fun h5 => ?_)) | (refine way (fun h5 => ?_) (fun h5 => ?_)) | (refine wayT (fun h5 => ?_) (fun h5 => ?_)) | (refine wayF (fun h5 => ?_) (fun h5 => ?_)))
    · obtain ⟨i, rfl⟩ := Int.eq_ofNat_of_zero_le h5
      obtain ⟨q, hq⟩ := some_at (l := d.fLate) (i := i) (by omega)
      have e2 : ((i : Int) + 1).toNat = i + 1 := by omega
      rw [e2, late_step hq] at x3
      have e3 : IntKind.i64.wrap ((i : Int) - 1) = (i : Int) - 1 := wrap_int (by omega) (by omega)
      simp -implicitDefEqProofs (maxSteps := 3000000) only [go_sem, reduceCtorEq, lget_GPutS hq, e3]
      repeat ((first | refine req (by first | assumption | omega | exact commP_of (by kernel_rfl) | (simp only [LEN, List.length_append, List.length_cons, List.length_nil]; omega) | (simp [D.one]; omega) | (simp [D.one]; done)) ?_); simp -implicitDefEqProofs (maxSteps := 3000000) only [go_sem, reduceCtorEq, lget_GPutS hq, e3])
      (first | (refine way_dec (fun h6 => ?_) (fun h6 => ?_)) | (refine way_ndec (fun h6 => ?_) (fun h6 => ?_)) | (refine wayT_dec (fun h6 => ?_) (fun h6 => ?_)) | (refine wayF_dec (fun h6 => ?_) (fun h6 => ?_)) | (refine wayT_ndec (fun h6 => ?_) (fun h6 => ?_)) | (refine wayF_ndec (fun h6 => ?_) (fun h6 => ?_)) | (refine way_not (fun h6 => ?_) (fun h6 => ?_)) | (refine way (fun h6 => ?_) (fun h6 => ?_)) | (refine wayT (fun h6 => ?_) (fun h6 => ?_)) | (refine wayF (fun h6 => ?_) (fun h6 => ?_)))
      · simp -implicitDefEqProofs (maxSteps := 3000000) only [go_sem, reduceCtorEq, lget_GPutS hq]
        repeat ((first | refine req (by first | assumption | omega | exact commP_of (by kernel_rfl) | (simp only [LEN, List.length_append, List.length_cons, List.length_nil]; omega) | (simp [D.one]; omega) | (simp [D.one]; done)) ?_); simp -implicitDefEqProofs (maxSteps := 3000000) only [go_sem, reduceCtorEq, lget_GPutS hq])
        rw [if_pos h6] at x3
        rw [readPage, if_pos hp, ← x3]; rfl
      · simp -implicitDefEqProofs (maxSteps := 3000000) only [go_sem, reduceCtorEq]
        rw [if_neg h6] at x3
        refine next_data ((i : Int) - 1) (by rw [e3]) ⟨by omega, by omega, ?_⟩ (by omega)
        have e4 : ((i : Int) - 1 + 1).toNat = i := by omega
        rw [e4]; exact x3
    · obtain rfl : x = -1 := by omega
      obtain ⟨s, hs⟩ := some_at (l := d.fPages) (i := p.toNat) (by omega)
      simp -implicitDefEqProofs (maxSteps := 3000000) only [go_sem, reduceCtorEq, lget_strs hs]
      repeat ((first | refine req (by first | assumption | omega | exact commP_of (by kernel_rfl) | (simp only [LEN, List.length_append, List.length_cons, List.length_nil]; omega) | (simp [D.one]; omega) | (simp [D.one]; done)) ?_); simp -implicitDefEqProofs (maxSteps := 3000000) only [go_sem, reduceCtorEq, lget_strs hs])
      have e4 : ((-1 : Int) + 1).toNat = 0 := rfl
      rw [e4, List.take_zero, lateText_nil] at x3
      rw [readPage, if_pos hp, ← x3, Option.getD_none, getD_some hs]
  · have dp : decide (0 ≤ p ∧ p ≤ (d.fPages.length : Int) - 1) = false := decide_eq_false hp
    simp -implicitDefEqProofs (maxSteps := 3000000) only [go_sem, reduceCtorEq, dp]
    rw [readPage, if_neg hp]
theorem ks_ReadPage {h : Heap} {tb : Nat} {K : OK} {args : List V} {ls : List Nat} (d : GDisk) (p : Int) (h1 : d.fPages.length ≤ 4611686018427387904) (h2 : d.fLate.length ≤ 4611686018427387904) (hg : toDs h args = some ([.agg d.cells, .int .i64 p], ls))
    (hk : K (renV (bk tb ([])) (.d (.str (readPage d p)))) (updN tb ([]) ([]))) : callVC Go.Proofs.Tryz.prog h tb 109 args K :=
  call_free hg (cs_ReadPage d p h1 h2) rfl (.inr ⟨flat_of rfl, flatHB_of rfl⟩) hk

@[go_sem] def hr110 : Hints
  | 0 => [0, 1] | 1 => [0, 1] | 2 => [0, 1, 5] | 3 => [0, 1, 5] | 4 => [0, 1, 5] | 5 => [] | 6 => [] | _ => []
@[go_sem] def hl110 : Hints
  | 2 => [0, 1, 5] | _ => []
attribute [go_sem] Go.Proofs.Tryz.results110
set_option maxRecDepth 100000 in
set_option maxHeartbeats 4000000 in
theorem cs_In (l : List Int) (x : Int) (hl : l.length ≤ LEN) : CallOK Go.Proofs.Tryz.prog 110 [.d (.sl (ints l)), .d (.int .i64 x)] [] [.dead, .dead] (.d (.bool (decide (x ∈ l)))) [] := by
  refine call_of tysZOK mixedZ Go.Proofs.Tryz.func110 (by kernel_rfl) rfl (np := [false, false]) (by kernel_rfl) hr110 hl110 (by simp [Go.Proofs.Tryz.ntmps110]) ?_
  simp -implicitDefEqProofs (maxSteps := 3000000) only [go_sem, reduceCtorEq]
  refine loop_data (α := Nat) (fun i => ⟨[(0, .d (.sl (ints l))), (1, .d (.int .i64 x)), (5, .d (.int .i64 i))], []⟩)
    (fun i => i ≤ l.length ∧ x ∉ l.take i) (fun i => l.length - i) 0 rfl ⟨Nat.zero_le _, by simp⟩ ?_
  rintro i ⟨h2, h3⟩
  simp -implicitDefEqProofs (maxSteps := 3000000) only [go_sem, reduceCtorEq]
  (first | (refine way_dec (fun h5 => ?_) (fun h5 => ?_)) | (refine way_ndec (fun h5 => ?_) (fun h5 => ?_)) | (refine wayT_dec (fun h5 => ?_) (fun h5 => ?_)) | (refine wayF_dec (fun h5 => ?_) (fun h5 => ?_)) | (refine wayT_ndec (fun h5 => ?_) (fun h5 => ?_)) | (refine wayF_ndec (fun h5 => ?_) (fun h5 => ?_)) | (refine way_not (fun h5 => ?_) (fun h5 => ?_)) | (refine way (fun h5 => ?_) (fun h5 => ?_)) | (refine wayT (fun h5 => ?_) (fun h5 => ?_)) | (refine wayF (fun h5 => ?_) (fun h5 => ?_)))
  · obtain ⟨p, hp⟩ := some_at h5
    simp -implicitDefEqProofs (maxSteps := 3000000) only [go_sem, reduceCtorEq, lget_ints hp]
    repeat ((first | refine req (by first | assumption | omega | exact commP_of (by kernel_rfl) | (simp only [LEN, List.length_append, List.length_cons, List.length_nil]; omega) | (simp [D.one]; omega) | (simp [D.one]; done)) ?_); simp -implicitDefEqProofs (maxSteps := 3000000) only [go_sem, reduceCtorEq, lget_ints hp])
    (first | (refine way_dec (fun h6 => ?_) (fun h6 => ?_)) | (refine way_ndec (fun h6 => ?_) (fun h6 => ?_)) | (refine wayT_dec (fun h6 => ?_) (fun h6 => ?_)) | (refine wayF_dec (fun h6 => ?_) (fun h6 => ?_)) | (refine wayT_ndec (fun h6 => ?_) (fun h6 => ?_)) | (refine wayF_ndec (fun h6 => ?_) (fun h6 => ?_)) | (refine way_not (fun h6 => ?_) (fun h6 => ?_)) | (refine way (fun h6 => ?_) (fun h6 => ?_)) | (refine wayT (fun h6 => ?_) (fun h6 => ?_)) | (refine wayF (fun h6 => ?_) (fun h6 => ?_)))
    · simp -implicitDefEqProofs (maxSteps := 3000000) only [go_sem, reduceCtorEq]
      have : x ∈ l := h6 ▸ List.mem_of_getElem? hp
      simp [this]
    · simp -implicitDefEqProofs (maxSteps := 3000000) only [go_sem, reduceCtorEq]
      rw [wrap_succ (by omega)]
      refine next_data (i + 1) rfl ⟨by omega, fun hm => ?_⟩ (by omega)
      rcases mem_takeS hp hm with hm | rfl
      · exact h3 hm
      · exact h6 rfl
  · simp -implicitDefEqProofs (maxSteps := 3000000) only [go_sem, reduceCtorEq]
    rw [List.take_of_length_le (by omega)] at h3
    simp [h3]
theorem ks_In {h : Heap} {tb : Nat} {K : OK} {args : List V} {ls : List Nat} (l : List Int) (x : Int) (hl : l.length ≤ LEN) (hg : toDs h args = some ([.sl (ints l), .int .i64 x], ls))
    (hk : K (renV (bk tb ([])) (.d (.bool (decide (x ∈ l))))) (updN tb ([]) ([]))) : callVC Go.Proofs.Tryz.prog h tb 110 args K :=
  call_free hg (cs_In l x hl) rfl (.inr ⟨flat_of rfl, flatHB_of rfl⟩) hk

@[go_sem] def hr225 : Hints
  | 0 => [0, 1] | 1 => [0, 1] | 2 => [0, 1, 7, 8] | 3 => [0, 1, 7, 8] | 4 => [0, 1, 5, 7, 8] | 5 => [5] | 6 => [0, 1, 7, 8] | 7 => [] | _ => []
@[go_sem] def hl225 : Hints
  | 2 => [0, 1, 7, 8] | _ => []
attribute [go_sem] Go.Proofs.Tryz.results225
set_option maxRecDepth 100000 in
set_option maxHeartbeats 4000000 in
theorem ci_idxPair (l : List GPair) (f : Nat) (cs : List D) (g : GPair → Bool) (hl : l.length ≤ LEN) (hf : ∀ p ∈ l, CallOK Go.Proofs.Tryz.prog f (.d (.agg [.str p.fKey, .str p.fVal]) :: cs.map .d) [] (.dead :: cs.map fun _ => .dead) (.d (.bool (g p))) []) : CallOK Go.Proofs.Tryz.prog 225 [.d (.sl (GPairS l)), .d (.clo f cs)] [] [.dead, .dead] (.d (.int .i64 (idxF g l))) [] := by
  refine call_of tysZOK mixedZ Go.Proofs.Tryz.func225 (by kernel_rfl) rfl (np := [false, false]) (by kernel_rfl) hr225 hl225 (by simp [Go.Proofs.Tryz.ntmps225]) ?_
  simp -implicitDefEqProofs (maxSteps := 3000000) only [go_sem, reduceCtorEq]
  refine loop_data (α := Nat) (fun i => ⟨[(0, .d (.sl (GPairS l))), (1, .d (.clo f cs)), (7, .d (.int .i64 l.length)), (8, .d (.int .i64 i))], []⟩)
    (fun i => i ≤ l.length ∧ ∀ q ∈ l.take i, g q = false) (fun i => l.length - i) 0 rfl ⟨Nat.zero_le _, by simp⟩ ?_
  rintro i ⟨h2, h3⟩
  simp -implicitDefEqProofs (maxSteps := 3000000) only [go_sem, reduceCtorEq]
  (first | (refine way_dec (fun h5 => ?_) (fun h5 => ?_)) | (refine way_ndec (fun h5 => ?_) (fun h5 => ?_)) | (refine wayT_dec (fun h5 => ?_) (fun h5 => ?_)) | (refine wayF_dec (fun h5 => ?_) (fun h5 => ?_)) | (refine wayT_ndec (fun h5 => ?_) (fun h5 => ?_)) | (refine wayF_ndec (fun h5 => ?_) (fun h5 => ?_)) | (refine way_not (fun h5 => ?_) (fun h5 => ?_)) | (refine way (fun h5 => ?_) (fun h5 => ?_)) | (refine wayT (fun h5 => ?_) (fun h5 => ?_)) | (refine wayF (fun h5 => ?_) (fun h5 => ?_)))
  · obtain ⟨p, hp⟩ := some_at h5
    have hmem := List.mem_of_getElem? hp
    simp -implicitDefEqProofs (maxSteps := 3000000) only [go_sem, reduceCtorEq, lget_GPairS hp]
    repeat ((first | refine req (by first | assumption | omega | exact commP_of (by kernel_rfl) | (simp only [LEN, List.length_append, List.length_cons, List.length_nil]; omega) | (simp [D.one]; omega) | (simp [D.one]; done)) ?_ | refine call_free (xs := (.agg [.str p.fKey, .str p.fVal]) :: cs) toDs_cons (hf p hmem) rfl (.inr ⟨flat_of rfl, flatH_nil⟩) ?_); simp -implicitDefEqProofs (maxSteps := 3000000) only [go_sem, reduceCtorEq, lget_GPairS hp, calleeVC.eq_1])
    cases hg : g p
    · simp -implicitDefEqProofs (maxSteps := 3000000) only [go_sem, reduceCtorEq]
      rw [wrap_succ (by omega)]
      refine next_data (i + 1) rfl ⟨by omega, fun q hq => ?_⟩ (by omega)
      rw [take_snoc hp] at hq
      rcases List.mem_append.1 hq with hq | hq
      · exact h3 q hq
      · simp at hq; subst hq; exact hg
    · simp -implicitDefEqProofs (maxSteps := 3000000) only [go_sem, reduceCtorEq]
      rw [idxF_step hp h3 hg]
  · simp -implicitDefEqProofs (maxSteps := 3000000) only [go_sem, reduceCtorEq]
    rw [List.take_of_length_le (by omega)] at h3
    rw [idxF_none h3]
theorem ki_idxPair {h : Heap} {tb : Nat} {K : OK} {args : List V} {ls : List Nat} (l : List GPair) (f : Nat) (cs : List D) (g : GPair → Bool) (hl : l.length ≤ LEN) (hf : ∀ p ∈ l, CallOK Go.Proofs.Tryz.prog f (.d (.agg [.str p.fKey, .str p.fVal]) :: cs.map .d) [] (.dead :: cs.map fun _ => .dead) (.d (.bool (g p))) []) (hg : toDs h args = some ([.sl (GPairS l), .clo f cs], ls))
    (hk : K (renV (bk tb ([])) (.d (.int .i64 (idxF g l)))) (updN tb ([]) ([]))) : callVC Go.Proofs.Tryz.prog h tb 225 args K :=
  call_free hg (ci_idxPair l f cs g hl hf) rfl (.inr ⟨flat_of rfl, flatHB_of rfl⟩) hk
@[go_sem] def hr204 : Hints
  | 0 => [0, 1] | 1 => [0, 1] | _ => []
@[go_sem] def hl204 : Hints := fun _ => []
attribute [go_sem] Go.Proofs.Tryz.results204
set_option maxRecDepth 100000 in
set_option maxHeartbeats 4000000 in
theorem ci_conPair (l : List GPair) (f : Nat) (cs : List D) (g : GPair → Bool) (hl : l.length ≤ LEN) (hf : ∀ p ∈ l, CallOK Go.Proofs.Tryz.prog f (.d (.agg [.str p.fKey, .str p.fVal]) :: cs.map .d) [] (.dead :: cs.map fun _ => .dead) (.d (.bool (g p))) []) : CallOK Go.Proofs.Tryz.prog 204 [.d (.sl (GPairS l)), .d (.clo f cs)] [] [.dead, .dead] (.d (.bool (l.any g))) [] := by
  refine call_of tysZOK mixedZ Go.Proofs.Tryz.func204 (by kernel_rfl) rfl (np := [false, false]) (by kernel_rfl) hr204 hl204 (by simp [Go.Proofs.Tryz.ntmps204]) ?_
  simp -implicitDefEqProofs (maxSteps := 3000000) only [go_sem, reduceCtorEq]
  refine ki_idxPair l f cs g hl hf rfl ?_
  simp -implicitDefEqProofs (maxSteps := 3000000) only [go_sem, reduceCtorEq]
  rw [idxF_any]
theorem ki_conPair {h : Heap} {tb : Nat} {K : OK} {args : List V} {ls : List Nat} (l : List GPair) (f : Nat) (cs : List D) (g : GPair → Bool) (hl : l.length ≤ LEN) (hf : ∀ p ∈ l, CallOK Go.Proofs.Tryz.prog f (.d (.agg [.str p.fKey, .str p.fVal]) :: cs.map .d) [] (.dead :: cs.map fun _ => .dead) (.d (.bool (g p))) []) (hg : toDs h args = some ([.sl (GPairS l), .clo f cs], ls))
    (hk : K (renV (bk tb ([])) (.d (.bool (l.any g)))) (updN tb ([]) ([]))) : callVC Go.Proofs.Tryz.prog h tb 204 args K :=
  call_free hg (ci_conPair l f cs g hl hf) rfl (.inr ⟨flat_of rfl, flatHB_of rfl⟩) hk
@[go_sem] def hr205 : Hints
  | 0 => [0, 1] | 1 => [1, 2] | _ => []
@[go_sem] def hl205 : Hints := fun _ => []
attribute [go_sem] Go.Proofs.Tryz.results205
set_option maxRecDepth 100000 in
set_option maxHeartbeats 4000000 in
theorem ci_below1 (p : GPair) (k : List UInt8) : CallOK Go.Proofs.Tryz.prog 205 [.d (.agg [.str p.fKey, .str p.fVal]), .d (.ptr [.str k])] [] [.dead, .dead] (.d (.bool (bLess p.fKey k))) [] := by
  refine call_of tysZOK mixedZ Go.Proofs.Tryz.func205 (by kernel_rfl) rfl (np := [false, false]) (by kernel_rfl) hr205 hl205 (by simp [Go.Proofs.Tryz.ntmps205]) ?_
  simp -implicitDefEqProofs (maxSteps := 3000000) only [go_sem, reduceCtorEq]
theorem ki_below1 {h : Heap} {tb : Nat} {K : OK} {args : List V} {ls : List Nat} (p : GPair) (k : List UInt8) (hg : toDs h args = some ([.agg [.str p.fKey, .str p.fVal], .ptr [.str k]], ls))
    (hk : K (renV (bk tb ([])) (.d (.bool (bLess p.fKey k)))) (updN tb ([]) ([]))) : callVC Go.Proofs.Tryz.prog h tb 205 args K :=
  call_free hg (ci_below1 p k) rfl (.inr ⟨flat_of rfl, flatHB_of rfl⟩) hk
@[go_sem] def hr206 : Hints
  | 0 => [0, 1] | 1 => [1, 2] | _ => []
@[go_sem] def hl206 : Hints := fun _ => []
attribute [go_sem] Go.Proofs.Tryz.results206
set_option maxRecDepth 100000 in
set_option maxHeartbeats 4000000 in
theorem ci_from1 (p : GPair) (k : List UInt8) : CallOK Go.Proofs.Tryz.prog 206 [.d (.agg [.str p.fKey, .str p.fVal]), .d (.ptr [.str k])] [] [.dead, .dead] (.d (.bool (!bLess p.fKey k))) [] := by
  refine call_of tysZOK mixedZ Go.Proofs.Tryz.func206 (by kernel_rfl) rfl (np := [false, false]) (by kernel_rfl) hr206 hl206 (by simp [Go.Proofs.Tryz.ntmps206]) ?_
  simp -implicitDefEqProofs (maxSteps := 3000000) only [go_sem, reduceCtorEq]
theorem ki_from1 {h : Heap} {tb : Nat} {K : OK} {args : List V} {ls : List Nat} (p : GPair) (k : List UInt8) (hg : toDs h args = some ([.agg [.str p.fKey, .str p.fVal], .ptr [.str k]], ls))
    (hk : K (renV (bk tb ([])) (.d (.bool (!bLess p.fKey k)))) (updN tb ([]) ([]))) : callVC Go.Proofs.Tryz.prog h tb 206 args K :=
  call_free hg (ci_from1 p k) rfl (.inr ⟨flat_of rfl, flatHB_of rfl⟩) hk
@[go_sem] def hr184 : Hints
  | 0 => [0, 1] | 1 => [0, 3] | _ => []
@[go_sem] def hl184 : Hints := fun _ => []
attribute [go_sem] Go.Proofs.Tryz.results184
set_option maxRecDepth 100000 in
set_option maxHeartbeats 4000000 in
theorem ci_keyBelow (l : List GPair) (k : List UInt8) (hl : l.length ≤ LEN) : CallOK Go.Proofs.Tryz.prog 184 [.d (.sl (GPairS l)), .d (.str k)] [] [.dead, .dead] (.d (.bool (keyBelow l k))) [] := by
  refine call_of tysZOK mixedZ Go.Proofs.Tryz.func184 (by kernel_rfl) rfl (np := [false, false]) (by kernel_rfl) hr184 hl184 (by simp [Go.Proofs.Tryz.ntmps184]) ?_
  simp -implicitDefEqProofs (maxSteps := 3000000) only [go_sem, reduceCtorEq]
  refine ki_conPair l 205 [.ptr [.str k]] (fun p => bLess p.fKey k) hl (fun p hp => ci_below1 p k) rfl ?_
  simp -implicitDefEqProofs (maxSteps := 3000000) only [go_sem, reduceCtorEq]
  rfl
theorem ki_keyBelow {h : Heap} {tb : Nat} {K : OK} {args : List V} {ls : List Nat} (l : List GPair) (k : List UInt8) (hl : l.length ≤ LEN) (hg : toDs h args = some ([.sl (GPairS l), .str k], ls))
    (hk : K (renV (bk tb ([])) (.d (.bool (keyBelow l k)))) (updN tb ([]) ([]))) : callVC Go.Proofs.Tryz.prog h tb 184 args K :=
  call_free hg (ci_keyBelow l k hl) rfl (.inr ⟨flat_of rfl, flatHB_of rfl⟩) hk
@[go_sem] def hr185 : Hints
  | 0 => [0, 1] | 1 => [0, 3] | _ => []
@[go_sem] def hl185 : Hints := fun _ => []
attribute [go_sem] Go.Proofs.Tryz.results185
set_option maxRecDepth 100000 in
set_option maxHeartbeats 4000000 in
theorem ci_keyFrom (l : List GPair) (k : List UInt8) (hl : l.length ≤ LEN) : CallOK Go.Proofs.Tryz.prog 185 [.d (.sl (GPairS l)), .d (.str k)] [] [.dead, .dead] (.d (.bool (keyFrom l k))) [] := by
  refine call_of tysZOK mixedZ Go.Proofs.Tryz.func185 (by kernel_rfl) rfl (np := [false, false]) (by kernel_rfl) hr185 hl185 (by simp [Go.Proofs.Tryz.ntmps185]) ?_
  simp -implicitDefEqProofs (maxSteps := 3000000) only [go_sem, reduceCtorEq]
  refine ki_conPair l 206 [.ptr [.str k]] (fun p => !bLess p.fKey k) hl (fun p hp => ci_from1 p k) rfl ?_
  simp -implicitDefEqProofs (maxSteps := 3000000) only [go_sem, reduceCtorEq]
  rfl
theorem ki_keyFrom {h : Heap} {tb : Nat} {K : OK} {args : List V} {ls : List Nat} (l : List GPair) (k : List UInt8) (hl : l.length ≤ LEN) (hg : toDs h args = some ([.sl (GPairS l), .str k], ls))
    (hk : K (renV (bk tb ([])) (.d (.bool (keyFrom l k)))) (updN tb ([]) ([]))) : callVC Go.Proofs.Tryz.prog h tb 185 args K :=
  call_free hg (ci_keyFrom l k hl) rfl (.inr ⟨flat_of rfl, flatHB_of rfl⟩) hk

theorem pair_dec {p q : GPair} : (decide (p.fKey = q.fKey) && decide (p.fVal = q.fVal)) = decide (p = q) := by
  rw [Bool.eq_iff_iff]
  simp only [Bool.and_eq_true, decide_eq_true_eq]
  constructor
  · rintro ⟨h1, h2⟩; cases p; cases q; simp_all
  · rintro rfl; exact ⟨rfl, rfl⟩
@[go_sem] def hr43 : Hints
  | 0 => [0, 1] | 1 => [0, 1] | 2 => [] | 3 => [0, 1] | 4 => [0, 1, 5] | 5 => [0, 1, 5] | 6 => [0, 1, 5] | 7 => [] | 8 => [] | _ => []
@[go_sem] def hl43 : Hints
  | 4 => [0, 1, 5] | _ => []
attribute [go_sem] Go.Proofs.Tryz.results43
set_option maxRecDepth 100000 in
set_option maxHeartbeats 4000000 in
theorem cs_SamePairs (l m : List GPair) (hl : l.length ≤ LEN) : CallOK Go.Proofs.Tryz.prog 43 [.d (.sl (GPairS l)), .d (.sl (GPairS m))] [] [.dead, .dead] (.d (.bool (decide (l = m)))) [] := by
  refine call_of tysZOK mixedZ Go.Proofs.Tryz.func43 (by kernel_rfl) rfl (np := [false, false]) (by kernel_rfl) hr43 hl43 (by simp [Go.Proofs.Tryz.ntmps43]) ?_
  simp -implicitDefEqProofs (maxSteps := 3000000) only [go_sem, reduceCtorEq]
  refine way_ndec (fun h1 => ?_) (fun h1 => ?_)
  · simp -implicitDefEqProofs (maxSteps := 3000000) only [go_sem, reduceCtorEq]
    have : ¬ l = m := fun e => h1 (by rw [e])
    simp [this]
  · simp -implicitDefEqProofs (maxSteps := 3000000) only [go_sem, reduceCtorEq]
    refine loop_data (α := Nat) (fun i => ⟨[(0, .d (.sl (GPairS l))), (1, .d (.sl (GPairS m))), (5, .d (.int .i64 i))], []⟩)
      (fun i => i ≤ l.length ∧ l.take i = m.take i) (fun i => l.length - i) 0 rfl ⟨Nat.zero_le _, rfl⟩ ?_
    rintro i ⟨h2, h3⟩
    simp -implicitDefEqProofs (maxSteps := 3000000) only [go_sem, reduceCtorEq]
    (first | (refine way_dec (fun h5 => ?_) (fun h5 => ?_)) | (refine way_ndec (fun h5 => ?_) (fun h5 => ?_)) | (refine wayT_dec (fun h5 => ?_) (fun h5 => ?_)) | (refine wayF_dec (fun h5 => ?_) (fun h5 => ?_)) | (refine wayT_ndec (fun h5 => ?_) (fun h5 => ?_)) | (refine wayF_ndec (fun h5 => ?_) (fun h5 => ?_)) | (refine way_not (fun h5 => ?_) (fun h5 => ?_)) | (refine way (fun h5 => ?_) (fun h5 => ?_)) | (refine wayT (fun h5 => ?_) (fun h5 => ?_)) | (refine wayF (fun h5 => ?_) (fun h5 => ?_)))
    · obtain ⟨p, hp⟩ := some_at h5
      obtain ⟨q, hq⟩ := some_at (l := m) (h1 ▸ h5)
      simp -implicitDefEqProofs (maxSteps := 3000000) only [go_sem, reduceCtorEq, lget_GPairS hp, lget_GPairS hq]
      repeat ((first | refine req (by first | assumption | omega | exact commP_of (by kernel_rfl) | (simp only [LEN, List.length_append, List.length_cons, List.length_nil]; omega) | (simp [D.one]; omega) | (simp [D.one]; done)) ?_); simp -implicitDefEqProofs (maxSteps := 3000000) only [go_sem, reduceCtorEq, lget_GPairS hp, lget_GPairS hq, pair_dec])
      refine way_ndec (fun h6 => ?_) (fun h6 => ?_)
      · simp -implicitDefEqProofs (maxSteps := 3000000) only [go_sem, reduceCtorEq]
        have : ¬ l = m := fun e => h6 (by rw [e, hq] at hp; simpa using hp.symm)
        simp [this]
      · simp -implicitDefEqProofs (maxSteps := 3000000) only [go_sem, reduceCtorEq]
        rw [wrap_succ (by omega)]
        refine next_data (i + 1) rfl ⟨by omega, ?_⟩ (by omega)
        rw [take_snoc hp, take_snoc hq, h3, h6]
    · simp -implicitDefEqProofs (maxSteps := 3000000) only [go_sem, reduceCtorEq]
      rw [List.take_of_length_le (by omega), List.take_of_length_le (by omega)] at h3
      simp [h3]
theorem ks_SamePairs {h : Heap} {tb : Nat} {K : OK} {args : List V} {ls : List Nat} (l m : List GPair) (hl : l.length ≤ LEN) (hg : toDs h args = some ([.sl (GPairS l), .sl (GPairS m)], ls))
    (hk : K (renV (bk tb ([])) (.d (.bool (decide (l = m))))) (updN tb ([]) ([]))) : callVC Go.Proofs.Tryz.prog h tb 43 args K :=
  call_free hg (cs_SamePairs l m hl) rfl (.inr ⟨flat_of rfl, flatHB_of rfl⟩) hk
@[go_sem] def hr120 : Hints
  | 0 => [0, 1] | 1 => [0, 1] | 2 => [] | 3 => [0, 1] | 4 => [0, 1, 12, 13] | 5 => [0, 1, 12, 13] | 6 => [0, 1, 5, 12, 13] | 7 => [] | 8 => [0, 1, 12, 13] | 9 => [] | _ => []
@[go_sem] def hl120 : Hints
  | 4 => [0, 1, 12, 13] | _ => []
attribute [go_sem] Go.Proofs.Tryz.results120
set_option maxRecDepth 100000 in
set_option maxHeartbeats 4000000 in
theorem ci_Equal (l m : List GPair) (hl : l.length ≤ LEN) : CallOK Go.Proofs.Tryz.prog 120 [.d (.sl (GPairS l)), .d (.sl (GPairS m))] [] [.dead, .dead] (.d (.bool (decide (l = m)))) [] := by
  refine call_of tysZOK mixedZ Go.Proofs.Tryz.func120 (by kernel_rfl) rfl (np := [false, false]) (by kernel_rfl) hr120 hl120 (by simp [Go.Proofs.Tryz.ntmps120]) ?_
  simp -implicitDefEqProofs (maxSteps := 3000000) only [go_sem, reduceCtorEq]
  refine way_ndec (fun h1 => ?_) (fun h1 => ?_)
  · simp -implicitDefEqProofs (maxSteps := 3000000) only [go_sem, reduceCtorEq]
    have : ¬ l = m := fun e => h1 (by rw [e])
    simp [this]
  · simp -implicitDefEqProofs (maxSteps := 3000000) only [go_sem, reduceCtorEq]
    refine loop_data (α := Nat) (fun i => ⟨[(0, .d (.sl (GPairS l))), (1, .d (.sl (GPairS m))), (12, .d (.int .i64 l.length)), (13, .d (.int .i64 i))], []⟩)
      (fun i => i ≤ l.length ∧ l.take i = m.take i) (fun i => l.length - i) 0 rfl ⟨Nat.zero_le _, rfl⟩ ?_
    rintro i ⟨h2, h3⟩
    simp -implicitDefEqProofs (maxSteps := 3000000) only [go_sem, reduceCtorEq]
    (first | (refine way_dec (fun h5 => ?_) (fun h5 => ?_)) | (refine way_ndec (fun h5 => ?_) (fun h5 => ?_)) | (refine wayT_dec (fun h5 => ?_) (fun h5 => ?_)) | (refine wayF_dec (fun h5 => ?_) (fun h5 => ?_)) | (refine wayT_ndec (fun h5 => ?_) (fun h5 => ?_)) | (refine wayF_ndec (fun h5 => ?_) (fun h5 => ?_)) | (refine way_not (fun h5 => ?_) (fun h5 => ?_)) | (refine way (fun h5 => ?_) (fun h5 => ?_)) | (refine wayT (fun h5 => ?_) (fun h5 => ?_)) | (refine wayF (fun h5 => ?_) (fun h5 => ?_)))
    · obtain ⟨p, hp⟩ := some_at h5
      obtain ⟨q, hq⟩ := some_at (l := m) (h1 ▸ h5)
      simp -implicitDefEqProofs (maxSteps := 3000000) only [go_sem, reduceCtorEq, lget_GPairS hp, lget_GPairS hq]
      repeat ((first | refine req (by first | assumption | omega | exact commP_of (by kernel_rfl) | (simp only [LEN, List.length_append, List.length_cons, List.length_nil]; omega) | (simp [D.one]; omega) | (simp [D.one]; done)) ?_); simp -implicitDefEqProofs (maxSteps := 3000000) only [go_sem, reduceCtorEq, lget_GPairS hp, lget_GPairS hq, pair_dec])
      refine way_ndec (fun h6 => ?_) (fun h6 => ?_)
      · simp -implicitDefEqProofs (maxSteps := 3000000) only [go_sem, reduceCtorEq]
        have : ¬ l = m := fun e => h6 (by rw [e, hq] at hp; simpa using hp.symm)
        simp [this]
      · simp -implicitDefEqProofs (maxSteps := 3000000) only [go_sem, reduceCtorEq]
        rw [wrap_succ (by omega)]
        refine next_data (i + 1) rfl ⟨by omega, ?_⟩ (by omega)
        rw [take_snoc hp, take_snoc hq, h3, h6]
    · simp -implicitDefEqProofs (maxSteps := 3000000) only [go_sem, reduceCtorEq]
      rw [List.take_of_length_le (by omega), List.take_of_length_le (by omega)] at h3
      simp [h3]
theorem ki_Equal {h : Heap} {tb : Nat} {K : OK} {args : List V} {ls : List Nat} (l m : List GPair) (hl : l.length ≤ LEN) (hg : toDs h args = some ([.sl (GPairS l), .sl (GPairS m)], ls))
    (hk : K (renV (bk tb ([])) (.d (.bool (decide (l = m))))) (updN tb ([]) ([]))) : callVC Go.Proofs.Tryz.prog h tb 120 args K :=
  call_free hg (ci_Equal l m hl) rfl (.inr ⟨flat_of rfl, flatHB_of rfl⟩) hk
@[go_sem] def hr84 : Hints
  | 0 => [0, 1] | 1 => [0, 1] | _ => []
@[go_sem] def hl84 : Hints := fun _ => []
attribute [go_sem] Go.Proofs.Tryz.results84
set_option maxRecDepth 100000 in
set_option maxHeartbeats 4000000 in
theorem ci_SamePairs (l m : List GPair) (hl : l.length ≤ LEN) : CallOK Go.Proofs.Tryz.prog 84 [.d (.sl (GPairS l)), .d (.sl (GPairS m))] [] [.dead, .dead] (.d (.bool (decide (l = m)))) [] := by
  refine call_of tysZOK mixedZ Go.Proofs.Tryz.func84 (by kernel_rfl) rfl (np := [false, false]) (by kernel_rfl) hr84 hl84 (by simp [Go.Proofs.Tryz.ntmps84]) ?_
  simp -implicitDefEqProofs (maxSteps := 3000000) only [go_sem, reduceCtorEq]
  refine ki_Equal l m hl rfl ?_
  simp -implicitDefEqProofs (maxSteps := 3000000) only [go_sem, reduceCtorEq]
theorem ki_SamePairs {h : Heap} {tb : Nat} {K : OK} {args : List V} {ls : List Nat} (l m : List GPair) (hl : l.length ≤ LEN) (hg : toDs h args = some ([.sl (GPairS l), .sl (GPairS m)], ls))
    (hk : K (renV (bk tb ([])) (.d (.bool (decide (l = m))))) (updN tb ([]) ([]))) : callVC Go.Proofs.Tryz.prog h tb 84 args K :=
  call_free hg (ci_SamePairs l m hl) rfl (.inr ⟨flat_of rfl, flatHB_of rfl⟩) hk
end Go.Rx

namespace Go.Rx
open Go
attribute [local irreducible] Req Way WayG Sel callVC CallOK
set_option linter.unusedSimpArgs false
set_option linter.unusedVariables false

theorem nodeV_none : nodeV none = .tup [.d (.agg [.bool false, .sl [], .sl [], .sl []]), .d (.bool false)] := rfl
theorem nodeV_some {n : GNode} : nodeV (some n) = .tup [.d (.agg [.bool n.fLeaf, .sl (strs n.fKeys), .sl (strs n.fVals), .sl (ints n.fKids)]), .d (.bool true)] := rfl
def trBox (d : GDisk) (t : Tr) : List (Nat × AObj) := [(0, .box [.d (.sl (strs d.fPages)), .d (.sl (GPutS d.fLate)), .own 1 0 t.pages.length, .own 2 0 t.pairs.length, .own 3 0 t.deeps.length, .d (.bool t.order), .d (.bool t.bad)]),
  (1, .arr 1 (ints t.pages)), (2, .arr 2 (GPairS t.pairs)), (3, .arr 1 (ints t.deeps))]
theorem trBox_eq {d : GDisk} {t : Tr} : trBox d t = [(0, .box [.d (.sl (strs d.fPages)), .d (.sl (GPutS d.fLate)), .own 1 0 t.pages.length, .own 2 0 t.pairs.length, .own 3 0 t.deeps.length, .d (.bool t.order), .d (.bool t.bad)]),
  (1, .arr 1 (ints t.pages)), (2, .arr 2 (GPairS t.pairs)), (3, .arr 1 (ints t.deeps))] := rfl

@[go_sem] def hr150 : Hints
  | 0 => [0, 1, 2] | 1 => [0, 1, 2, 6, 7] | 2 => [0] | 3 => [0, 1, 2, 6] | 4 => [0, 2, 6] | 5 => [0, 2, 6] | 6 => [0, 6] | 7 => [0, 6, 70, 71, 72] | 8 => [0, 6, 70, 71, 72] | 9 => [0, 6, 8, 9, 70, 71, 72] | 10 => [0, 6, 70, 71, 72] | 11 => [0, 2, 6] | 12 => [0, 2, 6, 10] | 13 => [0, 2, 6, 10, 100, 101, 102] | 14 => [0, 2, 6, 10, 100, 101, 102] | 15 => [0, 2, 6, 10, 11, 12, 100, 101, 102] | 16 => [0, 2, 6, 10, 11, 12, 13, 100, 101, 102] | 17 => [0, 2, 6, 10, 11, 13, 100, 101, 102] | 18 => [0, 2, 6, 10, 11, 13, 100, 101, 102] | 19 => [0, 2, 6, 10, 100, 101, 102] | _ => []
@[go_sem] def hl150 : Hints
  | 7 => [0, 6, 70, 71, 72] | 13 => [0, 2, 6, 10, 100, 101, 102] | _ => []
attribute [go_sem] Go.Proofs.Tryz.results150
set_option maxRecDepth 100000 in
set_option maxHeartbeats 6000000 in
theorem ci_down (d : GDisk) (h1 : d.fPages.length ≤ 1048576) (h2 : d.fLate.length ≤ 1048576) (hsm : ∀ p, (readPage d p).length ≤ 1048576) : ∀ (f : Nat) (page : Int) (t : Tr), f ≤ 8 → room f t →
    CallOK Go.Proofs.Tryz.prog 150 [.ref 0 0, .d (.int .i64 page), .d (.int .i64 (9 - (f : Int)))] (trBox d t) [.ref 0 0, .dead, .dead] (.tup []) (trBox d (downI d f page t)) := by
  intro f
  induction f with
  | zero =>
    intro page t hf hroom
    refine call_of tysZOK mixedZ Go.Proofs.Tryz.func150 (by kernel_rfl) rfl (np := [true, false, false]) (by kernel_rfl) hr150 hl150 (by simp [Go.Proofs.Tryz.ntmps150]) ?_
    have d8 : decide ((8 : Int) < 9 - ((0 : Nat) : Int)) = true := rfl
    simp -implicitDefEqProofs (maxSteps := 3000000) only [go_sem, reduceCtorEq, trBox_eq]
    refine ki_ReadPage d page (by omega) (by omega) rfl ?_
    simp -implicitDefEqProofs (maxSteps := 3000000) only [go_sem, reduceCtorEq]
    refine ki_ReadNode (readPage d page) (by have := hsm page; omega) rfl ?_
    rw [downI]
    cases hb : t.bad
    · cases hn : readNode (readPage d page)
      · simp only [nodeV_none, nodeV_some]
        simp -implicitDefEqProofs (maxSteps := 3000000) only [go_sem, reduceCtorEq, trBox_eq]
        repeat ((first | refine req (by first | omega | assumption | exact commP_of (by kernel_rfl) | (simp only [LEN, List.length_append, List.length_cons, List.length_nil]; omega) | (simp [D.one]; omega) | (simp [D.one]; done)) ?_); simp -implicitDefEqProofs (maxSteps := 3000000) only [go_sem, reduceCtorEq, trBox_eq])
      · simp only [nodeV_none, nodeV_some]
        simp -implicitDefEqProofs (maxSteps := 3000000) only [go_sem, reduceCtorEq, trBox_eq, d8]
        repeat ((first | refine req (by first | omega | assumption | exact commP_of (by kernel_rfl) | (simp only [LEN, List.length_append, List.length_cons, List.length_nil]; omega) | (simp [D.one]; omega) | (simp [D.one]; done)) ?_); simp -implicitDefEqProofs (maxSteps := 3000000) only [go_sem, reduceCtorEq, trBox_eq, d8])
    · cases hn : readNode (readPage d page)
      · simp only [nodeV_none, nodeV_some]
        simp -implicitDefEqProofs (maxSteps := 3000000) only [go_sem, reduceCtorEq, trBox_eq]
        repeat ((first | refine req (by first | omega | assumption | exact commP_of (by kernel_rfl) | (simp only [LEN, List.length_append, List.length_cons, List.length_nil]; omega) | (simp [D.one]; omega) | (simp [D.one]; done)) ?_); simp -implicitDefEqProofs (maxSteps := 3000000) only [go_sem, reduceCtorEq, trBox_eq])
      · simp only [nodeV_none, nodeV_some]
        simp -implicitDefEqProofs (maxSteps := 3000000) only [go_sem, reduceCtorEq, trBox_eq, d8]
        repeat ((first | refine req (by first | omega | assumption | exact commP_of (by kernel_rfl) | (simp only [LEN, List.length_append, List.length_cons, List.length_nil]; omega) | (simp [D.one]; omega) | (simp [D.one]; done)) ?_); simp -implicitDefEqProofs (maxSteps := 3000000) only [go_sem, reduceCtorEq, trBox_eq, d8])
  | succ f ih =>
    intro page t hf hroom
    obtain ⟨r1, r2, r3⟩ := hroom
    have hpow : 4 ^ (f + 1) = 4 ^ f * 4 := Nat.pow_succ ..
    have hp1 : 1 ≤ 4 ^ f := Nat.one_le_pow _ _ (by omega)
    have d8 : decide ((8 : Int) < 9 - ((f + 1 : Nat) : Int)) = false := decide_eq_false (by omega)
    refine call_of tysZOK mixedZ Go.Proofs.Tryz.func150 (by kernel_rfl) rfl (np := [true, false, false]) (by kernel_rfl) hr150 hl150 (by simp [Go.Proofs.Tryz.ntmps150]) ?_
    simp -implicitDefEqProofs (maxSteps := 3000000) only [go_sem, reduceCtorEq, trBox_eq]
    refine ki_ReadPage d page (by omega) (by omega) rfl ?_
    simp -implicitDefEqProofs (maxSteps := 3000000) only [go_sem, reduceCtorEq]
    refine ki_ReadNode (readPage d page) (by have := hsm page; omega) rfl ?_
    rw [downI]
    cases hb : t.bad
    · cases hn : readNode (readPage d page) with
      | none =>
        simp only [nodeV_none]
        simp -implicitDefEqProofs (maxSteps := 3000000) only [go_sem, reduceCtorEq, trBox_eq]
        repeat ((first | refine req (by first | omega | assumption | exact commP_of (by kernel_rfl) | (simp only [LEN, List.length_append, List.length_cons, List.length_nil]; omega) | (simp [D.one]; omega) | (simp [D.one]; done)) ?_); simp -implicitDefEqProofs (maxSteps := 3000000) only [go_sem, reduceCtorEq, trBox_eq])
      | some n =>
        obtain ⟨hok, _⟩ := readNode_iff.1 hn
        have hk4 := hok.2.1
        simp only [nodeV_some]
        simp -implicitDefEqProofs (maxSteps := 3000000) only [go_sem, reduceCtorEq, trBox_eq, d8]
        refine ki_Contains t.pages page (by simp only [LEN]; omega) (ls := [1]) (by simp -implicitDefEqProofs (maxSteps := 3000000) only [go_sem, reduceCtorEq]; try rfl) ?_
        by_cases hp : page ∈ t.pages
        · have dp := decide_eq_true hp
          rw [if_pos (.inr hp)]
          simp -implicitDefEqProofs (maxSteps := 3000000) only [go_sem, reduceCtorEq, trBox_eq, dp]
          repeat ((first | refine req (by first | omega | assumption | exact commP_of (by kernel_rfl) | (simp only [LEN, List.length_append, List.length_cons, List.length_nil]; omega) | (simp [D.one]; omega) | (simp [D.one]; done)) ?_); simp -implicitDefEqProofs (maxSteps := 3000000) only [go_sem, reduceCtorEq, trBox_eq, dp])
        · have dp := decide_eq_false hp
          rw [if_neg (by simp [hp])]
          cases hl : n.fLeaf
          · have hiff := (nodeOk_branch hl).1 hok
            simp -implicitDefEqProofs (maxSteps := 3000000) only [go_sem, reduceCtorEq, dp]
            repeat ((first | refine req (by first | omega | assumption | exact commP_of (by kernel_rfl) | (simp only [LEN, List.length_append, List.length_cons, List.length_nil]; omega) | (simp [D.one]; omega) | (simp [D.one]; done)) ?_); simp -implicitDefEqProofs (maxSteps := 3000000) only [go_sem, reduceCtorEq, dp])
            have e9 : IntKind.i64.wrap (9 - ((f + 1 : Nat) : Int) + 1) = 9 - (f : Int) := by rw [wrap_int (by omega) (by omega)]; omega
            simp only [Bool.false_eq_true, if_false]
            refine loop_data (α := Nat × Tr) (fun x => ⟨[(0, .ref 0 0), (2, .d (.int .i64 (9 - ((f + 1 : Nat) : Int)))), (6, .ref 4 0), (10, .d (.int .i64 t.pairs.length)), (100, .d (.sl (ints n.fKids))), (101, .d (.int .i64 n.fKids.length)), (102, .d (.int .i64 x.1))],
                [(0, some (.box [.d (.sl (strs d.fPages)), .d (.sl (GPutS d.fLate)), .own 1 0 x.2.pages.length, .own 2 0 x.2.pairs.length, .own 3 0 x.2.deeps.length, .d (.bool x.2.order), .d (.bool x.2.bad)])),
                 (1, some (.arr 1 (ints x.2.pages))), (2, some (.arr 2 (GPairS x.2.pairs))), (3, some (.arr 1 (ints x.2.deeps))),
                 (4, some (.box [.d (.bool false), .d (.sl (strs n.fKeys)), .d (.sl (strs n.fVals)), .d (.sl (ints n.fKids))]))]⟩)
              (fun x => x.1 ≤ n.fKids.length ∧ kidsI (downI d f) t.pairs.length ((n.fKeys.zip n.fKids).drop x.1) x.2 = kidsI (downI d f) t.pairs.length (n.fKeys.zip n.fKids) ⟨t.pages ++ [page], t.pairs, t.deeps, t.order, false⟩ ∧ t.pairs.length ≤ x.2.pairs.length ∧
                x.2.pages.length ≤ t.pages.length + 1 + x.1 * (2 * 4 ^ f - 1) ∧ x.2.pairs.length ≤ t.pairs.length + x.1 * (2 * 4 ^ f - 1) ∧ x.2.deeps.length ≤ t.deeps.length + x.1 * (2 * 4 ^ f - 1))
              (fun x => n.fKids.length - x.1) (0, ⟨t.pages ++ [page], t.pairs, t.deeps, t.order, false⟩) (by simp) ⟨Nat.zero_le _, by rw [List.drop_zero], by simp, by simp, by simp, by simp⟩ ?_
            rintro ⟨i, u⟩ ⟨i1, i2, i3, i4, i5, i6⟩
            simp only at i1 i2 i3 i4 i5 i6
            simp -implicitDefEqProofs (maxSteps := 3000000) only [go_sem, reduceCtorEq]
            (first | (refine way_dec (fun h5 => ?_) (fun h5 => ?_)) | (refine way_ndec (fun h5 => ?_) (fun h5 => ?_)) | (refine wayT_dec (fun h5 => ?_) (fun h5 => ?_)) | (refine wayF_dec (fun h5 => ?_) (fun h5 => ?_)) | (refine wayT_ndec (fun h5 => ?_) (fun h5 => ?_)) | (refine wayF_ndec (fun h5 => ?_) (fun h5 => ?_)) | (refine way_not (fun h5 => ?_) (fun h5 => ?_)) | (refine way (fun h5 => ?_) (fun h5 => ?_)) | (refine wayT (fun h5 => ?_) (fun h5 => ?_)) | (refine wayF (fun h5 => ?_) (fun h5 => ?_)))
            · obtain ⟨k, hk⟩ := some_at (l := n.fKeys) (i := i) (by omega)
              obtain ⟨c, hc⟩ := some_at (l := n.fKids) (i := i) (by omega)
              rw [drop_cons (zip_at hk hc), kidsI] at i2
              have hi3 : i * (2 * 4 ^ f - 1) ≤ 3 * (2 * 4 ^ f - 1) := Nat.mul_le_mul_right _ (by omega)
              have g1 := down_pages (d := d) (f := f) (page := c) (t := u)
              have g2 := down_pairs (d := d) (f := f) (page := c) (t := u)
              have g3 := down_deeps (d := d) (f := f) (page := c) (t := u)
              have g4 := down_grow (d := d) (f := f) (page := c) (t := u)
              have hsm1 : (i + 1) * (2 * 4 ^ f - 1) = i * (2 * 4 ^ f - 1) + (2 * 4 ^ f - 1) := Nat.succ_mul ..
              simp -implicitDefEqProofs (maxSteps := 3000000) only [go_sem, reduceCtorEq, lget_ints hc, e9]
              refine req (by omega) ?_
              simp -implicitDefEqProofs (maxSteps := 3000000) only [go_sem, reduceCtorEq, lget_ints hc, e9]
              refine call_boxO false (xs := [.int .i64 c, .int .i64 (9 - (f : Int))]) (ih c u (by omega) ⟨by omega, by omega, by omega⟩) rfl rfl rfl rfl rfl rfl rfl rfl (.inr (.inl rfl)) ?_
              simp -implicitDefEqProofs (maxSteps := 3000000) only [go_sem, reduceCtorEq, trBox_eq]
              generalize hv : downI d f c u = v at i2 g1 g2 g3 g4 ⊢
              cases hbd : v.bad
              · rw [if_neg (by rw [hbd]; simp)] at i2
                cases ho : v.order
                · simp -implicitDefEqProofs (maxSteps := 3000000) only [go_sem, reduceCtorEq]
                  repeat ((first | refine req (by first | omega | assumption | exact commP_of (by kernel_rfl) | (simp only [LEN, List.length_append, List.length_cons, List.length_nil]; omega) | (simp [D.one]; omega) | (simp [D.one]; done)) ?_); simp -implicitDefEqProofs (maxSteps := 3000000) only [go_sem, reduceCtorEq])
                  rw [wrap_succ (by simp only [LEN]; omega)]
                  rw [ho, Bool.false_and] at i2
                  refine next_data (i + 1, v.ord false) (by simp [Tr.ord, hbd]) ⟨by simp only; omega, i2, by simp only [Tr.ord]; omega, by simp only [Tr.ord]; omega, by simp only [Tr.ord]; omega, by simp only [Tr.ord]; omega⟩ (by simp only; omega)
                · have hat : (v.pairs.drop u.pairs.length).take (v.pairs.length - u.pairs.length) = v.pairs.drop u.pairs.length := List.take_of_length_le (by simp)
                  have hat2 : (v.pairs.drop t.pairs.length).take (u.pairs.length - t.pairs.length) = (v.pairs.take u.pairs.length).drop t.pairs.length := by rw [List.drop_take]
                  cases hkb : keyBelow (v.pairs.drop u.pairs.length) k
                  · simp -implicitDefEqProofs (maxSteps := 3000000) only [go_sem, reduceCtorEq, lget_strs hk]
                    repeat ((first | refine req (by first | omega | assumption | exact commP_of (by kernel_rfl) | (simp only [LEN, List.length_append, List.length_cons, List.length_nil]; omega) | (simp [D.one]; omega) | (simp [D.one]; done)) ?_ | refine ki_keyBelow (v.pairs.drop u.pairs.length) k (by simp only [List.length_drop, LEN]; omega) (ls := [2]) (by simp -implicitDefEqProofs (maxSteps := 3000000) only [go_sem, reduceCtorEq, GPairS_drop, GPairS_take, hat]; try rfl) ?_ | refine ki_keyFrom ((v.pairs.take u.pairs.length).drop t.pairs.length) k (by simp only [List.length_drop, List.length_take, LEN]; omega) (ls := [2]) (by simp -implicitDefEqProofs (maxSteps := 3000000) only [go_sem, reduceCtorEq, GPairS_drop, GPairS_take, hat2]; try rfl) ?_); simp -implicitDefEqProofs (maxSteps := 3000000) only [go_sem, reduceCtorEq, lget_strs hk, hkb])
                    rw [wrap_succ (by simp only [LEN]; omega)]
                    rw [ho, hkb, Bool.true_and, Bool.not_false, Bool.true_and] at i2
                    refine next_data (i + 1, v.ord (!keyFrom ((v.pairs.take u.pairs.length).drop t.pairs.length) k)) (by simp [Tr.ord, hbd]) ⟨by simp only; omega, i2, by simp only [Tr.ord]; omega, by simp only [Tr.ord]; omega, by simp only [Tr.ord]; omega, by simp only [Tr.ord]; omega⟩ (by simp only; omega)
                  · simp -implicitDefEqProofs (maxSteps := 3000000) only [go_sem, reduceCtorEq, lget_strs hk]
                    repeat ((first | refine req (by first | omega | assumption | exact commP_of (by kernel_rfl) | (simp only [LEN, List.length_append, List.length_cons, List.length_nil]; omega) | (simp [D.one]; omega) | (simp [D.one]; done)) ?_ | refine ki_keyBelow (v.pairs.drop u.pairs.length) k (by simp only [List.length_drop, LEN]; omega) (ls := [2]) (by simp -implicitDefEqProofs (maxSteps := 3000000) only [go_sem, reduceCtorEq, GPairS_drop, GPairS_take, hat]; try rfl) ?_); simp -implicitDefEqProofs (maxSteps := 3000000) only [go_sem, reduceCtorEq, lget_strs hk, hkb])
                    rw [wrap_succ (by simp only [LEN]; omega)]
                    rw [ho, hkb, Bool.true_and, Bool.not_true, Bool.false_and] at i2
                    refine next_data (i + 1, v.ord false) (by simp [Tr.ord, hbd]) ⟨by simp only; omega, i2, by simp only [Tr.ord]; omega, by simp only [Tr.ord]; omega, by simp only [Tr.ord]; omega, by simp only [Tr.ord]; omega⟩ (by simp only; omega)
              · rw [if_pos (by rw [hbd])] at i2
                simp -implicitDefEqProofs (maxSteps := 3000000) only [go_sem, reduceCtorEq]
                rw [← i2, trBox, hbd]
            · simp -implicitDefEqProofs (maxSteps := 3000000) only [go_sem, reduceCtorEq]
              obtain rfl : i = n.fKids.length := by omega
              rw [List.drop_eq_nil_of_le (by simp only [List.length_zip]; omega), kidsI] at i2
              rw [← i2]
              rfl
          · have hiff := (nodeOk_leaf hl).1 hok
            simp -implicitDefEqProofs (maxSteps := 3000000) only [go_sem, reduceCtorEq, dp]
            repeat ((first | refine req (by first | omega | assumption | exact commP_of (by kernel_rfl) | (simp only [LEN, List.length_append, List.length_cons, List.length_nil]; omega) | (simp [D.one]; omega) | (simp [D.one]; done)) ?_); simp -implicitDefEqProofs (maxSteps := 3000000) only [go_sem, reduceCtorEq, dp])
            simp only [if_true]
            refine loop_data (α := Nat × List GPair) (fun x => ⟨[(0, .ref 0 0), (6, .ref 4 0), (70, .d (.sl (strs n.fKeys))), (71, .d (.int .i64 n.fKeys.length)), (72, .d (.int .i64 x.1))],
                [(0, some (.box [.d (.sl (strs d.fPages)), .d (.sl (GPutS d.fLate)), .own 1 0 (t.pages.length + 1), .own 2 0 x.2.length, .own 3 0 (t.deeps.length + 1), .d (.bool t.order), .d (.bool false)])),
                 (1, some (.arr 1 (ints (t.pages ++ [page])))), (2, some (.arr 2 (GPairS x.2))), (3, some (.arr 1 (ints (t.deeps ++ [9 - ((f + 1 : Nat) : Int)])))),
                 (4, some (.box [.d (.bool true), .d (.sl (strs n.fKeys)), .d (.sl (strs n.fVals)), .d (.sl (ints n.fKids))]))]⟩)
              (fun x => x.1 ≤ n.fKeys.length ∧ x.2 = t.pairs ++ (pairsOf n).take x.1) (fun x => n.fKeys.length - x.1) (0, t.pairs) rfl ⟨Nat.zero_le _, by simp⟩ ?_
            rintro ⟨i, P⟩ ⟨i1, i2⟩
            simp only at i1 i2
            have hP : P.length ≤ t.pairs.length + 4 := by rw [i2]; simp; omega
            simp -implicitDefEqProofs (maxSteps := 3000000) only [go_sem, reduceCtorEq]
            (first | (refine way_dec (fun h5 => ?_) (fun h5 => ?_)) | (refine way_ndec (fun h5 => ?_) (fun h5 => ?_)) | (refine wayT_dec (fun h5 => ?_) (fun h5 => ?_)) | (refine wayF_dec (fun h5 => ?_) (fun h5 => ?_)) | (refine wayT_ndec (fun h5 => ?_) (fun h5 => ?_)) | (refine wayF_ndec (fun h5 => ?_) (fun h5 => ?_)) | (refine way_not (fun h5 => ?_) (fun h5 => ?_)) | (refine way (fun h5 => ?_) (fun h5 => ?_)) | (refine wayT (fun h5 => ?_) (fun h5 => ?_)) | (refine wayF (fun h5 => ?_) (fun h5 => ?_)))
            · obtain ⟨k, hk⟩ := some_at (l := n.fKeys) (i := i) (by omega)
              obtain ⟨v, hv⟩ := some_at (l := n.fVals) (i := i) (by omega)
              simp -implicitDefEqProofs (maxSteps := 3000000) only [go_sem, reduceCtorEq, lget_strs hk, lget_strs hv]
              repeat ((first | refine req (by first | omega | assumption | exact commP_of (by kernel_rfl) | (simp only [LEN, List.length_append, List.length_cons, List.length_nil]; omega) | (simp [D.one]; omega) | (simp [D.one]; done)) ?_); simp -implicitDefEqProofs (maxSteps := 3000000) only [go_sem, reduceCtorEq, lget_strs hk, lget_strs hv])
              rw [wrap_succ (by simp only [LEN]; omega)]
              refine next_data (i + 1, P ++ [⟨k, v⟩]) (by simp) ⟨by simp only; omega, ?_⟩ (by simp only; omega)
              simp only
              rw [pairs_snoc hk hv, i2, List.append_assoc]
            · simp -implicitDefEqProofs (maxSteps := 3000000) only [go_sem, reduceCtorEq]
              obtain rfl : i = n.fKeys.length := by omega
              rw [List.take_of_length_le (by simp only [pairsOf, List.length_map, List.length_zip]; omega)] at i2
              subst i2
              have e98 : (9 : Int) - ((f + 1 : Nat) : Int) = 8 - (f : Int) := by omega
              rw [e98]
              simp [trBox]
    · cases hn : readNode (readPage d page)
      · simp only [nodeV_none]
        simp -implicitDefEqProofs (maxSteps := 3000000) only [go_sem, reduceCtorEq, trBox_eq]
        repeat ((first | refine req (by first | omega | assumption | exact commP_of (by kernel_rfl) | (simp only [LEN, List.length_append, List.length_cons, List.length_nil]; omega) | (simp [D.one]; omega) | (simp [D.one]; done)) ?_); simp -implicitDefEqProofs (maxSteps := 3000000) only [go_sem, reduceCtorEq, trBox_eq])
      · simp only [nodeV_some]
        simp -implicitDefEqProofs (maxSteps := 3000000) only [go_sem, reduceCtorEq, trBox_eq, d8]
        repeat ((first | refine req (by first | omega | assumption | exact commP_of (by kernel_rfl) | (simp only [LEN, List.length_append, List.length_cons, List.length_nil]; omega) | (simp [D.one]; omega) | (simp [D.one]; done)) ?_); simp -implicitDefEqProofs (maxSteps := 3000000) only [go_sem, reduceCtorEq, trBox_eq, d8])
        simp
end Go.Rx

namespace Go.Rx
open Go
attribute [local irreducible] Req Way WayG Sel callVC CallOK
set_option linter.unusedSimpArgs false
set_option linter.unusedVariables false

def alBox (a : Al) : List (Nat × AObj) := [(0, .box [.own 1 0 a.pairs.length, .own 2 0 a.pages.length, .own 3 0 a.deeps.length, .d (.bool a.bad), .d (.bool a.loose)]), (1, .arr 2 (GPairS a.pairs)), (2, .arr 1 (ints a.pages)), (3, .arr 1 (ints a.deeps))]
theorem alBox_eq {a : Al} : alBox a = [(0, .box [.own 1 0 a.pairs.length, .own 2 0 a.pages.length, .own 3 0 a.deeps.length, .d (.bool a.bad), .d (.bool a.loose)]), (1, .arr 2 (GPairS a.pairs)), (2, .arr 1 (ints a.pages)), (3, .arr 1 (ints a.deeps))] := rfl

@[go_sem] def hr69 : Hints
  | 0 => [0, 1, 2, 3, 4, 5, 6] | 1 => [1, 2, 3, 4, 5, 6, 7] | 2 => [1, 2, 3, 4, 5, 6, 7, 14, 15] | 3 => [6] | 4 => [1, 2, 3, 4, 5, 6, 7, 14] | 5 => [2, 3, 4, 5, 6, 7, 14] | 6 => [2, 3, 4, 5, 6, 7, 14, 16] | 7 => [2, 3, 4, 5, 6, 7, 14, 16] | 8 => [2, 3, 4, 5, 6, 7, 14, 16] | 9 => [2, 3, 4, 5, 6, 7, 14, 16, 17] | 10 => [2, 3, 4, 5, 6, 7, 14, 16, 17] | 11 => [2, 3, 4, 5, 6, 7, 14, 16, 17] | 12 => [2, 3, 4, 5, 6, 7, 14, 16, 17] | 13 => [2, 3, 4, 5, 6, 7, 14, 16, 17] | 14 => [2, 3, 4, 5, 6, 7, 14, 16, 17, 18] | 15 => [2, 3, 4, 5, 6, 7, 14, 16, 17] | 16 => [2, 3, 4, 5, 6, 7, 14, 16, 18] | 17 => [2, 3, 4, 5, 6, 7, 14, 16, 18, 19] | 18 => [2, 3, 4, 5, 6, 7, 14, 16, 18, 19, 20] | 19 => [2, 3, 4, 5, 6, 7, 14, 16, 18] | 20 => [2, 3, 4, 5, 6, 7, 14, 16, 18, 19] | 21 => [2, 3, 4, 5, 6, 7, 14, 16, 18, 19, 20] | 22 => [2, 6, 14] | 23 => [2, 6] | _ => []
@[go_sem] def hl69 : Hints
  | 6 => [2, 3, 4, 5, 6, 7, 14, 16] | _ => []
attribute [go_sem] Go.Proofs.Tryz.results69
set_option maxRecDepth 100000 in
set_option maxHeartbeats 12000000 in
theorem cs_walk (d : GDisk) (h1 : d.fPages.length ≤ 1048576) (h2 : d.fLate.length ≤ 1048576) (hsm : ∀ p, (readPage d p).length ≤ 1048576) : ∀ (f : Nat) (page : Int) (low high : List UInt8) (has : Bool) (a : Al), f ≤ 8 → roomS f a →
    CallOK Go.Proofs.Tryz.prog 69 [.d (.agg d.cells), .d (.int .i64 page), .d (.int .i64 (8 - (f : Int))), .d (.str low), .d (.str high), .d (.bool has), .ref 0 0] (alBox a) [.dead, .dead, .dead, .dead, .dead, .dead, .ref 0 0] (.tup []) (alBox (walkS d f page low high has a)) := by
  intro f
  induction f with
  | zero =>
    intro page low high has a hf hroom
    have d8 : decide ((8 : Int) ≤ 8 - ((0 : Nat) : Int)) = true := rfl
    refine call_of tysZOK mixedZ Go.Proofs.Tryz.func69 (by kernel_rfl) rfl (np := [false, false, false, false, false, false, true]) (by kernel_rfl) hr69 hl69 (by simp [Go.Proofs.Tryz.ntmps69]) ?_
    simp -implicitDefEqProofs (maxSteps := 3000000) only [go_sem, reduceCtorEq, GDisk.cells, alBox_eq]
    refine ks_ReadPage d page (by omega) (by omega) rfl ?_
    simp -implicitDefEqProofs (maxSteps := 3000000) only [go_sem, reduceCtorEq]
    refine ks_ReadNode (readPage d page) (by have := hsm page; omega) rfl ?_
    rw [walkS]
    cases hn : readNode (readPage d page) with
    | none =>
      simp only [nodeV_none]
      simp -implicitDefEqProofs (maxSteps := 3000000) only [go_sem, reduceCtorEq, alBox_eq, d8]
      repeat ((first | refine req (by first | omega | assumption | exact commP_of (by kernel_rfl) | (simp only [LEN, List.length_append, List.length_cons, List.length_nil]; omega) | (simp [D.one]; omega) | (simp [D.one]; done)) ?_); simp -implicitDefEqProofs (maxSteps := 3000000) only [go_sem, reduceCtorEq, alBox_eq, d8])

    | some n =>
      simp only [nodeV_some]
      simp -implicitDefEqProofs (maxSteps := 3000000) only [go_sem, reduceCtorEq, alBox_eq, d8]
      repeat ((first | refine req (by first | omega | assumption | exact commP_of (by kernel_rfl) | (simp only [LEN, List.length_append, List.length_cons, List.length_nil]; omega) | (simp [D.one]; omega) | (simp [D.one]; done)) ?_); simp -implicitDefEqProofs (maxSteps := 3000000) only [go_sem, reduceCtorEq, alBox_eq, d8])

  | succ f ih =>
    intro page low high has a hf hroom
    obtain ⟨r1, r2, r3⟩ := hroom
    have hpow : 4 ^ (f + 1) = 4 ^ f * 4 := Nat.pow_succ ..
    have hp1 : 1 ≤ 4 ^ f := Nat.one_le_pow _ _ (by omega)
    have d8 : decide ((8 : Int) ≤ 8 - ((f + 1 : Nat) : Int)) = false := decide_eq_false (by omega)
    refine call_of tysZOK mixedZ Go.Proofs.Tryz.func69 (by kernel_rfl) rfl (np := [false, false, false, false, false, false, true]) (by kernel_rfl) hr69 hl69 (by simp [Go.Proofs.Tryz.ntmps69]) ?_
    simp -implicitDefEqProofs (maxSteps := 3000000) only [go_sem, reduceCtorEq, GDisk.cells, alBox_eq]
    refine ks_ReadPage d page (by omega) (by omega) rfl ?_
    simp -implicitDefEqProofs (maxSteps := 3000000) only [go_sem, reduceCtorEq]
    refine ks_ReadNode (readPage d page) (by have := hsm page; omega) rfl ?_
    rw [walkS]
    cases hn : readNode (readPage d page) with
    | none =>
      simp only [nodeV_none]
      simp -implicitDefEqProofs (maxSteps := 3000000) only [go_sem, reduceCtorEq, alBox_eq, d8]
      repeat ((first | refine req (by first | omega | assumption | exact commP_of (by kernel_rfl) | (simp only [LEN, List.length_append, List.length_cons, List.length_nil]; omega) | (simp [D.one]; omega) | (simp [D.one]; done)) ?_); simp -implicitDefEqProofs (maxSteps := 3000000) only [go_sem, reduceCtorEq, alBox_eq, d8])

    | some n =>
      obtain ⟨hok, _⟩ := readNode_iff.1 hn
      have hk4 := hok.2.1
      simp only [nodeV_some]
      simp -implicitDefEqProofs (maxSteps := 3000000) only [go_sem, reduceCtorEq, alBox_eq, d8]
      refine ks_In a.pages page (by simp only [LEN]; omega) (ls := [2]) (by simp -implicitDefEqProofs (maxSteps := 3000000) only [go_sem, reduceCtorEq]; try rfl) ?_
      by_cases hp : page ∈ a.pages
      · have dp := decide_eq_true hp
        rw [if_pos (.inl hp)]
        simp -implicitDefEqProofs (maxSteps := 3000000) only [go_sem, reduceCtorEq, alBox_eq, dp]
        repeat ((first | refine req (by first | omega | assumption | exact commP_of (by kernel_rfl) | (simp only [LEN, List.length_append, List.length_cons, List.length_nil]; omega) | (simp [D.one]; omega) | (simp [D.one]; done)) ?_); simp -implicitDefEqProofs (maxSteps := 3000000) only [go_sem, reduceCtorEq, alBox_eq, dp])
      · have dp := decide_eq_false hp
        cases hb : a.bad
        · rw [if_neg (by simp [hp])]
          cases hl : n.fLeaf
          · have hiff := (nodeOk_branch hl).1 hok
            simp -implicitDefEqProofs (maxSteps := 3000000) only [go_sem, reduceCtorEq, dp]
            repeat ((first | refine req (by first | omega | assumption | exact commP_of (by kernel_rfl) | (simp only [LEN, List.length_append, List.length_cons, List.length_nil]; omega) | (simp [D.one]; omega) | (simp [D.one]; done)) ?_); simp -implicitDefEqProofs (maxSteps := 3000000) only [go_sem, reduceCtorEq, dp])
            have e9 : IntKind.i64.wrap (8 - ((f + 1 : Nat) : Int) + 1) = 8 - (f : Int) := by rw [wrap_int (by omega) (by omega)]; omega
            simp only [Bool.false_eq_true, if_false]
            refine loop_data (α := Nat × Al) (fun x => ⟨[(2, .d (.int .i64 (8 - ((f + 1 : Nat) : Int)))), (3, .d (.str low)), (4, .d (.str high)), (5, .d (.bool has)), (6, .ref 0 0), (7, .ref 4 0), (14, .ref 5 0), (16, .d (.int .i64 x.1))],
                [(0, some (.box [.own 1 0 x.2.pairs.length, .own 2 0 x.2.pages.length, .own 3 0 x.2.deeps.length, .d (.bool x.2.bad), .d (.bool x.2.loose)])),
                 (1, some (.arr 2 (GPairS x.2.pairs))), (2, some (.arr 1 (ints x.2.pages))), (3, some (.arr 1 (ints x.2.deeps))), (4, some (.box [.d (.sl (strs d.fPages)), .d (.sl (GPutS d.fLate))])),
                 (5, some (.box [.d (.bool false), .d (.sl (strs n.fKeys)), .d (.sl (strs n.fVals)), .d (.sl (ints n.fKids))]))]⟩)
              (fun x => x.1 ≤ n.fKeys.length ∧ kidsS (walkS d f) low high has ((n.fKeys.zip n.fKids).drop x.1) x.2 = kidsS (walkS d f) low high has (n.fKeys.zip n.fKids) ⟨a.pairs, a.pages ++ [page], a.deeps, false, a.loose⟩ ∧
                x.2.pages.length ≤ a.pages.length + 1 + x.1 * (2 * 4 ^ f - 1) ∧ x.2.pairs.length ≤ a.pairs.length + x.1 * (2 * 4 ^ f - 1) ∧ x.2.deeps.length ≤ a.deeps.length + x.1 * (2 * 4 ^ f - 1))
              (fun x => n.fKeys.length - x.1) (0, ⟨a.pairs, a.pages ++ [page], a.deeps, false, a.loose⟩) (by simp) ⟨Nat.zero_le _, by rw [List.drop_zero], by simp, by simp, by simp⟩ ?_
            rintro ⟨i, u⟩ ⟨i1, i2, i4, i5, i6⟩
            simp only at i1 i2 i4 i5 i6
            simp -implicitDefEqProofs (maxSteps := 3000000) only [go_sem, reduceCtorEq]
            (first | (refine way_dec (fun h5 => ?_) (fun h5 => ?_)) | (refine way_ndec (fun h5 => ?_) (fun h5 => ?_)) | (refine wayT_dec (fun h5 => ?_) (fun h5 => ?_)) | (refine wayF_dec (fun h5 => ?_) (fun h5 => ?_)) | (refine wayT_ndec (fun h5 => ?_) (fun h5 => ?_)) | (refine wayF_ndec (fun h5 => ?_) (fun h5 => ?_)) | (refine way_not (fun h5 => ?_) (fun h5 => ?_)) | (refine way (fun h5 => ?_) (fun h5 => ?_)) | (refine wayT (fun h5 => ?_) (fun h5 => ?_)) | (refine wayF (fun h5 => ?_) (fun h5 => ?_)))
            · obtain ⟨k, hk⟩ := some_at (l := n.fKeys) (i := i) (by omega)
              obtain ⟨c, hc⟩ := some_at (l := n.fKids) (i := i) (by omega)
              rw [drop_cons (zip_at hk hc), kidsS] at i2
              have hi3 : i * (2 * 4 ^ f - 1) ≤ 3 * (2 * 4 ^ f - 1) := Nat.mul_le_mul_right _ (by omega)
              have hsm1 : (i + 1) * (2 * 4 ^ f - 1) = i * (2 * 4 ^ f - 1) + (2 * 4 ^ f - 1) := Nat.succ_mul ..
              cases hlk : bLess low k
              · have elo : lowS low k = low := by simp [lowS, hlk]
                have wsucc : IntKind.i64.wrap ((i : Int) + 1) = ((i + 1 : Nat) : Int) := wrap_succ (by simp only [LEN]; omega)
                by_cases hl2 : ((i + 1 : Nat) : Int) < (n.fKeys.length : Int)
                · have hlast : decide (((i + 1 : Nat) : Int) < (n.fKeys.length : Int)) = true := decide_eq_true hl2
                  obtain ⟨k2, hk2⟩ := some_at (l := n.fKeys) (i := i + 1) (by omega)
                  obtain ⟨c2, hc2⟩ := some_at (l := n.fKids) (i := i + 1) (by omega)
                  have hrest := drop_cons (zip_at hk2 hc2)
                  cases hhas : has
                  · subst hhas
                    have ehi : highS high false ((n.fKeys.zip n.fKids).drop (i + 1)) = k2 := by rw [hrest]; simp [highS, capS]
                    have emo : moreS high false ((n.fKeys.zip n.fKids).drop (i + 1)) = true := by rw [hrest]; simp [moreS, capS]
                    rw [elo, ehi, emo] at i2
                    have g1 := walk_pages (d := d) (f := f) (page := c) (low := low) (high := k2) (has := true) (a := u)
                    have g2 := walk_pairs (d := d) (f := f) (page := c) (low := low) (high := k2) (has := true) (a := u)
                    have g3 := walk_deeps (d := d) (f := f) (page := c) (low := low) (high := k2) (has := true) (a := u)
                    simp -implicitDefEqProofs (maxSteps := 3000000) only [go_sem, reduceCtorEq, lget_strs hk, lget_ints hc, e9, GDisk.cells, hlk, hlast, lget_strs hk2, wsucc]
                    repeat ((first | refine req (by first | omega | assumption | exact commP_of (by kernel_rfl) | (simp only [LEN, List.length_append, List.length_cons, List.length_nil]; omega) | (simp [D.one]; omega) | (simp [D.one]; done)) ?_ | refine call_boxL false (n := 0) (vs := [.agg [.d (.sl (strs d.fPages)), .d (.sl (GPutS d.fLate))], .d (.int .i64 c), .d (.int .i64 (8 - (f : Int))), .d (.str low), .d (.str k2), .d (.bool true)]) (xs := [.agg d.cells, .int .i64 c, .int .i64 (8 - (f : Int)), .str low, .str k2, .bool true]) (ih c (low) (k2) (true) u (by omega) ⟨by omega, by omega, by omega⟩) rfl rfl rfl rfl rfl rfl rfl rfl (.inr (.inl rfl)) ?_ rfl); simp -implicitDefEqProofs (maxSteps := 3000000) only [go_sem, reduceCtorEq, lget_strs hk, lget_ints hc, e9, alBox_eq, hlk, hlast, lget_strs hk2, wsucc])
                    generalize hv : walkS d f c (low) (k2) (true) u = v at i2 g1 g2 g3 ⊢
                    try rw [wrap_succ (by simp only [LEN]; omega)]
                    exact next_data (i + 1, v) (by first | rfl | rw [wsucc]) ⟨by simp only; omega, i2, by simp only; omega, by simp only; omega, by simp only; omega⟩ (by simp only; omega)
                  · subst hhas
                    cases hcap : bLess k2 high
                    · have ehi : highS high true ((n.fKeys.zip n.fKids).drop (i + 1)) = high := by rw [hrest]; simp [highS, capS, hcap]
                      have emo : moreS high true ((n.fKeys.zip n.fKids).drop (i + 1)) = true := by rw [hrest]; simp [moreS, capS, hcap]
                      rw [elo, ehi, emo] at i2
                      have g1 := walk_pages (d := d) (f := f) (page := c) (low := low) (high := high) (has := true) (a := u)
                      have g2 := walk_pairs (d := d) (f := f) (page := c) (low := low) (high := high) (has := true) (a := u)
                      have g3 := walk_deeps (d := d) (f := f) (page := c) (low := low) (high := high) (has := true) (a := u)
                      simp -implicitDefEqProofs (maxSteps := 3000000) only [go_sem, reduceCtorEq, lget_strs hk, lget_ints hc, e9, GDisk.cells, hlk, hlast, hcap, lget_strs hk2, wsucc]
                      repeat ((first | refine req (by first | omega | assumption | exact commP_of (by kernel_rfl) | (simp only [LEN, List.length_append, List.length_cons, List.length_nil]; omega) | (simp [D.one]; omega) | (simp [D.one]; done)) ?_ | refine call_boxL false (n := 0) (vs := [.agg [.d (.sl (strs d.fPages)), .d (.sl (GPutS d.fLate))], .d (.int .i64 c), .d (.int .i64 (8 - (f : Int))), .d (.str low), .d (.str high), .d (.bool true)]) (xs := [.agg d.cells, .int .i64 c, .int .i64 (8 - (f : Int)), .str low, .str high, .bool true]) (ih c (low) (high) (true) u (by omega) ⟨by omega, by omega, by omega⟩) rfl rfl rfl rfl rfl rfl rfl rfl (.inr (.inl rfl)) ?_ rfl); simp -implicitDefEqProofs (maxSteps := 3000000) only [go_sem, reduceCtorEq, lget_strs hk, lget_ints hc, e9, alBox_eq, hlk, hlast, hcap, lget_strs hk2, wsucc])
                      generalize hv : walkS d f c (low) (high) (true) u = v at i2 g1 g2 g3 ⊢
                      try rw [wrap_succ (by simp only [LEN]; omega)]
                      exact next_data (i + 1, v) (by first | rfl | rw [wsucc]) ⟨by simp only; omega, i2, by simp only; omega, by simp only; omega, by simp only; omega⟩ (by simp only; omega)
                    · have ehi : highS high true ((n.fKeys.zip n.fKids).drop (i + 1)) = k2 := by rw [hrest]; simp [highS, capS, hcap]
                      have emo : moreS high true ((n.fKeys.zip n.fKids).drop (i + 1)) = true := by rw [hrest]; simp [moreS, capS, hcap]
                      rw [elo, ehi, emo] at i2
                      have g1 := walk_pages (d := d) (f := f) (page := c) (low := low) (high := k2) (has := true) (a := u)
                      have g2 := walk_pairs (d := d) (f := f) (page := c) (low := low) (high := k2) (has := true) (a := u)
                      have g3 := walk_deeps (d := d) (f := f) (page := c) (low := low) (high := k2) (has := true) (a := u)
                      simp -implicitDefEqProofs (maxSteps := 3000000) only [go_sem, reduceCtorEq, lget_strs hk, lget_ints hc, e9, GDisk.cells, hlk, hlast, hcap, lget_strs hk2, wsucc]
                      repeat ((first | refine req (by first | omega | assumption | exact commP_of (by kernel_rfl) | (simp only [LEN, List.length_append, List.length_cons, List.length_nil]; omega) | (simp [D.one]; omega) | (simp [D.one]; done)) ?_ | refine call_boxL false (n := 0) (vs := [.agg [.d (.sl (strs d.fPages)), .d (.sl (GPutS d.fLate))], .d (.int .i64 c), .d (.int .i64 (8 - (f : Int))), .d (.str low), .d (.str k2), .d (.bool true)]) (xs := [.agg d.cells, .int .i64 c, .int .i64 (8 - (f : Int)), .str low, .str k2, .bool true]) (ih c (low) (k2) (true) u (by omega) ⟨by omega, by omega, by omega⟩) rfl rfl rfl rfl rfl rfl rfl rfl (.inr (.inl rfl)) ?_ rfl); simp -implicitDefEqProofs (maxSteps := 3000000) only [go_sem, reduceCtorEq, lget_strs hk, lget_ints hc, e9, alBox_eq, hlk, hlast, hcap, lget_strs hk2, wsucc])
                      generalize hv : walkS d f c (low) (k2) (true) u = v at i2 g1 g2 g3 ⊢
                      try rw [wrap_succ (by simp only [LEN]; omega)]
                      exact next_data (i + 1, v) (by first | rfl | rw [wsucc]) ⟨by simp only; omega, i2, by simp only; omega, by simp only; omega, by simp only; omega⟩ (by simp only; omega)
                · have hlast : decide (((i + 1 : Nat) : Int) < (n.fKeys.length : Int)) = false := decide_eq_false hl2
                  have hrest : (n.fKeys.zip n.fKids).drop (i + 1) = [] := List.drop_eq_nil_of_le (by simp only [List.length_zip]; omega)
                  have ehi : highS high has ((n.fKeys.zip n.fKids).drop (i + 1)) = high := by rw [hrest]; simp [highS, capS]
                  have emo : moreS high has ((n.fKeys.zip n.fKids).drop (i + 1)) = has := by rw [hrest]; simp [moreS, capS]
                  rw [elo, ehi, emo] at i2
                  have g1 := walk_pages (d := d) (f := f) (page := c) (low := low) (high := high) (has := has) (a := u)
                  have g2 := walk_pairs (d := d) (f := f) (page := c) (low := low) (high := high) (has := has) (a := u)
                  have g3 := walk_deeps (d := d) (f := f) (page := c) (low := low) (high := high) (has := has) (a := u)
                  simp -implicitDefEqProofs (maxSteps := 3000000) only [go_sem, reduceCtorEq, lget_strs hk, lget_ints hc, e9, GDisk.cells, hlk, hlast, wsucc]
                  repeat ((first | refine req (by first | omega | assumption | exact commP_of (by kernel_rfl) | (simp only [LEN, List.length_append, List.length_cons, List.length_nil]; omega) | (simp [D.one]; omega) | (simp [D.one]; done)) ?_ | refine call_boxL false (n := 0) (vs := [.agg [.d (.sl (strs d.fPages)), .d (.sl (GPutS d.fLate))], .d (.int .i64 c), .d (.int .i64 (8 - (f : Int))), .d (.str low), .d (.str high), .d (.bool has)]) (xs := [.agg d.cells, .int .i64 c, .int .i64 (8 - (f : Int)), .str low, .str high, .bool has]) (ih c (low) (high) (has) u (by omega) ⟨by omega, by omega, by omega⟩) rfl rfl rfl rfl rfl rfl rfl rfl (.inr (.inl rfl)) ?_ rfl); simp -implicitDefEqProofs (maxSteps := 3000000) only [go_sem, reduceCtorEq, lget_strs hk, lget_ints hc, e9, alBox_eq, hlk, hlast, wsucc])
                  generalize hv : walkS d f c (low) (high) (has) u = v at i2 g1 g2 g3 ⊢
                  try rw [wrap_succ (by simp only [LEN]; omega)]
                  exact next_data (i + 1, v) (by first | rfl | rw [wsucc]) ⟨by simp only; omega, i2, by simp only; omega, by simp only; omega, by simp only; omega⟩ (by simp only; omega)
              · have elo : lowS low k = k := by simp [lowS, hlk]
                have wsucc : IntKind.i64.wrap ((i : Int) + 1) = ((i + 1 : Nat) : Int) := wrap_succ (by simp only [LEN]; omega)
                by_cases hl2 : ((i + 1 : Nat) : Int) < (n.fKeys.length : Int)
                · have hlast : decide (((i + 1 : Nat) : Int) < (n.fKeys.length : Int)) = true := decide_eq_true hl2
                  obtain ⟨k2, hk2⟩ := some_at (l := n.fKeys) (i := i + 1) (by omega)
                  obtain ⟨c2, hc2⟩ := some_at (l := n.fKids) (i := i + 1) (by omega)
                  have hrest := drop_cons (zip_at hk2 hc2)
                  cases hhas : has
                  · subst hhas
                    have ehi : highS high false ((n.fKeys.zip n.fKids).drop (i + 1)) = k2 := by rw [hrest]; simp [highS, capS]
                    have emo : moreS high false ((n.fKeys.zip n.fKids).drop (i + 1)) = true := by rw [hrest]; simp [moreS, capS]
                    rw [elo, ehi, emo] at i2
                    have g1 := walk_pages (d := d) (f := f) (page := c) (low := k) (high := k2) (has := true) (a := u)
                    have g2 := walk_pairs (d := d) (f := f) (page := c) (low := k) (high := k2) (has := true) (a := u)
                    have g3 := walk_deeps (d := d) (f := f) (page := c) (low := k) (high := k2) (has := true) (a := u)
                    simp -implicitDefEqProofs (maxSteps := 3000000) only [go_sem, reduceCtorEq, lget_strs hk, lget_ints hc, e9, GDisk.cells, hlk, hlast, lget_strs hk2, wsucc]
                    repeat ((first | refine req (by first | omega | assumption | exact commP_of (by kernel_rfl) | (simp only [LEN, List.length_append, List.length_cons, List.length_nil]; omega) | (simp [D.one]; omega) | (simp [D.one]; done)) ?_ | refine call_boxL false (n := 0) (vs := [.agg [.d (.sl (strs d.fPages)), .d (.sl (GPutS d.fLate))], .d (.int .i64 c), .d (.int .i64 (8 - (f : Int))), .d (.str k), .d (.str k2), .d (.bool true)]) (xs := [.agg d.cells, .int .i64 c, .int .i64 (8 - (f : Int)), .str k, .str k2, .bool true]) (ih c (k) (k2) (true) u (by omega) ⟨by omega, by omega, by omega⟩) rfl rfl rfl rfl rfl rfl rfl rfl (.inr (.inl rfl)) ?_ rfl); simp -implicitDefEqProofs (maxSteps := 3000000) only [go_sem, reduceCtorEq, lget_strs hk, lget_ints hc, e9, alBox_eq, hlk, hlast, lget_strs hk2, wsucc])
                    generalize hv : walkS d f c (k) (k2) (true) u = v at i2 g1 g2 g3 ⊢
                    try rw [wrap_succ (by simp only [LEN]; omega)]
                    exact next_data (i + 1, v) (by first | rfl | rw [wsucc]) ⟨by simp only; omega, i2, by simp only; omega, by simp only; omega, by simp only; omega⟩ (by simp only; omega)
                  · subst hhas
                    cases hcap : bLess k2 high
                    · have ehi : highS high true ((n.fKeys.zip n.fKids).drop (i + 1)) = high := by rw [hrest]; simp [highS, capS, hcap]
                      have emo : moreS high true ((n.fKeys.zip n.fKids).drop (i + 1)) = true := by rw [hrest]; simp [moreS, capS, hcap]
                      rw [elo, ehi, emo] at i2
                      have g1 := walk_pages (d := d) (f := f) (page := c) (low := k) (high := high) (has := true) (a := u)
                      have g2 := walk_pairs (d := d) (f := f) (page := c) (low := k) (high := high) (has := true) (a := u)
                      have g3 := walk_deeps (d := d) (f := f) (page := c) (low := k) (high := high) (has := true) (a := u)
                      simp -implicitDefEqProofs (maxSteps := 3000000) only [go_sem, reduceCtorEq, lget_strs hk, lget_ints hc, e9, GDisk.cells, hlk, hlast, hcap, lget_strs hk2, wsucc]
                      repeat ((first | refine req (by first | omega | assumption | exact commP_of (by kernel_rfl) | (simp only [LEN, List.length_append, List.length_cons, List.length_nil]; omega) | (simp [D.one]; omega) | (simp [D.one]; done)) ?_ | refine call_boxL false (n := 0) (vs := [.agg [.d (.sl (strs d.fPages)), .d (.sl (GPutS d.fLate))], .d (.int .i64 c), .d (.int .i64 (8 - (f : Int))), .d (.str k), .d (.str high), .d (.bool true)]) (xs := [.agg d.cells, .int .i64 c, .int .i64 (8 - (f : Int)), .str k, .str high, .bool true]) (ih c (k) (high) (true) u (by omega) ⟨by omega, by omega, by omega⟩) rfl rfl rfl rfl rfl rfl rfl rfl (.inr (.inl rfl)) ?_ rfl); simp -implicitDefEqProofs (maxSteps := 3000000) only [go_sem, reduceCtorEq, lget_strs hk, lget_ints hc, e9, alBox_eq, hlk, hlast, hcap, lget_strs hk2, wsucc])
                      generalize hv : walkS d f c (k) (high) (true) u = v at i2 g1 g2 g3 ⊢
                      try rw [wrap_succ (by simp only [LEN]; omega)]
                      exact next_data (i + 1, v) (by first | rfl | rw [wsucc]) ⟨by simp only; omega, i2, by simp only; omega, by simp only; omega, by simp only; omega⟩ (by simp only; omega)
                    · have ehi : highS high true ((n.fKeys.zip n.fKids).drop (i + 1)) = k2 := by rw [hrest]; simp [highS, capS, hcap]
                      have emo : moreS high true ((n.fKeys.zip n.fKids).drop (i + 1)) = true := by rw [hrest]; simp [moreS, capS, hcap]
                      rw [elo, ehi, emo] at i2
                      have g1 := walk_pages (d := d) (f := f) (page := c) (low := k) (high := k2) (has := true) (a := u)
                      have g2 := walk_pairs (d := d) (f := f) (page := c) (low := k) (high := k2) (has := true) (a := u)
                      have g3 := walk_deeps (d := d) (f := f) (page := c) (low := k) (high := k2) (has := true) (a := u)
                      simp -implicitDefEqProofs (maxSteps := 3000000) only [go_sem, reduceCtorEq, lget_strs hk, lget_ints hc, e9, GDisk.cells, hlk, hlast, hcap, lget_strs hk2, wsucc]
                      repeat ((first | refine req (by first | omega | assumption | exact commP_of (by kernel_rfl) | (simp only [LEN, List.length_append, List.length_cons, List.length_nil]; omega) | (simp [D.one]; omega) | (simp [D.one]; done)) ?_ | refine call_boxL false (n := 0) (vs := [.agg [.d (.sl (strs d.fPages)), .d (.sl (GPutS d.fLate))], .d (.int .i64 c), .d (.int .i64 (8 - (f : Int))), .d (.str k), .d (.str k2), .d (.bool true)]) (xs := [.agg d.cells, .int .i64 c, .int .i64 (8 - (f : Int)), .str k, .str k2, .bool true]) (ih c (k) (k2) (true) u (by omega) ⟨by omega, by omega, by omega⟩) rfl rfl rfl rfl rfl rfl rfl rfl (.inr (.inl rfl)) ?_ rfl); simp -implicitDefEqProofs (maxSteps := 3000000) only [go_sem, reduceCtorEq, lget_strs hk, lget_ints hc, e9, alBox_eq, hlk, hlast, hcap, lget_strs hk2, wsucc])
                      generalize hv : walkS d f c (k) (k2) (true) u = v at i2 g1 g2 g3 ⊢
                      try rw [wrap_succ (by simp only [LEN]; omega)]
                      exact next_data (i + 1, v) (by first | rfl | rw [wsucc]) ⟨by simp only; omega, i2, by simp only; omega, by simp only; omega, by simp only; omega⟩ (by simp only; omega)
                · have hlast : decide (((i + 1 : Nat) : Int) < (n.fKeys.length : Int)) = false := decide_eq_false hl2
                  have hrest : (n.fKeys.zip n.fKids).drop (i + 1) = [] := List.drop_eq_nil_of_le (by simp only [List.length_zip]; omega)
                  have ehi : highS high has ((n.fKeys.zip n.fKids).drop (i + 1)) = high := by rw [hrest]; simp [highS, capS]
                  have emo : moreS high has ((n.fKeys.zip n.fKids).drop (i + 1)) = has := by rw [hrest]; simp [moreS, capS]
                  rw [elo, ehi, emo] at i2
                  have g1 := walk_pages (d := d) (f := f) (page := c) (low := k) (high := high) (has := has) (a := u)
                  have g2 := walk_pairs (d := d) (f := f) (page := c) (low := k) (high := high) (has := has) (a := u)
                  have g3 := walk_deeps (d := d) (f := f) (page := c) (low := k) (high := high) (has := has) (a := u)
                  simp -implicitDefEqProofs (maxSteps := 3000000) only [go_sem, reduceCtorEq, lget_strs hk, lget_ints hc, e9, GDisk.cells, hlk, hlast, wsucc]
                  repeat ((first | refine req (by first | omega | assumption | exact commP_of (by kernel_rfl) | (simp only [LEN, List.length_append, List.length_cons, List.length_nil]; omega) | (simp [D.one]; omega) | (simp [D.one]; done)) ?_ | refine call_boxL false (n := 0) (vs := [.agg [.d (.sl (strs d.fPages)), .d (.sl (GPutS d.fLate))], .d (.int .i64 c), .d (.int .i64 (8 - (f : Int))), .d (.str k), .d (.str high), .d (.bool has)]) (xs := [.agg d.cells, .int .i64 c, .int .i64 (8 - (f : Int)), .str k, .str high, .bool has]) (ih c (k) (high) (has) u (by omega) ⟨by omega, by omega, by omega⟩) rfl rfl rfl rfl rfl rfl rfl rfl (.inr (.inl rfl)) ?_ rfl); simp -implicitDefEqProofs (maxSteps := 3000000) only [go_sem, reduceCtorEq, lget_strs hk, lget_ints hc, e9, alBox_eq, hlk, hlast, wsucc])
                  generalize hv : walkS d f c (k) (high) (has) u = v at i2 g1 g2 g3 ⊢
                  try rw [wrap_succ (by simp only [LEN]; omega)]
                  exact next_data (i + 1, v) (by first | rfl | rw [wsucc]) ⟨by simp only; omega, i2, by simp only; omega, by simp only; omega, by simp only; omega⟩ (by simp only; omega)
            · simp -implicitDefEqProofs (maxSteps := 3000000) only [go_sem, reduceCtorEq]
              obtain rfl : i = n.fKeys.length := by omega
              rw [List.drop_eq_nil_of_le (by simp only [List.length_zip]; omega), kidsS] at i2
              rw [← i2]
              rfl
          · have hiff := (nodeOk_leaf hl).1 hok
            simp -implicitDefEqProofs (maxSteps := 3000000) only [go_sem, reduceCtorEq, dp]
            repeat ((first | refine req (by first | omega | assumption | exact commP_of (by kernel_rfl) | (simp only [LEN, List.length_append, List.length_cons, List.length_nil]; omega) | (simp [D.one]; omega) | (simp [D.one]; done)) ?_); simp -implicitDefEqProofs (maxSteps := 3000000) only [go_sem, reduceCtorEq, dp])
            simp only [if_true]
            refine loop_data (α := Nat × Al) (fun x => ⟨[(2, .d (.int .i64 (8 - ((f + 1 : Nat) : Int)))), (3, .d (.str low)), (4, .d (.str high)), (5, .d (.bool has)), (6, .ref 0 0), (7, .ref 4 0), (14, .ref 5 0), (16, .d (.int .i64 x.1))],
                [(0, some (.box [.own 1 0 x.2.pairs.length, .own 2 0 x.2.pages.length, .own 3 0 x.2.deeps.length, .d (.bool x.2.bad), .d (.bool x.2.loose)])),
                 (1, some (.arr 2 (GPairS x.2.pairs))), (2, some (.arr 1 (ints x.2.pages))), (3, some (.arr 1 (ints x.2.deeps))), (4, some (.box [.d (.sl (strs d.fPages)), .d (.sl (GPutS d.fLate))])),
                 (5, some (.box [.d (.bool true), .d (.sl (strs n.fKeys)), .d (.sl (strs n.fVals)), .d (.sl (ints n.fKids))]))]⟩)
              (fun x => x.1 ≤ n.fKeys.length ∧ leafS low high has ((n.fKeys.zip n.fVals).drop x.1) x.2 = leafS low high has (n.fKeys.zip n.fVals) ⟨a.pairs, a.pages ++ [page], a.deeps, false, a.loose⟩ ∧
                x.2.pages.length = a.pages.length + 1 ∧ x.2.pairs.length ≤ a.pairs.length + x.1 ∧ x.2.deeps.length = a.deeps.length)
              (fun x => n.fKeys.length - x.1) (0, ⟨a.pairs, a.pages ++ [page], a.deeps, false, a.loose⟩) (by simp) ⟨Nat.zero_le _, by rw [List.drop_zero], by simp, by simp, by simp⟩ ?_
            rintro ⟨i, u⟩ ⟨i1, i2, i4, i5, i6⟩
            simp only at i1 i2 i4 i5 i6
            simp -implicitDefEqProofs (maxSteps := 3000000) only [go_sem, reduceCtorEq]
            (first | (refine way_dec (fun h5 => ?_) (fun h5 => ?_)) | (refine way_ndec (fun h5 => ?_) (fun h5 => ?_)) | (refine wayT_dec (fun h5 => ?_) (fun h5 => ?_)) | (refine wayF_dec (fun h5 => ?_) (fun h5 => ?_)) | (refine wayT_ndec (fun h5 => ?_) (fun h5 => ?_)) | (refine wayF_ndec (fun h5 => ?_) (fun h5 => ?_)) | (refine way_not (fun h5 => ?_) (fun h5 => ?_)) | (refine way (fun h5 => ?_) (fun h5 => ?_)) | (refine wayT (fun h5 => ?_) (fun h5 => ?_)) | (refine wayF (fun h5 => ?_) (fun h5 => ?_)))
            · obtain ⟨k, hk⟩ := some_at (l := n.fKeys) (i := i) (by omega)
              obtain ⟨v, hv⟩ := some_at (l := n.fVals) (i := i) (by omega)
              rw [drop_cons (zip_at hk hv), leafS_cons] at i2
              cases hlk : bLess k low
              · cases hhas : has
                · simp -implicitDefEqProofs (maxSteps := 3000000) only [go_sem, reduceCtorEq, lget_strs hk, lget_strs hv, hlk]
                  repeat ((first | refine req (by first | omega | assumption | exact commP_of (by kernel_rfl) | (simp only [LEN, List.length_append, List.length_cons, List.length_nil]; omega) | (simp [D.one]; omega) | (simp [D.one]; done)) ?_); simp -implicitDefEqProofs (maxSteps := 3000000) only [go_sem, reduceCtorEq, lget_strs hk, lget_strs hv, hlk])
                  rw [wrap_succ (by simp only [LEN]; omega)]
                  subst hhas
                  exact next_data (i + 1, leaf1 low high false k v u) (by simp [leaf1, hlk]) ⟨by simp only; omega, i2, by simp only [leaf1]; omega, by simp only [leaf1, List.length_append, List.length_cons, List.length_nil]; omega, by simp only [leaf1]; omega⟩ (by simp only; omega)
                · subst hhas
                  cases hkh : bLess k high
                  · simp -implicitDefEqProofs (maxSteps := 3000000) only [go_sem, reduceCtorEq, lget_strs hk, lget_strs hv, hlk, hkh]
                    repeat ((first | refine req (by first | omega | assumption | exact commP_of (by kernel_rfl) | (simp only [LEN, List.length_append, List.length_cons, List.length_nil]; omega) | (simp [D.one]; omega) | (simp [D.one]; done)) ?_); simp -implicitDefEqProofs (maxSteps := 3000000) only [go_sem, reduceCtorEq, lget_strs hk, lget_strs hv, hlk, hkh])
                    rw [wrap_succ (by simp only [LEN]; omega)]
                    exact next_data (i + 1, leaf1 low high true k v u) (by simp [leaf1, hlk, hkh]) ⟨by simp only; omega, i2, by simp only [leaf1]; omega, by simp only [leaf1, List.length_append, List.length_cons, List.length_nil]; omega, by simp only [leaf1]; omega⟩ (by simp only; omega)
                  · simp -implicitDefEqProofs (maxSteps := 3000000) only [go_sem, reduceCtorEq, lget_strs hk, lget_strs hv, hlk, hkh]
                    repeat ((first | refine req (by first | omega | assumption | exact commP_of (by kernel_rfl) | (simp only [LEN, List.length_append, List.length_cons, List.length_nil]; omega) | (simp [D.one]; omega) | (simp [D.one]; done)) ?_); simp -implicitDefEqProofs (maxSteps := 3000000) only [go_sem, reduceCtorEq, lget_strs hk, lget_strs hv, hlk, hkh])
                    rw [wrap_succ (by simp only [LEN]; omega)]
                    exact next_data (i + 1, leaf1 low high true k v u) (by simp [leaf1, hlk, hkh]) ⟨by simp only; omega, i2, by simp only [leaf1]; omega, by simp only [leaf1, List.length_append, List.length_cons, List.length_nil]; omega, by simp only [leaf1]; omega⟩ (by simp only; omega)
              · simp -implicitDefEqProofs (maxSteps := 3000000) only [go_sem, reduceCtorEq, lget_strs hk, lget_strs hv, hlk]
                repeat ((first | refine req (by first | omega | assumption | exact commP_of (by kernel_rfl) | (simp only [LEN, List.length_append, List.length_cons, List.length_nil]; omega) | (simp [D.one]; omega) | (simp [D.one]; done)) ?_); simp -implicitDefEqProofs (maxSteps := 3000000) only [go_sem, reduceCtorEq, lget_strs hk, lget_strs hv, hlk])
                rw [wrap_succ (by simp only [LEN]; omega)]
                exact next_data (i + 1, leaf1 low high has k v u) (by simp [leaf1, hlk]) ⟨by simp only; omega, i2, by simp only [leaf1]; omega, by simp only [leaf1, List.length_append, List.length_cons, List.length_nil]; omega, by simp only [leaf1]; omega⟩ (by simp only; omega)
            · obtain rfl : i = n.fKeys.length := by omega
              rw [List.drop_eq_nil_of_le (by simp only [List.length_zip]; omega), leafS] at i2
              rw [← i2]
              simp -implicitDefEqProofs (maxSteps := 3000000) only [go_sem, reduceCtorEq]
              repeat ((first | refine req (by first | omega | assumption | exact commP_of (by kernel_rfl) | (simp only [LEN, List.length_append, List.length_cons, List.length_nil]; omega) | (simp [D.one]; omega) | (simp [D.one]; done)) ?_); simp -implicitDefEqProofs (maxSteps := 3000000) only [go_sem, reduceCtorEq])
              have e98 : (8 : Int) - ((f + 1 : Nat) : Int) = 7 - (f : Int) := by omega
              rw [e98]
              simp [alBox]
        · rw [if_pos (.inr rfl)]
          simp -implicitDefEqProofs (maxSteps := 3000000) only [go_sem, reduceCtorEq, alBox_eq, dp]
          repeat ((first | refine req (by first | omega | assumption | exact commP_of (by kernel_rfl) | (simp only [LEN, List.length_append, List.length_cons, List.length_nil]; omega) | (simp [D.one]; omega) | (simp [D.one]; done)) ?_); simp -implicitDefEqProofs (maxSteps := 3000000) only [go_sem, reduceCtorEq, alBox_eq, dp])
end Go.Rx

namespace Go.Rx
open Go
attribute [local irreducible] Req Way WayG Sel callVC CallOK
set_option linter.unusedSimpArgs false
set_option linter.unusedVariables false

theorem room_new {f : Nat} (hf : f ≤ 8) : room f Tr.new := by
  have : 4 ^ f ≤ 4 ^ 8 := Nat.pow_le_pow_right (by omega) hf
  have e : (4 : Nat) ^ 8 = 65536 := by decide
  refine ⟨?_, ?_, ?_⟩ <;> simp only [Tr.new, List.length_nil] <;> omega
theorem roomS_new {f : Nat} (hf : f ≤ 8) : roomS f Al.new := by
  have : 4 ^ f ≤ 4 ^ 8 := Nat.pow_le_pow_right (by omega) hf
  have e : (4 : Nat) ^ 8 = 65536 := by decide
  refine ⟨?_, ?_, ?_⟩ <;> simp only [Al.new, List.length_nil] <;> omega

@[go_sem] def hr119 : Hints
  | 0 => [0, 1] | 1 => [1, 2] | 2 => [1, 5] | 3 => [1, 5] | 4 => [5] | _ => []
@[go_sem] def hl119 : Hints := fun _ => []
attribute [go_sem] Go.Proofs.Tryz.results119
set_option maxRecDepth 100000 in
set_option maxHeartbeats 2000000 in
theorem ci_treeOf (d : GDisk) (root : Int) (h1 : d.fPages.length ≤ 1048576) (h2 : d.fLate.length ≤ 1048576) (hsm : ∀ p, (readPage d p).length ≤ 1048576) :
    CallOK Go.Proofs.Tryz.prog 119 [.d (.agg d.cells), .d (.int .i64 root)] [] [.dead, .dead] (.ref 0 0) (trBox d (treeOf d root)) := by
  refine call_of tysZOK mixedZ Go.Proofs.Tryz.func119 (by kernel_rfl) rfl (np := [false, false]) (by kernel_rfl) hr119 hl119 (by simp [Go.Proofs.Tryz.ntmps119]) ?_
  simp -implicitDefEqProofs (maxSteps := 3000000) only [go_sem, reduceCtorEq, GDisk.cells]
  by_cases hr : root = 0
  · have dr := decide_eq_true hr
    simp -implicitDefEqProofs (maxSteps := 3000000) only [go_sem, reduceCtorEq, dr]
    rw [treeOf, if_pos hr]
    rfl
  · have dr := decide_eq_false hr
    simp -implicitDefEqProofs (maxSteps := 3000000) only [go_sem, reduceCtorEq, dr]
    refine call_boxO false (xs := [.int .i64 root, .int .i64 1]) (ci_down d h1 h2 hsm 8 root Tr.new (by omega) (room_new (by omega))) rfl rfl rfl rfl rfl rfl rfl rfl (.inr (.inl rfl)) ?_
    simp -implicitDefEqProofs (maxSteps := 3000000) only [go_sem, reduceCtorEq, trBox_eq]
    rw [treeOf, if_neg hr]
@[go_sem] def hr35 : Hints
  | 0 => [0, 1] | 1 => [1, 2] | 2 => [1, 2, 5] | 3 => [1, 2, 5] | 4 => [5] | _ => []
@[go_sem] def hl35 : Hints := fun _ => []
attribute [go_sem] Go.Proofs.Tryz.results35
set_option maxRecDepth 100000 in
set_option maxHeartbeats 2000000 in
theorem cs_look (d : GDisk) (root : Int) (h1 : d.fPages.length ≤ 1048576) (h2 : d.fLate.length ≤ 1048576) (hsm : ∀ p, (readPage d p).length ≤ 1048576) :
    CallOK Go.Proofs.Tryz.prog 35 [.d (.agg d.cells), .d (.int .i64 root)] [] [.dead, .dead] (.ref 0 0) (alBox (lookS d root)) := by
  refine call_of tysZOK mixedZ Go.Proofs.Tryz.func35 (by kernel_rfl) rfl (np := [false, false]) (by kernel_rfl) hr35 hl35 (by simp [Go.Proofs.Tryz.ntmps35]) ?_
  simp -implicitDefEqProofs (maxSteps := 3000000) only [go_sem, reduceCtorEq, GDisk.cells]
  by_cases hr : root = 0
  · have dr := decide_eq_true hr
    simp -implicitDefEqProofs (maxSteps := 3000000) only [go_sem, reduceCtorEq, dr]
    rw [lookS, if_pos hr]
    rfl
  · have dr := decide_eq_false hr
    simp -implicitDefEqProofs (maxSteps := 3000000) only [go_sem, reduceCtorEq, dr]
    refine call_boxL false (n := 1) (vs := [.agg [.d (.sl (strs d.fPages)), .d (.sl (GPutS d.fLate))], .d (.int .i64 root), .d (.int .i64 0), .d (.str []), .d (.str []), .d (.bool false)]) (xs := [.agg d.cells, .int .i64 root, .int .i64 0, .str [], .str [], .bool false]) (cs_walk d h1 h2 hsm 8 root [] [] false Al.new (by omega) (roomS_new (by omega))) rfl rfl rfl rfl rfl rfl rfl rfl (.inr (.inl rfl)) ?_ rfl
    simp -implicitDefEqProofs (maxSteps := 3000000) only [go_sem, reduceCtorEq, alBox_eq]
    rw [lookS, if_neg hr]

def pairsV : Option (List GPair) → V
  | none => .tup [.d (.sl []), .d (.bool false)]
  | some l => .tup [.d (.sl (GPairS l)), .d (.bool true)]
def allPairsV (d : GDisk) (root : Int) : V := pairsV (allPairs d root)

@[go_sem] def hr83 : Hints
  | 0 => [0, 1] | 1 => [1, 2] | 2 => [6] | 3 => [] | 4 => [6] | _ => []
@[go_sem] def hl83 : Hints := fun _ => []
attribute [go_sem] Go.Proofs.Tryz.results83
set_option maxRecDepth 100000 in
set_option maxHeartbeats 2000000 in
theorem ci_AllPairs (d : GDisk) (root : Int) (h1 : d.fPages.length ≤ 1048576) (h2 : d.fLate.length ≤ 1048576) (hsm : ∀ p, (readPage d p).length ≤ 1048576) : CallOK Go.Proofs.Tryz.prog 83 [.d (.agg d.cells), .d (.int .i64 root)] [] [.dead, .dead] (pairsV (allPairs d root)) [] := by
  refine call_fr tysZOK mixedZ Go.Proofs.Tryz.func83 (by kernel_rfl) rfl (by kernel_rfl) hr83 hl83 (by simp [Go.Proofs.Tryz.ntmps83]) rfl ?_
  simp -implicitDefEqProofs (maxSteps := 3000000) only [go_sem, reduceCtorEq, GDisk.cells]
  refine call_free (xs := [.agg d.cells, .int .i64 root]) rfl (ci_treeOf d root h1 h2 hsm) rfl (.inl rfl) ?_
  rw [allPairs]
  cases hb : (treeOf d root).bad
  · simp -implicitDefEqProofs (maxSteps := 3000000) only [go_sem, reduceCtorEq, trBox_eq, hb]
    repeat ((first | refine req (by first | omega | assumption | exact commP_of (by kernel_rfl) | (simp only [LEN, List.length_append, List.length_cons, List.length_nil]; omega) | (simp [D.one]; omega) | (simp [D.one]; done)) ?_); simp -implicitDefEqProofs (maxSteps := 3000000) only [go_sem, reduceCtorEq, trBox_eq, hb])
    rfl
  · simp -implicitDefEqProofs (maxSteps := 3000000) only [go_sem, reduceCtorEq, trBox_eq, hb]
    repeat ((first | refine req (by first | omega | assumption | exact commP_of (by kernel_rfl) | (simp only [LEN, List.length_append, List.length_cons, List.length_nil]; omega) | (simp [D.one]; omega) | (simp [D.one]; done)) ?_); simp -implicitDefEqProofs (maxSteps := 3000000) only [go_sem, reduceCtorEq, trBox_eq, hb])
    rfl
theorem ki_AllPairs {h : Heap} {tb : Nat} {K : OK} {args : List V} (d : GDisk) (root : Int) (h1 : d.fPages.length ≤ 1048576) (h2 : d.fLate.length ≤ 1048576) (hsm : ∀ p, (readPage d p).length ≤ 1048576) (hg : toDs h args = some ([.agg d.cells, .int .i64 root], []))
    (hk : K (renV (bk tb ([])) (pairsV (allPairs d root))) (updN tb ([]) ([]))) : callVC Go.Proofs.Tryz.prog h tb 83 args K :=
  call_free hg (ci_AllPairs d root h1 h2 hsm) rfl (.inl rfl) hk
@[go_sem] def hr34 : Hints
  | 0 => [0, 1] | 1 => [1, 2] | 2 => [6] | 3 => [] | 4 => [6] | _ => []
@[go_sem] def hl34 : Hints := fun _ => []
attribute [go_sem] Go.Proofs.Tryz.results34
set_option maxRecDepth 100000 in
set_option maxHeartbeats 2000000 in
theorem cs_AllPairs (d : GDisk) (root : Int) (h1 : d.fPages.length ≤ 1048576) (h2 : d.fLate.length ≤ 1048576) (hsm : ∀ p, (readPage d p).length ≤ 1048576) : CallOK Go.Proofs.Tryz.prog 34 [.d (.agg d.cells), .d (.int .i64 root)] [] [.dead, .dead] (pairsV (allPairs d root)) [] := by
  refine call_fr tysZOK mixedZ Go.Proofs.Tryz.func34 (by kernel_rfl) rfl (by kernel_rfl) hr34 hl34 (by simp [Go.Proofs.Tryz.ntmps34]) rfl ?_
  simp -implicitDefEqProofs (maxSteps := 3000000) only [go_sem, reduceCtorEq, GDisk.cells]
  refine call_free (xs := [.agg d.cells, .int .i64 root]) rfl (cs_look d root h1 h2 hsm) rfl (.inl rfl) ?_
  rw [allPairs_look]
  cases hb : (lookS d root).bad
  · simp -implicitDefEqProofs (maxSteps := 3000000) only [go_sem, reduceCtorEq, alBox_eq, hb]
    repeat ((first | refine req (by first | omega | assumption | exact commP_of (by kernel_rfl) | (simp only [LEN, List.length_append, List.length_cons, List.length_nil]; omega) | (simp [D.one]; omega) | (simp [D.one]; done)) ?_); simp -implicitDefEqProofs (maxSteps := 3000000) only [go_sem, reduceCtorEq, alBox_eq, hb])
    rfl
  · simp -implicitDefEqProofs (maxSteps := 3000000) only [go_sem, reduceCtorEq, alBox_eq, hb]
    repeat ((first | refine req (by first | omega | assumption | exact commP_of (by kernel_rfl) | (simp only [LEN, List.length_append, List.length_cons, List.length_nil]; omega) | (simp [D.one]; omega) | (simp [D.one]; done)) ?_); simp -implicitDefEqProofs (maxSteps := 3000000) only [go_sem, reduceCtorEq, alBox_eq, hb])
    rfl
theorem ks_AllPairs {h : Heap} {tb : Nat} {K : OK} {args : List V} (d : GDisk) (root : Int) (h1 : d.fPages.length ≤ 1048576) (h2 : d.fLate.length ≤ 1048576) (hsm : ∀ p, (readPage d p).length ≤ 1048576) (hg : toDs h args = some ([.agg d.cells, .int .i64 root], []))
    (hk : K (renV (bk tb ([])) (pairsV (allPairs d root))) (updN tb ([]) ([]))) : callVC Go.Proofs.Tryz.prog h tb 34 args K :=
  call_free hg (cs_AllPairs d root h1 h2 hsm) rfl (.inl rfl) hk

def tellsB (d : GDisk) (root : Int) (l : List GPair) : Bool := match allPairs d root with
  | none => false
  | some m => decide (m = l)
theorem allPairs_len {d : GDisk} {root : Int} {m : List GPair} (h : allPairs d root = some m) : m.length ≤ LEN := by
  unfold allPairs at h
  split at h
  · cases h
  · obtain rfl := Option.some.inj h
    unfold treeOf
    split
    · simp [Tr.new]
    · have := down_pairs (d := d) (f := 8) (page := root) (t := Tr.new)
      simp only [Tr.new, List.length_nil, LEN] at this ⊢
      omega
@[go_sem] def hr49 : Hints
  | 0 => [0, 1, 2] | 1 => [1, 2, 3] | 2 => [2, 7, 8] | _ => []
@[go_sem] def hl49 : Hints := fun _ => []
attribute [go_sem] Go.Proofs.Tryz.results49
set_option maxRecDepth 100000 in
set_option maxHeartbeats 2000000 in
theorem ci_tells (d : GDisk) (root : Int) (l : List GPair) (h1 : d.fPages.length ≤ 1048576) (h2 : d.fLate.length ≤ 1048576) (hsm : ∀ p, (readPage d p).length ≤ 1048576) : CallOK Go.Proofs.Tryz.prog 49 [.d (.agg d.cells), .d (.int .i64 root), .d (.sl (GPairS l))] [] [.dead, .dead, .dead] (.d (.bool (tellsB d root l))) [] := by
  refine call_of tysZOK mixedZ Go.Proofs.Tryz.func49 (by kernel_rfl) rfl (np := [false, false, false]) (by kernel_rfl) hr49 hl49 (by simp [Go.Proofs.Tryz.ntmps49]) ?_
  simp -implicitDefEqProofs (maxSteps := 3000000) only [go_sem, reduceCtorEq, GDisk.cells]
  refine ki_AllPairs d root h1 h2 hsm rfl ?_
  rw [tellsB]
  cases ha : allPairs d root with
  | none =>
    simp only [pairsV]
    simp -implicitDefEqProofs (maxSteps := 3000000) only [go_sem, reduceCtorEq]
  | some m =>
    have hm := allPairs_len ha
    simp only [pairsV]
    simp -implicitDefEqProofs (maxSteps := 3000000) only [go_sem, reduceCtorEq]
    refine ki_SamePairs m l hm rfl ?_
    simp -implicitDefEqProofs (maxSteps := 3000000) only [go_sem, reduceCtorEq]
theorem ki_tells {h : Heap} {tb : Nat} {K : OK} {args : List V} {ls : List Nat} (d : GDisk) (root : Int) (l : List GPair) (h1 : d.fPages.length ≤ 1048576) (h2 : d.fLate.length ≤ 1048576) (hsm : ∀ p, (readPage d p).length ≤ 1048576) (hg : toDs h args = some ([.agg d.cells, .int .i64 root, .sl (GPairS l)], ls))
    (hk : K (renV (bk tb ([])) (.d (.bool (tellsB d root l)))) (updN tb ([]) ([]))) : callVC Go.Proofs.Tryz.prog h tb 49 args K :=
  call_free hg (ci_tells d root l h1 h2 hsm) rfl (.inr ⟨flat_of rfl, flatHB_of rfl⟩) hk
@[go_sem] def hr19 : Hints
  | 0 => [0] | 1 => [1] | _ => []
@[go_sem] def hl19 : Hints := fun _ => []
attribute [go_sem] Go.Proofs.Tryz.results19
set_option maxRecDepth 100000 in
set_option maxHeartbeats 2000000 in
theorem ci_Kept (w : GWorld) (h1 : w.fStore.fDisk.fPages.length ≤ 1048576) (h2 : w.fStore.fDisk.fLate.length ≤ 1048576) (hsm : ∀ p, (readPage w.fStore.fDisk p).length ≤ 1048576) : CallOK Go.Proofs.Tryz.prog 19 [.d (.agg w.cells)] [] [.dead] (.d (.bool (tellsB w.fStore.fDisk w.fStore.fMeta.fRoot w.fModel))) [] := by
  refine call_of tysZOK mixedZ Go.Proofs.Tryz.func19 (by kernel_rfl) rfl (np := [false]) (by kernel_rfl) hr19 hl19 (by simp [Go.Proofs.Tryz.ntmps19]) ?_
  simp -implicitDefEqProofs (maxSteps := 3000000) only [go_sem, reduceCtorEq, GWorld.cells]
  repeat ((first | refine req (by first | omega | assumption | exact commP_of (by kernel_rfl) | (simp only [LEN, List.length_append, List.length_cons, List.length_nil]; omega) | (simp [D.one]; omega) | (simp [D.one]; done)) ?_ | refine ki_tells w.fStore.fDisk w.fStore.fMeta.fRoot w.fModel h1 h2 hsm rfl ?_); simp -implicitDefEqProofs (maxSteps := 3000000) only [go_sem, reduceCtorEq])
theorem ki_Kept {h : Heap} {tb : Nat} {K : OK} {args : List V} {ls : List Nat} (w : GWorld) (h1 : w.fStore.fDisk.fPages.length ≤ 1048576) (h2 : w.fStore.fDisk.fLate.length ≤ 1048576) (hsm : ∀ p, (readPage w.fStore.fDisk p).length ≤ 1048576) (hg : toDs h args = some ([.agg w.cells], ls))
    (hk : K (renV (bk tb ([])) (.d (.bool (tellsB w.fStore.fDisk w.fStore.fMeta.fRoot w.fModel)))) (updN tb ([]) ([]))) : callVC Go.Proofs.Tryz.prog h tb 19 args K :=
  call_free hg (ci_Kept w h1 h2 hsm) rfl (.inr ⟨flat_of rfl, flatHB_of rfl⟩) hk
@[go_sem] def hr17 : Hints
  | 0 => [0] | 1 => [1] | 2 => [1, 3, 4] | _ => []
@[go_sem] def hl17 : Hints := fun _ => []
attribute [go_sem] Go.Proofs.Tryz.results17
set_option maxRecDepth 100000 in
set_option maxHeartbeats 2000000 in
theorem cs_Kept (w : GWorld) (h1 : w.fStore.fDisk.fPages.length ≤ 1048576) (h2 : w.fStore.fDisk.fLate.length ≤ 1048576) (hsm : ∀ p, (readPage w.fStore.fDisk p).length ≤ 1048576) : CallOK Go.Proofs.Tryz.prog 17 [.d (.agg w.cells)] [] [.dead] (.d (.bool (tellsB w.fStore.fDisk w.fStore.fMeta.fRoot w.fModel))) [] := by
  refine call_of tysZOK mixedZ Go.Proofs.Tryz.func17 (by kernel_rfl) rfl (np := [false]) (by kernel_rfl) hr17 hl17 (by simp [Go.Proofs.Tryz.ntmps17]) ?_
  simp -implicitDefEqProofs (maxSteps := 3000000) only [go_sem, reduceCtorEq, GWorld.cells]
  repeat ((first | refine req (by first | omega | assumption | exact commP_of (by kernel_rfl) | (simp only [LEN, List.length_append, List.length_cons, List.length_nil]; omega) | (simp [D.one]; omega) | (simp [D.one]; done)) ?_ | refine ks_AllPairs w.fStore.fDisk w.fStore.fMeta.fRoot h1 h2 hsm rfl ?_); simp -implicitDefEqProofs (maxSteps := 3000000) only [go_sem, reduceCtorEq])
  rw [tellsB]
  cases ha : allPairs w.fStore.fDisk w.fStore.fMeta.fRoot with
  | none =>
    simp only [pairsV]
    simp -implicitDefEqProofs (maxSteps := 3000000) only [go_sem, reduceCtorEq]
    repeat ((first | refine req (by first | omega | assumption | exact commP_of (by kernel_rfl) | (simp only [LEN, List.length_append, List.length_cons, List.length_nil]; omega) | (simp [D.one]; omega) | (simp [D.one]; done)) ?_); simp -implicitDefEqProofs (maxSteps := 3000000) only [go_sem, reduceCtorEq])
  | some m =>
    have hm := allPairs_len ha
    simp only [pairsV]
    simp -implicitDefEqProofs (maxSteps := 3000000) only [go_sem, reduceCtorEq]
    repeat ((first | refine req (by first | omega | assumption | exact commP_of (by kernel_rfl) | (simp only [LEN, List.length_append, List.length_cons, List.length_nil]; omega) | (simp [D.one]; omega) | (simp [D.one]; done)) ?_ | refine ks_SamePairs m w.fModel hm rfl ?_); simp -implicitDefEqProofs (maxSteps := 3000000) only [go_sem, reduceCtorEq])
theorem ks_Kept {h : Heap} {tb : Nat} {K : OK} {args : List V} {ls : List Nat} (w : GWorld) (h1 : w.fStore.fDisk.fPages.length ≤ 1048576) (h2 : w.fStore.fDisk.fLate.length ≤ 1048576) (hsm : ∀ p, (readPage w.fStore.fDisk p).length ≤ 1048576) (hg : toDs h args = some ([.agg w.cells], ls))
    (hk : K (renV (bk tb ([])) (.d (.bool (tellsB w.fStore.fDisk w.fStore.fMeta.fRoot w.fModel)))) (updN tb ([]) ([]))) : callVC Go.Proofs.Tryz.prog h tb 17 args K :=
  call_free hg (cs_Kept w h1 h2 hsm) rfl (.inr ⟨flat_of rfl, flatHB_of rfl⟩) hk
end Go.Rx

namespace Go.Rx
open Go
attribute [local irreducible] Req Way WayG Sel callVC CallOK
set_option linter.unusedSimpArgs false
set_option linter.unusedVariables false

theorem readPage_small {d : GDisk} (h : smallGDisk d) (p : Int) : (readPage d p).length ≤ 1048576 := by
  obtain ⟨⟨_, h1⟩, ⟨_, h2⟩⟩ := h
  unfold readPage
  split
  · cases hl : lateText d.fLate p with
    | some s =>
      unfold lateText at hl
      cases hf : d.fLate.reverse.find? fun q => decide (q.fPage = p) with
      | none => rw [hf] at hl; cases hl
      | some q =>
        rw [hf] at hl
        simp only [Option.map_some, Option.some.injEq] at hl
        subst hl
        have := List.mem_of_find?_eq_some hf
        exact h2 q (by simpa using this)
    | none =>
      simp only [Option.getD_none, List.getD_eq_getElem?_getD]
      cases hg : d.fPages[p.toNat]? with
      | none => simp
      | some s => exact h1 s (List.mem_of_getElem? hg)
  · simp

@[go_sem] def hr4 : Hints
  | 0 => [0] | 1 => [1] | 2 => [1, 3] | 3 => [1, 3] | 4 => [] | 5 => [1] | 6 => [1, 4] | 7 => [1, 4, 5] | 8 => [1, 4, 5, 6] | 9 => [] | 10 => [1, 5] | 11 => [] | 12 => [] | _ => []
@[go_sem] def hl4 : Hints := fun _ => []
attribute [go_sem] Go.Proofs.Tryz.results4
set_option maxRecDepth 100000 in
set_option maxHeartbeats 2000000 in
theorem cl_Kept (w : GWorld) (hw : okGWorld w) : CallOK Go.Proofs.Tryz.prog 4 [.d (.agg w.cells)] [] [.dead] (.d (.bool true)) [] := by
  refine call_of tysZOK mixedZ Go.Proofs.Tryz.func4 (by kernel_rfl) rfl (np := [false]) (by kernel_rfl) hr4 hl4 (by simp [Go.Proofs.Tryz.ntmps4]) ?_
  simp -implicitDefEqProofs (maxSteps := 3000000) only [go_sem, reduceCtorEq, GWorld.cells]
  refine k16 w 1048576 rfl hw ?_
  simp -implicitDefEqProofs (maxSteps := 3000000) only [go_sem, reduceCtorEq]
  (first | (refine way_dec (fun h1 => ?_) (fun h1 => ?_)) | (refine way_ndec (fun h1 => ?_) (fun h1 => ?_)) | (refine wayT_dec (fun h1 => ?_) (fun h1 => ?_)) | (refine wayF_dec (fun h1 => ?_) (fun h1 => ?_)) | (refine wayT_ndec (fun h1 => ?_) (fun h1 => ?_)) | (refine wayF_ndec (fun h1 => ?_) (fun h1 => ?_)) | (refine way_not (fun h1 => ?_) (fun h1 => ?_)) | (refine way (fun h1 => ?_) (fun h1 => ?_)) | (refine wayT (fun h1 => ?_) (fun h1 => ?_)) | (refine wayF (fun h1 => ?_) (fun h1 => ?_)))
  · simp -implicitDefEqProofs (maxSteps := 3000000) only [go_sem, reduceCtorEq]
  · obtain ⟨_, hsm⟩ := tells_GWorld w 1048576 hw (by omega) (by omega) h1
    have hd := hsm.1.1
    have hd1 := hd.1.1
    have hd2 := hd.2.1
    have hrp := fun p => readPage_small hd p
    simp -implicitDefEqProofs (maxSteps := 3000000) only [go_sem, reduceCtorEq]
    repeat ((first | refine k18 w rfl hsm ?_ | refine ks_Kept w hd1 hd2 hrp rfl ?_ | refine ki_Kept w hd1 hd2 hrp rfl ?_ | refine k20 w rfl hw ?_ | refine req (by first | omega | assumption | exact commP_of (by kernel_rfl) | (simp only [LEN, List.length_append, List.length_cons, List.length_nil]; omega) | (simp [D.one]; omega) | (simp [D.one]; done)) ?_); simp -implicitDefEqProofs (maxSteps := 3000000) only [go_sem, reduceCtorEq, GWorld.cells_eq])
    trace_state
theorem kl_Kept {h : Heap} {tb : Nat} {K : OK} {args : List V} {ls : List Nat} (w : GWorld) (hw : okGWorld w) (hg : toDs h args = some ([.agg w.cells], ls))
    (hk : K (renV (bk tb ([])) (.d (.bool true))) (updN tb ([]) ([]))) : callVC Go.Proofs.Tryz.prog h tb 4 args K :=
  call_free hg (cl_Kept w hw) rfl (.inr ⟨flat_of rfl, flatHB_of rfl⟩) hk
end Go.Rx
