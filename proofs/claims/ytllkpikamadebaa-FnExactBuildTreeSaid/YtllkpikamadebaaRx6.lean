/-
  Part 6: an evaluator over plain data of the model's code with its proof, plain laws on lists and numbers, and contracts of functions of the program; each lemma names its conditions.
-/
import Derived.Test.YtllkpikamadebaaRx5
import Derived.Test.YtllkpikamadebaaRx4
import Derived.Test.YtllkpikamadebaaRx3

set_option linter.unusedSimpArgs false
set_option linter.unusedVariables false

namespace Go.Rx
open Go
attribute [local irreducible] Req Way WayG Sel callVC CallOK
set_option linter.unusedSimpArgs false
set_option linter.unusedVariables false

def buildV (w : GWork) (l : List GPair) : V := match buildS w l with
  | none => .tup [.d (.agg w.cells), .d (.int .i64 0), .d (.bool false)]
  | some (w', p) => .tup [.d (.agg w'.cells), .d (.int .i64 p), .d (.bool true)]
theorem asc_one {l : List (List UInt8)} : ascK (l.take 1) := by
  cases l with
  | nil => simp [ascK]
  | cons x l => simp [ascK]
@[go_sem] def hr7 : Hints
  | 0 => [0, 1] | 1 => [1, 2, 4] | 2 => [1, 2, 4, 7] | 3 => [1, 2, 4, 7, 8] | 4 => [1, 2, 4, 7, 8] | 5 => [1, 2, 4, 7, 8] | 6 => [4, 7] | 7 => [1, 2, 4, 7] | 8 => [4, 7] | 9 => [1, 2, 4, 7] | 10 => [1, 4, 7, 9] | 11 => [1, 4, 7, 9, 10] | 12 => [1, 4, 7, 9, 10, 11] | 13 => [1, 4, 7, 9, 10, 11, 12] | 14 => [1, 4, 7, 9, 10, 11, 12] | 15 => [1, 4, 7, 9, 10, 11, 12] | 16 => [1, 4, 7, 9, 10, 11, 12, 13] | 17 => [1, 4, 7, 9, 10, 11, 12, 13, 14] | 18 => [1, 4, 7, 9, 10, 11, 12, 13, 14] | 19 => [1, 4, 7, 9, 10, 11, 12, 13, 14] | 20 => [1, 4, 7, 9, 10, 11, 12, 13, 14] | 21 => [1, 4, 7, 9, 10, 11, 12, 13] | 22 => [1, 4, 7, 9, 10, 11, 12, 13, 15, 16] | 23 => [4, 7] | 24 => [1, 4, 7, 9, 10, 11, 12, 13, 15, 16] | 25 => [1, 4, 7, 9, 10, 11, 12, 13, 16] | 26 => [1, 4, 7, 9, 10, 11, 12, 16] | 27 => [4, 7, 9, 10, 11] | 28 => [4, 7, 9, 10, 11] | 29 => [4, 7, 9, 10, 11, 17] | 30 => [4, 7, 9, 10, 11, 17, 18] | 31 => [4, 7, 9, 10, 11, 17, 18, 19] | 32 => [4, 7, 9, 10, 11, 17, 18, 19] | 33 => [4, 7, 9, 10, 11, 17, 18, 19] | 34 => [4, 7, 9, 10, 11, 17, 18, 19, 20] | 35 => [4, 7, 9, 10, 11, 17, 18, 19] | 36 => [4, 7, 9, 10, 11, 17, 18, 19, 20] | 37 => [4, 7, 9, 10, 11, 17, 18, 19, 21, 22] | 38 => [4, 7] | 39 => [4, 7, 9, 10, 11, 17, 18, 19, 21, 22] | 40 => [4, 7, 9, 10, 11, 17, 18, 19, 22] | 41 => [4, 7, 9, 10, 11, 17, 18, 19, 22] | 42 => [4, 7, 9, 17, 18] | 43 => [4, 7, 9, 10, 18] | 44 => [4, 9, 11] | _ => []
@[go_sem] def hl7 : Hints
  | 3 => [1, 2, 4, 7, 8] | 13 => [1, 4, 7, 9, 10, 11, 12] | 17 => [1, 4, 7, 9, 10, 11, 12, 13, 14] | 27 => [4, 7, 9, 10, 11] | 31 => [4, 7, 9, 10, 11, 17, 18, 19] | _ => []
attribute [go_sem] Go.Proofs.Try.results7
set_option maxRecDepth 100000 in
set_option maxHeartbeats 20000000 in
theorem cs_BuildTree (w : GWork) (l : List GPair) (hw : smallW w) (hl : l.length ≤ 1048576) : CallOK Go.Proofs.Try.prog 7 [.d (.agg w.cells), .d (.sl (GPairS l))] [] [.dead, .dead] (buildV w l) [] := by
  refine call_fr tysZOK mixedZ Go.Proofs.Try.func7 (by kernel_rfl) rfl (by kernel_rfl) hr7 hl7 (by simp [Go.Proofs.Try.ntmps7]) rfl ?_
  simp -implicitDefEqProofs (maxSteps := 3000000) only [go_sem, reduceCtorEq, GWork.cells]
  refine ks_l08Copy w hw rfl ?_
  simp -implicitDefEqProofs (maxSteps := 3000000) only [go_sem, reduceCtorEq]
  repeat ((first | refine req (by first | omega | assumption | exact commP_of (by kernel_rfl) | (simp only [LEN, List.length_append, List.length_cons, List.length_nil]; omega) | (simp [D.one]; omega) | (simp [D.one]; done)) ?_); simp -implicitDefEqProofs (maxSteps := 3000000) only [go_sem, reduceCtorEq])
  refine loop_data (α := Nat) (fun i => ⟨[(1, .d (.sl (GPairS l))), (2, .ref 0 0), (4, .ref 1 0), (7, .ref 7 0), (8, .d (.int .i64 ((i + 1 : Nat) : Int)))],
    [(0, some (.box [.d (.sl (strs w.fDisk.fPages)), .d (.sl (GPutS w.fDisk.fLate)), .d (.int .i64 w.fNext), .d (.sl (ints w.fUsable)), .d (.sl (ints w.fGone)), .d (.sl (ints w.fFresh))])), (1, some (.box [.own 2 0 0, .own 3 0 0, .d (.int .i64 0), .own 4 0 0, .own 5 0 0, .own 6 0 0])), (2, some (.arr 1 [])), (3, some (.arr 2 [])), (4, some (.arr 1 [])), (5, some (.arr 1 [])), (6, some (.arr 1 [])), (7, some (.box [.own 8 0 w.fDisk.fPages.length, .own 9 0 w.fDisk.fLate.length, .d (.int .i64 w.fNext), .own 10 0 w.fUsable.length, .own 11 0 w.fGone.length, .own 12 0 w.fFresh.length])), (8, some (.arr 1 (strs w.fDisk.fPages))), (9, some (.arr 2 (GPutS w.fDisk.fLate))), (10, some (.arr 1 (ints w.fUsable))), (11, some (.arr 1 (ints w.fGone))), (12, some (.arr 1 (ints w.fFresh)))]⟩)
    (fun i => i ≤ l.length ∧ ascK ((l.map (·.fKey)).take (i + 1))) (fun i => l.length - i) 0 rfl ⟨by omega, asc_one⟩ ?_
  rintro i ⟨i1, i2⟩
  simp -implicitDefEqProofs (maxSteps := 3000000) only [go_sem, reduceCtorEq]
  (first | (refine way_dec (fun h5 => ?_) (fun h5 => ?_)) | (refine way_ndec (fun h5 => ?_) (fun h5 => ?_)) | (refine wayT_dec (fun h5 => ?_) (fun h5 => ?_)) | (refine wayF_dec (fun h5 => ?_) (fun h5 => ?_)) | (refine wayT_ndec (fun h5 => ?_) (fun h5 => ?_)) | (refine wayF_ndec (fun h5 => ?_) (fun h5 => ?_)) | (refine way_not (fun h5 => ?_) (fun h5 => ?_)) | (refine way (fun h5 => ?_) (fun h5 => ?_)) | (refine wayT (fun h5 => ?_) (fun h5 => ?_)) | (refine wayF (fun h5 => ?_) (fun h5 => ?_)))
  · obtain ⟨p, hp⟩ := some_at (l := l) (i := i + 1) (by omega)
    obtain ⟨q, hq⟩ := some_at (l := l) (i := i) (by omega)
    have hpk : (l.map (·.fKey))[i + 1]? = some p.fKey := by rw [List.getElem?_map, hp]; rfl
    have hqk : (l.map (·.fKey))[i]? = some q.fKey := by rw [List.getElem?_map, hq]; rfl
    have hj : IntKind.i64.wrap (((i + 1 : Nat) : Int) - 1) = (i : Int) := by rw [wrap_int (by omega) (by omega)]; omega
    simp -implicitDefEqProofs (maxSteps := 3000000) only [go_sem, reduceCtorEq, hj, lget_GPairS hp, lget_GPairS hq]
    repeat ((first | refine req (by first | omega | assumption | exact commP_of (by kernel_rfl) | (simp only [LEN, List.length_append, List.length_cons, List.length_nil]; omega) | (simp [D.one]; omega) | (simp [D.one]; done)) ?_); simp -implicitDefEqProofs (maxSteps := 3000000) only [go_sem, reduceCtorEq, hj, lget_GPairS hp, lget_GPairS hq])
    cases hlt : bLess q.fKey p.fKey
    · simp -implicitDefEqProofs (maxSteps := 3000000) only [go_sem, reduceCtorEq]
      repeat ((first | refine req (by first | omega | assumption | exact commP_of (by kernel_rfl) | (simp only [LEN, List.length_append, List.length_cons, List.length_nil]; omega) | (simp [D.one]; omega) | (simp [D.one]; done)) ?_); simp -implicitDefEqProofs (maxSteps := 3000000) only [go_sem, reduceCtorEq])
      have hn : ¬ ascK (l.map (·.fKey)) := fun h => by rw [asc_next h hqk hpk] at hlt; cases hlt
      rw [buildV, buildS, if_neg hn]
      rfl
    · simp -implicitDefEqProofs (maxSteps := 3000000) only [go_sem, reduceCtorEq]
      repeat ((first | refine req (by first | omega | assumption | exact commP_of (by kernel_rfl) | (simp only [LEN, List.length_append, List.length_cons, List.length_nil]; omega) | (simp [D.one]; omega) | (simp [D.one]; done)) ?_); simp -implicitDefEqProofs (maxSteps := 3000000) only [go_sem, reduceCtorEq])
      rw [wrap_succ (by simp only [LEN]; omega)]
      refine next_data (i + 1) rfl ⟨by omega, ascK_snoc i2 hqk hpk hlt⟩ (by omega)
  · have hasc : ascK (l.map (·.fKey)) := by rw [List.take_of_length_le (by simp; omega)] at i2; exact i2
    rw [buildV, buildS, if_pos hasc]
    cases hl0 : decide ((l.length : Int) = 0)
    · simp -implicitDefEqProofs (maxSteps := 3000000) only [go_sem, reduceCtorEq, hl0]
      repeat ((first | refine req (by first | omega | assumption | exact commP_of (by kernel_rfl) | (simp only [LEN, List.length_append, List.length_cons, List.length_nil]; omega) | (simp [D.one]; omega) | (simp [D.one]; done)) ?_ | refine ks_l08Copy w hw rfl ?_); simp -implicitDefEqProofs (maxSteps := 3000000) only [go_sem, reduceCtorEq, hl0])
      refine loop_data (α := Nat × GWork × List GKid) (fun x => ⟨[(1, .d (.sl (GPairS l))), (4, .ref 0 0), (7, .ref 6 0), (9, .ref 12 0), (10, .own 18 0 x.2.2.length), (11, .own 19 0 x.2.2.length), (12, .d (.int .i64 ((4 * x.1 : Nat) : Int)))],
        [(0, some (.box [.own 1 0 0, .own 2 0 0, .d (.int .i64 0), .own 3 0 0, .own 4 0 0, .own 5 0 0])), (1, some (.arr 1 [])), (2, some (.arr 2 [])), (3, some (.arr 1 [])), (4, some (.arr 1 [])), (5, some (.arr 1 [])), (6, some (.box [.own 7 0 w.fDisk.fPages.length, .own 8 0 w.fDisk.fLate.length, .d (.int .i64 w.fNext), .own 9 0 w.fUsable.length, .own 10 0 w.fGone.length, .own 11 0 w.fFresh.length])), (7, some (.arr 1 (strs w.fDisk.fPages))), (8, some (.arr 2 (GPutS w.fDisk.fLate))), (9, some (.arr 1 (ints w.fUsable))), (10, some (.arr 1 (ints w.fGone))), (11, some (.arr 1 (ints w.fFresh))), (12, some (.box [.own 13 0 x.2.1.fDisk.fPages.length, .own 14 0 x.2.1.fDisk.fLate.length, .d (.int .i64 x.2.1.fNext), .own 15 0 x.2.1.fUsable.length, .own 16 0 x.2.1.fGone.length, .own 17 0 x.2.1.fFresh.length])), (13, some (.arr 1 (strs x.2.1.fDisk.fPages))), (14, some (.arr 2 (GPutS x.2.1.fDisk.fLate))), (15, some (.arr 1 (ints x.2.1.fUsable))), (16, some (.arr 1 (ints x.2.1.fGone))), (17, some (.arr 1 (ints x.2.1.fFresh))), (18, some (.arr 1 (strs (x.2.2.map (·.fName))))), (19, some (.arr 1 (ints (x.2.2.map (·.fKind)))))]⟩)
        (fun x => 4 * x.1 ≤ l.length + 3 ∧ smallW x.2.1 ∧ x.2.2.length = x.1 ∧ leavesS x.2.1 x.2.2 (chunk4 (l.drop (4 * x.1))) = leavesS w [] (chunk4 l)) (fun x => l.length + 4 - 4 * x.1) (0, w, []) rfl ⟨by omega, hw, rfl, by rw [Nat.mul_zero, List.drop_zero]⟩ ?_
      rintro ⟨j, u, out⟩ ⟨j1, j2, j3, j4⟩
      simp only at j1 j2 j3 j4
      simp -implicitDefEqProofs (maxSteps := 3000000) only [go_sem, reduceCtorEq]
      (first | (refine way_dec (fun h6 => ?_) (fun h6 => ?_)) | (refine way_ndec (fun h6 => ?_) (fun h6 => ?_)) | (refine wayT_dec (fun h6 => ?_) (fun h6 => ?_)) | (refine wayF_dec (fun h6 => ?_) (fun h6 => ?_)) | (refine wayT_ndec (fun h6 => ?_) (fun h6 => ?_)) | (refine wayF_ndec (fun h6 => ?_) (fun h6 => ?_)) | (refine way_not (fun h6 => ?_) (fun h6 => ?_)) | (refine way (fun h6 => ?_) (fun h6 => ?_)) | (refine wayT (fun h6 => ?_) (fun h6 => ?_)) | (refine wayF (fun h6 => ?_) (fun h6 => ?_)))
      · obtain ⟨b, hb2⟩ : ∃ b, b = (l.drop (4 * j)).take 4 := ⟨_, rfl⟩
        have hbl : b.length = min 4 (l.length - 4 * j) := by rw [hb2]; simp
        have w4 : IntKind.i64.wrap (((4 * j : Nat) : Int) + 4) = ((4 * (j + 1) : Nat) : Int) := by rw [wrap_int (by omega) (by omega)]; omega
        simp -implicitDefEqProofs (maxSteps := 3000000) only [go_sem, reduceCtorEq]
        refine loop_data (α := Nat) (fun i => ⟨[(1, .d (.sl (GPairS l))), (4, .ref 0 0), (7, .ref 6 0), (9, .ref 12 0), (10, .own 18 0 out.length), (11, .own 19 0 out.length), (12, .d (.int .i64 ((4 * j : Nat) : Int))), (13, .ref 20 0), (14, .d (.int .i64 ((4 * j + i : Nat) : Int)))],
          [(0, some (.box [.own 1 0 0, .own 2 0 0, .d (.int .i64 0), .own 3 0 0, .own 4 0 0, .own 5 0 0])), (1, some (.arr 1 [])), (2, some (.arr 2 [])), (3, some (.arr 1 [])), (4, some (.arr 1 [])), (5, some (.arr 1 [])), (6, some (.box [.own 7 0 w.fDisk.fPages.length, .own 8 0 w.fDisk.fLate.length, .d (.int .i64 w.fNext), .own 9 0 w.fUsable.length, .own 10 0 w.fGone.length, .own 11 0 w.fFresh.length])), (7, some (.arr 1 (strs w.fDisk.fPages))), (8, some (.arr 2 (GPutS w.fDisk.fLate))), (9, some (.arr 1 (ints w.fUsable))), (10, some (.arr 1 (ints w.fGone))), (11, some (.arr 1 (ints w.fFresh))), (12, some (.box [.own 13 0 u.fDisk.fPages.length, .own 14 0 u.fDisk.fLate.length, .d (.int .i64 u.fNext), .own 15 0 u.fUsable.length, .own 16 0 u.fGone.length, .own 17 0 u.fFresh.length])), (13, some (.arr 1 (strs u.fDisk.fPages))), (14, some (.arr 2 (GPutS u.fDisk.fLate))), (15, some (.arr 1 (ints u.fUsable))), (16, some (.arr 1 (ints u.fGone))), (17, some (.arr 1 (ints u.fFresh))), (18, some (.arr 1 (strs (out.map (·.fName))))), (19, some (.arr 1 (ints (out.map (·.fKind))))), (20, some (.box [.d (.bool true), .own 21 0 ((b.take i).map (·.fKey)).length, .own 22 0 ((b.take i).map (·.fVal)).length, .own 23 0 0])), (21, some (.arr 1 (strs ((b.take i).map (·.fKey))))), (22, some (.arr 1 (strs ((b.take i).map (·.fVal))))), (23, some (.arr 1 []))]⟩)
          (fun i => i ≤ b.length) (fun i => b.length - i) 0 rfl (Nat.zero_le _) ?_
        rintro i k1
        simp -implicitDefEqProofs (maxSteps := 3000000) only [go_sem, reduceCtorEq, w4]
        by_cases h7 : i < b.length
        · obtain ⟨p, hp⟩ := some_at (l := b) (i := i) (by omega)
          have hpl : l[4 * j + i]? = some p := by
            rw [hb2, List.getElem?_take, if_pos (by omega), List.getElem?_drop] at hp
            exact hp
          have da : decide (((4 * j + i : Nat) : Int) < (l.length : Int)) = true := decide_eq_true (by omega)
          have db : decide (((4 * j + i : Nat) : Int) < ((4 * (j + 1) : Nat) : Int)) = true := decide_eq_true (by omega)
          simp -implicitDefEqProofs (maxSteps := 3000000) only [go_sem, reduceCtorEq, da, db, w4, lget_GPairS hpl]
          repeat ((first | refine req (by first | omega | assumption | exact commP_of (by kernel_rfl) | (simp only [LEN, List.length_append, List.length_cons, List.length_nil]; omega) | (simp [D.one]; omega) | (simp [D.one]; done)) ?_); simp -implicitDefEqProofs (maxSteps := 3000000) only [go_sem, reduceCtorEq, da, db, w4, lget_GPairS hpl])
          refine next_data (i + 1) ?_ (by omega) (by omega)
          rw [take_snoc hp, wrap_succ (by simp only [LEN]; omega)]
          simp [Nat.add_assoc]
        · have hb0 : 0 < b.length := by omega
          have hm : b.length ≤ 4 := by omega
          have hk0 : lget (strs (b.map (·.fKey))) 0 = [.str (key1 b)] := by
            cases b with
            | nil => simp at hb0
            | cons x xs => rfl
          by_cases ha : ((4 * j + i : Nat) : Int) < (l.length : Int)
          have da := decide_eq_true ha
          have db : decide (((4 * j + i : Nat) : Int) < ((4 * (j + 1) : Nat) : Int)) = false := decide_eq_false (by omega)
          simp -implicitDefEqProofs (maxSteps := 3000000) only [go_sem, reduceCtorEq, da, db, w4]
          repeat ((first | refine req (by first | omega | assumption | exact commP_of (by kernel_rfl) | (simp only [LEN, List.length_append, List.length_cons, List.length_nil]; omega) | (simp [D.one]; omega) | (simp [D.one]; done)) ?_); simp -implicitDefEqProofs (maxSteps := 3000000) only [go_sem, reduceCtorEq, da, db, w4])
          rotate_left
          have da := decide_eq_false ha
          simp -implicitDefEqProofs (maxSteps := 3000000) only [go_sem, reduceCtorEq, da, w4]
          repeat ((first | refine req (by first | omega | assumption | exact commP_of (by kernel_rfl) | (simp only [LEN, List.length_append, List.length_cons, List.length_nil]; omega) | (simp [D.one]; omega) | (simp [D.one]; done)) ?_); simp -implicitDefEqProofs (maxSteps := 3000000) only [go_sem, reduceCtorEq, da, w4])
          all_goals
            rw [List.take_of_length_le (show b.length ≤ i by omega)]
            simp -implicitDefEqProofs (maxSteps := 3000000) only [go_sem, reduceCtorEq]
            refine ks_PutNode u (leafB b) j2 (by simp only [leafB, List.length_map, LEN]; omega) (by simp only [leafB, List.length_map, LEN]; omega) (by simp [leafB]) (by simp -implicitDefEqProofs (maxSteps := 3000000) only [go_sem, reduceCtorEq, GWork.cells, GNode.cells, leafB]; try rfl) ?_
            cases hp : putN u (leafB b) with
            | none =>
              have hW : putW u (leafB b) = (u, 0) := by rw [putW, hp]
              have hres : leavesS u out (chunk4 (l.drop (4 * j))) = none := by rw [chunk4_at (by omega), leavesS, ← hb2, hp]
              have d0 : decide ((0 : Int) = 0) = true := rfl
              rw [hW]
              rw [hres] at j4
              rw [← j4]
              simp -implicitDefEqProofs (maxSteps := 3000000) only [go_sem, reduceCtorEq, OW.v_eq, OW.h_eq, ofW, d0]
              repeat ((first | refine req (by first | omega | assumption | exact commP_of (by kernel_rfl) | (simp only [LEN, List.length_append, List.length_cons, List.length_nil]; omega) | (simp [D.one]; omega) | (simp [D.one]; done)) ?_); simp -implicitDefEqProofs (maxSteps := 3000000) only [go_sem, reduceCtorEq, OW.v_eq, OW.h_eq, ofW, d0])
              rfl
            | some q =>
              obtain ⟨u2, pg⟩ := q
              have hW : putW u (leafB b) = (u2, pg) := by rw [putW, hp]
              have dp : decide (pg = 0) = false := decide_eq_false (putN_page hp)
              have hs2 := putN_small j2 hp
              have hres : leavesS u out (chunk4 (l.drop (4 * j))) = leavesS u2 (out ++ [⟨key1 b, pg⟩]) (chunk4 (l.drop (4 * (j + 1)))) := by rw [chunk4_at (by omega), leavesS, ← hb2, hp]; rfl
              rw [hW]
              rw [hres] at j4
              simp -implicitDefEqProofs (maxSteps := 3000000) only [go_sem, reduceCtorEq, OW.v_eq, OW.h_eq, ofW, dp]
              repeat ((first | refine req (by simp only [List.length_map]; omega) ?_ | refine req (by first | omega | assumption | exact commP_of (by kernel_rfl) | (simp only [LEN, List.length_append, List.length_cons, List.length_nil]; omega) | (simp [D.one]; omega) | (simp [D.one]; done)) ?_); simp -implicitDefEqProofs (maxSteps := 3000000) only [go_sem, reduceCtorEq, OW.v_eq, OW.h_eq, ofW, dp, hk0, w4])
              refine next_data (j + 1, u2, out ++ [⟨key1 b, pg⟩]) ?_ ⟨by simp only; omega, hs2, by simp; omega, j4⟩ (by simp only; omega)
              simp [strs, ints, List.take_of_length_le]
      · have he : chunk4 (l.drop (4 * j)) = [] := chunk4_end (by omega)
        rw [he, leavesS] at j4
        have hlen := leavesS_len j4.symm
        have hcl := chunk4_len _ l (Nat.le_refl _)
        rw [← j4]
        simp -implicitDefEqProofs (maxSteps := 3000000) only [go_sem, reduceCtorEq]
        simp only
        refine loop_data (α := Nat × GWork × List GKid) (fun x => ⟨[(4, .ref 0 0), (7, .ref 6 0), (9, .ref 12 0), (10, .own 18 0 x.2.2.length), (11, .own 19 0 x.2.2.length)],
          [(0, some (.box [.own 1 0 0, .own 2 0 0, .d (.int .i64 0), .own 3 0 0, .own 4 0 0, .own 5 0 0])), (1, some (.arr 1 [])), (2, some (.arr 2 [])), (3, some (.arr 1 [])), (4, some (.arr 1 [])), (5, some (.arr 1 [])), (6, some (.box [.own 7 0 w.fDisk.fPages.length, .own 8 0 w.fDisk.fLate.length, .d (.int .i64 w.fNext), .own 9 0 w.fUsable.length, .own 10 0 w.fGone.length, .own 11 0 w.fFresh.length])), (7, some (.arr 1 (strs w.fDisk.fPages))), (8, some (.arr 2 (GPutS w.fDisk.fLate))), (9, some (.arr 1 (ints w.fUsable))), (10, some (.arr 1 (ints w.fGone))), (11, some (.arr 1 (ints w.fFresh))), (12, some (.box [.own 13 0 x.2.1.fDisk.fPages.length, .own 14 0 x.2.1.fDisk.fLate.length, .d (.int .i64 x.2.1.fNext), .own 15 0 x.2.1.fUsable.length, .own 16 0 x.2.1.fGone.length, .own 17 0 x.2.1.fFresh.length])), (13, some (.arr 1 (strs x.2.1.fDisk.fPages))), (14, some (.arr 2 (GPutS x.2.1.fDisk.fLate))), (15, some (.arr 1 (ints x.2.1.fUsable))), (16, some (.arr 1 (ints x.2.1.fGone))), (17, some (.arr 1 (ints x.2.1.fFresh))), (18, some (.arr 1 (strs (x.2.2.map (·.fName))))), (19, some (.arr 1 (ints (x.2.2.map (·.fKind)))))]⟩)
          (fun x => x.2.2.length ≤ x.1 ∧ x.1 ≤ l.length ∧ 0 < x.2.2.length ∧ smallW x.2.1 ∧ levelsS x.1 x.2.1 x.2.2 = levelsS l.length u out) (fun x => x.1) (l.length, u, out) rfl ⟨by simp at hlen ⊢; omega, Nat.le_refl _, by simp only; rw [hlen, chunk4_cons (by intro e; rw [e] at hl0; simp at hl0)]; simp, j2, rfl⟩ ?_
        clear j4 hlen he h6 j1 j3
        rintro ⟨f, v, k⟩ ⟨m1, m2, m3, m4, m5⟩
        simp only at m1 m2 m3 m4 m5
        simp -implicitDefEqProofs (maxSteps := 3000000) only [go_sem, reduceCtorEq]
        by_cases hk : (1 : Int) < k.length
        · have dk := decide_eq_true hk
          obtain ⟨f, rfl⟩ : ∃ g, f = g + 1 := ⟨f - 1, by omega⟩
          rw [levelsS, if_pos (show 1 < k.length by omega)] at m5
          simp -implicitDefEqProofs (maxSteps := 3000000) only [go_sem, reduceCtorEq, dk]
          repeat ((first | refine req (by first | omega | assumption | exact commP_of (by kernel_rfl) | (simp only [LEN, List.length_append, List.length_cons, List.length_nil]; omega) | (simp [D.one]; omega) | (simp [D.one]; done)) ?_); simp -implicitDefEqProofs (maxSteps := 3000000) only [go_sem, reduceCtorEq, dk])
          refine loop_data (α := Nat × GWork × List GKid) (fun x => ⟨[(4, .ref 0 0), (7, .ref 6 0), (9, .ref 12 0), (10, .own 18 0 k.length), (11, .own 19 0 k.length), (17, .own 20 0 x.2.2.length), (18, .own 21 0 x.2.2.length), (19, .d (.int .i64 ((4 * x.1 : Nat) : Int)))],
            [(0, some (.box [.own 1 0 0, .own 2 0 0, .d (.int .i64 0), .own 3 0 0, .own 4 0 0, .own 5 0 0])), (1, some (.arr 1 [])), (2, some (.arr 2 [])), (3, some (.arr 1 [])), (4, some (.arr 1 [])), (5, some (.arr 1 [])), (6, some (.box [.own 7 0 w.fDisk.fPages.length, .own 8 0 w.fDisk.fLate.length, .d (.int .i64 w.fNext), .own 9 0 w.fUsable.length, .own 10 0 w.fGone.length, .own 11 0 w.fFresh.length])), (7, some (.arr 1 (strs w.fDisk.fPages))), (8, some (.arr 2 (GPutS w.fDisk.fLate))), (9, some (.arr 1 (ints w.fUsable))), (10, some (.arr 1 (ints w.fGone))), (11, some (.arr 1 (ints w.fFresh))), (12, some (.box [.own 13 0 x.2.1.fDisk.fPages.length, .own 14 0 x.2.1.fDisk.fLate.length, .d (.int .i64 x.2.1.fNext), .own 15 0 x.2.1.fUsable.length, .own 16 0 x.2.1.fGone.length, .own 17 0 x.2.1.fFresh.length])), (13, some (.arr 1 (strs x.2.1.fDisk.fPages))), (14, some (.arr 2 (GPutS x.2.1.fDisk.fLate))), (15, some (.arr 1 (ints x.2.1.fUsable))), (16, some (.arr 1 (ints x.2.1.fGone))), (17, some (.arr 1 (ints x.2.1.fFresh))), (18, some (.arr 1 (strs (k.map (·.fName))))), (19, some (.arr 1 (ints (k.map (·.fKind))))), (20, some (.arr 1 (strs (x.2.2.map (·.fName))))), (21, some (.arr 1 (ints (x.2.2.map (·.fKind)))))]⟩)
            (fun x => 4 * x.1 ≤ k.length + 3 ∧ smallW x.2.1 ∧ x.2.2.length = x.1 ∧ levelS x.2.1 x.2.2 (chunk4 (k.drop (4 * x.1))) = levelS v [] (chunk4 k)) (fun x => k.length + 4 - 4 * x.1) (0, v, []) rfl ⟨by omega, m4, rfl, by rw [Nat.mul_zero, List.drop_zero]⟩ ?_
          rintro ⟨j, u1, out1⟩ ⟨n1, n2, n3, n4⟩
          simp only at n1 n2 n3 n4
          simp -implicitDefEqProofs (maxSteps := 3000000) only [go_sem, reduceCtorEq]
          by_cases h8 : ((4 * j : Nat) : Int) < (k.length : Int)
          · have d8 := decide_eq_true h8
            have w4 : IntKind.i64.wrap (((4 * j : Nat) : Int) + 4) = ((4 * (j + 1) : Nat) : Int) := by rw [wrap_int (by omega) (by omega)]; omega
            obtain ⟨b, hb2⟩ : ∃ b, b = (k.drop (4 * j)).take 4 := ⟨_, rfl⟩
            have hbl : b.length = min 4 (k.length - 4 * j) := by rw [hb2]; simp
            simp -implicitDefEqProofs (maxSteps := 3000000) only [go_sem, reduceCtorEq, d8, w4]
            obtain ⟨x, hx⟩ := some_at (l := k) (i := 4 * j) h8
            have hkx : (k.map (·.fName))[4 * j]? = some x.fName := by rw [List.getElem?_map, hx]; rfl
            have hn1 : name1 b = x.fName := by
              rw [hb2, List.drop_eq_getElem_cons (by omega)]
              rw [List.getElem?_eq_getElem (by omega)] at hx
              rw [Option.some.inj hx]; rfl
            have hm : b.length ≤ 4 := by omega
            by_cases h9 : (k.length : Int) < ((4 * (j + 1) : Nat) : Int)
            have d9 := decide_eq_true h9
            have hXe : (k.drop (4 * j)).take (k.length - 4 * j) = b := by rw [hb2, List.take_of_length_le (by simp), List.take_of_length_le (by simp; omega)]
            have hcN : List.take (k.length - 4 * j) (List.drop (4 * j) (strs (k.map (·.fName)))) = strs (b.map (·.fName)) := by rw [← hXe]; simp [strs, List.map_take, List.map_drop]
            have hcK : List.take (k.length - 4 * j) (List.drop (4 * j) (ints (k.map (·.fKind)))) = ints (b.map (·.fKind)) := by rw [← hXe]; simp [ints, List.map_take, List.map_drop]
            simp -implicitDefEqProofs (maxSteps := 3000000) only [go_sem, reduceCtorEq, d9]
            repeat ((first | refine req (by first | omega | assumption | exact commP_of (by kernel_rfl) | (simp only [LEN, List.length_append, List.length_cons, List.length_nil]; omega) | (simp [D.one]; omega) | (simp [D.one]; done)) ?_); simp -implicitDefEqProofs (maxSteps := 3000000) only [go_sem, reduceCtorEq, d9])
            rotate_left
            have d9 := decide_eq_false h9
            have hXe : (k.drop (4 * j)).take (4 * (j + 1) - 4 * j) = b := by rw [hb2, show 4 * (j + 1) - 4 * j = 4 by omega]
            have hcN : List.take (4 * (j + 1) - 4 * j) (List.drop (4 * j) (strs (k.map (·.fName)))) = strs (b.map (·.fName)) := by rw [← hXe]; simp [strs, List.map_take, List.map_drop]
            have hcK : List.take (4 * (j + 1) - 4 * j) (List.drop (4 * j) (ints (k.map (·.fKind)))) = ints (b.map (·.fKind)) := by rw [← hXe]; simp [ints, List.map_take, List.map_drop]
            simp -implicitDefEqProofs (maxSteps := 3000000) only [go_sem, reduceCtorEq, d9]
            repeat ((first | refine req (by first | omega | assumption | exact commP_of (by kernel_rfl) | (simp only [LEN, List.length_append, List.length_cons, List.length_nil]; omega) | (simp [D.one]; omega) | (simp [D.one]; done)) ?_); simp -implicitDefEqProofs (maxSteps := 3000000) only [go_sem, reduceCtorEq, d9])
            all_goals
              refine ks_PutNode u1 (kidB b) n2 (by simp only [kidB, List.length_map, LEN]; omega) (by simp [kidB]) (by simp only [kidB, List.length_map, LEN]; omega) (by simp -implicitDefEqProofs (maxSteps := 3000000) only [go_sem, reduceCtorEq, GWork.cells, GNode.cells, kidB, hcN, hcK]; try rfl) ?_
              cases hp : putN u1 (kidB b) with
              | none =>
                have hW : putW u1 (kidB b) = (u1, 0) := by rw [putW, hp]
                have hres : levelS u1 out1 (chunk4 (k.drop (4 * j))) = none := by rw [chunk4_at (by omega), levelS, ← hb2, hp]
                have d0 : decide ((0 : Int) = 0) = true := rfl
                rw [hW]
                rw [hres] at n4
                rw [← n4] at m5
                simp only at m5
                rw [← m5]
                simp -implicitDefEqProofs (maxSteps := 3000000) only [go_sem, reduceCtorEq, OW.v_eq, OW.h_eq, ofW, d0]
                repeat ((first | refine req (by first | omega | assumption | exact commP_of (by kernel_rfl) | (simp only [LEN, List.length_append, List.length_cons, List.length_nil]; omega) | (simp [D.one]; omega) | (simp [D.one]; done)) ?_); simp -implicitDefEqProofs (maxSteps := 3000000) only [go_sem, reduceCtorEq, OW.v_eq, OW.h_eq, ofW, d0])
                rfl
              | some q =>
                obtain ⟨u2, pg⟩ := q
                have hW : putW u1 (kidB b) = (u2, pg) := by rw [putW, hp]
                have dp : decide (pg = 0) = false := decide_eq_false (putN_page hp)
                have hs2 := putN_small n2 hp
                have hres : levelS u1 out1 (chunk4 (k.drop (4 * j))) = levelS u2 (out1 ++ [⟨x.fName, pg⟩]) (chunk4 (k.drop (4 * (j + 1)))) := by rw [chunk4_at (by omega), levelS, ← hb2, hp, hn1]; rfl
                rw [hW]
                rw [hres] at n4
                simp -implicitDefEqProofs (maxSteps := 3000000) only [go_sem, reduceCtorEq, OW.v_eq, OW.h_eq, ofW, dp, w4]
                repeat ((first | refine req (by simp only [List.length_map]; omega) ?_ | refine req (by first | omega | assumption | exact commP_of (by kernel_rfl) | (simp only [LEN, List.length_append, List.length_cons, List.length_nil]; omega) | (simp [D.one]; omega) | (simp [D.one]; done)) ?_); simp -implicitDefEqProofs (maxSteps := 3000000) only [go_sem, reduceCtorEq, OW.v_eq, OW.h_eq, ofW, dp, w4, lget_strs hkx])
                refine next_data (j + 1, u2, out1 ++ [⟨x.fName, pg⟩]) ?_ ⟨by simp only; omega, hs2, by simp; omega, n4⟩ (by simp only; omega)
                simp [strs, ints, List.take_of_length_le]
          · have d8 := decide_eq_false h8
            have he : chunk4 (k.drop (4 * j)) = [] := chunk4_end (by omega)
            rw [he, levelS] at n4
            rw [← n4] at m5
            have hlen := levelS_len n4.symm
            have hcl := chunk4_len _ k (Nat.le_refl _)
            simp -implicitDefEqProofs (maxSteps := 3000000) only [go_sem, reduceCtorEq, d8]
            repeat ((first | refine req (by first | omega | assumption | exact commP_of (by kernel_rfl) | (simp only [LEN, List.length_append, List.length_cons, List.length_nil]; omega) | (simp [D.one]; omega) | (simp [D.one]; done)) ?_); simp -implicitDefEqProofs (maxSteps := 3000000) only [go_sem, reduceCtorEq, d8])
            refine next_data (f, u1, out1) ?_ ⟨by simp at hlen ⊢; omega, by simp only; omega, by simp only; rw [hlen, chunk4_cons (by intro e; rw [e] at m3; simp at m3)]; simp, n2, m5⟩ (by simp only; omega)
            simp
        · have dk := decide_eq_false hk
          rw [levelsS_stop (by omega)] at m5
          rw [← m5]
          simp -implicitDefEqProofs (maxSteps := 3000000) only [go_sem, reduceCtorEq, dk]
          obtain ⟨x, xs, rfl⟩ : ∃ x xs, k = x :: xs := by
            cases k with
            | nil => simp at m3
            | cons x xs => exact ⟨x, xs, rfl⟩
          have hx : lget (ints ((x :: xs).map (·.fKind))) 0 = [.int .i64 x.fKind] := rfl
          simp -implicitDefEqProofs (maxSteps := 3000000) only [go_sem, reduceCtorEq, hx]
          repeat ((first | refine req (by simp only [List.length_map, List.length_cons]; omega) ?_ | refine req (by first | omega | assumption | exact commP_of (by kernel_rfl) | (simp only [LEN, List.length_append, List.length_cons, List.length_nil]; omega) | (simp [D.one]; omega) | (simp [D.one]; done)) ?_); simp -implicitDefEqProofs (maxSteps := 3000000) only [go_sem, reduceCtorEq, hx])
          rfl
    · have : l = [] := List.eq_nil_of_length_eq_zero (by have := of_decide_eq_true hl0; omega)
      subst this
      rw [chunk4_nil]
      have d0 : decide (((0 : Nat) : Int) = 0) = true := rfl
      simp -implicitDefEqProofs (maxSteps := 3000000) only [go_sem, reduceCtorEq, d0]
      repeat ((first | refine req (by first | omega | assumption | exact commP_of (by kernel_rfl) | (simp only [LEN, List.length_append, List.length_cons, List.length_nil]; omega) | (simp [D.one]; omega) | (simp [D.one]; done)) ?_); simp -implicitDefEqProofs (maxSteps := 3000000) only [go_sem, reduceCtorEq, d0])
      rfl
theorem ks_BuildTree {h : Heap} {tb : Nat} {K : OK} {args : List V} (w : GWork) (l : List GPair) (hw : smallW w) (hl : l.length ≤ 1048576) (hg : toDs h args = some ([.agg w.cells, .sl (GPairS l)], []))
    (hk : K (renV (bk tb ([])) (buildV w l)) (updN tb ([]) ([]))) : callVC Go.Proofs.Try.prog h tb 7 args K :=
  call_free hg (cs_BuildTree w l hw hl) rfl (.inl rfl) hk
end Go.Rx

namespace Go.Rx
open Go
attribute [local irreducible] Req Way WayG Sel callVC CallOK
set_option linter.unusedSimpArgs false
set_option linter.unusedVariables false

def mtGo (n : Nat) (acc : List UInt8) : List UInt8 := if n = 0 then acc else mtGo (n / 10) (UInt8.ofNat (48 + n % 10) :: acc)
decreasing_by omega
def mt (n : Nat) : List UInt8 := if n = 0 then [109, 48] else 109 :: mtGo n []
theorem mtGo_step {n : Nat} {acc : List UInt8} (h : n ≠ 0) : mtGo n acc = mtGo (n / 10) (UInt8.ofNat (48 + n % 10) :: acc) := by
  conv => lhs; unfold mtGo
  rw [if_neg h]
theorem mtGo_zero {acc : List UInt8} : mtGo 0 acc = acc := by unfold mtGo; simp

theorem dig_eq {n : Nat} (h : n ≤ 4294967296) : IntKind.u8.wrap (IntKind.i64.wrap (48 + Int.tmod (n : Int) 10)) = ((48 + n % 10 : Nat) : Int) := by
  have h1 : Int.tmod (n : Int) 10 = ((n % 10 : Nat) : Int) := rfl
  rw [h1, wrap_int (by omega) (by omega)]
  simp only [IntKind.wrap, IntKind.bits, IntKind.signed]
  simp
  omega
theorem quo_eq {n : Nat} (h : n ≤ 4294967296) : IntKind.i64.wrap (Int.tdiv (n : Int) 10) = ((n / 10 : Nat) : Int) := by
  have h1 : Int.tdiv (n : Int) 10 = ((n / 10 : Nat) : Int) := rfl
  rw [h1, wrap_int (by omega) (by omega)]
theorem byteOf_dig {n : Nat} : byteOf [.int .u8 ((48 + n % 10 : Nat) : Int)] = UInt8.ofNat (48 + n % 10) := rfl
theorem byteCell_dig {n : Nat} : [byteCell (UInt8.ofNat (48 + n % 10))] = [[D.int .u8 ((48 + n % 10 : Nat) : Int)]] := by
  simp [byteCell]
  omega

@[go_sem] def hr42 : Hints
  | 0 => [0] | 1 => [0] | 2 => [] | 3 => [0] | 4 => [0, 3] | 5 => [0, 3] | 6 => [0, 3] | 7 => [3] | _ => []
@[go_sem] def hl42 : Hints
  | 4 => [0, 3] | _ => []
attribute [go_sem] Go.Proofs.Try.results42
set_option maxRecDepth 100000 in
set_option maxHeartbeats 2000000 in
theorem ci_markText (n : Nat) (hn : n ≤ 4294967296) : CallOK Go.Proofs.Try.prog 42 [.d (.int .i64 n)] [] [.dead] (.d (.str (mt n))) [] := by
  refine call_of tysZOK mixedZ Go.Proofs.Try.func42 (by kernel_rfl) rfl (np := [false]) (by kernel_rfl) hr42 hl42 (by simp [Go.Proofs.Try.ntmps42]) ?_
  simp -implicitDefEqProofs (maxSteps := 3000000) only [go_sem, reduceCtorEq]
  refine way_dec (fun h1 => ?_) (fun h1 => ?_)
  · simp -implicitDefEqProofs (maxSteps := 3000000) only [go_sem, reduceCtorEq]
    have : n = 0 := by omega
    simp [mt, this]
  · simp -implicitDefEqProofs (maxSteps := 3000000) only [go_sem, reduceCtorEq]
    refine loop_data (α := Nat × List UInt8) (fun x => ⟨[(0, .d (.int .i64 x.1)), (3, .d (.str x.2))], []⟩)
      (fun x => x.1 + x.2.length ≤ n ∧ mtGo x.1 x.2 = mtGo n []) (fun x => x.1) (n, []) rfl ⟨by simp, rfl⟩ ?_
    rintro ⟨k, acc⟩ ⟨h2, h3⟩
    simp only at h2 h3
    simp -implicitDefEqProofs (maxSteps := 3000000) only [go_sem, reduceCtorEq]
    refine way_dec (fun h4 => ?_) (fun h4 => ?_)
    · simp -implicitDefEqProofs (maxSteps := 3000000) only [go_sem, reduceCtorEq, dig_eq (n := k) (by omega), quo_eq (n := k) (by omega), byteOf_dig]
      repeat ((first | refine req (by first | assumption | omega | decide | exact byteCell_dig | (simp [D.one]; done) | (simp only [LEN, List.length_cons, List.length_nil]; omega)) ?_); simp -implicitDefEqProofs (maxSteps := 3000000) only [go_sem, reduceCtorEq, dig_eq (n := k) (by omega), quo_eq (n := k) (by omega), byteOf_dig])
      refine next_data (k / 10, UInt8.ofNat (48 + k % 10) :: acc) rfl ⟨?_, ?_⟩ ?_
      · simp only [List.length_cons]; omega
      · exact (mtGo_step (by omega)).symm.trans h3
      · simp only; omega
    · simp -implicitDefEqProofs (maxSteps := 3000000) only [go_sem, reduceCtorEq]
      have hk : k = 0 := by omega
      subst hk
      rw [mtGo_zero] at h3
      repeat ((first | refine req (by first | assumption | omega | (simp only [LEN, List.length_cons, List.length_nil]; omega)) ?_); simp -implicitDefEqProofs (maxSteps := 3000000) only [go_sem, reduceCtorEq])
      have : n ≠ 0 := by omega
      simp [mt, this, h3]
theorem ki_markText {h : Heap} {tb : Nat} {K : OK} {args : List V} {ls : List Nat} (n : Nat) (hn : n ≤ 4294967296) (hg : toDs h args = some ([.int .i64 n], ls))
    (hk : K (renV (bk tb ([])) (.d (.str (mt n)))) (updN tb ([]) ([]))) : callVC Go.Proofs.Try.prog h tb 42 args K :=
  call_free hg (ci_markText n hn) rfl (.inr ⟨flat_of rfl, flatHB_of rfl⟩) hk
theorem i64_lit {n k : Nat} (h : n + k ≤ 4294967296) : IntKind.i64.wrap ((n : Int) + (k : Int)) = ((n + k : Nat) : Int) := by rw [wrap_int (by omega) (by omega)]; omega

/-! marks in arrays of ours -/
def markT (n len : Nat) : List (List UInt8) := (List.range len).map fun i => mt (n + i)
def markN (n len : Nat) : List Int := (List.range len).map fun i => ((n + i : Nat) : Int)
def markPu (n len : Nat) : List GPut := (List.range len).map fun i => ⟨((n + 2 * i : Nat) : Int), mt (n + 2 * i + 1)⟩
def markPa (n len : Nat) : List GPair := (List.range len).map fun i => ⟨mt (n + 2 * i), mt (n + 2 * i + 1)⟩
def mkd {α : Type} (f : Nat → α) (l : List α) (off i : Nat) : List α := l.take off ++ (List.range i).map f ++ l.drop (off + i)
theorem mkd_zero {α : Type} {f : Nat → α} {l : List α} {off : Nat} : mkd f l off 0 = l := by simp [mkd]
theorem mkd_len {α : Type} {f : Nat → α} {l : List α} {off i : Nat} (h : off + i ≤ l.length) : (mkd f l off i).length = l.length := by simp [mkd]; omega
theorem mkd_set {α : Type} {f : Nat → α} {l : List α} {off i : Nat} (h : off + i < l.length) : (mkd f l off i).set (off + i) (f i) = mkd f l off (i + 1) := by
  unfold mkd
  rw [List.drop_eq_getElem_cons h, List.range_succ, List.map_append, List.set_append_right _ _ (by simp; omega)]
  have : off + i - (l.take off ++ (List.range i).map f).length = 0 := by simp; omega
  rw [this]
  simp [Nat.add_assoc]
theorem mkd_at {α : Type} {f : Nat → α} {l : List α} {off i : Nat} (h : off + i < l.length) : ∃ x, (mkd f l off i)[off + i]? = some x := by
  rw [← mkd_len (f := f) (l := l) (off := off) (i := i) (by omega)] at h
  exact ⟨_, List.getElem?_eq_getElem h⟩
@[go_sem] def hr41 : Hints
  | 0 => [0, 1] | 1 => [0, 1] | 2 => [0, 1, 5] | 3 => [0, 1, 5] | 4 => [0, 1, 5] | 5 => [0, 1, 5] | 6 => [0, 1] | _ => []
@[go_sem] def hl41 : Hints
  | 2 => [0, 1, 5] | _ => []
attribute [go_sem] Go.Proofs.Try.results41
set_option maxRecDepth 100000 in
set_option maxHeartbeats 2000000 in
theorem co_markIntS (l : List Int) (off len n : Nat) (hle : off + len ≤ l.length) (hl : len ≤ 2097152) (hn : n ≤ 8388608) : CallOK Go.Proofs.Try.prog 41 [.own 0 off len, .d (.int .i64 n)] [(0, .arr 1 (ints l))] [.own 0 off len, .dead]
    (.d (.int .i64 ((n + len : Nat) : Int))) [(0, .arr 1 (ints (mkd (fun i => ((n + i : Nat) : Int)) l off len)))] := by
  refine call_of tysZOK mixedZ Go.Proofs.Try.func41 (by kernel_rfl) rfl (np := [true, false]) (by kernel_rfl) hr41 hl41 (by simp [Go.Proofs.Try.ntmps41]) ?_
  simp -implicitDefEqProofs (maxSteps := 3000000) only [go_sem, reduceCtorEq]
  refine loop_data (α := Nat) (fun i => ⟨[(0, .own 0 off len), (1, .d (.int .i64 ((n + i : Nat) : Int))), (5, .d (.int .i64 i))], [(0, some (.arr 1 (ints (mkd (fun i => ((n + i : Nat) : Int)) l off i))))]⟩)
    (fun i => i ≤ len) (fun i => len - i) 0 (by rw [mkd_zero]; rfl) (Nat.zero_le _) ?_
  rintro i i1
  have hml := mkd_len (f := fun i => ((n + i : Nat) : Int)) (l := l) (off := off) (i := i) (by omega)
  simp -implicitDefEqProofs (maxSteps := 3000000) only [go_sem, reduceCtorEq]
  (first | (refine way_dec (fun h5 => ?_) (fun h5 => ?_)) | (refine way_ndec (fun h5 => ?_) (fun h5 => ?_)) | (refine wayT_dec (fun h5 => ?_) (fun h5 => ?_)) | (refine wayF_dec (fun h5 => ?_) (fun h5 => ?_)) | (refine wayT_ndec (fun h5 => ?_) (fun h5 => ?_)) | (refine wayF_ndec (fun h5 => ?_) (fun h5 => ?_)) | (refine way_not (fun h5 => ?_) (fun h5 => ?_)) | (refine way (fun h5 => ?_) (fun h5 => ?_)) | (refine wayT (fun h5 => ?_) (fun h5 => ?_)) | (refine wayF (fun h5 => ?_) (fun h5 => ?_)))
  · have e1 : IntKind.i64.wrap (((n + i : Nat) : Int) + 1) = ((n + (i + 1) : Nat) : Int) := wrap_succ (by simp only [LEN]; omega)
    have hset := mkd_set (f := fun i => ((n + i : Nat) : Int)) (l := l) (off := off) (i := i) (by omega)
    obtain ⟨x, hx⟩ := mkd_at (f := fun i => ((n + i : Nat) : Int)) (l := l) (off := off) (i := i) (by omega)
    simp -implicitDefEqProofs (maxSteps := 3000000) only [go_sem, reduceCtorEq, e1, hml, lget_ints hx]
    repeat ((first | refine req (by first | omega | assumption | exact commP_of (by kernel_rfl) | (simp only [LEN, List.length_append, List.length_cons, List.length_nil]; omega) | (simp [D.one]; omega) | (simp [D.one]; done)) ?_); simp -implicitDefEqProofs (maxSteps := 3000000) only [go_sem, reduceCtorEq, e1, hml, lget_ints hx])
    rw [wrap_succ (by simp only [LEN]; omega)]
    refine next_data (i + 1) ?_ (by omega) (by omega)
    rw [← hset]
  · obtain rfl : i = len := by omega
    simp -implicitDefEqProofs (maxSteps := 3000000) only [go_sem, reduceCtorEq]
@[go_sem] def hr68 : Hints
  | 0 => [0, 1] | 1 => [0, 1] | 2 => [0, 1, 5] | 3 => [0, 1, 5] | 4 => [0, 1, 5] | 5 => [0, 1, 5] | 6 => [0, 1] | _ => []
@[go_sem] def hl68 : Hints
  | 2 => [0, 1, 5] | _ => []
attribute [go_sem] Go.Proofs.Try.results68
set_option maxRecDepth 100000 in
set_option maxHeartbeats 2000000 in
theorem co_markStringS (l : List (List UInt8)) (off len n : Nat) (hle : off + len ≤ l.length) (hl : len ≤ 2097152) (hn : n ≤ 8388608) : CallOK Go.Proofs.Try.prog 68 [.own 0 off len, .d (.int .i64 n)] [(0, .arr 1 (strs l))] [.own 0 off len, .dead]
    (.d (.int .i64 ((n + len : Nat) : Int))) [(0, .arr 1 (strs (mkd (fun i => mt (n + i)) l off len)))] := by
  refine call_of tysZOK mixedZ Go.Proofs.Try.func68 (by kernel_rfl) rfl (np := [true, false]) (by kernel_rfl) hr68 hl68 (by simp [Go.Proofs.Try.ntmps68]) ?_
  simp -implicitDefEqProofs (maxSteps := 3000000) only [go_sem, reduceCtorEq]
  refine loop_data (α := Nat) (fun i => ⟨[(0, .own 0 off len), (1, .d (.int .i64 ((n + i : Nat) : Int))), (5, .d (.int .i64 i))], [(0, some (.arr 1 (strs (mkd (fun i => mt (n + i)) l off i))))]⟩)
    (fun i => i ≤ len) (fun i => len - i) 0 (by rw [mkd_zero]; rfl) (Nat.zero_le _) ?_
  rintro i i1
  have hml := mkd_len (f := fun i => mt (n + i)) (l := l) (off := off) (i := i) (by omega)
  simp -implicitDefEqProofs (maxSteps := 3000000) only [go_sem, reduceCtorEq]
  (first | (refine way_dec (fun h5 => ?_) (fun h5 => ?_)) | (refine way_ndec (fun h5 => ?_) (fun h5 => ?_)) | (refine wayT_dec (fun h5 => ?_) (fun h5 => ?_)) | (refine wayF_dec (fun h5 => ?_) (fun h5 => ?_)) | (refine wayT_ndec (fun h5 => ?_) (fun h5 => ?_)) | (refine wayF_ndec (fun h5 => ?_) (fun h5 => ?_)) | (refine way_not (fun h5 => ?_) (fun h5 => ?_)) | (refine way (fun h5 => ?_) (fun h5 => ?_)) | (refine wayT (fun h5 => ?_) (fun h5 => ?_)) | (refine wayF (fun h5 => ?_) (fun h5 => ?_)))
  · have e1 : IntKind.i64.wrap (((n + i : Nat) : Int) + 1) = ((n + (i + 1) : Nat) : Int) := wrap_succ (by simp only [LEN]; omega)
    have hset := mkd_set (f := fun i => mt (n + i)) (l := l) (off := off) (i := i) (by omega)
    obtain ⟨x, hx⟩ := mkd_at (f := fun i => mt (n + i)) (l := l) (off := off) (i := i) (by omega)
    simp -implicitDefEqProofs (maxSteps := 3000000) only [go_sem, reduceCtorEq, e1, hml, lget_strs hx]
    repeat ((first | refine req (by first | omega | assumption | exact commP_of (by kernel_rfl) | (simp only [LEN, List.length_append, List.length_cons, List.length_nil]; omega) | (simp [D.one]; omega) | (simp [D.one]; done)) ?_ | refine ki_markText (n + i) (by omega) rfl ?_); simp -implicitDefEqProofs (maxSteps := 3000000) only [go_sem, reduceCtorEq, e1, hml, lget_strs hx])
    rw [wrap_succ (by simp only [LEN]; omega)]
    refine next_data (i + 1) ?_ (by omega) (by omega)
    rw [← hset]
  · obtain rfl : i = len := by omega
    simp -implicitDefEqProofs (maxSteps := 3000000) only [go_sem, reduceCtorEq]
@[go_sem] def hr69 : Hints
  | 0 => [0, 1] | 1 => [0, 1] | 2 => [0, 1, 5] | 3 => [0, 1, 5] | 4 => [0, 1, 5] | 5 => [0, 1, 5] | 6 => [0, 1, 5] | 7 => [0, 1, 5] | 8 => [0, 1] | _ => []
@[go_sem] def hl69 : Hints
  | 2 => [0, 1, 5] | _ => []
attribute [go_sem] Go.Proofs.Try.results69
set_option maxRecDepth 100000 in
set_option maxHeartbeats 2000000 in
theorem co_markPutS (l : List GPut) (off len n : Nat) (hle : off + len ≤ l.length) (hl : len ≤ 2097152) (hn : n ≤ 8388608) : CallOK Go.Proofs.Try.prog 69 [.own 0 off len, .d (.int .i64 n)] [(0, .arr 2 (GPutS l))] [.own 0 off len, .dead]
    (.d (.int .i64 ((n + 2 * len : Nat) : Int))) [(0, .arr 2 (GPutS (mkd (fun i => (⟨((n + 2 * i : Nat) : Int), mt (n + 2 * i + 1)⟩ : GPut)) l off len)))] := by
  refine call_of tysZOK mixedZ Go.Proofs.Try.func69 (by kernel_rfl) rfl (np := [true, false]) (by kernel_rfl) hr69 hl69 (by simp [Go.Proofs.Try.ntmps69]) ?_
  simp -implicitDefEqProofs (maxSteps := 3000000) only [go_sem, reduceCtorEq]
  refine loop_data (α := Nat) (fun i => ⟨[(0, .own 0 off len), (1, .d (.int .i64 ((n + 2 * i : Nat) : Int))), (5, .d (.int .i64 i))], [(0, some (.arr 2 (GPutS (mkd (fun i => (⟨((n + 2 * i : Nat) : Int), mt (n + 2 * i + 1)⟩ : GPut)) l off i))))]⟩)
    (fun i => i ≤ len) (fun i => len - i) 0 (by rw [mkd_zero]; rfl) (Nat.zero_le _) ?_
  rintro i i1
  have hml := mkd_len (f := fun i => (⟨((n + 2 * i : Nat) : Int), mt (n + 2 * i + 1)⟩ : GPut)) (l := l) (off := off) (i := i) (by omega)
  simp -implicitDefEqProofs (maxSteps := 3000000) only [go_sem, reduceCtorEq]
  (first | (refine way_dec (fun h5 => ?_) (fun h5 => ?_)) | (refine way_ndec (fun h5 => ?_) (fun h5 => ?_)) | (refine wayT_dec (fun h5 => ?_) (fun h5 => ?_)) | (refine wayF_dec (fun h5 => ?_) (fun h5 => ?_)) | (refine wayT_ndec (fun h5 => ?_) (fun h5 => ?_)) | (refine wayF_ndec (fun h5 => ?_) (fun h5 => ?_)) | (refine way_not (fun h5 => ?_) (fun h5 => ?_)) | (refine way (fun h5 => ?_) (fun h5 => ?_)) | (refine wayT (fun h5 => ?_) (fun h5 => ?_)) | (refine wayF (fun h5 => ?_) (fun h5 => ?_)))
  · have e1 : IntKind.i64.wrap (((n + 2 * i : Nat) : Int) + 1) = ((n + 2 * i + 1 : Nat) : Int) := wrap_succ (by simp only [LEN]; omega)
    have e2 : IntKind.i64.wrap (((n + 2 * i + 1 : Nat) : Int) + 1) = ((n + 2 * (i + 1) : Nat) : Int) := by rw [wrap_succ (by simp only [LEN]; omega)]; congr 1
    have hset := mkd_set (f := fun i => (⟨((n + 2 * i : Nat) : Int), mt (n + 2 * i + 1)⟩ : GPut)) (l := l) (off := off) (i := i) (by omega)
    obtain ⟨x, hx⟩ := mkd_at (f := fun i => (⟨((n + 2 * i : Nat) : Int), mt (n + 2 * i + 1)⟩ : GPut)) (l := l) (off := off) (i := i) (by omega)
    generalize mkd (fun i => (⟨((n + 2 * i : Nat) : Int), mt (n + 2 * i + 1)⟩ : GPut)) l off i = m at hml hset hx ⊢
    have hq2 : ∀ y : GPut, lget (GPutS (m.set (off + i) y)) (off + i) = [.int .i64 y.fPage, .str y.fText] := fun y => lget_GPutS (List.getElem?_set_self (by omega))
    simp -implicitDefEqProofs (maxSteps := 3000000) only [go_sem, reduceCtorEq, e1, e2, hml, lget_GPutS hx, hq2, GPutS_set2, List.length_set]
    repeat ((first | refine req (by first | omega | assumption | exact commP_of (by kernel_rfl) | (simp only [LEN, List.length_append, List.length_cons, List.length_nil]; omega) | (simp [D.one]; omega) | (simp [D.one]; done)) ?_ | refine ki_markText (n + 2 * i + 1) (by omega) rfl ?_); simp -implicitDefEqProofs (maxSteps := 3000000) only [go_sem, reduceCtorEq, e1, e2, hml, lget_GPutS hx, hq2, GPutS_set2, List.length_set])
    rw [wrap_succ (by simp only [LEN]; omega), List.set_set]
    refine next_data (i + 1) ?_ (by omega) (by omega)
    rw [← hset]
  · obtain rfl : i = len := by omega
    simp -implicitDefEqProofs (maxSteps := 3000000) only [go_sem, reduceCtorEq]
@[go_sem] def hr14 : Hints
  | 0 => [0, 1] | 1 => [0, 1] | 2 => [0, 1, 5] | 3 => [0, 1, 5] | 4 => [0, 1, 5] | 5 => [0, 1, 5] | 6 => [0, 1, 5] | 7 => [0, 1, 5] | 8 => [0, 1] | _ => []
@[go_sem] def hl14 : Hints
  | 2 => [0, 1, 5] | _ => []
attribute [go_sem] Go.Proofs.Try.results14
set_option maxRecDepth 100000 in
set_option maxHeartbeats 2000000 in
theorem co_markPairS (l : List GPair) (off len n : Nat) (hle : off + len ≤ l.length) (hl : len ≤ 2097152) (hn : n ≤ 8388608) : CallOK Go.Proofs.Try.prog 14 [.own 0 off len, .d (.int .i64 n)] [(0, .arr 2 (GPairS l))] [.own 0 off len, .dead]
    (.d (.int .i64 ((n + 2 * len : Nat) : Int))) [(0, .arr 2 (GPairS (mkd (fun i => (⟨mt (n + 2 * i), mt (n + 2 * i + 1)⟩ : GPair)) l off len)))] := by
  refine call_of tysZOK mixedZ Go.Proofs.Try.func14 (by kernel_rfl) rfl (np := [true, false]) (by kernel_rfl) hr14 hl14 (by simp [Go.Proofs.Try.ntmps14]) ?_
  simp -implicitDefEqProofs (maxSteps := 3000000) only [go_sem, reduceCtorEq]
  refine loop_data (α := Nat) (fun i => ⟨[(0, .own 0 off len), (1, .d (.int .i64 ((n + 2 * i : Nat) : Int))), (5, .d (.int .i64 i))], [(0, some (.arr 2 (GPairS (mkd (fun i => (⟨mt (n + 2 * i), mt (n + 2 * i + 1)⟩ : GPair)) l off i))))]⟩)
    (fun i => i ≤ len) (fun i => len - i) 0 (by rw [mkd_zero]; rfl) (Nat.zero_le _) ?_
  rintro i i1
  have hml := mkd_len (f := fun i => (⟨mt (n + 2 * i), mt (n + 2 * i + 1)⟩ : GPair)) (l := l) (off := off) (i := i) (by omega)
  simp -implicitDefEqProofs (maxSteps := 3000000) only [go_sem, reduceCtorEq]
  (first | (refine way_dec (fun h5 => ?_) (fun h5 => ?_)) | (refine way_ndec (fun h5 => ?_) (fun h5 => ?_)) | (refine wayT_dec (fun h5 => ?_) (fun h5 => ?_)) | (refine wayF_dec (fun h5 => ?_) (fun h5 => ?_)) | (refine wayT_ndec (fun h5 => ?_) (fun h5 => ?_)) | (refine wayF_ndec (fun h5 => ?_) (fun h5 => ?_)) | (refine way_not (fun h5 => ?_) (fun h5 => ?_)) | (refine way (fun h5 => ?_) (fun h5 => ?_)) | (refine wayT (fun h5 => ?_) (fun h5 => ?_)) | (refine wayF (fun h5 => ?_) (fun h5 => ?_)))
  · have e1 : IntKind.i64.wrap (((n + 2 * i : Nat) : Int) + 1) = ((n + 2 * i + 1 : Nat) : Int) := wrap_succ (by simp only [LEN]; omega)
    have e2 : IntKind.i64.wrap (((n + 2 * i + 1 : Nat) : Int) + 1) = ((n + 2 * (i + 1) : Nat) : Int) := by rw [wrap_succ (by simp only [LEN]; omega)]; congr 1
    have hset := mkd_set (f := fun i => (⟨mt (n + 2 * i), mt (n + 2 * i + 1)⟩ : GPair)) (l := l) (off := off) (i := i) (by omega)
    obtain ⟨x, hx⟩ := mkd_at (f := fun i => (⟨mt (n + 2 * i), mt (n + 2 * i + 1)⟩ : GPair)) (l := l) (off := off) (i := i) (by omega)
    generalize mkd (fun i => (⟨mt (n + 2 * i), mt (n + 2 * i + 1)⟩ : GPair)) l off i = m at hml hset hx ⊢
    have hq2 : ∀ y : GPair, lget (GPairS (m.set (off + i) y)) (off + i) = [.str y.fKey, .str y.fVal] := fun y => lget_GPairS (List.getElem?_set_self (by omega))
    simp -implicitDefEqProofs (maxSteps := 3000000) only [go_sem, reduceCtorEq, e1, e2, hml, lget_GPairS hx, hq2, GPairS_set2, List.length_set]
    repeat ((first | refine req (by first | omega | assumption | exact commP_of (by kernel_rfl) | (simp only [LEN, List.length_append, List.length_cons, List.length_nil]; omega) | (simp [D.one]; omega) | (simp [D.one]; done)) ?_ | refine ki_markText (n + 2 * i) (by omega) rfl ?_ | refine ki_markText (n + 2 * i + 1) (by omega) rfl ?_); simp -implicitDefEqProofs (maxSteps := 3000000) only [go_sem, reduceCtorEq, e1, e2, hml, lget_GPairS hx, hq2, GPairS_set2, List.length_set])
    rw [wrap_succ (by simp only [LEN]; omega), List.set_set]
    refine next_data (i + 1) ?_ (by omega) (by omega)
    rw [← hset]
  · obtain rfl : i = len := by omega
    simp -implicitDefEqProofs (maxSteps := 3000000) only [go_sem, reduceCtorEq]
end Go.Rx

namespace Go.Rx
open Go
attribute [local irreducible] Req Way WayG Sel callVC CallOK
set_option linter.unusedSimpArgs false
set_option linter.unusedVariables false

theorem mkd_read {α : Type} {f : Nat → α} {l : List α} {off len : Nat} (h : off + len ≤ l.length) : ((mkd f l off len).drop off).take len = (List.range len).map f := by
  unfold mkd
  rw [List.append_assoc, List.drop_append_of_le_length (by simp; omega), List.drop_of_length_le (by simp; omega)]
  simp
theorem range_at {α : Type} {f : Nat → α} {len i : Nat} (h : i < len) : ((List.range len).map f)[i]? = some (f i) := by simp [h]

@[go_sem] def hr44 : Hints
  | 0 => [0, 1] | 1 => [0, 1] | 2 => [0, 1, 5] | 3 => [0, 1, 5] | 4 => [0, 1, 5] | 5 => [] | 6 => [0, 1, 5] | 7 => [1] | _ => []
@[go_sem] def hl44 : Hints
  | 2 => [0, 1, 5] | _ => []
attribute [go_sem] Go.Proofs.Try.results44
set_option maxRecDepth 100000 in
set_option maxHeartbeats 2000000 in
theorem cl_heldIntS (len n : Nat) (hl : len ≤ 2097152) (hn : n ≤ 8388608) : CallOK Go.Proofs.Try.prog 44 [.d (.sl (ints ((List.range len).map fun i => ((n + i : Nat) : Int)))), .d (.int .i64 n)] [] [.dead, .dead] (.d (.int .i64 ((n + len : Nat) : Int))) [] := by
  refine call_of tysZOK mixedZ Go.Proofs.Try.func44 (by kernel_rfl) rfl (np := [false, false]) (by kernel_rfl) hr44 hl44 (by simp [Go.Proofs.Try.ntmps44]) ?_
  simp -implicitDefEqProofs (maxSteps := 3000000) only [go_sem, reduceCtorEq]
  refine loop_data (α := Nat) (fun i => ⟨[(0, .d (.sl (ints ((List.range len).map fun i => ((n + i : Nat) : Int))))), (1, .d (.int .i64 ((n + i : Nat) : Int))), (5, .d (.int .i64 i))], []⟩)
    (fun i => i ≤ len) (fun i => len - i) 0 rfl (Nat.zero_le _) ?_
  rintro i i1
  simp -implicitDefEqProofs (maxSteps := 3000000) only [go_sem, reduceCtorEq, List.length_map, List.length_range]
  (first | (refine way_dec (fun h5 => ?_) (fun h5 => ?_)) | (refine way_ndec (fun h5 => ?_) (fun h5 => ?_)) | (refine wayT_dec (fun h5 => ?_) (fun h5 => ?_)) | (refine wayF_dec (fun h5 => ?_) (fun h5 => ?_)) | (refine wayT_ndec (fun h5 => ?_) (fun h5 => ?_)) | (refine wayF_ndec (fun h5 => ?_) (fun h5 => ?_)) | (refine way_not (fun h5 => ?_) (fun h5 => ?_)) | (refine way (fun h5 => ?_) (fun h5 => ?_)) | (refine wayT (fun h5 => ?_) (fun h5 => ?_)) | (refine wayF (fun h5 => ?_) (fun h5 => ?_)))
  · have e1 : IntKind.i64.wrap (((n + i : Nat) : Int) + 1) = ((n + (i + 1) : Nat) : Int) := wrap_succ (by simp only [LEN]; omega)
    have hx := lget_ints (range_at (f := fun i => ((n + i : Nat) : Int)) (len := len) (i := i) (by omega))
    have d0 : decide (((n + i : Nat) : Int) = ((n + i : Nat) : Int)) = true := decide_eq_true rfl
    simp -implicitDefEqProofs (maxSteps := 3000000) only [go_sem, reduceCtorEq, e1, hx, d0, List.length_map, List.length_range]
    repeat ((first | refine req (by first | omega | assumption | exact commP_of (by kernel_rfl) | (simp only [LEN, List.length_append, List.length_cons, List.length_nil]; omega) | (simp [D.one]; omega) | (simp [D.one]; done)) ?_); simp -implicitDefEqProofs (maxSteps := 3000000) only [go_sem, reduceCtorEq, e1, hx, d0, List.length_map, List.length_range])
    rw [wrap_succ (by simp only [LEN]; omega)]
    exact next_data (i + 1) rfl (by omega) (by omega)
  · obtain rfl : i = len := by omega
    simp -implicitDefEqProofs (maxSteps := 3000000) only [go_sem, reduceCtorEq]
theorem kl_heldIntS {h : Heap} {tb : Nat} {K : OK} {args : List V} {ls : List Nat} (len n : Nat) (hl : len ≤ 2097152) (hn : n ≤ 8388608) (hg : toDs h args = some ([.sl (ints ((List.range len).map fun i => ((n + i : Nat) : Int))), .int .i64 n], ls))
    (hk : K (renV (bk tb ([])) (.d (.int .i64 ((n + len : Nat) : Int)))) (updN tb ([]) ([]))) : callVC Go.Proofs.Try.prog h tb 44 args K :=
  call_free hg (cl_heldIntS len n hl hn) rfl (.inr ⟨flat_of rfl, flatHB_of rfl⟩) hk
@[go_sem] def hr70 : Hints
  | 0 => [0, 1] | 1 => [0, 1] | 2 => [0, 1, 5] | 3 => [0, 1, 5] | 4 => [0, 1, 5] | 5 => [] | 6 => [0, 1, 5] | 7 => [1] | _ => []
@[go_sem] def hl70 : Hints
  | 2 => [0, 1, 5] | _ => []
attribute [go_sem] Go.Proofs.Try.results70
set_option maxRecDepth 100000 in
set_option maxHeartbeats 2000000 in
theorem cl_heldStringS (len n : Nat) (hl : len ≤ 2097152) (hn : n ≤ 8388608) : CallOK Go.Proofs.Try.prog 70 [.d (.sl (strs ((List.range len).map fun i => mt (n + i)))), .d (.int .i64 n)] [] [.dead, .dead] (.d (.int .i64 ((n + len : Nat) : Int))) [] := by
  refine call_of tysZOK mixedZ Go.Proofs.Try.func70 (by kernel_rfl) rfl (np := [false, false]) (by kernel_rfl) hr70 hl70 (by simp [Go.Proofs.Try.ntmps70]) ?_
  simp -implicitDefEqProofs (maxSteps := 3000000) only [go_sem, reduceCtorEq]
  refine loop_data (α := Nat) (fun i => ⟨[(0, .d (.sl (strs ((List.range len).map fun i => mt (n + i))))), (1, .d (.int .i64 ((n + i : Nat) : Int))), (5, .d (.int .i64 i))], []⟩)
    (fun i => i ≤ len) (fun i => len - i) 0 rfl (Nat.zero_le _) ?_
  rintro i i1
  simp -implicitDefEqProofs (maxSteps := 3000000) only [go_sem, reduceCtorEq, List.length_map, List.length_range]
  (first | (refine way_dec (fun h5 => ?_) (fun h5 => ?_)) | (refine way_ndec (fun h5 => ?_) (fun h5 => ?_)) | (refine wayT_dec (fun h5 => ?_) (fun h5 => ?_)) | (refine wayF_dec (fun h5 => ?_) (fun h5 => ?_)) | (refine wayT_ndec (fun h5 => ?_) (fun h5 => ?_)) | (refine wayF_ndec (fun h5 => ?_) (fun h5 => ?_)) | (refine way_not (fun h5 => ?_) (fun h5 => ?_)) | (refine way (fun h5 => ?_) (fun h5 => ?_)) | (refine wayT (fun h5 => ?_) (fun h5 => ?_)) | (refine wayF (fun h5 => ?_) (fun h5 => ?_)))
  · have e1 : IntKind.i64.wrap (((n + i : Nat) : Int) + 1) = ((n + (i + 1) : Nat) : Int) := wrap_succ (by simp only [LEN]; omega)
    have hx := lget_strs (range_at (f := fun i => mt (n + i)) (len := len) (i := i) (by omega))
    have d0 : decide (mt (n + i) = mt (n + i)) = true := decide_eq_true rfl
    simp -implicitDefEqProofs (maxSteps := 3000000) only [go_sem, reduceCtorEq, e1, hx, d0, List.length_map, List.length_range]
    repeat ((first | refine req (by first | omega | assumption | exact commP_of (by kernel_rfl) | (simp only [LEN, List.length_append, List.length_cons, List.length_nil]; omega) | (simp [D.one]; omega) | (simp [D.one]; done)) ?_ | refine ki_markText (n + i) (by omega) rfl ?_); simp -implicitDefEqProofs (maxSteps := 3000000) only [go_sem, reduceCtorEq, e1, hx, d0, List.length_map, List.length_range])
    rw [wrap_succ (by simp only [LEN]; omega)]
    exact next_data (i + 1) rfl (by omega) (by omega)
  · obtain rfl : i = len := by omega
    simp -implicitDefEqProofs (maxSteps := 3000000) only [go_sem, reduceCtorEq]
theorem kl_heldStringS {h : Heap} {tb : Nat} {K : OK} {args : List V} {ls : List Nat} (len n : Nat) (hl : len ≤ 2097152) (hn : n ≤ 8388608) (hg : toDs h args = some ([.sl (strs ((List.range len).map fun i => mt (n + i))), .int .i64 n], ls))
    (hk : K (renV (bk tb ([])) (.d (.int .i64 ((n + len : Nat) : Int)))) (updN tb ([]) ([]))) : callVC Go.Proofs.Try.prog h tb 70 args K :=
  call_free hg (cl_heldStringS len n hl hn) rfl (.inr ⟨flat_of rfl, flatHB_of rfl⟩) hk
@[go_sem] def hr71 : Hints
  | 0 => [0, 1] | 1 => [0, 1] | 2 => [0, 1, 5] | 3 => [0, 1, 5] | 4 => [0, 1, 5] | 5 => [] | 6 => [0, 1, 5] | 7 => [0, 1, 5] | 8 => [] | 9 => [0, 1, 5] | 10 => [1] | _ => []
@[go_sem] def hl71 : Hints
  | 2 => [0, 1, 5] | _ => []
attribute [go_sem] Go.Proofs.Try.results71
set_option maxRecDepth 100000 in
set_option maxHeartbeats 2000000 in
theorem cl_heldPutS (len n : Nat) (hl : len ≤ 2097152) (hn : n ≤ 8388608) : CallOK Go.Proofs.Try.prog 71 [.d (.sl (GPutS ((List.range len).map fun i => (⟨((n + 2 * i : Nat) : Int), mt (n + 2 * i + 1)⟩ : GPut)))), .d (.int .i64 n)] [] [.dead, .dead] (.d (.int .i64 ((n + 2 * len : Nat) : Int))) [] := by
  refine call_of tysZOK mixedZ Go.Proofs.Try.func71 (by kernel_rfl) rfl (np := [false, false]) (by kernel_rfl) hr71 hl71 (by simp [Go.Proofs.Try.ntmps71]) ?_
  simp -implicitDefEqProofs (maxSteps := 3000000) only [go_sem, reduceCtorEq]
  refine loop_data (α := Nat) (fun i => ⟨[(0, .d (.sl (GPutS ((List.range len).map fun i => (⟨((n + 2 * i : Nat) : Int), mt (n + 2 * i + 1)⟩ : GPut))))), (1, .d (.int .i64 ((n + 2 * i : Nat) : Int))), (5, .d (.int .i64 i))], []⟩)
    (fun i => i ≤ len) (fun i => len - i) 0 rfl (Nat.zero_le _) ?_
  rintro i i1
  simp -implicitDefEqProofs (maxSteps := 3000000) only [go_sem, reduceCtorEq, List.length_map, List.length_range]
  (first | (refine way_dec (fun h5 => ?_) (fun h5 => ?_)) | (refine way_ndec (fun h5 => ?_) (fun h5 => ?_)) | (refine wayT_dec (fun h5 => ?_) (fun h5 => ?_)) | (refine wayF_dec (fun h5 => ?_) (fun h5 => ?_)) | (refine wayT_ndec (fun h5 => ?_) (fun h5 => ?_)) | (refine wayF_ndec (fun h5 => ?_) (fun h5 => ?_)) | (refine way_not (fun h5 => ?_) (fun h5 => ?_)) | (refine way (fun h5 => ?_) (fun h5 => ?_)) | (refine wayT (fun h5 => ?_) (fun h5 => ?_)) | (refine wayF (fun h5 => ?_) (fun h5 => ?_)))
  · have e1 : IntKind.i64.wrap (((n + 2 * i : Nat) : Int) + 1) = ((n + 2 * i + 1 : Nat) : Int) := wrap_succ (by simp only [LEN]; omega)
    have e2 : IntKind.i64.wrap (((n + 2 * i + 1 : Nat) : Int) + 1) = ((n + 2 * (i + 1) : Nat) : Int) := by rw [wrap_succ (by simp only [LEN]; omega)]; congr 1
    have hx := lget_GPutS (range_at (f := fun i => (⟨((n + 2 * i : Nat) : Int), mt (n + 2 * i + 1)⟩ : GPut)) (len := len) (i := i) (by omega))
    have d0 : decide (mt (n + 2 * i + 1) = mt (n + 2 * i + 1)) = true := decide_eq_true rfl
    have d1 : decide (((n + 2 * i : Nat) : Int) = ((n + 2 * i : Nat) : Int)) = true := decide_eq_true rfl
    simp -implicitDefEqProofs (maxSteps := 3000000) only [go_sem, reduceCtorEq, e1, e2, hx, d0, d1, List.length_map, List.length_range]
    repeat ((first | refine req (by first | omega | assumption | exact commP_of (by kernel_rfl) | (simp only [LEN, List.length_append, List.length_cons, List.length_nil]; omega) | (simp [D.one]; omega) | (simp [D.one]; done)) ?_ | refine ki_markText (n + 2 * i + 1) (by omega) rfl ?_); simp -implicitDefEqProofs (maxSteps := 3000000) only [go_sem, reduceCtorEq, e1, e2, hx, d0, d1, List.length_map, List.length_range])
    rw [wrap_succ (by simp only [LEN]; omega)]
    exact next_data (i + 1) rfl (by omega) (by omega)
  · obtain rfl : i = len := by omega
    simp -implicitDefEqProofs (maxSteps := 3000000) only [go_sem, reduceCtorEq]
theorem kl_heldPutS {h : Heap} {tb : Nat} {K : OK} {args : List V} {ls : List Nat} (len n : Nat) (hl : len ≤ 2097152) (hn : n ≤ 8388608) (hg : toDs h args = some ([.sl (GPutS ((List.range len).map fun i => (⟨((n + 2 * i : Nat) : Int), mt (n + 2 * i + 1)⟩ : GPut))), .int .i64 n], ls))
    (hk : K (renV (bk tb ([])) (.d (.int .i64 ((n + 2 * len : Nat) : Int)))) (updN tb ([]) ([]))) : callVC Go.Proofs.Try.prog h tb 71 args K :=
  call_free hg (cl_heldPutS len n hl hn) rfl (.inr ⟨flat_of rfl, flatHB_of rfl⟩) hk
end Go.Rx

namespace Go.Rx
open Go
attribute [local irreducible] Req Way WayG Sel callVC CallOK
set_option linter.unusedSimpArgs false
set_option linter.unusedVariables false

/-! what is handed to the program: lists of ours -/
set_option maxRecDepth 100000 in
set_option maxHeartbeats 2000000 in
theorem co_toStringS (l : List (List UInt8)) (hl1 : l.length ≤ 1048576) : CallOK Go.Proofs.Try.prog 61 [.d (.sl (strs l))] [] [.dead] (.own 0 0 l.length) [(0, .arr 1 (strs l))] := by
  refine call_of tysZOK mixedZ Go.Proofs.Try.func61 (by kernel_rfl) rfl (np := [false]) (by kernel_rfl) hr61 hl61 (by simp [Go.Proofs.Try.ntmps61]) ?_
  simp -implicitDefEqProofs (maxSteps := 3000000) only [go_sem, reduceCtorEq, strs_length]
  repeat ((first | refine req (by first | assumption | omega) ?_); simp -implicitDefEqProofs (maxSteps := 3000000) only [go_sem, reduceCtorEq, strs_length])
  rw [strs_zero]
  refine loop_data (α := Nat × List ((List UInt8))) (fun x => ⟨[(0, .d (.sl (strs l))), (3, .own 0 0 l.length), (4, .d (.int .i64 x.1))], [(0, some (.arr 1 (strs x.2)))]⟩)
    (fun x => x.1 ≤ l.length ∧ x.2.length = l.length ∧ x.2.take x.1 = l.take x.1) (fun x => l.length - x.1) (0, _) rfl ⟨Nat.zero_le _, by simp, by simp⟩ ?_
  rintro ⟨i, m⟩ ⟨h2, h3, h4⟩
  simp only at h2 h3 h4
  simp -implicitDefEqProofs (maxSteps := 3000000) only [go_sem, reduceCtorEq, strs_length]
  refine way_dec (fun h5 => ?_) (fun h5 => ?_)
  · obtain ⟨p, hp⟩ := some_at h5
    obtain ⟨q, hq⟩ := some_at (l := m) (h3 ▸ h5)
    simp -implicitDefEqProofs (maxSteps := 3000000) only [go_sem, reduceCtorEq, strs_length, lget_strs hp]
    repeat ((first | refine req (by first | assumption | omega) ?_); simp -implicitDefEqProofs (maxSteps := 3000000) only [go_sem, reduceCtorEq, strs_length, lget_strs hp, lget_strs hq])
    rw [wrap_succ (by simp only [LEN]; omega)]
    try rw [strs_set]
    refine next_data (i + 1, m.set i p) rfl ⟨?_, by simpa using h3, take_set hp h3 h4⟩ ?_
    · simp only; omega
    · simp only; omega
  · simp -implicitDefEqProofs (maxSteps := 3000000) only [go_sem, reduceCtorEq, strs_length]
    rw [List.take_of_length_le (by omega), List.take_of_length_le (by omega)] at h4
    rw [h4]
theorem ko_toStringS {h : Heap} {tb : Nat} {K : OK} {args : List V} (l : List (List UInt8)) (hl1 : l.length ≤ 1048576) (hg : toDs h args = some ([.sl (strs l)], []))
    (hk : K (renV (bk tb [(0, .arr 1 (strs l))]) (.own 0 0 l.length)) (updN tb [(0, .arr 1 (strs l))] [(0, .arr 1 (strs l))])) : callVC Go.Proofs.Try.prog h tb 61 args K :=
  call_free hg (co_toStringS l hl1) rfl (.inl rfl) hk
set_option maxRecDepth 100000 in
set_option maxHeartbeats 2000000 in
theorem co_toIntS (l : List Int) (hl1 : l.length ≤ 1048576) : CallOK Go.Proofs.Try.prog 31 [.d (.sl (ints l))] [] [.dead] (.own 0 0 l.length) [(0, .arr 1 (ints l))] := by
  refine call_of tysZOK mixedZ Go.Proofs.Try.func31 (by kernel_rfl) rfl (np := [false]) (by kernel_rfl) hr31 hl31 (by simp [Go.Proofs.Try.ntmps31]) ?_
  simp -implicitDefEqProofs (maxSteps := 3000000) only [go_sem, reduceCtorEq, ints_length]
  repeat ((first | refine req (by first | assumption | omega) ?_); simp -implicitDefEqProofs (maxSteps := 3000000) only [go_sem, reduceCtorEq, ints_length])
  rw [ints_zero]
  refine loop_data (α := Nat × List (Int)) (fun x => ⟨[(0, .d (.sl (ints l))), (3, .own 0 0 l.length), (4, .d (.int .i64 x.1))], [(0, some (.arr 1 (ints x.2)))]⟩)
    (fun x => x.1 ≤ l.length ∧ x.2.length = l.length ∧ x.2.take x.1 = l.take x.1) (fun x => l.length - x.1) (0, _) rfl ⟨Nat.zero_le _, by simp, by simp⟩ ?_
  rintro ⟨i, m⟩ ⟨h2, h3, h4⟩
  simp only at h2 h3 h4
  simp -implicitDefEqProofs (maxSteps := 3000000) only [go_sem, reduceCtorEq, ints_length]
  refine way_dec (fun h5 => ?_) (fun h5 => ?_)
  · obtain ⟨p, hp⟩ := some_at h5
    obtain ⟨q, hq⟩ := some_at (l := m) (h3 ▸ h5)
    simp -implicitDefEqProofs (maxSteps := 3000000) only [go_sem, reduceCtorEq, ints_length, lget_ints hp]
    repeat ((first | refine req (by first | assumption | omega) ?_); simp -implicitDefEqProofs (maxSteps := 3000000) only [go_sem, reduceCtorEq, ints_length, lget_ints hp, lget_ints hq])
    rw [wrap_succ (by simp only [LEN]; omega)]
    try rw [ints_set]
    refine next_data (i + 1, m.set i p) rfl ⟨?_, by simpa using h3, take_set hp h3 h4⟩ ?_
    · simp only; omega
    · simp only; omega
  · simp -implicitDefEqProofs (maxSteps := 3000000) only [go_sem, reduceCtorEq, ints_length]
    rw [List.take_of_length_le (by omega), List.take_of_length_le (by omega)] at h4
    rw [h4]
theorem ko_toIntS {h : Heap} {tb : Nat} {K : OK} {args : List V} (l : List Int) (hl1 : l.length ≤ 1048576) (hg : toDs h args = some ([.sl (ints l)], []))
    (hk : K (renV (bk tb [(0, .arr 1 (ints l))]) (.own 0 0 l.length)) (updN tb [(0, .arr 1 (ints l))] [(0, .arr 1 (ints l))])) : callVC Go.Proofs.Try.prog h tb 31 args K :=
  call_free hg (co_toIntS l hl1) rfl (.inl rfl) hk
set_option maxRecDepth 100000 in
set_option maxHeartbeats 2000000 in
theorem co_toPutS (l : List GPut) (hl1 : l.length ≤ 1048576) (hl2 : ∀ p ∈ l, smallGPut p) : CallOK Go.Proofs.Try.prog 62 [.d (.sl (GPutS l))] [] [.dead] (.own 0 0 l.length) [(0, .arr 2 (GPutS l))] := by
  refine call_of tysZOK mixedZ Go.Proofs.Try.func62 (by kernel_rfl) rfl (np := [false]) (by kernel_rfl) hr62 hl62 (by simp [Go.Proofs.Try.ntmps62]) ?_
  simp -implicitDefEqProofs (maxSteps := 3000000) only [go_sem, reduceCtorEq, GPutS_length]
  repeat ((first | refine req (by first | assumption | omega) ?_); simp -implicitDefEqProofs (maxSteps := 3000000) only [go_sem, reduceCtorEq, GPutS_length])
  rw [GPutS_zero]
  refine loop_data (α := Nat × List (GPut)) (fun x => ⟨[(0, .d (.sl (GPutS l))), (3, .own 0 0 l.length), (4, .d (.int .i64 x.1))], [(0, some (.arr 2 (GPutS x.2)))]⟩)
    (fun x => x.1 ≤ l.length ∧ x.2.length = l.length ∧ x.2.take x.1 = l.take x.1) (fun x => l.length - x.1) (0, _) rfl ⟨Nat.zero_le _, by simp, by simp⟩ ?_
  rintro ⟨i, m⟩ ⟨h2, h3, h4⟩
  simp only at h2 h3 h4
  simp -implicitDefEqProofs (maxSteps := 3000000) only [go_sem, reduceCtorEq, GPutS_length]
  refine way_dec (fun h5 => ?_) (fun h5 => ?_)
  · obtain ⟨p, hp⟩ := some_at h5
    obtain ⟨q, hq⟩ := some_at (l := m) (h3 ▸ h5)
    simp -implicitDefEqProofs (maxSteps := 3000000) only [go_sem, reduceCtorEq, GPutS_length, lget_GPutS hp]
    repeat ((first | refine req (by first | assumption | omega) ?_ | refine k87 p rfl (hl2 p (List.mem_of_getElem? hp)) ?_); simp -implicitDefEqProofs (maxSteps := 3000000) only [go_sem, reduceCtorEq, GPutS_length, lget_GPutS hp, lget_GPutS hq])
    rw [wrap_succ (by simp only [LEN]; omega)]
    try rw [GPutS_set (p := p)]
    refine next_data (i + 1, m.set i p) rfl ⟨?_, by simpa using h3, take_set hp h3 h4⟩ ?_
    · simp only; omega
    · simp only; omega
  · simp -implicitDefEqProofs (maxSteps := 3000000) only [go_sem, reduceCtorEq, GPutS_length]
    rw [List.take_of_length_le (by omega), List.take_of_length_le (by omega)] at h4
    rw [h4]
theorem ko_toPutS {h : Heap} {tb : Nat} {K : OK} {args : List V} (l : List GPut) (hl1 : l.length ≤ 1048576) (hl2 : ∀ p ∈ l, smallGPut p) (hg : toDs h args = some ([.sl (GPutS l)], []))
    (hk : K (renV (bk tb [(0, .arr 2 (GPutS l))]) (.own 0 0 l.length)) (updN tb [(0, .arr 2 (GPutS l))] [(0, .arr 2 (GPutS l))])) : callVC Go.Proofs.Try.prog h tb 62 args K :=
  call_free hg (co_toPutS l hl1 hl2) rfl (.inl rfl) hk
set_option maxRecDepth 100000 in
set_option maxHeartbeats 2000000 in
theorem co_toPairS (l : List GPair) (hl1 : l.length ≤ 1048576) (hl2 : ∀ p ∈ l, smallGPair p) : CallOK Go.Proofs.Try.prog 9 [.d (.sl (GPairS l))] [] [.dead] (.own 0 0 l.length) [(0, .arr 2 (GPairS l))] := by
  refine call_of tysZOK mixedZ Go.Proofs.Try.func9 (by kernel_rfl) rfl (np := [false]) (by kernel_rfl) hr9 hl9 (by simp [Go.Proofs.Try.ntmps9]) ?_
  simp -implicitDefEqProofs (maxSteps := 3000000) only [go_sem, reduceCtorEq, GPairS_length]
  repeat ((first | refine req (by first | assumption | omega) ?_); simp -implicitDefEqProofs (maxSteps := 3000000) only [go_sem, reduceCtorEq, GPairS_length])
  rw [GPairS_zero]
  refine loop_data (α := Nat × List (GPair)) (fun x => ⟨[(0, .d (.sl (GPairS l))), (3, .own 0 0 l.length), (4, .d (.int .i64 x.1))], [(0, some (.arr 2 (GPairS x.2)))]⟩)
    (fun x => x.1 ≤ l.length ∧ x.2.length = l.length ∧ x.2.take x.1 = l.take x.1) (fun x => l.length - x.1) (0, _) rfl ⟨Nat.zero_le _, by simp, by simp⟩ ?_
  rintro ⟨i, m⟩ ⟨h2, h3, h4⟩
  simp only at h2 h3 h4
  simp -implicitDefEqProofs (maxSteps := 3000000) only [go_sem, reduceCtorEq, GPairS_length]
  refine way_dec (fun h5 => ?_) (fun h5 => ?_)
  · obtain ⟨p, hp⟩ := some_at h5
    obtain ⟨q, hq⟩ := some_at (l := m) (h3 ▸ h5)
    simp -implicitDefEqProofs (maxSteps := 3000000) only [go_sem, reduceCtorEq, GPairS_length, lget_GPairS hp]
    repeat ((first | refine req (by first | assumption | omega) ?_ | refine k32 p rfl (hl2 p (List.mem_of_getElem? hp)) ?_); simp -implicitDefEqProofs (maxSteps := 3000000) only [go_sem, reduceCtorEq, GPairS_length, lget_GPairS hp, lget_GPairS hq])
    rw [wrap_succ (by simp only [LEN]; omega)]
    try rw [GPairS_set (p := p)]
    refine next_data (i + 1, m.set i p) rfl ⟨?_, by simpa using h3, take_set hp h3 h4⟩ ?_
    · simp only; omega
    · simp only; omega
  · simp -implicitDefEqProofs (maxSteps := 3000000) only [go_sem, reduceCtorEq, GPairS_length]
    rw [List.take_of_length_le (by omega), List.take_of_length_le (by omega)] at h4
    rw [h4]
theorem ko_toPairS {h : Heap} {tb : Nat} {K : OK} {args : List V} (l : List GPair) (hl1 : l.length ≤ 1048576) (hl2 : ∀ p ∈ l, smallGPair p) (hg : toDs h args = some ([.sl (GPairS l)], []))
    (hk : K (renV (bk tb [(0, .arr 2 (GPairS l))]) (.own 0 0 l.length)) (updN tb [(0, .arr 2 (GPairS l))] [(0, .arr 2 (GPairS l))])) : callVC Go.Proofs.Try.prog h tb 9 args K :=
  call_free hg (co_toPairS l hl1 hl2) rfl (.inl rfl) hk
set_option maxRecDepth 100000 in
set_option maxHeartbeats 2000000 in
theorem co_toDisk (x : GDisk) (hx : smallGDisk x) : CallOK Go.Proofs.Try.prog 30 [.d (.agg x.cells)] [] [.dead] (.agg [.own 0 0 x.fPages.length, .own 1 0 x.fLate.length]) [(0, .arr 1 (strs x.fPages)), (1, .arr 2 (GPutS x.fLate))] := by
  refine call_of tysZOK mixedZ Go.Proofs.Try.func30 (by kernel_rfl) rfl (np := [false]) (by kernel_rfl) hr30 hl30 (by simp [Go.Proofs.Try.ntmps30]) ?_
  obtain ⟨o0, o1⟩ := hx
  simp -implicitDefEqProofs (maxSteps := 3000000) only [go_sem, reduceCtorEq, GDisk.cells]
  repeat ((first | refine req (by first | assumption | omega) ?_ | refine ko_toStringS x.fPages o0.1 rfl ?_ | refine ko_toPutS x.fLate o1.1 o1.2 rfl ?_); simp -implicitDefEqProofs (maxSteps := 3000000) only [go_sem, reduceCtorEq])
  try rfl
theorem ko_toDisk {h : Heap} {tb : Nat} {K : OK} {args : List V} (x : GDisk) (hx : smallGDisk x) (hg : toDs h args = some ([.agg x.cells], []))
    (hk : K (renV (bk tb [(0, .arr 1 (strs x.fPages)), (1, .arr 2 (GPutS x.fLate))]) (.agg [.own 0 0 x.fPages.length, .own 1 0 x.fLate.length])) (updN tb [(0, .arr 1 (strs x.fPages)), (1, .arr 2 (GPutS x.fLate))] [(0, .arr 1 (strs x.fPages)), (1, .arr 2 (GPutS x.fLate))])) : callVC Go.Proofs.Try.prog h tb 30 args K :=
  call_free hg (co_toDisk x hx) rfl (.inl rfl) hk
set_option maxRecDepth 100000 in
set_option maxHeartbeats 2000000 in
theorem co_toWork (x : GWork) (hx : smallGWork x) : CallOK Go.Proofs.Try.prog 8 [.d (.agg x.cells)] [] [.dead] (ofW x).v (ofW x).h := by
  refine call_of tysZOK mixedZ Go.Proofs.Try.func8 (by kernel_rfl) rfl (np := [false]) (by kernel_rfl) hr8 hl8 (by simp [Go.Proofs.Try.ntmps8]) ?_
  obtain ⟨o0, o1, o2, o3⟩ := hx
  simp -implicitDefEqProofs (maxSteps := 3000000) only [go_sem, reduceCtorEq, GWork.cells]
  repeat ((first | refine req (by first | assumption | omega) ?_ | refine ko_toDisk x.fDisk o0 rfl ?_ | refine ko_toIntS x.fUsable o1 rfl ?_ | refine ko_toIntS x.fGone o2 rfl ?_ | refine ko_toIntS x.fFresh o3 rfl ?_); simp -implicitDefEqProofs (maxSteps := 3000000) only [go_sem, reduceCtorEq])
  try rfl
theorem ko_toWork {h : Heap} {tb : Nat} {K : OK} {args : List V} (x : GWork) (hx : smallGWork x) (hg : toDs h args = some ([.agg x.cells], []))
    (hk : K (renV (bk tb (ofW x).h) (ofW x).v) (updN tb (ofW x).h (ofW x).h)) : callVC Go.Proofs.Try.prog h tb 8 args K :=
  call_free hg (co_toWork x hx) rfl (.inl rfl) hk
end Go.Rx

namespace Go.Rx
open Go
attribute [local irreducible] Req Way WayG Sel callVC CallOK
set_option linter.unusedSimpArgs false
set_option linter.unusedVariables false

theorem mkd_all {α : Type} {f : Nat → α} {l : List α} : mkd f l 0 l.length = (List.range l.length).map f := by simp [mkd]
section
variable {h : Heap} {tb : Nat} {K : OK} {nm off len n : Nat}
theorem km_markIntS {l : List Int} (hle : off + len ≤ l.length) (hl : len ≤ 2097152) (hn : n ≤ 8388608) (hh : h nm = some (.arr 1 (ints l)))
    (hk : K (.d (.int .i64 ((n + len : Nat) : Int))) [(nm, none), (nm, some (.arr 1 (ints (mkd (fun i => ((n + i : Nat) : Int)) l off len))))]) : callVC Go.Proofs.Try.prog h tb 41 [.own nm off len, .d (.int .i64 n)] K :=
  call_own (ls := []) (xs := [.int .i64 n]) hh rfl rfl (co_markIntS l off len n hle hl hn) (by simp only [ints, List.length_map]; rw [mkd_len hle]) (flat_of rfl) flat_ints hk
theorem km_markStringS {l : List (List UInt8)} (hle : off + len ≤ l.length) (hl : len ≤ 2097152) (hn : n ≤ 8388608) (hh : h nm = some (.arr 1 (strs l)))
    (hk : K (.d (.int .i64 ((n + len : Nat) : Int))) [(nm, none), (nm, some (.arr 1 (strs (mkd (fun i => mt (n + i)) l off len))))]) : callVC Go.Proofs.Try.prog h tb 68 [.own nm off len, .d (.int .i64 n)] K :=
  call_own (ls := []) (xs := [.int .i64 n]) hh rfl rfl (co_markStringS l off len n hle hl hn) (by simp only [strs, List.length_map]; rw [mkd_len hle]) (flat_of rfl) flat_strs hk
theorem km_markPutS {l : List GPut} (hle : off + len ≤ l.length) (hl : len ≤ 2097152) (hn : n ≤ 8388608) (hh : h nm = some (.arr 2 (GPutS l)))
    (hk : K (.d (.int .i64 ((n + 2 * len : Nat) : Int))) [(nm, none), (nm, some (.arr 2 (GPutS (mkd (fun i => (⟨((n + 2 * i : Nat) : Int), mt (n + 2 * i + 1)⟩ : GPut)) l off len))))]) : callVC Go.Proofs.Try.prog h tb 69 [.own nm off len, .d (.int .i64 n)] K :=
  call_own (ls := []) (xs := [.int .i64 n]) hh rfl rfl (co_markPutS l off len n hle hl hn) (by simp only [GPutS, List.length_map]; rw [mkd_len hle]) (flat_of rfl) flat_GPutS hk
theorem km_markPairS {l : List GPair} (hle : off + len ≤ l.length) (hl : len ≤ 2097152) (hn : n ≤ 8388608) (hh : h nm = some (.arr 2 (GPairS l)))
    (hk : K (.d (.int .i64 ((n + 2 * len : Nat) : Int))) [(nm, none), (nm, some (.arr 2 (GPairS (mkd (fun i => (⟨mt (n + 2 * i), mt (n + 2 * i + 1)⟩ : GPair)) l off len))))]) : callVC Go.Proofs.Try.prog h tb 14 [.own nm off len, .d (.int .i64 n)] K :=
  call_own (ls := []) (xs := [.int .i64 n]) hh rfl rfl (co_markPairS l off len n hle hl hn) (by simp only [GPairS, List.length_map]; rw [mkd_len hle]) (flat_of rfl) flat_GPairS hk
end

/-- The lists of a work, marked. -/
def mkPuts (n len : Nat) : List GPut := (List.range len).map fun i => ⟨((n + 2 * i : Nat) : Int), mt (n + 2 * i + 1)⟩
def mkInts (n len : Nat) : List Int := (List.range len).map fun i => ((n + i : Nat) : Int)
def mkTexts (n len : Nat) : List (List UInt8) := (List.range len).map fun i => mt (n + i)
@[go_sem] def hr40 : Hints
  | 0 => [0, 1] | 1 => [0, 1, 2] | 2 => [0, 1, 2] | 3 => [0, 1] | _ => []
@[go_sem] def hl40 : Hints := fun _ => []
attribute [go_sem] Go.Proofs.Try.results40
set_option maxRecDepth 100000 in
set_option maxHeartbeats 2000000 in
theorem co_markDisk (a : List (List UInt8)) (b : List GPut) (n : Nat) (ha : a.length ≤ 2097152) (hb : b.length ≤ 2097152) (hn : n ≤ 2097152) :
    CallOK Go.Proofs.Try.prog 40 [.agg [.own 0 0 a.length, .own 1 0 b.length], .d (.int .i64 n)] [(0, .arr 1 (strs a)), (1, .arr 2 (GPutS b))] [.agg [.own 0 0 a.length, .own 1 0 b.length], .dead]
      (.d (.int .i64 ((n + a.length + 2 * b.length : Nat) : Int))) [(0, .arr 1 (strs (mkTexts n a.length))), (1, .arr 2 (GPutS (mkPuts (n + a.length) b.length)))] := by
  refine call_of tysZOK mixedZ Go.Proofs.Try.func40 (by kernel_rfl) rfl (np := [true, false]) (by kernel_rfl) hr40 hl40 (by simp [Go.Proofs.Try.ntmps40]) ?_
  simp -implicitDefEqProofs (maxSteps := 3000000) only [go_sem, reduceCtorEq]
  refine km_markStringS (by omega) ha (by omega) rfl ?_
  rw [mkd_all]
  simp -implicitDefEqProofs (maxSteps := 3000000) only [go_sem, reduceCtorEq]
  repeat ((first | refine req (by first | omega | assumption | exact commP_of (by kernel_rfl) | (simp only [LEN, List.length_append, List.length_cons, List.length_nil]; omega) | (simp [D.one]; omega) | (simp [D.one]; done)) ?_); simp -implicitDefEqProofs (maxSteps := 3000000) only [go_sem, reduceCtorEq])
  refine km_markPutS (by omega) hb (by omega) rfl ?_
  rw [mkd_all]
  simp -implicitDefEqProofs (maxSteps := 3000000) only [go_sem, reduceCtorEq]
  repeat ((first | refine req (by first | omega | assumption | exact commP_of (by kernel_rfl) | (simp only [LEN, List.length_append, List.length_cons, List.length_nil]; omega) | (simp [D.one]; omega) | (simp [D.one]; done)) ?_); simp -implicitDefEqProofs (maxSteps := 3000000) only [go_sem, reduceCtorEq])
  rfl
theorem km_markDisk {h : Heap} {tb : Nat} {K : OK} {x y n : Nat} {a : List (List UInt8)} {b : List GPut} (hxy : (x == y) = false) (ha : a.length ≤ 2097152) (hb : b.length ≤ 2097152) (hn : n ≤ 2097152) (hx : h x = some (.arr 1 (strs a))) (hy : h y = some (.arr 2 (GPutS b)))
    (hk : K (.d (.int .i64 ((n + a.length + 2 * b.length : Nat) : Int))) [(x, none), (y, none), (x, some (.arr 1 (strs (mkTexts n a.length)))), (y, some (.arr 2 (GPutS (mkPuts (n + a.length) b.length))))]) :
    callVC Go.Proofs.Try.prog h tb 40 [.agg [.own x 0 a.length, .own y 0 b.length], .d (.int .i64 n)] K := by
  refine call_shape [true, false] [true, true, false] («as» := [.own x 0 a.length, .own y 0 b.length, .dat (.int .i64 n)]) (ps := [x, y]) (bs := []) (outs := [.own 0 0 a.length, .own 1 0 b.length, .dead]) false (co_markDisk a b n ha hb hn) ?_ ?_ ?_ ?_ rfl rfl ?_ (.inr (.inl rfl)) hk
  · simp [flatA, flat1, simpleV, gather, gather1, gatherD, toD, cD, hx, hy]
  · simp [nodup, Arg.name?, List.filterMap_cons]; simpa using hxy
  · have hxy' : (x == y) = false := hxy
    simp [grpA, grp1, flat1, simpleV, argV, renC, idx, hxy']
  · simp [objs, hx, hy, renO]
  · refine ⟨?_, ?_, trivial⟩
    · simp [hx, hget, sameLen, strs, mkTexts]
    · simp [hy, hget, sameLen, GPutS, mkPuts]
def OW.mkn (w : OW) (n : Nat) : OW := ⟨mkTexts n w.pages.length, mkPuts (n + w.pages.length) w.late.length, w.next,
  mkd (fun i => ((n + w.pages.length + 2 * w.late.length + i : Nat) : Int)) w.ua w.uo (w.ua.length - w.uo), w.uo,
  mkInts (n + w.pages.length + 2 * w.late.length + (w.ua.length - w.uo)) w.gone.length, mkInts (n + w.pages.length + 2 * w.late.length + (w.ua.length - w.uo) + w.gone.length) w.fresh.length⟩
def OW.cnt (w : OW) : Nat := w.pages.length + 2 * w.late.length + (w.ua.length - w.uo) + w.gone.length + w.fresh.length
def OW.sm (w : OW) : Prop := w.pages.length ≤ 1048576 ∧ w.late.length ≤ 1048576 ∧ w.ua.length ≤ 1048576 ∧ w.gone.length ≤ 1048576 ∧ w.fresh.length ≤ 2097152 ∧ w.uo ≤ w.ua.length
@[go_sem] def hr13 : Hints
  | 0 => [0, 1] | 1 => [0, 1, 2] | 2 => [0, 1, 2] | 3 => [0, 1, 2] | 4 => [0, 1, 2] | 5 => [0, 1] | _ => []
@[go_sem] def hl13 : Hints := fun _ => []
attribute [go_sem] Go.Proofs.Try.results13
set_option maxRecDepth 100000 in
set_option maxHeartbeats 2000000 in
theorem co_markWork (w : OW) (n : Nat) (hw : w.sm) (hn : n ≤ 1048576) :
    CallOK Go.Proofs.Try.prog 13 [w.v, .d (.int .i64 n)] w.h [w.v, .dead] (.d (.int .i64 ((n + w.cnt : Nat) : Int))) (w.mkn n).h := by
  obtain ⟨w1, w2, w3, w4, w5, w6⟩ := hw
  simp only [OW.v_eq, OW.h_eq, OW.cnt, OW.mkn]
  refine call_of tysZOK mixedZ Go.Proofs.Try.func13 (by kernel_rfl) rfl (np := [true, false]) (by kernel_rfl) hr13 hl13 (by simp [Go.Proofs.Try.ntmps13]) ?_
  simp -implicitDefEqProofs (maxSteps := 3000000) only [go_sem, reduceCtorEq]
  refine km_markDisk rfl (by omega) (by omega) (by omega) rfl rfl ?_
  simp -implicitDefEqProofs (maxSteps := 3000000) only [go_sem, reduceCtorEq]
  repeat ((first | refine req (by first | omega | assumption | exact commP_of (by kernel_rfl) | (simp only [LEN, List.length_append, List.length_cons, List.length_nil]; omega) | (simp [D.one]; omega) | (simp [D.one]; done)) ?_); simp -implicitDefEqProofs (maxSteps := 3000000) only [go_sem, reduceCtorEq])
  refine km_markIntS (by omega) (by omega) (by omega) rfl ?_
  simp -implicitDefEqProofs (maxSteps := 3000000) only [go_sem, reduceCtorEq]
  repeat ((first | refine req (by first | omega | assumption | exact commP_of (by kernel_rfl) | (simp only [LEN, List.length_append, List.length_cons, List.length_nil]; omega) | (simp [D.one]; omega) | (simp [D.one]; done)) ?_); simp -implicitDefEqProofs (maxSteps := 3000000) only [go_sem, reduceCtorEq])
  refine km_markIntS (by omega) (by omega) (by omega) rfl ?_
  rw [mkd_all]
  simp -implicitDefEqProofs (maxSteps := 3000000) only [go_sem, reduceCtorEq]
  repeat ((first | refine req (by first | omega | assumption | exact commP_of (by kernel_rfl) | (simp only [LEN, List.length_append, List.length_cons, List.length_nil]; omega) | (simp [D.one]; omega) | (simp [D.one]; done)) ?_); simp -implicitDefEqProofs (maxSteps := 3000000) only [go_sem, reduceCtorEq])
  refine km_markIntS (by omega) (by omega) (by omega) rfl ?_
  rw [mkd_all]
  simp -implicitDefEqProofs (maxSteps := 3000000) only [go_sem, reduceCtorEq]
  repeat ((first | refine req (by first | omega | assumption | exact commP_of (by kernel_rfl) | (simp only [LEN, List.length_append, List.length_cons, List.length_nil]; omega) | (simp [D.one]; omega) | (simp [D.one]; done)) ?_); simp -implicitDefEqProofs (maxSteps := 3000000) only [go_sem, reduceCtorEq])
  have e : n + (w.pages.length + 2 * w.late.length + (w.ua.length - w.uo) + w.gone.length + w.fresh.length) = n + w.pages.length + 2 * w.late.length + (w.ua.length - w.uo) + w.gone.length + w.fresh.length := by omega
  rw [e]
  simp only [mkTexts, mkPuts, mkInts, mkd_len (f := fun i => ((n + w.pages.length + 2 * w.late.length + i : Nat) : Int)) (show w.uo + (w.ua.length - w.uo) ≤ w.ua.length by omega), List.length_map, List.length_range]

@[go_sem] def hr43 : Hints
  | 0 => [0, 1] | 1 => [1, 2] | 2 => [1, 2] | 3 => [] | 4 => [1, 2] | 5 => [1] | 6 => [] | 7 => [1] | _ => []
@[go_sem] def hl43 : Hints := fun _ => []
attribute [go_sem] Go.Proofs.Try.results43
set_option maxRecDepth 100000 in
set_option maxHeartbeats 2000000 in
theorem cl_heldDisk (n a b : Nat) (ha : a ≤ 2097152) (hb : b ≤ 2097152) (hn : n ≤ 2097152) : CallOK Go.Proofs.Try.prog 43 [.d (.agg [.sl (strs (mkTexts n a)), .sl (GPutS (mkPuts (n + a) b))]), .d (.int .i64 n)] [] [.dead, .dead] (.d (.int .i64 ((n + a + 2 * b : Nat) : Int))) [] := by
  refine call_of tysZOK mixedZ Go.Proofs.Try.func43 (by kernel_rfl) rfl (np := [false, false]) (by kernel_rfl) hr43 hl43 (by simp [Go.Proofs.Try.ntmps43]) ?_
  simp -implicitDefEqProofs (maxSteps := 3000000) only [go_sem, reduceCtorEq, mkTexts, mkPuts]
  refine kl_heldStringS a n ha (by omega) rfl ?_
  simp -implicitDefEqProofs (maxSteps := 3000000) only [go_sem, reduceCtorEq]
  repeat ((first | refine req (by first | omega | assumption | exact commP_of (by kernel_rfl) | (simp only [LEN, List.length_append, List.length_cons, List.length_nil]; omega) | (simp [D.one]; omega) | (simp [D.one]; done)) ?_ | refine way_ndec (fun h => absurd h (by omega)) (fun _ => ?_) | refine way_dec (fun h => absurd h (by omega)) (fun _ => ?_)); simp -implicitDefEqProofs (maxSteps := 3000000) only [go_sem, reduceCtorEq])
  refine kl_heldPutS b (n + a) hb (by omega) rfl ?_
  simp -implicitDefEqProofs (maxSteps := 3000000) only [go_sem, reduceCtorEq]
  repeat ((first | refine req (by first | omega | assumption | exact commP_of (by kernel_rfl) | (simp only [LEN, List.length_append, List.length_cons, List.length_nil]; omega) | (simp [D.one]; omega) | (simp [D.one]; done)) ?_ | refine way_ndec (fun h => absurd h (by omega)) (fun _ => ?_) | refine way_dec (fun h => absurd h (by omega)) (fun _ => ?_)); simp -implicitDefEqProofs (maxSteps := 3000000) only [go_sem, reduceCtorEq])
theorem kl_heldDisk {h : Heap} {tb : Nat} {K : OK} {args : List V} {ls : List Nat} (n a b : Nat) (ha : a ≤ 2097152) (hb : b ≤ 2097152) (hn : n ≤ 2097152) (hg : toDs h args = some ([.agg [.sl (strs (mkTexts n a)), .sl (GPutS (mkPuts (n + a) b))], .int .i64 n], ls))
    (hk : K (renV (bk tb ([])) (.d (.int .i64 ((n + a + 2 * b : Nat) : Int)))) (updN tb ([]) ([]))) : callVC Go.Proofs.Try.prog h tb 43 args K :=
  call_free hg (cl_heldDisk n a b ha hb hn) rfl (.inr ⟨flat_of rfl, flatHB_of rfl⟩) hk
@[go_sem] def hr15 : Hints
  | 0 => [0, 1] | 1 => [1, 2] | 2 => [1, 2] | 3 => [] | 4 => [1, 2] | 5 => [1, 2] | 6 => [] | 7 => [1, 2] | 8 => [1, 2] | 9 => [] | 10 => [1, 2] | 11 => [1] | 12 => [] | 13 => [1] | _ => []
@[go_sem] def hl15 : Hints := fun _ => []
attribute [go_sem] Go.Proofs.Try.results15
set_option maxRecDepth 100000 in
set_option maxHeartbeats 2000000 in
theorem cl_heldWork (n a b c d e : Nat) (z : Int) (ha : a ≤ 1048576) (hb : b ≤ 1048576) (hc : c ≤ 1048576) (hd : d ≤ 1048576) (he : e ≤ 2097152) (hn : n ≤ 1048576) : CallOK Go.Proofs.Try.prog 15 [.d (.agg [.sl (strs (mkTexts n a)), .sl (GPutS (mkPuts (n + a) b)), .int .i64 z, .sl (ints (mkInts (n + a + 2 * b) c)), .sl (ints (mkInts (n + a + 2 * b + c) d)), .sl (ints (mkInts (n + a + 2 * b + c + d) e))]), .d (.int .i64 n)] [] [.dead, .dead] (.d (.int .i64 ((n + a + 2 * b + c + d + e : Nat) : Int))) [] := by
  refine call_of tysZOK mixedZ Go.Proofs.Try.func15 (by kernel_rfl) rfl (np := [false, false]) (by kernel_rfl) hr15 hl15 (by simp [Go.Proofs.Try.ntmps15]) ?_
  simp -implicitDefEqProofs (maxSteps := 3000000) only [go_sem, reduceCtorEq]
  refine kl_heldDisk n a b (by omega) (by omega) (by omega) rfl ?_
  simp -implicitDefEqProofs (maxSteps := 3000000) only [go_sem, reduceCtorEq, mkInts]
  repeat ((first | refine req (by first | omega | assumption | exact commP_of (by kernel_rfl) | (simp only [LEN, List.length_append, List.length_cons, List.length_nil]; omega) | (simp [D.one]; omega) | (simp [D.one]; done)) ?_ | refine way_ndec (fun h => absurd h (by omega)) (fun _ => ?_) | refine way_dec (fun h => absurd h (by omega)) (fun _ => ?_) | refine kl_heldIntS c (n + a + 2 * b) (by omega) (by omega) rfl ?_ | refine kl_heldIntS d (n + a + 2 * b + c) (by omega) (by omega) rfl ?_ | refine kl_heldIntS e (n + a + 2 * b + c + d) (by omega) (by omega) rfl ?_); simp -implicitDefEqProofs (maxSteps := 3000000) only [go_sem, reduceCtorEq])
theorem kl_heldWork {h : Heap} {tb : Nat} {K : OK} {args : List V} {ls : List Nat} (n a b c d e : Nat) (z : Int) (ha : a ≤ 1048576) (hb : b ≤ 1048576) (hc : c ≤ 1048576) (hd : d ≤ 1048576) (he : e ≤ 2097152) (hn : n ≤ 1048576) (hg : toDs h args = some ([.agg [.sl (strs (mkTexts n a)), .sl (GPutS (mkPuts (n + a) b)), .int .i64 z, .sl (ints (mkInts (n + a + 2 * b) c)), .sl (ints (mkInts (n + a + 2 * b + c) d)), .sl (ints (mkInts (n + a + 2 * b + c + d) e))], .int .i64 n], ls))
    (hk : K (renV (bk tb ([])) (.d (.int .i64 ((n + a + 2 * b + c + d + e : Nat) : Int)))) (updN tb ([]) ([]))) : callVC Go.Proofs.Try.prog h tb 15 args K :=
  call_free hg (cl_heldWork n a b c d e z ha hb hc hd he hn) rfl (.inr ⟨flat_of rfl, flatHB_of rfl⟩) hk
end Go.Rx

namespace Go.Rx
open Go
attribute [local irreducible] Req Way WayG Sel callVC CallOK
set_option linter.unusedSimpArgs false
set_option linter.unusedVariables false

theorem buildV_eq {w : GWork} {l : List GPair} : buildV w l = .tup [.d (.agg (buildI w l).1.work.cells), .d (.int .i64 (buildI w l).2.1), .d (.bool (buildI w l).2.2)] := by
  have h := build_eq (w := w) (l := l)
  unfold buildV
  cases hb : buildS w l with
  | none => rw [hb] at h; rw [h.1, h.2]
  | some q =>
    obtain ⟨w', p⟩ := q
    rw [hb] at h
    simp only at h
    rw [h.1, h.2]
theorem ints_mkd {f : Nat → Int} {l : List Int} {o len : Nat} (h : o + len ≤ l.length) : ((ints (mkd f l o len)).drop o).take len = ints ((List.range len).map f) := by
  have := mkd_read (f := f) h
  rw [← this]; simp [ints]
theorem ints_mk {n len : Nat} : (ints (mkInts n len)).take len = ints (mkInts n len) := List.take_of_length_le (by simp [ints, mkInts])
theorem strs_mk {n len : Nat} : (strs (mkTexts n len)).take len = strs (mkTexts n len) := List.take_of_length_le (by simp [strs, mkTexts])
theorem puts_mk {n len : Nat} : (GPutS (mkPuts n len)).take len = GPutS (mkPuts n len) := List.take_of_length_le (by simp [GPutS, mkPuts])
theorem km_markWork {h : Heap} {tb : Nat} {K : OK} {w : OW} {n a b c d e : Nat} (hw : w.sm) (hn : n ≤ 1048576) (hd : nodup [a, b, c, d, e] = true) (ha : h a = some (.arr 1 (strs w.pages))) (hb : h b = some (.arr 2 (GPutS w.late))) (hc : h c = some (.arr 1 (ints w.ua))) (hd' : h d = some (.arr 1 (ints w.gone))) (he : h e = some (.arr 1 (ints w.fresh)))
    (hk : K (.d (.int .i64 ((n + w.cnt : Nat) : Int))) [(a, none), (b, none), (c, none), (d, none), (e, none), (a, some (.arr 1 (strs (w.mkn n).pages))), (b, some (.arr 2 (GPutS (w.mkn n).late))), (c, some (.arr 1 (ints (w.mkn n).ua))), (d, some (.arr 1 (ints (w.mkn n).gone))), (e, some (.arr 1 (ints (w.mkn n).fresh)))]) :
    callVC Go.Proofs.Try.prog h tb 13 [.agg [.own a 0 w.pages.length, .own b 0 w.late.length, .d (.int .i64 w.next), .own c w.uo (w.ua.length - w.uo), .own d 0 w.gone.length, .own e 0 w.fresh.length], .d (.int .i64 n)] K := by
  have hm := co_markWork w n hw hn
  have w6 := hw.2.2.2.2.2
  simp only [nodup, Bool.and_true, Bool.and_eq_true, Bool.not_eq_true', List.contains_cons, Bool.or_eq_false_iff, List.contains_nil] at hd
  obtain ⟨⟨ab, ac, ad, ae, _⟩, ⟨bc, bd, be, _⟩, ⟨cd, ce, _⟩, ⟨de, _⟩, _⟩ := hd
  refine call_shape [true, false] [true, true, false, true, true, true, false] («as» := [.own a 0 w.pages.length, .own b 0 w.late.length, .dat (.int .i64 w.next), .own c w.uo (w.ua.length - w.uo), .own d 0 w.gone.length, .own e 0 w.fresh.length, .dat (.int .i64 n)]) (ps := [a, b, c, d, e]) (bs := [])
    (outs := [.own 0 0 w.pages.length, .own 1 0 w.late.length, .d (.int .i64 w.next), .own 2 w.uo (w.ua.length - w.uo), .own 3 0 w.gone.length, .own 4 0 w.fresh.length, .dead]) false hm ?_ ?_ ?_ ?_ rfl rfl ?_ (.inr (.inl rfl)) hk
  · simp [flatA, flat1, simpleV, gather, gather1, gatherD, toD, cD, ha, hb, hc, hd', he]
  · simp [nodup, Arg.name?, List.filterMap_cons]
    simp only [beq_eq_false_iff_ne, ne_eq] at ab ac ad ae bc bd be cd ce de
    exact ⟨⟨ab, ac, ad, ae⟩, ⟨bc, bd, be⟩, ⟨cd, ce⟩, de⟩
  · simp [grpA, grp1, flat1, simpleV, argV, renC, idx, OW.v_eq, ab, ac, ad, ae, bc, bd, be, cd, ce, de]
  · simp [objs, ha, hb, hc, hd', he, renO, OW.h_eq]
  · refine ⟨?_, ?_, ?_, ?_, ?_, trivial⟩
    · simp [ha, hget, OW.h_eq, sameLen, strs, OW.mkn, mkTexts]
    · simp [hb, hget, OW.h_eq, sameLen, GPutS, OW.mkn, mkPuts]
    · simp [hc, hget, OW.h_eq, sameLen, ints, OW.mkn]; rw [mkd_len (by omega)]
    · simp [hd', hget, OW.h_eq, sameLen, ints, OW.mkn, mkInts]
    · simp [he, hget, OW.h_eq, sameLen, ints, OW.mkn, mkInts]
theorem dneg {n : Nat} : decide ((n : Int) < 0) = false := decide_eq_false (by omega)
theorem deqs {n : Int} : decide (n = n) = true := decide_eq_true rfl
theorem szPos {a : Int} (h : ¬ a < 0) : 0 ≤ a := by omega

@[go_sem] def hr3 : Hints
  | 0 => [0, 1] | 1 => [1, 2] | 2 => [1, 2, 5] | 3 => [1, 2, 5] | 4 => [] | 5 => [1, 2, 5] | 6 => [1, 2, 5] | 7 => [] | 8 => [1, 2] | 9 => [1, 2, 6, 7, 8] | 10 => [1, 2, 6, 7, 8, 9] | 11 => [1, 2, 6, 7, 8, 9, 10] | 12 => [1, 2, 6, 7, 8, 9, 10, 11, 12, 13] | 13 => [] | 14 => [1, 2, 6, 7, 8, 9, 10, 11, 12, 13] | 15 => [] | 16 => [1, 2, 6, 7, 8, 9, 10, 11, 12, 13] | 17 => [] | 18 => [1, 2, 6, 7, 8, 9, 10, 11, 12, 13] | 19 => [1, 2, 6, 7, 8, 9, 10, 11, 12, 13, 14] | 20 => [1, 2, 6, 7, 8, 10, 11, 12, 13, 14] | 21 => [1, 2, 6, 7, 8, 11, 12, 13, 14] | 22 => [] | 23 => [1, 2, 6, 7, 8, 11] | 24 => [1, 2, 6, 7, 8, 11, 15] | 25 => [1, 2, 6, 7, 8, 11, 15] | 26 => [1, 2, 6, 7, 8, 11, 15, 16] | 27 => [1, 2, 6, 7, 8, 11, 15, 16] | 28 => [] | 29 => [1, 2, 6, 7, 8, 11, 15, 16] | 30 => [] | 31 => [1, 2, 6, 7, 8, 11, 15] | 32 => [6, 7, 8, 11, 15, 17, 18, 19] | 33 => [] | 34 => [11, 15] | 35 => [11, 15, 16] | 36 => [15, 16] | 37 => [] | 38 => [15, 16] | 39 => [] | 40 => [] | _ => []
@[go_sem] def hl3 : Hints := fun _ => []
attribute [go_sem] Go.Proofs.Try.results3
set_option maxRecDepth 100000 in
set_option maxHeartbeats 2000000 in
theorem cl_Law (x : GWork) (hx : okGWork x) (l : List GPair) (hl : okSl okGPair l) : CallOK Go.Proofs.Try.prog 3 [.d (.agg x.cells), .d (.sl (GPairS l))] [] [.dead, .dead] (.d (.bool true)) [] := by
  refine call_of tysZOK mixedZ Go.Proofs.Try.func3 (by kernel_rfl) rfl (np := [false, false]) (by kernel_rfl) hr3 hl3 (by simp [Go.Proofs.Try.ntmps3]) ?_
  simp -implicitDefEqProofs (maxSteps := 3000000) only [go_sem, reduceCtorEq, GWork.cells_eq]
  refine k5 x 1048576 rfl hx ?_
  simp -implicitDefEqProofs (maxSteps := 3000000) only [go_sem, reduceCtorEq]
  (first | (refine way_dec (fun h1 => ?_) (fun h1 => ?_)) | (refine way_ndec (fun h1 => ?_) (fun h1 => ?_)) | (refine wayT_dec (fun h1 => ?_) (fun h1 => ?_)) | (refine wayF_dec (fun h1 => ?_) (fun h1 => ?_)) | (refine wayT_ndec (fun h1 => ?_) (fun h1 => ?_)) | (refine wayF_ndec (fun h1 => ?_) (fun h1 => ?_)) | (refine way_not (fun h1 => ?_) (fun h1 => ?_)) | (refine way (fun h1 => ?_) (fun h1 => ?_)) | (refine wayT (fun h1 => ?_) (fun h1 => ?_)) | (refine wayF (fun h1 => ?_) (fun h1 => ?_)))
  · simp -implicitDefEqProofs (maxSteps := 3000000) only [go_sem, reduceCtorEq]
  · obtain ⟨b1, s1⟩ := tells_GWork x 1048576 hx (by omega) (by omega) h1
    simp -implicitDefEqProofs (maxSteps := 3000000) only [go_sem, reduceCtorEq]
    refine k6 l (szGWork x 1048576) rfl hl ?_
    simp -implicitDefEqProofs (maxSteps := 3000000) only [go_sem, reduceCtorEq]
    (first | (refine way_dec (fun h2 => ?_) (fun h2 => ?_)) | (refine way_ndec (fun h2 => ?_) (fun h2 => ?_)) | (refine wayT_dec (fun h2 => ?_) (fun h2 => ?_)) | (refine wayF_dec (fun h2 => ?_) (fun h2 => ?_)) | (refine wayT_ndec (fun h2 => ?_) (fun h2 => ?_)) | (refine wayF_ndec (fun h2 => ?_) (fun h2 => ?_)) | (refine way_not (fun h2 => ?_) (fun h2 => ?_)) | (refine way (fun h2 => ?_) (fun h2 => ?_)) | (refine wayT (fun h2 => ?_) (fun h2 => ?_)) | (refine wayF (fun h2 => ?_) (fun h2 => ?_)))
    · simp -implicitDefEqProofs (maxSteps := 3000000) only [go_sem, reduceCtorEq]
    · obtain ⟨b2, s2⟩ := tells_sl tells_GPair l (szGWork x 1048576) hl (by omega) (by omega) h2
      have hsm : smallW x := ⟨⟨s1.1.1.1, s1.1.2.1⟩, s1.2.1, s1.2.2.1, Nat.le_trans s1.2.2.2 (by omega)⟩
      have hnice := buildI_nice (l := l) hsm hx
      simp -implicitDefEqProofs (maxSteps := 3000000) only [go_sem, reduceCtorEq]
      refine k8 x rfl s1 ?_
      simp -implicitDefEqProofs (maxSteps := 3000000) only [go_sem, reduceCtorEq]
      refine k9 l rfl s2 ?_
      simp -implicitDefEqProofs (maxSteps := 3000000) only [go_sem, reduceCtorEq]
      refine ks_BuildTree x l hsm s2.1 rfl ?_
      rw [buildV_eq]
      simp -implicitDefEqProofs (maxSteps := 3000000) only [go_sem, reduceCtorEq, OW.work_cells]
      repeat ((first | refine req (by first | omega | assumption | exact commP_of (by kernel_rfl) | (simp only [LEN, List.length_append, List.length_cons, List.length_nil]; omega) | (simp [D.one]; omega) | (simp [D.one]; done)) ?_); simp -implicitDefEqProofs (maxSteps := 3000000) only [go_sem, reduceCtorEq, OW.work_cells])
      refine ko_toWork x s1 rfl ?_
      simp -implicitDefEqProofs (maxSteps := 3000000) only [go_sem, reduceCtorEq, OW.v_eq, OW.h_eq, ofW]
      repeat ((first | refine req (by first | omega | assumption | exact commP_of (by kernel_rfl) | (simp only [LEN, List.length_append, List.length_cons, List.length_nil]; omega) | (simp [D.one]; omega) | (simp [D.one]; done)) ?_); simp -implicitDefEqProofs (maxSteps := 3000000) only [go_sem, reduceCtorEq, OW.v_eq, OW.h_eq, ofW])
      refine ko_toPairS l s2.1 s2.2 rfl ?_
      simp -implicitDefEqProofs (maxSteps := 3000000) only [go_sem, reduceCtorEq]
      repeat ((first | refine req (by first | omega | assumption | exact commP_of (by kernel_rfl) | (simp only [LEN, List.length_append, List.length_cons, List.length_nil]; omega) | (simp [D.one]; omega) | (simp [D.one]; done)) ?_); simp -implicitDefEqProofs (maxSteps := 3000000) only [go_sem, reduceCtorEq])
      refine ki_BuildTree x l hsm s2.1 (by simp -implicitDefEqProofs (maxSteps := 3000000) only [go_sem, reduceCtorEq, GWork.cells_eq]; try rfl) ?_
      generalize hq : buildI x l = q at hnice ⊢
      obtain ⟨⟨u1, u2, u3, u4, u5, u6, u7⟩, p, b⟩ := q
      obtain ⟨g1, g2, g3, g4⟩ := hnice
      simp only at g1 g2
      simp -implicitDefEqProofs (maxSteps := 3000000) only [go_sem, reduceCtorEq, OW.v_eq, OW.h_eq]
      repeat ((first | refine req (by first | omega | assumption | exact commP_of (by kernel_rfl) | (simp only [LEN, List.length_append, List.length_cons, List.length_nil]; omega) | (simp [D.one]; omega) | (simp [D.one]; done)) ?_ | refine k11 _ (by simp -implicitDefEqProofs (maxSteps := 3000000) only [go_sem, reduceCtorEq]; try rfl) g4 ?_ | refine k8 x rfl s1 ?_ | refine k11 x (by simp -implicitDefEqProofs (maxSteps := 3000000) only [go_sem, reduceCtorEq]; try rfl) hx ?_ | refine k9 l rfl s2 ?_ | refine k12 l (by simp -implicitDefEqProofs (maxSteps := 3000000) only [go_sem, reduceCtorEq]; try rfl) hl ?_); simp -implicitDefEqProofs (maxSteps := 3000000) only [go_sem, reduceCtorEq, OW.v_eq, OW.h_eq])
      have wx : (ofW x).sm := ⟨s1.1.1.1, s1.1.2.1, s1.2.1, s1.2.2.1, by have := s1.2.2.2; show x.fFresh.length ≤ _; omega, Nat.zero_le _⟩
      obtain ⟨⟨g5, g6⟩, _, g7, g8⟩ := g3
      have wu : (⟨u1, u2, u3, u4, u5, u6, u7⟩ : OW).sm := ⟨g5, g6, g2, g7, by show u7.length ≤ _; simp only [OW.work] at g5 g6 g8; omega, g1⟩
      have hl1 := s2.1
      have c1 : (ofW x).cnt ≤ 8000000 := by obtain ⟨q1, q2, q3, q4, q5, q6⟩ := wx; simp only [OW.cnt]; omega
      refine km_markWork (w := ofW x) (n := 1) wx (by omega) rfl rfl rfl rfl rfl rfl ?_
      simp -implicitDefEqProofs (maxSteps := 3000000) only [go_sem, reduceCtorEq, OW.mkn]
      repeat ((first | refine req (by first | omega | assumption | exact commP_of (by kernel_rfl) | (simp only [LEN, List.length_append, List.length_cons, List.length_nil]; omega) | (simp [D.one]; omega) | (simp [D.one]; done)) ?_); simp -implicitDefEqProofs (maxSteps := 3000000) only [go_sem, reduceCtorEq, OW.mkn])
      refine km_markPairS (n := 1 + (ofW x).cnt) (l := l) (by omega) (by omega) (by omega) rfl ?_
      simp -implicitDefEqProofs (maxSteps := 3000000) only [go_sem, reduceCtorEq, dneg, deqs]
      repeat ((first | refine req (by first | omega | assumption | exact commP_of (by kernel_rfl) | (simp only [LEN, List.length_append, List.length_cons, List.length_nil]; omega) | (simp [D.one]; omega) | (simp [D.one]; done)) ?_ | refine k11 _ (by simp -implicitDefEqProofs (maxSteps := 3000000) only [go_sem, reduceCtorEq]; try rfl) g4 ?_); simp -implicitDefEqProofs (maxSteps := 3000000) only [go_sem, reduceCtorEq, dneg, deqs])
      refine km_markWork (w := ⟨u1, u2, u3, u4, u5, u6, u7⟩) (n := 1) wu (by omega) rfl rfl rfl rfl rfl rfl ?_
      simp -implicitDefEqProofs (maxSteps := 3000000) only [go_sem, reduceCtorEq, OW.mkn]
      repeat ((first | refine req (by first | omega | assumption | exact commP_of (by kernel_rfl) | (simp only [LEN, List.length_append, List.length_cons, List.length_nil]; omega) | (simp [D.one]; omega) | (simp [D.one]; done)) ?_); simp -implicitDefEqProofs (maxSteps := 3000000) only [go_sem, reduceCtorEq, OW.mkn])
      have rmd : ((ints (mkd (fun i => ((1 + u1.length + 2 * u2.length + i : Nat) : Int)) u4 u5 (u4.length - u5))).drop u5).take (u4.length - u5) = ints (mkInts (1 + u1.length + 2 * u2.length) (u4.length - u5)) := ints_mkd (by omega)
      have hcnt : 1 + OW.cnt ⟨u1, u2, u3, u4, u5, u6, u7⟩ = 1 + u1.length + 2 * u2.length + (u4.length - u5) + u6.length + u7.length := by simp only [OW.cnt]; omega
      obtain ⟨k1, k2, k3, k4, k5, _⟩ := wu
      simp only at k1 k2 k3 k4 k5
      refine kl_heldWork 1 u1.length u2.length (u4.length - u5) u6.length u7.length u3 k1 k2 (by omega) k4 k5 (by omega) (by simp -implicitDefEqProofs (maxSteps := 3000000) only [go_sem, reduceCtorEq, rmd, ints_mk, strs_mk, puts_mk]; try rfl) ?_
      simp -implicitDefEqProofs (maxSteps := 3000000) only [go_sem, reduceCtorEq, dneg, deqs, hcnt]
      repeat ((first | refine req (by first | omega | assumption | exact commP_of (by kernel_rfl) | (simp only [LEN, List.length_append, List.length_cons, List.length_nil]; omega) | (simp [D.one]; omega) | (simp [D.one]; done)) ?_); simp -implicitDefEqProofs (maxSteps := 3000000) only [go_sem, reduceCtorEq, dneg, deqs, hcnt])
      refine k8 x rfl s1 ?_
      simp -implicitDefEqProofs (maxSteps := 3000000) only [go_sem, reduceCtorEq, dneg, deqs, hcnt]
      refine k9 l rfl s2 ?_
      simp -implicitDefEqProofs (maxSteps := 3000000) only [go_sem, reduceCtorEq, dneg, deqs, hcnt]
      refine ki_BuildTree x l hsm s2.1 (by simp -implicitDefEqProofs (maxSteps := 3000000) only [go_sem, reduceCtorEq, GWork.cells_eq]; try rfl) ?_
      rw [hq]
      simp -implicitDefEqProofs (maxSteps := 3000000) only [go_sem, reduceCtorEq, OW.v_eq, OW.h_eq, dneg, deqs, hcnt]
      repeat ((first | refine req (by first | omega | assumption | exact commP_of (by kernel_rfl) | (simp only [LEN, List.length_append, List.length_cons, List.length_nil]; omega) | (simp [D.one]; omega) | (simp [D.one]; done)) ?_ | refine k11 _ (by simp -implicitDefEqProofs (maxSteps := 3000000) only [go_sem, reduceCtorEq]; try rfl) g4 ?_); simp -implicitDefEqProofs (maxSteps := 3000000) only [go_sem, reduceCtorEq, OW.v_eq, OW.h_eq, dneg, deqs, hcnt])
      refine kl_heldWork 1 u1.length u2.length (u4.length - u5) u6.length u7.length u3 k1 k2 (by omega) k4 k5 (by omega) (by simp -implicitDefEqProofs (maxSteps := 3000000) only [go_sem, reduceCtorEq, rmd, ints_mk, strs_mk, puts_mk]; try rfl) ?_
      simp -implicitDefEqProofs (maxSteps := 3000000) only [go_sem, reduceCtorEq, dneg, deqs, hcnt]
      repeat ((first | refine req (by first | omega | assumption | exact commP_of (by kernel_rfl) | (simp only [LEN, List.length_append, List.length_cons, List.length_nil]; omega) | (simp [D.one]; omega) | (simp [D.one]; done)) ?_); simp -implicitDefEqProofs (maxSteps := 3000000) only [go_sem, reduceCtorEq, dneg, deqs, hcnt])
      trace_state
theorem kl_Law {h : Heap} {tb : Nat} {K : OK} {args : List V} {ls : List Nat} (x : GWork) (hx : okGWork x) (l : List GPair) (hl : okSl okGPair l) (hg : toDs h args = some ([.agg x.cells, .sl (GPairS l)], ls))
    (hk : K (renV (bk tb ([])) (.d (.bool true))) (updN tb ([]) ([]))) : callVC Go.Proofs.Try.prog h tb 3 args K :=
  call_free hg (cl_Law x hx l hl) rfl (.inr ⟨flat_of rfl, flatHB_of rfl⟩) hk
end Go.Rx
