/-
  Part C5: lemmas on an evaluator over plain data of the model's code, plain laws on lists and numbers, or contracts of functions of the program; each lemma names its conditions.
-/
import Derived.Test.YtmeinhaecplpkaaGreatRB6
import Derived.Test.YtmeinhaecplpkaaGreatRC3
import Derived.Test.YtmeinhaecplpkaaGreatRP5
import Derived.Test.YtmeinhaecplpkaaGreatRC4

set_option linter.unusedSimpArgs false
set_option linter.unusedVariables false
namespace Go.Rx
open Go
attribute [local irreducible] Req Way WayG Sel callVC CallOK seqVC cVC loopVC nextK
@[go_sem] def hr131:Hints
 |0=> [0]|1=> [1,2]|2=> [1,2,4]|3=> [1,2,4]|4=> [1,2,4]|5=> [1,2,4,5]|6=> [1,2,4,5]|7=> [1,2,4,5]|8=> [1,2,4,5,6]|9=> [1,2,4,5,6,7]|10=> [1,2,4,5,6,7]|11=> [1,2,4,5,6,7]|12=> [1,2,4,5,6,7,8]|13=> [1,2,4,5,6,7,8]|14=> [1,2,4,5,6]|15=> [1,2,4,5,6]|16=> [1,2,4]|17=> [1,2,4,9]|18=> [1,2,4,9,10]|19=> [1,2,4,9,10]|20=> [1,2,4,9,10]|21=> [1,2,4,9,10]|22=> [2,4,9]|23=> [2,4,9]|24=> [2,4,9]|25=> [2,4]|26=> [2,4,12]|27=> [2]|28=> [2,4]|_=> []
@[go_sem] def hl131:Hints
 |5=> [1,2,4,5]|9=> [1,2,4,5,6,7]|18=> [1,2,4,9,10]|_=> []
attribute [go_sem] Go.Proofs.Tryz.results131
set_option maxRecDepth 100000 in
set_option maxHeartbeats 16000000 in
theorem cs_NextMeta (t : GTxn) (h1 : metaOk t.fBase) (h2 : smallW t.fWork) (h3 : t.fWork.fGone.length + t.fWork.fUsable.length ≤ 1000) (h4 : (newPages t).length ≤ 1000) : CallOK Go.Proofs.Tryz.prog 131 [.d (.agg t.cells)] [] [.dead] (nextMetaV t) [] := by
  refine call_fr tysZOK mixedZ Go.Proofs.Tryz.func131 (by kernel_rfl) rfl (by kernel_rfl) hr131 hl131 (by simp [Go.Proofs.Tryz.ntmps131]) rfl ?_
  have ht := nextTx_wrap h1.1.1
  have d0 : decide (t.fBase.fTx < 100001) = true := decide_eq_true (by have := h1.1.1.2; omega)
  have e0 : IntKind.i64.wrap (t.fBase.fTx + 1) = t.fBase.fTx + 1 := by have := h1.1.1; exact wrap_int (by omega) (by omega)
  simp -implicitDefEqProofs only [go_sem, GTxn.cells]
  simp -implicitDefEqProofs only [go_sem, d0, e0]
  repeat ((first | refine rq ?_ | refine wy ?_ | refine wn ?_ | refine gy ?_ | refine gn ?_ | fail); simp -implicitDefEqProofs only [go_sem, d0, e0])
  refine loop_data (α := Nat) (fun i => ⟨[(1, .ref 0 0), (2, .ref 1 0), (4, .ref 3 0), (5, .d (.int .i64 i))], [(0, some (.box [.d (.int .i64 t.fBase.fTx), .d (.int .i64 t.fBase.fRoot), .d (.int .i64 t.fBase.fNext), .d (.sl (GFreeS t.fBase.fFrees)), .d (.sl (strs t.fWork.fDisk.fPages)), .d (.sl (GPutS t.fWork.fDisk.fLate)), .d (.int .i64 t.fWork.fNext), .d (.sl (ints t.fWork.fUsable)), .d (.sl (ints t.fWork.fGone)), .d (.sl (ints t.fWork.fFresh)), .d (.int .i64 t.fRoot)])), (1, some (.box [.d (.int .i64 0), .d (.int .i64 0), .d (.int .i64 0), .own 2 0 0])), (2, some (.arr 2 [])), (3, some (.box [.d (.int .i64 (t.fBase.fTx + 1)), .d (.int .i64 t.fRoot), .d (.int .i64 t.fWork.fNext), .own 4 0 (keptFrees t.fWork.fFresh (t.fBase.fFrees.take i)).length])), (4, some (.arr 2 (GFreeS (keptFrees t.fWork.fFresh (t.fBase.fFrees.take i)))))]⟩)
    (fun i => i ≤ t.fBase.fFrees.length) (fun i => t.fBase.fFrees.length - i) 0 rfl (Nat.zero_le _) ?_
  rintro i i1
  have hfl := h1.1.2.2.2
  have hkl := kept_len (fresh := t.fWork.fFresh) (l := t.fBase.fFrees.take i)
  simp only [List.length_take] at hkl
  simp -implicitDefEqProofs only [go_sem]
  (first | (refine way_dec (fun h5 => ?_) (fun h5 => ?_)) | (refine way_ndec (fun h5 => ?_) (fun h5 => ?_)) | (refine wayT_dec (fun h5 => ?_) (fun h5 => ?_)) | (refine wayF_dec (fun h5 => ?_) (fun h5 => ?_)) | (refine wayT_ndec (fun h5 => ?_) (fun h5 => ?_)) | (refine wayF_ndec (fun h5 => ?_) (fun h5 => ?_)) | (refine way_not (fun h5 => ?_) (fun h5 => ?_)) | (refine way (fun h5 => ?_) (fun h5 => ?_)) | (refine wayT (fun h5 => ?_) (fun h5 => ?_)) | (refine wayF (fun h5 => ?_) (fun h5 => ?_)))
  · obtain ⟨f, hf⟩ := some_at h5
    have hpl := (h1.2.1 f (List.mem_of_getElem? hf)).2.1.2
    have hst := kept_snoc (fresh := t.fWork.fFresh) hf
    have hi1 : IntKind.i64.wrap ((i : Int) + 1) = ((i + 1 : Nat) : Int) := wrap_succ (by simp only [LEN]; omega)
    simp -implicitDefEqProofs only [go_sem, lget_GFreeS hf]
    repeat ((first | refine rq ?_ | refine wy ?_ | refine wn ?_ | refine gy ?_ | refine gn ?_ | fail); simp -implicitDefEqProofs only [go_sem, lget_GFreeS hf])
    refine loop_data (α := Nat) (fun k => ⟨[(1, .ref 0 0), (2, .ref 1 0), (4, .ref 3 0), (5, .d (.int .i64 i)), (6, .ref 5 0), (7, .d (.int .i64 k))], [(0, some (.box [.d (.int .i64 t.fBase.fTx), .d (.int .i64 t.fBase.fRoot), .d (.int .i64 t.fBase.fNext), .d (.sl (GFreeS t.fBase.fFrees)), .d (.sl (strs t.fWork.fDisk.fPages)), .d (.sl (GPutS t.fWork.fDisk.fLate)), .d (.int .i64 t.fWork.fNext), .d (.sl (ints t.fWork.fUsable)), .d (.sl (ints t.fWork.fGone)), .d (.sl (ints t.fWork.fFresh)), .d (.int .i64 t.fRoot)])), (1, some (.box [.d (.int .i64 0), .d (.int .i64 0), .d (.int .i64 0), .own 2 0 0])), (2, some (.arr 2 [])), (3, some (.box [.d (.int .i64 (t.fBase.fTx + 1)), .d (.int .i64 t.fRoot), .d (.int .i64 t.fWork.fNext), .own 4 0 (keptFrees t.fWork.fFresh (t.fBase.fFrees.take i)).length])), (4, some (.arr 2 (GFreeS (keptFrees t.fWork.fFresh (t.fBase.fFrees.take i))))), (5, some (.box [.d (.int .i64 f.fTx), .own 6 0 (notIn t.fWork.fFresh (f.fPages.take k)).length])), (6, some (.arr 1 (ints (notIn t.fWork.fFresh (f.fPages.take k)))))]⟩)
      (fun k => k ≤ f.fPages.length) (fun k => f.fPages.length - k) 0 rfl (Nat.zero_le _) ?_
    rintro k k1
    have hnl := notIn_len (fresh := t.fWork.fFresh) (l := f.fPages.take k)
    simp only [List.length_take] at hnl
    have hk1 : IntKind.i64.wrap ((k : Int) + 1) = ((k + 1 : Nat) : Int) := wrap_succ (by simp only [LEN]; omega)
    simp -implicitDefEqProofs only [go_sem, lget_GFreeS hf]
    repeat ((first | refine rq ?_ | fail); simp -implicitDefEqProofs only [go_sem, lget_GFreeS hf])
    (first | (refine way_dec (fun h8 => ?_) (fun h8 => ?_)) | (refine way_ndec (fun h8 => ?_) (fun h8 => ?_)) | (refine wayT_dec (fun h8 => ?_) (fun h8 => ?_)) | (refine wayF_dec (fun h8 => ?_) (fun h8 => ?_)) | (refine wayT_ndec (fun h8 => ?_) (fun h8 => ?_)) | (refine wayF_ndec (fun h8 => ?_) (fun h8 => ?_)) | (refine way_not (fun h8 => ?_) (fun h8 => ?_)) | (refine way (fun h8 => ?_) (fun h8 => ?_)) | (refine wayT (fun h8 => ?_) (fun h8 => ?_)) | (refine wayF (fun h8 => ?_) (fun h8 => ?_)))
    · obtain ⟨x, hx⟩ := some_at h8
      have hns := notIn_snoc (fresh := t.fWork.fFresh) hx
      by_cases hm : x ∈ t.fWork.fFresh
      · have dm := decide_eq_true hm
        rw [if_pos hm, List.append_nil] at hns
        simp -implicitDefEqProofs only [go_sem, lget_GFreeS hf, lget_ints hx, dm]
        repeat ((first | refine rq ?_ | refine wy ?_ | refine wn ?_ | refine gy ?_ | refine gn ?_ | refine ks_In t.fWork.fFresh x (by have := h2.2.2.2; have := h2.1.2; simp only [LEN]; omega) rfl ?_ | fail); simp -implicitDefEqProofs only [go_sem, lget_GFreeS hf, lget_ints hx, dm])
        rw [hk1, ← hns]
        exact next_data (k + 1) rfl (by omega) (by omega)
      · have dm := decide_eq_false hm
        rw [if_neg hm] at hns
        simp -implicitDefEqProofs only [go_sem, lget_GFreeS hf, lget_ints hx, dm]
        repeat ((first | refine rq ?_ | refine wy ?_ | refine wn ?_ | refine gy ?_ | refine gn ?_ | refine ks_In t.fWork.fFresh x (by have := h2.2.2.2; have := h2.1.2; simp only [LEN]; omega) rfl ?_ | fail); simp -implicitDefEqProofs only [go_sem, lget_GFreeS hf, lget_ints hx, dm])
        rw [hk1]
        refine next_data (k + 1) ?_ (by omega) (by omega)
        simp [hns, ints]
    · have hk : k = f.fPages.length := by omega
      subst hk
      rw [List.take_length] at hnl ⊢
      by_cases hpos : 0 < (notIn t.fWork.fFresh f.fPages).length
      · have dp : decide ((0 : Int) < ((notIn t.fWork.fFresh f.fPages).length : Int)) = true := decide_eq_true (by omega)
        rw [if_pos hpos] at hst
        simp -implicitDefEqProofs only [go_sem, dp, GFree.cells, ints_all]
        repeat ((first | refine rq ?_ | refine wy ?_ | refine wn ?_ | refine gy ?_ | refine gn ?_ | fail); simp -implicitDefEqProofs only [go_sem, dp, GFree.cells, ints_all])
        rw [hi1]
        refine next_data (i + 1) ?_ (by omega) (by omega)
        simp [hst, GFreeS, GFree.cells]
      · have dp : decide ((0 : Int) < ((notIn t.fWork.fFresh f.fPages).length : Int)) = false := decide_eq_false (by omega)
        rw [if_neg hpos, List.append_nil] at hst
        simp -implicitDefEqProofs only [go_sem, dp]
        repeat ((first | refine rq ?_ | refine wy ?_ | refine wn ?_ | refine gy ?_ | refine gn ?_ | fail); simp -implicitDefEqProofs only [go_sem, dp])
        rw [hi1, ← hst]
        exact next_data (i + 1) rfl (by omega) (by omega)
  · have hi : i = t.fBase.fFrees.length := by omega
    subst hi
    rw [List.take_length] at hkl ⊢
    simp -implicitDefEqProofs only [go_sem]
    repeat ((first | refine rq ?_ | refine wy ?_ | refine wn ?_ | refine gy ?_ | refine gn ?_ | fail); simp -implicitDefEqProofs only [go_sem])
    refine loop_data (α := Nat) (fun i => ⟨[(1, .ref 0 0), (2, .ref 1 0), (4, .ref 3 0), (9, .ref 5 0), (10, .d (.int .i64 i))], [(0, some (.box [.d (.int .i64 t.fBase.fTx), .d (.int .i64 t.fBase.fRoot), .d (.int .i64 t.fBase.fNext), .d (.sl (GFreeS t.fBase.fFrees)), .d (.sl (strs t.fWork.fDisk.fPages)), .d (.sl (GPutS t.fWork.fDisk.fLate)), .d (.int .i64 t.fWork.fNext), .d (.sl (ints t.fWork.fUsable)), .d (.sl (ints t.fWork.fGone)), .d (.sl (ints t.fWork.fFresh)), .d (.int .i64 t.fRoot)])), (1, some (.box [.d (.int .i64 0), .d (.int .i64 0), .d (.int .i64 0), .own 2 0 0])), (2, some (.arr 2 [])), (3, some (.box [.d (.int .i64 (t.fBase.fTx + 1)), .d (.int .i64 t.fRoot), .d (.int .i64 t.fWork.fNext), .own 4 0 (keptFrees t.fWork.fFresh t.fBase.fFrees).length])), (4, some (.arr 2 (GFreeS (keptFrees t.fWork.fFresh t.fBase.fFrees)))), (5, some (.box [.d (.int .i64 (t.fBase.fTx + 1)), .own 6 0 (newGo t i).length])), (6, some (.arr 1 (ints (newGo t i))))]⟩)
      (fun i => i ≤ t.fWork.fUsable.length) (fun i => t.fWork.fUsable.length - i) 0 (by simp [newGo]) (Nat.zero_le _) ?_
    rintro i i1
    have hnl := newGo_len (t := t) (i := i)
    have hi1 : IntKind.i64.wrap ((i : Int) + 1) = ((i + 1 : Nat) : Int) := wrap_succ (by simp only [LEN]; omega)
    simp -implicitDefEqProofs only [go_sem]
    (first | (refine way_dec (fun h8 => ?_) (fun h8 => ?_)) | (refine way_ndec (fun h8 => ?_) (fun h8 => ?_)) | (refine wayT_dec (fun h8 => ?_) (fun h8 => ?_)) | (refine wayF_dec (fun h8 => ?_) (fun h8 => ?_)) | (refine wayT_ndec (fun h8 => ?_) (fun h8 => ?_)) | (refine wayF_ndec (fun h8 => ?_) (fun h8 => ?_)) | (refine way_not (fun h8 => ?_) (fun h8 => ?_)) | (refine way (fun h8 => ?_) (fun h8 => ?_)) | (refine wayT (fun h8 => ?_) (fun h8 => ?_)) | (refine wayF (fun h8 => ?_) (fun h8 => ?_)))
    · obtain ⟨x, hx⟩ := some_at h8
      have hns := newGo_step hx
      by_cases hm : t.fBase.fNext ≤ x
      · have dm := decide_eq_true hm
        rw [if_pos hm] at hns
        simp -implicitDefEqProofs only [go_sem, lget_ints hx, dm]
        repeat ((first | refine rq ?_ | refine wy ?_ | refine wn ?_ | refine gy ?_ | refine gn ?_ | fail); simp -implicitDefEqProofs only [go_sem, lget_ints hx, dm])
        rw [hi1]
        refine next_data (i + 1) ?_ (by omega) (by omega)
        simp [hns, ints]
      · have dm := decide_eq_false hm
        rw [if_neg hm, List.append_nil] at hns
        simp -implicitDefEqProofs only [go_sem, lget_ints hx, dm]
        repeat ((first | refine rq ?_ | refine wy ?_ | refine wn ?_ | refine gy ?_ | refine gn ?_ | fail); simp -implicitDefEqProofs only [go_sem, lget_ints hx, dm])
        rw [hi1, ← hns]
        exact next_data (i + 1) rfl (by omega) (by omega)
    · have hi : i = t.fWork.fUsable.length := by omega
      subst hi
      have hall := newGo_all (t := t)
      have hss : (ints (newPages t)).take (newGo t t.fWork.fUsable.length).length = ints (newPages t) := by rw [← hall]; exact List.take_of_length_le (by simp [ints, sortI_len])
      have hpl : (newPages t).length = (newGo t t.fWork.fUsable.length).length := by rw [← hall, sortI_len]
      simp -implicitDefEqProofs only [go_sem]
      repeat ((first | refine rq ?_ | refine wy ?_ | refine wn ?_ | refine gy ?_ | refine gn ?_ | refine ks_Sorted (newGo t t.fWork.fUsable.length) (by omega) (by simp -implicitDefEqProofs only [go_sem, ints_all]; first | done | rfl) ?_ | fail); simp -implicitDefEqProofs only [go_sem])
      rw [hall]
      unfold nextMetaV nextMeta
      by_cases hpos : 0 < (newPages t).length
      · have dp : decide ((0 : Int) < ((newGo t t.fWork.fUsable.length).length : Int)) = true := decide_eq_true (by omega)
        have hM : nextM t = ⟨t.fBase.fTx + 1, t.fRoot, t.fWork.fNext, keptFrees t.fWork.fFresh t.fBase.fFrees ++ [⟨t.fBase.fTx + 1, newPages t⟩]⟩ := by rw [nextM, ht, if_pos hpos]
        have hsm : smallGMeta ⟨t.fBase.fTx + 1, t.fRoot, t.fWork.fNext, (keptFrees t.fWork.fFresh t.fBase.fFrees ++ [⟨t.fBase.fTx + 1, newPages t⟩])⟩ := by
          refine ⟨by simp only [List.length_append, List.length_cons, List.length_nil]; omega, fun f hf => ?_⟩
          have hk := kept_small (fresh := t.fWork.fFresh) (n := 1000) fun f hf => (by have := (h1.2.1 f hf).2.1.2; omega : f.fPages.length ≤ 1000)
          have : f.fPages.length ≤ 1000 := by
            simp only [List.mem_append, List.mem_singleton] at hf
            first
              | exact hk f hf
              | (rcases hf with hf | rfl
                 · exact hk f hf
                 · exact h4)
          show f.fPages.length ≤ 1048576
          omega
        rw [hM]
        simp -implicitDefEqProofs only [go_sem, dp, GFree.cells, hss]
        repeat ((first | refine rq ?_ | refine wy ?_ | refine wn ?_ | refine gy ?_ | refine gn ?_ | refine ks_MetaText ⟨t.fBase.fTx + 1, t.fRoot, t.fWork.fNext, (keptFrees t.fWork.fFresh t.fBase.fFrees ++ [⟨t.fBase.fTx + 1, newPages t⟩])⟩ hsm (ls := [3]) (by simp -implicitDefEqProofs only [go_sem, GMeta.cells]; first | done | rfl) ?_ | fail); simp -implicitDefEqProofs only [go_sem, dp, GFree.cells, hss])
        rw [metaTextV]
        cases hmt : metaText ⟨t.fBase.fTx + 1, t.fRoot, t.fWork.fNext, (keptFrees t.fWork.fFresh t.fBase.fFrees ++ [⟨t.fBase.fTx + 1, newPages t⟩])⟩ with
        | none =>
          simp only [Option.isSome_none, Option.getD_none, Option.map_none]
          simp -implicitDefEqProofs only [go_sem]
          repeat ((first | refine rq ?_ | refine wy ?_ | refine wn ?_ | refine gy ?_ | refine gn ?_ | fail); simp -implicitDefEqProofs only [go_sem])
          try rfl
        | some u =>
          simp only [Option.isSome_some, Option.getD_some, Option.map_some]
          simp -implicitDefEqProofs only [go_sem, GMeta.cells]
          repeat ((first | refine rq ?_ | refine wy ?_ | refine wn ?_ | refine gy ?_ | refine gn ?_ | fail); simp -implicitDefEqProofs only [go_sem, GMeta.cells])
          try rfl
      · have dp : decide ((0 : Int) < ((newGo t t.fWork.fUsable.length).length : Int)) = false := decide_eq_false (by omega)
        have hM : nextM t = ⟨t.fBase.fTx + 1, t.fRoot, t.fWork.fNext, keptFrees t.fWork.fFresh t.fBase.fFrees⟩ := by rw [nextM, ht, if_neg hpos, List.append_nil]
        have hsm : smallGMeta ⟨t.fBase.fTx + 1, t.fRoot, t.fWork.fNext, (keptFrees t.fWork.fFresh t.fBase.fFrees)⟩ := by
          refine ⟨by simp only [List.length_append, List.length_cons, List.length_nil]; omega, fun f hf => ?_⟩
          have hk := kept_small (fresh := t.fWork.fFresh) (n := 1000) fun f hf => (by have := (h1.2.1 f hf).2.1.2; omega : f.fPages.length ≤ 1000)
          have : f.fPages.length ≤ 1000 := by
            simp only [List.mem_append, List.mem_singleton] at hf
            first
              | exact hk f hf
              | (rcases hf with hf | rfl
                 · exact hk f hf
                 · exact h4)
          show f.fPages.length ≤ 1048576
          omega
        rw [hM]
        simp -implicitDefEqProofs only [go_sem, dp, GFree.cells, hss]
        repeat ((first | refine rq ?_ | refine wy ?_ | refine wn ?_ | refine gy ?_ | refine gn ?_ | refine ks_MetaText ⟨t.fBase.fTx + 1, t.fRoot, t.fWork.fNext, (keptFrees t.fWork.fFresh t.fBase.fFrees)⟩ hsm (ls := [3]) (by simp -implicitDefEqProofs only [go_sem, GMeta.cells]; first | done | rfl) ?_ | fail); simp -implicitDefEqProofs only [go_sem, dp, GFree.cells, hss])
        rw [metaTextV]
        cases hmt : metaText ⟨t.fBase.fTx + 1, t.fRoot, t.fWork.fNext, (keptFrees t.fWork.fFresh t.fBase.fFrees)⟩ with
        | none =>
          simp only [Option.isSome_none, Option.getD_none, Option.map_none]
          simp -implicitDefEqProofs only [go_sem]
          repeat ((first | refine rq ?_ | refine wy ?_ | refine wn ?_ | refine gy ?_ | refine gn ?_ | fail); simp -implicitDefEqProofs only [go_sem])
          try rfl
        | some u =>
          simp only [Option.isSome_some, Option.getD_some, Option.map_some]
          simp -implicitDefEqProofs only [go_sem, GMeta.cells]
          repeat ((first | refine rq ?_ | refine wy ?_ | refine wn ?_ | refine gy ?_ | refine gn ?_ | fail); simp -implicitDefEqProofs only [go_sem, GMeta.cells])
          try rfl
theorem ks_NextMeta {h:Heap} {tb:Nat} {K:OK} {args:List V} (t:GTxn) (h1:metaOk t.fBase) (h2:smallW t.fWork) (h3:t.fWork.fGone.length+t.fWork.fUsable.length≤1000) (h4:(newPages t).length≤1000) (hg:toDs h args=some ([.agg t.cells],[]))
  (hk:K (renV (bk tb ([])) (nextMetaV t)) (updN tb ([]) ([]))):callVC Go.Proofs.Tryz.prog h tb 131 args K:=
 call_free hg (cs_NextMeta t h1 h2 h3 h4) rfl (.inl rfl) hk
end Go.Rx
namespace Go.Rx
open Go
attribute [local irreducible] Req Way WayG Sel callVC CallOK seqVC cVC loopVC nextK
theorem syncD_small {d:GDisk} (h:smallD d):smallD (syncD d):=⟨by rw [syncD_pages];exact h.1,by simp [syncD]⟩
@[go_sem] def hr61:Hints
 |0=> [0]|1=> [1,2,3]|2=> [1,2,3]|3=> [1,2,3]|4=> [1,2,3,5,6]|5=> [1,2,3]|6=> [1,2,3,5]|7=> [1,2,3,5,7]|8=> [1,2,3,5,9,10]|9=> [1,2,3]|10=> [2,3,5,9]|_=> []
@[go_sem] def hl61:Hints:=fun _=> []
attribute [go_sem] Go.Proofs.Tryz.results61
set_option maxRecDepth 100000 in
set_option maxHeartbeats 16000000 in
theorem cs_Commit (t:GTxn) (h1:metaOk t.fBase) (h2:smallW t.fWork) (h3:t.fWork.fGone.length+t.fWork.fUsable.length≤1000) (h4:(newPages t).length≤1000):CallOK Go.Proofs.Tryz.prog 61 [.d (.agg t.cells)] [] [.dead] (commitV t) []:=by
 refine call_fr tysZOK mixedZ Go.Proofs.Tryz.func61 (by kernel_rfl) rfl (by kernel_rfl) hr61 hl61 (by simp [Go.Proofs.Tryz.ntmps61]) rfl ?_
 unfold commitV commitT
 simp -implicitDefEqProofs only [go_sem,GTxn.cells]
 refine ks_l11Same t (by simp -implicitDefEqProofs only [go_sem,GTxn.cells_eq];first|done|rfl) ?_
 by_cases hs:sameT t
 ·have ds:=decide_eq_true hs
  rw [if_pos hs]
  simp -implicitDefEqProofs only [go_sem,ds,GDisk.cells,GMeta.cells]
  repeat ((first|refine rq ?_|refine wy ?_|refine wn ?_|refine gy ?_|refine gn ?_|refine ks_SyncDisk t.fWork.fDisk h2.1 (by simp -implicitDefEqProofs only [go_sem,GDisk.cells_eq];first|done|rfl) ?_|refine ks_l06Copy t.fBase (smallGMeta_ok h1) (by simp -implicitDefEqProofs only [go_sem,GMeta.cells_eq];first|done|rfl) ?_|fail);simp -implicitDefEqProofs only [go_sem,ds,GDisk.cells,GMeta.cells])
  try rfl
 ·have ds:=decide_eq_false hs
  rw [if_neg hs]
  cases hm:metaText (nextM t) with
  |none=>
   have hn:nextMetaV t= .tup [.d (.agg [.int .i64 0,.int .i64 0,.int .i64 0,.sl []]),.d (.bool false)]:=by rw [nextMetaV,nextMeta,hm];rfl
   simp -implicitDefEqProofs only [go_sem,ds,hn,GDisk.cells,GMeta.cells]
   repeat ((first|refine rq ?_|refine wy ?_|refine wn ?_|refine gy ?_|refine gn ?_|refine ks_NextMeta t h1 h2 h3 h4 (by simp -implicitDefEqProofs only [go_sem,GTxn.cells_eq];first|done|rfl) ?_|refine kdata (xs:=[.agg t.fWork.fDisk.cells]) (cs_l03CopyF t.fWork.fDisk h2.1) (by simp -implicitDefEqProofs only [go_sem,GDisk.cells_eq];first|done|rfl) rfl ?_|refine ks_l06Copy t.fBase (smallGMeta_ok h1) (by simp -implicitDefEqProofs only [go_sem,GMeta.cells_eq];first|done|rfl) ?_|fail);simp -implicitDefEqProofs only [go_sem,ds,hn,GDisk.cells,GMeta.cells])
   try rfl
  |some text=>
   have hn:nextMetaV t= .tup [.d (.agg [.int .i64 (nextM t).fTx,.int .i64 (nextM t).fRoot,.int .i64 (nextM t).fNext,.sl (GFreeS (nextM t).fFrees)]),.d (.bool true)]:=by rw [nextMetaV,nextMeta,hm];rfl
   obtain ⟨m1,m2,m3⟩:=metaText_some hm
   have htx:(nextM t).fTx=nextTx t:=rfl
   have hmt:metaTextV (nextM t)= .tup [.d (.str text),.d (.bool true)]:=by rw [metaTextV,hm];rfl
   have htx0:0≤nextTx t:=by have:=nextTx_wrap h1.1.1;have:=h1.1.1;omega
   simp -implicitDefEqProofs only [go_sem,ds,hn,hmt,GDisk.cells,htx]
   repeat ((first|refine rq ?_|refine wy ?_|refine wn ?_|refine gy ?_|refine gn ?_|refine ks_NextMeta t h1 h2 h3 h4 (by simp -implicitDefEqProofs only [go_sem,GTxn.cells_eq];first|done|rfl) ?_|refine ks_MetaText (nextM t) (smallGMeta_ok m1) (by simp -implicitDefEqProofs only [go_sem,GMeta.cells_eq,htx];first|done|rfl) ?_|refine ks_SyncDisk t.fWork.fDisk h2.1 (by simp -implicitDefEqProofs only [go_sem,GDisk.cells_eq];first|done|rfl) ?_|refine ks_MetaPage (nextTx t) htx0 (by simp -implicitDefEqProofs only [go_sem];first|done|rfl) ?_|fail);simp -implicitDefEqProofs only [go_sem,ds,hn,hmt,GDisk.cells,htx])
   cases hw:writePage (syncD t.fWork.fDisk) (nextTx t%2) text with
   |none=>
    simp only [Option.map_none]
    refine kdata (xs:=[.agg (syncD t.fWork.fDisk).cells,.int .i64 (nextTx t%2),.str text]) (cs_WritePageF (syncD t.fWork.fDisk) (nextTx t%2) text (syncD_small h2.1)) (by simp -implicitDefEqProofs only [go_sem,GDisk.cells_eq];first|done|rfl) rfl ?_
    rw [hw]
    simp only [Option.isSome_none]
    simp -implicitDefEqProofs only [go_sem,GDisk.cells,GMeta.cells]
    repeat ((first|refine rq ?_|refine wy ?_|refine wn ?_|refine gy ?_|refine gn ?_|refine kdata (xs:=[.agg t.fWork.fDisk.cells]) (cs_l03CopyF t.fWork.fDisk h2.1) (by simp -implicitDefEqProofs only [go_sem,GDisk.cells_eq];first|done|rfl) rfl ?_|refine ks_l06Copy t.fBase (smallGMeta_ok h1) (by simp -implicitDefEqProofs only [go_sem,GMeta.cells_eq];first|done|rfl) ?_|fail);simp -implicitDefEqProofs only [go_sem,GDisk.cells,GMeta.cells])
    try rfl
   |some d=>
    have hd:=writePage_ok hw
    simp only [Option.map_some]
    refine kdata (xs:=[.agg (syncD t.fWork.fDisk).cells,.int .i64 (nextTx t%2),.str text]) (cs_WritePageF (syncD t.fWork.fDisk) (nextTx t%2) text (syncD_small h2.1)) (by simp -implicitDefEqProofs only [go_sem,GDisk.cells_eq];first|done|rfl) rfl ?_
    rw [wrF_some hw,hw]
    simp only [Option.isSome_some]
    simp -implicitDefEqProofs only [go_sem,GDisk.cells,GMeta.cells,htx]
    repeat ((first|refine rq ?_|refine wy ?_|refine wn ?_|refine gy ?_|refine gn ?_|refine ks_SyncDisk d (smallD_ok hd.1) (by simp -implicitDefEqProofs only [go_sem,GDisk.cells_eq];first|done|rfl) ?_|fail);simp -implicitDefEqProofs only [go_sem,GDisk.cells,GMeta.cells,htx])
    try rfl
theorem ks_Commit {h:Heap} {tb:Nat} {K:OK} {args:List V} (t:GTxn) (h1:metaOk t.fBase) (h2:smallW t.fWork) (h3:t.fWork.fGone.length+t.fWork.fUsable.length≤1000) (h4:(newPages t).length≤1000) (hg:toDs h args=some ([.agg t.cells],[]))
  (hk:K (renV (bk tb ([])) (commitV t)) (updN tb ([]) ([]))):callVC Go.Proofs.Tryz.prog h tb 61 args K:=
 call_free hg (cs_Commit t h1 h2 h3 h4) rfl (.inl rfl) hk
end Go.Rx
namespace Go.Rx
open Go
attribute [local irreducible] Req Way WayG Sel callVC CallOK seqVC cVC loopVC nextK
@[go_sem] def hr66:Hints
 |0=> [0,1,2,3]|1=> [1,2,3,4,8]|2=> [1,2,3,4,8,9,10]|3=> [2,3,4,8]|4=> [2,3,4,8,9]|5=> [2,3,4,8,9,11]|6=> [2,3,8,13]|_=> []
@[go_sem] def hl66:Hints:=fun _=> []
attribute [go_sem] Go.Proofs.Tryz.results66
set_option maxRecDepth 100000 in
set_option maxHeartbeats 16000000 in
theorem cs_CommitCut (t:GTxn) (stage:Int) (left:List Bool) (torn:Int) (h1:metaOk t.fBase) (h2:smallW t.fWork) (h3:t.fWork.fGone.length+t.fWork.fUsable.length≤1000) (h4:(newPages t).length≤1000) (hd:diskOk t.fWork.fDisk) (hl:left.length≤1048576):CallOK Go.Proofs.Tryz.prog 66 [.d (.agg t.cells),.d (.int .i64 stage),.d (.sl (bls left)),.d (.int .i64 torn)] [] [.dead,.dead,.dead,.dead] (.d (.agg (cutD t stage left torn).cells)) []:=by
 refine call_fr tysZOK mixedZ Go.Proofs.Tryz.func66 (by kernel_rfl) rfl (by kernel_rfl) hr66 hl66 (by simp [Go.Proofs.Tryz.ntmps66]) rfl ?_
 unfold cutD
 simp -implicitDefEqProofs only [go_sem,GTxn.cells]
 refine ks_NextMeta t h1 h2 h3 h4 (by simp -implicitDefEqProofs only [go_sem,GTxn.cells_eq];first|done|rfl) ?_
 by_cases hs:sameT t∨metaText (nextM t)=none∨stage=0
 ·rw [if_pos hs]
  by_cases hs1:sameT t
  ·have ds:=decide_eq_true hs1
   cases hm:metaText (nextM t) with
   |none=>
    have hn:nextMetaV t= .tup [.d (.agg [.int .i64 0,.int .i64 0,.int .i64 0,.sl []]),.d (.bool false)]:=by rw [nextMetaV,nextMeta,hm];rfl
    rw [hn]
    simp -implicitDefEqProofs only [go_sem,ds,GDisk.cells]
    repeat ((first|refine rq ?_|refine wy ?_|refine wn ?_|refine gy ?_|refine gn ?_|refine ks_l11Same t (by simp -implicitDefEqProofs only [go_sem,GTxn.cells_eq];first|done|rfl) ?_|refine ks_FallDisk t.fWork.fDisk hd left hl torn (by simp -implicitDefEqProofs only [go_sem,GDisk.cells_eq];first|done|rfl) ?_|fail);simp -implicitDefEqProofs only [go_sem,ds,GDisk.cells])
    try rfl
   |some text=>
    have hn:nextMetaV t= .tup [.d (.agg [.int .i64 (nextM t).fTx,.int .i64 (nextM t).fRoot,.int .i64 (nextM t).fNext,.sl (GFreeS (nextM t).fFrees)]),.d (.bool true)]:=by rw [nextMetaV,nextMeta,hm];rfl
    rw [hn]
    simp -implicitDefEqProofs only [go_sem,ds,GDisk.cells]
    repeat ((first|refine rq ?_|refine wy ?_|refine wn ?_|refine gy ?_|refine gn ?_|refine ks_l11Same t (by simp -implicitDefEqProofs only [go_sem,GTxn.cells_eq];first|done|rfl) ?_|refine ks_FallDisk t.fWork.fDisk hd left hl torn (by simp -implicitDefEqProofs only [go_sem,GDisk.cells_eq];first|done|rfl) ?_|fail);simp -implicitDefEqProofs only [go_sem,ds,GDisk.cells])
    try rfl
  ·have ds:=decide_eq_false hs1
   cases hm:metaText (nextM t) with
   |none=>
    have hn:nextMetaV t= .tup [.d (.agg [.int .i64 0,.int .i64 0,.int .i64 0,.sl []]),.d (.bool false)]:=by rw [nextMetaV,nextMeta,hm];rfl
    rw [hn]
    simp -implicitDefEqProofs only [go_sem,ds,GDisk.cells]
    repeat ((first|refine rq ?_|refine wy ?_|refine wn ?_|refine gy ?_|refine gn ?_|refine ks_l11Same t (by simp -implicitDefEqProofs only [go_sem,GTxn.cells_eq];first|done|rfl) ?_|refine ks_FallDisk t.fWork.fDisk hd left hl torn (by simp -implicitDefEqProofs only [go_sem,GDisk.cells_eq];first|done|rfl) ?_|fail);simp -implicitDefEqProofs only [go_sem,ds,GDisk.cells])
    try rfl
   |some text=>
    have d0:decide (stage=0)=true:=decide_eq_true ((hs.resolve_left hs1).resolve_left (by rw [hm];simp))
    have hn:nextMetaV t= .tup [.d (.agg [.int .i64 (nextM t).fTx,.int .i64 (nextM t).fRoot,.int .i64 (nextM t).fNext,.sl (GFreeS (nextM t).fFrees)]),.d (.bool true)]:=by rw [nextMetaV,nextMeta,hm];rfl
    rw [hn]
    simp -implicitDefEqProofs only [go_sem,ds,d0,GDisk.cells]
    repeat ((first|refine rq ?_|refine wy ?_|refine wn ?_|refine gy ?_|refine gn ?_|refine ks_l11Same t (by simp -implicitDefEqProofs only [go_sem,GTxn.cells_eq];first|done|rfl) ?_|refine ks_FallDisk t.fWork.fDisk hd left hl torn (by simp -implicitDefEqProofs only [go_sem,GDisk.cells_eq];first|done|rfl) ?_|fail);simp -implicitDefEqProofs only [go_sem,ds,d0,GDisk.cells])
    try rfl
 ·rw [if_neg hs]
  have ds:decide (sameT t)=false:=decide_eq_false fun h=>hs (.inl h)
  have d0:decide (stage=0)=false:=decide_eq_false fun h=>hs (.inr (.inr h))
  obtain ⟨text,hm⟩:=Option.ne_none_iff_exists'.1 fun h=>hs (.inr (.inl h))
  have hn:nextMetaV t= .tup [.d (.agg [.int .i64 (nextM t).fTx,.int .i64 (nextM t).fRoot,.int .i64 (nextM t).fNext,.sl (GFreeS (nextM t).fFrees)]),.d (.bool true)]:=by rw [nextMetaV,nextMeta,hm];rfl
  obtain ⟨m1,m2,m3⟩:=metaText_some hm
  have htx:(nextM t).fTx=nextTx t:=rfl
  have hmt:metaTextV (nextM t)= .tup [.d (.str text),.d (.bool true)]:=by rw [metaTextV,hm];rfl
  have htx0:0≤nextTx t:=by have:=nextTx_wrap h1.1.1;have:=h1.1.1;omega
  rw [hn,hm,Option.getD_some]
  simp -implicitDefEqProofs only [go_sem,ds,d0,hmt,GDisk.cells,htx]
  repeat ((first|refine rq ?_|refine wy ?_|refine wn ?_|refine gy ?_|refine gn ?_|refine ks_l11Same t (by simp -implicitDefEqProofs only [go_sem,GTxn.cells_eq];first|done|rfl) ?_|refine ks_MetaText (nextM t) (smallGMeta_ok m1) (by simp -implicitDefEqProofs only [go_sem,GMeta.cells_eq,htx];first|done|rfl) ?_|refine ks_SyncDisk t.fWork.fDisk h2.1 (by simp -implicitDefEqProofs only [go_sem,GDisk.cells_eq];first|done|rfl) ?_|refine ks_MetaPage (nextTx t) htx0 (by simp -implicitDefEqProofs only [go_sem];first|done|rfl) ?_|fail);simp -implicitDefEqProofs only [go_sem,ds,d0,hmt,GDisk.cells,htx])
  refine kdata (xs:=[.agg (syncD t.fWork.fDisk).cells,.int .i64 (nextTx t%2),.str text]) (cs_WritePageF (syncD t.fWork.fDisk) (nextTx t%2) text (syncD_small h2.1)) (by simp -implicitDefEqProofs only [go_sem,GDisk.cells_eq];first|done|rfl) rfl ?_
  cases hw:writePage (syncD t.fWork.fDisk) (nextTx t%2) text with
  |none=>
   rw [wrF,hw]
   simp only [Option.isSome_none,Option.getD_none]
   simp -implicitDefEqProofs only [go_sem,GDisk.cells]
   repeat ((first|refine rq ?_|refine wy ?_|refine wn ?_|refine gy ?_|refine gn ?_|refine ks_FallDisk (syncD t.fWork.fDisk) (syncD_ok hd) left hl torn (by simp -implicitDefEqProofs only [go_sem,GDisk.cells_eq];first|done|rfl) ?_|fail);simp -implicitDefEqProofs only [go_sem,GDisk.cells])
   try rfl
  |some d=>
   rw [wrF_some hw]
   simp only [Option.isSome_some]
   simp -implicitDefEqProofs only [go_sem,GDisk.cells]
   repeat ((first|refine rq ?_|refine wy ?_|refine wn ?_|refine gy ?_|refine gn ?_|refine ks_FallDisk d (writePage_ok hw).1 left hl torn (by simp -implicitDefEqProofs only [go_sem,GDisk.cells_eq];first|done|rfl) ?_|fail);simp -implicitDefEqProofs only [go_sem,GDisk.cells])
   try rfl
theorem ks_CommitCut {h:Heap} {tb:Nat} {K:OK} {args:List V} (t:GTxn) (stage:Int) (left:List Bool) (torn:Int) (h1:metaOk t.fBase) (h2:smallW t.fWork) (h3:t.fWork.fGone.length+t.fWork.fUsable.length≤1000) (h4:(newPages t).length≤1000) (hd:diskOk t.fWork.fDisk) (hl:left.length≤1048576) (hg:toDs h args=some ([.agg t.cells,.int .i64 stage,.sl (bls left),.int .i64 torn],[]))
  (hk:K (renV (bk tb ([])) (.d (.agg (cutD t stage left torn).cells))) (updN tb ([]) ([]))):callVC Go.Proofs.Tryz.prog h tb 66 args K:=
 call_free hg (cs_CommitCut t stage left torn h1 h2 h3 h4 hd hl) rfl (.inl rfl) hk
end Go.Rx
