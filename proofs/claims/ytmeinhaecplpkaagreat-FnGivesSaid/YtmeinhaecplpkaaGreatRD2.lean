/-
  Part D2: lemmas on an evaluator over plain data of the model's code, plain laws on lists and numbers, or contracts of functions of the program; each lemma names its conditions.
-/
import Derived.Test.YtmeinhaecplpkaaGreatRD1
import Derived.Test.YtmeinhaecplpkaaGreatRP5

set_option linter.unusedSimpArgs false
set_option linter.unusedVariables false
namespace Go.Rx
open Go
attribute [local irreducible] Req Way WayG Sel callVC CallOK seqVC cVC loopVC nextK
def list2 (s:GStore) (id:Int) (i:Nat):List GReader:=lowR id s.fReaders++⟨id,s.fMeta⟩::highR id (s.fReaders.take i)
@[go_sem] def hr264:Hints
 |0=> [0,1]|1=> [1,2,4]|2=> [1,2,4,6]|3=> [4,6]|4=> [1,2,4,6]|5=> [4,6]|6=> [1,2,4,6]|7=> [4,6]|8=> [1,2,4,6]|9=> [1,2,4,6,7]|10=> [1,2,4,6,7,8]|11=> [1,2,4,6,7,8]|12=> [1,2,4,6,7,8]|13=> [1,2,4,6,7,8]|14=> [1,2,4,6,7]|15=> [1,4,6,7]|16=> [1,4,6,7,9]|17=> [1,4,6,7,9]|18=> [1,4,6,7,9]|19=> [1,4,6,7,9]|20=> [4,6,7]|21=> [4,6]|_=> []
@[go_sem] def hl264:Hints
 |10=> [1,2,4,6,7,8]|16=> [1,4,6,7,9]|_=> []
attribute [go_sem] Go.Proofs.Tryz.results264
set_option maxRecDepth 100000 in
set_option maxHeartbeats 16000000 in
theorem cs_StartRead {ps:List GPair} {pg:List Int} {next:List GPair} {view:Int→List GPair} (s:GStore) (id:Int) (hi:StoreInv s ps pg next view):CallOK Go.Proofs.Tryz.prog 264 [.d (.agg s.cells),.d (.int .i64 id)] [] [.dead,.dead] (storeV (startReadF s id)) []:=by
 refine call_fr tysZOK mixedZ Go.Proofs.Tryz.func264 (by kernel_rfl) rfl (by kernel_rfl) hr264 hl264 (by simp [Go.Proofs.Tryz.ntmps264]) rfl ?_
 have hs:=hi.small
 have h3:=hi.few
 unfold storeV startReadF
 by_cases g1:1≤id∧id≤9
 ·have d1:=decide_eq_true g1
  rw [if_neg (by simpa using g1)]
  by_cases g2:0≤idR s id
  ·have d2:=decide_eq_true g2
   rw [if_pos g2]
   simp -implicitDefEqProofs only [go_sem,d1,d2,GStore.cells]
   repeat ((first|refine rq ?_|refine wy ?_|refine wn ?_|refine gy ?_|refine gn ?_|refine ks_l12Copy s hs (by simp -implicitDefEqProofs only [go_sem,GStore.cells_eq];first|done|rfl) ?_|refine ks_in _ _ _ rfl ?_|refine ks_l12At s id hs.few (by simp -implicitDefEqProofs only [go_sem,GStore.cells_eq];first|done|rfl) ?_|fail);simp -implicitDefEqProofs only [go_sem,d1,d2,GStore.cells])
   try rfl
  ·have d2:=decide_eq_false g2
   rw [if_neg g2]
   by_cases g3:3≤s.fReaders.length
   ·have d3:decide ((3:Int)≤(s.fReaders.length:Int))=true:=decide_eq_true (by omega)
    rw [if_pos g3]
    simp -implicitDefEqProofs only [go_sem,d1,d2,d3,GStore.cells]
    repeat ((first|refine rq ?_|refine wy ?_|refine wn ?_|refine gy ?_|refine gn ?_|refine ks_l12Copy s hs (by simp -implicitDefEqProofs only [go_sem,GStore.cells_eq];first|done|rfl) ?_|refine ks_in _ _ _ rfl ?_|refine ks_l12At s id hs.few (by simp -implicitDefEqProofs only [go_sem,GStore.cells_eq];first|done|rfl) ?_|fail);simp -implicitDefEqProofs only [go_sem,d1,d2,d3,GStore.cells])
    try rfl
   ·have d3:decide ((3:Int)≤(s.fReaders.length:Int))=false:=decide_eq_false (by omega)
    rw [if_neg g3]
    simp -implicitDefEqProofs only [go_sem,d1,d2,d3,GStore.cells]
    repeat ((first|refine rq ?_|refine wy ?_|refine wn ?_|refine gy ?_|refine gn ?_|refine ks_l12Copy s hs (by simp -implicitDefEqProofs only [go_sem,GStore.cells_eq];first|done|rfl) ?_|refine ks_in _ _ _ rfl ?_|refine ks_l12At s id hs.few (by simp -implicitDefEqProofs only [go_sem,GStore.cells_eq];first|done|rfl) ?_|fail);simp -implicitDefEqProofs only [go_sem,d1,d2,d3,GStore.cells])
    refine loop_data (α:=Nat) (fun i=>⟨[(1,.d (.int .i64 id)),(2,.ref 0 0),(4,.ref 1 0),(6,.ref 12 0),(7,.own 13 0 (lowR id (s.fReaders.take i)).length),(8,.d (.int .i64 i))],[(0,some (.box [.d (.sl (strs s.fDisk.fPages)),.d (.sl (GPutS s.fDisk.fLate)),.d (.int .i64 s.fMeta.fTx),.d (.int .i64 s.fMeta.fRoot),.d (.int .i64 s.fMeta.fNext),.d (.sl (GFreeS s.fMeta.fFrees)),.d (.sl (GReaderS s.fReaders)),.d (.int .i64 s.fTxn.fBase.fTx),.d (.int .i64 s.fTxn.fBase.fRoot),.d (.int .i64 s.fTxn.fBase.fNext),.d (.sl (GFreeS s.fTxn.fBase.fFrees)),.d (.sl (strs s.fTxn.fWork.fDisk.fPages)),.d (.sl (GPutS s.fTxn.fWork.fDisk.fLate)),.d (.int .i64 s.fTxn.fWork.fNext),.d (.sl (ints s.fTxn.fWork.fUsable)),.d (.sl (ints s.fTxn.fWork.fGone)),.d (.sl (ints s.fTxn.fWork.fFresh)),.d (.int .i64 s.fTxn.fRoot),.d (.bool s.fWriting),.d (.bool s.fFailed)])),(1,some (.box [.own 2 0 0,.own 3 0 0,.d (.int .i64 0),.d (.int .i64 0),.d (.int .i64 0),.own 4 0 0,.own 5 0 0,.d (.int .i64 0),.d (.int .i64 0),.d (.int .i64 0),.own 6 0 0,.own 7 0 0,.own 8 0 0,.d (.int .i64 0),.own 9 0 0,.own 10 0 0,.own 11 0 0,.d (.int .i64 0),.d (.bool false),.d (.bool false)])),(2,some (.arr 1 [])),(3,some (.arr 2 [])),(4,some (.arr 2 [])),(5,some (.arr 5 [])),(6,some (.arr 2 [])),(7,some (.arr 1 [])),(8,some (.arr 2 [])),(9,some (.arr 1 [])),(10,some (.arr 1 [])),(11,some (.arr 1 [])),(12,some (.box [.d (.sl (strs s.fDisk.fPages)),.d (.sl (GPutS s.fDisk.fLate)),.d (.int .i64 s.fMeta.fTx),.d (.int .i64 s.fMeta.fRoot),.d (.int .i64 s.fMeta.fNext),.d (.sl (GFreeS s.fMeta.fFrees)),.d (.sl (GReaderS s.fReaders)),.d (.int .i64 s.fTxn.fBase.fTx),.d (.int .i64 s.fTxn.fBase.fRoot),.d (.int .i64 s.fTxn.fBase.fNext),.d (.sl (GFreeS s.fTxn.fBase.fFrees)),.d (.sl (strs s.fTxn.fWork.fDisk.fPages)),.d (.sl (GPutS s.fTxn.fWork.fDisk.fLate)),.d (.int .i64 s.fTxn.fWork.fNext),.d (.sl (ints s.fTxn.fWork.fUsable)),.d (.sl (ints s.fTxn.fWork.fGone)),.d (.sl (ints s.fTxn.fWork.fFresh)),.d (.int .i64 s.fTxn.fRoot),.d (.bool s.fWriting),.d (.bool s.fFailed)])),(13,some (.arr 5 (GReaderS (lowR id (s.fReaders.take i)))))]⟩)
     (fun i=>i≤s.fReaders.length) (fun i=>s.fReaders.length - i) 0 rfl (Nat.zero_le _) ?_
    rintro i i1
    have hll:=lowR_len (id:=id) (l:=s.fReaders.take i)
    simp only [List.length_take] at hll
    have hi1:IntKind.i64.wrap ((i:Int)+1)=((i+1:Nat):Int):=wrap_succ (by simp only [LEN];omega)
    simp -implicitDefEqProofs only [go_sem]
    (first|(refine way_dec (fun h5=>?_) (fun h5=>?_))|(refine way_ndec (fun h5=>?_) (fun h5=>?_))|(refine wayT_dec (fun h5=>?_) (fun h5=>?_))|(refine wayF_dec (fun h5=>?_) (fun h5=>?_))|(refine wayT_ndec (fun h5=>?_) (fun h5=>?_))|(refine wayF_ndec (fun h5=>?_) (fun h5=>?_))|(refine way_not (fun h5=>?_) (fun h5=>?_))|(refine way (fun h5=>?_) (fun h5=>?_))|(refine wayT (fun h5=>?_) (fun h5=>?_))|(refine wayF (fun h5=>?_) (fun h5=>?_)))
    ·obtain ⟨r,hr⟩:=some_at h5
     have hst:=lowR_snoc (id:=id) hr
     by_cases hx:r.fId<id
     ·have dx:=decide_eq_true hx
      rw [if_pos hx] at hst
      simp -implicitDefEqProofs only [go_sem,lget_GReaderS hr,dx]
      repeat ((first|refine rq ?_|refine wy ?_|refine wn ?_|refine gy ?_|refine gn ?_|fail);simp -implicitDefEqProofs only [go_sem,lget_GReaderS hr,dx])
      rw [hi1]
      refine next_data (i+1) ?_ (by omega) (by omega)
      simp [hst,GReaderS,GReader.cells]
     ·have dx:=decide_eq_false hx
      rw [if_neg hx,List.append_nil] at hst
      simp -implicitDefEqProofs only [go_sem,lget_GReaderS hr,dx]
      repeat ((first|refine rq ?_|refine wy ?_|refine wn ?_|refine gy ?_|refine gn ?_|fail);simp -implicitDefEqProofs only [go_sem,lget_GReaderS hr,dx])
      rw [hi1,←hst]
      exact next_data (i+1) rfl (by omega) (by omega)
    ·have hi:i=s.fReaders.length:=by omega
     subst hi
     have hll2:=lowR_len (id:=id) (l:=s.fReaders)
     simp -implicitDefEqProofs only [go_sem,List.take_length,GMeta.cells]
     repeat ((first|refine rq ?_|refine wy ?_|refine wn ?_|refine gy ?_|refine gn ?_|refine ks_l06Copy s.fMeta (smallGMeta_ok hs.mt) (by simp -implicitDefEqProofs only [go_sem,GMeta.cells_eq];first|done|rfl) ?_|fail);simp -implicitDefEqProofs only [go_sem,List.take_length,GMeta.cells])
     refine loop_data (α:=Nat) (fun i=>⟨[(1,.d (.int .i64 id)),(4,.ref 0 0),(6,.ref 11 0),(7,.own 12 0 (list2 s id i).length),(9,.d (.int .i64 i))],[(0,some (.box [.own 1 0 0,.own 2 0 0,.d (.int .i64 0),.d (.int .i64 0),.d (.int .i64 0),.own 3 0 0,.own 4 0 0,.d (.int .i64 0),.d (.int .i64 0),.d (.int .i64 0),.own 5 0 0,.own 6 0 0,.own 7 0 0,.d (.int .i64 0),.own 8 0 0,.own 9 0 0,.own 10 0 0,.d (.int .i64 0),.d (.bool false),.d (.bool false)])),(1,some (.arr 1 [])),(2,some (.arr 2 [])),(3,some (.arr 2 [])),(4,some (.arr 5 [])),(5,some (.arr 2 [])),(6,some (.arr 1 [])),(7,some (.arr 2 [])),(8,some (.arr 1 [])),(9,some (.arr 1 [])),(10,some (.arr 1 [])),(11,some (.box [.d (.sl (strs s.fDisk.fPages)),.d (.sl (GPutS s.fDisk.fLate)),.d (.int .i64 s.fMeta.fTx),.d (.int .i64 s.fMeta.fRoot),.d (.int .i64 s.fMeta.fNext),.d (.sl (GFreeS s.fMeta.fFrees)),.d (.sl (GReaderS s.fReaders)),.d (.int .i64 s.fTxn.fBase.fTx),.d (.int .i64 s.fTxn.fBase.fRoot),.d (.int .i64 s.fTxn.fBase.fNext),.d (.sl (GFreeS s.fTxn.fBase.fFrees)),.d (.sl (strs s.fTxn.fWork.fDisk.fPages)),.d (.sl (GPutS s.fTxn.fWork.fDisk.fLate)),.d (.int .i64 s.fTxn.fWork.fNext),.d (.sl (ints s.fTxn.fWork.fUsable)),.d (.sl (ints s.fTxn.fWork.fGone)),.d (.sl (ints s.fTxn.fWork.fFresh)),.d (.int .i64 s.fTxn.fRoot),.d (.bool s.fWriting),.d (.bool s.fFailed)])),(12,some (.arr 5 (GReaderS (list2 s id i))))]⟩)
      (fun i=>i≤s.fReaders.length) (fun i=>s.fReaders.length - i) 0 (by simp [list2,highR,GReaderS,GReader.cells]) (Nat.zero_le _) ?_
     rintro i i1
     have hhl:=highR_len (id:=id) (l:=s.fReaders.take i)
     simp only [List.length_take] at hhl
     have hl2:(list2 s id i).length≤8:=by simp only [list2,List.length_append,List.length_cons];omega
     have hi1:IntKind.i64.wrap ((i:Int)+1)=((i+1:Nat):Int):=wrap_succ (by simp only [LEN];omega)
     simp -implicitDefEqProofs only [go_sem]
     (first|(refine way_dec (fun h5=>?_) (fun h5=>?_))|(refine way_ndec (fun h5=>?_) (fun h5=>?_))|(refine wayT_dec (fun h5=>?_) (fun h5=>?_))|(refine wayF_dec (fun h5=>?_) (fun h5=>?_))|(refine wayT_ndec (fun h5=>?_) (fun h5=>?_))|(refine wayF_ndec (fun h5=>?_) (fun h5=>?_))|(refine way_not (fun h5=>?_) (fun h5=>?_))|(refine way (fun h5=>?_) (fun h5=>?_))|(refine wayT (fun h5=>?_) (fun h5=>?_))|(refine wayF (fun h5=>?_) (fun h5=>?_)))
     ·obtain ⟨r,hr⟩:=some_at h5
      have hst:=highR_snoc (id:=id) hr
      by_cases hx:id<r.fId
      ·have dx:=decide_eq_true hx
       rw [if_pos hx] at hst
       have hst2:list2 s id (i+1)=list2 s id i++[r]:=by simp [list2,hst]
       simp -implicitDefEqProofs only [go_sem,lget_GReaderS hr,dx]
       repeat ((first|refine rq ?_|refine wy ?_|refine wn ?_|refine gy ?_|refine gn ?_|fail);simp -implicitDefEqProofs only [go_sem,lget_GReaderS hr,dx])
       rw [hi1]
       refine next_data (i+1) ?_ (by omega) (by omega)
       simp [hst2,GReaderS,GReader.cells]
      ·have dx:=decide_eq_false hx
       rw [if_neg hx,List.append_nil] at hst
       have hst2:list2 s id (i+1)=list2 s id i:=by simp [list2,hst]
       simp -implicitDefEqProofs only [go_sem,lget_GReaderS hr,dx]
       repeat ((first|refine rq ?_|refine wy ?_|refine wn ?_|refine gy ?_|refine gn ?_|fail);simp -implicitDefEqProofs only [go_sem,lget_GReaderS hr,dx])
       rw [hi1,←hst2]
       exact next_data (i+1) rfl (by omega) (by omega)
     ·have hi:i=s.fReaders.length:=by omega
      subst hi
      have hall:list2 s id s.fReaders.length=(startReadS s id).fReaders:=by rw [list2,List.take_length];rfl
      rw [hall]
      simp -implicitDefEqProofs only [go_sem,GReaderS_all]
      repeat ((first|refine rq ?_|refine wy ?_|refine wn ?_|refine gy ?_|refine gn ?_|fail);simp -implicitDefEqProofs only [go_sem,GReaderS_all])
      try rfl
 ·have d1:=decide_eq_false g1
  rw [if_pos (by simpa using g1)]
  simp -implicitDefEqProofs only [go_sem,d1,GStore.cells]
  repeat ((first|refine rq ?_|refine wy ?_|refine wn ?_|refine gy ?_|refine gn ?_|refine ks_l12Copy s hs (by simp -implicitDefEqProofs only [go_sem,GStore.cells_eq];first|done|rfl) ?_|refine ks_in _ _ _ rfl ?_|fail);simp -implicitDefEqProofs only [go_sem,d1,GStore.cells])
  try rfl
theorem ks_StartRead {h:Heap} {tb:Nat} {K:OK} {args:List V} {ps:List GPair} {pg:List Int} {next:List GPair} {view:Int→List GPair} (s:GStore) (id:Int) (hi:StoreInv s ps pg next view) (hg:toDs h args=some ([.agg s.cells,.int .i64 id],[]))
  (hk:K (renV (bk tb ([])) (storeV (startReadF s id))) (updN tb ([]) ([]))):callVC Go.Proofs.Tryz.prog h tb 264 args K:=
 call_free hg (cs_StartRead s id hi) rfl (.inl rfl) hk
end Go.Rx
