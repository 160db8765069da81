/-
  Part D1: lemmas on an evaluator over plain data of the model's code, plain laws on lists and numbers, or contracts of functions of the program; each lemma names its conditions.
-/
import Derived.Test.YtmeinhaecplpkaaGreatRC4
import Derived.Test.YtmeinhaecplpkaaGreatRP5

set_option linter.unusedSimpArgs false
set_option linter.unusedVariables false
namespace Go.Rx
open Go
attribute [local irreducible] Req Way WayG Sel callVC CallOK seqVC cVC loopVC nextK
@[go_sem] def hr53:Hints
 |0=> [0]|1=> [1]|2=> [1,3]|3=> [1,3,4]|4=> [1,3,4]|5=> [1,3,4]|6=> [1,4]|7=> [3]|_=> []
@[go_sem] def hl53:Hints
 |3=> [1,3,4]|_=> []
attribute [go_sem] Go.Proofs.Tryz.results53
set_option maxRecDepth 100000 in
set_option maxHeartbeats 16000000 in
theorem cs_OldestOf (s:GStore) (hs:SmallS s):CallOK Go.Proofs.Tryz.prog 53 [.d (.agg s.cells)] [] [.dead] (.d (.int .i64 (oldestOf s))) []:=by
 refine call_of tysZOK mixedZ Go.Proofs.Tryz.func53 (by kernel_rfl) rfl (np:=[false]) (by kernel_rfl) hr53 hl53 (by simp [Go.Proofs.Tryz.ntmps53]) ?_
 have h1:=hs.few
 simp -implicitDefEqProofs only [go_sem,GStore.cells]
 refine loop_data (α:=Nat) (fun i=>⟨[(1,.ref 0 0),(3,.d (.int .i64 (oldSt s i))),(4,.d (.int .i64 i))],[(0,some (.box [.d (.sl (strs s.fDisk.fPages)),.d (.sl (GPutS s.fDisk.fLate)),.d (.int .i64 s.fMeta.fTx),.d (.int .i64 s.fMeta.fRoot),.d (.int .i64 s.fMeta.fNext),.d (.sl (GFreeS s.fMeta.fFrees)),.d (.sl (GReaderS s.fReaders)),.d (.int .i64 s.fTxn.fBase.fTx),.d (.int .i64 s.fTxn.fBase.fRoot),.d (.int .i64 s.fTxn.fBase.fNext),.d (.sl (GFreeS s.fTxn.fBase.fFrees)),.d (.sl (strs s.fTxn.fWork.fDisk.fPages)),.d (.sl (GPutS s.fTxn.fWork.fDisk.fLate)),.d (.int .i64 s.fTxn.fWork.fNext),.d (.sl (ints s.fTxn.fWork.fUsable)),.d (.sl (ints s.fTxn.fWork.fGone)),.d (.sl (ints s.fTxn.fWork.fFresh)),.d (.int .i64 s.fTxn.fRoot),.d (.bool s.fWriting),.d (.bool s.fFailed)]))]⟩)
  (fun i=>i≤s.fReaders.length) (fun i=>s.fReaders.length - i) 0 rfl (Nat.zero_le _) ?_
 rintro i i1
 simp -implicitDefEqProofs only [go_sem]
 (first|(refine way_dec (fun h5=>?_) (fun h5=>?_))|(refine way_ndec (fun h5=>?_) (fun h5=>?_))|(refine wayT_dec (fun h5=>?_) (fun h5=>?_))|(refine wayF_dec (fun h5=>?_) (fun h5=>?_))|(refine wayT_ndec (fun h5=>?_) (fun h5=>?_))|(refine wayF_ndec (fun h5=>?_) (fun h5=>?_))|(refine way_not (fun h5=>?_) (fun h5=>?_))|(refine way (fun h5=>?_) (fun h5=>?_))|(refine wayT (fun h5=>?_) (fun h5=>?_))|(refine wayF (fun h5=>?_) (fun h5=>?_)))
 ·obtain ⟨r,hr⟩:=some_at h5
  have hst:=oldSt_step hr
  have hi1:IntKind.i64.wrap ((i:Int)+1)=((i+1:Nat):Int):=wrap_succ (by simp only [LEN];omega)
  by_cases hx:r.fMeta.fTx<oldSt s i
  ·have dx:=decide_eq_true hx
   rw [if_pos hx] at hst
   simp -implicitDefEqProofs only [go_sem,lget_GReaderS hr,dx]
   repeat ((first|refine rq ?_|refine wy ?_|refine wn ?_|refine gy ?_|refine gn ?_|fail);simp -implicitDefEqProofs only [go_sem,lget_GReaderS hr,dx])
   rw [hi1,←hst]
   exact next_data (i+1) rfl (by omega) (by omega)
  ·have dx:=decide_eq_false hx
   rw [if_neg hx] at hst
   simp -implicitDefEqProofs only [go_sem,lget_GReaderS hr,dx]
   repeat ((first|refine rq ?_|refine wy ?_|refine wn ?_|refine gy ?_|refine gn ?_|fail);simp -implicitDefEqProofs only [go_sem,lget_GReaderS hr,dx])
   rw [hi1,←hst]
   exact next_data (i+1) rfl (by omega) (by omega)
 ·have hi:i=s.fReaders.length:=by omega
  subst hi
  rw [oldSt_all]
  simp -implicitDefEqProofs only [go_sem]
  repeat ((first|refine rq ?_|refine wy ?_|refine wn ?_|refine gy ?_|refine gn ?_|fail);simp -implicitDefEqProofs only [go_sem])
theorem ks_OldestOf {h:Heap} {tb:Nat} {K:OK} {args:List V} {ls:List Nat} (s:GStore) (hs:SmallS s) (hg:toDs h args=some ([.agg s.cells],ls))
  (hk:K (renV (bk tb ([])) (.d (.int .i64 (oldestOf s)))) (updN tb ([]) ([]))):callVC Go.Proofs.Tryz.prog h tb 53 args K:=
 call_free hg (cs_OldestOf s hs) rfl (.inr ⟨flat_of rfl,flatHB_of rfl⟩) hk
end Go.Rx
namespace Go.Rx
open Go
attribute [local irreducible] Req Way WayG Sel callVC CallOK seqVC cVC loopVC nextK
@[go_sem] def hr268:Hints
 |0=> [0]|1=> [1,2]|2=> [1,2,3]|3=> [1,2,3,4]|4=> [1,2,3,4]|5=> [1,2,3,4]|6=> [2,3]|_=> []
@[go_sem] def hl268:Hints
 |3=> [1,2,3,4]|_=> []
attribute [go_sem] Go.Proofs.Tryz.results268
set_option maxRecDepth 100000 in
set_option maxHeartbeats 16000000 in
theorem cs_l12Copy (s:GStore) (hs:SmallS s):CallOK Go.Proofs.Tryz.prog 268 [.d (.agg s.cells)] [] [.dead] (.d (.agg s.cells)) []:=by
 refine call_fr tysZOK mixedZ Go.Proofs.Tryz.func268 (by kernel_rfl) rfl (by kernel_rfl) hr268 hl268 (by simp [Go.Proofs.Tryz.ntmps268]) rfl ?_
 have h1:=hs.few
 simp -implicitDefEqProofs only [go_sem,GStore.cells]
 repeat ((first|refine rq ?_|refine kdata (xs:=[.agg s.fDisk.cells]) (cs_l03CopyF s.fDisk hs.disk) (by simp -implicitDefEqProofs only [go_sem,GDisk.cells_eq];first|done|rfl) rfl ?_|refine ks_l06Copy s.fMeta (smallGMeta_ok hs.mt) (by simp -implicitDefEqProofs only [go_sem,GMeta.cells_eq];first|done|rfl) ?_|refine ks_l11Copy s.fTxn hs.base hs.work (by simp -implicitDefEqProofs only [go_sem,GTxn.cells_eq];first|done|rfl) ?_|fail);simp -implicitDefEqProofs only [go_sem,GDisk.cells,GMeta.cells,GTxn.cells])
 refine loop_data (α:=Nat) (fun i=>⟨[(1,.ref 0 0),(2,.ref 1 0),(3,.ref 12 0),(4,.d (.int .i64 i))],[(0,some (.box [.d (.sl (strs s.fDisk.fPages)),.d (.sl (GPutS s.fDisk.fLate)),.d (.int .i64 s.fMeta.fTx),.d (.int .i64 s.fMeta.fRoot),.d (.int .i64 s.fMeta.fNext),.d (.sl (GFreeS s.fMeta.fFrees)),.d (.sl (GReaderS s.fReaders)),.d (.int .i64 s.fTxn.fBase.fTx),.d (.int .i64 s.fTxn.fBase.fRoot),.d (.int .i64 s.fTxn.fBase.fNext),.d (.sl (GFreeS s.fTxn.fBase.fFrees)),.d (.sl (strs s.fTxn.fWork.fDisk.fPages)),.d (.sl (GPutS s.fTxn.fWork.fDisk.fLate)),.d (.int .i64 s.fTxn.fWork.fNext),.d (.sl (ints s.fTxn.fWork.fUsable)),.d (.sl (ints s.fTxn.fWork.fGone)),.d (.sl (ints s.fTxn.fWork.fFresh)),.d (.int .i64 s.fTxn.fRoot),.d (.bool s.fWriting),.d (.bool s.fFailed)])),(1,some (.box [.own 2 0 0,.own 3 0 0,.d (.int .i64 0),.d (.int .i64 0),.d (.int .i64 0),.own 4 0 0,.own 5 0 0,.d (.int .i64 0),.d (.int .i64 0),.d (.int .i64 0),.own 6 0 0,.own 7 0 0,.own 8 0 0,.d (.int .i64 0),.own 9 0 0,.own 10 0 0,.own 11 0 0,.d (.int .i64 0),.d (.bool false),.d (.bool false)])),(2,some (.arr 1 [])),(3,some (.arr 2 [])),(4,some (.arr 2 [])),(5,some (.arr 5 [])),(6,some (.arr 2 [])),(7,some (.arr 1 [])),(8,some (.arr 2 [])),(9,some (.arr 1 [])),(10,some (.arr 1 [])),(11,some (.arr 1 [])),(12,some (.box [.d (.sl (strs s.fDisk.fPages)),.d (.sl (GPutS s.fDisk.fLate)),.d (.int .i64 s.fMeta.fTx),.d (.int .i64 s.fMeta.fRoot),.d (.int .i64 s.fMeta.fNext),.d (.sl (GFreeS s.fMeta.fFrees)),.own 13 0 i,.d (.int .i64 s.fTxn.fBase.fTx),.d (.int .i64 s.fTxn.fBase.fRoot),.d (.int .i64 s.fTxn.fBase.fNext),.d (.sl (GFreeS s.fTxn.fBase.fFrees)),.d (.sl (strs s.fTxn.fWork.fDisk.fPages)),.d (.sl (GPutS s.fTxn.fWork.fDisk.fLate)),.d (.int .i64 s.fTxn.fWork.fNext),.d (.sl (ints s.fTxn.fWork.fUsable)),.d (.sl (ints s.fTxn.fWork.fGone)),.d (.sl (ints s.fTxn.fWork.fFresh)),.d (.int .i64 s.fTxn.fRoot),.d (.bool s.fWriting),.d (.bool s.fFailed)])),(13,some (.arr 5 (GReaderS (s.fReaders.take i))))]⟩)
  (fun i=>i≤s.fReaders.length) (fun i=>s.fReaders.length - i) 0 rfl (Nat.zero_le _) ?_
 rintro i i1
 simp -implicitDefEqProofs only [go_sem]
 (first|(refine way_dec (fun h5=>?_) (fun h5=>?_))|(refine way_ndec (fun h5=>?_) (fun h5=>?_))|(refine wayT_dec (fun h5=>?_) (fun h5=>?_))|(refine wayF_dec (fun h5=>?_) (fun h5=>?_))|(refine wayT_ndec (fun h5=>?_) (fun h5=>?_))|(refine wayF_ndec (fun h5=>?_) (fun h5=>?_))|(refine way_not (fun h5=>?_) (fun h5=>?_))|(refine way (fun h5=>?_) (fun h5=>?_))|(refine wayT (fun h5=>?_) (fun h5=>?_))|(refine wayF (fun h5=>?_) (fun h5=>?_)))
 ·obtain ⟨r,hr⟩:=some_at h5
  have hsm:=hs.rds r (List.mem_of_getElem? hr)
  have hi1:IntKind.i64.wrap ((i:Int)+1)=((i+1:Nat):Int):=wrap_succ (by simp only [LEN];omega)
  simp -implicitDefEqProofs only [go_sem,lget_GReaderS hr,GMeta.cells]
  repeat ((first|refine rq ?_|refine wy ?_|refine wn ?_|refine gy ?_|refine gn ?_|refine ks_l06Copy r.fMeta hsm (by simp -implicitDefEqProofs only [go_sem,GMeta.cells_eq];first|done|rfl) ?_|fail);simp -implicitDefEqProofs only [go_sem,lget_GReaderS hr,GMeta.cells])
  rw [hi1]
  refine next_data (i+1) ?_ (by omega) (by omega)
  simp [take_snoc hr,GReaderS,GReader.cells,List.length_take,List.take_take]
 ·have hi:i=s.fReaders.length:=by omega
  subst hi
  simp -implicitDefEqProofs only [go_sem,List.take_length]
  repeat ((first|refine rq ?_|refine wy ?_|refine wn ?_|refine gy ?_|refine gn ?_|fail);simp -implicitDefEqProofs only [go_sem,List.take_length])
  try rfl
theorem ks_l12Copy {h:Heap} {tb:Nat} {K:OK} {args:List V} (s:GStore) (hs:SmallS s) (hg:toDs h args=some ([.agg s.cells],[]))
  (hk:K (renV (bk tb ([])) (.d (.agg s.cells))) (updN tb ([]) ([]))):callVC Go.Proofs.Tryz.prog h tb 268 args K:=
 call_free hg (cs_l12Copy s hs) rfl (.inl rfl) hk
end Go.Rx
namespace Go.Rx
open Go
attribute [local irreducible] Req Way WayG Sel callVC CallOK seqVC cVC loopVC nextK
@[go_sem] def hr275:Hints
 |0=> [0,1]|1=> [1,2]|2=> [1,2,5]|3=> [1,2,5]|4=> [1,2,5]|5=> [5]|6=> []|_=> []
@[go_sem] def hl275:Hints
 |2=> [1,2,5]|_=> []
attribute [go_sem] Go.Proofs.Tryz.results275
set_option maxRecDepth 100000 in
set_option maxHeartbeats 16000000 in
theorem cs_l12At (s:GStore) (id:Int) (hl:s.fReaders.length≤1000):CallOK Go.Proofs.Tryz.prog 275 [.d (.agg s.cells),.d (.int .i64 id)] [] [.dead,.dead] (.d (.int .i64 (idR s id))) []:=by
 refine call_of tysZOK mixedZ Go.Proofs.Tryz.func275 (by kernel_rfl) rfl (np:=[false,false]) (by kernel_rfl) hr275 hl275 (by simp [Go.Proofs.Tryz.ntmps275]) ?_
 simp -implicitDefEqProofs only [go_sem,GStore.cells]
 refine loop_data (α:=Nat) (fun i=>⟨[(1,.d (.int .i64 id)),(2,.ref 0 0),(5,.d (.int .i64 i))],[(0,some (.box [.d (.sl (strs s.fDisk.fPages)),.d (.sl (GPutS s.fDisk.fLate)),.d (.int .i64 s.fMeta.fTx),.d (.int .i64 s.fMeta.fRoot),.d (.int .i64 s.fMeta.fNext),.d (.sl (GFreeS s.fMeta.fFrees)),.d (.sl (GReaderS s.fReaders)),.d (.int .i64 s.fTxn.fBase.fTx),.d (.int .i64 s.fTxn.fBase.fRoot),.d (.int .i64 s.fTxn.fBase.fNext),.d (.sl (GFreeS s.fTxn.fBase.fFrees)),.d (.sl (strs s.fTxn.fWork.fDisk.fPages)),.d (.sl (GPutS s.fTxn.fWork.fDisk.fLate)),.d (.int .i64 s.fTxn.fWork.fNext),.d (.sl (ints s.fTxn.fWork.fUsable)),.d (.sl (ints s.fTxn.fWork.fGone)),.d (.sl (ints s.fTxn.fWork.fFresh)),.d (.int .i64 s.fTxn.fRoot),.d (.bool s.fWriting),.d (.bool s.fFailed)]))]⟩)
  (fun i=>i≤s.fReaders.length∧∀q∈s.fReaders.take i,decide (q.fId=id)=false) (fun i=>s.fReaders.length - i) 0 rfl ⟨Nat.zero_le _,by simp⟩ ?_
 rintro i ⟨i1,i2⟩
 simp -implicitDefEqProofs only [go_sem]
 (first|(refine way_dec (fun h5=>?_) (fun h5=>?_))|(refine way_ndec (fun h5=>?_) (fun h5=>?_))|(refine wayT_dec (fun h5=>?_) (fun h5=>?_))|(refine wayF_dec (fun h5=>?_) (fun h5=>?_))|(refine wayT_ndec (fun h5=>?_) (fun h5=>?_))|(refine wayF_ndec (fun h5=>?_) (fun h5=>?_))|(refine way_not (fun h5=>?_) (fun h5=>?_))|(refine way (fun h5=>?_) (fun h5=>?_))|(refine wayT (fun h5=>?_) (fun h5=>?_))|(refine wayF (fun h5=>?_) (fun h5=>?_)))
 ·obtain ⟨r,hr⟩:=some_at h5
  have hi1:IntKind.i64.wrap ((i:Int)+1)=((i+1:Nat):Int):=wrap_succ (by simp only [LEN];omega)
  by_cases hx:r.fId=id
  ·have dx:=decide_eq_true hx
   have hres:idR s id=i:=idxF_step hr i2 dx
   simp -implicitDefEqProofs only [go_sem,lget_GReaderS hr,dx]
   repeat ((first|refine rq ?_|refine wy ?_|refine wn ?_|refine gy ?_|refine gn ?_|fail);simp -implicitDefEqProofs only [go_sem,lget_GReaderS hr,dx])
   rw [hres]
  ·have dx:=decide_eq_false hx
   simp -implicitDefEqProofs only [go_sem,lget_GReaderS hr,dx]
   repeat ((first|refine rq ?_|refine wy ?_|refine wn ?_|refine gy ?_|refine gn ?_|fail);simp -implicitDefEqProofs only [go_sem,lget_GReaderS hr,dx])
   rw [hi1]
   refine next_data (i+1) rfl ⟨by omega,fun q hq=>?_⟩ (by omega)
   rw [take_snoc hr] at hq
   rcases List.mem_append.1 hq with hq|hq
   ·exact i2 q hq
   ·simp only [List.mem_singleton] at hq;subst hq;exact dx
 ·rw [List.take_of_length_le (by omega)] at i2
  have hres:idR s id= -1:=idxF_none i2
  simp -implicitDefEqProofs only [go_sem]
  repeat ((first|refine rq ?_|refine wy ?_|refine wn ?_|refine gy ?_|refine gn ?_|fail);simp -implicitDefEqProofs only [go_sem])
  rw [hres]
theorem ks_l12At {h:Heap} {tb:Nat} {K:OK} {args:List V} {ls:List Nat} (s:GStore) (id:Int) (hl:s.fReaders.length≤1000) (hg:toDs h args=some ([.agg s.cells,.int .i64 id],ls))
  (hk:K (renV (bk tb ([])) (.d (.int .i64 (idR s id)))) (updN tb ([]) ([]))):callVC Go.Proofs.Tryz.prog h tb 275 args K:=
 call_free hg (cs_l12At s id hl) rfl (.inr ⟨flat_of rfl,flatHB_of rfl⟩) hk
end Go.Rx
