/-
  Part C4: lemmas on an evaluator over plain data of the model's code, plain laws on lists and numbers, or contracts of functions of the program; each lemma names its conditions.
-/
import Derived.Test.YtmeinhaecplpkaaGreatRB6
import Derived.Test.YtmeinhaecplpkaaGreatRC3
import Derived.Test.YtmeinhaecplpkaaGreatRP5

set_option linter.unusedSimpArgs false
set_option linter.unusedVariables false
namespace Go.Rx
open Go
attribute [local irreducible] Req Way WayG Sel callVC CallOK seqVC cVC loopVC nextK
@[go_sem] def hr37:Hints
 |0=> [0,1,2]|1=> [2,3,4,6]|2=> [2,4,6,7]|3=> [2,4,6,7,8]|4=> [2,4,6,7,8]|5=> [2,4,6,7,8]|6=> [2,4,6,7,8]|7=> [6,7]|8=> [6,7]|_=> []
@[go_sem] def hl37:Hints
 |3=> [2,4,6,7,8]|_=> []
attribute [go_sem] Go.Proofs.Tryz.results37
set_option maxRecDepth 100000 in
set_option maxHeartbeats 16000000 in
theorem cs_WorkNew (d:GDisk) (m:GMeta) (o:Int) (hd:smallD d) (hm:m.fFrees.length≤1048576) (hl:(freePages m.fFrees).length≤1048576):CallOK Go.Proofs.Tryz.prog 37 [.d (.agg d.cells),.d (.agg m.cells),.d (.int .i64 o)] [] [.dead,.dead,.dead] (.d (.agg (workNew d m o).cells)) []:=by
 refine call_fr tysZOK mixedZ Go.Proofs.Tryz.func37 (by kernel_rfl) rfl (by kernel_rfl) hr37 hl37 (by simp [Go.Proofs.Tryz.ntmps37]) rfl ?_
 simp -implicitDefEqProofs only [go_sem,GDisk.cells,GMeta.cells]
 refine kdata (xs:=[.agg d.cells]) (cs_l03CopyF d hd) (by simp -implicitDefEqProofs only [go_sem,GDisk.cells_eq];first|done|rfl) rfl ?_
 simp -implicitDefEqProofs only [go_sem,GDisk.cells]
 repeat ((first|refine rq ?_|refine wy ?_|refine wn ?_|refine gy ?_|refine gn ?_|fail);simp -implicitDefEqProofs only [go_sem,GDisk.cells])
 refine loop_data (α:=Nat) (fun i=>⟨[(2,.d (.int .i64 o)),(4,.ref 0 0),(6,.ref 1 0),(7,.ref 7 0),(8,.d (.int .i64 i))],[(0,some (.box [.d (.int .i64 m.fTx),.d (.int .i64 m.fRoot),.d (.int .i64 m.fNext),.d (.sl (GFreeS m.fFrees))])),(1,some (.box [.own 2 0 0,.own 3 0 0,.d (.int .i64 0),.own 4 0 0,.own 5 0 0,.own 6 0 0])),(2,some (.arr 1 [])),(3,some (.arr 2 [])),(4,some (.arr 1 [])),(5,some (.arr 1 [])),(6,some (.arr 1 [])),(7,some (.box [.d (.sl (strs d.fPages)),.d (.sl (GPutS d.fLate)),.d (.int .i64 m.fNext),.own 8 0 (useGo m o i).length,.own 9 0 0,.own 10 0 0])),(8,some (.arr 1 (ints (useGo m o i)))),(9,some (.arr 1 [])),(10,some (.arr 1 []))]⟩)
  (fun i=>i≤m.fFrees.length) (fun i=>m.fFrees.length - i) 0 rfl (Nat.zero_le _) ?_
 rintro i i1
 have hul:=useGo_len (m:=m) (o:=o) (i:=i)
 simp -implicitDefEqProofs only [go_sem]
 (first|(refine way_dec (fun h5=>?_) (fun h5=>?_))|(refine way_ndec (fun h5=>?_) (fun h5=>?_))|(refine wayT_dec (fun h5=>?_) (fun h5=>?_))|(refine wayF_dec (fun h5=>?_) (fun h5=>?_))|(refine wayT_ndec (fun h5=>?_) (fun h5=>?_))|(refine wayF_ndec (fun h5=>?_) (fun h5=>?_))|(refine way_not (fun h5=>?_) (fun h5=>?_))|(refine way (fun h5=>?_) (fun h5=>?_))|(refine wayT (fun h5=>?_) (fun h5=>?_))|(refine wayF (fun h5=>?_) (fun h5=>?_)))
 ·obtain ⟨f,hf⟩:=some_at h5
  have hst:=useGo_step (o:=o) hf
  have hul2:=useGo_len (m:=m) (o:=o) (i:=i+1)
  have hi1:IntKind.i64.wrap ((i:Int)+1)=((i+1:Nat):Int):=wrap_succ (by simp only [LEN];omega)
  by_cases hx:f.fTx≤o
  ·have dx:=decide_eq_true hx
   rw [if_pos hx] at hst
   have hal:(ints (useGo m o i)).take (useGo m o i).length++ints f.fPages=ints (useGo m o (i+1)):=by rw [ints_all,ints_app,hst]
   have hln:(useGo m o i).length+f.fPages.length=(useGo m o (i+1)).length:=by rw [hst,List.length_append]
   simp -implicitDefEqProofs only [go_sem,lget_GFreeS hf,dx,hal,ints_app,←hst,hln]
   repeat ((first|refine rq ?_|refine wy ?_|refine wn ?_|refine gy ?_|refine gn ?_|fail);simp -implicitDefEqProofs only [go_sem,lget_GFreeS hf,dx,hal,ints_app,←hst,hln])
   rw [hi1]
   refine next_data (i+1) ?_ (by omega) (by omega)
   simp [hst,ints_app]
  ·have dx:=decide_eq_false hx
   rw [if_neg hx,List.append_nil] at hst
   simp -implicitDefEqProofs only [go_sem,lget_GFreeS hf,dx]
   repeat ((first|refine rq ?_|refine wy ?_|refine wn ?_|refine gy ?_|refine gn ?_|fail);simp -implicitDefEqProofs only [go_sem,lget_GFreeS hf,dx])
   rw [hi1,←hst]
   exact next_data (i+1) rfl (by omega) (by omega)
 ·have hi:i=m.fFrees.length:=by omega
  subst hi
  have hall:=useGo_all (d:=d) (m:=m) (o:=o)
  have hss:(ints (sortI (useGo m o m.fFrees.length))).take (useGo m o m.fFrees.length).length=ints (sortI (useGo m o m.fFrees.length)):=List.take_of_length_le (by simp [ints,sortI_len])
  simp -implicitDefEqProofs only [go_sem,GWork.cells,hss]
  repeat ((first|refine rq ?_|refine wy ?_|refine wn ?_|refine gy ?_|refine gn ?_|refine ks_Sorted (useGo m o m.fFrees.length) (by omega) (by simp -implicitDefEqProofs only [go_sem,ints_all];first|done|rfl) ?_|fail);simp -implicitDefEqProofs only [go_sem,GWork.cells,hss])
  rw [hall]
  rfl
theorem ks_WorkNew {h:Heap} {tb:Nat} {K:OK} {args:List V} (d:GDisk) (m:GMeta) (o:Int) (hd:smallD d) (hm:m.fFrees.length≤1048576) (hl:(freePages m.fFrees).length≤1048576) (hg:toDs h args=some ([.agg d.cells,.agg m.cells,.int .i64 o],[]))
  (hk:K (renV (bk tb ([])) (.d (.agg (workNew d m o).cells))) (updN tb ([]) ([]))):callVC Go.Proofs.Tryz.prog h tb 37 args K:=
 call_free hg (cs_WorkNew d m o hd hm hl) rfl (.inl rfl) hk
end Go.Rx
namespace Go.Rx
open Go
attribute [local irreducible] Req Way WayG Sel callVC CallOK seqVC cVC loopVC nextK
@[go_sem] def hr54:Hints
 |0=> [0,1,2]|1=> [2,3,4,6]|_=> []
@[go_sem] def hl54:Hints:=fun _=> []
attribute [go_sem] Go.Proofs.Tryz.results54
set_option maxRecDepth 100000 in
set_option maxHeartbeats 16000000 in
theorem cs_Begin (d:GDisk) (m:GMeta) (o:Int) (hd:smallD d) (hs:smallGMeta m) (hl:(freePages m.fFrees).length≤1048576):CallOK Go.Proofs.Tryz.prog 54 [.d (.agg d.cells),.d (.agg m.cells),.d (.int .i64 o)] [] [.dead,.dead,.dead] (.d (.agg (beginT d m o).cells)) []:=by
 refine call_fr tysZOK mixedZ Go.Proofs.Tryz.func54 (by kernel_rfl) rfl (by kernel_rfl) hr54 hl54 (by simp [Go.Proofs.Tryz.ntmps54]) rfl ?_
 simp -implicitDefEqProofs only [go_sem,GDisk.cells,GMeta.cells]
 repeat ((first|refine rq ?_|refine ks_l06Copy m hs (by simp -implicitDefEqProofs only [go_sem,GMeta.cells_eq];first|done|rfl) ?_|refine ks_WorkNew d m o hd hs.1 hl (by simp -implicitDefEqProofs only [go_sem,GMeta.cells_eq,GDisk.cells_eq];first|done|rfl) ?_|fail);simp -implicitDefEqProofs only [go_sem,GDisk.cells,GMeta.cells,GWork.cells])
 try rfl
theorem ks_Begin {h:Heap} {tb:Nat} {K:OK} {args:List V} (d:GDisk) (m:GMeta) (o:Int) (hd:smallD d) (hs:smallGMeta m) (hl:(freePages m.fFrees).length≤1048576) (hg:toDs h args=some ([.agg d.cells,.agg m.cells,.int .i64 o],[]))
  (hk:K (renV (bk tb ([])) (.d (.agg (beginT d m o).cells))) (updN tb ([]) ([]))):callVC Go.Proofs.Tryz.prog h tb 54 args K:=
 call_free hg (cs_Begin d m o hd hs hl) rfl (.inl rfl) hk
@[go_sem] def hr143:Hints
 |0=> [0]|1=> [1,2]|_=> []
@[go_sem] def hl143:Hints:=fun _=> []
attribute [go_sem] Go.Proofs.Tryz.results143
set_option maxRecDepth 100000 in
set_option maxHeartbeats 16000000 in
theorem cs_l11Copy (t:GTxn) (h1:smallGMeta t.fBase) (h2:smallW t.fWork):CallOK Go.Proofs.Tryz.prog 143 [.d (.agg t.cells)] [] [.dead] (.d (.agg t.cells)) []:=by
 refine call_fr tysZOK mixedZ Go.Proofs.Tryz.func143 (by kernel_rfl) rfl (by kernel_rfl) hr143 hl143 (by simp [Go.Proofs.Tryz.ntmps143]) rfl ?_
 simp -implicitDefEqProofs only [go_sem,GTxn.cells]
 repeat ((first|refine rq ?_|refine ks_l06Copy t.fBase h1 (by simp -implicitDefEqProofs only [go_sem,GMeta.cells_eq];first|done|rfl) ?_|refine kdata (xs:=[.agg t.fWork.cells]) (cs_l08CopyF t.fWork h2) (by simp -implicitDefEqProofs only [go_sem,GWork.cells_eq];first|done|rfl) rfl ?_|fail);simp -implicitDefEqProofs only [go_sem,GTxn.cells,GMeta.cells,GWork.cells])
 try rfl
theorem ks_l11Copy {h:Heap} {tb:Nat} {K:OK} {args:List V} (t:GTxn) (h1:smallGMeta t.fBase) (h2:smallW t.fWork) (hg:toDs h args=some ([.agg t.cells],[]))
  (hk:K (renV (bk tb ([])) (.d (.agg t.cells))) (updN tb ([]) ([]))):callVC Go.Proofs.Tryz.prog h tb 143 args K:=
 call_free hg (cs_l11Copy t h1 h2) rfl (.inl rfl) hk
end Go.Rx
namespace Go.Rx
open Go
attribute [local irreducible] Req Way WayG Sel callVC CallOK seqVC cVC loopVC nextK
@[go_sem] def hr69:Hints
 |0=> [0,1,2]|1=> [1,2,3,6]|2=> [1,2,3,6,8]|3=> [6,8,9,10,11]|4=> [6,8]|5=> [6,8,9,10]|6=> [6,8,10]|7=> [6,8]|_=> []
@[go_sem] def hl69:Hints:=fun _=> []
attribute [go_sem] Go.Proofs.Tryz.results69
set_option maxRecDepth 100000 in
set_option maxHeartbeats 16000000 in
theorem cs_TxnPut {ours:Int→Prop} {B:List Int} {ps:List GPair} {pg:List Int} (t:GTxn) (key val:Key) (hB:B.length≤1000) (hm:smallGMeta t.fBase) (hx:Txs ours B t.fWork t.fRoot ps pg):CallOK Go.Proofs.Tryz.prog 69 [.d (.agg t.cells),.d (.str key),.d (.str val)] [] [.dead,.dead,.dead] (txnV (putT t key val) t) []:=by
 refine call_fr tysZOK mixedZ Go.Proofs.Tryz.func69 (by kernel_rfl) rfl (by kernel_rfl) hr69 hl69 (by simp [Go.Proofs.Tryz.ntmps69]) rfl ?_
 have hsw:=hx.ok.smallW hB
 have hp:=cs_PutKey t.fWork t.fRoot key val hB hx
 unfold txnV putT
 unfold putKV at hp
 simp -implicitDefEqProofs only [go_sem,GTxn.cells]
 refine ks_l11Copy t hm hsw (by simp -implicitDefEqProofs only [go_sem,GTxn.cells_eq];first|done|rfl) ?_
 simp -implicitDefEqProofs only [go_sem,GTxn.cells]
 cases hk:putK t.fWork t.fRoot key val with
 |none=>
  rw [hk] at hp
  refine kdata (xs:=[.agg t.fWork.cells,.int .i64 t.fRoot,.str key,.str val]) hp (by simp -implicitDefEqProofs only [go_sem,GWork.cells_eq];first|done|rfl) rfl ?_
  simp -implicitDefEqProofs only [go_sem,GTxn.cells,GWork.cells]
  repeat ((first|refine rq ?_|refine wy ?_|refine wn ?_|refine gy ?_|refine gn ?_|fail);simp -implicitDefEqProofs only [go_sem,GTxn.cells,GWork.cells])
  try rfl
 |some r=>
  obtain ⟨w',r'⟩:=r
  rw [hk] at hp
  refine kdata (xs:=[.agg t.fWork.cells,.int .i64 t.fRoot,.str key,.str val]) hp (by simp -implicitDefEqProofs only [go_sem,GWork.cells_eq];first|done|rfl) rfl ?_
  simp -implicitDefEqProofs only [go_sem,GTxn.cells,GWork.cells]
  repeat ((first|refine rq ?_|refine wy ?_|refine wn ?_|refine gy ?_|refine gn ?_|fail);simp -implicitDefEqProofs only [go_sem,GTxn.cells,GWork.cells])
  try rfl
theorem ks_TxnPut {h:Heap} {tb:Nat} {K:OK} {args:List V} {ours:Int→Prop} {B:List Int} {ps:List GPair} {pg:List Int} (t:GTxn) (key val:Key) (hB:B.length≤1000) (hm:smallGMeta t.fBase) (hx:Txs ours B t.fWork t.fRoot ps pg) (hg:toDs h args=some ([.agg t.cells,.str key,.str val],[]))
  (hk:K (renV (bk tb ([])) (txnV (putT t key val) t)) (updN tb ([]) ([]))):callVC Go.Proofs.Tryz.prog h tb 69 args K:=
 call_free hg (cs_TxnPut t key val hB hm hx) rfl (.inl rfl) hk
@[go_sem] def hr149:Hints
 |0=> [0,1]|1=> [1,2,4]|2=> [1,2,4,6]|3=> [4,6,7,8,9]|4=> [4,6]|5=> [4,6,7,8]|6=> [4,6,8]|7=> [4,6]|_=> []
@[go_sem] def hl149:Hints:=fun _=> []
attribute [go_sem] Go.Proofs.Tryz.results149
set_option maxRecDepth 100000 in
set_option maxHeartbeats 16000000 in
theorem cs_TxnDrop {ours:Int→Prop} {B:List Int} {ps:List GPair} {pg:List Int} (t:GTxn) (key:Key) (hB:B.length≤1000) (hm:smallGMeta t.fBase) (hx:Txs ours B t.fWork t.fRoot ps pg):CallOK Go.Proofs.Tryz.prog 149 [.d (.agg t.cells),.d (.str key)] [] [.dead,.dead] (txnV (dropT t key) t) []:=by
 refine call_fr tysZOK mixedZ Go.Proofs.Tryz.func149 (by kernel_rfl) rfl (by kernel_rfl) hr149 hl149 (by simp [Go.Proofs.Tryz.ntmps149]) rfl ?_
 have hsw:=hx.ok.smallW hB
 have hp:=cs_DropKey t.fWork t.fRoot key hB hx
 unfold txnV dropT
 unfold dropKV at hp
 simp -implicitDefEqProofs only [go_sem,GTxn.cells]
 refine ks_l11Copy t hm hsw (by simp -implicitDefEqProofs only [go_sem,GTxn.cells_eq];first|done|rfl) ?_
 simp -implicitDefEqProofs only [go_sem,GTxn.cells]
 cases hk:dropK t.fWork t.fRoot key with
 |none=>
  rw [hk] at hp
  refine kdata (xs:=[.agg t.fWork.cells,.int .i64 t.fRoot,.str key]) hp (by simp -implicitDefEqProofs only [go_sem,GWork.cells_eq];first|done|rfl) rfl ?_
  simp -implicitDefEqProofs only [go_sem,GTxn.cells,GWork.cells]
  repeat ((first|refine rq ?_|refine wy ?_|refine wn ?_|refine gy ?_|refine gn ?_|fail);simp -implicitDefEqProofs only [go_sem,GTxn.cells,GWork.cells])
  try rfl
 |some r=>
  obtain ⟨w',r'⟩:=r
  rw [hk] at hp
  refine kdata (xs:=[.agg t.fWork.cells,.int .i64 t.fRoot,.str key]) hp (by simp -implicitDefEqProofs only [go_sem,GWork.cells_eq];first|done|rfl) rfl ?_
  simp -implicitDefEqProofs only [go_sem,GTxn.cells,GWork.cells]
  repeat ((first|refine rq ?_|refine wy ?_|refine wn ?_|refine gy ?_|refine gn ?_|fail);simp -implicitDefEqProofs only [go_sem,GTxn.cells,GWork.cells])
  try rfl
theorem ks_TxnDrop {h:Heap} {tb:Nat} {K:OK} {args:List V} {ours:Int→Prop} {B:List Int} {ps:List GPair} {pg:List Int} (t:GTxn) (key:Key) (hB:B.length≤1000) (hm:smallGMeta t.fBase) (hx:Txs ours B t.fWork t.fRoot ps pg) (hg:toDs h args=some ([.agg t.cells,.str key],[]))
  (hk:K (renV (bk tb ([])) (txnV (dropT t key) t)) (updN tb ([]) ([]))):callVC Go.Proofs.Tryz.prog h tb 149 args K:=
 call_free hg (cs_TxnDrop t key hB hm hx) rfl (.inl rfl) hk
end Go.Rx
namespace Go.Rx
open Go
attribute [local irreducible] Req Way WayG Sel callVC CallOK seqVC cVC loopVC nextK
@[go_sem] def hr130:Hints
 |0=> [0]|1=> [1]|_=> []
@[go_sem] def hl130:Hints:=fun _=> []
attribute [go_sem] Go.Proofs.Tryz.results130
set_option maxRecDepth 100000 in
set_option maxHeartbeats 16000000 in
theorem cs_l11Same (t:GTxn):CallOK Go.Proofs.Tryz.prog 130 [.d (.agg t.cells)] [] [.dead] (.d (.bool (decide (sameT t)))) []:=by
 refine call_of tysZOK mixedZ Go.Proofs.Tryz.func130 (by kernel_rfl) rfl (np:=[false]) (by kernel_rfl) hr130 hl130 (by simp [Go.Proofs.Tryz.ntmps130]) ?_
 have e:decide (sameT t)=(decide (t.fRoot=t.fBase.fRoot)&&decide (t.fWork.fGone=[])):=by
  unfold sameT;exact Bool.decide_and ..
 have e2:decide (((t.fWork.fGone.length:Nat):Int)=0)=decide (t.fWork.fGone=[]):=decide_eq_decide.2 ⟨fun h=>List.length_eq_zero_iff.1 (by omega),fun h=>by rw [h];rfl⟩
 rw [e]
 simp -implicitDefEqProofs only [go_sem,GTxn.cells]
 cases hr:decide (t.fRoot=t.fBase.fRoot)
 ·simp -implicitDefEqProofs only [go_sem,hr,e2,Bool.false_and,Bool.true_and]
  repeat ((first|refine rq ?_|refine wy ?_|refine wn ?_|refine gy ?_|refine gn ?_|fail);simp -implicitDefEqProofs only [go_sem,hr,e2,Bool.false_and,Bool.true_and])
  try rfl
 ·simp -implicitDefEqProofs only [go_sem,hr,e2,Bool.false_and,Bool.true_and]
  repeat ((first|refine rq ?_|refine wy ?_|refine wn ?_|refine gy ?_|refine gn ?_|fail);simp -implicitDefEqProofs only [go_sem,hr,e2,Bool.false_and,Bool.true_and])
  try rfl
theorem ks_l11Same {h:Heap} {tb:Nat} {K:OK} {args:List V} {ls:List Nat} (t:GTxn) (hg:toDs h args=some ([.agg t.cells],ls))
  (hk:K (renV (bk tb ([])) (.d (.bool (decide (sameT t))))) (updN tb ([]) ([]))):callVC Go.Proofs.Tryz.prog h tb 130 args K:=
 call_free hg (cs_l11Same t) rfl (.inr ⟨flat_of rfl,flatHB_of rfl⟩) hk
end Go.Rx
