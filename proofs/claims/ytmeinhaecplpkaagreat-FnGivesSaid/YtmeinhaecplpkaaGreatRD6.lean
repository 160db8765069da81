/-
  Part D6: lemmas on an evaluator over plain data of the model's code, plain laws on lists and numbers, or contracts of functions of the program; each lemma names its conditions.
-/
import Derived.Test.YtmeinhaecplpkaaGreatRC4
import Derived.Test.YtmeinhaecplpkaaGreatRA7
import Derived.Test.YtmeinhaecplpkaaGreatRP5
import Derived.Test.YtmeinhaecplpkaaGreatRB1

set_option linter.unusedSimpArgs false
set_option linter.unusedVariables false
namespace Go.Rx
open Go
attribute [local irreducible] Req Way WayG Sel callVC CallOK seqVC cVC loopVC nextK
@[go_sem] def hr52:Hints
 |0=> [0,1]|1=> [1,2]|2=> [6]|3=> []|4=> [6]|_=> []
@[go_sem] def hl52:Hints:=fun _=> []
attribute [go_sem] Go.Proofs.Tryz.results52
set_option maxRecDepth 100000 in
set_option maxHeartbeats 16000000 in
theorem cs_PagesOf (d:GDisk) (root:Int) (h1:d.fPages.length≤1048576) (h2:d.fLate.length≤1048576) (hsm:∀p,(readPage d p).length≤1048576):CallOK Go.Proofs.Tryz.prog 52 [.d (.agg d.cells),.d (.int .i64 root)] [] [.dead,.dead] (pagesV d root) []:=by
 refine call_fr tysZOK mixedZ Go.Proofs.Tryz.func52 (by kernel_rfl) rfl (by kernel_rfl) hr52 hl52 (by simp [Go.Proofs.Tryz.ntmps52]) rfl ?_
 have hl:= @lookS_len d root
 unfold pagesV
 simp -implicitDefEqProofs only [go_sem,GDisk.cells]
 refine call_free (xs:=[.agg d.cells,.int .i64 root]) rfl (cs_look d root h1 h2 hsm) rfl (.inl rfl) ?_
 cases hb:(lookS d root).bad
 ·have hss:(ints (sortI (lookS d root).pages)).take (lookS d root).pages.length=ints (sortI (lookS d root).pages):=List.take_of_length_le (by simp [ints,sortI_len])
  rw [if_neg (by simp)]
  simp -implicitDefEqProofs only [go_sem,alBox_eq,hb,hss]
  repeat ((first|refine rq ?_|refine wy ?_|refine wn ?_|refine gy ?_|refine gn ?_|refine ks_Sorted (lookS d root).pages (by omega) (by simp -implicitDefEqProofs only [go_sem,ints_all];first|done|rfl) ?_|fail);simp -implicitDefEqProofs only [go_sem,alBox_eq,hb,hss])
  try rfl
 ·rw [if_pos rfl]
  simp -implicitDefEqProofs only [go_sem,alBox_eq,hb]
  repeat ((first|refine rq ?_|refine wy ?_|refine wn ?_|refine gy ?_|refine gn ?_|fail);simp -implicitDefEqProofs only [go_sem,alBox_eq,hb])
  try rfl
theorem ks_PagesOf {h:Heap} {tb:Nat} {K:OK} {args:List V} (d:GDisk) (root:Int) (h1:d.fPages.length≤1048576) (h2:d.fLate.length≤1048576) (hsm:∀p,(readPage d p).length≤1048576) (hg:toDs h args=some ([.agg d.cells,.int .i64 root],[]))
  (hk:K (renV (bk tb ([])) (pagesV d root)) (updN tb ([]) ([]))):callVC Go.Proofs.Tryz.prog h tb 52 args K:=
 call_free hg (cs_PagesOf d root h1 h2 hsm) rfl (.inl rfl) hk
@[go_sem] def hr267:Hints
 |0=> [0]|1=> [1,2]|2=> [1,2,4]|3=> [1,2,4,5,6]|4=> [1,2,4,5,6,7,8]|5=> [2,4]|6=> [1,2,4,5,7]|7=> [1,2,4,7,9,10,11]|8=> [2,4]|9=> [1,2,7,9,10]|10=> [1,2,7,9,10,12]|11=> [1,2,7,9,10,12]|12=> [1,2,7,9,10,12]|13=> [1,2,9,10]|_=> []
@[go_sem] def hl267:Hints
 |10=> [1,2,7,9,10,12]|_=> []
attribute [go_sem] Go.Proofs.Tryz.results267
set_option maxRecDepth 100000 in
set_option maxHeartbeats 16000000 in
theorem cs_PackTxn {d0:GDisk} {m:GMeta} {oldest:Int} {pg0 pg:List Int} {ps:List GPair} (t:GTxn) (hx:TxnInv d0 m oldest pg0 t ps pg) (hB:pg0.length≤1000) (hm:smallGMeta t.fBase):CallOK Go.Proofs.Tryz.prog 267 [.d (.agg t.cells)] [] [.dead] (txnV (packT t) t) []:=by
 refine call_fr tysZOK mixedZ Go.Proofs.Tryz.func267 (by kernel_rfl) rfl (by kernel_rfl) hr267 hl267 (by simp [Go.Proofs.Tryz.ntmps267]) rfl ?_
 have hw:=hx.txs.ok.smallW hB
 have hdk:=hx.txs.ok.disk
 have hsd:=smallD_ok hdk
 obtain ⟨k,c,hlk⟩:=lookS_at hx.txs.tree
 have hps:pairsV (allPairs t.fWork.fDisk t.fRoot)= .tup [.d (.sl (GPairS ps)),.d (.bool true)]:=by rw [allPairs_at hx.txs.tree];rfl
 have hpg:pagesV t.fWork.fDisk t.fRoot= .tup [.d (.sl (ints (sortI pg))),.d (.bool true)]:=by unfold pagesV;rw [hlk];rfl
 have hpl:=tree_len hx.txs.tree
 rw [packT_at hx]
 unfold packW
 simp -implicitDefEqProofs only [go_sem,GTxn.cells]
 repeat ((first|refine rq ?_|refine ks_l11Copy t hm hw (by simp -implicitDefEqProofs only [go_sem,GTxn.cells_eq];first|done|rfl) ?_|refine ks_AllPairs t.fWork.fDisk t.fRoot hsd.1 hsd.2 (readPage_small hdk) (by simp -implicitDefEqProofs only [go_sem,GDisk.cells_eq];first|done|rfl) ?_|refine ks_PagesOf t.fWork.fDisk t.fRoot hsd.1 hsd.2 (readPage_small hdk) (by simp -implicitDefEqProofs only [go_sem,GDisk.cells_eq];first|done|rfl) ?_|fail);simp -implicitDefEqProofs only [go_sem,hps,hpg,GTxn.cells])
 cases hb:buildS t.fWork ps with
 |none=>
  have hbv:buildV t.fWork ps= .tup [.d (.agg t.fWork.cells),.d (.int .i64 0),.d (.bool false)]:=by rw [buildV,hb]
  simp -implicitDefEqProofs only [go_sem,hbv,hps,hpg,GTxn.cells,GWork.cells]
  repeat ((first|refine rq ?_|refine wy ?_|refine wn ?_|refine gy ?_|refine gn ?_|refine ks_BuildTree t.fWork ps hw (by omega) (by simp -implicitDefEqProofs only [go_sem,GWork.cells_eq];first|done|rfl) ?_|fail);simp -implicitDefEqProofs only [go_sem,hbv,hps,hpg,GTxn.cells,GWork.cells])
  try rfl
 |some r=>
  obtain ⟨w1,root1⟩:=r
  have hbv:buildV t.fWork ps= .tup [.d (.agg w1.cells),.d (.int .i64 root1),.d (.bool true)]:=by rw [buildV,hb]
  simp -implicitDefEqProofs only [go_sem,hbv,hps,hpg,GTxn.cells,GWork.cells]
  repeat ((first|refine rq ?_|refine wy ?_|refine wn ?_|refine gy ?_|refine gn ?_|refine ks_BuildTree t.fWork ps hw (by omega) (by simp -implicitDefEqProofs only [go_sem,GWork.cells_eq];first|done|rfl) ?_|fail);simp -implicitDefEqProofs only [go_sem,hbv,hps,hpg,GTxn.cells,GWork.cells])
  obtain ⟨_,b1,pg',b2,b3,b4,_⟩:=build_spec hx.txs.ok hb
  have hmem:∀q,q∈sortI pg↔q∈pg:=fun q=>sortI_perm.mem_iff
  have hnd:(sortI pg).Nodup:=sortI_perm.nodup_iff.2 hx.txs.tree.nodup
  have hlv:∀q∈sortI pg,live pg0 w1 q:=fun q hq=>(b3 q).2 (.inl ((hx.txs.now q).2 ((hmem q).1 hq)))
  have hst:∀i,WOK (oursOf m oldest) pg0 (((sortI pg).take i).foldl dropP w1):=fun i=>(dropsP_spec (l:=(sortI pg).take i) b1 (fun q hq=>hlv q (List.mem_of_mem_take hq)) (hnd.sublist (List.take_sublist i _))).1
  have hsl:(sortI pg).length≤131072:=by rw [sortI_len];exact hpl.2
  refine loop_data (α:=Nat) (fun i=>⟨[(1,.ref 0 0),(2,.ref 1 0),(7,.d (.sl (ints (sortI pg)))),(9,.ref 8 0),(10,.d (.int .i64 root1)),(12,.d (.int .i64 i))],[(0,some (.box [.d (.int .i64 t.fBase.fTx),.d (.int .i64 t.fBase.fRoot),.d (.int .i64 t.fBase.fNext),.d (.sl (GFreeS t.fBase.fFrees)),.d (.sl (strs t.fWork.fDisk.fPages)),.d (.sl (GPutS t.fWork.fDisk.fLate)),.d (.int .i64 t.fWork.fNext),.d (.sl (ints t.fWork.fUsable)),.d (.sl (ints t.fWork.fGone)),.d (.sl (ints t.fWork.fFresh)),.d (.int .i64 t.fRoot)])),(1,some (.box [.d (.int .i64 0),.d (.int .i64 0),.d (.int .i64 0),.own 2 0 0,.own 3 0 0,.own 4 0 0,.d (.int .i64 0),.own 5 0 0,.own 6 0 0,.own 7 0 0,.d (.int .i64 0)])),(2,some (.arr 2 [])),(3,some (.arr 1 [])),(4,some (.arr 2 [])),(5,some (.arr 1 [])),(6,some (.arr 1 [])),(7,some (.arr 1 [])),(8,some (.box [.d (.sl (strs (((sortI pg).take i).foldl dropP w1).fDisk.fPages)),.d (.sl (GPutS (((sortI pg).take i).foldl dropP w1).fDisk.fLate)),.d (.int .i64 (((sortI pg).take i).foldl dropP w1).fNext),.d (.sl (ints (((sortI pg).take i).foldl dropP w1).fUsable)),.d (.sl (ints (((sortI pg).take i).foldl dropP w1).fGone)),.d (.sl (ints (((sortI pg).take i).foldl dropP w1).fFresh))]))]⟩)
   (fun i=>i≤(sortI pg).length) (fun i=>(sortI pg).length - i) 0 rfl (Nat.zero_le _) ?_
  rintro i i1
  have hwi:=hst i
  have hstep:∀q,(sortI pg)[i]? =some q→((sortI pg).take (i+1)).foldl dropP w1=dropP (((sortI pg).take i).foldl dropP w1) q:=fun q hq=>by rw [take_snoc hq,List.foldl_append];rfl
  have hall:(sortI pg).length≤i→((sortI pg).take i).foldl dropP w1=(sortI pg).foldl dropP w1:=fun h=>by rw [List.take_of_length_le h]
  generalize ((sortI pg).take i).foldl dropP w1=u at hwi hstep hall ⊢
  have hi1:IntKind.i64.wrap ((i:Int)+1)=((i+1:Nat):Int):=wrap_succ (by simp only [LEN];omega)
  simp -implicitDefEqProofs only [go_sem]
  (first|(refine way_dec (fun h5=>?_) (fun h5=>?_))|(refine way_ndec (fun h5=>?_) (fun h5=>?_))|(refine wayT_dec (fun h5=>?_) (fun h5=>?_))|(refine wayF_dec (fun h5=>?_) (fun h5=>?_))|(refine wayT_ndec (fun h5=>?_) (fun h5=>?_))|(refine wayF_ndec (fun h5=>?_) (fun h5=>?_))|(refine way_not (fun h5=>?_) (fun h5=>?_))|(refine way (fun h5=>?_) (fun h5=>?_))|(refine wayT (fun h5=>?_) (fun h5=>?_))|(refine wayF (fun h5=>?_) (fun h5=>?_)))
  ·obtain ⟨q,hq⟩:=some_at h5
   have hde:=dropS_eq (p:=q) hwi
   simp -implicitDefEqProofs only [go_sem,lget_ints hq,GWork.cells]
   repeat ((first|refine rq ?_|refine wy ?_|refine wn ?_|refine gy ?_|refine gn ?_|refine ks_DropPage u q (hwi.smallW hB) (by simp -implicitDefEqProofs only [go_sem,GWork.cells_eq];first|done|rfl) ?_|fail);simp -implicitDefEqProofs only [go_sem,lget_ints hq,GWork.cells])
   rw [hi1,hde,←hstep q hq]
   exact next_data (i+1) rfl (by omega) (by omega)
  ·have he:=hall (by omega)
   subst he
   simp -implicitDefEqProofs only [go_sem,GMeta.cells,GTxn.cells]
   repeat ((first|refine rq ?_|refine wy ?_|refine wn ?_|refine gy ?_|refine gn ?_|refine ks_l06Copy t.fBase hm (by simp -implicitDefEqProofs only [go_sem,GMeta.cells_eq];first|done|rfl) ?_|fail);simp -implicitDefEqProofs only [go_sem,GMeta.cells,GTxn.cells])
   try rfl
theorem ks_PackTxn {h:Heap} {tb:Nat} {K:OK} {args:List V} {d0:GDisk} {m:GMeta} {oldest:Int} {pg0 pg:List Int} {ps:List GPair} (t:GTxn) (hx:TxnInv d0 m oldest pg0 t ps pg) (hB:pg0.length≤1000) (hm:smallGMeta t.fBase) (hg:toDs h args=some ([.agg t.cells],[]))
  (hk:K (renV (bk tb ([])) (txnV (packT t) t)) (updN tb ([]) ([]))):callVC Go.Proofs.Tryz.prog h tb 267 args K:=
 call_free hg (cs_PackTxn t hx hB hm) rfl (.inl rfl) hk
end Go.Rx
namespace Go.Rx
open Go
attribute [local irreducible] Req Way WayG Sel callVC CallOK seqVC cVC loopVC nextK
@[go_sem] def hr259:Hints
 |0=> [0]|1=> [0]|_=> []
@[go_sem] def hl259:Hints:=fun _=> []
attribute [go_sem] Go.Proofs.Tryz.results259
set_option maxRecDepth 100000 in
set_option maxHeartbeats 16000000 in
theorem cs_l16Pairs (l:List GPair) (hl:l.length≤1048576):CallOK Go.Proofs.Tryz.prog 259 [.d (.sl (GPairS l))] [] [.dead] (.d (.sl (GPairS l))) []:=by
 refine call_fr tysZOK mixedZ Go.Proofs.Tryz.func259 (by kernel_rfl) rfl (by kernel_rfl) hr259 hl259 (by simp [Go.Proofs.Tryz.ntmps259]) rfl ?_
 simp -implicitDefEqProofs only [go_sem]
 repeat ((first|refine rq ?_|fail);simp -implicitDefEqProofs only [go_sem,GPairS_all])
theorem ks_l16Pairs {h:Heap} {tb:Nat} {K:OK} {args:List V} (l:List GPair) (hl:l.length≤1048576) (hg:toDs h args=some ([.sl (GPairS l)],[]))
  (hk:K (renV (bk tb ([])) (.d (.sl (GPairS l)))) (updN tb ([]) ([]))):callVC Go.Proofs.Tryz.prog h tb 259 args K:=
 call_free hg (cs_l16Pairs l hl) rfl (.inl rfl) hk
def dropSt (l:List GPair) (key:Key) (i:Nat):List GPair:=mdrop (l.take i) key
theorem dropSt_snoc {l:List GPair} {key:Key} {i:Nat} {p:GPair} (h:l[i]? =some p):dropSt l key (i+1)=dropSt l key i++(if p.fKey=key then [] else [p]):=by
 unfold dropSt mdrop
 rw [take_snoc h,List.filter_append]
 by_cases e:p.fKey=key<;>simp [e]
theorem dropSt_len {l:List GPair} {key:Key} {i:Nat}:(dropSt l key i).length≤min i l.length:=by
 have:=List.length_filter_le (fun p:GPair=> !decide (p.fKey=key)) (l.take i)
 simpa [dropSt,mdrop] using this
@[go_sem] def hr73:Hints
 |0=> [0,1]|1=> [0,1]|2=> [0,1,5]|3=> [0,1,5,6]|4=> [0,1,5,6]|5=> [0,1,5,6]|6=> [0,1,5,6]|7=> [5]|_=> []
@[go_sem] def hl73:Hints
 |3=> [0,1,5,6]|_=> []
attribute [go_sem] Go.Proofs.Tryz.results73
set_option maxRecDepth 100000 in
set_option maxHeartbeats 16000000 in
theorem cs_ModelDrop (l:List GPair) (key:Key) (hl:l.length≤1048576):CallOK Go.Proofs.Tryz.prog 73 [.d (.sl (GPairS l)),.d (.str key)] [] [.dead,.dead] (.d (.sl (GPairS (mdrop l key)))) []:=by
 refine call_fr tysZOK mixedZ Go.Proofs.Tryz.func73 (by kernel_rfl) rfl (by kernel_rfl) hr73 hl73 (by simp [Go.Proofs.Tryz.ntmps73]) rfl ?_
 simp -implicitDefEqProofs only [go_sem]
 repeat ((first|refine rq ?_|fail);simp -implicitDefEqProofs only [go_sem])
 refine loop_data (α:=Nat) (fun i=>⟨[(0,.d (.sl (GPairS l))),(1,.d (.str key)),(5,.own 0 0 (dropSt l key i).length),(6,.d (.int .i64 i))],[(0,some (.arr 2 (GPairS (dropSt l key i))))]⟩)
  (fun i=>i≤l.length) (fun i=>l.length - i) 0 rfl (Nat.zero_le _) ?_
 rintro i i1
 have hdl:= @dropSt_len l key i
 have hi1:IntKind.i64.wrap ((i:Int)+1)=((i+1:Nat):Int):=wrap_succ (by simp only [LEN];omega)
 simp -implicitDefEqProofs only [go_sem]
 (first|(refine way_dec (fun h5=>?_) (fun h5=>?_))|(refine way_ndec (fun h5=>?_) (fun h5=>?_))|(refine wayT_dec (fun h5=>?_) (fun h5=>?_))|(refine wayF_dec (fun h5=>?_) (fun h5=>?_))|(refine wayT_ndec (fun h5=>?_) (fun h5=>?_))|(refine wayF_ndec (fun h5=>?_) (fun h5=>?_))|(refine way_not (fun h5=>?_) (fun h5=>?_))|(refine way (fun h5=>?_) (fun h5=>?_))|(refine wayT (fun h5=>?_) (fun h5=>?_))|(refine wayF (fun h5=>?_) (fun h5=>?_)))
 ·obtain ⟨p,hp⟩:=some_at h5
  have hst:=dropSt_snoc (key:=key) hp
  by_cases hx:p.fKey=key
  ·have dx:=decide_eq_true hx
   rw [if_pos hx,List.append_nil] at hst
   simp -implicitDefEqProofs only [go_sem,lget_GPairS hp,dx]
   repeat ((first|refine rq ?_|refine wy ?_|refine wn ?_|refine gy ?_|refine gn ?_|fail);simp -implicitDefEqProofs only [go_sem,lget_GPairS hp,dx])
   rw [hi1,←hst]
   exact next_data (i+1) rfl (by omega) (by omega)
  ·have dx:=decide_eq_false hx
   rw [if_neg hx] at hst
   simp -implicitDefEqProofs only [go_sem,lget_GPairS hp,dx]
   repeat ((first|refine rq ?_|refine wy ?_|refine wn ?_|refine gy ?_|refine gn ?_|fail);simp -implicitDefEqProofs only [go_sem,lget_GPairS hp,dx])
   rw [hi1]
   refine next_data (i+1) ?_ (by omega) (by omega)
   simp [hst,GPairS,GPair.cells]
 ·have hall:dropSt l key i=mdrop l key:=by rw [dropSt,List.take_of_length_le (by omega)]
  rw [hall]
  simp -implicitDefEqProofs only [go_sem,GPairS_all]
  repeat ((first|refine rq ?_|refine wy ?_|refine wn ?_|refine gy ?_|refine gn ?_|fail);simp -implicitDefEqProofs only [go_sem,GPairS_all])
  try rfl
theorem ks_ModelDrop {h:Heap} {tb:Nat} {K:OK} {args:List V} (l:List GPair) (key:Key) (hl:l.length≤1048576) (hg:toDs h args=some ([.sl (GPairS l),.str key],[]))
  (hk:K (renV (bk tb ([])) (.d (.sl (GPairS (mdrop l key))))) (updN tb ([]) ([]))):callVC Go.Proofs.Tryz.prog h tb 73 args K:=
 call_free hg (cs_ModelDrop l key hl) rfl (.inl rfl) hk
end Go.Rx
namespace Go.Rx
open Go
attribute [local irreducible] Req Way WayG Sel callVC CallOK seqVC cVC loopVC nextK
@[go_sem] def hr239:Hints
 |0=> [0,1]|1=> [0,3]|2=> [0,3,6]|3=> [0,3,6,7]|4=> [0,3,6,7,20]|5=> [0,6]|6=> [0,7]|7=> [0,7]|8=> [0,3,6,7,20]|9=> [0,3,6]|10=> [0,3,7]|11=> [0,3,7]|12=> [0,3,6,7,20]|13=> [0,3,6]|14=> [0,3,7]|15=> [0,3,7]|16=> [0,3,6,7,20]|17=> [0,6]|18=> [0,7]|19=> [0,7]|20=> [0,3,6,7,20]|21=> [0,6]|22=> [0,3,6,7,20]|23=> [0,3,6]|24=> [0,3,7]|25=> [0,3,7]|26=> [0,3,6,7,20]|27=> [0,3,6]|28=> [0,8,9]|29=> [0,3,6,7,20]|30=> [0,3,6]|31=> [0,3,7]|32=> [0,3,7,10]|33=> [0,3,7,10,11]|34=> [0,3,7,10,11]|35=> [0,3,7,10,11]|36=> [0,3,7,10,11]|37=> [0,7,10]|38=> [0,3,6,7,20]|39=> [0,6,7]|40=> [0]|41=> [0,6,7]|42=> [0,6,7,12,13]|43=> [0,7,12,13,14]|44=> [0,14]|45=> [0,14]|46=> [0,7,12,14]|47=> [0,7,14]|48=> [0,3,7,20]|49=> [0,3,7]|50=> [0,7]|_=> []
@[go_sem] def hl239:Hints
 |33=> [0,3,7,10,11]|_=> []
attribute [go_sem] Go.Proofs.Tryz.results239
@[go_sem] def hr200:Hints
 |0=> [0,1]|1=> [0,3]|2=> [0,4,5]|3=> [0,5]|_=> []
@[go_sem] def hl200:Hints:=fun _=> []
attribute [go_sem] Go.Proofs.Tryz.results200
@[go_sem] def hr269:Hints
 |0=> [0,1]|1=> [0,3]|2=> [0,3,4]|3=> [0,3,4]|4=> [0,3,4]|5=> [0,4]|6=> [0,4,5,6]|7=> [0,4,5]|8=> [0,5]|9=> [0,5]|10=> [0,5]|11=> [0]|_=> []
@[go_sem] def hl269:Hints:=fun _=> []
attribute [go_sem] Go.Proofs.Tryz.results269
def DoC (w:GWorld) (e:GEvent) (r:GWorld×Int×Key):Prop:=
 CallOK Go.Proofs.Tryz.prog 239 [.ref 0 0,.d (.agg e.cells)] [(0,.box (wdV w))] [.ref 0 0,.dead] (doV r) [(0,.box (wdV r.1))]
end Go.Rx
