/-
  Part B1: lemmas on an evaluator over plain data of the model's code, plain laws on lists and numbers, or contracts of functions of the program; each lemma names its conditions.
-/
import Derived.Test.YtmeinhaecplpkaaGreatRA4
import Derived.Test.YtmeinhaecplpkaaGreatRA6
import Derived.Test.YtmeinhaecplpkaaGreatRA8
import Derived.Test.YtmeinhaecplpkaaGreatRP3

set_option linter.unusedSimpArgs false
set_option linter.unusedVariables false
namespace Go.Rx
open Go
attribute [local irreducible] Req Way WayG Sel callVC CallOK seqVC cVC loopVC nextK
def sortSt (l:List Int) (i k:Nat) (x:Int):List Int:=(sortI (l.take i)).take k++x::((sortI (l.take i)).drop k++l.drop (i+1))
theorem sortSt_len {l:List Int} {i k:Nat} {x:Int} (h:l[i]? =some x) (hk:k≤i):(sortSt l i k x).length=l.length:=by
 have hi:=(List.getElem?_eq_some_iff.1 h).1
 simp only [sortSt,List.length_append,List.length_cons,List.length_take,List.length_drop,sortI_len];omega
theorem sortSt_at {l:List Int} {i k:Nat} {x:Int} (h:l[i]? =some x) (hk:k≤i):(sortSt l i k x)[k]? =some x:=by
 have hi:=(List.getElem?_eq_some_iff.1 h).1
 have hl:((sortI (l.take i)).take k).length=k:=by rw [List.length_take,sortI_len,List.length_take];omega
 rw [sortSt,List.getElem?_append_right (by omega),hl];simp
theorem sortSt_prev {l:List Int} {i k:Nat} {x:Int} (h:l[i]? =some x) (hk:k≤i) (h0:0<k):∃y,(sortI (l.take i))[k - 1]? =some y∧(sortSt l i k x)[k - 1]? =some y:=by
 have hi:=(List.getElem?_eq_some_iff.1 h).1
 have hsl:(sortI (l.take i)).length=i:=by rw [sortI_len,List.length_take];omega
 have hl:((sortI (l.take i)).take k).length=k:=by rw [List.length_take];omega
 refine ⟨_,List.getElem?_eq_getElem (by omega),?_⟩
 rw [sortSt,List.getElem?_append_left (by omega),List.getElem?_take,if_pos (by omega)]
 exact List.getElem?_eq_getElem (by omega)
theorem sortSt_begin {l:List Int} {i:Nat} {x:Int} (h:l[i]? =some x):sortSt l i i x=sortI (l.take i)++l.drop i:=by
 have hi:=(List.getElem?_eq_some_iff.1 h).1
 have hsl:(sortI (l.take i)).length=i:=by rw [sortI_len,List.length_take];omega
 rw [sortSt,List.take_of_length_le (by omega),List.drop_of_length_le (by omega),drop_cons h];rfl
theorem sortSt_end {l:List Int} {i k:Nat} {x:Int} (h:l[i]? =some x) (hk:k≤i) (h1:∀y∈(sortI (l.take i)).drop k,x<y) (h2:k=0∨∃y,(sortI (l.take i))[k - 1]? =some y∧y≤x):
  sortSt l i k x=sortI (l.take (i+1))++l.drop (i+1):=by
 have hi:=(List.getElem?_eq_some_iff.1 h).1
 have hsl:(sortI (l.take i)).length=i:=by rw [sortI_len,List.length_take];omega
 rw [sortI_snoc h,insR_at sortI_sorted (by omega) h1 h2,sortSt];simp
theorem i64_pred {k:Nat} (h:0<k) (h2:k≤1099511627776):IntKind.i64.wrap ((k:Int) - 1)=((k - 1:Nat):Int):=by rw [wrap_int (by omega) (by omega)];omega
@[go_sem] def hr105:Hints
 |0=> [0]|1=> [0]|2=> [3]|3=> [3,4]|4=> [3,4]|5=> [3,4]|6=> [3,4,5]|7=> [3,4,5]|8=> [3,4,5]|9=> [3,4,5,6]|10=> [3,4,5,6]|11=> [3]|_=> []
@[go_sem] def hl105:Hints
 |3=> [3,4]|6=> [3,4,5]|_=> []
attribute [go_sem] Go.Proofs.Tryz.results105
set_option maxRecDepth 100000 in
set_option maxHeartbeats 16000000 in
theorem cs_Sorted (l:List Int) (hl:l.length≤4194304):CallOK Go.Proofs.Tryz.prog 105 [.d (.sl (ints l))] [] [.dead] (.own 0 0 l.length) [(0,.arr 1 (ints (sortI l)))]:=by
 refine call_of tysZOK mixedZ Go.Proofs.Tryz.func105 (by kernel_rfl) rfl (np:=[false]) (by kernel_rfl) hr105 hl105 (by simp [Go.Proofs.Tryz.ntmps105]) ?_
 simp -implicitDefEqProofs only [go_sem,ints_length]
 repeat ((first|refine rq ?_|fail);simp -implicitDefEqProofs only [go_sem,ints_length])
 refine loop_data (α:=Nat) (fun i=>⟨[(3,.own 0 0 l.length),(4,.d (.int .i64 i))],[(0,some (.arr 1 (ints (sortI (l.take i)++l.drop i))))]⟩)
  (fun i=>1≤i∧(i≤1∨i≤l.length)) (fun i=>l.length+1 - i) 1 (by
   have:sortI (l.take 1)++l.drop 1=l:=by cases l with
    |nil=>rfl
    |cons a l=>simp [sortI,insR]
   rw [this];rfl) ⟨Nat.le_refl _,.inl (Nat.le_refl _)⟩ ?_
 rintro i ⟨h0,h1⟩
 simp -implicitDefEqProofs only [go_sem]
 (first|(refine way_dec (fun h5=>?_) (fun h5=>?_))|(refine way_ndec (fun h5=>?_) (fun h5=>?_))|(refine wayT_dec (fun h5=>?_) (fun h5=>?_))|(refine wayF_dec (fun h5=>?_) (fun h5=>?_))|(refine wayT_ndec (fun h5=>?_) (fun h5=>?_))|(refine wayF_ndec (fun h5=>?_) (fun h5=>?_))|(refine way_not (fun h5=>?_) (fun h5=>?_))|(refine way (fun h5=>?_) (fun h5=>?_))|(refine wayT (fun h5=>?_) (fun h5=>?_))|(refine wayF (fun h5=>?_) (fun h5=>?_)))
 ·obtain ⟨x,hx⟩:=some_at h5
  simp -implicitDefEqProofs only [go_sem]
  rw [←sortSt_begin hx]
  refine loop_data (α:=Nat) (fun k=>⟨[(3,.own 0 0 l.length),(4,.d (.int .i64 i)),(5,.d (.int .i64 k))],[(0,some (.arr 1 (ints (sortSt l i k x))))]⟩)
   (fun k=>k≤i∧∀y∈(sortI (l.take i)).drop k,x<y) (fun k=>k) i rfl ⟨Nat.le_refl _,by rw [List.drop_of_length_le (by rw [sortI_len,List.length_take];omega)];simp⟩ ?_
  rintro k ⟨k1,k2⟩
  have hlen:=sortSt_len hx k1
  have hxk:=lget_ints (sortSt_at hx k1)
  by_cases hk:0<k
  ·obtain ⟨y,hy,hy2⟩:=sortSt_prev hx k1 hk
   have hyk:=lget_ints hy2
   have hp:=i64_pred hk (by omega)
   have dk:decide ((0:Int)<k)=true:=decide_eq_true (by omega)
   by_cases hxy:x<y
   ·have dxy:decide (x<y)=true:=decide_eq_true hxy
    have e2:lget (ints ((sortSt l i k x).set k y)) (k - 1)=[.int .i64 y]:=lget_ints (by rw [List.getElem?_set_ne (by omega)];exact hy2)
    simp -implicitDefEqProofs only [go_sem,dk,hp,hlen,hxk,hyk,dxy]
    repeat ((first|refine rq ?_|fail);simp -implicitDefEqProofs only [go_sem,dk,hp,hlen,hxk,hyk,dxy,ints_set,List.length_set,e2])
    have hsl:(sortI (l.take i)).length=i:=by rw [sortI_len,List.length_take];omega
    refine next_data (k - 1) ?_ ⟨by omega,fun z hz=>?_⟩ (by omega)
    ·have:=swap_eq (s:=sortI (l.take i)) (rest:=l.drop (i+1)) (x:=x) (y:=y) (k:=k) hk (by omega) hy
     rw [show sortSt l i k x=(sortI (l.take i)).take k++x::((sortI (l.take i)).drop k++l.drop (i+1)) from rfl,this]
     rfl
    ·have e3:(sortI (l.take i)).drop (k - 1)=y::(sortI (l.take i)).drop k:=by
      have:=drop_cons hy
      rw [show k - 1+1=k by omega] at this;exact this
     rw [e3] at hz
     rcases List.mem_cons.1 hz with rfl|hz
     ·exact hxy
     ·exact k2 z hz
   ·have dxy:decide (x<y)=false:=decide_eq_false hxy
    simp -implicitDefEqProofs only [go_sem,dk,hp,hlen,hxk,hyk,dxy]
    repeat ((first|refine rq ?_|fail);simp -implicitDefEqProofs only [go_sem,dk,hp,hlen,hxk,hyk,dxy])
    rw [sortSt_end hx k1 k2 (.inr ⟨y,hy,by omega⟩)]
    rw [wrap_succ (by simp only [LEN];omega)]
    exact next_data (i+1) rfl ⟨by omega,by omega⟩ (by omega)
  ·have dk:decide ((0:Int)<k)=false:=decide_eq_false (by omega)
   simp -implicitDefEqProofs only [go_sem,dk]
   repeat ((first|refine rq ?_|fail);simp -implicitDefEqProofs only [go_sem,dk])
   rw [sortSt_end hx k1 k2 (.inl (by omega))]
   rw [wrap_succ (by simp only [LEN];omega)]
   exact next_data (i+1) rfl ⟨by omega,by omega⟩ (by omega)
 ·have e1:l.take i=l:=List.take_of_length_le (by omega)
  have e2:l.drop i=[]:=List.drop_of_length_le (by omega)
  rw [e1,e2,List.append_nil]
  simp -implicitDefEqProofs only [go_sem]
theorem ks_Sorted {h:Heap} {tb:Nat} {K:OK} {args:List V} {ls:List Nat} (l:List Int) (hl:l.length≤4194304) (hg:toDs h args=some ([.sl (ints l)],ls))
  (hk:K (renV (bk tb ([(0,.arr 1 (ints (sortI l)))])) (.own 0 0 l.length)) (updN tb ([(0,.arr 1 (ints (sortI l)))]) ([(0,.arr 1 (ints (sortI l)))]))):callVC Go.Proofs.Tryz.prog h tb 105 args K:=
 call_free hg (cs_Sorted l hl) rfl (.inr ⟨flat_of rfl,by repeat (first|exact flatH_nil|refine flatH_cons (by first|exact flat_ints|exact flat_strs|exact flat_bls|exact flat_bys|exact flat_GPutS|exact flat_GPairS|exact flat_GFieldS|exact flat_GValueS) ?_)⟩) hk
end Go.Rx
namespace Go.Rx
open Go
attribute [local irreducible] Req Way WayG Sel callVC CallOK seqVC cVC loopVC nextK
section
variable {P:Program} {f:FuncId} {args outs:List V} {w:GWork} {d:GDisk} {y:D}
theorem fz_work (hc:CallOK P f args [] outs (ofW w).v (ofW w).h) (ho:(outs.all fun x=>match x with| .dead=>true|_=>false)=true):CallOK P f args [] outs (.d (.agg w.cells)) []:=
 freeze (ls:=[0,1,2,3,4]) hc (by simp [freezeV,toD,cD,cDs,hget,OW.v_eq,OW.h_eq,ofW,GWork.cells,strs_all,ints_all,GPutS_all]) ho
theorem fz_work2 (hc:CallOK P f args [] outs (.tup [(ofW w).v,.d y]) (ofW w).h) (ho:(outs.all fun x=>match x with| .dead=>true|_=>false)=true):CallOK P f args [] outs (.tup [.d (.agg w.cells),.d y]) []:=
 freeze (ls:=[0,1,2,3,4]) hc (by simp [freezeV,toDs,toD,cD,cDs,hget,OW.v_eq,OW.h_eq,ofW,GWork.cells,strs_all,ints_all,GPutS_all]) ho
theorem fz_disk (hc:CallOK P f args [] outs (.agg [.own 0 0 d.fPages.length,.own 1 0 d.fLate.length]) [(0,.arr 1 (strs d.fPages)),(1,.arr 2 (GPutS d.fLate))]) (ho:(outs.all fun x=>match x with| .dead=>true|_=>false)=true):CallOK P f args [] outs (.d (.agg d.cells)) []:=
 freeze (ls:=[0,1]) hc (by simp [freezeV,toD,cD,cDs,hget,GDisk.cells,strs_all,GPutS_all]) ho
end
theorem kdata {P:Program} {f:FuncId} {h:Heap} {tb:Nat} {K:OK} {args:List V} {xs:List D} {ls:List Nat} {res:V} (hc:CallOK P f (xs.map .d) [] (xs.map fun _=> .dead) res []) (hg:toDs h args=some (xs,ls)) (hf:ls=[])
  (hk:K (renV (bk tb []) res) []):callVC P h tb f args K:=call_free hg hc rfl (.inl hf) hk
theorem cs_PutNodeF (w:GWork) (n:GNode) (hw:smallW w) (h1:n.fKeys.length≤LEN) (h2:n.fVals.length≤LEN) (h3:n.fKids.length≤LEN):CallOK Go.Proofs.Tryz.prog 45 [.d (.agg w.cells),.d (.agg n.cells)] [] [.dead,.dead] (.tup [.d (.agg (putW w n).1.cells),.d (.int .i64 (putW w n).2)]) []:=
 fz_work2 (cs_PutNode w n hw h1 h2 h3) rfl
theorem cs_l08CopyF (w:GWork) (hw:smallW w):CallOK Go.Proofs.Tryz.prog 109 [.d (.agg w.cells)] [] [.dead] (.d (.agg w.cells)) []:=fz_work (cs_l08Copy w hw) rfl
theorem cs_l03CopyF (d:GDisk) (hd:smallD d):CallOK Go.Proofs.Tryz.prog 100 [.d (.agg d.cells)] [] [.dead] (.d (.agg d.cells)) []:=fz_disk (cs_l03Copy d hd) rfl
def syncSt (d:GDisk) (i:Nat):List Key:=syncGo d.fPages.length d.fPages (d.fLate.take i)
theorem syncSt_step {d:GDisk} {i:Nat} {q:GPut} (h:d.fLate[i]? =some q):syncSt d (i+1)=if 0≤q.fPage∧q.fPage≤(d.fPages.length:Int) - 1 then (syncSt d i).set q.fPage.toNat q.fText else syncSt d i:=by
 unfold syncSt;rw [take_snoc h,syncGo_snoc]
@[go_sem] def hr58:Hints
 |0=> [0]|1=> [1,2]|2=> [1,2,3]|3=> [1,2,3,4]|4=> [1,2,3,4]|5=> [1,2,3,4]|6=> [1,2,3,4]|7=> [2,3]|_=> []
@[go_sem] def hl58:Hints
 |3=> [1,2,3,4]|_=> []
attribute [go_sem] Go.Proofs.Tryz.results58
set_option maxRecDepth 100000 in
set_option maxHeartbeats 16000000 in
theorem cs_SyncDisk (d:GDisk) (hd:smallD d):CallOK Go.Proofs.Tryz.prog 58 [.d (.agg d.cells)] [] [.dead] (.d (.agg (syncD d).cells)) []:=by
 refine call_fr tysZOK mixedZ Go.Proofs.Tryz.func58 (by kernel_rfl) rfl (by kernel_rfl) hr58 hl58 (by simp [Go.Proofs.Tryz.ntmps58]) rfl ?_
 simp -implicitDefEqProofs only [go_sem,GDisk.cells]
 obtain ⟨h1,h2⟩:=hd
 repeat ((first|refine rq ?_|fail);simp -implicitDefEqProofs only [go_sem,GDisk.cells])
 have hz:syncSt d 0=d.fPages:=rfl
 refine loop_data (α:=Nat) (fun i=>⟨[(1,.ref 0 0),(2,.ref 1 0),(3,.ref 4 0),(4,.d (.int .i64 i))],[(0,some (.box [.d (.sl (strs d.fPages)),.d (.sl (GPutS d.fLate))])),(1,some (.box [.own 2 0 0,.own 3 0 0])),(2,some (.arr 1 [])),(3,some (.arr 2 [])),(4,some (.box [.own 5 0 d.fPages.length,.own 6 0 0])),(5,some (.arr 1 (strs (syncSt d i)))),(6,some (.arr 2 []))]⟩)
  (fun i=>i≤d.fLate.length) (fun i=>d.fLate.length - i) 0 rfl (Nat.zero_le _) ?_
 rintro i i1
 have hlen:(syncSt d i).length=d.fPages.length:=syncGo_len
 simp -implicitDefEqProofs only [go_sem]
 (first|(refine way_dec (fun h5=>?_) (fun h5=>?_))|(refine way_ndec (fun h5=>?_) (fun h5=>?_))|(refine wayT_dec (fun h5=>?_) (fun h5=>?_))|(refine wayF_dec (fun h5=>?_) (fun h5=>?_))|(refine wayT_ndec (fun h5=>?_) (fun h5=>?_))|(refine wayF_ndec (fun h5=>?_) (fun h5=>?_))|(refine way_not (fun h5=>?_) (fun h5=>?_))|(refine way (fun h5=>?_) (fun h5=>?_))|(refine wayT (fun h5=>?_) (fun h5=>?_))|(refine wayF (fun h5=>?_) (fun h5=>?_)))
 ·obtain ⟨q,hq⟩:=some_at h5
  have hw:IntKind.i64.wrap ((d.fPages.length:Int) - 1)=(d.fPages.length:Int) - 1:=wrap_int (by omega) (by omega)
  have hst:=syncSt_step hq
  by_cases hp:0≤q.fPage∧q.fPage≤(d.fPages.length:Int) - 1
  ·have dp:=decide_eq_true hp
   rw [if_pos hp] at hst
   have hcast:((q.fPage.toNat:Nat):Int)=q.fPage:=by omega
   obtain ⟨z,hz⟩:=some_at (l:=syncSt d i) (i:=q.fPage.toNat) (by omega)
   simp -implicitDefEqProofs only [go_sem,lget_GPutS hq,hw,hlen]
   repeat ((first|refine rq ?_|refine ks_in _ _ _ rfl ?_|fail);simp -implicitDefEqProofs only [go_sem,lget_GPutS hq,hw,hlen,dp,lget_strs hz,strs_set])
   rw [←hst,wrap_succ (by simp only [LEN];omega)]
   exact next_data (i+1) rfl (by omega) (by omega)
  ·have dp:=decide_eq_false hp
   rw [if_neg hp] at hst
   simp -implicitDefEqProofs only [go_sem,lget_GPutS hq,hw,hlen]
   repeat ((first|refine rq ?_|refine ks_in _ _ _ rfl ?_|fail);simp -implicitDefEqProofs only [go_sem,lget_GPutS hq,hw,hlen,dp])
   rw [←hst,wrap_succ (by simp only [LEN];omega)]
   exact next_data (i+1) rfl (by omega) (by omega)
 ·have he:syncSt d i=(syncD d).fPages:=by unfold syncSt;rw [List.take_of_length_le (by omega)];rfl
  have hl2:(syncD d).fPages.length=d.fPages.length:=syncD_pages
  rw [he]
  have ht:(strs (syncD d).fPages).take d.fPages.length=strs (syncD d).fPages:=by rw [←hl2,strs_all]
  simp -implicitDefEqProofs only [go_sem,ht,GDisk.cells]
  repeat ((first|refine rq ?_|fail);simp -implicitDefEqProofs only [go_sem,ht,GDisk.cells])
  rfl
theorem ks_SyncDisk {h:Heap} {tb:Nat} {K:OK} {args:List V} (d:GDisk) (hd:smallD d) (hg:toDs h args=some ([.agg d.cells],[]))
  (hk:K (renV (bk tb ([])) (.d (.agg (syncD d).cells))) (updN tb ([]) ([]))):callVC Go.Proofs.Tryz.prog h tb 58 args K:=
 call_free hg (cs_SyncDisk d hd) rfl (.inl rfl) hk
def notP (p:Int) (l:List Int):List Int:=l.filter fun q=> !decide (q=p)
theorem notP_len {p:Int} {l:List Int}:(notP p l).length≤l.length:=List.length_filter_le _ _
theorem notP_snoc {p q:Int} {l:List Int} {i:Nat} (h:l[i]? =some q):notP p (l.take (i+1))=notP p (l.take i)++(if q=p then [] else [q]):=by
 rw [take_snoc h,notP,List.filter_append];by_cases e:q=p<;>simp [notP,e]
theorem ints_snoc1 {m:List Int} {q:Int}:(ints m).take m.length++[[D.int .i64 q]]=ints (m++[q]):=by rw [ints_all];simp [ints]
@[go_sem] def hr234:Hints
 |0=> [0,1]|1=> [1,2,4]|2=> [1,2,4,5]|3=> [1,4,5]|4=> [4,5]|5=> [1,2,4,5]|6=> [1,2,4,5]|7=> [1,2,4,5,6]|8=> [1,2,4,5,6]|9=> [1,2,4,5,6]|10=> [1,2,4,5,6]|11=> [1,4,5]|12=> [4,5]|_=> []
@[go_sem] def hl234:Hints
 |7=> [1,2,4,5,6]|_=> []
attribute [go_sem] Go.Proofs.Tryz.results234
set_option maxRecDepth 100000 in
set_option maxHeartbeats 16000000 in
theorem cs_DropPage (w:GWork) (p:Int) (hw:smallW w):CallOK Go.Proofs.Tryz.prog 234 [.d (.agg w.cells),.d (.int .i64 p)] [] [.dead,.dead] (.d (.agg (dropS w p).cells)) []:=by
 refine call_fr tysZOK mixedZ Go.Proofs.Tryz.func234 (by kernel_rfl) rfl (by kernel_rfl) hr234 hl234 (by simp [Go.Proofs.Tryz.ntmps234]) rfl ?_
 simp -implicitDefEqProofs only [go_sem,GWork.cells]
 have hw':=hw
 obtain ⟨⟨h1,h2⟩,h3,h4,h5⟩:=hw'
 refine ks_l08Copy w hw (by simp -implicitDefEqProofs only [go_sem];first|done|rfl) ?_
 simp -implicitDefEqProofs only [go_sem,GWork.cells]
 repeat ((first|refine rq ?_|fail);simp -implicitDefEqProofs only [go_sem,GWork.cells])
 refine ks_In w.fFresh p (by simp only [LEN];omega) (by simp -implicitDefEqProofs only [go_sem];first|done|rfl) ?_
 unfold dropS
 by_cases hf:p∈w.fFresh
 ·have df:=decide_eq_true hf
  rw [if_pos hf]
  simp -implicitDefEqProofs only [go_sem,df]
  repeat ((first|refine rq ?_|fail);simp -implicitDefEqProofs only [go_sem,df])
  refine loop_data (α:=Nat) (fun i=>⟨[(1,.d (.int .i64 p)),(2,.ref 0 0),(4,.ref 1 0),(5,.ref 7 0),(6,.d (.int .i64 i))],[(0,some (.box [.d (.sl (strs w.fDisk.fPages)),.d (.sl (GPutS w.fDisk.fLate)),.d (.int .i64 w.fNext),.d (.sl (ints w.fUsable)),.d (.sl (ints w.fGone)),.d (.sl (ints w.fFresh))])),(1,some (.box [.own 2 0 0,.own 3 0 0,.d (.int .i64 0),.own 4 0 0,.own 5 0 0,.own 6 0 0])),(2,some (.arr 1 [])),(3,some (.arr 2 [])),(4,some (.arr 1 [])),(5,some (.arr 1 [])),(6,some (.arr 1 [])),(7,some (.box [.own 8 0 w.fDisk.fPages.length,.own 9 0 w.fDisk.fLate.length,.d (.int .i64 w.fNext),.own 10 0 w.fUsable.length,.own 11 0 w.fGone.length,.own 12 0 (notP p (w.fFresh.take i)).length])),(8,some (.arr 1 (strs w.fDisk.fPages))),(9,some (.arr 2 (GPutS w.fDisk.fLate))),(10,some (.arr 1 (ints w.fUsable))),(11,some (.arr 1 (ints w.fGone))),(12,some (.arr 1 (ints (notP p (w.fFresh.take i)))))]⟩)
   (fun i=>i≤w.fFresh.length) (fun i=>w.fFresh.length - i) 0 rfl (Nat.zero_le _) ?_
  rintro i i1
  have hnl:=notP_len (p:=p) (l:=w.fFresh.take i)
  simp only [List.length_take] at hnl
  simp -implicitDefEqProofs only [go_sem]
  (first|(refine way_dec (fun h6=>?_) (fun h6=>?_))|(refine way_ndec (fun h6=>?_) (fun h6=>?_))|(refine wayT_dec (fun h6=>?_) (fun h6=>?_))|(refine wayF_dec (fun h6=>?_) (fun h6=>?_))|(refine wayT_ndec (fun h6=>?_) (fun h6=>?_))|(refine wayF_ndec (fun h6=>?_) (fun h6=>?_))|(refine way_not (fun h6=>?_) (fun h6=>?_))|(refine way (fun h6=>?_) (fun h6=>?_))|(refine wayT (fun h6=>?_) (fun h6=>?_))|(refine wayF (fun h6=>?_) (fun h6=>?_)))
  ·obtain ⟨q,hq⟩:=some_at h6
   have hst:=notP_snoc (p:=p) hq
   by_cases hqp:q=p
   ·have dq:=decide_eq_true hqp
    rw [if_pos hqp,List.append_nil] at hst
    simp -implicitDefEqProofs only [go_sem,lget_ints hq,dq]
    repeat ((first|refine rq ?_|fail);simp -implicitDefEqProofs only [go_sem,lget_ints hq,dq])
    rw [←hst,wrap_succ (by simp only [LEN];omega)]
    exact next_data (i+1) rfl (by omega) (by omega)
   ·have dq:=decide_eq_false hqp
    rw [if_neg hqp] at hst
    simp -implicitDefEqProofs only [go_sem,lget_ints hq,dq]
    repeat ((first|refine rq ?_|fail);simp -implicitDefEqProofs only [go_sem,lget_ints hq,dq,ints_snoc1])
    rw [wrap_succ (by simp only [LEN];omega)]
    refine next_data (i+1) ?_ (by omega) (by omega)
    simp only [hst,List.length_append,List.length_cons,List.length_nil]
  ·have he:notP p (w.fFresh.take i)=w.fFresh.filter fun q=> !decide (q=p):=by rw [List.take_of_length_le (by omega)];rfl
   rw [he]
   simp -implicitDefEqProofs only [go_sem]
   repeat ((first|refine ks_Sorted (w.fUsable++[p]) (by simp;omega) (by simp -implicitDefEqProofs only [go_sem,ints_all1];first|done|rfl) ?_|refine rq ?_|fail);simp -implicitDefEqProofs only [go_sem,ints_snoc1])
   have hss:(ints (sortI (w.fUsable++[p]))).take (w.fUsable++[p]).length=ints (sortI (w.fUsable++[p])):=List.take_of_length_le (by simp [ints,sortI_len])
   simp -implicitDefEqProofs only [go_sem,hss]
   repeat ((first|refine rq ?_|fail);simp -implicitDefEqProofs only [go_sem,hss])
   rfl
 ·have df:=decide_eq_false hf
  rw [if_neg hf]
  simp -implicitDefEqProofs only [go_sem,df]
  repeat ((first|refine rq ?_|fail);simp -implicitDefEqProofs only [go_sem,df])
  rfl
theorem ks_DropPage {h:Heap} {tb:Nat} {K:OK} {args:List V} (w:GWork) (p:Int) (hw:smallW w) (hg:toDs h args=some ([.agg w.cells,.int .i64 p],[]))
  (hk:K (renV (bk tb ([])) (.d (.agg (dropS w p).cells))) (updN tb ([]) ([]))):callVC Go.Proofs.Tryz.prog h tb 234 args K:=
 call_free hg (cs_DropPage w p hw) rfl (.inl rfl) hk
end Go.Rx
namespace Go.Rx
open Go
attribute [local irreducible] Req Way WayG Sel callVC CallOK seqVC cVC loopVC nextK
theorem placeGo_snoc {key:Key}:∀ {l:List Key} {i:Nat} {out:Int} {k:Key},placeGo key i out (l++[k])=if kle k key then ((i+l.length:Nat):Int) else placeGo key i out l
 |[],i,out,k=>by simp [placeGo]
 |a::l,i,out,k=>by
  rw [List.cons_append,placeGo,placeGo_snoc,placeGo]
  simp [Nat.add_assoc,Nat.add_comm 1]
theorem placeI_snoc {l:List Key} {i:Nat} {k key:Key} (h:l[i]? =some k):placeI (l.take (i+1)) key=if kle k key then (i:Int) else placeI (l.take i) key:=by
 have hi:=(List.getElem?_eq_some_iff.1 h).1
 rw [take_snoc h,placeI,placeGo_snoc,List.length_take]
 rw [Nat.min_eq_left (by omega)];simp [placeI]
@[go_sem] def hr232:Hints
 |0=> [0,1]|1=> [1,2]|2=> [1,2,5]|3=> [1,2,5,6]|4=> [1,2,5,6]|5=> [1,2,5,6]|6=> [1,2,6]|7=> [5]|_=> []
@[go_sem] def hl232:Hints
 |3=> [1,2,5,6]|_=> []
attribute [go_sem] Go.Proofs.Tryz.results232
set_option maxRecDepth 100000 in
set_option maxHeartbeats 16000000 in
theorem cs_PlaceOf (n:GNode) (key:Key) (hn:n.fKeys.length≤LEN):CallOK Go.Proofs.Tryz.prog 232 [.d (.agg n.cells),.d (.str key)] [] [.dead,.dead] (.d (.int .i64 (placeI n.fKeys key))) []:=by
 refine call_of tysZOK mixedZ Go.Proofs.Tryz.func232 (by kernel_rfl) rfl (np:=[false,false]) (by kernel_rfl) hr232 hl232 (by simp [Go.Proofs.Tryz.ntmps232]) ?_
 simp -implicitDefEqProofs only [go_sem,GNode.cells]
 refine loop_data (α:=Nat) (fun i=>⟨[(1,.d (.str key)),(2,.ref 0 0),(5,.d (.int .i64 (placeI (n.fKeys.take i) key))),(6,.d (.int .i64 i))],[(0,some (.box [.d (.bool n.fLeaf),.d (.sl (strs n.fKeys)),.d (.sl (strs n.fVals)),.d (.sl (ints n.fKids))]))]⟩)
  (fun i=>i≤n.fKeys.length) (fun i=>n.fKeys.length - i) 0 rfl (Nat.zero_le _) ?_
 rintro i i1
 simp -implicitDefEqProofs only [go_sem]
 (first|(refine way_dec (fun h5=>?_) (fun h5=>?_))|(refine way_ndec (fun h5=>?_) (fun h5=>?_))|(refine wayT_dec (fun h5=>?_) (fun h5=>?_))|(refine wayF_dec (fun h5=>?_) (fun h5=>?_))|(refine wayT_ndec (fun h5=>?_) (fun h5=>?_))|(refine wayF_ndec (fun h5=>?_) (fun h5=>?_))|(refine way_not (fun h5=>?_) (fun h5=>?_))|(refine way (fun h5=>?_) (fun h5=>?_))|(refine wayT (fun h5=>?_) (fun h5=>?_))|(refine wayF (fun h5=>?_) (fun h5=>?_)))
 ·obtain ⟨k,hk⟩:=some_at h5
  have hst:=placeI_snoc (key:=key) hk
  by_cases hc:kle k key
  ·have dc:bLess key k=false:=hc
   rw [if_pos hc] at hst
   simp -implicitDefEqProofs only [go_sem,lget_strs hk,dc]
   repeat ((first|refine rq ?_|refine way (fun h=>absurd h (by simp)) (fun _=>?_)|refine way (fun _=>?_) (fun h=>absurd h (by simp))|fail);simp -implicitDefEqProofs only [go_sem,lget_strs hk,dc])
   rw [wrap_succ (by simp only [LEN] at hn ⊢;omega)]
   exact next_data (i+1) (by simp only [hst]) (by omega) (by omega)
  ·have dc:bLess key k=true:=not_kle.1 hc
   rw [if_neg hc] at hst
   simp -implicitDefEqProofs only [go_sem,lget_strs hk,dc]
   repeat ((first|refine rq ?_|refine way (fun h=>absurd h (by simp)) (fun _=>?_)|refine way (fun _=>?_) (fun h=>absurd h (by simp))|fail);simp -implicitDefEqProofs only [go_sem,lget_strs hk,dc])
   rw [←hst,wrap_succ (by simp only [LEN] at hn ⊢;omega)]
   exact next_data (i+1) rfl (by omega) (by omega)
 ·rw [List.take_of_length_le (by omega)]
  simp -implicitDefEqProofs only [go_sem]
theorem ks_PlaceOf {h:Heap} {tb:Nat} {K:OK} {args:List V} {ls:List Nat} (n:GNode) (key:Key) (hn:n.fKeys.length≤LEN) (hg:toDs h args=some ([.agg n.cells,.str key],ls))
  (hk:K (renV (bk tb ([])) (.d (.int .i64 (placeI n.fKeys key)))) (updN tb ([]) ([]))):callVC Go.Proofs.Tryz.prog h tb 232 args K:=
 call_free hg (cs_PlaceOf n key hn) rfl (.inr ⟨flat_of rfl,flatHB_of rfl⟩) hk
def kS (l:List GPair):List (List D):=strs (l.map (·.fKey))
def vS (l:List GPair):List (List D):=strs (l.map (·.fVal))
theorem lget_kS {l:List GPair} {i:Nat} {p:GPair} (h:l[i]? =some p):lget (kS l) i=[.str p.fKey]:=lget_strs (by rw [List.getElem?_map,h];rfl)
theorem lget_vS {l:List GPair} {i:Nat} {p:GPair} (h:l[i]? =some p):lget (vS l) i=[.str p.fVal]:=lget_strs (by rw [List.getElem?_map,h];rfl)
theorem kS_len {l:List GPair}:(kS l).length=l.length:=by simp [kS,strs]
theorem vS_len {l:List GPair}:(vS l).length=l.length:=by simp [vS,strs]
theorem kS_snoc {l:List GPair} {k v:Key}:(kS l).take l.length++[[D.str k]]=kS (l++[⟨k,v⟩]):=by
 rw [List.take_of_length_le (by rw [kS_len];omega)];simp [kS,strs]
theorem vS_snoc {l:List GPair} {k v:Key}:(vS l).take l.length++[[D.str v]]=vS (l++[⟨k,v⟩]):=by
 rw [List.take_of_length_le (by rw [vS_len];omega)];simp [vS,strs]
theorem kS_snocp {l:List GPair} {p:GPair}:(kS l).take l.length++[[D.str p.fKey]]=kS (l++[p]):=kS_snoc (v:=p.fVal)
theorem vS_snocp {l:List GPair} {p:GPair}:(vS l).take l.length++[[D.str p.fVal]]=vS (l++[p]):=vS_snoc (k:=p.fKey)
theorem kS_all {l:List GPair}:(kS l).take l.length=kS l:=List.take_of_length_le (by rw [kS_len];omega)
theorem vS_all {l:List GPair}:(vS l).take l.length=vS l:=List.take_of_length_le (by rw [vS_len];omega)
@[go_sem] def hr231:Hints
 |0=> [0,1,2]|1=> [1,2,3,6]|2=> [1,2,3,6,7]|3=> [1,2,3,6,7,8]|4=> [1,2,3,6,7,8]|5=> [1,2,3,6,7,8]|6=> [1,2,3,6,7,8]|7=> [1,2,3,6,7,8]|8=> [1,2,3,6,7]|9=> [1,2,3,6,7]|10=> [1,3,6,7]|11=> [1,3,6,7,9]|12=> [1,3,6,7,9]|13=> [1,3,6,7,9]|14=> [1,3,6,7,9]|15=> [1,3,6,7,9]|16=> [6,7]|_=> []
@[go_sem] def hl231:Hints
 |3=> [1,2,3,6,7,8]|11=> [1,3,6,7,9]|_=> []
attribute [go_sem] Go.Proofs.Tryz.results231
set_option maxRecDepth 100000 in
set_option maxHeartbeats 16000000 in
theorem cs_l09Set (n:GNode) (key val:Key) (hn:n.fVals.length=n.fKeys.length) (hl:n.fKeys.length≤1048576):CallOK Go.Proofs.Tryz.prog 231 [.d (.agg n.cells),.d (.str key),.d (.str val)] [] [.dead,.dead,.dead] (.d (.agg (leafB (mput (pairsOf n) key val)).cells)) []:=by
 refine call_fr tysZOK mixedZ Go.Proofs.Tryz.func231 (by kernel_rfl) rfl (by kernel_rfl) hr231 hl231 (by simp [Go.Proofs.Tryz.ntmps231]) rfl ?_
 have hK:n.fKeys=(pairsOf n).map (·.fKey):=by
  simp only [pairsOf,List.map_map,Function.comp_def,pairOf];exact (List.map_fst_zip (by omega)).symm
 have hV:n.fVals=(pairsOf n).map (·.fVal):=by
  simp only [pairsOf,List.map_map,Function.comp_def,pairOf];exact (List.map_snd_zip (by omega)).symm
 have hl':(pairsOf n).length=n.fKeys.length:=by rw [hK,List.length_map]
 rw [←hl'] at hl
 have eK:strs n.fKeys=kS (pairsOf n):=by rw [hK];rfl
 have eV:strs n.fVals=vS (pairsOf n):=by rw [hV];rfl
 have eL:n.fKeys.length=(pairsOf n).length:=hl'.symm
 simp -implicitDefEqProofs only [go_sem,GNode.cells,eK,eV]
 generalize pairsOf n=l at*
 repeat ((first|refine rq ?_|fail);simp -implicitDefEqProofs only [go_sem,GNode.cells])
 refine loop_data (α:=Nat) (fun i=>⟨[(1,.d (.str key)),(2,.d (.str val)),(3,.ref 0 0),(6,.ref 1 0),(7,.ref 5 0),(8,.d (.int .i64 i))],[(0,some (.box [.d (.bool n.fLeaf),.d (.sl (kS l)),.d (.sl (vS l)),.d (.sl (ints n.fKids))])),(1,some (.box [.d (.bool false),.own 2 0 0,.own 3 0 0,.own 4 0 0])),(2,some (.arr 1 [])),(3,some (.arr 1 [])),(4,some (.arr 1 [])),(5,some (.box [.d (.bool true),.own 6 0 (lesser (l.take i) key).length,.own 7 0 (lesser (l.take i) key).length,.own 8 0 0])),(6,some (.arr 1 (kS (lesser (l.take i) key)))),(7,some (.arr 1 (vS (lesser (l.take i) key)))),(8,some (.arr 1 []))]⟩)
  (fun i=>i≤l.length) (fun i=>l.length - i) 0 rfl (Nat.zero_le _) ?_
 rintro i i1
 have hkl:=lesser_len (l:=l.take i) (key:=key)
 simp only [List.length_take] at hkl
 simp -implicitDefEqProofs only [go_sem,kS_len,vS_len]
 (first|(refine way_dec (fun h5=>?_) (fun h5=>?_))|(refine way_ndec (fun h5=>?_) (fun h5=>?_))|(refine wayT_dec (fun h5=>?_) (fun h5=>?_))|(refine wayF_dec (fun h5=>?_) (fun h5=>?_))|(refine wayT_ndec (fun h5=>?_) (fun h5=>?_))|(refine wayF_ndec (fun h5=>?_) (fun h5=>?_))|(refine way_not (fun h5=>?_) (fun h5=>?_))|(refine way (fun h5=>?_) (fun h5=>?_))|(refine wayT (fun h5=>?_) (fun h5=>?_))|(refine wayF (fun h5=>?_) (fun h5=>?_)))
 ·obtain ⟨p,hp⟩:=some_at h5
  have hst:=lesser_snoc (key:=key) hp
  cases hc:bLess p.fKey key
  ·rw [if_neg (by rw [hc];simp),List.append_nil] at hst
   simp -implicitDefEqProofs only [go_sem,kS_len,vS_len,lget_kS hp,lget_vS hp,hc]
   repeat ((first|refine rq ?_|refine way (fun h=>absurd h (by simp)) (fun _=>?_)|refine way (fun _=>?_) (fun h=>absurd h (by simp))|fail);simp -implicitDefEqProofs only [go_sem,kS_len,vS_len,lget_kS hp,lget_vS hp,hc])
   rw [←hst,wrap_succ (by simp only [LEN];omega)]
   exact next_data (i+1) rfl (by omega) (by omega)
  ·rw [if_pos hc] at hst
   simp -implicitDefEqProofs only [go_sem,kS_len,vS_len,lget_kS hp,lget_vS hp,hc]
   repeat ((first|refine rq ?_|refine way (fun h=>absurd h (by simp)) (fun _=>?_)|refine way (fun _=>?_) (fun h=>absurd h (by simp))|fail);simp -implicitDefEqProofs only [go_sem,kS_len,vS_len,lget_kS hp,lget_vS hp,hc,kS_snocp,vS_snocp])
   rw [wrap_succ (by simp only [LEN];omega)]
   refine next_data (i+1) ?_ (by omega) (by omega)
   simp only [hst,List.length_append,List.length_cons,List.length_nil]
 ·have hi:i=l.length:=by omega
  subst hi
  have hk2:=lesser_len (l:=l) (key:=key)
  rw [List.take_length]
  simp -implicitDefEqProofs only [go_sem,kS_len,vS_len]
  repeat ((first|refine rq ?_|fail);simp -implicitDefEqProofs only [go_sem,kS_len,vS_len,kS_snoc (v:=val),vS_snoc (k:=key)])
  refine loop_data (α:=Nat) (fun i=>⟨[(1,.d (.str key)),(3,.ref 0 0),(6,.ref 1 0),(7,.ref 5 0),(9,.d (.int .i64 i))],[(0,some (.box [.d (.bool n.fLeaf),.d (.sl (kS l)),.d (.sl (vS l)),.d (.sl (ints n.fKids))])),(1,some (.box [.d (.bool false),.own 2 0 0,.own 3 0 0,.own 4 0 0])),(2,some (.arr 1 [])),(3,some (.arr 1 [])),(4,some (.arr 1 [])),(5,some (.box [.d (.bool true),.own 6 0 (mput1 l key val i).length,.own 7 0 (mput1 l key val i).length,.own 8 0 0])),(6,some (.arr 1 (kS (mput1 l key val i)))),(7,some (.arr 1 (vS (mput1 l key val i)))),(8,some (.arr 1 []))]⟩)
   (fun i=>i≤l.length) (fun i=>l.length - i) 0 (by simp [mput1,greater]) (Nat.zero_le _) ?_
  rintro i h7
  have hml:=mput1_len (key:=key) (val:=val) (i:=i) hl
  simp -implicitDefEqProofs only [go_sem,kS_len,vS_len]
  (first|(refine way_dec (fun h8=>?_) (fun h8=>?_))|(refine way_ndec (fun h8=>?_) (fun h8=>?_))|(refine wayT_dec (fun h8=>?_) (fun h8=>?_))|(refine wayF_dec (fun h8=>?_) (fun h8=>?_))|(refine wayT_ndec (fun h8=>?_) (fun h8=>?_))|(refine wayF_ndec (fun h8=>?_) (fun h8=>?_))|(refine way_not (fun h8=>?_) (fun h8=>?_))|(refine way (fun h8=>?_) (fun h8=>?_))|(refine wayT (fun h8=>?_) (fun h8=>?_))|(refine wayF (fun h8=>?_) (fun h8=>?_)))
  ·obtain ⟨p,hp⟩:=some_at h8
   cases hc:bLess key p.fKey
   ·have hst:mput1 l key val (i+1)=mput1 l key val i:=by simp [mput1,greater_snoc hp,hc]
    simp -implicitDefEqProofs only [go_sem,kS_len,vS_len,lget_kS hp,lget_vS hp,hc]
    repeat ((first|refine rq ?_|refine way (fun h=>absurd h (by simp)) (fun _=>?_)|refine way (fun _=>?_) (fun h=>absurd h (by simp))|fail);simp -implicitDefEqProofs only [go_sem,kS_len,vS_len,lget_kS hp,lget_vS hp,hc])
    rw [←hst,wrap_succ (by simp only [LEN];omega)]
    exact next_data (i+1) rfl (by omega) (by omega)
   ·have hst:mput1 l key val (i+1)=mput1 l key val i++[p]:=by simp [mput1,greater_snoc hp,hc]
    simp -implicitDefEqProofs only [go_sem,kS_len,vS_len,lget_kS hp,lget_vS hp,hc]
    repeat ((first|refine rq ?_|refine way (fun h=>absurd h (by simp)) (fun _=>?_)|refine way (fun _=>?_) (fun h=>absurd h (by simp))|fail);simp -implicitDefEqProofs only [go_sem,kS_len,vS_len,lget_kS hp,lget_vS hp,hc,kS_snocp,vS_snocp])
    rw [wrap_succ (by simp only [LEN];omega)]
    refine next_data (i+1) ?_ (by omega) (by omega)
    simp only [hst,List.length_append,List.length_cons,List.length_nil]
  ·have hi:i=l.length:=by omega
   subst hi
   have hm:mput1 l key val l.length=mput l key val:=by rw [mput_eq];simp [mput1]
   rw [hm]
   simp -implicitDefEqProofs only [go_sem,kS_all,vS_all]
   repeat ((first|refine rq ?_|fail);simp -implicitDefEqProofs only [go_sem,kS_all,vS_all])
   rfl
theorem ks_l09Set {h:Heap} {tb:Nat} {K:OK} {args:List V} (n:GNode) (key val:Key) (hn:n.fVals.length=n.fKeys.length) (hl:n.fKeys.length≤1048576) (hg:toDs h args=some ([.agg n.cells,.str key,.str val],[]))
  (hk:K (renV (bk tb ([])) (.d (.agg (leafB (mput (pairsOf n) key val)).cells))) (updN tb ([]) ([]))):callVC Go.Proofs.Tryz.prog h tb 231 args K:=
 call_free hg (cs_l09Set n key val hn hl) rfl (.inl rfl) hk
end Go.Rx
