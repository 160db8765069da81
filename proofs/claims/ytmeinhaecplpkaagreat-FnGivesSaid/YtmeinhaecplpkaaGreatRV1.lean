/-
  Part V1: lemmas on an evaluator over plain data of the model's code, plain laws on lists and numbers, or contracts of functions of the program; each lemma names its conditions.
-/
import Derived.Test.YtmeinhaecplpkaaGreatRG3
import Derived.Test.YtmeinhaecplpkaaGreatRA5
import Derived.Test.YtmeinhaecplpkaaGreatRP5

set_option linter.unusedSimpArgs false
set_option linter.unusedVariables false
namespace Go.Rx
open Go
attribute [local irreducible] Req Way WayG Sel callVC CallOK seqVC cVC loopVC nextK
@[go_sem] def hr18:Hints
 |0=> [0,1]|1=> [0,1]|2=> [0,1,5]|3=> [0,1,5]|4=> [0,1,5]|5=> []|6=> []|_=> []
@[go_sem] def hl18:Hints
 |2=> [0,1,5]|_=> []
attribute [go_sem] Go.Proofs.Tryz.results18
set_option maxRecDepth 100000 in
set_option maxHeartbeats 16000000 in
theorem cl_in (l:List Int) (x:Int) (hl:l.length≤LEN):CallOK Go.Proofs.Tryz.prog 18 [.d (.sl (ints l)),.d (.int .i64 x)] [] [.dead,.dead] (.d (.bool (decide (x∈l)))) []:=by
 refine call_of tysZOK mixedZ Go.Proofs.Tryz.func18 (by kernel_rfl) rfl (np:=[false,false]) (by kernel_rfl) hr18 hl18 (by simp [Go.Proofs.Tryz.ntmps18]) ?_
 simp -implicitDefEqProofs only [go_sem]
 refine loop_data (α:=Nat) (fun i=>⟨[(0,.d (.sl (ints l))),(1,.d (.int .i64 x)),(5,.d (.int .i64 i))],[]⟩)
  (fun i=>i≤l.length∧x∉l.take i) (fun i=>l.length - i) 0 rfl ⟨Nat.zero_le _,by simp⟩ ?_
 rintro i ⟨h2,h3⟩
 simp -implicitDefEqProofs only [go_sem]
 (first|(refine way_dec (fun h5=>?_) (fun h5=>?_))|(refine way_ndec (fun h5=>?_) (fun h5=>?_))|(refine wayT_dec (fun h5=>?_) (fun h5=>?_))|(refine wayF_dec (fun h5=>?_) (fun h5=>?_))|(refine wayT_ndec (fun h5=>?_) (fun h5=>?_))|(refine wayF_ndec (fun h5=>?_) (fun h5=>?_))|(refine way_not (fun h5=>?_) (fun h5=>?_))|(refine way (fun h5=>?_) (fun h5=>?_))|(refine wayT (fun h5=>?_) (fun h5=>?_))|(refine wayF (fun h5=>?_) (fun h5=>?_)))
 ·obtain ⟨p,hp⟩:=some_at h5
  simp -implicitDefEqProofs only [go_sem,lget_ints hp]
  repeat ((first|refine rq ?_|fail);simp -implicitDefEqProofs only [go_sem,lget_ints hp])
  (first|(refine way_dec (fun h6=>?_) (fun h6=>?_))|(refine way_ndec (fun h6=>?_) (fun h6=>?_))|(refine wayT_dec (fun h6=>?_) (fun h6=>?_))|(refine wayF_dec (fun h6=>?_) (fun h6=>?_))|(refine wayT_ndec (fun h6=>?_) (fun h6=>?_))|(refine wayF_ndec (fun h6=>?_) (fun h6=>?_))|(refine way_not (fun h6=>?_) (fun h6=>?_))|(refine way (fun h6=>?_) (fun h6=>?_))|(refine wayT (fun h6=>?_) (fun h6=>?_))|(refine wayF (fun h6=>?_) (fun h6=>?_)))
  ·simp -implicitDefEqProofs only [go_sem]
   have:x∈l:=h6▸List.mem_of_getElem? hp
   simp [this]
  ·simp -implicitDefEqProofs only [go_sem]
   rw [wrap_succ (by omega)]
   refine next_data (i+1) rfl ⟨by omega,fun hm=>?_⟩ (by omega)
   rcases mem_takeS hp hm with hm|rfl
   ·exact h3 hm
   ·exact h6 rfl
 ·simp -implicitDefEqProofs only [go_sem]
  rw [List.take_of_length_le (by omega)] at h3
  simp [h3]
theorem kl_in {h:Heap} {tb:Nat} {K:OK} {args:List V} {ls:List Nat} (l:List Int) (x:Int) (hl:l.length≤LEN) (hg:toDs h args=some ([.sl (ints l),.int .i64 x],ls))
  (hk:K (renV (bk tb ([])) (.d (.bool (decide (x∈l))))) (updN tb ([]) ([]))):callVC Go.Proofs.Tryz.prog h tb 18 args K:=
 call_free hg (cl_in l x hl) rfl (.inr ⟨flat_of rfl,flatHB_of rfl⟩) hk
theorem fz_ow2 {P:Program} {f:FuncId} {args outs:List V} {o:OW} {y:D} (hc:CallOK P f args [] outs (.tup [o.v,.d y]) o.h) (ho:(outs.all fun x=>match x with| .dead=>true|_=>false)=true):CallOK P f args [] outs (.tup [.d (.agg o.work.cells),.d y]) []:=
 freeze (ls:=[0,1,2,3,4]) hc (by simp [freezeV,toDs,toD,cD,cDs,hget,OW.v_eq,OW.h_eq,OW.work,GWork.cells,strs_all,ints_all,GPutS_all,ints_tail]) ho
theorem ci_GivePageF (w:GWork) (hw:smallW w):CallOK Go.Proofs.Tryz.prog 17 [.d (.agg w.cells)] [] [.dead] (.tup [.d (.agg (giveP w).1.cells),.d (.int .i64 (giveP w).2)]) []:=by
 have h:=fz_ow2 (ci_GivePage w hw) rfl
 have e:=giveO_eq (w:=w)
 rw [←e]
 exact h
@[go_sem] def hr3:Hints
 |0=> [0]|1=> [0]|2=> []|3=> [0]|4=> [3]|5=> [3,4]|6=> [3,4,5]|7=> [3,4,5,6]|8=> [3,4,5,6,7]|9=> [3,4,5,6,7]|10=> [3,4,5,6,7]|11=> [3,4,5,6,7,8,9]|12=> [3,4,5,6,7,8,9]|13=> []|14=> [3,4,5,6,7,8,9]|15=> [3,4,5,6,7,8]|16=> [3,4,5,6]|17=> [3,4,5,6,11]|_=> []
@[go_sem] def hl3:Hints
 |8=> [3,4,5,6,7]|_=> []
attribute [go_sem] Go.Proofs.Tryz.results3
set_option maxRecDepth 100000 in
set_option maxHeartbeats 16000000 in
theorem cl_Gives (code:List UInt8) (hl:code.length≤1048576):CallOK Go.Proofs.Tryz.prog 3 [.d (.sl (bys code))] [] [.dead] (.d (.bool true)) []:=by
 refine call_of tysZOK mixedZ Go.Proofs.Tryz.func3 (by kernel_rfl) rfl (np:=[false]) (by kernel_rfl) hr3 hl3 (by simp [Go.Proofs.Tryz.ntmps3]) ?_
 obtain ⟨s,ps0,pg0,next,view,ps,pg,hs,he,hx⟩:=txnD_inv (c:=Cur.new code)
 have hW:=hx.txs.ok
 have hB:=hs.disk.pages_len
 have hbig:decide ((1048576:Int)<(code.length:Int))=false:=decide_eq_false (by omega)
 simp -implicitDefEqProofs only [go_sem]
 refine kl_big code rfl ?_
 simp -implicitDefEqProofs only [go_sem,hbig,GTxn.cells]
 repeat ((first|refine rq ?_|refine wy ?_|refine wn ?_|refine gy ?_|refine gn ?_|refine ks_DrawTxn code hl rfl ?_|fail);simp -implicitDefEqProofs only [go_sem,hbig,GTxn.cells])
 generalize (txnD (Cur.new code)).1=t at hx hW ⊢
 have hfew:=giveL_few hW
 have hsm:=hW.smallW hB
 have hdk:=hW.disk.2.1
 have hn2:=hW.next2
 have hnl:=hW.nextL
 have hgl:= @giveL_len t.fWork
 refine loop_data (α:=Nat) (fun i=>⟨[(3,.ref 0 0),(4,.ref 1 0),(5,.d (.int .i64 t.fWork.fUsable.length)),(6,.own 2 0 ((giveL t.fWork).take i).length),(7,.d (.int .i64 i))],[(0,some (.box (tdV t))),(1,some (.box [.d (.sl (strs (giveN t.fWork i).fDisk.fPages)),.d (.sl (GPutS (giveN t.fWork i).fDisk.fLate)),.d (.int .i64 (giveN t.fWork i).fNext),.d (.sl (ints (giveN t.fWork i).fUsable)),.d (.sl (ints (giveN t.fWork i).fGone)),.d (.sl (ints (giveN t.fWork i).fFresh))])),(2,some (.arr 1 (ints ((giveL t.fWork).take i))))]⟩)
  (fun i=>i≤(giveL t.fWork).length) (fun i=>(giveL t.fWork).length - i) 0 (by rw [giveN_zero];rfl) (Nat.zero_le _) ?_
 rintro i i1
 have hus:=giveN_small hW hB (i:=i)
 have hpages:(giveN t.fWork i).fDisk.fPages.length=t.fWork.fDisk.fPages.length:=rfl
 have d50:decide ((i:Int)<50)=true:=decide_eq_true (by omega)
 have hi1:IntKind.i64.wrap ((i:Int)+1)=((i+1:Nat):Int):=wrap_succ (by simp only [LEN];omega)
 have htl:((giveL t.fWork).take i).length=i:=by rw [List.length_take];omega
 by_cases hil:i<(giveL t.fWork).length
 ·obtain ⟨p,hp⟩:=some_at (l:=giveL t.fWork) (i:=i) (by omega)
  obtain ⟨q1,q2,q3,q4,q5,q6⟩:=giveL_page hW hp
  have hstep:=giveN_step hW hp
  have hpages2:(giveN t.fWork (i+1)).fDisk.fPages.length=t.fWork.fDisk.fPages.length:=rfl
  have hfr:(giveN t.fWork (i+1)).fFresh.length≤1000:=by simp only [giveN,List.length_append,List.length_take];have:=hW.few.1;omega
  have hgp:=ci_GivePageF (giveN t.fWork i) hus
  rw [hstep] at hgp
  have hsn:(giveL t.fWork).take (i+1)=(giveL t.fWork).take i++[p]:=take_snoc hp
  have d1:decide (p=0)=false:=decide_eq_false (by omega)
  have d2:decide (p∈(giveL t.fWork).take i)=false:=decide_eq_false q1
  have d3:decide (p∈t.fWork.fFresh)=false:=decide_eq_false q2
  have d4:decide (p<2)=false:=decide_eq_false (by omega)
  have d5:decide ((t.fWork.fDisk.fPages.length:Int)≤p)=false:=decide_eq_false (by omega)
  have d6:decide (p∈(giveN t.fWork (i+1)).fFresh)=true:=decide_eq_true q5
  generalize hu2:giveN t.fWork (i+1)=u2 at hgp hpages2 hfr d6 ⊢
  generalize giveN t.fWork i=u at hgp hpages hus ⊢
  by_cases hiu:i<t.fWork.fUsable.length
  ·have d7:decide ((i:Int)<(t.fWork.fUsable.length:Int))=true:=decide_eq_true (by omega)
   have d8:decide (p=p)=true:=decide_eq_true rfl
   simp -implicitDefEqProofs only [go_sem,tdV_eq,d50,d1,d2,d3,d4,d5,d6,hpages,hpages2,GWork.cells,d7,lget_ints (q6 hiu),d8]
   repeat ((first|refine rq ?_|refine wy ?_|refine wn ?_|refine gy ?_|refine gn ?_|refine kdata (xs:=[.agg u.cells]) hgp (by simp -implicitDefEqProofs only [go_sem,GWork.cells_eq];first|done|rfl) rfl ?_|refine kl_in ((giveL t.fWork).take i) p (by simp only [LEN];omega) (ls:=[2]) (by simp -implicitDefEqProofs only [go_sem,ints_all];first|done|rfl) ?_|refine kl_in t.fWork.fFresh p (by have:=hsm.2.2.2;have:=hsm.1.2;simp only [LEN];omega) (ls:=[]) (by simp -implicitDefEqProofs only [go_sem];first|done|rfl) ?_|refine kl_in u2.fFresh p (by simp only [LEN];omega) (ls:=[]) (by simp -implicitDefEqProofs only [go_sem];first|done|rfl) ?_|fail);simp -implicitDefEqProofs only [go_sem,tdV_eq,d50,d1,d2,d3,d4,d5,d6,hpages,hpages2,GWork.cells,d7,lget_ints (q6 hiu),d8])
   rw [hi1]
   refine next_data (i+1) ?_ (by omega) (by omega)
   simp [hsn,hu2,ints,tdV_eq]
  ·have d7:decide ((i:Int)<(t.fWork.fUsable.length:Int))=false:=decide_eq_false (by omega)
   simp -implicitDefEqProofs only [go_sem,tdV_eq,d50,d1,d2,d3,d4,d5,d6,hpages,hpages2,GWork.cells,d7]
   repeat ((first|refine rq ?_|refine wy ?_|refine wn ?_|refine gy ?_|refine gn ?_|refine kdata (xs:=[.agg u.cells]) hgp (by simp -implicitDefEqProofs only [go_sem,GWork.cells_eq];first|done|rfl) rfl ?_|refine kl_in ((giveL t.fWork).take i) p (by simp only [LEN];omega) (ls:=[2]) (by simp -implicitDefEqProofs only [go_sem,ints_all];first|done|rfl) ?_|refine kl_in t.fWork.fFresh p (by have:=hsm.2.2.2;have:=hsm.1.2;simp only [LEN];omega) (ls:=[]) (by simp -implicitDefEqProofs only [go_sem];first|done|rfl) ?_|refine kl_in u2.fFresh p (by simp only [LEN];omega) (ls:=[]) (by simp -implicitDefEqProofs only [go_sem];first|done|rfl) ?_|fail);simp -implicitDefEqProofs only [go_sem,tdV_eq,d50,d1,d2,d3,d4,d5,d6,hpages,hpages2,GWork.cells,d7])
   rw [hi1]
   refine next_data (i+1) ?_ (by omega) (by omega)
   simp [hsn,hu2,ints,tdV_eq]
 ·obtain rfl:i=(giveL t.fWork).length:=by omega
  obtain ⟨r1,r2,r3⟩:=giveN_stop hW
  have hgp:=ci_GivePageF (giveN t.fWork (giveL t.fWork).length) hus
  rw [r1] at hgp
  have hul:(giveN t.fWork (giveL t.fWork).length).fUsable.length=0:=by rw [r2];rfl
  generalize giveN t.fWork (giveL t.fWork).length=u at hgp hpages hus r3 hul ⊢
  have d1:decide ((0:Int)=0)=true:=rfl
  have d2:decide ((u.fUsable.length:Int)=0)=true:=decide_eq_true (by omega)
  have d3:decide (u.fNext=(t.fWork.fDisk.fPages.length:Int))=true:=decide_eq_true r3
  have d4:decide (((giveL t.fWork).length:Int)=(t.fWork.fUsable.length:Int)+(t.fWork.fDisk.fPages.length:Int) - t.fWork.fNext)=true:=decide_eq_true (by omega)
  have w1:IntKind.i64.wrap ((t.fWork.fUsable.length:Int)+(t.fWork.fDisk.fPages.length:Int))=(t.fWork.fUsable.length:Int)+(t.fWork.fDisk.fPages.length:Int):=by have:=hsm.2.1;exact wrap_int (by omega) (by omega)
  have w2:IntKind.i64.wrap ((t.fWork.fUsable.length:Int)+(t.fWork.fDisk.fPages.length:Int) - t.fWork.fNext)=(t.fWork.fUsable.length:Int)+(t.fWork.fDisk.fPages.length:Int) - t.fWork.fNext:=by have:=hsm.2.1;exact wrap_int (by omega) (by omega)
  simp -implicitDefEqProofs only [go_sem,tdV_eq,d50,d1,d2,d3,d4,w1,w2,htl,hpages,GWork.cells]
  repeat ((first|refine rq ?_|refine wy ?_|refine wn ?_|refine gy ?_|refine gn ?_|refine kdata (xs:=[.agg u.cells]) hgp (by simp -implicitDefEqProofs only [go_sem,GWork.cells_eq];first|done|rfl) rfl ?_|fail);simp -implicitDefEqProofs only [go_sem,tdV_eq,d50,d1,d2,d3,d4,w1,w2,htl,hpages,GWork.cells])
  try rfl
set_option maxRecDepth 100000 in
set_option maxHeartbeats 16000000 in
theorem clb_Gives (code:List UInt8) (hl:code.length≤LEN) (hb:¬code.length≤1048576):CallOK Go.Proofs.Tryz.prog 3 [.d (.sl (bys code))] [] [.dead] (.d (.bool true)) []:=by
 refine call_of tysZOK mixedZ Go.Proofs.Tryz.func3 (by kernel_rfl) rfl (np:=[false]) (by kernel_rfl) hr3 hl3 (by simp [Go.Proofs.Tryz.ntmps3]) ?_
 have hbig:decide ((1048576:Int)<(code.length:Int))=true:=decide_eq_true (by omega)
 simp -implicitDefEqProofs only [go_sem]
 refine kl_big code rfl ?_
 simp -implicitDefEqProofs only [go_sem,hbig]
 repeat ((first|refine rq ?_|refine wy ?_|refine wn ?_|refine gy ?_|refine gn ?_|fail);simp -implicitDefEqProofs only [go_sem,hbig])
theorem cl_GivesA (code:List UInt8) (h:code.length≤LEN∧∀x∈code,True):CallOK Go.Proofs.Tryz.prog 3 [.d (.sl (bys code))] [] [.dead] (.d (.bool true)) []:=
 if hl:code.length≤1048576 then cl_Gives code hl else clb_Gives code h.1 hl
end Go.Rx
